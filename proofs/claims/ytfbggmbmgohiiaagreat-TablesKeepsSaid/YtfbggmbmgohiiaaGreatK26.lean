/- Texts of this seat, one behind the other: TnI, TnJ, TnK, TnP, ToI. No condition beyond theirs. -/
import Derived.Test.YtfbggmbmgohiiaaGreatK05
import Derived.Test.YtfbggmbmgohiiaaGreatK13
import Derived.Test.YtfbggmbmgohiiaaGreatK21
import Derived.Test.YtfbggmbmgohiiaaGreatK24
import Derived.Laws.MakeOwn
set_option linter.unusedSimpArgs false
set_option linter.unusedVariables false
set_option maxHeartbeats 4000000
set_option maxRecDepth 100000
namespace Go.Proofs.YtfbggmbmgohiiaaGreat.tm
open Go.RowKit mem names
theorem NewAt.touch {w W0 w1 w':World} {F S:Nat→Prop} {n:Nat} {u:Value} {l:List (Tm n)} (h:NewAt W0 w1 F n u l) (ht:TouchB S w1 w') (hS:∀ g,F g→¬ S g) (hb:Below w.heap.size w w') (hw:w.heap.size ≤ W0.heap.size):NewAt w w' F n u l:=by
 have hs:∀ g,F g→w'.heap[g]? = w1.heap[g]?:=fun g hg=>ht.block g (h.inr g hg).2 (hS g hg)
 refine ⟨h.items.mono hs (fun _ h=>h),fun g hg=>?_,h.typed.same hs,fun g hg=>?_,hb⟩
 ·have:=h.inr g hg
  have:=ht.size
  omega
 ·exact (h.ptr g (by omega)).mono hs (fun _ h=>h)
def LPost {n:Nat} (l:List (Tm n)) (w:World) (e:Ending) (w':World):Prop:=∃ F g,e = .returned (.slice (some ⟨g,0,none⟩) l.length l.length)∧NewAt w w' F n (.slice (some ⟨g,0,none⟩) l.length l.length) l∧F g
def TPost {n:Nat} (f:TF) (l:List (Tm n)) (w:World) (e:Ending) (w':World):Prop:=∃ F g,e = .returned (aggV f (.slice (some ⟨g,0,none⟩) l.length l.length))∧NewAt w w' F n (.slice (some ⟨g,0,none⟩) l.length l.length) l∧F g
theorem copyT {n:Nat} (x:TF) (p:Option Addr) (len c:Nat) (l:List (Tm n)) (w:World) (hC:∀ W,Below w.heap.size w W→Calls Tryz.prog 84 #[.slice p len c] W (LPost l W)) :
 Calls Tryz.prog 51 #[aggV x (.slice p len c)] w (TPost x l w):=by
 have HC:=Lib.hid hC
 clear hC
 obtain ⟨k,i,gg,nm,fn,ar,by_,bt⟩:=x
 unfold aggV
 dsimp only
 go_enter Tryz.func51,Tryz.ntmps51
 go_wp2_with fail
 obtain ⟨hN1,hN2,hbw,hsz⟩:=boxes2 w ⟨k,i,gg,nm,fn,ar,by_,bt⟩ zeroF (.slice p len c) nilV
 unfold cells9 zeroF nilV at hN1 hN2 hbw hsz
 dsimp only at hN1 hN2 hbw hsz
 generalize ((w.alloc (.cells #[.int .i64 k,.int .i64 i,.int .i64 gg,.string nm,.string fn,.int .i64 ar,.slice p len c,.string by_,.int .i64 bt] 24)).alloc (.cells #[.int .i64 0,.int .i64 0,.int .i64 0,.string ⟨#[]⟩,.string ⟨#[]⟩,.int .i64 0,.slice none 0 0,.string ⟨#[]⟩,.int .i64 0] 24)) = W0 at *
 have HZ:Hid (W0.heap.size = w.heap.size + 2):=Lib.hid hsz
 have HZ1:w.heap.size < W0.heap.size:=by omega
 have HZ2:w.heap.size + 1 < W0.heap.size:=by omega
 clear hsz
 have HN1:=Lib.hid hN1
 have HN2:=Lib.hid hN2
 obtain ⟨x0,x1,x2,x3,x4,x5,x6,x7,x8,xz⟩:=hN1
 obtain ⟨y0,y1,y2,y3,y4,y5,y6,y7,y8,yz⟩:=hN2
 dsimp only at x0 x1 x2 x3 x4 x5 x6 x7 x8 y0 y1 y2 y3 y4 y5 y6 y7 y8
 have HCW:=Lib.hid (HC.out W0 hbw)
 clear HC
 go_wp2_with fail
 refine HCW.out.mono ?_
 rintro e w1 ⟨F,g,rfl,hnew,hFg⟩
 have HNew:=Lib.hid hnew
 have hb:=hnew.below
 have HM1:=Lib.hid (HN1.out.below hb HZ1)
 have HM2:=Lib.hid (HN2.out.below hb HZ2)
 have hzz1:w.heap.size < w1.heap.size:=Nat.lt_of_lt_of_le HZ1 hb.size
 have hzz2:w.heap.size + 1 < w1.heap.size:=Nat.lt_of_lt_of_le HZ2 hb.size
 have hbb:=hbw.trans (hb.mono hbw.size)
 clear x0 x1 x2 x3 x4 x5 x6 x7 x8 xz y0 y1 y2 y3 y4 y5 y6 y7 y8 yz hnew hb
 obtain ⟨x0,x1,x2,x3,x4,x5,x6,x7,x8,xz⟩:=HM1.out
 obtain ⟨y0,y1,y2,y3,y4,y5,y6,y7,y8,yz⟩:=HM2.out
 dsimp only at x0 x1 x2 x3 x4 x5 x6 x7 x8 y0 y1 y2 y3 y4 y5 y6 y7 y8
 go_wp2_with fail
 have hz2:=HZ.out
 have hinr:=HNew.out.inr
 refine bodyPost_ret (v:=(.agg #[.int .i64 k,.int .i64 i,.int .i64 gg,.string nm,.string fn,.int .i64 ar,.slice (some ⟨g,0,none⟩) l.length l.length,.string by_,.int .i64 bt])) (by simp [results,Tryz.results51,go_sem, *]) rfl ⟨F,g,rfl,HNew.out.touch (S:=fun k=>k = w.heap.size∨k = w.heap.size + 1) (by (repeat' (first | with_reducible exact TouchB.refl _ _ | with_reducible refine TouchB.setCell ?_ _ _ (fun _=>Or.inl rfl) | with_reducible refine TouchB.setCell ?_ _ _ (fun _=>Or.inr rfl)))) (fun q hq=>by have:=hinr q hq;omega) (by (repeat' (first | with_reducible exact hbb | with_reducible refine Below.setCell ?_ ?_ _ | (simp;done) | (simp;omega)))) (by omega),hFg⟩
def EMono (B:Nat) (E:World→(Nat→Prop)→Nat→TF→Value→Prop):Prop :=
 ∀ (w w':World) (F F':Nat→Prop) (j:Nat) (f:TF) (u:Value),(∀ g,F g→w'.heap[g]? = w.heap[g]?)→(∀ g,g < B→w'.heap[g]? = w.heap[g]?)→(∀ g,F g→F' g)→E w F j f u→E w' F' j f u
structure RowInv (E:World→(Nat→Prop)→Nat→TF→Value→Prop) (w wr:World) (cap k:Nat) (rs:List (TF × Value)) (F:Nat→Prop):Prop where
 own:wr.ownsRow w.heap.size 24 9 (.slice (some ⟨w.heap.size,0,none⟩) k cap) k (flatR rs)
 len:rs.length = k
 elt:∀ j,(h:j < rs.length)→E wr F j rs[j].1 rs[j].2∧PtrOK wr F w.heap.size rs[j].2
 typed:Typed wr F
 inr:∀ g,F g→w.heap.size < g∧g < wr.heap.size
 below:Below w.heap.size w wr
 lt:w.heap.size < wr.heap.size
variable {E:World→(Nat→Prop)→Nat→TF→Value→Prop} {w wr:World} {cap k:Nat} {rs:List (TF × Value)} {F:Nat→Prop}
theorem RowInv.start (cs:Array Value) (hc:cap ≤ maxLen) (hs:cs.size = cap * 9):RowInv E w (w.alloc (.cells cs 24)) cap 0 [] (fun _=>False) :=
 ⟨World.ownsRow_made w cs cap (Nat.le_refl _) hc hs,rfl,fun j h=>by simp at h,fun g h=>h.elim,fun g h=>h.elim,(Below.refl _ _).alloc (Nat.le_refl _) _,by simp⟩
theorem RowInv.ownAt (h:RowInv E w wr cap k rs F) {w3:World} (hb:Below wr.heap.size wr w3):w3.ownsRow w.heap.size 24 9 (.slice (some ⟨w.heap.size,0,none⟩) k cap) k (flatR rs) :=
 row_same h.own fun q hq=>hb.block q (by
  have e:w.heap.size = q:=by simpa [Value.ownBlock] using hq
  have:=h.lt
  omega)
theorem RowInv.next (hE:EMono w.heap.size E) (h:RowInv E w wr cap k rs F) {w3 w4:World} {F':Nat→Prop} {f:TF} {u:Value} (hb:Below wr.heap.size wr w3) (h1:E w3 F' k f u) (h2:PtrOK w3 F' w.heap.size u) (h3:Typed w3 F') (h4:∀ g,F' g→wr.heap.size ≤ g∧g < w3.heap.size)
 (hg:w3.grownBy w4 (some w.heap.size)) (hown:w4.ownsRow w.heap.size 24 9 (.slice (some ⟨w.heap.size,0,none⟩) (k + 1) cap) (k + 1) (flatR rs ++ nineL f u)):RowInv E w w4 cap (k + 1) (rs ++ [(f,u)]) (fun g=>F g∨F' g):=by
 have hlt:=h.lt
 have hsz:=hb.size
 have hs3:∀ g,F g→w3.heap[g]? = wr.heap[g]?:=fun g hg=>hb.block g (h.inr g hg).2
 have hs4:∀ g,F g→w4.heap[g]? = wr.heap[g]?:=fun g hF=>(hg.block g (by have:=(h.inr g hF).2;omega) (by have:=(h.inr g hF).1;simp;omega)).trans (hs3 g hF)
 have hs4':∀ g,F' g→w4.heap[g]? = w3.heap[g]?:=fun g hF=>hg.block g (h4 g hF).2 (by have:=(h4 g hF).1;simp;omega)
 have hl:=h.len
 have hg4:=hg.size
 refine ⟨?_,by simp [hl],fun j hj=>?_,?_,fun g hF=>?_,?_,by omega⟩
 ·rw [flatR_append]
  have e:flatR [(f,u)] = nineL f u:=by simp [flatR]
  rw [e];exact hown
 ·by_cases e:j < rs.length
  ·rw [List.getElem_append_left e]
   obtain ⟨a1,a2⟩:=h.elt j e
   exact ⟨hE _ _ _ _ _ _ _ hs4 (fun g hg'=>(hg.block g (by omega) (by simp;omega)).trans (hb.block g (by omega))) (fun _ h=>.inl h) a1,a2.mono hs4 (fun _ h=>.inl h)⟩
  ·have ej:j = rs.length:=by simp at hj;omega
   subst ej
   rw [List.getElem_append_right (Nat.le_refl _)]
   simp only [Nat.sub_self,List.getElem_cons_zero]
   refine ⟨?_,h2.mono hs4' (fun _ h=>.inr h)⟩
   rw [hl]
   exact hE _ _ _ _ _ _ _ hs4' (fun g hg'=>hg.block g (by omega) (by simp;omega)) (fun _ h=>.inr h) h1
 ·exact (h.typed.same hs4).union (h3.same hs4')
 ·rcases hF with hF | hF
  ·have:=h.inr g hF;omega
  ·have:=h4 g hF;omega
 ·have hb1:=h.below.trans (hb.mono (by omega))
  exact ⟨hg.os.trans hb1.os,hg.tape.trans hb1.tape,hg.output.trans hb1.output,Nat.le_trans hb1.size hg.size,fun q hq=>(hg.block q (by omega) (by simp;omega)).trans (hb1.block q hq)⟩
theorem RowInv.cells (h:RowInv E w wr cap k rs F) (j:Nat) (hj:j < rs.length):Cells wr w.heap.size (j * 9) rs[j].1 rs[j].2:=row_cells h.own h.len j hj
theorem RowInv.full (h:RowInv E w wr cap k rs F) (hk:k = cap):Typed wr (fun g=>F g∨g = w.heap.size):=by
 have hown:=h.own
 rcases hown.2 with ⟨h',_⟩ | ⟨g',cap',cur,h',hbg,hg,hnc,hcm,hcs,htake⟩
 ·simp at h'
 ·simp only [Value.slice.injEq,Option.some.injEq,Addr.mk.injEq,and_true,true_and] at h'
  obtain ⟨rfl,rfl⟩:=h'
  refine h.typed.add hg hcs fun j hj=>?_
  have hj':j < rs.length:=by rw [h.len];omega
  exact ⟨_,_,h.cells j hj',(h.elt j hj').2⟩
theorem RowInv.root (h:RowInv E w wr cap k rs F) (m:Nat) (hm:m ≤ cap) (g:Nat) (hgw:g < w.heap.size):PtrOK wr (fun g=>F g∨g = w.heap.size) g (.slice (some ⟨w.heap.size,0,none⟩) m cap):=by
 have hown:=h.own
 rcases hown.2 with ⟨h',_⟩ | ⟨g',cap',cur,h',hbg,hg,hnc,hcm,hcs,htake⟩
 ·simp at h'
 ·simp only [Value.slice.injEq,Option.some.injEq,Addr.mk.injEq,and_true,true_and] at h'
  obtain ⟨rfl,rfl⟩:=h'
  exact ⟨_,_,_,rfl,.inr ⟨_,0,cur,_,by rw [Nat.zero_mul],.inr rfl,hgw,hg,by rw [Nat.zero_add,hcs];omega,by omega⟩⟩
def EltIn (w:World) (F:Nat→Prop):(n:Nat)→Tm n→TF→Value→Prop
 | 0,_,_,_=>False
 | n + 1,t,f,u=>t.f = f∧ItemsIn w F n u t.items
theorem EltIn.mono {w w':World} {F F':Nat→Prop} (hs:∀ g,F g→w'.heap[g]? = w.heap[g]?) (hF:∀ g,F g→F' g) {n:Nat} {t:Tm n} {f:TF} {u:Value} (h:EltIn w F n t f u):EltIn w' F' n t f u:=by
 cases n with
 | zero=>exact h
 | succ n=>exact ⟨h.1,h.2.mono hs hF⟩
def EltL {n:Nat} (l:List (Tm n)) (w:World) (F:Nat→Prop) (j:Nat) (f:TF) (u:Value):Prop:=∃ h:j < l.length,EltIn w F n l[j] f u
theorem eltL_mono {n:Nat} (l:List (Tm n)) (B:Nat):EMono B (EltL l):=fun w w' F F' j f u h1 h2 h3 ⟨h,he⟩=>⟨h,he.mono h1 h3⟩
theorem ItemsIn.mk {n:Nat} {w:World} {F:Nat→Prop} {g cap:Nat} (l:List (Tm n)) (rs:List (TF × Value)) (hl:rs.length = l.length) (hc:l.length ≤ cap) (hm:cap ≤ maxLen) (hF:F g) (h:∀ j,(hj:j < rs.length)→Cells w g (j * 9) rs[j].1 rs[j].2∧EltL l w F j rs[j].1 rs[j].2):ItemsIn w F n (.slice (some ⟨g,0,none⟩) l.length cap) l:=by
 cases n with
 | zero =>
  have:=Tm.nil0 l
  subst this
  exact ⟨_,_,rfl,hm⟩
 | succ n =>
  refine ⟨_,_,rfl,hc,hm,fun _=>⟨g,0,rfl,hF,fun j hj=>?_⟩⟩
  obtain ⟨h1,_,h2,h3⟩:=h j (by omega)
  refine ⟨_,?_,h3⟩
  rw [Nat.zero_add,h2]
  exact h1
theorem make24 (W:World) (c:Int) (cap:Nat) (h:c = cap) (hc:cap ≤ 1000000000000):(Instr.makeSlice 22 (.int .i64 0) (.int .i64 c)).run Tryz.prog W = .ok (.slice (some ⟨W.heap.size,0,none⟩) 0 cap) (W.alloc (.cells (madeCells #[.int .i64 0,.int .i64 0,.int .i64 0,.string ⟨#[]⟩,.string ⟨#[]⟩,.int .i64 0,.slice none 0 0,.string ⟨#[]⟩,.int .i64 0] (cap * 9)) 24)):=by
 obtain ⟨i0,hi,hz,hs,hb⟩:=info_parts info24
 subst h
 have:=run_make (P:=Tryz.prog) W 22 24 i0 _ Tryz.underlying22 hi hz .i64 .i64 0 (cap:Int) (by omega) (by omega) (by rw [hb];omega) (by omega)
 rw [hs] at this
 simp only [Int.toNat_natCast,Int.toNat_zero] at this
 exact this
def CopyS (n:Nat):Prop:=∀ (w:World) (B:Nat) (v:Value) (t:Tm (n + 1)),B ≤ w.heap.size→ItemsAt w B n v t.items→nodesT t ≤ 100000000→Calls Tryz.prog 51 #[aggV t.f v] w (TPost t.f t.items w)
def CopiesS (n:Nat):Prop:=∀ (w:World) (B:Nat) (v:Value) (l:List (Tm n)),B ≤ w.heap.size→ItemsAt w B n v l→nodesL n l ≤ 100000000→Calls Tryz.prog 84 #[v] w (LPost l w)
def EPost {n:Nat} (l:List (Tm n)) (j:Nat) (x:TF) (m:Nat) (w:World) (e:Ending) (w':World):Prop :=
 ∃ F g,e = .returned (aggV x (.slice (some ⟨g,0,none⟩) m m))∧EltL l w' F j x (.slice (some ⟨g,0,none⟩) m m)∧(∀ q,F q→w.heap.size ≤ q∧q < w'.heap.size)∧Typed w' F∧(∀ q,q < w.heap.size→PtrOK w' F q (.slice (some ⟨g,0,none⟩) m m))∧Below w.heap.size w w'
theorem copyEl {n:Nat} (ih:∀ m,n = m + 1→CopyS m) (w:World) (B:Nat) (p:Option Addr) (len c:Nat) (l:List (Tm n)) (hB:B ≤ w.heap.size) (h1:ItemsAt w B n (.slice p len c) l) (hs:nodesL n l ≤ 100000000) :
 ∀ j,(hj:j < l.length)→∃ g o x q m d,p = some ⟨g,o,none⟩∧g < w.heap.size∧Cells w g (o + j * 9) x (.slice q m d)∧∀ W,Below w.heap.size w W→Calls Tryz.prog 51 #[aggV x (.slice q m d)] W (EPost l j x m W):=by
 cases n with
 | zero=>intro j hj;rw [Tm.nil0 l] at hj;exact absurd hj (by simp)
 | succ n =>
  intro j hj
  obtain ⟨g,o,d,e,_,_,hg,hx⟩:=h1.at_ (by intro e;subst e;simp at hj)
  obtain ⟨u,hC,hI⟩:=hx j hj
  simp only [Value.slice.injEq] at e
  obtain ⟨q,c',rfl,_,_⟩:=hI.shape
  have hn:=nodes_mem hj
  refine ⟨g,o,l[j].f,q,_,c',e.1,by omega,hC,fun W hb=>?_⟩
  refine (ih n rfl W B _ l[j] (Nat.le_trans hB hb.size) (hI.below hb hB) (by omega)).mono ?_
  rintro e w' ⟨F,g',rfl,hn,hF⟩
  exact ⟨F,g',rfl,⟨hj,rfl,hn.items⟩,hn.inr,hn.typed,hn.ptr,hn.below⟩
set_option maxHeartbeats 400000 in
theorem copiesStep {n:Nat} (ih:∀ m,n = m + 1→CopyS m):CopiesS n:=by
 intro w B v l hB h1 hs
 have hlen:=nodes_len n l
 obtain ⟨p,c,rfl,hc,hm⟩:=h1.shape
 have HP:=Lib.hid (copyEl ih w B p l.length c l hB h1 hs)
 have hle:l.length ≤ 100000000:=by omega
 have hle2:(l.length:Int) ≤ 100000000:=by omega
 have hmk:=fun W=>make24 W (l.length:Int) l.length rfl (by omega)
 clear ih h1 hs hlen hc hm
 obtain ⟨i0,hi0,hz0,hz1,hz2⟩:=info_parts info24
 go_enter Tryz.func84,Tryz.ntmps84
 go_wp2_with fail
 have HI:RowInv (EltL l) w (w.alloc (.cells (madeCells #[.int .i64 0,.int .i64 0,.int .i64 0,.string ⟨#[]⟩,.string ⟨#[]⟩,.int .i64 0,.slice none 0 0,.string ⟨#[]⟩,.int .i64 0] (l.length * 9)) 24)) l.length 0 [] (fun _=>False):=RowInv.start _ (by unfold maxLen;omega) (size_madeCells _ _)
 generalize (w.alloc (.cells (madeCells #[.int .i64 0,.int .i64 0,.int .i64 0,.string ⟨#[]⟩,.string ⟨#[]⟩,.int .i64 0,.slice none 0 0,.string ⟨#[]⟩,.int .i64 0] (l.length * 9)) 24)) = w0 at *
 go_loopw [3,11] (fun s t wr=>∃ (k:Nat) (rs:List (TF × Value)) (F:Nat→Prop),s = .slice (some ⟨w.heap.size,0,none⟩) k l.length∧t = .int .i64 k∧k ≤ l.length∧Hid (RowInv (EltL l) w wr l.length k rs F)) (fun _ t _=>l.length - (intOf t).toNat)
 case atStart=>exact ⟨0,[],fun _=>False,rfl,rfl,by omega,Lib.hid HI⟩
 case round =>
  obtain ⟨k,rs,F,rfl,rfl,hk,HR⟩:=hrel
  by_cases hlt:k < l.length
  ·obtain ⟨g,o,x,q,m,d,rfl,hg,hC,hCall⟩:=HP.out k hlt
   have HCall:=Lib.hid hCall
   clear hCall
   have hC:=hC.same (HR.out.below.block g hg)
   have hgr:g < wr.heap.size:=Nat.lt_of_lt_of_le hg HR.out.below.size
   obtain ⟨x0,x1,x2,x3,x4,x5,x6,x7,x8⟩:=hC
   obtain ⟨kk,ii,gg,nm,fn,ar,by_,bt⟩:=x
   dsimp only at x0 x1 x2 x3 x4 x5 x6 x7 x8
   unfold EPost aggV at HCall
   dsimp only at HCall
   go_wp2_with fail
   have hb1:Below wr.heap.size wr (wr.alloc (cells9 ⟨kk,ii,gg,nm,fn,ar,by_,bt⟩ (.slice q m d))):=(Below.refl _ _).alloc (Nat.le_refl _) _
   refine (HCall.out _ (HR.out.below.trans (hb1.mono HR.out.below.size))).mono ?_
   rintro e w2 ⟨F',g',rfl,hE,hin,hty,hpt,hb2⟩
   have hb2':Below wr.heap.size wr w2:=hb1.trans (hb2.mono (by simp))
   have hb3:Below w2.heap.size w2 (w2.alloc (cells9 ⟨kk,ii,gg,nm,fn,ar,by_,bt⟩ (.slice (some ⟨g',0,none⟩) m m))):=(Below.refl _ _).alloc (Nat.le_refl _) _
   have hbw3:Below wr.heap.size wr (w2.alloc (cells9 ⟨kk,ii,gg,nm,fn,ar,by_,bt⟩ (.slice (some ⟨g',0,none⟩) m m))):=hb2'.trans (hb3.mono hb2'.size)
   have HS:∀ g,F' g→(w2.alloc (cells9 ⟨kk,ii,gg,nm,fn,ar,by_,bt⟩ (.slice (some ⟨g',0,none⟩) m m))).heap[g]? = w2.heap[g]?:=fun g hg=>hb3.block g (hin g hg).2
   have HE:=Lib.hid (eltL_mono l w.heap.size _ _ _ _ _ _ _ HS (fun g hg=>hb3.block g (Nat.lt_of_lt_of_le hg (Nat.le_trans HR.out.below.size hb2'.size))) (fun _ h=>h) hE)
   have HPt:=Lib.hid ((hpt w.heap.size (by have:=HR.out.lt;simp;omega)).mono HS (fun _ h=>h))
   have HTy:=Lib.hid (hty.same HS)
   have HIn:Hid (∀ g,F' g→wr.heap.size ≤ g∧g < (w2.alloc (cells9 ⟨kk,ii,gg,nm,fn,ar,by_,bt⟩ (.slice (some ⟨g',0,none⟩) m m))).heap.size):=Lib.hid (fun g hg=>by have:=hin g hg;simp at this ⊢;omega)
   have HOwn:=Lib.hid (HR.out.ownAt hbw3)
   have HNC:=Lib.hid (nine_cell w2 ⟨kk,ii,gg,nm,fn,ar,by_,bt⟩ (.slice (some ⟨g',0,none⟩) m m))
   have HNO:=Lib.hid (nine_one ⟨kk,ii,gg,nm,fn,ar,by_,bt⟩ (some ⟨g',0,none⟩) m m)
   have HBW:=Lib.hid hbw3
   clear hE hin hty hpt hb2 hb1 hb2' hb3 hbw3 HS
   unfold cells9 at HE HPt HTy HIn HOwn HNC HBW
   dsimp only at HE HPt HTy HIn HOwn HNC HBW
   go_wp2_with (at_builtin;refine wpList_append_fits rfl (.tmp 15) (.tmp 18) 22 rfl w.heap.size 24 i0 9 Tryz.underlying22 hi0 hz1 w.heap.size k l.length (flatR rs) rfl HOwn.out ⟨w2.heap.size,0,none⟩ 1 1 (nineL ⟨kk,ii,gg,nm,fn,ar,by_,bt⟩ (.slice (some ⟨g',0,none⟩) m m)) rfl rfl HNC.out HNO.out (by omega) ?_;intro w4 hown4 hg4)
   have HNext:=Lib.hid (HR.out.next (eltL_mono l w.heap.size) HBW.out HE.out HPt.out HTy.out HIn.out hg4 hown4)
   go_roundw
   case rel=>exact ⟨k + 1,_,_,rfl,by go_num,by omega,HNext⟩
   case measure=>simp [intOf];omega
  ·obtain rfl:k = l.length:=by omega
   have HT:=Lib.hid (HR.out.full rfl)
   have HRt:=Lib.hid (fun q hq=>HR.out.root l.length (Nat.le_refl _) q hq)
   have hr:=HR.out
   go_wp2_with fail
   go_ret
   refine ⟨fun g=>F g∨g = w.heap.size,w.heap.size,rfl,⟨?_,fun q hq=>?_,HT.out,HRt.out,hr.below⟩,.inr rfl⟩
   ·exact ItemsIn.mk l rs hr.len (Nat.le_refl _) (by unfold maxLen;omega) (.inr rfl) (fun j hj=>⟨hr.cells j hj,eltL_mono l w.heap.size wr wr F _ _ _ _ (fun _ _=>rfl) (fun _ _=>rfl) (fun _ h=>.inl h) (hr.elt j hj).1⟩)
   ·rcases hq with hq | rfl
    ·have:=hr.inr q hq;omega
    ·exact ⟨Nat.le_refl _,hr.lt⟩
theorem copyStep {n:Nat} (hC:CopiesS n):CopyS n:=by
 intro w B v t hB h1 hs
 obtain ⟨p,c,rfl,hc,hm⟩:=h1.shape
 refine copyT t.f p t.items.length c t.items w (fun W hb=>hC W B _ t.items (Nat.le_trans hB hb.size) (h1.below hb hB) (by unfold nodesT at hs;omega))
theorem copiesAll:∀ n,CopiesS n
 | 0=>copiesStep (fun m h=>by omega)
 | n + 1 => copiesStep (fun m h => by obtain rfl : n = m := by omega
                                      exact copyStep (copiesAll n))
theorem copyAll (n:Nat):CopyS n:=copyStep (copiesAll n)
def set9 (w:World) (b o:Nat) (f:TF) (v:Value):World :=
 ((((((((w.setCell ⟨b,o,none⟩ (.int .i64 f.kind)).setCell ⟨b,o + 1,none⟩ (.int .i64 f.int)).setCell ⟨b,o + 2,none⟩ (.int .i64 f.gen)).setCell ⟨b,o + 3,none⟩ (.string f.name)).setCell ⟨b,o + 4,none⟩ (.string f.func)).setCell ⟨b,o + 5,none⟩ (.int .i64 f.arity)).setCell ⟨b,o + 6,none⟩ v).setCell ⟨b,o + 7,none⟩ (.string f.bytes)).setCell ⟨b,o + 8,none⟩ (.int .i64 f.bits)
theorem flatR_set:∀ (d:List (TF × Value)) (j:Nat) (f:TF) (v:Value),j < d.length →
 (((((((((flatR d).set (j * 9) (.int .i64 f.kind)).set (j * 9 + 1) (.int .i64 f.int)).set (j * 9 + 2) (.int .i64 f.gen)).set (j * 9 + 3) (.string f.name)).set (j * 9 + 4) (.string f.func)).set (j * 9 + 5) (.int .i64 f.arity)).set (j * 9 + 6) v).set (j * 9 + 7) (.string f.bytes)).set (j * 9 + 8) (.int .i64 f.bits) = flatR (d.set j (f,v))
 | r :: d,0,f,v,_=>rfl
 | r :: d,j + 1,f,v,h=>by
  have ih:=flatR_set d j f v (by simpa using h)
  have e:∀ (l:List Value) (k:Nat) (x:Value),(nineL r.1 r.2 ++ l).set ((j + 1) * 9 + k) x = nineL r.1 r.2 ++ l.set (j * 9 + k) x:=fun l k x=>by
   rw [List.set_append_right _ _ (by simp [nineL];omega)]
   congr 2
   simp [nineL];omega
  have e0:∀ (l:List Value) (x:Value),(nineL r.1 r.2 ++ l).set ((j + 1) * 9) x = nineL r.1 r.2 ++ l.set (j * 9) x:=fun l x=>e l 0 x
  show (((((((((nineL r.1 r.2 ++ flatR d).set _ _).set _ _).set _ _).set _ _).set _ _).set _ _).set _ _).set _ _).set _ _ = nineL r.1 r.2 ++ flatR (d.set j (f,v))
  rw [e0,e,e,e,e,e,e,e,e,ih]
theorem set9_row {w:World} {base b n cap:Nat} {d:List (TF × Value)} (h:w.ownsRow base 24 9 (.slice (some ⟨b,0,none⟩) n cap) n (flatR d)) (j:Nat) (hj:j < d.length) (f:TF) (v:Value) :
 (set9 w b (j * 9) f v).ownsRow base 24 9 (.slice (some ⟨b,0,none⟩) n cap) n (flatR (d.set j (f,v))):=by
 rw [← flatR_set d j f v hj]
 unfold set9
 exact ((((((((h.stored _ _).1.stored _ _).1.stored _ _).1.stored _ _).1.stored _ _).1.stored _ _).1.stored _ _).1.stored _ _).1.stored _ _ |>.1
theorem set9_touch (w:World) (b o:Nat) (f:TF) (v:Value):TouchB (fun k=>k = b) w (set9 w b o f v):=by
 unfold set9
 repeat' (first | with_reducible exact TouchB.refl _ _ | with_reducible refine TouchB.setCell ?_ _ _ (fun _=>rfl))
structure RowW {α:Type} (enc:α→TF × Value) (w0 wr:World) (b n cap:Nat) (d:List α):Prop where
 own:wr.ownsRow 0 24 9 (.slice (some ⟨b,0,none⟩) n cap) n (flatR (d.map enc))
 len:d.length = n
 touch:TouchB (fun k=>k = b) w0 wr
variable {α:Type} {enc:α→TF × Value} {w0 wr:World} {b n cap:Nat} {d:List α}
theorem RowW.lt (h:RowW enc w0 wr b n cap d):b < wr.heap.size:=by
 rcases h.own.2 with ⟨h',_⟩ | ⟨g',cap',cur,h',hbg,hg,_⟩
 ·simp at h'
 ·simp only [Value.slice.injEq,Option.some.injEq,Addr.mk.injEq,and_true,true_and] at h'
  obtain ⟨rfl,rfl⟩:=h'
  exact (Array.getElem?_eq_some_iff.1 hg).1
theorem RowW.room (h:RowW enc w0 wr b n cap d):n ≤ cap∧cap ≤ maxLen:=by
 rcases h.own.2 with ⟨h',_⟩ | ⟨g',cap',cur,h',hbg,hg,h1,h2,_⟩
 ·simp at h'
 ·simp only [Value.slice.injEq,Option.some.injEq,Addr.mk.injEq,and_true,true_and] at h'
  obtain ⟨rfl,rfl⟩:=h'
  exact ⟨h1,h2⟩
theorem RowW.cells (h:RowW enc w0 wr b n cap d) (j:Nat) (hj:j < d.length):Cells wr b (j * 9) (enc d[j]).1 (enc d[j]).2:=by
 have:=row_cells h.own (by simp [h.len]) j (by simpa using hj)
 simpa using this
theorem RowW.frozen (h:RowW enc w0 wr b n cap d) (o:Nat):wr.frozen? ⟨b,o,none⟩ = false:=h.own.frozenAt o
theorem RowW.below (h:RowW enc w0 wr b n cap d) {w':World} (hb:Below wr.heap.size wr w') (hw:w0.heap.size ≤ wr.heap.size):RowW enc w0 w' b n cap d :=
 ⟨row_same h.own (fun q hq=>hb.block q (by
  have e:b = q:=by simpa [Value.ownBlock] using hq
  have:=h.lt
  omega)),h.len,h.touch.ofBelow hb hw⟩
theorem RowW.drewN (h:RowW enc w0 wr b n cap d) (k:Nat):RowW enc w0 (wr.drewN k) b n cap d:=⟨h.own,h.len,h.touch.drewN k⟩
theorem RowW.set (h:RowW enc w0 wr b n cap d) (j:Nat) (hj:j < d.length) (x:α):RowW enc w0 (set9 wr b (j * 9) (enc x).1 (enc x).2) b n cap (d.set j x):=by
 refine ⟨?_,by simp [h.len],h.touch.trans (set9_touch _ _ _ _ _) (fun _ _ e=>e)⟩
 rw [List.map_set]
 exact set9_row h.own j (by simpa using hj) _ _
structure CmpW (enc:α→TF × Value) (w0:World) (b:Nat) (g:Nat) (S:α→Prop) (c:α→α→Int):Prop where
 shape:∀ x,S x→∃ p m k,(enc x).2 = .slice p m k
 call:∀ W x y,TouchB (fun k=>k = b) w0 W→S x→S y→Calls Tryz.prog g #[aggV (enc x).1 (enc x).2,aggV (enc y).1 (enc y).2] W (IPostC (c x y) W)
def SizeSame (w w':World) (F:Nat→Prop):Prop:=∀ g,F g→∀ cur fz,w.heap[g]? = some (.cells cur 24 fz)→∃ cur',w'.heap[g]? = some (.cells cur' 24 fz)∧cur'.size = cur.size
theorem SizeSame.refl (w:World) (F:Nat→Prop):SizeSame w w F:=fun g hg cur fz h=>⟨cur,h,rfl⟩
theorem SizeSame.trans {a b c:World} {F:Nat→Prop} (h:SizeSame a b F) (k:SizeSame b c F):SizeSame a c F:=fun g hg cur fz h0=>by
 obtain ⟨c1,h1,h2⟩:=h g hg cur fz h0
 obtain ⟨c2,h3,h4⟩:=k g hg c1 fz h1
 exact ⟨c2,h3,h4.trans h2⟩
def sets9 (cur:Array Value) (o:Nat) (f:TF) (v:Value):Array Value :=
 ((((((((cur.setIfInBounds o (.int .i64 f.kind)).setIfInBounds (o + 1) (.int .i64 f.int)).setIfInBounds (o + 2) (.int .i64 f.gen)).setIfInBounds (o + 3) (.string f.name)).setIfInBounds (o + 4) (.string f.func)).setIfInBounds (o + 5) (.int .i64 f.arity)).setIfInBounds (o + 6) v).setIfInBounds (o + 7) (.string f.bytes)).setIfInBounds (o + 8) (.int .i64 f.bits)
theorem set9_blk {w:World} {g o:Nat} {cur:Array Value} {e:TypeId} {fz:Nat × Nat} (f:TF) (v:Value) (h:w.heap[g]? = some (.cells cur e fz)):(set9 w g o f v).heap[g]? = some (.cells (sets9 cur o f v) e fz):=by
 unfold set9 sets9
 exact set_blk (set_blk (set_blk (set_blk (set_blk (set_blk (set_blk (set_blk (set_blk h))))))))
theorem sets9_size (cur:Array Value) (o:Nat) (f:TF) (v:Value):(sets9 cur o f v).size = cur.size:=by unfold sets9;simp
theorem sets9_get (cur:Array Value) (o:Nat) (f:TF) (v:Value) (h:o + 9 ≤ cur.size) (i:Nat) (hi:i < 9):(sets9 cur o f v)[o + i]? = (nineL f v)[i]?:=by
 have:i = 0∨i = 1∨i = 2∨i = 3∨i = 4∨i = 5∨i = 6∨i = 7∨i = 8:=by omega
 unfold sets9 nineL
 rcases this with rfl | rfl | rfl | rfl | rfl | rfl | rfl | rfl | rfl <;> simp [Array.getElem?_setIfInBounds] <;> omega
theorem sets9_other (cur:Array Value) (o:Nat) (f:TF) (v:Value) (x:Nat) (h:x < o∨o + 9 ≤ x):(sets9 cur o f v)[x]? = cur[x]?:=by
 unfold sets9
 repeat rw [Array.getElem?_setIfInBounds_ne (by omega)]
theorem cell_of_blk {w:World} {g x:Nat} {cur:Array Value} {e:TypeId} {fz:Nat × Nat} (h:w.heap[g]? = some (.cells cur e fz)):w.cell? ⟨g,x,none⟩ = cur[x]?:=by
 unfold World.cell?
 rw [h]
 rfl
theorem Cells.blk {w:World} {g o:Nat} {cur:Array Value} {e:TypeId} {fz:Nat × Nat} {f:TF} {v:Value} (h:w.heap[g]? = some (.cells cur e fz)) (hc:∀ i,i < 9→cur[o + i]? = (nineL f v)[i]?):Cells w g o f v :=
 Cells.of fun i hi=>(cell_of_blk h).trans (hc i hi)
theorem spoil_set {w:World} {F:Nat→Prop} {g:Nat} {cur:Array Value} {fz:Nat × Nat} (hty:Typed w F) (hg:F g) (hcur:w.heap[g]? = some (.cells cur 24 fz)) (j:Nat) (hj:(j + 1) * 9 ≤ cur.size) (f:TF) :
 Typed (set9 w g (j * 9) f nilV) F∧SizeSame w (set9 w g (j * 9) f nilV) F∧TouchB F w (set9 w g (j * 9) f nilV)∧(set9 w g (j * 9) f nilV).heap.size = w.heap.size:=by
 have ht:TouchB (fun k=>k = g) w (set9 w g (j * 9) f nilV):=set9_touch _ _ _ _ _
 have hb:=set9_blk (o:=j * 9) f nilV hcur
 have hsz:SizeSame w (set9 w g (j * 9) f nilV) F:=by
  intro g' hg' cur' fz' h'
  by_cases e:g' = g
  ·subst e
   rw [hcur] at h'
   simp only [Option.some.injEq,Obj.cells.injEq,true_and] at h'
   obtain ⟨rfl,rfl⟩:=h'
   exact ⟨_,hb,sets9_size _ _ _ _⟩
  ·exact ⟨cur',(ht.block g' (Array.getElem?_eq_some_iff.1 h').1 e).trans h',rfl⟩
 have hptr:∀ g' u,PtrOK w F g' u→PtrOK (set9 w g (j * 9) f nilV) F g' u:=by
  rintro g' u ⟨p,len,c,rfl,h0⟩
  refine ⟨p,len,c,rfl,?_⟩
  rcases h0 with h0 | ⟨g2,k,c2,fz2,h1,h2,h3,h4,h5⟩
  ·exact .inl h0
  ·obtain ⟨c3,h6,h7⟩:=hsz g2 h2 c2 fz2 h4
   exact .inr ⟨g2,k,c3,fz2,h1,h2,h3,h6,by omega⟩
 refine ⟨?_,hsz,ht.mono (fun i _ e=>e ▸ hg),?_⟩
 ·intro g' hg'
  obtain ⟨c1,N,h1,h2,h3⟩:=hty g' hg'
  by_cases e:g' = g
  ·subst e
   rw [hcur] at h1
   simp only [Option.some.injEq,Obj.cells.injEq,true_and] at h1
   obtain ⟨rfl,rfl⟩:=h1
   refine ⟨_,N,hb,by rw [sets9_size];exact h2,fun q hq=>?_⟩
   by_cases e:q = j
   ·subst e
    exact ⟨f,nilV,Cells.blk hb (fun i hi=>sets9_get _ _ _ _ (by omega) i hi),PtrOK.nil⟩
   ·obtain ⟨f',u',hc,hp⟩:=h3 q hq
    refine ⟨f',u',Cells.blk hb (fun i hi=>?_),hptr _ _ hp⟩
    rw [sets9_other _ _ _ _ _ (by omega),← cell_of_blk hcur]
    exact hc.all i hi
  ·refine ⟨c1,N,(ht.block g' (Array.getElem?_eq_some_iff.1 h1).1 e).trans h1,h2,fun q hq=>?_⟩
   obtain ⟨f',u',hc,hp⟩:=h3 q hq
   exact ⟨f',u',hc.same (ht.block g' (Array.getElem?_eq_some_iff.1 h1).1 e),hptr _ _ hp⟩
 ·unfold set9;simp
def spoiltF:TF:=⟨-9, -1,0,⟨#[115,112,111,105,108,116]⟩,⟨#[]⟩,0,⟨#[]⟩,0⟩
def SpInv (F:Nat→Prop) (w wr:World):Prop:=Typed wr F∧SizeSame w wr F∧TouchB F w wr∧wr.heap.size = w.heap.size
theorem frozen_of_blk {w:World} {g x:Nat} {cur:Array Value} {e:TypeId} (h:w.heap[g]? = some (.cells cur e (0,0))):w.frozen? ⟨g,x,none⟩ = false:=by
 unfold World.frozen?
 rw [h]
 simp
theorem sp_elt {F:Nat→Prop} {w wr:World} {g k len i:Nat} {cur:Array Value} {fz:Nat × Nat} (h:SpInv F w wr) (hF:F g) (hcur:w.heap[g]? = some (.cells cur 24 fz)) (hk:(k + len) * 9 ≤ cur.size) (hi:i < len) :
 ∃ f p m c,Cells wr g (k * 9 + i * 9) f (.slice p m c)∧PtrOK wr F g (.slice p m c)∧(∀ x,wr.frozen? ⟨g,x,none⟩ = false) ∧
  (SpInv F w (set9 wr g (k * 9 + i * 9) spoiltF nilV)):=by
 obtain ⟨h1,h2,h3,h4⟩:=h
 obtain ⟨cur',hb,hs⟩:=h2 g hF cur fz hcur
 obtain ⟨c1,N,h5,h6,h7⟩:=h1 g hF
 rw [hb] at h5
 simp only [Option.some.injEq,Obj.cells.injEq,true_and] at h5
 obtain ⟨rfl,rfl⟩:=h5
 obtain ⟨f,u,hc,hp⟩:=h7 (k + i) (by omega)
 have e:(k + i) * 9 = k * 9 + i * 9:=by omega
 obtain ⟨p,m,c,rfl,hq⟩:=hp
 obtain ⟨a1,a2,a3,a4⟩:=spoil_set h1 hF hb (k + i) (by omega) spoiltF
 rw [e] at hc a1 a2 a3 a4
 exact ⟨f,p,m,c,hc,⟨p,m,c,rfl,hq⟩,fun x=>frozen_of_blk hb,a1,h2.trans a2,h3.trans a3 (fun _ _ h=>h),by omega⟩
theorem SpInv.trans {F:Nat→Prop} {a b c:World} (h:SpInv F a b) (k:SpInv F b c):SpInv F a c :=
 ⟨k.1,h.2.1.trans k.2.1,h.2.2.1.trans k.2.2.1 (fun _ _ h=>h),k.2.2.2.trans h.2.2.2⟩
theorem spoilRow {w:World} {F:Nat→Prop} {g2 q len c:Nat} {c2:Array Value} {fz2:Nat × Nat} (hty:Typed w F) (h2:F g2) (h4:w.heap[g2]? = some (.cells c2 24 fz2)) (h5:(q + len) * 9 ≤ c2.size) (h6:len ≤ maxLen)
 (hC:∀ wr u,SpInv F w wr→PtrOK wr F g2 u→Calls Tryz.prog 75 #[u] wr (fun e w'=>e = .returned (.tuple #[])∧SpInv F wr w')) :
 Calls Tryz.prog 75 #[.slice (some ⟨g2,q * 9,none⟩) len c] w (fun e w'=>e = .returned (.tuple #[])∧SpInv F w w'):=by
 have HI:Hid (SpInv F w w):=Lib.hid ⟨hty,SizeSame.refl _ _,TouchB.refl _ _,rfl⟩
 have HE:=Lib.hid (fun wr i (h:SpInv F w wr) (hi:i < len)=>sp_elt h h2 h4 h5 hi)
 have HC:=Lib.hid hC
 unfold maxLen at h6
 clear hty hC h2 h4 h5
 go_enter Tryz.func75,Tryz.ntmps75
 go_wp2_with fail
 go_loopw [2] (fun s wr=>∃ i:Nat,s = .int .i64 i∧i ≤ len∧Hid (SpInv F w wr)) (fun s _=>len - (intOf s).toNat)
 case atStart=>exact ⟨0,by go_num,by omega,HI⟩
 case round =>
  obtain ⟨i,rfl,hil,HR⟩:=hrel
  by_cases hlt:i < len
  ·obtain ⟨f,p',m',c',hcs,hpt,hfz,_⟩:=HE.out wr i HR.out hlt
   have HCall:=Lib.hid (HC.out wr _ HR.out hpt)
   obtain ⟨k1,i1,g1,n1,fn1,a1,by1,s1⟩:=f
   obtain ⟨x0,x1,x2,x3,x4,x5,x6,x7,x8⟩:=hcs
   dsimp only at x0 x1 x2 x3 x4 x5 x6 x7 x8
   clear hpt hfz x0 x1 x2 x3 x4 x5 x7 x8
   have r1:(i:Int) < (len:Int):=by omega
   go_wp2_with fail
   refine HCall.out.mono ?_
   rintro e w1 ⟨rfl,hI1⟩
   have hS:=HR.out.trans hI1
   obtain ⟨f,p2,m2,c2',hcs,_,hfz,hSet⟩:=HE.out w1 i hS hlt
   have HSet:=Lib.hid hSet
   obtain ⟨k2,i2,g3,n2,fn2,a2,by2,s2⟩:=f
   obtain ⟨y0,y1,y2,y3,y4,y5,y6,y7,y8⟩:=hcs
   dsimp only at y0 y1 y2 y3 y4 y5 y6 y7 y8
   unfold set9 spoiltF at HSet
   dsimp only at HSet
   clear hI1 hS hSet HCall x6
   go_wp2_with fail
   go_roundw
   case rel=>exact ⟨i + 1,by go_num,by omega,HSet⟩
   case measure=>simp [intOf];omega
  ·go_wp2_with fail
   go_end0
   exact ⟨rfl,HR.out⟩
theorem spoilAll:∀ (k:Nat) (w:World) (F:Nat→Prop) (v:Value) (g:Nat),Typed w F→(∀ x,F x→x < w.heap.size)→PtrOK w F g v→w.heap.size ≤ g + 1 + k→Calls Tryz.prog 75 #[v] w (fun e w'=>e = .returned (.tuple #[])∧SpInv F w w'):=by
 intro k
 induction k with
 | zero =>
  intro w F v g hty hF hp hk
  obtain ⟨p,len,c,rfl,h0⟩:=hp
  have hl:len = 0:=by
   rcases h0 with h0 | ⟨g2,k,c2,fz2,h1,h2,h3,h4,h5⟩
   ·exact h0
   ·have:=hF g2 h2;omega
  subst hl
  have HI:Hid (SpInv F w w):=Lib.hid ⟨hty,SizeSame.refl _ _,TouchB.refl _ _,rfl⟩
  clear hty hF hk h0
  go_enter Tryz.func75,Tryz.ntmps75
  go_wp2_with fail
  refine wp_loop_rounds 1 ?_
  rw [rounds_succ]
  go_wp2_with fail
  go_end0
  exact ⟨rfl,HI.out⟩
 | succ k ih =>
  intro w F v g hty hF hp hk
  obtain ⟨p,len,c,rfl,h0⟩:=hp
  have HI:Hid (SpInv F w w):=Lib.hid ⟨hty,SizeSame.refl _ _,TouchB.refl _ _,rfl⟩
  rcases h0 with h0 | ⟨g2,q,c2,fz2,h1,h2,h3,h4,h5,h6⟩
  ·subst h0
   clear hty hF hk ih
   go_enter Tryz.func75,Tryz.ntmps75
   go_wp2_with fail
   refine wp_loop_rounds 1 ?_
   rw [rounds_succ]
   go_wp2_with fail
   go_end0
   exact ⟨rfl,HI.out⟩
  ·subst h1
   exact spoilRow hty h2 h4 h5 h6 (fun wr u h hp=>ih wr F u g2 h.1 (fun x hx=>by have:=hF x hx;have:=h.2.2.2;omega) hp (by have:=h.2.2.2;omega))
end Go.Proofs.YtfbggmbmgohiiaaGreat.tm
