/- TnL,TnM. No condition beyond theirs. -/
import Derived.Test.YtpnlnbolhkcnjaaGreatP45
set_option linter.unusedSimpArgs false
set_option linter.unusedVariables false
set_option maxHeartbeats 4000000
set_option maxRecDepth 100000
namespace Go.Proofs.YtpnlnbolhkcnjaaGreat.tm
open Go.RowKit mem names
def markF:TF:=⟨-7,4711,0,⟨#[115,112,97,114,101]⟩,⟨#[]⟩,0,⟨#[]⟩,0⟩
theorem mark41 (w:World):Calls Tryz.prog 158 #[] w (VPost (aggV markF nilV) w):=by
 unfold VPost aggV markF nilV;dsimp only;go_enter Tryz.func158,Tryz.ntmps158;go_wp2_with fail;exact bodyPost_ret (v:=(.agg #[.int .i64 (-7),.int .i64 4711,.int .i64 0,.string ⟨#[115,112,97,114,101]⟩,.string ⟨#[]⟩,.int .i64 0,.slice none 0 0,.string ⟨#[]⟩,.int .i64 0])) (by simp [results,Tryz.results158,go_sem, *]) rfl ⟨rfl,by (repeat' (first | with_reducible exact Below.refl _ _ | with_reducible refine Below.alloc ?_ ?_ _ | with_reducible exact Nat.le_refl _ | with_reducible refine Below.setCell ?_ ?_ _))⟩
def Spare (w:World) (g o:Nat):Prop:=Cells w g o markF nilV∧Cells w g (o + 9) markF nilV
def LentIn (w:World) (B:Nat) (F:Nat→Prop):(n:Nat)→Value→Value→List (Tm n)→Prop
 | 0,v0,v,_=>∃ p0 c0,v0 = .slice p0 0 c0∧c0 ≤ maxLen∧((p0 = none∧v = nilV)∨(p0 ≠ none∧∃ g o c,v = .slice (some ⟨g,o,none⟩) 0 c∧2 ≤ c∧c ≤ maxLen∧F g∧Spare w g o))
 | n + 1,v0,v,l=>∃ p0 c0,v0 = .slice p0 l.length c0∧l.length ≤ c0∧c0 ≤ maxLen∧((p0 = none∧v = nilV∧l = [])∨(p0 ≠ none∧∃ g o c,v = .slice (some ⟨g,o,none⟩) l.length c∧l.length + 2 ≤ c∧c ≤ maxLen∧F g∧Spare w g (o + l.length * 9) ∧
  ∀ j,(h:j < l.length)→∃ g0 o0 u0 u,p0 = some ⟨g0,o0,none⟩∧g0 < B∧Cells w g0 (o0 + j * 9) (l[j]).f u0∧Cells w g (o + j * 9) (l[j]).f u∧LentIn w B F n u0 u (l[j]).items))
theorem LentIn.mono {w w':World} {B:Nat} {F F':Nat→Prop} (hs:∀ g,F g→w'.heap[g]? = w.heap[g]?) (hB:∀ g,g < B→w'.heap[g]? = w.heap[g]?) (hF:∀ g,F g→F' g):∀ {n:Nat} {v0 v:Value} {l:List (Tm n)},LentIn w B F n v0 v l→LentIn w' B F' n v0 v l:=by
 intro n
 induction n with
 | zero =>
  intro v0 v l h;obtain ⟨p0,c0,e,h1,h2⟩:=h;refine ⟨p0,c0,e,h1,?_⟩
  rcases h2 with h2 | ⟨hp,g,o,c,e,h3,h4,h5,h6⟩
  ·exact .inl h2
  ·exact .inr ⟨hp,g,o,c,e,h3,h4,hF g h5,h6.1.same (hs g h5),h6.2.same (hs g h5)⟩
 | succ n ih =>
  intro v0 v l h;obtain ⟨p0,c0,e,h1,h1',h2⟩:=h;refine ⟨p0,c0,e,h1,h1',?_⟩
  rcases h2 with h2 | ⟨hp,g,o,c,e,h3,h4,h5,h6,h7⟩
  ·exact .inl h2
  ·refine .inr ⟨hp,g,o,c,e,h3,h4,hF g h5,⟨h6.1.same (hs g h5),h6.2.same (hs g h5)⟩,fun j hj=>?_⟩;obtain ⟨g0,o0,u0,u,e0,hg0,c1,c2,c3⟩:=h7 j hj;exact ⟨g0,o0,u0,u,e0,hg0,c1.same (hB g0 hg0),c2.same (hs g h5),ih c3⟩
theorem LentIn.toIn {w:World} {B:Nat} {F:Nat→Prop}:∀ {n:Nat} {v0 v:Value} {l:List (Tm n)},LentIn w B F n v0 v l→ItemsIn w F n v l:=by
 intro n
 induction n with
 | zero =>
  intro v0 v l h;obtain ⟨p0,c0,e,h1,h2⟩:=h
  rcases h2 with ⟨_,e⟩ | ⟨hp,g,o,c,e,h3,h4,h5,h6⟩
  ·exact ⟨none,0,e,Nat.zero_le _⟩
  ·exact ⟨_,c,e,h4⟩
 | succ n ih =>
  intro v0 v l h;obtain ⟨p0,c0,e,h1,h1',h2⟩:=h
  rcases h2 with ⟨_,ev,rfl⟩ | ⟨hp,g,o,c,e,h3,h4,h5,h6,h7⟩
  ·exact ⟨none,0,ev,Nat.zero_le _,Nat.zero_le _,fun h=>absurd rfl h⟩
  ·refine ⟨_,c,e,by omega,h4,fun _=>⟨g,o,rfl,h5,fun j hj=>?_⟩⟩;obtain ⟨g0,o0,u0,u,e0,hg0,c1,c2,c3⟩:=h7 j hj;exact ⟨u,c2,ih c3⟩
structure LentNew (w w':World) (B:Nat) (F:Nat→Prop) (n:Nat) (v0 v:Value) (l:List (Tm n)):Prop where
 items:LentIn w' B F n v0 v l
 inr:∀ g,F g→w.heap.size ≤ g∧g < w'.heap.size
 typed:Typed w' F
 ptr:∀ g,g < w.heap.size→PtrOK w' F g v
 below:Below w.heap.size w w'
theorem LentNew.touch {w W0 w1 w':World} {B:Nat} {F S:Nat→Prop} {n:Nat} {v0 u:Value} {l:List (Tm n)} (h:LentNew W0 w1 B F n v0 u l) (ht:TouchB S w1 w') (hS:∀ g,F g→¬ S g) (hb:Below w.heap.size w w') (hw:w.heap.size ≤ W0.heap.size) (hlow:B ≤ w.heap.size) (hw1:Below w.heap.size w w1):LentNew w w' B F n v0 u l:=by
 have hs:∀ g,F g→w'.heap[g]? = w1.heap[g]?:=fun g hg=>ht.block g (h.inr g hg).2 (hS g hg)
 refine ⟨h.items.mono hs (fun g hg=>(hb.block g (by omega)).trans (hw1.block g (by omega)).symm) (fun _ h=>h),fun g hg=>?_,h.typed.same hs,fun g hg=>?_,hb⟩
 ·have:=h.inr g hg;have:=ht.size;omega
 ·exact (h.ptr g (by omega)).mono hs (fun _ h=>h)
def LLPost {n:Nat} (B:Nat) (v0:Value) (l:List (Tm n)) (w:World) (e:Ending) (w':World):Prop:=∃ F p' c',e = .returned (.slice p' l.length c')∧LentNew w w' B F n v0 (.slice p' l.length c') l
def LTPost {n:Nat} (B:Nat) (f:TF) (v0:Value) (l:List (Tm n)) (w:World) (e:Ending) (w':World):Prop:=∃ F p' c',e = .returned (aggV f (.slice p' l.length c'))∧LentNew w w' B F n v0 (.slice p' l.length c') l
theorem lendT {n:Nat} (B:Nat) (x:TF) (p:Option Addr) (len c:Nat) (l:List (Tm n)) (w:World) (hlow:B ≤ w.heap.size) (hC:∀ W,Below w.heap.size w W→Calls Tryz.prog 89 #[.slice p len c] W (LLPost B (.slice p len c) l W)) :
 Calls Tryz.prog 32 #[aggV x (.slice p len c)] w (LTPost B x (.slice p len c) l w):=by
 have HC:=Lib.hid hC;clear hC;obtain ⟨k,i,gg,nm,fn,ar,by_,bt⟩:=x;unfold aggV;dsimp only;go_enter Tryz.func32,Tryz.ntmps32;go_wp2_with fail;obtain ⟨hN1,hN2,hbw,hsz⟩:=boxes2 w ⟨k,i,gg,nm,fn,ar,by_,bt⟩ zeroF (.slice p len c) nilV;unfold cells9 zeroF nilV at hN1 hN2 hbw hsz;dsimp only at hN1 hN2 hbw hsz;generalize ((w.alloc (.cells #[.int .i64 k,.int .i64 i,.int .i64 gg,.string nm,.string fn,.int .i64 ar,.slice p len c,.string by_,.int .i64 bt] 38)).alloc (.cells #[.int .i64 0,.int .i64 0,.int .i64 0,.string ⟨#[]⟩,.string ⟨#[]⟩,.int .i64 0,.slice none 0 0,.string ⟨#[]⟩,.int .i64 0] 38)) = W0 at *
 have HZ:Hid (W0.heap.size = w.heap.size + 2):=Lib.hid hsz;have HZ1:w.heap.size < W0.heap.size:=by omega
 have HZ2:w.heap.size + 1 < W0.heap.size:=by omega
 clear hsz;have HN1:=Lib.hid hN1;have HN2:=Lib.hid hN2;obtain ⟨x0,x1,x2,x3,x4,x5,x6,x7,x8,xz⟩:=hN1;obtain ⟨y0,y1,y2,y3,y4,y5,y6,y7,y8,yz⟩:=hN2;dsimp only at x0 x1 x2 x3 x4 x5 x6 x7 x8 y0 y1 y2 y3 y4 y5 y6 y7 y8;have HCW:=Lib.hid (HC.out W0 hbw);clear HC;go_wp2_with fail;refine HCW.out.mono ?_;rintro e w1 ⟨F,p',c',rfl,hnew⟩;have HNew:=Lib.hid hnew;have hb:=hnew.below;have HM1:=Lib.hid (HN1.out.below hb HZ1);have HM2:=Lib.hid (HN2.out.below hb HZ2);have hzz1:w.heap.size < w1.heap.size:=Nat.lt_of_lt_of_le HZ1 hb.size;have hzz2:w.heap.size + 1 < w1.heap.size:=Nat.lt_of_lt_of_le HZ2 hb.size
 have hbb:=hbw.trans (hb.mono hbw.size);clear x0 x1 x2 x3 x4 x5 x6 x7 x8 xz y0 y1 y2 y3 y4 y5 y6 y7 y8 yz hnew hb;obtain ⟨x0,x1,x2,x3,x4,x5,x6,x7,x8,xz⟩:=HM1.out;obtain ⟨y0,y1,y2,y3,y4,y5,y6,y7,y8,yz⟩:=HM2.out;dsimp only at x0 x1 x2 x3 x4 x5 x6 x7 x8 y0 y1 y2 y3 y4 y5 y6 y7 y8;go_wp2_with fail;have hz2:=HZ.out;have hinr:=HNew.out.inr
 refine bodyPost_ret (v:=(.agg #[.int .i64 k,.int .i64 i,.int .i64 gg,.string nm,.string fn,.int .i64 ar,.slice p' l.length c',.string by_,.int .i64 bt])) (by simp [results,Tryz.results32,go_sem, *]) rfl ⟨F,p',c',rfl,HNew.out.touch (S:=fun k=>k = w.heap.size∨k = w.heap.size + 1) (by (repeat' (first | with_reducible exact TouchB.refl _ _ | with_reducible refine TouchB.setCell ?_ _ _ (fun _=>Or.inl rfl) | with_reducible refine TouchB.setCell ?_ _ _ (fun _=>Or.inr rfl)))) (fun q hq=>by have:=hinr q hq;omega) (by (repeat' (first | with_reducible exact hbb | with_reducible refine Below.setCell ?_ ?_ _ | (simp;done) | (simp;omega)))) (by omega) hlow hbb⟩
def LentElt (w:World) (B:Nat) (F:Nat→Prop) (p0:Option Addr) (j:Nat):(n:Nat)→Tm n→TF→Value→Prop
 | 0,_,_,_=>False
 | n + 1,t,f,u=>∃ g0 o0 u0,p0 = some ⟨g0,o0,none⟩∧g0 < B∧Cells w g0 (o0 + j * 9) t.f u0∧t.f = f∧LentIn w B F n u0 u t.items
def LentEl {n:Nat} (B:Nat) (p0:Option Addr) (l:List (Tm n)) (w:World) (F:Nat→Prop) (j:Nat) (f:TF) (u:Value):Prop:=(∃ h:j < l.length,LentElt w B F p0 j n l[j] f u)∨(l.length ≤ j∧f = markF∧u = nilV)
theorem lentEl_mono {n:Nat} (B B':Nat) (hB:B ≤ B') (p0:Option Addr) (l:List (Tm n)):EMono B' (LentEl B p0 l):=by
 intro w w' F F' j f u h1 h2 h3 h
 rcases h with ⟨h,he⟩ | h
 ·refine .inl ⟨h,?_⟩;cases n with
  | zero=>exact he
  | succ n =>
   obtain ⟨g0,o0,u0,e,hg,hc,hf,hl⟩:=he;exact ⟨g0,o0,u0,e,hg,hc.same (h2 g0 (by omega)),hf,hl.mono h1 (fun g hg=>h2 g (by omega)) h3⟩
 ·exact .inr h
def LendS (n:Nat):Prop:=∀ (w:World) (B:Nat) (v:Value) (t:Tm (n + 1)),B ≤ w.heap.size→ItemsAt w B n v t.items→nodesT t ≤ 100000000→Calls Tryz.prog 32 #[aggV t.f v] w (LTPost B t.f v t.items w)
def LendLS (n:Nat):Prop:=∀ (w:World) (B:Nat) (v:Value) (l:List (Tm n)),B ≤ w.heap.size→ItemsAt w B n v l→nodesL n l ≤ 100000000→Calls Tryz.prog 89 #[v] w (LLPost B v l w)
def LEPost {n:Nat} (B:Nat) (p0:Option Addr) (l:List (Tm n)) (j:Nat) (x:TF) (m:Nat) (w:World) (e:Ending) (w':World):Prop :=
 ∃ F p' c',e = .returned (aggV x (.slice p' m c'))∧LentEl B p0 l w' F j x (.slice p' m c')∧(∀ q,F q→w.heap.size ≤ q∧q < w'.heap.size)∧Typed w' F∧(∀ q,q < w.heap.size→PtrOK w' F q (.slice p' m c'))∧Below w.heap.size w w'
theorem lendEl {n:Nat} (ih:∀ m,n = m + 1→LendS m) (w:World) (B:Nat) (p:Option Addr) (len c:Nat) (l:List (Tm n)) (hB:B ≤ w.heap.size) (h1:ItemsAt w B n (.slice p len c) l) (hs:nodesL n l ≤ 100000000) :
 ∀ j,(hj:j < l.length)→∃ g o x q m d,p = some ⟨g,o,none⟩∧g < w.heap.size∧Cells w g (o + j * 9) x (.slice q m d)∧∀ W,Below w.heap.size w W→Calls Tryz.prog 32 #[aggV x (.slice q m d)] W (LEPost B p l j x m W):=by
 cases n with
 | zero=>intro j hj;rw [Tm.nil0 l] at hj;exact absurd hj (by simp)
 | succ n =>
  intro j hj;obtain ⟨g,o,d,e,_,_,hg,hx⟩:=h1.at_ (by intro e;subst e;simp at hj);obtain ⟨u,hC,hI⟩:=hx j hj;simp only [Value.slice.injEq] at e;obtain ⟨q,c',rfl,_,_⟩:=hI.shape;have hn:=nodes_mem hj;refine ⟨g,o,l[j].f,q,_,c',e.1,by omega,hC,fun W hb=>?_⟩;refine (ih n rfl W B _ l[j] (Nat.le_trans hB hb.size) (hI.below hb hB) (by omega)).mono ?_;rintro e1 w' ⟨F,p',c1,rfl,hn⟩;exact ⟨F,p',c1,rfl,.inl ⟨hj,g,o,_,e.1,hg,(hC.same (hb.block g (by omega))).same (hn.below.block g (Nat.lt_of_lt_of_le (show g < w.heap.size by omega) hb.size)),rfl,hn.items⟩,hn.inr,hn.typed,hn.ptr,hn.below⟩
theorem LentIn.nil {w:World} {B:Nat} {F:Nat→Prop} {n c0:Nat} (hc:c0 ≤ maxLen):LentIn w B F n (.slice none 0 c0) nilV ([]:List (Tm n)):=by
 cases n with
 | zero=>exact ⟨none,c0,rfl,hc,.inl ⟨rfl,rfl⟩⟩
 | succ n=>exact ⟨none,c0,rfl,Nat.zero_le _,hc,.inl ⟨rfl,rfl,rfl⟩⟩
theorem ItemsAt.none_nil {w:World} {B n m c:Nat} {l:List (Tm n)} (h:ItemsAt w B n (.slice none m c) l):l = []:=by
 cases n with
 | zero=>exact Tm.nil0 l
 | succ n =>
  obtain ⟨p,c',e,_,_,h3⟩:=h;simp only [Value.slice.injEq] at e
  by_cases hl:l = []
  ·exact hl
  ·obtain ⟨g,o,e2,_⟩:=h3 hl;rw [← e.1] at e2;cases e2
theorem RowInv.marks {E:World→(Nat→Prop)→Nat→TF→Value→Prop} {w wr:World} {cap k:Nat} {rs:List (TF × Value)} {F:Nat→Prop} (hE:EMono w.heap.size E) (h:RowInv E w wr cap k rs F) {w3 w4:World} (hb:Below wr.heap.size wr w3) (h1:∀ j F w,k ≤ j→E w F j markF nilV)
 (hg:w3.grownBy w4 (some w.heap.size)) (hown:w4.ownsRow w.heap.size 38 9 (.slice (some ⟨w.heap.size,0,none⟩) (k + 2) cap) (k + 2) (flatR rs ++ (nineL markF nilV ++ nineL markF nilV))):RowInv E w w4 cap (k + 2) (rs ++ [(markF,nilV),(markF,nilV)]) F:=by
 have hlt:=h.lt;have hsz:=hb.size;have hs3:∀ g,F g→w3.heap[g]? = wr.heap[g]?:=fun g hg=>hb.block g (h.inr g hg).2;have hs4:∀ g,F g→w4.heap[g]? = wr.heap[g]?:=fun g hF=>(hg.block g (by have:=(h.inr g hF).2;omega) (by have:=(h.inr g hF).1;simp;omega)).trans (hs3 g hF);have hl:=h.len;have hg4:=hg.size
 refine ⟨?_,by simp [hl],fun j hj=>?_,h.typed.same hs4,fun g hF=>?_,?_,by omega⟩
 ·rw [flatR_append];have e:flatR [(markF,nilV),(markF,nilV)] = nineL markF nilV ++ nineL markF nilV:=by simp [flatR]
  rw [e];exact hown
 ·by_cases e:j < rs.length
  ·rw [List.getElem_append_left e];obtain ⟨a1,a2⟩:=h.elt j e;exact ⟨hE _ _ _ _ _ _ _ hs4 (fun g hg'=>(hg.block g (by omega) (by simp;omega)).trans (hb.block g (by omega))) (fun _ h=>h) a1,a2.mono hs4 (fun _ h=>h)⟩
  ·have e2:(rs ++ [(markF,nilV),(markF,nilV)])[j] = (markF,nilV):=by
    rw [List.getElem_append_right (by omega)];rcases (show j = rs.length∨j = rs.length + 1 by simp at hj;omega) with rfl | rfl <;> simp
   rw [e2];exact ⟨h1 j _ _ (by omega),PtrOK.nil⟩
 ·have:=h.inr g hF;omega
 ·have hb1:=h.below.trans (hb.mono (by omega));exact ⟨hg.os.trans hb1.os,hg.tape.trans hb1.tape,hg.output.trans hb1.output,Nat.le_trans hb1.size hg.size,fun q hq=>(hg.block q (by omega) (by simp;omega)).trans (hb1.block q hq)⟩
theorem LentIn.mk {n:Nat} {w:World} {F:Nat→Prop} {B g cap c0:Nat} {a0:Addr} (l:List (Tm n)) (rs:List (TF × Value)) (hl:rs.length = l.length + 2) (hc:l.length + 2 ≤ cap) (hm:cap ≤ maxLen) (hF:F g) (h0:l.length ≤ c0) (h0':c0 ≤ maxLen)
 (h:∀ j,(hj:j < rs.length)→Cells w g (j * 9) rs[j].1 rs[j].2∧LentEl B (some a0) l w F j rs[j].1 rs[j].2):LentIn w B F n (.slice (some a0) l.length c0) (.slice (some ⟨g,0,none⟩) l.length cap) l:=by
 have hsp:Spare w g (l.length * 9):=by
  obtain ⟨a1,a2⟩:=h l.length (by omega);obtain ⟨b1,b2⟩:=h (l.length + 1) (by omega)
  rcases a2 with ⟨h,_⟩ | ⟨_,e1,e2⟩
  ·omega
  rcases b2 with ⟨h,_⟩ | ⟨_,e3,e4⟩
  ·omega
  rw [e1,e2] at a1;rw [e3,e4,Nat.add_mul,Nat.one_mul] at b1;exact ⟨a1,b1⟩
 cases n with
 | zero =>
  have:=Tm.nil0 l;subst this;exact ⟨_,_,rfl,h0',.inr ⟨by simp,g,0,cap,rfl,by simpa using hc,hm,hF,by simpa using hsp⟩⟩
 | succ n =>
  refine ⟨_,_,rfl,h0,h0',.inr ⟨by simp,g,0,cap,rfl,hc,hm,hF,by simpa using hsp,fun j hj=>?_⟩⟩;obtain ⟨h1,h2⟩:=h j (by omega)
  rcases h2 with ⟨_,g0,o0,u0,e0,hg0,hc0,hf,hli⟩ | ⟨h,_⟩
  ·refine ⟨g0,o0,u0,_,e0,hg0,hc0,?_,hli⟩;rw [Nat.zero_add,hf];exact h1
  ·omega
theorem mark2_cell (w:World):∀ j u,(nineL markF nilV ++ nineL markF nilV)[j]? = some u→(w.alloc (.cells #[.int .i64 (-7),.int .i64 4711,.int .i64 0,.string ⟨#[115,112,97,114,101]⟩,.string ⟨#[]⟩,.int .i64 0,.slice none 0 0,.string ⟨#[]⟩,.int .i64 0,.int .i64 (-7),.int .i64 4711,.int .i64 0,.string ⟨#[115,112,97,114,101]⟩,.string ⟨#[]⟩,.int .i64 0,.slice none 0 0,.string ⟨#[]⟩,.int .i64 0] 38)).cell? ((⟨w.heap.size,0,none⟩:Addr).add j) = some u :=
 fun j u hj=>by
  have hA:=(MapKept.heap_alloc w (.cells #[.int .i64 (-7),.int .i64 4711,.int .i64 0,.string ⟨#[115,112,97,114,101]⟩,.string ⟨#[]⟩,.int .i64 0,.slice none 0 0,.string ⟨#[]⟩,.int .i64 0,.int .i64 (-7),.int .i64 4711,.int .i64 0,.string ⟨#[115,112,97,114,101]⟩,.string ⟨#[]⟩,.int .i64 0,.slice none 0 0,.string ⟨#[]⟩,.int .i64 0] 38)).1;rw [Addr.add_lit,Nat.zero_add,cell_of_row _ _ _ _ _ _ hA,← hj];unfold nineL markF nilV;simp
theorem mark2_one:∀ u ∈ nineL markF nilV ++ nineL markF nilV,u.oneCell' = true:=by
 intro u hu
 rcases List.mem_append.1 hu with hu | hu
 ·exact nine_one _ _ _ _ u hu
 ·exact nine_one _ _ _ _ u hu
set_option maxHeartbeats 1000000 in
theorem lendStep {n:Nat} (ih:∀ m,n = m + 1→LendS m):LendLS n:=by
 intro w B v l hB h1 hs;have hlen:=nodes_len n l;obtain ⟨p,c,rfl,hc,hm⟩:=h1.shape;have HP:=Lib.hid (lendEl ih w B p l.length c l hB h1 hs);have hle:l.length ≤ 100000000:=by omega
 have hle2:(l.length:Int) ≤ 100000000:=by omega
 obtain ⟨i0,hi0,hz0,hz1,hz2⟩:=info_parts info24;cases p with
 | none =>
  have:=h1.none_nil;subst this;have q22:=fun w=>Lib.run_eql_slice_nil (P:=Tryz.prog) w 36 38 none 0 c 0 0 Tryz.underlying36;clear HP ih h1 hs hlen hle hle2;go_enter Tryz.func89,Tryz.ntmps89;go_wp2_with fail;go_ret;exact ⟨fun _=>False,none,0,rfl,LentIn.nil hm,fun g h=>h.elim,fun g h=>h.elim,fun g _=>PtrOK.nil,Below.refl _ _⟩
 | some a0 =>
 have q22:=fun w=>Lib.run_eql_slice_nil (P:=Tryz.prog) w 36 38 (some a0) l.length c 0 0 Tryz.underlying36;have HC0:Hid (l.length ≤ c∧c ≤ maxLen):=Lib.hid ⟨hc,hm⟩;have hmk:=fun W=>make24 W ((l.length:Int) + 2) (l.length + 2) (by omega) (by omega);clear ih h1 hs hlen hc hm;go_enter Tryz.func89,Tryz.ntmps89;go_wp2_with fail
 have HI:RowInv (LentEl B (some a0) l) w (w.alloc (.cells (madeCells #[.int .i64 0,.int .i64 0,.int .i64 0,.string ⟨#[]⟩,.string ⟨#[]⟩,.int .i64 0,.slice none 0 0,.string ⟨#[]⟩,.int .i64 0] ((l.length + 2) * 9)) 38)) (l.length + 2) 0 [] (fun _=>False):=RowInv.start _ (by unfold maxLen;omega) (size_madeCells _ _);generalize (w.alloc (.cells (madeCells #[.int .i64 0,.int .i64 0,.int .i64 0,.string ⟨#[]⟩,.string ⟨#[]⟩,.int .i64 0,.slice none 0 0,.string ⟨#[]⟩,.int .i64 0] ((l.length + 2) * 9)) 38)) = w0 at *
 go_loopw [3,4] (fun s t wr=>∃ (k:Nat) (rs:List (TF × Value)) (F:Nat→Prop),s = .slice (some ⟨w.heap.size,0,none⟩) k (l.length + 2)∧t = .int .i64 k∧k ≤ l.length∧Hid (RowInv (LentEl B (some a0) l) w wr (l.length + 2) k rs F)) (fun _ t _=>l.length - (intOf t).toNat)
 case atStart=>exact ⟨0,[],fun _=>False,rfl,rfl,by omega,Lib.hid HI⟩
 case round =>
  obtain ⟨k,rs,F,rfl,rfl,hk,HR⟩:=hrel
  by_cases hlt:k < l.length
  ·obtain ⟨g,o,x,q,m,d,e0,hg,hC,hCall⟩:=HP.out k hlt;simp only [Option.some.injEq] at e0;subst e0;have HCall:=Lib.hid hCall;clear hCall;have hC:=hC.same (HR.out.below.block g hg);have hgr:g < wr.heap.size:=Nat.lt_of_lt_of_le hg HR.out.below.size;obtain ⟨x0,x1,x2,x3,x4,x5,x6,x7,x8⟩:=hC;obtain ⟨kk,ii,gg,nm,fn,ar,by_,bt⟩:=x;dsimp only at x0 x1 x2 x3 x4 x5 x6 x7 x8;unfold LEPost aggV at HCall;dsimp only at HCall;go_wp2_with fail;refine (HCall.out _ HR.out.below).mono ?_;rintro e w2 ⟨F',p',c',rfl,hE,hin,hty,hpt,hb2⟩
   have hb3:Below w2.heap.size w2 (w2.alloc (cells9 ⟨kk,ii,gg,nm,fn,ar,by_,bt⟩ (.slice p' m c'))):=(Below.refl _ _).alloc (Nat.le_refl _) _;have hbw3:Below wr.heap.size wr (w2.alloc (cells9 ⟨kk,ii,gg,nm,fn,ar,by_,bt⟩ (.slice p' m c'))):=hb2.trans (hb3.mono hb2.size);have HS:∀ g,F' g→(w2.alloc (cells9 ⟨kk,ii,gg,nm,fn,ar,by_,bt⟩ (.slice p' m c'))).heap[g]? = w2.heap[g]?:=fun g hg=>hb3.block g (hin g hg).2;have HE:=Lib.hid (lentEl_mono B w.heap.size hB _ l _ _ _ _ _ _ _ HS (fun g hg=>hb3.block g (Nat.lt_of_lt_of_le hg (Nat.le_trans HR.out.below.size hb2.size))) (fun _ h=>h) hE)
   have HPt:=Lib.hid ((hpt w.heap.size HR.out.lt).mono HS (fun _ h=>h));have HTy:=Lib.hid (hty.same HS);have HIn:Hid (∀ g,F' g→wr.heap.size ≤ g∧g < (w2.alloc (cells9 ⟨kk,ii,gg,nm,fn,ar,by_,bt⟩ (.slice p' m c'))).heap.size):=Lib.hid (fun g hg=>by have:=hin g hg;simp at this ⊢;omega);have HOwn:=Lib.hid (HR.out.ownAt hbw3);have HNC:=Lib.hid (nine_cell w2 ⟨kk,ii,gg,nm,fn,ar,by_,bt⟩ (.slice p' m c'));have HNO:=Lib.hid (nine_one ⟨kk,ii,gg,nm,fn,ar,by_,bt⟩ p' m c');have HBW:=Lib.hid hbw3;clear hE hin hty hpt hb2 hb3 hbw3 HS;unfold cells9 at HE HPt HTy HIn HOwn HNC HBW
   dsimp only at HE HPt HTy HIn HOwn HNC HBW;go_wp2_with (at_builtin;refine wpList_append_fits rfl (.tmp 17) (.tmp 23) 36 rfl w.heap.size 38 i0 9 Tryz.underlying36 hi0 hz1 w.heap.size k (l.length + 2) (flatR rs) rfl HOwn.out ⟨w2.heap.size,0,none⟩ 1 1 (nineL ⟨kk,ii,gg,nm,fn,ar,by_,bt⟩ (.slice p' m c')) rfl rfl HNC.out HNO.out (by omega) ?_;intro w4 hown4 hg4)
   have HNext:=Lib.hid (HR.out.next (lentEl_mono B w.heap.size hB _ l) HBW.out HE.out HPt.out HTy.out HIn.out hg4 hown4);go_roundw
   case rel=>exact ⟨k + 1,_,_,rfl,by go_num,by omega,HNext⟩
   case measure=>simp [intOf];omega
  ·obtain rfl:k = l.length:=by omega
   have HM:=Lib.hid (fun W=>mark41 W);unfold VPost aggV markF nilV at HM;dsimp only at HM;go_wp2_with fail;refine (HM.out _).mono ?_;rintro e w1 ⟨rfl,hb1⟩;go_wp2_with fail;refine (HM.out _).mono ?_;rintro e w2 ⟨rfl,hb2⟩;have hb12:=hb1.trans (hb2.mono hb1.size)
   have HB3:Hid (Below wr.heap.size wr (w2.alloc (.cells #[.int .i64 (-7),.int .i64 4711,.int .i64 0,.string ⟨#[115,112,97,114,101]⟩,.string ⟨#[]⟩,.int .i64 0,.slice none 0 0,.string ⟨#[]⟩,.int .i64 0,.int .i64 (-7),.int .i64 4711,.int .i64 0,.string ⟨#[115,112,97,114,101]⟩,.string ⟨#[]⟩,.int .i64 0,.slice none 0 0,.string ⟨#[]⟩,.int .i64 0] 38))):=Lib.hid (hb12.alloc hb12.size _);have HOwn:=Lib.hid (HR.out.ownAt HB3.out);have HNC:=Lib.hid (mark2_cell w2);clear hb1 hb2 hb12;have hq1:(l.length:Int) ≤ ((l.length + 2:Nat):Int):=by omega
   have hq2:(0:Int) ≤ (l.length:Int):=by omega
   go_wp2_with (at_builtin;refine wpList_append_fits rfl (.tmp 25) (.tmp 28) 36 rfl w.heap.size 38 i0 9 Tryz.underlying36 hi0 hz1 w.heap.size l.length (l.length + 2) (flatR rs) rfl HOwn.out ⟨w2.heap.size,0,none⟩ 2 2 (nineL markF nilV ++ nineL markF nilV) rfl rfl HNC.out mark2_one (by omega) ?_;intro w4 hown4 hg4)
   have HMk:=Lib.hid (HR.out.marks (lentEl_mono B w.heap.size hB _ l) HB3.out (fun j F w h=>.inr ⟨h,rfl,rfl⟩) hg4 hown4);go_ret;have hr:=HMk.out;have hc0:=HC0.out
   refine ⟨fun g=>F g∨g = w.heap.size,some ⟨w.heap.size,0,none⟩,l.length + 2,rfl,?_,fun q hq=>?_,hr.full rfl,fun q hq=>hr.root l.length (by omega) q hq,hr.below⟩
   ·exact LentIn.mk l _ hr.len (Nat.le_refl _) (by unfold maxLen;omega) (.inr rfl) hc0.1 hc0.2 (fun j hj=>⟨hr.cells j hj,lentEl_mono B w.heap.size hB _ l w4 w4 F _ _ _ _ (fun _ _=>rfl) (fun _ _=>rfl) (fun _ h=>.inl h) (hr.elt j hj).1⟩)
   ·rcases hq with hq | rfl
    ·have:=hr.inr q hq;omega
    ·exact ⟨Nat.le_refl _,hr.lt⟩
theorem lendTStep {n:Nat} (hC:LendLS n):LendS n:=by
 intro w B v t hB h1 hs;have h2:=fun W (hb:Below w.heap.size w W)=>hC W B v t.items (Nat.le_trans hB hb.size) (h1.below hb hB) (by unfold nodesT at hs;omega);obtain ⟨p,c,rfl,hc,hm⟩:=h1.shape;exact lendT B t.f p t.items.length c t.items w hB h2
theorem lendLAll:∀ n,LendLS n
 | 0=>lendStep (fun m h=>by omega)
 | n + 1=>lendStep (fun m h=>by
  obtain rfl:n = m:=by omega
  exact lendTStep (lendLAll n))
theorem lendAll (n:Nat):LendS n:=lendTStep (lendLAll n)
end Go.Proofs.YtpnlnbolhkcnjaaGreat.tm
