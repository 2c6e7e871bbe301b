/- Texts of this seat, one behind the other: TcY, TdA, TnL, TnM, TnN, TcZ, TkB. No condition beyond theirs. -/
import Derived.Test.YtfbggmbmgohiiaaGreatK43
import Derived.Test.YtfbggmbmgohiiaaGreatK49
import Derived.Test.YtfbggmbmgohiiaaGreatK26
import Derived.WalkSpells
import Derived.Test.YtfbggmbmgohiiaaGreatK03
import Derived.Test.YtfbggmbmgohiiaaGreatK48
set_option linter.unusedSimpArgs false
set_option linter.unusedVariables false
set_option maxHeartbeats 4000000
set_option maxRecDepth 100000
namespace Go.Proofs.YtfbggmbmgohiiaaGreat.tb
open Go.RowKit mem rec tm names
theorem valid_flatN {N:Nat} {f:TF} (h1:inB f.kind 0 10 = true) (h2:okF f 0 (lastK N ([]:List (Tm N))) = true) (h3:{ bareF f with kind:=0 } = zeroF) (h4:sizeF f 0 ≤ 2000):validT (Tm.mk (n:=N) f []) = true:=by
 have e1:(Tm.mk (n:=N) f []).f = f:=rfl
 have e2:(Tm.mk (n:=N) f []).items = []:=rfl
 have h3':bareOK f 0 = true:=by
  unfold bareOK
  rw [eqB_t h3]
  simp
 have e3:formedL N [] = true:=by unfold formedL;cases N <;> rfl
 have e4:wholeL N [] = 0:=by unfold wholeL;cases N <;> rfl
 unfold validT formedT okT wholeT
 rw [e1,e2,e3,e4]
 simp only [List.length_nil,h1,h2,h3',Bool.and_self,Bool.true_and,decide_eq_true_eq]
 omega
theorem lastK_nil {N:Nat}:lastK N ([]:List (Tm N)) = lastK 0 ([]:List (Tm 0)):=by cases N <;> rfl
theorem ref_validN {N:Nat} (k:Int) (h:1 ≤ k∧k ≤ 1000):validT (refT (N:=N) k) = true:=by
 refine valid_flatN (by kernel_rfl) ?_ rfl (by show (1:Int) ≤ 2000;decide)
 rw [lastK_nil]
 have h1:inB k 1 1000 = true:=by unfold inB;simp;omega
 unfold okF
 simp only
 have hv:vName nmN = true:=by kernel_rfl
 have h2:∀ a b:Int,a ≤ 1→1000 ≤ b→inB k a b = true:=fun a b ha hb=>by unfold inB;simp;omega
 have h5:inB 1 1 2147483647 = true:=by kernel_rfl
 simp [h2,hv,h5]
 try (unfold inB;simp;omega)
theorem pid_validN {N:Nat} (k:Int) (h:1 ≤ k∧k ≤ 1000):validT (pidT (N:=N) k) = true:=by
 refine valid_flatN (by kernel_rfl) ?_ rfl (by show (1:Int) ≤ 2000;decide)
 rw [lastK_nil]
 unfold okF
 simp only
 have hv:vName nmN = true:=by kernel_rfl
 have h2:∀ a b:Int,a ≤ 1→1000 ≤ b→inB k a b = true:=fun a b ha hb=>by unfold inB;simp;omega
 have h5:inB 1 1 2147483647 = true:=by kernel_rfl
 simp [h2,hv,h5]
 try (unfold inB;simp;omega)
theorem flat_nodesN {N:Nat} (f:TF):nodesT (Tm.mk (n:=N) f []) ≤ 100000000:=by
 unfold nodesT
 have:(Tm.mk (n:=N) f []).items = []:=rfl
 rw [this]
 cases N <;> (unfold nodesL;simp)
section
variable {N:Nat}
def two {N:Nat} (hs:Bool) (R:List (Tm (N + 1) × Tm (N + 1))):List (TabA N):=[⟨refT 1,pidT 1,hs,R⟩,⟨refT 2,pidT 1,!hs,[]⟩]
variable {hs:Bool} {R:List (Tm (N + 1) × Tm (N + 1))} {k v:Tm (N + 1)}
theorem two_make1:makeE ([]:List (TabA N)) (refT 1) (pidT 1) = 0:=by
 unfold makeE refA
 rw [ref_validN 1 (by decide),pid_validN 1 (by decide)]
 rfl
theorem two_make1A (hs:Bool):makeA ([]:List (TabA N)) (refT 1) (pidT 1) hs = [⟨refT 1,pidT 1,hs,[]⟩]:=by unfold makeA;rw [if_pos two_make1];rfl
structure GoodR (hs:Bool) (R:List (Tm (N + 1) × Tm (N + 1))):Prop where
 sd:SortR (cmpH hs) R
 vd:∀ x ∈ R,Vd x.1
theorem GoodR.nil:GoodR (N:=N) hs []:=⟨List.Pairwise.nil,fun x hx=>(nomatch hx)⟩
theorem GoodR.put (h:GoodR hs R) (hk:validT k = true) (v:Tm (N + 1)):GoodR hs (putR (cmpH hs) R k v):=by
 refine ⟨putR_sort (ordH hs) h.sd hk h.vd v,fun x hx=>?_⟩
 obtain ⟨a,b⟩:=x
 rcases (putR_mem (ordH hs) h.sd hk h.vd v a b).1 hx with ⟨rfl,_⟩ | ⟨_,hx⟩
 ·exact hk
 ·exact h.vd _ hx
theorem GoodR.has (h:GoodR hs R):hasR (cmpH hs) R k = true↔∃ v,getR (cmpH hs) R k = some v:=by
 rw [hasR_iff (ordH hs) h.sd]
 exact ⟨fun ⟨v,hv⟩=>⟨v,(getR_iff (ordH hs) h.sd).2 hv⟩,fun ⟨v,hv⟩=>⟨v,(getR_iff (ordH hs) h.sd).1 hv⟩⟩
end
structure LSt {N:Nat} (w:World) (z:Nat) (A:List (TabA N)) (W:World):Prop where
 st:StG w.heap.size z A W
 tt:TT progT w.heap.size w W
section
variable {N:Nat} {w W W':World} {z:Nat} {A A':List (TabA N)}
theorem LSt.below (h:LSt w z A W) (hb:Below W.heap.size W W'):LSt w z A W':=⟨h.st.below hb,h.tt.ofBelow hb⟩
theorem LSt.base (h:LSt w z A W):Below w.heap.size w W:=h.tt.below (Nat.le_refl _)
theorem LSt.size (h:LSt w z A W):w.heap.size ≤ W.heap.size:=h.base.size
theorem l_new (hb:Below w.heap.size w W):Calls Tryz.prog 16 #[] W fun e w'=>∃ z,e = .returned (.pointer (some ⟨z,0,none⟩))∧LSt (N:=N) w z [] w':=by
 refine (new16 (N:=N) W w.heap.size hb.size).mono ?_
 rintro e w' ⟨rfl,h1,h2⟩
 exact ⟨_,rfl,⟨_,nilV,[],h1,rfl,fun t ht=>(nomatch ht)⟩,(TT.new hb).ofBelow h2⟩
theorem l_make (h:LSt w z A W) (hs:SmA A) (r o:TF) (hf:Bool) {e0:Int} {A':List (TabA N)} (h1:makeE A (Tm.mk r []) (Tm.mk o []) = e0) (h2:makeA A (Tm.mk r []) (Tm.mk o []) hf = A') :
 Calls Tryz.prog 17 #[.pointer (some ⟨z,0,none⟩),aggV r nilV,aggV o nilV,.bool hf] W fun e w'=>e = .returned (.int .i64 e0)∧LSt w z A' w':=by
 subst h1 h2
 refine (g_make h.st hs h.size (B2:=0) (Nat.zero_le _) (r:=Tm.mk r []) (o:=Tm.mk o []) (flat_items W 0) (flat_items W 0) (flat_nodesN r) (flat_nodesN o) hf).mono ?_
 rintro e w' ⟨rfl,h3,h4⟩
 exact ⟨rfl,h3,h.tt.trans h4⟩
variable {hs:Bool} {l:List (Tm (N + 1))} {R:List (Tm (N + 1) × Tm (N + 1))} {U:List (Tm (N + 1))}
theorem l_make1 (h:LSt (N:=N) w z [] W) (hs:Bool):Calls Tryz.prog 17 #[.pointer (some ⟨z,0,none⟩),aggV (refT (N:=N) 1).f nilV,aggV (pidT (N:=N) 1).f nilV,.bool hs] W fun e w'=>e = .returned (.int .i64 0)∧LSt (N:=N) w z [⟨refT 1,pidT 1,hs,[]⟩] w' :=
 l_make h ⟨by simp,fun a ha=>(nomatch ha)⟩ _ _ hs two_make1 (two_make1A hs)
end
end Go.Proofs.YtfbggmbmgohiiaaGreat.tb
namespace Go.Proofs.YtfbggmbmgohiiaaGreat.tm
open Go.RowKit mem names
def markF:TF:=⟨-7,4711,0,⟨#[115,112,97,114,101]⟩,⟨#[]⟩,0,⟨#[]⟩,0⟩
theorem mark41 (w:World):Calls Tryz.prog 76 #[] w (VPost (aggV markF nilV) w):=by
 unfold VPost aggV markF nilV
 dsimp only
 go_enter Tryz.func76,Tryz.ntmps76
 go_wp2_with fail
 exact bodyPost_ret (v:=(.agg #[.int .i64 (-7),.int .i64 4711,.int .i64 0,.string ⟨#[115,112,97,114,101]⟩,.string ⟨#[]⟩,.int .i64 0,.slice none 0 0,.string ⟨#[]⟩,.int .i64 0])) (by simp [results,Tryz.results76,go_sem, *]) rfl ⟨rfl,by (repeat' (first | with_reducible exact Below.refl _ _ | with_reducible refine Below.alloc ?_ ?_ _ | with_reducible exact Nat.le_refl _ | with_reducible refine Below.setCell ?_ ?_ _))⟩
def Spare (w:World) (g o:Nat):Prop:=Cells w g o markF nilV∧Cells w g (o + 9) markF nilV
def LentIn (w:World) (B:Nat) (F:Nat→Prop):(n:Nat)→Value→Value→List (Tm n)→Prop
 | 0,v0,v,_=>∃ p0 c0,v0 = .slice p0 0 c0∧c0 ≤ maxLen∧((p0 = none∧v = nilV)∨(p0 ≠ none∧∃ g o c,v = .slice (some ⟨g,o,none⟩) 0 c∧2 ≤ c∧c ≤ maxLen∧F g∧Spare w g o))
 | n + 1,v0,v,l=>∃ p0 c0,v0 = .slice p0 l.length c0∧l.length ≤ c0∧c0 ≤ maxLen∧((p0 = none∧v = nilV∧l = [])∨(p0 ≠ none∧∃ g o c,v = .slice (some ⟨g,o,none⟩) l.length c∧l.length + 2 ≤ c∧c ≤ maxLen∧F g∧Spare w g (o + l.length * 9) ∧
  ∀ j,(h:j < l.length)→∃ g0 o0 u0 u,p0 = some ⟨g0,o0,none⟩∧g0 < B∧Cells w g0 (o0 + j * 9) (l[j]).f u0∧Cells w g (o + j * 9) (l[j]).f u∧LentIn w B F n u0 u (l[j]).items))
theorem LentIn.mono {w w':World} {B:Nat} {F F':Nat→Prop} (hs:∀ g,F g→w'.heap[g]? = w.heap[g]?) (hB:∀ g,g < B→w'.heap[g]? = w.heap[g]?) (hF:∀ g,F g→F' g):∀ {n:Nat} {v0 v:Value} {l:List (Tm n)},LentIn w B F n v0 v l→LentIn w' B F' n v0 v l:=by
 intro n
 induction n with
 | zero =>
  intro v0 v l h
  obtain ⟨p0,c0,e,h1,h2⟩:=h
  refine ⟨p0,c0,e,h1,?_⟩
  rcases h2 with h2 | ⟨hp,g,o,c,e,h3,h4,h5,h6⟩
  ·exact .inl h2
  ·exact .inr ⟨hp,g,o,c,e,h3,h4,hF g h5,h6.1.same (hs g h5),h6.2.same (hs g h5)⟩
 | succ n ih =>
  intro v0 v l h
  obtain ⟨p0,c0,e,h1,h1',h2⟩:=h
  refine ⟨p0,c0,e,h1,h1',?_⟩
  rcases h2 with h2 | ⟨hp,g,o,c,e,h3,h4,h5,h6,h7⟩
  ·exact .inl h2
  ·refine .inr ⟨hp,g,o,c,e,h3,h4,hF g h5,⟨h6.1.same (hs g h5),h6.2.same (hs g h5)⟩,fun j hj=>?_⟩
   obtain ⟨g0,o0,u0,u,e0,hg0,c1,c2,c3⟩:=h7 j hj
   exact ⟨g0,o0,u0,u,e0,hg0,c1.same (hB g0 hg0),c2.same (hs g h5),ih c3⟩
theorem LentIn.toIn {w:World} {B:Nat} {F:Nat→Prop}:∀ {n:Nat} {v0 v:Value} {l:List (Tm n)},LentIn w B F n v0 v l→ItemsIn w F n v l:=by
 intro n
 induction n with
 | zero =>
  intro v0 v l h
  obtain ⟨p0,c0,e,h1,h2⟩:=h
  rcases h2 with ⟨_,e⟩ | ⟨hp,g,o,c,e,h3,h4,h5,h6⟩
  ·exact ⟨none,0,e,Nat.zero_le _⟩
  ·exact ⟨_,c,e,h4⟩
 | succ n ih =>
  intro v0 v l h
  obtain ⟨p0,c0,e,h1,h1',h2⟩:=h
  rcases h2 with ⟨_,ev,rfl⟩ | ⟨hp,g,o,c,e,h3,h4,h5,h6,h7⟩
  ·exact ⟨none,0,ev,Nat.zero_le _,Nat.zero_le _,fun h=>absurd rfl h⟩
  ·refine ⟨_,c,e,by omega,h4,fun _=>⟨g,o,rfl,h5,fun j hj=>?_⟩⟩
   obtain ⟨g0,o0,u0,u,e0,hg0,c1,c2,c3⟩:=h7 j hj
   exact ⟨u,c2,ih c3⟩
structure LentNew (w w':World) (B:Nat) (F:Nat→Prop) (n:Nat) (v0 v:Value) (l:List (Tm n)):Prop where
 items:LentIn w' B F n v0 v l
 inr:∀ g,F g→w.heap.size ≤ g∧g < w'.heap.size
 typed:Typed w' F
 ptr:∀ g,g < w.heap.size→PtrOK w' F g v
 below:Below w.heap.size w w'
theorem LentNew.touch {w W0 w1 w':World} {B:Nat} {F S:Nat→Prop} {n:Nat} {v0 u:Value} {l:List (Tm n)} (h:LentNew W0 w1 B F n v0 u l) (ht:TouchB S w1 w') (hS:∀ g,F g→¬ S g) (hb:Below w.heap.size w w') (hw:w.heap.size ≤ W0.heap.size) (hlow:B ≤ w.heap.size) (hw1:Below w.heap.size w w1):LentNew w w' B F n v0 u l:=by
 have hs:∀ g,F g→w'.heap[g]? = w1.heap[g]?:=fun g hg=>ht.block g (h.inr g hg).2 (hS g hg)
 refine ⟨h.items.mono hs (fun g hg=>(hb.block g (by omega)).trans (hw1.block g (by omega)).symm) (fun _ h=>h),fun g hg=>?_,h.typed.same hs,fun g hg=>?_,hb⟩
 ·have:=h.inr g hg
  have:=ht.size
  omega
 ·exact (h.ptr g (by omega)).mono hs (fun _ h=>h)
def LLPost {n:Nat} (B:Nat) (v0:Value) (l:List (Tm n)) (w:World) (e:Ending) (w':World):Prop:=∃ F p' c',e = .returned (.slice p' l.length c')∧LentNew w w' B F n v0 (.slice p' l.length c') l
def LTPost {n:Nat} (B:Nat) (f:TF) (v0:Value) (l:List (Tm n)) (w:World) (e:Ending) (w':World):Prop:=∃ F p' c',e = .returned (aggV f (.slice p' l.length c'))∧LentNew w w' B F n v0 (.slice p' l.length c') l
theorem lendT {n:Nat} (B:Nat) (x:TF) (p:Option Addr) (len c:Nat) (l:List (Tm n)) (w:World) (hlow:B ≤ w.heap.size) (hC:∀ W,Below w.heap.size w W→Calls Tryz.prog 45 #[.slice p len c] W (LLPost B (.slice p len c) l W)) :
 Calls Tryz.prog 11 #[aggV x (.slice p len c)] w (LTPost B x (.slice p len c) l w):=by
 have HC:=Lib.hid hC
 clear hC
 obtain ⟨k,i,gg,nm,fn,ar,by_,bt⟩:=x
 unfold aggV
 dsimp only
 go_enter Tryz.func11,Tryz.ntmps11
 go_wp2_with fail
 obtain ⟨hN1,hN2,hbw,hsz⟩:=boxes2 w ⟨k,i,gg,nm,fn,ar,by_,bt⟩ zeroF (.slice p len c) nilV
 unfold cells9 zeroF nilV at hN1 hN2 hbw hsz
 dsimp only at hN1 hN2 hbw hsz
 generalize ((w.alloc (.cells #[.int .i64 k,.int .i64 i,.int .i64 gg,.string nm,.string fn,.int .i64 ar,.slice p len c,.string by_,.int .i64 bt] 24)).alloc (.cells #[.int .i64 0,.int .i64 0,.int .i64 0,.string ⟨#[]⟩,.string ⟨#[]⟩,.int .i64 0,.slice none 0 0,.string ⟨#[]⟩,.int .i64 0] 24)) = W0 at *
 have HZ:Hid (W0.heap.size = w.heap.size + 2):=Lib.hid hsz
 have HZ1:w.heap.size < W0.heap.size:=by omega
 have HZ2:w.heap.size + 1 < W0.heap.size:=by omega
 clear hsz
 have HN1:=Lib.hid hN1
 have HN2:=Lib.hid hN2
 obtain ⟨x0,x1,x2,x3,x4,x5,x6,x7,x8,xz⟩:=hN1
 obtain ⟨y0,y1,y2,y3,y4,y5,y6,y7,y8,yz⟩:=hN2
 dsimp only at x0 x1 x2 x3 x4 x5 x6 x7 x8 y0 y1 y2 y3 y4 y5 y6 y7 y8
 have HCW:=Lib.hid (HC.out W0 hbw)
 clear HC
 go_wp2_with fail
 refine HCW.out.mono ?_
 rintro e w1 ⟨F,p',c',rfl,hnew⟩
 have HNew:=Lib.hid hnew
 have hb:=hnew.below
 have HM1:=Lib.hid (HN1.out.below hb HZ1)
 have HM2:=Lib.hid (HN2.out.below hb HZ2)
 have hzz1:w.heap.size < w1.heap.size:=Nat.lt_of_lt_of_le HZ1 hb.size
 have hzz2:w.heap.size + 1 < w1.heap.size:=Nat.lt_of_lt_of_le HZ2 hb.size
 have hbb:=hbw.trans (hb.mono hbw.size)
 clear x0 x1 x2 x3 x4 x5 x6 x7 x8 xz y0 y1 y2 y3 y4 y5 y6 y7 y8 yz hnew hb
 obtain ⟨x0,x1,x2,x3,x4,x5,x6,x7,x8,xz⟩:=HM1.out
 obtain ⟨y0,y1,y2,y3,y4,y5,y6,y7,y8,yz⟩:=HM2.out
 dsimp only at x0 x1 x2 x3 x4 x5 x6 x7 x8 y0 y1 y2 y3 y4 y5 y6 y7 y8
 go_wp2_with fail
 have hz2:=HZ.out
 have hinr:=HNew.out.inr
 refine bodyPost_ret (v:=(.agg #[.int .i64 k,.int .i64 i,.int .i64 gg,.string nm,.string fn,.int .i64 ar,.slice p' l.length c',.string by_,.int .i64 bt])) (by simp [results,Tryz.results11,go_sem, *]) rfl ⟨F,p',c',rfl,HNew.out.touch (S:=fun k=>k = w.heap.size∨k = w.heap.size + 1) (by (repeat' (first | with_reducible exact TouchB.refl _ _ | with_reducible refine TouchB.setCell ?_ _ _ (fun _=>Or.inl rfl) | with_reducible refine TouchB.setCell ?_ _ _ (fun _=>Or.inr rfl)))) (fun q hq=>by have:=hinr q hq;omega) (by (repeat' (first | with_reducible exact hbb | with_reducible refine Below.setCell ?_ ?_ _ | (simp;done) | (simp;omega)))) (by omega) hlow hbb⟩
def LentElt (w:World) (B:Nat) (F:Nat→Prop) (p0:Option Addr) (j:Nat):(n:Nat)→Tm n→TF→Value→Prop
 | 0,_,_,_=>False
 | n + 1,t,f,u=>∃ g0 o0 u0,p0 = some ⟨g0,o0,none⟩∧g0 < B∧Cells w g0 (o0 + j * 9) t.f u0∧t.f = f∧LentIn w B F n u0 u t.items
def LentEl {n:Nat} (B:Nat) (p0:Option Addr) (l:List (Tm n)) (w:World) (F:Nat→Prop) (j:Nat) (f:TF) (u:Value):Prop:=(∃ h:j < l.length,LentElt w B F p0 j n l[j] f u)∨(l.length ≤ j∧f = markF∧u = nilV)
theorem lentEl_mono {n:Nat} (B B':Nat) (hB:B ≤ B') (p0:Option Addr) (l:List (Tm n)):EMono B' (LentEl B p0 l):=by
 intro w w' F F' j f u h1 h2 h3 h
 rcases h with ⟨h,he⟩ | h
 ·refine .inl ⟨h,?_⟩
  cases n with
  | zero=>exact he
  | succ n =>
   obtain ⟨g0,o0,u0,e,hg,hc,hf,hl⟩:=he
   exact ⟨g0,o0,u0,e,hg,hc.same (h2 g0 (by omega)),hf,hl.mono h1 (fun g hg=>h2 g (by omega)) h3⟩
 ·exact .inr h
def LendS (n:Nat):Prop:=∀ (w:World) (B:Nat) (v:Value) (t:Tm (n + 1)),B ≤ w.heap.size→ItemsAt w B n v t.items→nodesT t ≤ 100000000→Calls Tryz.prog 11 #[aggV t.f v] w (LTPost B t.f v t.items w)
def LendLS (n:Nat):Prop:=∀ (w:World) (B:Nat) (v:Value) (l:List (Tm n)),B ≤ w.heap.size→ItemsAt w B n v l→nodesL n l ≤ 100000000→Calls Tryz.prog 45 #[v] w (LLPost B v l w)
def LEPost {n:Nat} (B:Nat) (p0:Option Addr) (l:List (Tm n)) (j:Nat) (x:TF) (m:Nat) (w:World) (e:Ending) (w':World):Prop :=
 ∃ F p' c',e = .returned (aggV x (.slice p' m c'))∧LentEl B p0 l w' F j x (.slice p' m c')∧(∀ q,F q→w.heap.size ≤ q∧q < w'.heap.size)∧Typed w' F∧(∀ q,q < w.heap.size→PtrOK w' F q (.slice p' m c'))∧Below w.heap.size w w'
theorem lendEl {n:Nat} (ih:∀ m,n = m + 1→LendS m) (w:World) (B:Nat) (p:Option Addr) (len c:Nat) (l:List (Tm n)) (hB:B ≤ w.heap.size) (h1:ItemsAt w B n (.slice p len c) l) (hs:nodesL n l ≤ 100000000) :
 ∀ j,(hj:j < l.length)→∃ g o x q m d,p = some ⟨g,o,none⟩∧g < w.heap.size∧Cells w g (o + j * 9) x (.slice q m d)∧∀ W,Below w.heap.size w W→Calls Tryz.prog 11 #[aggV x (.slice q m d)] W (LEPost B p l j x m W):=by
 cases n with
 | zero=>intro j hj;rw [Tm.nil0 l] at hj;exact absurd hj (by simp)
 | succ n =>
  intro j hj
  obtain ⟨g,o,d,e,_,_,hg,hx⟩:=h1.at_ (by intro e;subst e;simp at hj)
  obtain ⟨u,hC,hI⟩:=hx j hj
  simp only [Value.slice.injEq] at e
  obtain ⟨q,c',rfl,_,_⟩:=hI.shape
  have hn:=nodes_mem hj
  refine ⟨g,o,l[j].f,q,_,c',e.1,by omega,hC,fun W hb=>?_⟩
  refine (ih n rfl W B _ l[j] (Nat.le_trans hB hb.size) (hI.below hb hB) (by omega)).mono ?_
  rintro e1 w' ⟨F,p',c1,rfl,hn⟩
  exact ⟨F,p',c1,rfl,.inl ⟨hj,g,o,_,e.1,hg,(hC.same (hb.block g (by omega))).same (hn.below.block g (Nat.lt_of_lt_of_le (show g < w.heap.size by omega) hb.size)),rfl,hn.items⟩,hn.inr,hn.typed,hn.ptr,hn.below⟩
theorem LentIn.nil {w:World} {B:Nat} {F:Nat→Prop} {n c0:Nat} (hc:c0 ≤ maxLen):LentIn w B F n (.slice none 0 c0) nilV ([]:List (Tm n)):=by
 cases n with
 | zero=>exact ⟨none,c0,rfl,hc,.inl ⟨rfl,rfl⟩⟩
 | succ n=>exact ⟨none,c0,rfl,Nat.zero_le _,hc,.inl ⟨rfl,rfl,rfl⟩⟩
theorem ItemsAt.none_nil {w:World} {B n m c:Nat} {l:List (Tm n)} (h:ItemsAt w B n (.slice none m c) l):l = []:=by
 cases n with
 | zero=>exact Tm.nil0 l
 | succ n =>
  obtain ⟨p,c',e,_,_,h3⟩:=h
  simp only [Value.slice.injEq] at e
  by_cases hl:l = []
  ·exact hl
  ·obtain ⟨g,o,e2,_⟩:=h3 hl
   rw [← e.1] at e2;cases e2
theorem RowInv.marks {E:World→(Nat→Prop)→Nat→TF→Value→Prop} {w wr:World} {cap k:Nat} {rs:List (TF × Value)} {F:Nat→Prop} (hE:EMono w.heap.size E) (h:RowInv E w wr cap k rs F) {w3 w4:World} (hb:Below wr.heap.size wr w3) (h1:∀ j F w,k ≤ j→E w F j markF nilV)
 (hg:w3.grownBy w4 (some w.heap.size)) (hown:w4.ownsRow w.heap.size 24 9 (.slice (some ⟨w.heap.size,0,none⟩) (k + 2) cap) (k + 2) (flatR rs ++ (nineL markF nilV ++ nineL markF nilV))):RowInv E w w4 cap (k + 2) (rs ++ [(markF,nilV),(markF,nilV)]) F:=by
 have hlt:=h.lt
 have hsz:=hb.size
 have hs3:∀ g,F g→w3.heap[g]? = wr.heap[g]?:=fun g hg=>hb.block g (h.inr g hg).2
 have hs4:∀ g,F g→w4.heap[g]? = wr.heap[g]?:=fun g hF=>(hg.block g (by have:=(h.inr g hF).2;omega) (by have:=(h.inr g hF).1;simp;omega)).trans (hs3 g hF)
 have hl:=h.len
 have hg4:=hg.size
 refine ⟨?_,by simp [hl],fun j hj=>?_,h.typed.same hs4,fun g hF=>?_,?_,by omega⟩
 ·rw [flatR_append]
  have e:flatR [(markF,nilV),(markF,nilV)] = nineL markF nilV ++ nineL markF nilV:=by simp [flatR]
  rw [e];exact hown
 ·by_cases e:j < rs.length
  ·rw [List.getElem_append_left e]
   obtain ⟨a1,a2⟩:=h.elt j e
   exact ⟨hE _ _ _ _ _ _ _ hs4 (fun g hg'=>(hg.block g (by omega) (by simp;omega)).trans (hb.block g (by omega))) (fun _ h=>h) a1,a2.mono hs4 (fun _ h=>h)⟩
  ·have e2:(rs ++ [(markF,nilV),(markF,nilV)])[j] = (markF,nilV):=by
    rw [List.getElem_append_right (by omega)]
    rcases (show j = rs.length∨j = rs.length + 1 by simp at hj;omega) with rfl | rfl <;> simp
   rw [e2]
   exact ⟨h1 j _ _ (by omega),PtrOK.nil⟩
 ·have:=h.inr g hF;omega
 ·have hb1:=h.below.trans (hb.mono (by omega))
  exact ⟨hg.os.trans hb1.os,hg.tape.trans hb1.tape,hg.output.trans hb1.output,Nat.le_trans hb1.size hg.size,fun q hq=>(hg.block q (by omega) (by simp;omega)).trans (hb1.block q hq)⟩
theorem LentIn.mk {n:Nat} {w:World} {F:Nat→Prop} {B g cap c0:Nat} {a0:Addr} (l:List (Tm n)) (rs:List (TF × Value)) (hl:rs.length = l.length + 2) (hc:l.length + 2 ≤ cap) (hm:cap ≤ maxLen) (hF:F g) (h0:l.length ≤ c0) (h0':c0 ≤ maxLen)
 (h:∀ j,(hj:j < rs.length)→Cells w g (j * 9) rs[j].1 rs[j].2∧LentEl B (some a0) l w F j rs[j].1 rs[j].2):LentIn w B F n (.slice (some a0) l.length c0) (.slice (some ⟨g,0,none⟩) l.length cap) l:=by
 have hsp:Spare w g (l.length * 9):=by
  obtain ⟨a1,a2⟩:=h l.length (by omega)
  obtain ⟨b1,b2⟩:=h (l.length + 1) (by omega)
  rcases a2 with ⟨h,_⟩ | ⟨_,e1,e2⟩
  ·omega
  rcases b2 with ⟨h,_⟩ | ⟨_,e3,e4⟩
  ·omega
  rw [e1,e2] at a1
  rw [e3,e4,Nat.add_mul,Nat.one_mul] at b1
  exact ⟨a1,b1⟩
 cases n with
 | zero =>
  have:=Tm.nil0 l
  subst this
  exact ⟨_,_,rfl,h0',.inr ⟨by simp,g,0,cap,rfl,by simpa using hc,hm,hF,by simpa using hsp⟩⟩
 | succ n =>
  refine ⟨_,_,rfl,h0,h0',.inr ⟨by simp,g,0,cap,rfl,hc,hm,hF,by simpa using hsp,fun j hj=>?_⟩⟩
  obtain ⟨h1,h2⟩:=h j (by omega)
  rcases h2 with ⟨_,g0,o0,u0,e0,hg0,hc0,hf,hli⟩ | ⟨h,_⟩
  ·refine ⟨g0,o0,u0,_,e0,hg0,hc0,?_,hli⟩
   rw [Nat.zero_add,hf];exact h1
  ·omega
theorem mark2_cell (w:World):∀ j u,(nineL markF nilV ++ nineL markF nilV)[j]? = some u→(w.alloc (.cells #[.int .i64 (-7),.int .i64 4711,.int .i64 0,.string ⟨#[115,112,97,114,101]⟩,.string ⟨#[]⟩,.int .i64 0,.slice none 0 0,.string ⟨#[]⟩,.int .i64 0,.int .i64 (-7),.int .i64 4711,.int .i64 0,.string ⟨#[115,112,97,114,101]⟩,.string ⟨#[]⟩,.int .i64 0,.slice none 0 0,.string ⟨#[]⟩,.int .i64 0] 24)).cell? ((⟨w.heap.size,0,none⟩:Addr).add j) = some u :=
 fun j u hj=>by
  have hA:=(MapKept.heap_alloc w (.cells #[.int .i64 (-7),.int .i64 4711,.int .i64 0,.string ⟨#[115,112,97,114,101]⟩,.string ⟨#[]⟩,.int .i64 0,.slice none 0 0,.string ⟨#[]⟩,.int .i64 0,.int .i64 (-7),.int .i64 4711,.int .i64 0,.string ⟨#[115,112,97,114,101]⟩,.string ⟨#[]⟩,.int .i64 0,.slice none 0 0,.string ⟨#[]⟩,.int .i64 0] 24)).1
  rw [Addr.add_lit,Nat.zero_add,cell_of_row _ _ _ _ _ _ hA,← hj]
  unfold nineL markF nilV
  simp
theorem mark2_one:∀ u ∈ nineL markF nilV ++ nineL markF nilV,u.oneCell' = true:=by
 intro u hu
 rcases List.mem_append.1 hu with hu | hu
 ·exact nine_one _ _ _ _ u hu
 ·exact nine_one _ _ _ _ u hu
set_option maxHeartbeats 1000000 in
theorem lendStep {n:Nat} (ih:∀ m,n = m + 1→LendS m):LendLS n:=by
 intro w B v l hB h1 hs
 have hlen:=nodes_len n l
 obtain ⟨p,c,rfl,hc,hm⟩:=h1.shape
 have HP:=Lib.hid (lendEl ih w B p l.length c l hB h1 hs)
 have hle:l.length ≤ 100000000:=by omega
 have hle2:(l.length:Int) ≤ 100000000:=by omega
 obtain ⟨i0,hi0,hz0,hz1,hz2⟩:=info_parts info24
 cases p with
 | none =>
  have:=h1.none_nil
  subst this
  have q22:=fun w=>Lib.run_eql_slice_nil (P:=Tryz.prog) w 22 24 none 0 c 0 0 Tryz.underlying22
  clear HP ih h1 hs hlen hle hle2
  go_enter Tryz.func45,Tryz.ntmps45
  go_wp2_with fail
  go_ret
  exact ⟨fun _=>False,none,0,rfl,LentIn.nil hm,fun g h=>h.elim,fun g h=>h.elim,fun g _=>PtrOK.nil,Below.refl _ _⟩
 | some a0 =>
 have q22:=fun w=>Lib.run_eql_slice_nil (P:=Tryz.prog) w 22 24 (some a0) l.length c 0 0 Tryz.underlying22
 have HC0:Hid (l.length ≤ c∧c ≤ maxLen):=Lib.hid ⟨hc,hm⟩
 have hmk:=fun W=>make24 W ((l.length:Int) + 2) (l.length + 2) (by omega) (by omega)
 clear ih h1 hs hlen hc hm
 go_enter Tryz.func45,Tryz.ntmps45
 go_wp2_with fail
 have HI:RowInv (LentEl B (some a0) l) w (w.alloc (.cells (madeCells #[.int .i64 0,.int .i64 0,.int .i64 0,.string ⟨#[]⟩,.string ⟨#[]⟩,.int .i64 0,.slice none 0 0,.string ⟨#[]⟩,.int .i64 0] ((l.length + 2) * 9)) 24)) (l.length + 2) 0 [] (fun _=>False):=RowInv.start _ (by unfold maxLen;omega) (size_madeCells _ _)
 generalize (w.alloc (.cells (madeCells #[.int .i64 0,.int .i64 0,.int .i64 0,.string ⟨#[]⟩,.string ⟨#[]⟩,.int .i64 0,.slice none 0 0,.string ⟨#[]⟩,.int .i64 0] ((l.length + 2) * 9)) 24)) = w0 at *
 go_loopw [3,4] (fun s t wr=>∃ (k:Nat) (rs:List (TF × Value)) (F:Nat→Prop),s = .slice (some ⟨w.heap.size,0,none⟩) k (l.length + 2)∧t = .int .i64 k∧k ≤ l.length∧Hid (RowInv (LentEl B (some a0) l) w wr (l.length + 2) k rs F)) (fun _ t _=>l.length - (intOf t).toNat)
 case atStart=>exact ⟨0,[],fun _=>False,rfl,rfl,by omega,Lib.hid HI⟩
 case round =>
  obtain ⟨k,rs,F,rfl,rfl,hk,HR⟩:=hrel
  by_cases hlt:k < l.length
  ·obtain ⟨g,o,x,q,m,d,e0,hg,hC,hCall⟩:=HP.out k hlt
   simp only [Option.some.injEq] at e0
   subst e0
   have HCall:=Lib.hid hCall
   clear hCall
   have hC:=hC.same (HR.out.below.block g hg)
   have hgr:g < wr.heap.size:=Nat.lt_of_lt_of_le hg HR.out.below.size
   obtain ⟨x0,x1,x2,x3,x4,x5,x6,x7,x8⟩:=hC
   obtain ⟨kk,ii,gg,nm,fn,ar,by_,bt⟩:=x
   dsimp only at x0 x1 x2 x3 x4 x5 x6 x7 x8
   unfold LEPost aggV at HCall
   dsimp only at HCall
   go_wp2_with fail
   refine (HCall.out _ HR.out.below).mono ?_
   rintro e w2 ⟨F',p',c',rfl,hE,hin,hty,hpt,hb2⟩
   have hb3:Below w2.heap.size w2 (w2.alloc (cells9 ⟨kk,ii,gg,nm,fn,ar,by_,bt⟩ (.slice p' m c'))):=(Below.refl _ _).alloc (Nat.le_refl _) _
   have hbw3:Below wr.heap.size wr (w2.alloc (cells9 ⟨kk,ii,gg,nm,fn,ar,by_,bt⟩ (.slice p' m c'))):=hb2.trans (hb3.mono hb2.size)
   have HS:∀ g,F' g→(w2.alloc (cells9 ⟨kk,ii,gg,nm,fn,ar,by_,bt⟩ (.slice p' m c'))).heap[g]? = w2.heap[g]?:=fun g hg=>hb3.block g (hin g hg).2
   have HE:=Lib.hid (lentEl_mono B w.heap.size hB _ l _ _ _ _ _ _ _ HS (fun g hg=>hb3.block g (Nat.lt_of_lt_of_le hg (Nat.le_trans HR.out.below.size hb2.size))) (fun _ h=>h) hE)
   have HPt:=Lib.hid ((hpt w.heap.size HR.out.lt).mono HS (fun _ h=>h))
   have HTy:=Lib.hid (hty.same HS)
   have HIn:Hid (∀ g,F' g→wr.heap.size ≤ g∧g < (w2.alloc (cells9 ⟨kk,ii,gg,nm,fn,ar,by_,bt⟩ (.slice p' m c'))).heap.size):=Lib.hid (fun g hg=>by have:=hin g hg;simp at this ⊢;omega)
   have HOwn:=Lib.hid (HR.out.ownAt hbw3)
   have HNC:=Lib.hid (nine_cell w2 ⟨kk,ii,gg,nm,fn,ar,by_,bt⟩ (.slice p' m c'))
   have HNO:=Lib.hid (nine_one ⟨kk,ii,gg,nm,fn,ar,by_,bt⟩ p' m c')
   have HBW:=Lib.hid hbw3
   clear hE hin hty hpt hb2 hb3 hbw3 HS
   unfold cells9 at HE HPt HTy HIn HOwn HNC HBW
   dsimp only at HE HPt HTy HIn HOwn HNC HBW
   go_wp2_with (at_builtin;refine wpList_append_fits rfl (.tmp 17) (.tmp 23) 22 rfl w.heap.size 24 i0 9 Tryz.underlying22 hi0 hz1 w.heap.size k (l.length + 2) (flatR rs) rfl HOwn.out ⟨w2.heap.size,0,none⟩ 1 1 (nineL ⟨kk,ii,gg,nm,fn,ar,by_,bt⟩ (.slice p' m c')) rfl rfl HNC.out HNO.out (by omega) ?_;intro w4 hown4 hg4)
   have HNext:=Lib.hid (HR.out.next (lentEl_mono B w.heap.size hB _ l) HBW.out HE.out HPt.out HTy.out HIn.out hg4 hown4)
   go_roundw
   case rel=>exact ⟨k + 1,_,_,rfl,by go_num,by omega,HNext⟩
   case measure=>simp [intOf];omega
  ·obtain rfl:k = l.length:=by omega
   have HM:=Lib.hid (fun W=>mark41 W)
   unfold VPost aggV markF nilV at HM
   dsimp only at HM
   go_wp2_with fail
   refine (HM.out _).mono ?_
   rintro e w1 ⟨rfl,hb1⟩
   go_wp2_with fail
   refine (HM.out _).mono ?_
   rintro e w2 ⟨rfl,hb2⟩
   have hb12:=hb1.trans (hb2.mono hb1.size)
   have HB3:Hid (Below wr.heap.size wr (w2.alloc (.cells #[.int .i64 (-7),.int .i64 4711,.int .i64 0,.string ⟨#[115,112,97,114,101]⟩,.string ⟨#[]⟩,.int .i64 0,.slice none 0 0,.string ⟨#[]⟩,.int .i64 0,.int .i64 (-7),.int .i64 4711,.int .i64 0,.string ⟨#[115,112,97,114,101]⟩,.string ⟨#[]⟩,.int .i64 0,.slice none 0 0,.string ⟨#[]⟩,.int .i64 0] 24))):=Lib.hid (hb12.alloc hb12.size _)
   have HOwn:=Lib.hid (HR.out.ownAt HB3.out)
   have HNC:=Lib.hid (mark2_cell w2)
   clear hb1 hb2 hb12
   have hq1:(l.length:Int) ≤ ((l.length + 2:Nat):Int):=by omega
   have hq2:(0:Int) ≤ (l.length:Int):=by omega
   go_wp2_with (at_builtin;refine wpList_append_fits rfl (.tmp 25) (.tmp 28) 22 rfl w.heap.size 24 i0 9 Tryz.underlying22 hi0 hz1 w.heap.size l.length (l.length + 2) (flatR rs) rfl HOwn.out ⟨w2.heap.size,0,none⟩ 2 2 (nineL markF nilV ++ nineL markF nilV) rfl rfl HNC.out mark2_one (by omega) ?_;intro w4 hown4 hg4)
   have HMk:=Lib.hid (HR.out.marks (lentEl_mono B w.heap.size hB _ l) HB3.out (fun j F w h=>.inr ⟨h,rfl,rfl⟩) hg4 hown4)
   go_ret
   have hr:=HMk.out
   have hc0:=HC0.out
   refine ⟨fun g=>F g∨g = w.heap.size,some ⟨w.heap.size,0,none⟩,l.length + 2,rfl,?_,fun q hq=>?_,hr.full rfl,fun q hq=>hr.root l.length (by omega) q hq,hr.below⟩
   ·exact LentIn.mk l _ hr.len (Nat.le_refl _) (by unfold maxLen;omega) (.inr rfl) hc0.1 hc0.2 (fun j hj=>⟨hr.cells j hj,lentEl_mono B w.heap.size hB _ l w4 w4 F _ _ _ _ (fun _ _=>rfl) (fun _ _=>rfl) (fun _ h=>.inl h) (hr.elt j hj).1⟩)
   ·rcases hq with hq | rfl
    ·have:=hr.inr q hq;omega
    ·exact ⟨Nat.le_refl _,hr.lt⟩
theorem lendTStep {n:Nat} (hC:LendLS n):LendS n:=by
 intro w B v t hB h1 hs
 have h2:=fun W (hb:Below w.heap.size w W)=>hC W B v t.items (Nat.le_trans hB hb.size) (h1.below hb hB) (by unfold nodesT at hs;omega)
 obtain ⟨p,c,rfl,hc,hm⟩:=h1.shape
 exact lendT B t.f p t.items.length c t.items w hB h2
theorem lendLAll:∀ n,LendLS n
 | 0=>lendStep (fun m h=>by omega)
 | n + 1 => lendStep (fun m h => by obtain rfl : n = m := by omega
                                    exact lendTStep (lendLAll n))
theorem lendAll (n:Nat):LendS n:=lendTStep (lendLAll n)
def KeptS (n:Nat):Prop:=∀ (w:World) (B:Nat) (F:Nat→Prop) (v0 v:Value) (t:Tm (n + 1)),B ≤ w.heap.size→(∀ g,F g→g < w.heap.size)→LentIn w B F n v0 v t.items→Calls Tryz.prog 14 #[aggV t.f v,aggV t.f v0] w (BPost true w)
def KeptLS (n:Nat):Prop:=∀ (w:World) (B:Nat) (F:Nat→Prop) (v0 v:Value) (l:List (Tm n)),B ≤ w.heap.size→(∀ g,F g→g < w.heap.size)→LentIn w B F n v0 v l→Calls Tryz.prog 48 #[v,v0] w (BPost true w)
theorem sameBare (f:TF) (w:World):Calls Tryz.prog 27 #[aggV f (.slice none 0 0),aggV f (.slice none 0 0)] w (BPost true w):=by
 have h:=sameOne (n:=0) w 0 (.slice none 0 0) (.slice none 0 0) (Tm.mk f []) (Tm.mk f []) (Nat.zero_le _) ⟨none,0,rfl,Nat.zero_le _⟩ ⟨none,0,rfl,Nat.zero_le _⟩
 rw [eqB_t rfl] at h
 exact h
theorem keptF (x:TF) (p1 p2:Option Addr) (m1 c1 m2 c2:Nat) (w:World) (hK:∀ W,Below w.heap.size w W→Calls Tryz.prog 48 #[.slice p1 m1 c1,.slice p2 m2 c2] W (BPost true W)) :
 Calls Tryz.prog 14 #[aggV x (.slice p1 m1 c1),aggV x (.slice p2 m2 c2)] w (BPost true w):=by
 have HK:=Lib.hid hK
 have HS:=Lib.hid (fun W=>sameBare x W)
 clear hK
 obtain ⟨k1,i1,g1,n1,fn1,a1,by1,s1⟩:=x
 unfold aggV BPost at *
 dsimp only at *
 go_enter Tryz.func14,Tryz.ntmps14
 go_wp2_with fail
 obtain ⟨hN1,hN2,hbw,hsz⟩:=boxes2 w ⟨k1,i1,g1,n1,fn1,a1,by1,s1⟩ ⟨k1,i1,g1,n1,fn1,a1,by1,s1⟩ (.slice p1 m1 c1) (.slice p2 m2 c2)
 unfold cells9 at hN1 hN2 hbw hsz
 dsimp only at hN1 hN2 hbw hsz
 generalize ((w.alloc (.cells #[.int .i64 k1,.int .i64 i1,.int .i64 g1,.string n1,.string fn1,.int .i64 a1,.slice p1 m1 c1,.string by1,.int .i64 s1] 24)).alloc (.cells #[.int .i64 k1,.int .i64 i1,.int .i64 g1,.string n1,.string fn1,.int .i64 a1,.slice p2 m2 c2,.string by1,.int .i64 s1] 24)) = W0 at *
 have HZ1:Hid (w.heap.size < W0.heap.size):=Lib.hid (by omega)
 have HZ2:Hid (w.heap.size + 1 < W0.heap.size):=Lib.hid (by omega)
 clear hsz
 have HN1:=Lib.hid hN1
 have HN2:=Lib.hid hN2
 clear hN1 hN2
 obtain ⟨x0,x1,x2,x3,x4,x5,x6,x7,x8,xz⟩:=HN1.out
 obtain ⟨y0,y1,y2,y3,y4,y5,y6,y7,y8,yz⟩:=HN2.out
 dsimp only at x0 x1 x2 x3 x4 x5 x6 x7 x8 y0 y1 y2 y3 y4 y5 y6 y7 y8
 go_quiet (fail)
 have hb1:Below w.heap.size w (W0.drewN nq):=hbw.drewN nq
 have HZ1:Hid (w.heap.size < (W0.drewN nq).heap.size):=Lib.hid HZ1.out
 have HZ2:Hid (w.heap.size + 1 < (W0.drewN nq).heap.size):=Lib.hid HZ2.out
 have hN1:Nine (W0.drewN nq) w.heap.size ⟨k1,i1,g1,n1,fn1,a1,by1,s1⟩ (.slice p1 m1 c1):=⟨HN1.out.c0,HN1.out.c1,HN1.out.c2,HN1.out.c3,HN1.out.c4,HN1.out.c5,HN1.out.c6,HN1.out.c7,HN1.out.c8,HN1.out.fz⟩
 have hN2:Nine (W0.drewN nq) (w.heap.size + 1) ⟨k1,i1,g1,n1,fn1,a1,by1,s1⟩ (.slice p2 m2 c2):=⟨HN2.out.c0,HN2.out.c1,HN2.out.c2,HN2.out.c3,HN2.out.c4,HN2.out.c5,HN2.out.c6,HN2.out.c7,HN2.out.c8,HN2.out.fz⟩
 clear x0 x1 x2 x3 x4 x5 x6 x7 x8 xz y0 y1 y2 y3 y4 y5 y6 y7 y8 yz
 clear HN1 HN2 hbw
 generalize W0.drewN nq = W1 at *
 have hz1:=HZ1.out
 have hz2:=HZ2.out
 obtain ⟨x0,x1,x2,x3,x4,x5,x6,x7,x8,xz⟩:=hN1
 obtain ⟨y0,y1,y2,y3,y4,y5,y6,y7,y8,yz⟩:=hN2
 dsimp only at x0 x1 x2 x3 x4 x5 x6 x7 x8 y0 y1 y2 y3 y4 y5 y6 y7 y8
 go_wp2_with fail
 have hb2:Below w.heap.size w ((W1.setCell ⟨w.heap.size,6,none⟩ (.slice none 0 0)).setCell ⟨w.heap.size + 1,6,none⟩ (.slice none 0 0)):=(hb1.setCell (Nat.le_refl _) _).setCell (by simp) _
 refine (HS.out _).mono ?_
 rintro e w2 ⟨rfl,hb3⟩
 have hb4:=hb2.trans (hb3.mono hb2.size)
 have HKW:=Lib.hid (HK.out w2 hb4)
 go_wp2_with fail
 refine HKW.out.mono ?_
 rintro e w3 ⟨rfl,hb5⟩
 go_wp2_with fail
 go_ret
 exact ⟨rfl,hb4.trans (hb5.mono hb4.size)⟩
theorem keptEl {n:Nat} (ih:∀ m,n = m + 1→KeptS m) (w:World) (B:Nat) (F:Nat→Prop) (a0:Addr) (len c0 g o c:Nat) (l:List (Tm n)) (hB:B ≤ w.heap.size) (hF:∀ g,F g→g < w.heap.size) (h:LentIn w B F n (.slice (some a0) len c0) (.slice (some ⟨g,o,none⟩) len c) l) :
 g < w.heap.size∧len = l.length∧l.length ≤ c0∧c0 ≤ maxLen∧l.length + 2 ≤ c∧c ≤ maxLen∧Spare w g (o + l.length * 9) ∧
 ∀ j,(hj:j < l.length)→∃ g0 o0 x q m d q' d',a0 = ⟨g0,o0,none⟩∧g0 < w.heap.size∧Cells w g (o + j * 9) x (.slice q m d)∧Cells w g0 (o0 + j * 9) x (.slice q' m d')∧∀ W,Below w.heap.size w W→Calls Tryz.prog 14 #[aggV x (.slice q m d),aggV x (.slice q' m d')] W (BPost true W):=by
 cases n with
 | zero =>
  have:=Tm.nil0 l
  subst this
  obtain ⟨p0,c0',e,h1,h2⟩:=h
  simp only [Value.slice.injEq] at e
  obtain ⟨rfl,rfl,rfl⟩:=e
  rcases h2 with ⟨h2,_⟩ | ⟨hp,g',o',c',e,h3,h4,h5,h6⟩
  ·cases h2
  ·simp only [Value.slice.injEq,Option.some.injEq,Addr.mk.injEq] at e
   obtain ⟨⟨rfl,rfl,_⟩,_,rfl⟩:=e
   exact ⟨hF _ h5,rfl,Nat.zero_le _,h1,h3,h4,by simpa using h6,fun j hj=>absurd hj (by simp)⟩
 | succ n =>
  obtain ⟨p0,c0',e,h1,h1',h2⟩:=h
  simp only [Value.slice.injEq] at e
  obtain ⟨rfl,rfl,rfl⟩:=e
  rcases h2 with ⟨h2,_⟩ | ⟨hp,g',o',c',e,h3,h4,h5,h6,h7⟩
  ·cases h2
  ·simp only [Value.slice.injEq,Option.some.injEq,Addr.mk.injEq] at e
   obtain ⟨⟨rfl,rfl,_⟩,_,rfl⟩:=e
   refine ⟨hF _ h5,rfl,h1,h1',h3,h4,h6,fun j hj=>?_⟩
   obtain ⟨g0,o0,u0,u,e0,hg0,k1,k2,k3⟩:=h7 j hj
   simp only [Option.some.injEq] at e0
   have hI1:=k3.toIn.toAt hF
   obtain ⟨q,d,rfl,_,_⟩:=hI1.shape
   have h0:∃ q' d',u0 = .slice q' (l[j]).items.length d':=by
    cases n with
    | zero =>
     obtain ⟨p1,c1,e1,_⟩:=k3
     rw [Tm.nil0 (l[j]).items]
     exact ⟨p1,c1,e1⟩
    | succ n =>
     obtain ⟨p1,c1,e1,_⟩:=k3
     exact ⟨p1,c1,e1⟩
   obtain ⟨q',d',rfl⟩:=h0
   refine ⟨g0,o0,_,q,_,d,q',d',e0,by omega,k2,k1,fun W hb=>?_⟩
   exact ih n rfl W B F _ _ l[j] (Nat.le_trans hB hb.size) (fun g hg=>Nat.lt_of_lt_of_le (hF g hg) hb.size) (k3.mono (fun g hg=>hb.block g (hF g hg)) (fun g hg=>hb.block g (by omega)) (fun _ h=>h))
theorem LentIn.cases {w:World} {B:Nat} {F:Nat→Prop} {n:Nat} {v0 v:Value} {l:List (Tm n)} (h:LentIn w B F n v0 v l):(∃ c0,v0 = .slice none 0 c0∧v = .slice none 0 0)∨(∃ a0 g o c0 c,v0 = .slice (some a0) l.length c0∧v = .slice (some ⟨g,o,none⟩) l.length c):=by
 cases n with
 | zero =>
  rw [Tm.nil0 l] at *
  obtain ⟨p0,c0,rfl,h1,h2⟩:=h
  rcases h2 with ⟨rfl,rfl⟩ | ⟨hp,g,o,c,rfl,h3,h4,h5,h6⟩
  ·exact .inl ⟨c0,rfl,rfl⟩
  ·cases p0 with
   | none=>exact absurd rfl hp
   | some a0=>exact .inr ⟨a0,g,o,c0,c,rfl,rfl⟩
 | succ n =>
  obtain ⟨p0,c0,rfl,h1,h1',h2⟩:=h
  rcases h2 with ⟨rfl,rfl,rfl⟩ | ⟨hp,g,o,c,rfl,h3,h4,h5,h6⟩
  ·exact .inl ⟨c0,rfl,rfl⟩
  ·cases p0 with
   | none=>exact absurd rfl hp
   | some a0=>exact .inr ⟨a0,g,o,c0,c,rfl,rfl⟩
theorem keptStep {n:Nat} (ih:∀ m,n = m + 1→KeptS m):KeptLS n:=by
 intro w B F v0 v l hB hF h
 rcases h.cases with ⟨c0,rfl,rfl⟩ | ⟨a0,g,o,c0,c,rfl,rfl⟩
 ·have q22:=fun w=>Lib.run_eql_slice_nil (P:=Tryz.prog) w 22 24 none 0 c0 0 0 Tryz.underlying22
  clear h ih hF
  go_enter Tryz.func48,Tryz.ntmps48
  go_wp2_with fail
  go_ret
  exact ⟨rfl,Below.refl _ _⟩
 ·obtain ⟨hg,_,k1,k2,k3,k4,k5,hEl⟩:=keptEl ih w B F a0 l.length c0 g o c l hB hF h
  have q22:=fun w=>Lib.run_eql_slice_nil (P:=Tryz.prog) w 22 24 (some a0) l.length c0 0 0 Tryz.underlying22
  have HEl:=Lib.hid hEl
  have hA0:Cells w g (o + l.length * 9) markF nilV:=k5.1
  have hB0:Cells w g (o + (l.length + 1) * 9) markF nilV:=(show o + (l.length + 1) * 9 = o + l.length * 9 + 9 by omega) ▸ k5.2
  have HA0:=Lib.hid hA0
  have HB0:=Lib.hid hB0
  unfold maxLen at k2 k4
  have hz0:g < w.heap.size:=hg
  have r1:(l.length:Int) + 2 ≤ (c:Int):=by omega
  have r2:((l.length + 2:Nat):Int) = (l.length:Int) + 2:=by omega
  have r3:(0:Int) ≤ (l.length:Int):=by omega
  have r4:((l.length:Int) + 2).toNat = l.length + 2:=by omega
  have r5:((l.length:Int) + 1).toNat = l.length + 1:=by omega
  have r6:(l.length:Int) < ((l.length + 2:Nat):Int):=by omega
  have r7:(l.length:Int) + 1 < ((l.length + 2:Nat):Int):=by omega
  have r8:IntKind.i64.wrap ((l.length:Int) + 1) = (l.length:Int) + 1:=IntWalk.i64_in _ (by omega)
  have r9:(0:Int) ≤ (l.length:Int) + 1:=by omega
  have r10:l.length < l.length + 2:=by omega
  have r11:l.length + 1 < l.length + 2:=by omega
  have r12:(l.length:Int) < (l.length:Int) + 2:=by omega
  have r13:(l.length:Int) + 1 < (l.length:Int) + 2:=by omega
  have HM:=Lib.hid (fun W=>mark41 W)
  have HS:=Lib.hid (fun W=>sameBare markF W)
  unfold VPost aggV markF nilV at HM
  dsimp only at HM
  unfold BPost aggV markF at HS
  dsimp only at HS
  clear h ih hF hEl k5
  obtain ⟨x0,x1,x2,x3,x4,x5,x6,x7,x8⟩:=hA0
  obtain ⟨y0,y1,y2,y3,y4,y5,y6,y7,y8⟩:=hB0
  dsimp only [markF,nilV] at x0 x1 x2 x3 x4 x5 x6 x7 x8 y0 y1 y2 y3 y4 y5 y6 y7 y8
  go_enter Tryz.func48,Tryz.ntmps48
  go_wp2_with fail
  go_region_held3 (fun w'=>(w'.cell? ⟨g,o + l.length * 9,none⟩ = some (.int .i64 (-7))∧w'.cell? ⟨g,o + l.length * 9 + 1,none⟩ = some (.int .i64 4711)∧w'.cell? ⟨g,o + l.length * 9 + 1 + 1,none⟩ = some (.int .i64 0)∧w'.cell? ⟨g,o + l.length * 9 + 1 + 1 + 1,none⟩ = some (.string ⟨#[115,112,97,114,101]⟩)∧w'.cell? ⟨g,o + l.length * 9 + 1 + 1 + 1 + 1,none⟩ = some (.string ⟨#[]⟩)∧w'.cell? ⟨g,o + l.length * 9 + 1 + 1 + 1 + 1 + 1,none⟩ = some (.int .i64 0)∧w'.cell? ⟨g,o + l.length * 9 + 1 + 1 + 1 + 1 + 1 + 1,none⟩ = some (.slice none 0 0)∧w'.cell? ⟨g,o + l.length * 9 + 1 + 1 + 1 + 1 + 1 + 1 + 1,none⟩ = some (.string ⟨#[]⟩)∧w'.cell? ⟨g,o + l.length * 9 + 1 + 1 + 1 + 1 + 1 + 1 + 1 + 1,none⟩ = some (.int .i64 0))∧w'.cell? ⟨g,o + (l.length + 1) * 9,none⟩ = some (.int .i64 (-7))∧w'.cell? ⟨g,o + (l.length + 1) * 9 + 1,none⟩ = some (.int .i64 4711)∧w'.cell? ⟨g,o + (l.length + 1) * 9 + 1 + 1,none⟩ = some (.int .i64 0)∧w'.cell? ⟨g,o + (l.length + 1) * 9 + 1 + 1 + 1,none⟩ = some (.string ⟨#[115,112,97,114,101]⟩)∧w'.cell? ⟨g,o + (l.length + 1) * 9 + 1 + 1 + 1 + 1,none⟩ = some (.string ⟨#[]⟩)∧w'.cell? ⟨g,o + (l.length + 1) * 9 + 1 + 1 + 1 + 1 + 1,none⟩ = some (.int .i64 0)∧w'.cell? ⟨g,o + (l.length + 1) * 9 + 1 + 1 + 1 + 1 + 1 + 1,none⟩ = some (.slice none 0 0)∧w'.cell? ⟨g,o + (l.length + 1) * 9 + 1 + 1 + 1 + 1 + 1 + 1 + 1,none⟩ = some (.string ⟨#[]⟩)∧w'.cell? ⟨g,o + (l.length + 1) * 9 + 1 + 1 + 1 + 1 + 1 + 1 + 1 + 1,none⟩ = some (.int .i64 0)) (go_keep)
   (first
     | (go_at_call 76;(with_reducible refine (HM.out w.drew).mono ?_);rintro e w1 ⟨rfl,hb1⟩;have hz1:=Nat.lt_of_lt_of_le hz0 hb1.size;have HA1:=Lib.hid (HA0.out.same (hb1.block g hz0));have HB1:=Lib.hid (HB0.out.same (hb1.block g hz0));obtain ⟨p10,p11,p12,p13,p14,p15,p16,p17,p18⟩:=HA1.out;obtain ⟨q10,q11,q12,q13,q14,q15,q16,q17,q18⟩:=HB1.out;dsimp only [markF,nilV] at p10 p11 p12 p13 p14 p15 p16 p17 p18 q10 q11 q12 q13 q14 q15 q16 q17 q18)
     | (go_at_call 27;(with_reducible refine (HS.out w1).mono ?_);rintro e w2 ⟨rfl,hb2⟩;have hz2:=Nat.lt_of_lt_of_le hz1 hb2.size;have HA2:=Lib.hid (HA1.out.same (hb2.block g hz1));have HB2:=Lib.hid (HB1.out.same (hb2.block g hz1));obtain ⟨p20,p21,p22,p23,p24,p25,p26,p27,p28⟩:=HA2.out;obtain ⟨q20,q21,q22,q23,q24,q25,q26,q27,q28⟩:=HB2.out;dsimp only [markF,nilV] at p20 p21 p22 p23 p24 p25 p26 p27 p28 q20 q21 q22 q23 q24 q25 q26 q27 q28)
     | (go_at_call 76;(with_reducible refine (HM.out w2).mono ?_);rintro e w3 ⟨rfl,hb3⟩;have hz3:=Nat.lt_of_lt_of_le hz2 hb3.size;have HA3:=Lib.hid (HA2.out.same (hb3.block g hz2));have HB3:=Lib.hid (HB2.out.same (hb3.block g hz2));obtain ⟨p30,p31,p32,p33,p34,p35,p36,p37,p38⟩:=HA3.out;obtain ⟨q30,q31,q32,q33,q34,q35,q36,q37,q38⟩:=HB3.out;dsimp only [markF,nilV] at p30 p31 p32 p33 p34 p35 p36 p37 p38 q30 q31 q32 q33 q34 q35 q36 q37 q38)
     | (go_at_call 27;(with_reducible refine (HS.out w3).mono ?_);rintro e w4 ⟨rfl,hb4⟩;have hz4:=Nat.lt_of_lt_of_le hz3 hb4.size;have HA4:=Lib.hid (HA3.out.same (hb4.block g hz3));have HB4:=Lib.hid (HB3.out.same (hb4.block g hz3));obtain ⟨p40,p41,p42,p43,p44,p45,p46,p47,p48⟩:=HA4.out;obtain ⟨q40,q41,q42,q43,q44,q45,q46,q47,q48⟩:=HB4.out;dsimp only [markF,nilV] at p40 p41 p42 p43 p44 p45 p46 p47 p48 q40 q41 q42 q43 q44 q45 q46 q47 q48))
  have hbw1:Below w.heap.size w w1:=((Below.refl _ w).drewN 1).trans hb1
  have hbw2:=hbw1.trans (hb2.mono hbw1.size)
  have hbw3:=hbw2.trans (hb3.mono hbw2.size)
  have hbw4:=hbw3.trans (hb4.mono hbw3.size)
  clear hb1 hb2 hb3 hb4 hbw1 hbw2 hbw3 HA0 HA1 HA2 HA3 HA4 HB0 HB1 HB2 HB3 HB4 hz1 hz2 hz3 hz4 x0 x1 x2 x3 x4 x5 x6 x7 x8 y0 y1 y2 y3 y4 y5 y6 y7 y8 p10 p11 p12 p13 p14 p15 p16 p17 p18 p20 p21 p22 p23 p24 p25 p26 p27 p28 p30 p31 p32 p33 p34 p35 p36 p37 p38 p40 p41 p42 p43 p44 p45 p46 p47 p48 q10 q11 q12 q13 q14 q15 q16 q17 q18 q20 q21 q22 q23 q24 q25 q26 q27 q28 q30 q31 q32 q33 q34 q35 q36 q37 q38 q40 q41 q42 q43 q44 q45 q46 q47 q48
  have HBW4:=Lib.hid hbw4
  clear hbw4
  go_wp2_with fail
  go_loopw [6] (fun s wr=>∃ k:Nat,s = .int .i64 k∧k ≤ l.length∧Below w.heap.size w wr) (fun s _=>l.length - (intOf s).toNat)
  case atStart=>exact ⟨0,rfl,by omega,HBW4.out⟩
  case round =>
   obtain ⟨k,rfl,hk,hb⟩:=hrel
   by_cases hlt:k < l.length
   ·obtain ⟨g0,o0,x,q,m,d,q',d',rfl,hg0,hC1,hC2,hCall⟩:=HEl.out k hlt
    have hC1:=hC1.same (hb.block g hz0)
    have hC2:=hC2.same (hb.block g0 hg0)
    obtain ⟨x10,x11,x12,x13,x14,x15,x16,x17,x18⟩:=hC1
    obtain ⟨y10,y11,y12,y13,y14,y15,y16,y17,y18⟩:=hC2
    have hb':Below w.heap.size w wr.drew:=hb.drewN 1
    have HC:=Lib.hid (hCall wr.drew hb')
    clear hCall
    obtain ⟨kk,ii,gg,nm,fn,ar,by_,bt⟩:=x
    dsimp only at x10 x11 x12 x13 x14 x15 x16 x17 x18 y10 y11 y12 y13 y14 y15 y16 y17 y18
    unfold BPost aggV at HC
    dsimp only at HC
    have HB':=Lib.hid hb'
    clear hb'
    have s1:(k:Int) < (l.length:Int):=by omega
    have s2:(0:Int) ≤ (k:Int):=by omega
    go_wp2_with fail
    go_still_tail 8,(by kernel_rfl)
    change wpList _ _ _ _ _ wr.drew
    clear x10 x11 x12 x13 x14 x15 x16 x17 x18 y10 y11 y12 y13 y14 y15 y16 y17 y18
    generalize wr.drew = w5 at *
    go_wp2_with fail
    refine HC.out.mono ?_
    rintro e w6 ⟨rfl,hb6⟩
    have hb7:=HB'.out.trans (hb6.mono HB'.out.size)
    go_wp2_with fail
    go_roundw
    case rel=>exact ⟨k + 1,by go_num,by omega,hb7⟩
    case measure=>simp [intOf];omega
   ·go_wp2_with fail
    go_ret
    exact ⟨rfl,hb⟩
theorem keptTStep {n:Nat} (hC:KeptLS n):KeptS n:=by
 intro w B F v0 v t hB hF h
 have hK:=fun W (hb:Below w.heap.size w W)=>hC W B F v0 v t.items (Nat.le_trans hB hb.size) (fun g hg=>Nat.lt_of_lt_of_le (hF g hg) hb.size) (h.mono (fun g hg=>hb.block g (hF g hg)) (fun g hg=>hb.block g (by omega)) (fun _ h=>h))
 rcases h.cases with ⟨c0,rfl,rfl⟩ | ⟨a0,g,o,c0,c,rfl,rfl⟩
 ·exact keptF t.f none none 0 0 0 c0 w hK
 ·exact keptF t.f _ _ _ c _ c0 w hK
theorem keptLAll:∀ n,KeptLS n
 | 0=>keptStep (fun m h=>by omega)
 | n + 1 => keptStep (fun m h => by obtain rfl : n = m := by omega
                                    exact keptTStep (keptLAll n))
theorem keptAll (n:Nat):KeptS n:=keptTStep (keptLAll n)
theorem left_nodes:∀ (n:Nat) (l:List (Tm n)) (m:Int),0 ≤ leftS n l m→(nodesL n l:Int) ≤ m - leftS n l m:=by
 intro n
 induction n with
 | zero=>intro l m h;rw [Tm.nil0 l] at *;simp [nodesL,leftS]
 | succ n ih =>
  intro l
  induction l with
  | nil=>intro m h;simp [nodesL,leftS]
  | cons t l ihl =>
   intro m h
   rw [nodesL_cons]
   have e:leftS (n + 1) (t :: l) m = leftS (n + 1) l (leftStep (leftS n) m t):=rfl
   rw [e] at h ⊢
   by_cases h0:leftStep (leftS n) m t < 0
   ·have:=fold_neg (leftS n) _ h0 l
    have e2:leftS (n + 1) l (leftStep (leftS n) m t) = leftStep (leftS n) m t:=this
    rw [e2] at h;omega
   ·have k1:=ihl _ h
    have k2:(nodesT t:Int) ≤ m - leftStep (leftS n) m t:=by
     unfold leftStep at h0 ⊢
     by_cases hm:m < 0
     ·rw [if_pos hm] at h0;omega
     ·rw [if_neg hm] at h0 ⊢
      by_cases hb:leftB t.f m
      ·rw [if_pos hb] at h0;omega
      ·rw [if_neg hb] at h0 ⊢
       have k3:=ih t.items (leftN t.f m) (by omega)
       have k4:=leftN_bd t.f m (by omega) hb
       unfold nodesT
       omega
    omega
theorem great_nodes {n:Nat} {l:List (Tm n)} {m:Int} (h:greatS n l m = false):(nodesL n l:Int) ≤ m:=by
 unfold greatS at h
 have h':=of_decide_eq_false h
 have:=left_nodes n l m (by omega)
 omega
def LentW (W:World) (B n:Nat) (v0 v:Value) (l:List (Tm n)):Prop:=∃ F:Nat→Prop,(∀ g,F g→g < W.heap.size)∧LentIn W B F n v0 v l∧B ≤ W.heap.size
theorem LentW.below {W W':World} {B n:Nat} {v0 v:Value} {l:List (Tm n)} (h:LentW W B n v0 v l) (hb:Below W.heap.size W W'):LentW W' B n v0 v l:=by
 obtain ⟨F,h1,h2,h3⟩:=h
 exact ⟨F,fun g hg=>Nat.lt_of_lt_of_le (h1 g hg) hb.size,h2.mono (fun g hg=>hb.block g (h1 g hg)) (fun g hg=>hb.block g (by omega)) (fun _ h=>h),Nat.le_trans h3 hb.size⟩
theorem LentW.of {w w':World} {B:Nat} {F:Nat→Prop} {n:Nat} {v0 v:Value} {l:List (Tm n)} (h:LentNew w w' B F n v0 v l) (hB:B ≤ w.heap.size):LentW w' B n v0 v l :=
 ⟨F,fun g hg=>(h.inr g hg).2,h.items,Nat.le_trans hB h.below.size⟩
theorem LentW.items {W:World} {B n:Nat} {v0 v:Value} {l:List (Tm n)} (h:LentW W B n v0 v l):ItemsAt W W.heap.size n v l:=by
 obtain ⟨F,h1,h2,h3⟩:=h
 exact h2.toIn.toAt h1
end Go.Proofs.YtfbggmbmgohiiaaGreat.tm
namespace Go.Proofs.YtfbggmbmgohiiaaGreat.tb
open Go.RowKit mem rec tm names
theorem ptr_keep {w w':World} {F:Nat→Prop} (hs:SizeSame w w' F) {g:Nat} {u:Value} (h:PtrOK w F g u):PtrOK w' F g u:=by
 obtain ⟨p,len,c,rfl,h0⟩:=h
 refine ⟨p,len,c,rfl,?_⟩
 rcases h0 with h0 | ⟨g2,k,c2,fz2,h1,h2,h3,h4,h5⟩
 ·exact .inl h0
 ·obtain ⟨c3,h6,h7⟩:=hs g2 h2 c2 fz2 h4
  exact .inr ⟨g2,k,c3,fz2,h1,h2,h3,h6,by omega⟩
theorem ptr_in {n:Nat} {w:World} {F:Nat→Prop} {u:Value} {l:List (Tm n)} (hty:Typed w F) (hp:∀ g,F g→0 < g) (h:ItemsIn w F n u l):PtrOK w F 0 u:=by
 obtain ⟨p,c,rfl,h1,h2⟩:=ItemsIn.shape h
 by_cases hl:l.length = 0
 ·exact ⟨p,l.length,c,rfl,.inl hl⟩
 ·cases n with
  | zero=>exact absurd (by rw [Tm.nil0 l];rfl) hl
  | succ n =>
   obtain ⟨p',c',e,_,_,h3⟩:=h
   simp only [Value.slice.injEq,true_and] at e
   obtain ⟨rfl,rfl⟩:=e
   obtain ⟨g,o,rfl,hg,hc⟩:=h3 (by intro e;subst e;simp at hl)
   obtain ⟨cur,N,k1,k2,k3⟩:=hty _ hg
   obtain ⟨u0,hu0,hi0⟩:=hc 0 (by omega)
   obtain ⟨p0,c0,rfl,_,_⟩:=ItemsIn.shape hi0
   have h6:=hu0.all 6 (by omega)
   rw [cell_of_blk k1] at h6
   have h6:cur[o + 6]? = some (.slice p0 _ c0):=h6
   have hs6:o + 6 < cur.size:=(Array.getElem?_eq_some_iff.1 h6).1
   obtain ⟨f',u',hC,_⟩:=k3 ((o + 6) / 9) (by omega)
   have hm:=hC.all ((o + 6) % 9) (by omega)
   rw [cell_of_blk k1] at hm
   have hm:cur[(o + 6) / 9 * 9 + (o + 6) % 9]? = (nineL f' u')[(o + 6) % 9]?:=hm
   have e9:(o + 6) / 9 * 9 + (o + 6) % 9 = o + 6:=by omega
   rw [e9,h6] at hm
   have hmod:(o + 6) % 9 = 6:=by
    have hlt:(o + 6) % 9 < 9:=Nat.mod_lt _ (by omega)
    generalize (o + 6) % 9 = m at *
    have:m = 0∨m = 1∨m = 2∨m = 3∨m = 4∨m = 5∨m = 6∨m = 7∨m = 8:=by omega
    rcases this with rfl | rfl | rfl | rfl | rfl | rfl | rfl | rfl | rfl
    all_goals first | rfl | (exact absurd hm (by unfold nineL;simp))
   obtain ⟨ul,hul,_⟩:=hc (l.length - 1) (by omega)
   have h8:=hul.all 8 (by omega)
   rw [cell_of_blk k1] at h8
   have h8:cur[o + (l.length - 1) * 9 + 8]? = some (.int .i64 (l[l.length - 1]).f.bits):=h8
   have hs8:o + (l.length - 1) * 9 + 8 < cur.size:=(Array.getElem?_eq_some_iff.1 h8).1
   have eo:o = o / 9 * 9:=by omega
   exact ⟨_,_,_,rfl,.inr ⟨g,o / 9,cur,(0,0),by rw [← eo],hg,hp g hg,k1,by omega,by omega⟩⟩
theorem spoil42 {w:World} {F:Nat→Prop} {f:TF} {u:Value} (hty:Typed w F) (hF:∀ x,F x→x < w.heap.size) (hp:PtrOK w F 0 u) :
 Calls Tryz.prog 42 #[aggV f u] w fun e w'=>e = .returned (.tuple #[])∧Typed w' F∧SizeSame w w' F∧TouchB F w w':=by
 have HS:=Lib.hid (fun (W:World) (hW:Below w.heap.size w W)=>spoilAll W.heap.size W F u 0 (hty.same (fun g hg=>hW.block g (hF g hg))) (fun x hx=>Nat.lt_of_lt_of_le (hF x hx) hW.size) (hp.mono (fun g hg=>hW.block g (hF g hg)) (fun _ h=>h)) (by omega))
 obtain ⟨p,len,c,rfl,_⟩:=hp
 have HE:=Lib.hid (fun (W w':World) (hW:Below w.heap.size w W) (hi:SpInv F W w')=>(show Typed w' F∧SizeSame w w' F∧TouchB F w w' from
  ⟨hi.1,fun g hg cur fz h=>hi.2.1 g hg cur fz ((hW.block g (hF g hg)).trans h),((TouchB.refl F w).ofBelow hW (Nat.le_refl _)).trans hi.2.2.1 (fun _ _ h=>h)⟩))
 obtain ⟨tk,ti,tg,tn,tf,ta,tb,ts⟩:=f
 unfold aggV
 dsimp only
 have hb1:=belowA (Below.refl w.heap.size w) (.cells #[.int .i64 tk,.int .i64 ti,.int .i64 tg,.string tn,.string tf,.int .i64 ta,.slice p len c,.string tb,.int .i64 ts] 24) (Nat.le_refl _)
 have hz1:=row_rng (x:=[.int .i64 tk,.int .i64 ti,.int .i64 tg,.string tn,.string tf,.int .i64 ta,.slice p len c,.string tb,.int .i64 ts]) (alloc_new w (.cells #[.int .i64 tk,.int .i64 ti,.int .i64 tg,.string tn,.string tf,.int .i64 ta,.slice p len c,.string tb,.int .i64 ts] 24))
 clear hty hF
 go_enter Tryz.func42,Tryz.ntmps42
 go_upto_region 1 with (fail)
 generalize w.alloc (.cells #[.int .i64 tk,.int .i64 ti,.int .i64 tg,.string tn,.string tf,.int .i64 ta,.slice p len c,.string tb,.int .i64 ts] 24) = w1 at *
 have y6:=hz1 6 _ rfl
 simp only [Nat.reduceAdd] at y6
 have HB:=Lib.hid hb1
 clear hz1 hb1
 go_wp2_with fail
 refine (HS.out _ HB.out).mono ?_
 rintro e w2 ⟨rfl,hi⟩
 have HI:=Lib.hid hi
 clear hi y6
 go_wp2_with fail
 go_end0
 exact ⟨rfl,HE.out _ _ HB.out HI.out⟩
section
variable {N:Nat} {W W':World}
structure LxW (B0 lo:Nat) (W:World) (F:Nat→Prop) (N:Nat) (v0 v:Value) (l:List (Tm N)):Prop where
 it:LentIn W B0 F N v0 v l
 ty:Typed W F
 ptr:PtrOK W F 0 v
 inr:∀ g,F g→lo ≤ g∧g < W.heap.size
 lo:B0 ≤ lo
variable {B0 lo:Nat} {F:Nat→Prop} {v0 v:Value} {l:List (Tm N)}
theorem LxW.same (h:LxW B0 lo W F N v0 v l) (h1:∀ g,F g→W'.heap[g]? = W.heap[g]?) (h2:∀ g,g < B0→W'.heap[g]? = W.heap[g]?) (hz:W.heap.size ≤ W'.heap.size):LxW B0 lo W' F N v0 v l :=
 ⟨h.it.mono h1 h2 (fun _ h=>h),h.ty.same h1,h.ptr.mono h1 (fun _ h=>h),fun g hg=>⟨(h.inr g hg).1,Nat.lt_of_lt_of_le (h.inr g hg).2 hz⟩,h.lo⟩
theorem LxW.below (h:LxW B0 lo W F N v0 v l) (hB:B0 ≤ W.heap.size) (hb:Below W.heap.size W W'):LxW B0 lo W' F N v0 v l :=
 h.same (fun g hg=>hb.block g (h.inr g hg).2) (fun g hg=>hb.block g (by omega)) hb.size
theorem LxW.touch {S:Nat→Prop} (h:LxW B0 lo W F N v0 v l) (hB:B0 ≤ W.heap.size) (ht:TouchB S W W') (h1:∀ g,S g→¬ F g) (h2:∀ g,S g→B0 ≤ g):LxW B0 lo W' F N v0 v l :=
 h.same (fun g hg=>ht.block g (h.inr g hg).2 (fun e=>h1 g e hg)) (fun g hg=>ht.block g (by omega) (fun e=>by have:=h2 g e;omega)) ht.size
theorem LxW.t24 (h:LxW B0 lo W F N v0 v l) {g:Nat} (hg:F g):tyOf W g = some 24:=typed_ty h.ty hg
def LxP (B0 lo:Nat) (f:TF) (v0:Value) (l:List (Tm N)) (w:World) (e:Ending) (w':World):Prop:=∃ F p' c',e = .returned (aggV f (.slice p' l.length c'))∧LxW B0 lo w' F N v0 (.slice p' l.length c') l∧Below w.heap.size w w'∧∀ g,F g→w.heap.size ≤ g
theorem lendX (w:World) {t:Tm (N + 1)} (hB:B0 ≤ lo) (hl:lo ≤ w.heap.size) (h0:0 < w.heap.size) (h:ItemsAt w B0 N v t.items) (hs:nodesT t ≤ 100000000):Calls Tryz.prog 11 #[aggV t.f v] w (LxP B0 lo t.f v t.items w):=by
 refine (lendAll N w B0 v t (Nat.le_trans hB hl) h hs).mono ?_
 rintro e w' ⟨F,p',c',rfl,hn⟩
 exact ⟨F,p',c',rfl,⟨hn.items,hn.typed,hn.ptr 0 h0,fun g hg=>⟨Nat.le_trans hl (hn.inr g hg).1,(hn.inr g hg).2⟩,hB⟩,hn.below,fun g hg=>(hn.inr g hg).1⟩
theorem not24:¬ progT 24:=by unfold progT;decide
theorem LxW.at_ (h:LxW B0 lo W F N v0 v l):ItemsAt W W.heap.size N v l:=h.it.toIn.toAt (fun g hg=>(h.inr g hg).2)
theorem LxW.noprog (h:LxW B0 lo W F N v0 v l) {g:Nat} (hg:F g) {t:TypeId} (ht:tyOf W g = some t):¬ progT t:=by
 rw [h.t24 hg] at ht
 obtain rfl:=(Option.some.inj ht).symm
 exact not24
structure KpS (w:World) (B z:Nat) (A:List (TabA N)) (k v:Tm (N + 1)) (uk uv:Value) (Fx Fy:Nat→Prop) (ux uy:Value) (W:World):Prop where
 st:StX (fun g=>Fx g∨Fy g) B z A W
 bs:B ≤ W.heap.size
 bw:w.heap.size ≤ B
 base:Below w.heap.size w W
 x:LxW w.heap.size B W Fx N uk ux k.items
 y:LxW w.heap.size B W Fy N uv uy v.items
 ne:∀ g,Fx g→¬ Fy g
variable {w:World} {B z:Nat} {A:List (TabA N)} {k c:Tm (N + 1)} {uk uv ux uy:Value} {Fx Fy:Nat→Prop}
theorem KpS.below (h:KpS w B z A k c uk uv Fx Fy ux uy W) (hb:Below W.heap.size W W'):KpS w B z A k c uk uv Fx Fy ux uy W':=by
 have hw:w.heap.size ≤ W.heap.size:=Nat.le_trans h.bw h.bs
 exact ⟨h.st.below hb,Nat.le_trans h.bs hb.size,h.bw,h.base.trans (hb.mono hw),h.x.below hw hb,h.y.below hw hb,h.ne⟩
theorem KpS.put (h:KpS w B z A k c uk uv Fx Fy ux uy W) (hs:SmA A) (hnk:nodesT k ≤ 100000000) (hnv:nodesT c ≤ 100000000) :
 Calls Tryz.prog 24 #[.pointer (some ⟨z,0,none⟩),aggV (refT (N:=N) 1).f nilV,aggV k.f ux,aggV c.f uy] W fun e w'=>e = .returned (.int .i64 (putE A (refT 1) k c))∧KpS w B z (putA A (refT 1) k c) k c uk uv Fx Fy ux uy w'∧(∀ g,g < W.heap.size→tyOf W g = some 24→w'.heap[g]? = W.heap[g]?)∧W.heap.size ≤ w'.heap.size:=by
 refine (g_putG h.st (fun g hg=>by rcases hg with e | e;exact (h.x.inr g e).2;exact (h.y.inr g e).2) hs h.bs (Nat.le_refl _) ((flat_items W 0).more (Nat.zero_le _)) h.x.at_ h.y.at_ hnk hnv (fun Wm hz hk=>?_)).mono ?_
 ·exact (h.y.it.toIn.mono (fun g hg=>hk g (h.y.inr g hg).2 (.inr (fun t ht=>h.y.noprog hg ht))) (fun _ h=>h)).toAt (fun g hg=>Nat.lt_of_lt_of_le (h.y.inr g hg).2 hz)
 ·rintro e w' ⟨rfl,h1,h2⟩
  have keep:∀ g,g < W.heap.size→tyOf W g = some 24→w'.heap[g]? = W.heap[g]?:=fun g hg e=>h2.keep hg (fun t ht hT=>by rw [e] at ht;obtain rfl:=(Option.some.inj ht).symm;exact not24 hT)
  have hlow:∀ g,g < w.heap.size→w'.heap[g]? = W.heap[g]?:=fun g hg=>(h2.below h.bs).block g (Nat.lt_of_lt_of_le hg h.bw)
  exact ⟨rfl,⟨h1,Nat.le_trans h.bs h2.size,h.bw,h.base.trans ((h2.below h.bs).mono h.bw),h.x.same (fun g hg=>keep g (h.x.inr g hg).2 (h.x.t24 hg)) hlow h2.size,h.y.same (fun g hg=>keep g (h.y.inr g hg).2 (h.y.t24 hg)) hlow h2.size,h.ne⟩,keep,h2.size⟩
theorem KpS.keptx (h:KpS w B z A k c uk uv Fx Fy ux uy W):Calls Tryz.prog 14 #[aggV k.f ux,aggV k.f uk] W (BPost true W):=keptAll N W w.heap.size Fx uk ux k (Nat.le_trans h.bw h.bs) (fun g hg=>(h.x.inr g hg).2) h.x.it
theorem KpS.kepty (h:KpS w B z A k c uk uv Fx Fy ux uy W):Calls Tryz.prog 14 #[aggV c.f uy,aggV c.f uv] W (BPost true W):=keptAll N W w.heap.size Fy uv uy c (Nat.le_trans h.bw h.bs) (fun g hg=>(h.y.inr g hg).2) h.y.it
structure KpY (w:World) (B z:Nat) (A:List (TabA N)) (c:Tm (N + 1)) (uv:Value) (Fx Fy:Nat→Prop) (uy:Value) (W:World):Prop where
 st:StX (fun g=>Fx g∨Fy g) B z A W
 bs:B ≤ W.heap.size
 bw:w.heap.size ≤ B
 base:Below w.heap.size w W
 y:LxW w.heap.size B W Fy N uv uy c.items
theorem KpS.spoilx (h:KpS w B z A k c uk uv Fx Fy ux uy W) {f:TF}:Calls Tryz.prog 42 #[aggV f ux] W fun e w'=>e = .returned (.tuple #[])∧KpY w B z A c uv Fx Fy uy w'∧TouchB Fx W w':=by
 refine (spoil42 h.x.ty (fun g hg=>(h.x.inr g hg).2) h.x.ptr).mono ?_
 rintro e w' ⟨rfl,h1,h2,h3⟩
 have hw:w.heap.size ≤ W.heap.size:=Nat.le_trans h.bw h.bs
 have hlo:∀ g,Fx g→w.heap.size ≤ g:=fun g hg=>Nat.le_trans h.bw (h.x.inr g hg).1
 refine ⟨rfl,⟨h.st.touch (h3.mono (fun g _ hg=>.inl hg)) (fun g hg t ht=>?_),Nat.le_trans h.bs h3.size,h.bw,h.base.trans (h3.below hlo hw),h.y.touch hw h3 h.ne hlo⟩,h3⟩
 rcases hg with hg | hg
 ·exact h.x.noprog hg ht
 ·exact h.y.noprog hg ht
theorem KpY.below (h:KpY w B z A c uv Fx Fy uy W) (hb:Below W.heap.size W W'):KpY w B z A c uv Fx Fy uy W':=by
 have hw:w.heap.size ≤ W.heap.size:=Nat.le_trans h.bw h.bs
 exact ⟨h.st.below hb,Nat.le_trans h.bs hb.size,h.bw,h.base.trans (hb.mono hw),h.y.below hw hb⟩
theorem KpY.spoily (h:KpY w B z A c uv Fx Fy uy W) {f:TF}:Calls Tryz.prog 42 #[aggV f uy] W fun e w'=>e = .returned (.tuple #[])∧StG B z A w'∧B ≤ w'.heap.size∧Below w.heap.size w w'∧TouchB Fy W w':=by
 refine (spoil42 h.y.ty (fun g hg=>(h.y.inr g hg).2) h.y.ptr).mono ?_
 rintro e w' ⟨rfl,h1,h2,h3⟩
 have hw:w.heap.size ≤ W.heap.size:=Nat.le_trans h.bw h.bs
 have hlo:∀ g,Fy g→w.heap.size ≤ g:=fun g hg=>Nat.le_trans h.bw (h.y.inr g hg).1
 obtain ⟨F,vl,tabs,k1,k2,k3,k4⟩:=h.st
 have hx:StX Fy B z A W:=⟨F,vl,tabs,k1,k2,k3,fun g hg hy=>k4 g hg (.inr hy)⟩
 exact ⟨rfl,(hx.touch h3 (fun g hg t ht=>h.y.noprog hg ht)).st,Nat.le_trans h.bs h3.size,h.base.trans (h3.below hlo hw),h3⟩
theorem StX.touchS {G S:Nat→Prop} (h:StX G B z A W) (ht:TouchB S W W') (hS:∀ g,S g→G g∧∀ t,tyOf W g = some t→¬ progT t):StX G B z A W':=by
 obtain ⟨F,vl,tabs,h1,h2,h3,h4⟩:=h
 refine ⟨F,vl,tabs,h1.same (fun k hk hc=>ht.block k hk (fun hg=>?_)) ht.size,h2,h3,h4⟩
 rcases hc with hc | ⟨t,e,hc⟩
 ·exact h4 k hc (hS k hg).1
 ·exact (hS k hg).2 t e hc
theorem StX.less {G G':Nat→Prop} (h:StX G B z A W) (hG:∀ g,G' g→G g):StX G' B z A W:=by
 obtain ⟨F,vl,tabs,h1,h2,h3,h4⟩:=h
 exact ⟨F,vl,tabs,h1,h2,h3,fun g hg e=>h4 g hg (hG g e)⟩
theorem LxW.weak {lo':Nat} (h:LxW B0 lo W F N v0 v l) (h1:B0 ≤ lo') (h2:lo' ≤ lo):LxW B0 lo' W F N v0 v l:=⟨h.it,h.ty,h.ptr,fun g hg=>⟨Nat.le_trans h2 (h.inr g hg).1,(h.inr g hg).2⟩,h1⟩
theorem LxW.fresh (h:LxW B0 lo W F N v0 v l):¬ F W.heap.size:=fun e=>by have:=(h.inr _ e).2;omega
theorem old_no {o:Obj} {b:Nat} (hf:∀ g,F g→W.heap.size ≤ g) (hZ:W.heap[b]? = some o):¬ F b:=fun e=>by have:=hf _ e;have:=(Array.getElem?_eq_some_iff.1 hZ).1;omega
theorem box24 {b:Nat} {x:Array Value} (hZ:W.heap[b]? = some (.cells x 24)):∀ t,tyOf W b = some t→¬ progT t:=fun t ht=>by
 rw [tyOf_of hZ] at ht
 obtain rfl:=(Option.some.inj ht).symm
 exact not24
theorem next_box {w0:World} (h:Below w0.heap.size w0 W) (o:Obj):Below W.heap.size W (W.alloc o)∧(W.alloc o).heap[W.heap.size]? = some o:=⟨belowA (Below.refl _ _) o (Nat.le_refl _),alloc_new W o⟩
theorem nbox {w0:World} (h:Below w0.heap.size w0 W) (o:Obj):∃ c X,W.heap.size = c∧W.alloc o = X∧Below W.heap.size W X∧X.heap[c]? = some o∧w0.heap.size ≤ c:=⟨_,_,rfl,rfl,belowA (Below.refl _ _) o (Nat.le_refl _),alloc_new W o,h.size⟩
theorem nset {w0:World} {c:Nat} {y:Array Value} {t:TypeId} (h:Below w0.heap.size w0 W) (hc:w0.heap.size ≤ c) (x:Array Value) (hZ:W.heap[c]? = some (.cells y t)):∃ X,W.setRow c x = X∧TouchB (fun q=>q = c) W X∧Below w0.heap.size w0 X∧X.heap[c]? = some (.cells x t)∧∀ d,d ≠ c→X.heap[d]? = W.heap[d]? :=
 ⟨_,rfl,touch_setRow W c x,h.trans ((touch_setRow W c x).below (fun q e=>by omega) h.size),setRow_heap _ _ _ x _ _ hZ,fun d hd=>setRow_other W c d x hd⟩
theorem NewI.low {w0 w1:World} {u:Value} {l:List (Tm N)} (h:NewI w1 W F N u l) (h0:w0.heap.size ≤ w1.heap.size):NewI w0 W F N u l:=⟨h.items,h.typed,fun g hg=>⟨Nat.le_trans h0 (h.inr g hg).1,(h.inr g hg).2⟩⟩
theorem NewI.touchS {w0:World} {S:Nat→Prop} {u:Value} {l:List (Tm N)} (h:NewI w0 W F N u l) (ht:TouchB S W W') (hS:∀ g,S g→¬ F g):NewI w0 W' F N u l:=by
 have hs:∀ g,F g→W'.heap[g]? = W.heap[g]?:=fun g hg=>ht.block g (h.inr g hg).2 (fun e=>hS g e hg)
 exact ⟨h.items.mono hs (fun _ h=>h),h.typed.same hs,fun g hg=>⟨(h.inr g hg).1,Nat.lt_of_lt_of_le (h.inr g hg).2 ht.size⟩⟩
theorem NewI.old {w0:World} {u:Value} {l:List (Tm N)} {o:Obj} {b:Nat} (h:NewI w0 W F N u l) (hZ:w0.heap[b]? = some o):¬ F b:=old_no (fun g hg=>(h.inr g hg).1) hZ
theorem NewI.fresh {w0:World} {u:Value} {l:List (Tm N)} (h:NewI w0 W F N u l):¬ F W.heap.size:=fun e=>by have:=(h.inr _ e).2;omega
theorem NewI.at_ {w0:World} {u:Value} {l:List (Tm N)} (h:NewI w0 W F N u l):ItemsAt W W.heap.size N u l:=h.items.toAt (fun g hg=>(h.inr g hg).2)
theorem two_items {n:Nat} {W:World} {g:Nat} {a b:Tm (n + 1)} {u1 u2:Value} (hg:W.heap[g]? = some (.cells (nineL a.f u1 ++ nineL b.f u2).toArray 24)) (h1:ItemsAt W W.heap.size n u1 a.items) (h2:ItemsAt W W.heap.size n u2 b.items):ItemsAt W W.heap.size (n + 1) (.slice (some ⟨g,0,none⟩) 2 2) [a,b]:=by
 refine ⟨_,2,rfl,Nat.le_refl _,by unfold maxLen;omega,fun _=>⟨g,0,rfl,(Array.getElem?_eq_some_iff.1 hg).1,fun j hj=>?_⟩⟩
 have:j = 0∨j = 1:=by simp at hj;omega
 have h9:∀ i,i < 9→i = 0∨i = 1∨i = 2∨i = 3∨i = 4∨i = 5∨i = 6∨i = 7∨i = 8:=fun i hi=>by omega
 rcases this with rfl | rfl
 ·exact ⟨_,Cells.blk hg (fun i hi=>by rcases h9 i hi with rfl | rfl | rfl | rfl | rfl | rfl | rfl | rfl | rfl <;> rfl),h1⟩
 ·exact ⟨_,Cells.blk hg (fun i hi=>by rcases h9 i hi with rfl | rfl | rfl | rfl | rfl | rfl | rfl | rfl | rfl <;> rfl),h2⟩
theorem one_putE (hs:Bool):putE (oneA hs []) (refT 1) k c = if validT c && validT k then 0 else 2:=by
 unfold putE
 rw [one_ref]
 cases validT c <;> cases validT k <;> rfl
theorem one_putA (hs:Bool) (h1:validT k = true) (h2:validT c = true):putA (oneA hs []) (refT 1) k c = oneA hs [(k,c)]:=by
 unfold putA updA
 rw [one_ref,h1,h2]
 rfl
theorem one_getX (hs:Bool) (h1:validT k = true):getX (oneA hs [(k,c)]) (refT 1) k = (c,true,0):=by
 have hso:SortR (cmpH hs) [(k,c)]:=List.pairwise_singleton _ _
 have hg:getR (cmpH hs) [(k,c)] k = some c:=(getR_iff (ordH hs) hso).2 (List.mem_singleton.2 rfl)
 unfold getX
 rw [h1,if_pos rfl,one_tab]
 dsimp only
 rw [hg]
theorem one_firstX (hs:Bool):firstX (oneA hs [(k,c)]) (refT 1) = (some (k,c),0):=one_first
theorem NewI.spoil {wg w0:World} {u:Value} {f:TF} {F:Nat→Prop} {l:List (Tm N)} (h:NewI w0 W F N u l) (h0:wg.heap.size ≤ w0.heap.size) (h1:0 < wg.heap.size) (hb:Below wg.heap.size wg W):Calls Tryz.prog 42 #[aggV f u] W fun e w'=>e = .returned (.tuple #[])∧Below wg.heap.size wg w'∧TouchB F W w':=by
 have hlo:∀ g,F g→wg.heap.size ≤ g:=fun g hg=>Nat.le_trans h0 (h.inr g hg).1
 refine (spoil42 h.typed (fun g hg=>(h.inr g hg).2) (ptr_in h.typed (fun g hg=>by have:=hlo g hg;omega) h.items)).mono ?_
 rintro e w' ⟨rfl,k1,k2,k3⟩
 exact ⟨rfl,hb.trans (k3.below hlo hb.size),k3⟩
structure TwoN (wg:World) (G:Nat→Prop) (u2:Value) (W:World):Prop where
 ty:Typed W G
 lo:∀ g,G g→wg.heap.size ≤ g∧g < W.heap.size
 p2:PtrOK W G 0 u2
 hb:Below wg.heap.size wg W
theorem TwoN.below {wg:World} {G:Nat→Prop} {u2:Value} (h:TwoN wg G u2 W) (hb:Below W.heap.size W W'):TwoN wg G u2 W' :=
 ⟨h.ty.same (fun g hg=>hb.block g (h.lo g hg).2),fun g hg=>⟨(h.lo g hg).1,Nat.lt_of_lt_of_le (h.lo g hg).2 hb.size⟩,h.p2.mono (fun g hg=>hb.block g (h.lo g hg).2) (fun _ h=>h),h.hb.trans (hb.mono h.hb.size)⟩
theorem TwoN.spoil {wg:World} {G:Nat→Prop} {u u2:Value} {f:TF} (h:TwoN wg G u2 W) (hp:PtrOK W G 0 u):Calls Tryz.prog 42 #[aggV f u] W fun e w'=>e = .returned (.tuple #[])∧TwoN wg G u2 w'∧TouchB G W w':=by
 refine (spoil42 h.ty (fun g hg=>(h.lo g hg).2) hp).mono ?_
 rintro e w' ⟨rfl,k1,k2,k3⟩
 exact ⟨rfl,⟨k1,fun g hg=>⟨(h.lo g hg).1,Nat.lt_of_lt_of_le (h.lo g hg).2 k3.size⟩,ptr_keep k2 h.p2,h.hb.trans (k3.below (fun g hg=>(h.lo g hg).1) h.hb.size)⟩,k3⟩
theorem TwoN.of {wg w0:World} {F1 F2:Nat→Prop} {u1 u2:Value} {l1 l2:List (Tm N)} (h1:NewI w0 W F1 N u1 l1) (h2:NewI w0 W F2 N u2 l2) (h0:wg.heap.size ≤ w0.heap.size) (hp:0 < wg.heap.size) (hb:Below wg.heap.size wg W):TwoN wg (fun g=>F1 g∨F2 g) u2 W∧PtrOK W (fun g=>F1 g∨F2 g) 0 u1:=by
 have l1:∀ g,F1 g→wg.heap.size ≤ g:=fun g hg=>Nat.le_trans h0 (h1.inr g hg).1
 have l2:∀ g,F2 g→wg.heap.size ≤ g:=fun g hg=>Nat.le_trans h0 (h2.inr g hg).1
 refine ⟨⟨h1.typed.union h2.typed,fun g hg=>?_,?_,hb⟩,?_⟩
 ·rcases hg with e | e
  ·exact ⟨l1 g e,(h1.inr g e).2⟩
  ·exact ⟨l2 g e,(h2.inr g e).2⟩
 ·exact (ptr_in h2.typed (fun g hg=>by have:=l2 g hg;omega) h2.items).mono (fun _ _=>rfl) (fun _ e=>.inr e)
 ·exact (ptr_in h1.typed (fun g hg=>by have:=l1 g hg;omega) h1.items).mono (fun _ _=>rfl) (fun _ e=>.inl e)
end
end Go.Proofs.YtfbggmbmgohiiaaGreat.tb
