/- TnK,TnL. No condition beyond theirs. -/
import Derived.Test.YtpnlnbolhkcnjaaGreatK39
set_option linter.unusedSimpArgs false
set_option linter.unusedVariables false
set_option maxHeartbeats 4000000
set_option maxRecDepth 100000
namespace Go.Proofs.YtpnlnbolhkcnjaaGreat.tm
open Go.RowKit mem names
def markF:TF:=⟨-7,4711,0,⟨#[115,112,97,114,101]⟩,⟨#[]⟩,0,⟨#[]⟩,0⟩
theorem mark41 (w:World):Calls Tryz.prog 158 #[] w (VPost (aggV markF nilV) w):=by
 unfold VPost aggV markF nilV;dsimp only;go_enter Tryz.func158,Tryz.ntmps158;go_wp2_with fail;exact bodyPost_ret (v:=(.agg #[.int .i64 (-7),.int .i64 4711,.int .i64 0,.string ⟨#[115,112,97,114,101]⟩,.string ⟨#[]⟩,.int .i64 0,.slice none 0 0,.string ⟨#[]⟩,.int .i64 0])) (by simp [results,Tryz.results158,go_sem, *]) rfl ⟨rfl,by (repeat' (first | with_reducible exact Below.refl _ _ | with_reducible refine Below.alloc ?_ ?_ _ | with_reducible exact Nat.le_refl _ | with_reducible refine Below.setCell ?_ ?_ _))⟩
def Spare (w:World) (g o:Nat):Prop:=Cells w g o markF nilV∧Cells w g (o + 9) markF nilV
def LentIn (w:World) (B:Nat) (F:Nat→Prop):(n:Nat)→Value→Value→List (Tm n)→Prop
 | 0,v0,v,_=>∃ p0 c0,v0 = .slice p0 0 c0∧c0 ≤ maxLen∧((p0 = none∧v = nilV)∨(p0 ≠ none∧∃ g o c,v = .slice (some ⟨g,o,none⟩) 0 c∧2 ≤ c∧c ≤ maxLen∧F g∧Spare w g o))
 | n + 1,v0,v,l=>∃ p0 c0,v0 = .slice p0 l.length c0∧l.length ≤ c0∧c0 ≤ maxLen∧((p0 = none∧v = nilV∧l = [])∨(p0 ≠ none∧∃ g o c,v = .slice (some ⟨g,o,none⟩) l.length c∧l.length + 2 ≤ c∧c ≤ maxLen∧F g∧Spare w g (o + l.length * 9) ∧
  ∀ j,(h:j < l.length)→∃ g0 o0 u0 u,p0 = some ⟨g0,o0,none⟩∧g0 < B∧Cells w g0 (o0 + j * 9) (l[j]).f u0∧Cells w g (o + j * 9) (l[j]).f u∧LentIn w B F n u0 u (l[j]).items))
theorem LentIn.mono {w w':World} {B:Nat} {F F':Nat→Prop} (hs:∀ g,F g→w'.heap[g]? = w.heap[g]?) (hB:∀ g,g < B→w'.heap[g]? = w.heap[g]?) (hF:∀ g,F g→F' g):∀ {n:Nat} {v0 v:Value} {l:List (Tm n)},LentIn w B F n v0 v l→LentIn w' B F' n v0 v l:=by
 intro n
 induction n with
 | zero =>
  intro v0 v l h;obtain ⟨p0,c0,e,h1,h2⟩:=h;refine ⟨p0,c0,e,h1,?_⟩
  rcases h2 with h2 | ⟨hp,g,o,c,e,h3,h4,h5,h6⟩
  ·exact .inl h2
  ·exact .inr ⟨hp,g,o,c,e,h3,h4,hF g h5,h6.1.same (hs g h5),h6.2.same (hs g h5)⟩
 | succ n ih =>
  intro v0 v l h;obtain ⟨p0,c0,e,h1,h1',h2⟩:=h;refine ⟨p0,c0,e,h1,h1',?_⟩
  rcases h2 with h2 | ⟨hp,g,o,c,e,h3,h4,h5,h6,h7⟩
  ·exact .inl h2
  ·refine .inr ⟨hp,g,o,c,e,h3,h4,hF g h5,⟨h6.1.same (hs g h5),h6.2.same (hs g h5)⟩,fun j hj=>?_⟩;obtain ⟨g0,o0,u0,u,e0,hg0,c1,c2,c3⟩:=h7 j hj;exact ⟨g0,o0,u0,u,e0,hg0,c1.same (hB g0 hg0),c2.same (hs g h5),ih c3⟩
theorem LentIn.toIn {w:World} {B:Nat} {F:Nat→Prop}:∀ {n:Nat} {v0 v:Value} {l:List (Tm n)},LentIn w B F n v0 v l→ItemsIn w F n v l:=by
 intro n
 induction n with
 | zero =>
  intro v0 v l h;obtain ⟨p0,c0,e,h1,h2⟩:=h
  rcases h2 with ⟨_,e⟩ | ⟨hp,g,o,c,e,h3,h4,h5,h6⟩
  ·exact ⟨none,0,e,Nat.zero_le _⟩
  ·exact ⟨_,c,e,h4⟩
 | succ n ih =>
  intro v0 v l h;obtain ⟨p0,c0,e,h1,h1',h2⟩:=h
  rcases h2 with ⟨_,ev,rfl⟩ | ⟨hp,g,o,c,e,h3,h4,h5,h6,h7⟩
  ·exact ⟨none,0,ev,Nat.zero_le _,Nat.zero_le _,fun h=>absurd rfl h⟩
  ·refine ⟨_,c,e,by omega,h4,fun _=>⟨g,o,rfl,h5,fun j hj=>?_⟩⟩;obtain ⟨g0,o0,u0,u,e0,hg0,c1,c2,c3⟩:=h7 j hj;exact ⟨u,c2,ih c3⟩
structure LentNew (w w':World) (B:Nat) (F:Nat→Prop) (n:Nat) (v0 v:Value) (l:List (Tm n)):Prop where
 items:LentIn w' B F n v0 v l
 inr:∀ g,F g→w.heap.size ≤ g∧g < w'.heap.size
 typed:Typed w' F
 ptr:∀ g,g < w.heap.size→PtrOK w' F g v
 below:Below w.heap.size w w'
theorem LentNew.touch {w W0 w1 w':World} {B:Nat} {F S:Nat→Prop} {n:Nat} {v0 u:Value} {l:List (Tm n)} (h:LentNew W0 w1 B F n v0 u l) (ht:TouchB S w1 w') (hS:∀ g,F g→¬ S g) (hb:Below w.heap.size w w') (hw:w.heap.size ≤ W0.heap.size) (hlow:B ≤ w.heap.size) (hw1:Below w.heap.size w w1):LentNew w w' B F n v0 u l:=by
 have hs:∀ g,F g→w'.heap[g]? = w1.heap[g]?:=fun g hg=>ht.block g (h.inr g hg).2 (hS g hg)
 refine ⟨h.items.mono hs (fun g hg=>(hb.block g (by omega)).trans (hw1.block g (by omega)).symm) (fun _ h=>h),fun g hg=>?_,h.typed.same hs,fun g hg=>?_,hb⟩
 ·have:=h.inr g hg;have:=ht.size;omega
 ·exact (h.ptr g (by omega)).mono hs (fun _ h=>h)
end Go.Proofs.YtpnlnbolhkcnjaaGreat.tm
