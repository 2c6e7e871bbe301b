/- Texts of this seat, one behind the other: TnQ. No condition beyond theirs. -/
import Derived.BigRegion
import Derived.Deep.RegionHeld3
import Derived.Test.YtfbggmbmgohiiaaGreatK26
import Derived.Test.YtfbggmbmgohiiaaGreatK09
import Derived.Test.YtfbggmbmgohiiaaGreatK22
set_option linter.unusedSimpArgs false
set_option linter.unusedVariables false
set_option maxHeartbeats 1000000
set_option maxRecDepth 100000
namespace Go.Proofs.YtfbggmbmgohiiaaGreat.tm
open Go.RowKit mem names
variable {α:Type} {enc:α→TF × Value} {w0 wr w:World} {b n cap:Nat} {d:List α} {S:α→Prop} {c:α→α→Int} {tg:α→Nat}
def tlt (c:α→α→Int) (tg:α→Nat) (x y:α):Prop:=c x y < 0∨(c x y = 0∧tg x < tg y)
theorem tlt_trans (h:TP S c) {x y z:α} (hx:S x) (hy:S y) (hz:S z) (h1:tlt c tg x y) (h2:tlt c tg y z):tlt c tg x z:=by
 have k1:c x y ≤ 0:=by rcases h1 with h | h <;> omega
 have k2:c y z ≤ 0:=by rcases h2 with h | h <;> omega
 have k3:=h.trans x y z hx hy hz k1 k2
 by_cases e:c x z = 0
 ·have:=h.zero hx hy hz k1 k2 e
  rcases h1 with h1 | h1
  ·omega
  ·rcases h2 with h2 | h2
   ·omega
   ·exact .inr ⟨e,by omega⟩
 ·exact .inl (by omega)
structure InsInv (S:α→Prop) (c:α→α→Int) (tg:α→Nat) (S1:List α) (x:α) (S2:List α):Prop where
 sorted:(S1 ++ S2).Pairwise (tlt c tg)
 tags:∀ s ∈ S1 ++ S2,tg s < tg x
 less:∀ s ∈ S2,tlt c tg x s
 ok:∀ s ∈ S1 ++ x :: S2,S s
theorem InsInv.step {S1 S2:List α} {x y:α} (h:InsInv S c tg (S1 ++ [y]) x S2) (hlt:c x y < 0):InsInv S c tg S1 x (y :: S2):=by
 obtain ⟨h1,h2,h3,h4⟩:=h
 refine ⟨by simpa using h1,fun s hs=>h2 s (by simpa using hs),fun s hs=>?_,fun s hs=>h4 s (by simp at hs ⊢;rcases hs with h | h | h | h <;> simp [h])⟩
 rcases List.mem_cons.1 hs with rfl | hs
 ·exact .inl hlt
 ·exact h3 s hs
theorem InsInv.stop {S1 S2:List α} {x:α} (htp:TP S c) (h:InsInv S c tg S1 x S2) (hs:∀ T y,S1 = T ++ [y]→0 ≤ c x y):(S1 ++ x :: S2).Pairwise (tlt c tg):=by
 obtain ⟨h1,h2,h3,h4⟩:=h
 rw [List.pairwise_append] at h1 ⊢
 refine ⟨h1.1,List.pairwise_cons.2 ⟨h3,h1.2.1⟩,fun s hs1 t ht=>?_⟩
 rcases List.mem_cons.1 ht with rfl | ht
 ·rcases List.eq_nil_or_concat S1 with rfl | ⟨T,y,rfl⟩
  ·simp at hs1
  ·rw [List.concat_eq_append] at *
   have hy:=hs T y rfl
   have e:=htp.anti t y
   have hyt:tlt c tg y t:=by
    by_cases e0:c y t = 0
    ·exact .inr ⟨e0,h2 y (by simp)⟩
    ·exact .inl (by omega)
   rcases List.mem_append.1 hs1 with hs2 | hs2
   ·have:tlt c tg s y:=(List.pairwise_append.1 h1.1).2.2 s hs2 y (by simp)
    exact tlt_trans htp (h4 s (by simp [hs2])) (h4 y (by simp)) (h4 t (by simp)) this hyt
   ·simp at hs2;subst hs2;exact hyt
 ·exact h1.2.2 s hs1 t ht
def InRow (enc:α→TF × Value) (w0 wr:World) (b n cap:Nat) (A C:List α) (S:α→Prop) (c:α→α→Int) (tg:α→Nat) (T U:List α) (x:α) (a j:Nat):Prop :=
 ∃ S1 S2,a + S1.length = j∧InsInv S c tg S1 x S2∧(S1 ++ S2).Perm T∧RowW enc w0 wr b n cap (A ++ (S1 ++ x :: S2 ++ U) ++ C)
theorem InRow.drewN {A C T U:List α} {x:α} {a j:Nat} (h:InRow enc w0 wr b n cap A C S c tg T U x a j) (q:Nat):InRow enc w0 (wr.drewN q) b n cap A C S c tg T U x a j:=by
 obtain ⟨S1,S2,h1,h2,h3,h4⟩:=h
 exact ⟨S1,S2,h1,h2,h3,h4.drewN q⟩
def OutRow (enc:α→TF × Value) (w0 wr:World) (b n cap:Nat) (A M C:List α) (c:α→α→Int) (tg:α→Nat) (a i:Nat):Prop :=
 ∃ T0 T U,a + T.length = i∧M = T0 ++ U∧T.Perm T0∧T.Pairwise (tlt c tg)∧RowW enc w0 wr b n cap (A ++ (T ++ U) ++ C)
theorem OutRow.take {A M C:List α} {a i e:Nat} (h:OutRow enc w0 wr b n cap A M C c tg a i) (he:a + M.length = e) (hi:i < e) (hS:∀ x ∈ M,S x) (hT:M.Pairwise (fun x y=>tg x < tg y)) :
 ∃ T0 T U x,a + T0.length = i∧M = T0 ++ x :: U∧T.Perm T0∧S x∧InRow enc w0 wr b n cap A C S c tg T U x a i:=by
 obtain ⟨T0,T,U,h1,h2,h3,h4,h5⟩:=h
 have hl:=h3.length_eq
 cases U with
 | nil=>subst h2;simp at he;omega
 | cons x U =>
  have hx:S x:=hS x (by rw [h2];simp)
  refine ⟨T0,T,U,x,by omega,h2,h3,hx,T,[],h1,⟨by simpa using h4,fun s hs=>?_,fun s hs=>by simp at hs,fun s hs=>?_⟩,by simp,by simpa using h5⟩
  ·rw [List.append_nil] at hs
   rw [h2,List.pairwise_append] at hT
   exact hT.2.2 s (h3.mem_iff.1 hs) x (by simp)
  ·rcases List.mem_append.1 hs with hs | hs
   ·exact hS s (by rw [h2];simp [h3.mem_iff.1 hs])
   ·simp at hs;subst hs;exact hx
theorem InRow.done {A M C T0 T U:List α} {x:α} {a i j:Nat} (htp:TP S c) (h:InRow enc w0 wr b n cap A C S c tg T U x a j) (hM:M = T0 ++ x :: U) (hT:T.Perm T0) (hi:a + T0.length = i) (hs:∀ S1 S2,a + S1.length = j→RowW enc w0 wr b n cap (A ++ (S1 ++ x :: S2 ++ U) ++ C)→∀ R y,S1 = R ++ [y]→0 ≤ c x y):OutRow enc w0 wr b n cap A M C c tg a (i + 1):=by
 obtain ⟨S1,S2,h1,h2,h3,h4⟩:=h
 have hl:=(h3.trans hT).length_eq
 refine ⟨T0 ++ [x],S1 ++ x :: S2,U,by simp at hl ⊢;omega,by simp [hM],?_,h2.stop htp (hs S1 S2 h1 h4),h4⟩
 exact (List.perm_middle).trans ((List.Perm.cons x (h3.trans hT)).trans (List.perm_append_singleton x T0).symm)
theorem InRow.before {A C T U:List α} {x:α} {a j:Nat} (h:InRow enc w0 wr b n cap A C S c tg T U x a j) (hA:A.length = a) (hj:a < j):∃ jp P y Q,j = jp + 1∧P.length = jp∧S x∧S y∧RowW enc w0 wr b n cap (P ++ y :: x :: Q)∧jp + 1 < n ∧
 (∀ S1 S2,a + S1.length = j→RowW enc w0 wr b n cap (A ++ (S1 ++ x :: S2 ++ U) ++ C)→∀ R y',S1 = R ++ [y']→RowW enc w0 wr b n cap (P ++ y :: x :: Q)→True) ∧
 (c x y < 0→∀ w',RowW enc w0 w' b n cap (P ++ x :: y :: Q)→InRow enc w0 w' b n cap A C S c tg T U x a jp) ∧
 (∀ w',RowW enc w0 w' b n cap (P ++ y :: x :: Q)→InRow enc w0 w' b n cap A C S c tg T U x a j) ∧
 (0 ≤ c x y→∀ M T0 w',TP S c→RowW enc w0 w' b n cap (P ++ y :: x :: Q)→M = T0 ++ x :: U→T.Perm T0→OutRow enc w0 w' b n cap A M C c tg a (a + T0.length + 1)):=by
 obtain ⟨S1,S2,h1,h2,h3,h4⟩:=h
 rcases List.eq_nil_or_concat S1 with rfl | ⟨R,y,rfl⟩
 ·simp at h1;omega
 rw [List.concat_eq_append] at *
 have eq:∀ (p q:α),A ++ (R ++ p :: q :: S2 ++ U) ++ C = (A ++ R) ++ p :: q :: (S2 ++ U ++ C):=fun p q=>by simp
 have eq1:A ++ (R ++ [y] ++ x :: S2 ++ U) ++ C = (A ++ R) ++ y :: x :: (S2 ++ U ++ C):=by simp
 have h4':=h4
 rw [eq1] at h4'
 have hl:=h4'.len
 have h1':a + R.length + 1 = j:=by simp at h1;omega
 refine ⟨a + R.length,A ++ R,y,S2 ++ U ++ C,h1'.symm,by simp [hA],h2.ok x (by simp),h2.ok y (by simp),h4',by simp at hl;omega,fun _ _ _ _ _ _ _ _=>trivial,fun hlt w' hw=>?_,fun w' hw=>?_,fun hge M T0 w' htp hw hM hT=>?_⟩
 ·refine ⟨R,y :: S2,rfl,h2.step hlt,by simpa using h3,?_⟩
  rw [eq x y];exact hw
 ·refine ⟨R ++ [y],S2,by simp;omega,h2,h3,?_⟩
  rw [eq1];exact hw
 ·have hll:=(h3.trans hT).length_eq
  refine ⟨T0 ++ [x],R ++ [y] ++ x :: S2,U,by simp at hll ⊢;omega,by simp [hM],?_,h2.stop htp (fun R' y' e=>?_),?_⟩
  ·exact (List.perm_middle).trans ((List.Perm.cons x (h3.trans hT)).trans (List.perm_append_singleton x T0).symm)
  ·have:=List.append_inj_right' e (by simp)
   simp at this;subst this;exact hge
  ·rw [eq1];exact hw
end Go.Proofs.YtfbggmbmgohiiaaGreat.tm
