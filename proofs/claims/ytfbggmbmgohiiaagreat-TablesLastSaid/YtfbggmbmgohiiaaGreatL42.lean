/- Texts of this seat, one behind the other: OrD, ToA. No condition beyond theirs. -/
import Init.Data.List.Lemmas
import Derived.Test.YtfbggmbmgohiiaaGreatL34

/- Plain facts on merging sorted lists, rotating, and blocks. No condition. -/
namespace Go.Proofs.YtfbggmbmgohiiaaGreat.tm
set_option linter.unusedVariables false
set_option linter.unusedSimpArgs false

variable {α : Type} {lt : α → α → Prop} {S : α → Prop}
/-- full blocks, and the block of each in the first list -/
inductive Full (lt : α → α → Prop) (bs : Nat) : List α → List α → Prop
  | nil : Full lt bs [] []
  | snoc {D M x y : List α} : Full lt bs D M → x.length = bs → x.Perm y → x.Pairwise lt → Full lt bs (D ++ x) (M ++ y)
inductive Blks (lt : α → α → Prop) (bs : Nat) : List α → List α → Prop
  | last {x y : List α} : x.length ≤ bs → x.Perm y → x.Pairwise lt → Blks lt bs x y
  | cons {x y D M : List α} : x.length = bs → x.Perm y → x.Pairwise lt → Blks lt bs D M → Blks lt bs (x ++ D) (y ++ M)
theorem Blks.perm {bs : Nat} {D M : List α} (h : Blks lt bs D M) : D.Perm M := by
  induction h with
  | last _ hp _ => exact hp
  | cons _ hp _ _ ih => exact hp.append ih
theorem Full.perm {bs : Nat} {D M : List α} (h : Full lt bs D M) : D.Perm M := by
  induction h with
  | nil => exact .nil
  | snoc _ _ hp _ ih => exact ih.append hp
/-- at least two blocks are there -/
theorem Blks.two {bs : Nat} {D M : List α} (h : Blks lt bs D M) (hb : 0 < bs) (hl : 2 * bs ≤ D.length) : ∃ x1 x2 D' y1 y2 M', D = x1 ++ (x2 ++ D') ∧ M = y1 ++ (y2 ++ M') ∧ x1.length = bs ∧ x2.length = bs ∧ x1.Perm y1 ∧ x2.Perm y2 ∧ x1.Pairwise lt ∧ x2.Pairwise lt ∧ Blks lt bs D' M' := by
  cases h with
  | last h1 _ _ => omega
  | cons h1 p1 s1 h =>
    cases h with
    | last h2 p2 s2 =>
      rename_i x y x' y'
      simp at hl
      exact ⟨x, x', [], y, y', [], by simp, by simp, h1, by omega, p1, p2, s1, s2, .last (by simp) .nil .nil⟩
    | cons h2 p2 s2 h => exact ⟨_, _, _, _, _, _, rfl, rfl, h1, h2, p1, p2, s1, s2, h⟩
/-- fewer than two whole blocks, but more than one -/
theorem Blks.rest {bs : Nat} {D M : List α} (h : Blks lt bs D M) (hb : 0 < bs) (hl : D.length < 2 * bs) (hm : bs < D.length) : ∃ x1 x2 y1 y2, D = x1 ++ x2 ∧ M = y1 ++ y2 ∧ x1.length = bs ∧ x2 ≠ [] ∧ x1.Perm y1 ∧ x2.Perm y2 ∧ x1.Pairwise lt ∧ x2.Pairwise lt := by
  cases h with
  | last h1 _ _ => omega
  | cons h1 p1 s1 h =>
    cases h with
    | last h2 p2 s2 => exact ⟨_, _, _, _, rfl, rfl, h1, by rintro rfl; simp at hm; omega, p1, p2, s1, s2⟩
    | cons h2 p2 s2 h => simp at hl; omega
theorem Blks.one {bs : Nat} {D M : List α} (h : Blks lt bs D M) (hl : D.length ≤ bs) : D.Perm M ∧ D.Pairwise lt := by
  cases h with
  | last h1 p s => exact ⟨p, s⟩
  | cons h1 p1 s1 h =>
    rename_i x y D' M'
    simp at hl
    have e : D' = [] := List.eq_nil_of_length_eq_zero (by omega)
    subst e
    have := h.perm.length_eq
    have e : M' = [] := List.eq_nil_of_length_eq_zero (by simpa using this.symm)
    subst e
    simpa using ⟨p1, s1⟩
end Go.Proofs.YtfbggmbmgohiiaaGreat.tm

/- slices.swapRangeCmpFunc, slices.rotateCmpFunc at terms. Conditions: as said. -/
namespace Go.Proofs.YtfbggmbmgohiiaaGreat.tm
open Go.RowKit mem names
set_option linter.unusedVariables false
set_option linter.unusedSimpArgs false
set_option maxHeartbeats 1000000
set_option maxRecDepth 100000

variable {α : Type} {enc : α → TF × Value} {w0 wr w : World} {b n cap : Nat} {d : List α} {S : α → Prop} {c : α → α → Int} {tg : α → Nat}
def SwapInv (enc : α → TF × Value) (w0 wr : World) (b n cap : Nat) (A X M Y C : List α) (i : Nat) : Prop :=
  ∃ X1 X2 Y1 Y2, X = X1 ++ X2 ∧ Y = Y1 ++ Y2 ∧ X1.length = i ∧ Y1.length = i ∧ RowW enc w0 wr b n cap (A ++ (Y1 ++ (X2 ++ (M ++ (X1 ++ (Y2 ++ C))))))
theorem SwapInv.take {A X M Y C : List α} {i k a b2 : Nat} (h : SwapInv enc w0 wr b n cap A X M Y C i) (ha : A.length = a) (hk : X.length = k) (hk2 : Y.length = k) (hb : a + k + M.length = b2) (hi : i < k) (hS : ∀ x ∈ X ++ Y, S x) :
    ∃ P Q R x y, P.length = a + i ∧ P.length + 1 + Q.length = b2 + i ∧ S x ∧ S y ∧ RowW enc w0 wr b n cap (P ++ x :: (Q ++ y :: R)) ∧ (∀ w', RowW enc w0 w' b n cap (P ++ y :: (Q ++ x :: R)) → SwapInv enc w0 w' b n cap A X M Y C (i + 1)) := by
  obtain ⟨X1, X2, Y1, Y2, rfl, rfl, h1, h2, h3⟩ := h
  cases X2 with
  | nil => simp at hk; omega
  | cons x X2 =>
    cases Y2 with
    | nil => simp at hk2; omega
    | cons y Y2 =>
      simp at hk hk2
      refine ⟨A ++ Y1, X2 ++ (M ++ X1), Y2 ++ C, x, y, by simp; omega, by simp; omega, hS x (by simp), hS y (by simp), by simpa using h3, fun w' hw => ?_⟩
      exact ⟨X1 ++ [x], X2, Y1 ++ [y], Y2, by simp, by simp, by simp; omega, by simp; omega, by simpa using hw⟩
theorem SwapInv.done {A X M Y C : List α} {k : Nat} (h : SwapInv enc w0 wr b n cap A X M Y C k) (hk : X.length = k) (hk2 : Y.length = k) : RowW enc w0 wr b n cap (A ++ (Y ++ (M ++ (X ++ C)))) := by
  obtain ⟨X1, X2, Y1, Y2, rfl, rfl, h1, h2, h3⟩ := h
  have e1 : X2 = [] := List.eq_nil_of_length_eq_zero (by simp at hk; omega)
  have e2 : Y2 = [] := List.eq_nil_of_length_eq_zero (by simp at hk2; omega)
  subst e1 e2
  simpa using h3
def RotInv (enc : α → TF × Value) (w0 wr : World) (b n cap : Nat) (A U V C : List α) (m i j : Nat) : Prop :=
  ∃ P X Y Q, P.length + A.length + i = m ∧ X.length = i ∧ Y.length = j ∧ P ++ (Y ++ (X ++ Q)) = V ++ U ∧ (∀ x ∈ X ++ Y, x ∈ U ++ V) ∧ RowW enc w0 wr b n cap (A ++ (P ++ (X ++ (Y ++ (Q ++ C)))))
theorem RotInv.same {A U V C : List α} {m i : Nat} (h : RotInv enc w0 wr b n cap A U V C m i i) :
    ∃ A' X Y C', RowW enc w0 wr b n cap (A' ++ (X ++ ([] ++ (Y ++ C')))) ∧ (∀ x ∈ X ++ Y, x ∈ U ++ V) ∧ A'.length + i = m ∧ X.length = i ∧ Y.length = i ∧ i ≤ m ∧ (∀ w', RowW enc w0 w' b n cap (A' ++ (Y ++ ([] ++ (X ++ C')))) → RowW enc w0 w' b n cap (A ++ (V ++ (U ++ C)))) := by
  obtain ⟨P, X, Y, Q, h1, h2, h3, h4, h6, h5⟩ := h
  refine ⟨A ++ P, X, Y, Q ++ C, by simpa using h5, h6, by simp; omega, h2, h3, by omega, fun w' hw => ?_⟩
  have e : A ++ (V ++ (U ++ C)) = A ++ P ++ (Y ++ ([] ++ (X ++ (Q ++ C)))) := by
    rw [← List.append_assoc V, ← h4]; simp
  rw [e]; exact hw
end Go.Proofs.YtfbggmbmgohiiaaGreat.tm
