/- Texts of this seat, one behind the other: ToG. No condition beyond theirs. -/
import Derived.Deep.CutRange
import Derived.Test.YtfbggmbmgohiiaaGreatM39
import Derived.Test.YtfbggmbmgohiiaaGreatM21
set_option linter.unusedSimpArgs false
set_option linter.unusedVariables false
set_option maxHeartbeats 1000000
set_option maxRecDepth 100000
namespace Go.Proofs.YtfbggmbmgohiiaaGreat.tm
open Go.RowKit mem names
def RPost {n : Nat} (l : List (Tm (n + 1))) (w : World) (e : Ending) (w' : World) : Prop := ∃ p c, e = .returned (.slice p l.length c) ∧ ItemsAt w' w'.heap.size (n + 1) (.slice p l.length c) l ∧ Below w.heap.size w w'
def RPost2 {n : Nat} (l : List (Tm (n + 1))) (w W : World) (e : Ending) (w' : World) : Prop := ∃ p c, e = .returned (.slice p l.length c) ∧ ItemsAt w' w'.heap.size (n + 1) (.slice p l.length c) l ∧ Below W.heap.size W w' ∧ Below w.heap.size w w'
theorem RPost.on {n : Nat} {l : List (Tm (n + 1))} {w W w' : World} {e : Ending} (hb : Below w.heap.size w W) (h : RPost l W e w') : RPost2 l w W e w' := by
  obtain ⟨p, c, h1, h2, h3⟩ := h
  exact ⟨p, c, h1, h2, h3, hb.trans (h3.mono hb.size)⟩
theorem sortL_len {n : Nat} (l : List (Tm (n + 1))) : (sortL l).length = l.length := List.length_mergeSort l
theorem sortL_nodes {n : Nat} (l : List (Tm (n + 1))) : nodesL (n + 1) (sortL l) = nodesL (n + 1) l := by
  have h : ∀ a b : List (Tm (n + 1)), a.Perm b → nodesL (n + 1) a = nodesL (n + 1) b := by
    intro a b h
    induction h with
    | nil => rfl
    | cons x _ ih => rw [nodesL_cons, nodesL_cons, ih]
    | swap x y l => rw [nodesL_cons, nodesL_cons, nodesL_cons, nodesL_cons]; omega
    | trans _ _ h1 h2 => exact h1.trans h2
  exact h _ _ (List.mergeSort_perm _ _)
theorem mrg_left {n : Nat} (a : Tm (n + 1)) (A : List (Tm (n + 1))) (b : Tm (n + 1)) (B : List (Tm (n + 1))) (h : cmpV a b ≤ 0) : (a :: A).merge (b :: B) (leB cmpV) = a :: A.merge (b :: B) (leB cmpV) := by
  rw [List.cons_merge_cons, if_pos (by unfold leB; simpa using h)]
theorem mrg_right {n : Nat} (a : Tm (n + 1)) (A : List (Tm (n + 1))) (b : Tm (n + 1)) (B : List (Tm (n + 1))) (h : ¬ cmpV a b ≤ 0) : (a :: A).merge (b :: B) (leB cmpV) = b :: (a :: A).merge B (leB cmpV) := by
  rw [List.cons_merge_cons, if_neg (by unfold leB; simpa using h)]
def MInv {n : Nat} (A B T O : List (Tm (n + 1))) (i k : Nat) : Prop := O ++ (A.drop i).merge (B.drop k) (leB cmpV) = T ∧ O.length = i + k
theorem MInv.left {n : Nat} {A B T O : List (Tm (n + 1))} {i k : Nat} (h : MInv A B T O i k) (hi : i < A.length) (hk : (hk : k < B.length) → cmpV A[i] B[k] ≤ 0) (hkl : k ≤ B.length) : MInv A B T (O ++ [A[i]]) (i + 1) k := by
  obtain ⟨h1, h2⟩ := h
  refine ⟨?_, by simp; omega⟩
  rw [← h1, List.drop_eq_getElem_cons hi]
  by_cases hb : k < B.length
  · rw [List.drop_eq_getElem_cons hb, mrg_left _ _ _ _ (hk hb)]; simp
  · rw [List.drop_eq_nil_of_le (by omega : B.length ≤ k), List.merge_right, List.merge_right]; simp
theorem MInv.right {n : Nat} {A B T O : List (Tm (n + 1))} {i k : Nat} (h : MInv A B T O i k) (hk : k < B.length) (hi : (hi : i < A.length) → ¬ cmpV A[i] B[k] ≤ 0) (hil : i ≤ A.length) : MInv A B T (O ++ [B[k]]) i (k + 1) := by
  obtain ⟨h1, h2⟩ := h
  refine ⟨?_, by simp; omega⟩
  rw [← h1, List.drop_eq_getElem_cons hk]
  by_cases ha : i < A.length
  · rw [List.drop_eq_getElem_cons ha, mrg_right _ _ _ _ (hi ha)]; simp
  · rw [List.drop_eq_nil_of_le (by omega : A.length ≤ i), List.nil_merge, List.nil_merge]; simp
theorem MInv.done {n : Nat} {A B T O : List (Tm (n + 1))} (h : MInv A B T O A.length B.length) : O = T := by
  obtain ⟨h1, h2⟩ := h
  rw [List.drop_length, List.drop_length, List.nil_merge, List.append_nil] at h1
  exact h1
theorem ItemsAt.elt {n : Nat} {w : World} {B g o c : Nat} {l : List (Tm (n + 1))} (h : ItemsAt w B (n + 1) (.slice (some ⟨g, o, none⟩) l.length c) l) (i : Nat) (hi : i < l.length) : ∃ t x q m d, l[i]? = some t ∧ t.f = x ∧ Cells w g (o + i * 9) x (.slice q m d) ∧ ItemsAt w B n (.slice q m d) t.items := by
  obtain ⟨p, c', e, h1, h2, h3⟩ := h
  simp only [Value.slice.injEq, true_and] at e
  obtain ⟨rfl, rfl⟩ := e
  obtain ⟨g', o', e, hg, hc⟩ := h3 (by intro e; subst e; simp at hi)
  simp only [Option.some.injEq, Addr.mk.injEq, and_true] at e
  obtain ⟨rfl, rfl⟩ := e
  obtain ⟨u, hu1, hu2⟩ := hc i hi
  obtain ⟨q, d, rfl, _⟩ := hu2.shape
  exact ⟨l[i], l[i].f, q, _, d, List.getElem?_eq_getElem hi, rfl, hu1, hu2⟩
theorem ItemsAt.addr {n : Nat} {w : World} {B c : Nat} {p : Option Addr} {l : List (Tm (n + 1))} (h : ItemsAt w B (n + 1) (.slice p l.length c) l) (hl : 0 < l.length) : ∃ g o, p = some ⟨g, o, none⟩ ∧ g < B := by
  obtain ⟨g, o, c', e, _, _, hg, _⟩ := h.at_ (by intro e; subst e; simp at hl)
  simp only [Value.slice.injEq, true_and] at e
  exact ⟨g, o, e.1, hg⟩
end Go.Proofs.YtfbggmbmgohiiaaGreat.tm
