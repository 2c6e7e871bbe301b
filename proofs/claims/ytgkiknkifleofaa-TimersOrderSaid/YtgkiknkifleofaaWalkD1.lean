/- Plain: what a filled wheel holds. No condition. -/
import Derived.Test.YtgkiknkifleofaaWalkA1
namespace Go.Proofs.Ytgkiknkifleofaa.tm
open Go.RowKit mem TP
set_option linter.unusedVariables false
set_option linter.unusedSimpArgs false

structure FI (s : FS) : Prop where
  cnt : s.n = s.ins.length
  alen : s.A.length = s.ins.length
  ids : s.A.map (·.id) |>.Perm (s.ins.map (·.id))
  at_ : ∀ x ∈ s.A, ∃ j : Nat, ∃ h : j < s.ins.length, x.num = (j : Int) + 1 ∧ s.ins[j].due = x.due ∧ s.ins[j].id = x.id
theorem fi_step (s : FS) (h : FI s) (a : AD) : FI (fstep s a) := by
  unfold fstep addT addN
  by_cases hE : addE s.A a.due a.id = 0
  · simp only [hE, if_true]
    have hp := ins_perm s.A ⟨a.due, a.id, (s.n : Int) + 1⟩
    refine ⟨by simp [h.cnt], by rw [hp.length_eq]; simp [h.alen], ?_, ?_⟩
    · refine (hp.map _).trans ?_
      rw [List.map_append, List.map_append]
      exact h.ids.append_right _
    · intro x hx
      rcases ins_mem.1 hx with e | e
      · obtain ⟨j, hj, h1, h2, h3⟩ := h.at_ x e
        refine ⟨j, by simp; omega, h1, ?_, ?_⟩
        · rw [List.getElem_append_left hj]; exact h2
        · rw [List.getElem_append_left hj]; exact h3
      · subst e
        refine ⟨s.ins.length, by simp, by simp [h.cnt], ?_, ?_⟩
        · rw [List.getElem_append_right (Nat.le_refl _)]; simp
        · rw [List.getElem_append_right (Nat.le_refl _)]; simp
  · simp only [hE, if_false]; exact ⟨h.cnt, h.alen, h.ids, h.at_⟩
theorem fill_fi (l : List AD) : FI (fill l) := by
  have h : ∀ (l : List AD) (s : FS), FI s → FI (l.foldl fstep s) := by
    intro l
    induction l with
    | nil => intro s h; exact h
    | cons a l ih => intro s h; rw [List.foldl_cons]; exact ih _ (fi_step s h a)
  exact h l _ ⟨rfl, rfl, List.Perm.refl _, by simp⟩
/-- what the loop has seen last -/
def prevD (A : List TD) : Nat → Int
  | 0 => -1
  | k + 1 => ((A[k]?).map (·.due)).getD 0
def prevP (A : List TD) : Nat → Int
  | 0 => -1
  | k + 1 => ((A[k]?).map (fun x => x.num - 1)).getD 0
def cntB (A : List TD) (now : Int) (k : Nat) : Nat := ((A.take k).filter (dueB now)).length
theorem cnt_snoc (A : List TD) (now : Int) (k : Nat) (h : k < A.length) : cntB A now (k + 1) = cntB A now k + if A[k].due ≤ now then 1 else 0 := by
  unfold cntB
  rw [List.take_succ_eq_append_getElem h, List.filter_append, List.length_append]
  congr 1
  by_cases h : A[k].due ≤ now <;> simp [dueB, h]
theorem cnt_le (A : List TD) (now : Int) (k : Nat) : cntB A now k ≤ k := by
  unfold cntB; refine Nat.le_trans (List.length_filter_le _ _) ?_; rw [List.length_take]; omega
theorem cnt_all : ∀ (A : List TD) (now : Int), A.Pairwise ltT → cntB A now A.length = (ready A now).length := by
  intro A now h
  unfold cntB ready
  rw [List.take_length]
  induction A with
  | nil => rfl
  | cons x l ih =>
    rw [List.pairwise_cons] at h
    by_cases hx : x.due ≤ now
    · simp [dueB, hx] at *; exact ih h.2
    · have : l.filter (dueB now) = [] := by
        rw [List.filter_eq_nil_iff]
        intro y hy
        have := h.1 y hy
        unfold ltT at this
        simp [dueB]; omega
      simp [dueB, hx] at *; exact this
theorem prev_ok {A : List TD} {n : Nat} (hG : Good A n) (k : Nat) (hk : k < A.length) : prevD A k ≤ A[k].due ∧ (A[k].due = prevD A k → prevP A k < A[k].num - 1) := by
  cases k with
  | zero =>
    have := hG.dues _ (List.getElem_mem hk)
    simp only [prevD, prevP]
    exact ⟨by omega, fun e => by omega⟩
  | succ k =>
    have hs := List.pairwise_iff_getElem.1 hG.sorted k (k + 1) (by omega) hk (by omega)
    simp only [prevD, prevP, List.getElem?_eq_getElem (show k < A.length by omega), Option.map_some, Option.getD_some]
    unfold ltT at hs
    omega
theorem prev_succ (A : List TD) (k : Nat) (hk : k < A.length) : prevD A (k + 1) = A[k].due ∧ prevP A (k + 1) = A[k].num - 1 := by
  simp [prevD, prevP, List.getElem?_eq_getElem hk]
theorem ready_ids (A : List TD) (now : Int) : (ready A now).map (·.id) = (A.map (·.id)).take (ready A now).length ∧ (later A now).map (·.id) = (A.map (·.id)).drop (ready A now).length := by
  unfold ready later
  have h := List.takeWhile_append_dropWhile (p := dueB now) (l := A)
  constructor
  · conv => rhs; rw [← h]
    rw [List.map_append, List.take_append_of_le_length (by simp), List.take_of_length_le (by simp)]
  · conv => rhs; rw [← h]
    rw [List.map_append, List.drop_append_of_le_length (by simp), List.drop_of_length_le (by simp)]; simp [h]
end Go.Proofs.Ytgkiknkifleofaa.tm
