/- Several texts in one, one behind the other: CsP. No condition beyond theirs. -/
import Derived.Test.YtegffanlehaloaaGc
/- The order of pointers: sorting, in plain Lean. Conditions: as said. -/
namespace Go.Proofs.Ytegffanlehaloaa.cl
open words
set_option linter.unusedVariables false
set_option linter.unusedSimpArgs false
def pltB (a b : Int) : Bool := (!pOld a && pOld b) || ((pOld a == pOld b) && decide (pIx a < pIx b))
theorem pltB_irrefl (a : Int) : pltB a a = false := by unfold pltB; cases pOld a <;> simp
theorem pltB_trans {a b c : Int} (h1 : pltB a b = true) (h2 : pltB b c = true) : pltB a c = true := by
  unfold pltB at *
  cases ha : pOld a <;> cases hb : pOld b <;> cases hc : pOld c <;> simp [ha, hb, hc] at * <;> omega
theorem pltB_ntrans {a b c : Int} (h1 : pltB a b = false) (h2 : pltB b c = false) : pltB a c = false := by
  unfold pltB at *
  cases ha : pOld a <;> cases hb : pOld b <;> cases hc : pOld c <;> simp [ha, hb, hc] at * <;> omega
theorem pltB_asymm {a b : Int} (h1 : pltB a b = true) : pltB b a = false := by
  cases h : pltB b a
  · rfl
  · have := pltB_trans h1 h
    rw [pltB_irrefl] at this
    cases this
theorem pltB_same {a b : Int} (h1 : pltB a b = false) (h2 : pltB b a = false) : pOld a = pOld b ∧ pIx a = pIx b := by
  unfold pltB at *
  cases ha : pOld a <;> cases hb : pOld b <;> simp [ha, hb] at * <;> omega
def Srt (l : List Int) : Prop := l.Pairwise (fun a b => pltB b a = false)
def ins (x : Int) : List Int → List Int
  | [] => [x]
  | a :: r => if pltB x a = true then x :: a :: r else a :: ins x r
theorem ins_perm (x : Int) : ∀ l : List Int, (ins x l).Perm (x :: l) := by
  intro l
  induction l with
  | nil => exact List.Perm.refl _
  | cons a r ih =>
    unfold ins
    split
    · exact List.Perm.refl _
    · exact (ih.cons a).trans (List.Perm.swap x a r)
theorem ins_srt {x : Int} : ∀ {l : List Int}, Srt l → Srt (ins x l) := by
  intro l
  induction l with
  | nil => intro _; exact List.pairwise_singleton _ _
  | cons a r ih =>
    intro h
    obtain ⟨h1, h2⟩ := List.pairwise_cons.1 h
    unfold ins
    split
    · rename_i hx
      refine List.pairwise_cons.2 ⟨fun b hb => ?_, h⟩
      rcases List.mem_cons.1 hb with rfl | hb
      · exact pltB_asymm hx
      · exact pltB_ntrans (h1 b hb) (pltB_asymm hx)
    · rename_i hx
      have hx : pltB x a = false := by simpa using hx
      refine List.pairwise_cons.2 ⟨fun b hb => ?_, ih h2⟩
      rcases List.mem_cons.1 ((ins_perm x r).mem_iff.1 hb) with rfl | hb
      · exact hx
      · exact h1 b hb
theorem ins_at {x : Int} : ∀ {out : List Int} {k : Nat}, k ≤ out.length → (∀ j a, j < k → out[j]? = some a → pltB x a = false) → (∀ a, out[k]? = some a → pltB x a = true) → out.take k ++ [x] ++ out.drop k = ins x out := by
  intro out
  induction out with
  | nil => intro k _ _ _; simp [ins]
  | cons a r ih =>
    intro k hk h1 h2
    unfold ins
    cases k with
    | zero =>
      have := h2 a rfl
      rw [if_pos this]
      rfl
    | succ k =>
      have := h1 0 a (by omega) rfl
      rw [if_neg (by rw [this]; decide)]
      rw [← ih (k := k) (by simpa using hk) (fun j b hj hb => h1 (j + 1) b (by omega) (by simpa using hb)) (fun b hb => h2 b (by simpa using hb))]
      rfl
def insAll (l : List Int) : List Int := l.foldl (fun out x => ins x out) []
theorem insAll_aux : ∀ (l out : List Int), Srt out → Srt (l.foldl (fun out x => ins x out) out) ∧ (l.foldl (fun out x => ins x out) out).Perm (out ++ l) := by
  intro l
  induction l with
  | nil => intro out h; exact ⟨h, by simp⟩
  | cons x l ih =>
    intro out h
    obtain ⟨h1, h2⟩ := ih (ins x out) (ins_srt h)
    refine ⟨h1, h2.trans ?_⟩
    refine ((ins_perm x out).append_right l).trans ?_
    rw [List.cons_append]
    exact List.perm_middle.symm
theorem insAll_srt (l : List Int) : Srt (insAll l) := (insAll_aux l [] List.Pairwise.nil).1
theorem insAll_perm (l : List Int) : (insAll l).Perm l := (insAll_aux l [] List.Pairwise.nil).2
theorem insAll_snoc (l : List Int) (x : Int) : insAll (l ++ [x]) = ins x (insAll l) := by unfold insAll; rw [List.foldl_append]; rfl
/-- a sorted row of pointers to objects is determined by its elements -/
theorem srt_uniq {B : Bk} (hB : B.pos) {a b : List Int} (h0 : ∀ w ∈ a, 0 ≤ w ∧ ∃ x, Pt B w x) (ha : Srt a) (hb : Srt b) (hp : a.Perm b) : a = b := by
  refine List.Perm.eq_of_pairwise (le := fun a b => pltB b a = false) (fun x y hx hy h1 h2 => ?_) ha hb hp
  obtain ⟨x0, u, hu⟩ := h0 x hx
  obtain ⟨y0, v, hv⟩ := h0 y (hp.mem_iff.2 hy)
  obtain ⟨e1, e2⟩ := pltB_same h2 h1
  exact Pt.inj hB hu hv x0 y0 e1 (by rw [e2])
def pcmp (a b : Int) : Int := if pOld a = pOld b then pIx a - pIx b else if pOld a = true then 1 else -1
theorem pcmp_lt (a b : Int) : decide (pcmp a b < 0) = pltB a b := by
  unfold pcmp pltB
  cases ha : pOld a <;> cases hb : pOld b <;> simp <;> omega
end Go.Proofs.Ytegffanlehaloaa.cl
