/- The exchange of two timers in the heap, and their comparison, in the heap's own words. Conditions: the heap of timers lies in memory. -/
import Derived.Test.YtgkiknkifleofaaWalkC
namespace Go.Proofs.Ytgkiknkifleofaa.tm
open Go.RowKit mem TP
set_option linter.unusedVariables false
set_option linter.unusedSimpArgs false
set_option maxHeartbeats 1000000

theorem block_setCell (w : World) (b : Nat) (c : Array Value) (t : TypeId) (f : Nat × Nat) (o : Nat) (v : Value) (h : w.heap[b]? = some (.cells c t f)) :
    (w.setCell ⟨b, o, none⟩ v).heap[b]? = some (.cells (c.setIfInBounds o v) t f) := by
  simp [World.setCell, Array.getElem?_modify, h]
theorem getElem_g (Q : List Nat) (i : Nat) (h : i < Q.length) : Q[i] = g Q i := by simp [g, h]

theorem pile_swap {w : World} {b gr c : Nat} {Q : List Nat} {D : Nat → TD} {x0 x2 : Value} (h : Pile w b gr c Q D x0 x2) (i j : Nat) (hi : i < Q.length) (hj : j < Q.length) (hij : i ≠ j) :
    Pile ((((w.setCell ⟨gr, i, none⟩ (.pointer (some ⟨Q[j], 0, none⟩))).setCell ⟨gr, j, none⟩ (.pointer (some ⟨Q[i], 0, none⟩))).setCell ⟨Q[j], 3, none⟩ (.int .i64 i)).setCell ⟨Q[i], 3, none⟩ (.int .i64 j)) b gr c (swap Q i j) D x0 x2 := by
  have hbg := h.bg
  have hbi := h.bq i hi
  have hbj := h.bq j hj
  have hgi := h.gq i hi
  have hgj := h.gq j hj
  have hne := h.inj i j hi hj hij
  have hl := swap_length Q i j
  refine ⟨?_, ?_, ?_, h.cm⟩
  · rw [Below.heap_setCell _ _ _ _ (fun e => hbi e.symm), Below.heap_setCell _ _ _ _ (fun e => hbj e.symm), Below.heap_setCell _ _ _ _ hbg, Below.heap_setCell _ _ _ _ hbg, hl]
    exact h.blk
  · obtain ⟨cur, h1, h2, h3, h4⟩ := h.row
    refine ⟨(cur.setIfInBounds i (.pointer (some ⟨Q[j], 0, none⟩))).setIfInBounds j (.pointer (some ⟨Q[i], 0, none⟩)), ?_, by simpa using h2, by rw [hl]; exact h3, ?_⟩
    · rw [Below.heap_setCell _ _ _ _ (fun e => hgi e.symm), Below.heap_setCell _ _ _ _ (fun e => hgj e.symm)]
      exact block_setCell _ _ _ _ _ _ _ (block_setCell _ _ _ _ _ _ _ h1)
    · intro k hk
      have hk' : k < Q.length := by rw [hl] at hk; exact hk
      have hg := g_swap Q i j k hi hj
      rw [getElem_g _ _ hk, hg, Array.getElem?_setIfInBounds, Array.getElem?_setIfInBounds]
      by_cases e1 : k = j
      · subst e1; simp [h2]; exact ⟨by omega, getElem_g _ _ hi⟩
      · have e1' : ¬ j = k := fun e => e1 e.symm
        by_cases e2 : k = i
        · subst e2; simp [e1, e1', h2]; exact ⟨by omega, getElem_g _ _ hj⟩
        · have e2' : ¬ i = k := fun e => e2 e.symm
          simp only [e1', e2', e1, e2, if_false]
          rw [h4 k hk', getElem_g _ _ hk']
  · intro k hk
    have hk' : k < Q.length := by rw [hl] at hk; exact hk
    have hg := g_swap Q i j k hi hj
    rw [getElem_g _ _ hk, hg]
    by_cases e1 : k = j
    · subst e1
      rw [if_pos rfl, ← getElem_g _ _ hi]
      rw [block_setCell _ _ _ _ _ _ _ (by
        rw [Below.heap_setCell _ _ _ _ hne, Below.heap_setCell _ _ _ _ hgi, Below.heap_setCell _ _ _ _ hgi]
        exact h.tim i hi)]
      simp
    · rw [if_neg e1]
      by_cases e2 : k = i
      · subst e2
        rw [if_pos rfl, ← getElem_g _ _ hj]
        rw [Below.heap_setCell _ _ _ _ (fun e => hne e.symm), block_setCell _ _ _ _ _ _ _ (by
          rw [Below.heap_setCell _ _ _ _ hgj, Below.heap_setCell _ _ _ _ hgj]
          exact h.tim j hj)]
        simp
      · rw [if_neg e2, ← getElem_g _ _ hk']
        rw [Below.heap_setCell _ _ _ _ (h.inj k i hk' hi e2), Below.heap_setCell _ _ _ _ (h.inj k j hk' hj e1), Below.heap_setCell _ _ _ _ (h.gq k hk'), Below.heap_setCell _ _ _ _ (h.gq k hk')]
        exact h.tim k hk'

/-- what an operation on the heap may touch -/
def pfoot (gr : Nat) (Q : List Nat) (k : Nat) : Prop := k = gr ∨ k ∈ Q

section
variable {w : World} {b gr c : Nat} {Q : List Nat} {D : Nat → TD} {x0 x2 : Value}
theorem PSwap (h : Pile w b gr c Q D x0 x2) (i j : Nat) (hi : i < Q.length) (hj : j < Q.length) (hij : i ≠ j) (hn : Q.length ≤ 1000000) :
    Calls Try.prog 78 #[.slice (some ⟨gr, 0, none⟩) Q.length c, .int .i64 i, .int .i64 j] w fun e w' => e = .returned (.tuple #[]) ∧ Pile w' b gr c (swap Q i j) D x0 x2 ∧ TouchB (pfoot gr Q) w w' := by
  refine (Swap_ne gr Q.length c i j Q[i] Q[j] w hi hj hn hij (h.place i hi).1 (h.place j hj).1 (h.place i hi).2 (h.place j hj).2 (h.gq i hi) (h.gq j hj) (h.inj i j hi hj hij) _ _ (h.data i hi).2.2.2.1 (h.data j hj).2.2.2.1 (h.data i hi).2.2.2.2 (h.data j hj).2.2.2.2).mono ?_
  rintro e w' ⟨rfl, m, rfl⟩
  refine ⟨rfl, (pile_swap h i j hi hj hij).same (fun k hk => rfl), TouchB.drewN ?_ m⟩
  refine TouchB.setCell (TouchB.setCell (TouchB.setCell (TouchB.setCell (TouchB.refl _ _) _ _ ?_) _ _ ?_) _ _ ?_) _ _ ?_
  · intro _; exact .inl rfl
  · intro _; exact .inl rfl
  · intro _; exact .inr (List.getElem_mem hj)
  · intro _; exact .inr (List.getElem_mem hi)
theorem PLess (h : Pile w b gr c Q D x0 x2) (i j : Nat) (hi : i < Q.length) (hj : j < Q.length) (hn : Q.length ≤ 1000000) :
    Calls Try.prog 77 #[.slice (some ⟨gr, 0, none⟩) Q.length c, .int .i64 i, .int .i64 j] w fun e w' => e = .returned (.bool (decide (cmpT (D (g Q i)) (D (g Q j)) < 0))) ∧ Below w.heap.size w w' := by
  rw [← getElem_g _ _ hi, ← getElem_g _ _ hj]
  exact Less gr Q.length c i j Q[i] Q[j] _ _ w hi hj hn (h.place i hi).1 (h.place j hj).1 (h.data i hi).1 (h.data i hi).2.2.1 (h.data j hj).1 (h.data j hj).2.2.1
end

/-! ### the order -/
def le (D : Nat → TD) (a b : Nat) : Prop := ¬ cmpT (D b) (D a) < 0
theorem cmpT_lt (x y : TD) : cmpT x y < 0 ↔ (x.due < y.due ∨ (x.due = y.due ∧ x.num < y.num)) := by
  unfold cmpT orI cmpI
  by_cases h1 : x.due < y.due
  · simp [h1]
  · by_cases h2 : y.due < x.due
    · simp [h1, h2]; omega
    · have h3 : x.due = y.due := by omega
      by_cases h4 : x.num < y.num
      · simp [h3, h4]
      · by_cases h5 : y.num < x.num
        · simp [h3, h4, h5]
        · simp [h3, h4, h5]
theorem le_iff (D : Nat → TD) (a b : Nat) : le D a b ↔ ((D a).due < (D b).due ∨ ((D a).due = (D b).due ∧ (D a).num ≤ (D b).num)) := by
  unfold le; rw [cmpT_lt]; omega
theorem le_tr (D : Nat → TD) : ∀ a b c, le D a b → le D b c → le D a c := by
  intro a b c h1 h2; rw [le_iff] at *; omega
theorem le_rf (D : Nat → TD) : ∀ a, le D a a := by intro a; rw [le_iff]; omega
theorem le_of_lt (D : Nat → TD) (a b : Nat) (h : cmpT (D a) (D b) < 0) : le D a b := by rw [cmpT_lt] at h; rw [le_iff]; omega
end Go.Proofs.Ytgkiknkifleofaa.tm
