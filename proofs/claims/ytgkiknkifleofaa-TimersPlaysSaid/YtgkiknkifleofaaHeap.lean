/- Plain: a binary heap in a list. No program in sight. No condition. -/
import Derived.Test.YtgkiknkifleofaaRows
namespace Go.Proofs.Ytgkiknkifleofaa.TP
/-! ### a binary heap in a list -/
def g (Q : List Nat) (i : Nat) : Nat := Q.getD i 0
def swap (Q : List Nat) (i j : Nat) : List Nat := (Q.set i (g Q j)).set j (g Q i)

theorem swap_length (Q : List Nat) (i j : Nat) : (swap Q i j).length = Q.length := by simp [swap]
theorem g_swap (Q : List Nat) (i j k : Nat) (hi : i < Q.length) (hj : j < Q.length) : g (swap Q i j) k = if k = j then g Q i else if k = i then g Q j else g Q k := by
  unfold swap g
  simp only [List.getD_eq_getElem?_getD, List.getElem?_set]
  by_cases h1 : k = j
  · subst h1; simp [hj]
  · by_cases h2 : k = i
    · subst h2
      have h3 : ¬ j = k := fun e => h1 e.symm
      simp [h1, h3, hi]
    · have h3 : ¬ j = k := fun e => h1 e.symm
      have h4 : ¬ i = k := fun e => h2 e.symm
      simp [h1, h2, h3, h4]

variable (le : Nat → Nat → Prop)
def Heap (Q : List Nat) (n : Nat) : Prop := ∀ k, 0 < k → k < n → le (g Q ((k - 1) / 2)) (g Q k)
structure Hole (Q : List Nat) (n i : Nat) : Prop where
  rest : ∀ k, 0 < k → k < n → k ≠ i → (k - 1) / 2 ≠ i → le (g Q ((k - 1) / 2)) (g Q k)
  over : ∀ k, 0 < k → k < n → (k - 1) / 2 = i → 0 < i → le (g Q ((i - 1) / 2)) (g Q k)
def Kids (Q : List Nat) (n i : Nat) : Prop := ∀ k, 0 < k → k < n → (k - 1) / 2 = i → le (g Q i) (g Q k)
def Par (Q : List Nat) (i : Nat) : Prop := 0 < i → le (g Q ((i - 1) / 2)) (g Q i)

theorem heap_of {Q : List Nat} {n i : Nat} (h : Hole le Q n i) (hk : Kids le Q n i) (hp : Par le Q i) : Heap le Q n := by
  intro k k0 kn
  by_cases e1 : k = i
  · subst e1; exact hp k0
  by_cases e2 : (k - 1) / 2 = i
  · rw [e2]; exact hk k k0 kn e2
  exact h.rest k k0 kn e1 e2
theorem Heap.hole {Q : List Nat} {n : Nat} (tr : ∀ a b c, le a b → le b c → le a c) (h : Heap le Q n) (i : Nat) (hi : i < n) : Hole le Q n i :=
  ⟨fun k k0 kn _ _ => h k k0 kn, fun k k0 kn e i0 => tr _ _ _ (h i i0 hi) (by have := h k k0 kn; rw [e] at this; exact this)⟩

theorem down_step {Q : List Nat} {n i j : Nat} (h : Hole le Q n i) (hn : n ≤ Q.length) (hi : i < n) (hj : j < n) (j0 : 0 < j) (hp : (j - 1) / 2 = i)
    (hmin : ∀ k, 0 < k → k < n → (k - 1) / 2 = i → le (g Q j) (g Q k)) (hle : le (g Q j) (g Q i)) (_rf : ∀ a, le a a) :
    Hole le (swap Q i j) n j ∧ Par le (swap Q i j) j := by
  have hne : i ≠ j := by omega
  have hg := fun k => g_swap Q i j k (by omega) (by omega)
  refine ⟨⟨?_, ?_⟩, ?_⟩
  · intro k k0 kn kj pk
    rw [hg, hg, if_neg kj]
    by_cases e : (k - 1) / 2 = i
    · rw [if_neg pk, if_pos e]
      by_cases e2 : k = i
      · omega
      · rw [if_neg e2]; exact hmin k k0 kn e
    · rw [if_neg pk, if_neg e]
      by_cases e2 : k = i
      · subst e2; rw [if_pos rfl]; exact h.over j j0 hj hp k0
      · rw [if_neg e2]; exact h.rest k k0 kn e2 e
  · intro k k0 kn pk _
    rw [hg, hg, hp, if_neg hne, if_pos rfl, if_neg (by omega), if_neg (by omega)]
    have := h.rest k k0 kn (by omega) (by omega)
    rw [pk] at this; exact this
  · intro _
    rw [hg, hg, hp, if_neg hne, if_pos rfl, if_pos rfl]; exact hle

theorem up_step {Q : List Nat} {n j : Nat} (tr : ∀ a b c, le a b → le b c → le a c) (h : Hole le Q n j) (hk : Kids le Q n j) (hn : n ≤ Q.length) (hj : j < n) (j0 : 0 < j)
    (hle : le (g Q j) (g Q ((j - 1) / 2))) : Hole le (swap Q ((j - 1) / 2) j) n ((j - 1) / 2) ∧ Kids le (swap Q ((j - 1) / 2) j) n ((j - 1) / 2) := by
  generalize hi : (j - 1) / 2 = i at *
  have hne : i ≠ j := by omega
  have hg := fun k => g_swap Q i j k (by omega) (by omega)
  refine ⟨⟨?_, ?_⟩, ?_⟩
  · intro k k0 kn ki pk
    have kj : k ≠ j := by intro e; subst e; exact pk hi
    rw [hg, hg, if_neg kj, if_neg ki]
    by_cases e : (k - 1) / 2 = j
    · rw [if_pos e]; have := h.over k k0 kn e j0; rw [hi] at this; exact this
    · rw [if_neg e, if_neg pk]; exact h.rest k k0 kn kj e
  · intro k k0 kn pk i0
    have q1 : (i - 1) / 2 ≠ j := by omega
    have q2 : (i - 1) / 2 ≠ i := by omega
    have h1 := h.rest i i0 (by omega) hne q1
    rw [hg, hg, if_neg q1, if_neg q2]
    by_cases e : k = j
    · rw [if_pos e]; exact h1
    · rw [if_neg e, if_neg (by omega)]
      have h2 := h.rest k k0 kn e (by omega)
      rw [pk] at h2; exact tr _ _ _ h1 h2
  · intro k k0 kn pk
    rw [hg, hg, if_neg hne, if_pos rfl]
    by_cases e : k = j
    · rw [if_pos e]; exact hle
    · rw [if_neg e, if_neg (by omega)]
      have h2 := h.rest k k0 kn e (by omega)
      rw [pk] at h2; exact tr _ _ _ hle h2

theorem swap_perm (Q : List Nat) (i j : Nat) (hi : i < Q.length) (hj : j < Q.length) : (swap Q i j).Perm Q := by
  have e1 : g Q i = Q[i] := by simp [g, hi]
  have e2 : g Q j = Q[j] := by simp [g, hj]
  have hs : swap Q i j = (Q.set i Q[j]).set j Q[i] := by unfold swap; rw [e1, e2]
  rw [hs, List.perm_iff_count]
  intro a
  have hj' : j < (Q.set i Q[j]).length := by simpa using hj
  rw [List.count_set hj', List.count_set hi, List.getElem_set]
  have c1 : Q[i] = a → 0 < Q.count a := fun h => List.count_pos_iff.2 (h ▸ List.getElem_mem hi)
  have c2 : Q[j] = a → 0 < Q.count a := fun h => List.count_pos_iff.2 (h ▸ List.getElem_mem hj)
  by_cases hij : i = j
  · subst hij
    by_cases h1 : Q[i] = a
    · have := c1 h1; simp [h1]; omega
    · simp [h1]
  · by_cases h1 : Q[i] = a <;> by_cases h2 : Q[j] = a
    · have := c1 h1; simp [h1, h2]; omega
    · have := c1 h1; simp [h1, h2, hij]; omega
    · have := c2 h2; simp [h1, h2, hij]
    · simp [h1, h2, hij]

/-- the least lies first -/
theorem heap_min {Q : List Nat} {n : Nat} (tr : ∀ a b c, le a b → le b c → le a c) (rf : ∀ a, le a a) (h : Heap le Q n) : ∀ k, k < n → le (g Q 0) (g Q k) := by
  intro k
  induction k using Nat.strongRecOn with
  | ind k ih =>
    intro hk
    by_cases k0 : k = 0
    · subst k0; exact rf _
    · exact tr _ _ _ (ih ((k - 1) / 2) (by omega) (by omega)) (h k (by omega) hk)
end Go.Proofs.Ytgkiknkifleofaa.TP
