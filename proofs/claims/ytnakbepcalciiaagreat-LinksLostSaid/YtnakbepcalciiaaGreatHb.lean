/- Several texts in one, one behind the other: LkZa, LkZb, LkZc. No condition beyond theirs. -/
import Derived.Test.YtnakbepcalciiaaGreatGx
import Derived.Deep.AppendSrc
/- The protocol of two half links, in plain Lean. Conditions: as said. -/
namespace Go.Proofs.YtnakbepcalciiaaGreat.lk
set_option linter.unusedVariables false
set_option linter.unusedSimpArgs false
/-- a signal: kind (1 link, 2 unlink, 3 acknowledgement) and number -/
abbrev Sg := Int × Int
def sigH (h : Option Int) (s : Sg) : Option Int :=
  if s.1 = 1 then (if h.isSome then h else some 0) else if s.1 = 2 then (if h = some 0 then none else h) else (if 0 < s.2 ∧ h.getD 0 = s.2 then none else h)
def runH (h : Option Int) (q : List Sg) : Option Int := q.foldl sigH h
theorem run_nil (h : Option Int) : runH h [] = h := rfl
theorem run_cons (h : Option Int) (s : Sg) (q : List Sg) : runH h (s :: q) = runH (sigH h s) q := rfl
theorem run_snoc (h : Option Int) (q : List Sg) (s : Sg) : runH h (q ++ [s]) = sigH (runH h q) s := by unfold runH; rw [List.foldl_append]; rfl
def lastLU (q : List Sg) : Option Sg := (q.filter (fun s => decide (s.1 ≠ 3))).getLast?
theorem last_nil : lastLU [] = none := rfl
theorem last_ack (q : List Sg) (n : Int) : lastLU (q ++ [(3, n)]) = lastLU q := by
  unfold lastLU; rw [List.filter_append]; simp
theorem last_snoc (q : List Sg) (s : Sg) (h : s.1 ≠ 3) : lastLU (q ++ [s]) = some s := by
  unfold lastLU; rw [List.filter_append]; simp [h]
theorem last_none {q : List Sg} (h : ∀ s ∈ q, s.1 = 3) : lastLU q = none := by
  unfold lastLU
  rw [List.filter_eq_nil_iff.2 (fun s hs => by simp [h s hs])]
  rfl
theorem last_cons {s s' : Sg} {q : List Sg} (h : lastLU q = some s') : lastLU (s :: q) = some s' := by
  unfold lastLU at *
  rw [List.filter_cons]
  split
  · rw [List.getLast?_cons, h]; rfl
  · exact h
theorem last_tail {s s' : Sg} {q : List Sg} (h : lastLU (s :: q) = some s') : lastLU q = some s' ∨ (s' = s ∧ s.1 ≠ 3 ∧ ∀ x ∈ q, x.1 = 3) := by
  unfold lastLU at *
  rw [List.filter_cons] at h
  split at h
  · rename_i hs
    cases hq : (q.filter (fun s => decide (s.1 ≠ 3))).getLast? with
    | some x => rw [List.getLast?_cons, hq] at h; exact .inl (by simpa using h)
    | none =>
      rw [List.getLast?_cons, hq] at h
      refine .inr ⟨by simpa using h.symm, by simpa using hs, fun x hx => ?_⟩
      have := List.getLast?_eq_none_iff.1 hq
      rw [List.filter_eq_nil_iff] at this
      simpa using this x hx
  · exact .inl h
theorem last_mem {s : Sg} {q : List Sg} (h : lastLU q = some s) : s ∈ q ∧ s.1 ≠ 3 := by
  unfold lastLU at h
  have := List.mem_of_getLast? h
  rw [List.mem_filter] at this
  exact ⟨this.1, by simpa using this.2⟩
theorem last_ack_cons (q : List Sg) (n : Int) : lastLU ((3, n) :: q) = lastLU q := by
  unfold lastLU; rw [List.filter_cons]; simp
def good (h : Option Int) : Prop := h = none ∨ h = some 0
theorem good_sig {h : Option Int} {s : Sg} (hg : good h) : good (sigH h s) := by
  unfold good sigH at *
  rcases hg with rfl | rfl
  · split
    · exact .inr rfl
    · split
      · exact .inl rfl
      · split
        · exact .inl rfl
        · exact .inl rfl
  · split
    · exact .inr rfl
    · split
      · exact .inl rfl
      · split
        · exact .inl rfl
        · exact .inr rfl
theorem good_run {h : Option Int} (q : List Sg) (hg : good h) : good (runH h q) := by
  induction q generalizing h with
  | nil => exact hg
  | cons s q ih => exact ih (good_sig hg)
theorem stuck_sig {m : Int} {s : Sg} (hm : m ≠ 0) (hs : s ≠ (3, m)) (hk : s.1 = 1 ∨ s.1 = 2 ∨ s.1 = 3) : sigH (some m) s = some m := by
  obtain ⟨k, n⟩ := s
  unfold sigH
  rcases hk with rfl | rfl | rfl
  · rfl
  · simp [hm]
  · have : ¬ (0 < n ∧ m = n) := fun h => hs (by rw [h.2])
    simp [this]
theorem stuck_run {m : Int} {q : List Sg} (hm : m ≠ 0) (hs : (3, m) ∉ q) (hk : ∀ s ∈ q, s.1 = 1 ∨ s.1 = 2 ∨ s.1 = 3) : runH (some m) q = some m := by
  induction q with
  | nil => rfl
  | cons s q ih =>
    rw [run_cons, stuck_sig hm (fun e => hs (by rw [e]; exact List.mem_cons_self)) (hk s List.mem_cons_self)]
    exact ih (fun h => hs (List.mem_cons_of_mem _ h)) (fun x hx => hk x (List.mem_cons_of_mem _ hx))
theorem freed_run {m : Int} {q : List Sg} (hm : 0 < m) (hs : (3, m) ∈ q) (hk : ∀ s ∈ q, s.1 = 1 ∨ s.1 = 2 ∨ s.1 = 3) : good (runH (some m) q) := by
  induction q with
  | nil => simp at hs
  | cons s q ih =>
    rw [run_cons]
    by_cases he : s = (3, m)
    · subst he
      refine good_run q (.inl ?_)
      unfold sigH
      simp [hm]
    · rw [stuck_sig (by omega) he (hk s List.mem_cons_self)]
      exact ih (by rcases List.mem_cons.1 hs with h | h; exact absurd h.symm he; exact h) (fun x hx => hk x (List.mem_cons_of_mem _ hx))
theorem snoc_ind {α : Type} {P : List α → Prop} (h0 : P []) (hs : ∀ q s, P q → P (q ++ [s])) (q : List α) : P q := by
  have h : ∀ r : List α, P r.reverse := fun r => by
    induction r with
    | nil => exact h0
    | cons a r ih => rw [List.reverse_cons]; exact hs _ _ ih
  have := h q.reverse
  rwa [List.reverse_reverse] at this
theorem active_run : ∀ (q : List Sg), (∀ s ∈ q, s.1 = 1 ∨ s.1 = 2 ∨ s.1 = 3) → (runH (some 0) q = some 0 ↔ ∀ m, lastLU q ≠ some (2, m)) := by
  refine snoc_ind ?_ ?_
  · intro _; simp [run_nil, last_nil]
  · intro q s ih hk
    have ih := ih (fun x hx => hk x (List.mem_append_left _ hx))
    have hs := hk s (List.mem_append_right _ (by simp))
    have hg := good_run q (h := some 0) (.inr rfl)
    obtain ⟨k, n⟩ := s
    rw [run_snoc]
    rcases hs with hs | hs | hs
    · have hs : k = 1 := hs
      subst hs
      rw [last_snoc _ _ (show (1 : Int) ≠ 3 by decide)]
      constructor
      · intro _ m h; simp at h
      · intro _
        unfold sigH
        rcases hg with h | h <;> rw [h] <;> rfl
    · have hs : k = 2 := hs
      subst hs
      rw [last_snoc _ _ (show (2 : Int) ≠ 3 by decide)]
      constructor
      · intro h
        exfalso
        unfold sigH at h
        rcases hg with h2 | h2 <;> rw [h2] at h <;> simp at h
      · intro h; exact absurd rfl (h n)
    · have hs : k = 3 := hs
      subst hs
      rw [last_ack, ← ih]
      unfold sigH
      rcases hg with h | h <;> rw [h] <;> simp
      intro h1 h2
      omega
/-- a side: its half link, the last number, the signals under way to it -/
structure Side where
  h : Option Int
  last : Int
  way : List Sg
def unl (q : List Sg) : List Sg := q.filter (fun s => decide (s.1 = 2))
theorem unl_snoc (q : List Sg) {s : Sg} (h : s.1 ≠ 2) : unl (q ++ [s]) = unl q := by
  unfold unl; rw [List.filter_append]; simp [h]
theorem unl_mem {q : List Sg} {s : Sg} (h : s ∈ unl q) : s ∈ q ∧ s.1 = 2 := by
  unfold unl at h
  rw [List.mem_filter] at h
  exact ⟨h.1, by simpa using h.2⟩
theorem unl_add {q : List Sg} {n : Int} (h : (unl q).Nodup) (hn : (2, n) ∉ q) : (unl (q ++ [(2, n)])).Nodup := by
  unfold unl at *
  rw [List.filter_append, List.nodup_append]
  refine ⟨h, by simp, fun a ha b hb e => ?_⟩
  have hb : b = (2, n) := by simpa using hb
  subst hb
  subst e
  exact hn (List.mem_filter.1 ha).1
theorem unl_tail {q : List Sg} {s : Sg} (h : (unl (s :: q)).Nodup) : (unl q).Nodup := by
  unfold unl at *
  rw [List.filter_cons] at h
  split at h
  · exact (List.nodup_cons.1 h).2
  · exact h
theorem unl_dup {q : List Sg} {n : Int} (h : (unl ((2, n) :: q)).Nodup) : (2, n) ∉ q := fun hm => by
  unfold unl at h
  rw [List.filter_cons, if_pos (by simp)] at h
  exact (List.nodup_cons.1 h).1 (List.mem_filter.2 ⟨hm, by simp⟩)
structure Inv2 (x y : Side) : Prop where
  wf : ∀ s ∈ x.way, s.1 = 1 ∨ s.1 = 2 ∨ s.1 = 3
  j : ∀ m, x.h = some m → m ≠ 0 → (lastLU y.way = some (2, m) ∧ (3, m) ∉ x.way) ∨ ((∀ s ∈ y.way, s.1 = 3) ∧ (3, m) ∈ x.way)
  k : ∀ m, lastLU y.way = some (2, m) → x.h = some m
  n0 : 0 ≤ x.last
  n1 : ∀ m, x.h = some m → 0 ≤ m ∧ m ≤ x.last
  n2 : ∀ m, (3, m) ∈ x.way → 1 ≤ m ∧ m ≤ x.last
  n3 : ∀ m, (2, m) ∈ y.way → 1 ≤ m ∧ m ≤ x.last
  n4 : (unl y.way).Nodup
structure PInv (x y : Side) : Prop where
  a : Inv2 x y
  b : Inv2 y x
  fin : runH x.h x.way = some 0 ↔ runH y.h y.way = some 0
theorem PInv.symm {x y : Side} (h : PInv x y) : PInv y x := ⟨h.b, h.a, h.fin.symm⟩
theorem pinv_start (l m : Int) (hl : 0 ≤ l) (hm : 0 ≤ m) : PInv ⟨none, l, []⟩ ⟨none, m, []⟩ := by
  refine ⟨⟨?_, ?_, ?_, hl, ?_, ?_, ?_, by simp [unl]⟩, ⟨?_, ?_, ?_, hm, ?_, ?_, ?_, by simp [unl]⟩, Iff.rfl⟩
  all_goals (intro s h; first | (simp at h; done) | (simp [lastLU] at h))
/-- x links -/
theorem pinv_join {x y : Side} (h : PInv x y) (hx : x.h ≠ some 0) : PInv ⟨some 0, x.last, x.way⟩ ⟨y.h, y.last, y.way ++ [(1, 0)]⟩ := by
  obtain ⟨ha, hb, hf⟩ := h
  refine ⟨⟨ha.wf, ?_, ?_, ha.n0, ?_, ha.n2, ?_, by rw [unl_snoc _ (by decide)]; exact ha.n4⟩, ⟨?_, ?_, hb.k, hb.n0, hb.n1, ?_, hb.n3, hb.n4⟩, ?_⟩
  · intro m hm h0; exact absurd (Option.some.inj hm).symm h0
  · intro m hm
    dsimp only at hm
    rw [last_snoc _ _ (show (1 : Int) ≠ 3 by decide)] at hm
    simp at hm
  · intro m hm
    obtain rfl := Option.some.inj hm
    exact ⟨by omega, ha.n0⟩
  · intro m hm
    rcases List.mem_append.1 hm with hm | hm
    · exact ha.n3 m hm
    · simp at hm
  · intro s hs
    rcases List.mem_append.1 hs with hs | hs
    · exact hb.wf s hs
    · rw [List.mem_singleton] at hs; subst hs; exact .inl rfl
  · intro m hm h0
    rcases hb.j m hm h0 with ⟨h1, h2⟩ | ⟨h1, h2⟩
    · exact .inl ⟨h1, fun h => by rcases List.mem_append.1 h with h | h; exact h2 h; simp at h⟩
    · exact .inr ⟨h1, List.mem_append_left _ h2⟩
  · intro m hm
    rcases List.mem_append.1 hm with hm | hm
    · exact hb.n2 m hm
    · simp at hm
  · dsimp only
    rw [active_run _ ha.wf, run_snoc]
    by_cases hl : ∃ m, lastLU x.way = some (2, m)
    · obtain ⟨m, hl⟩ := hl
      have hy := hb.k m hl
      have h1 := hb.n3 m (last_mem hl).1
      have hn : (3, m) ∉ y.way := by
        rcases hb.j m hy (by omega) with ⟨_, h2⟩ | ⟨h2, _⟩
        · exact h2
        · have := last_mem hl; exact absurd (h2 _ this.1) this.2
      rw [hy, stuck_run (by omega) hn hb.wf, stuck_sig (by omega) (by simp) (.inl rfl)]
      constructor
      · intro h; exact absurd hl (h m)
      · intro h; have := Option.some.inj h; omega
    · have hg : good (runH y.h y.way) := by
        cases hy : y.h with
        | none => exact good_run _ (.inl rfl)
        | some m =>
          by_cases h0 : m = 0
          · subst h0; exact good_run _ (.inr rfl)
          · rcases hb.j m hy h0 with ⟨h1, _⟩ | ⟨_, h2⟩
            · exact absurd ⟨m, h1⟩ hl
            · exact freed_run (by have := hb.n1 m hy; omega) h2 hb.wf
      constructor
      · intro _
        unfold sigH
        rcases hg with h | h <;> rw [h] <;> rfl
      · intro _ m h; exact hl ⟨m, h⟩
/-- x unlinks -/
theorem pinv_part {x y : Side} (h : PInv x y) (hx : x.h = some 0) : PInv ⟨some (x.last + 1), x.last + 1, x.way⟩ ⟨y.h, y.last, y.way ++ [(2, x.last + 1)]⟩ := by
  obtain ⟨ha, hb, hf⟩ := h
  have hfr : (3, x.last + 1) ∉ x.way := fun h => by have := ha.n2 _ h; omega
  have h0 := ha.n0
  refine ⟨⟨ha.wf, ?_, ?_, by show 0 ≤ x.last + 1; omega, ?_, ?_, ?_, unl_add ha.n4 (fun h => by have := ha.n3 _ h; omega)⟩, ⟨?_, ?_, hb.k, hb.n0, hb.n1, ?_, hb.n3, hb.n4⟩, ?_⟩
  · intro m hm _
    obtain rfl := Option.some.inj hm
    exact .inl ⟨last_snoc _ _ (show (2 : Int) ≠ 3 by decide), hfr⟩
  · intro m hm
    dsimp only at hm
    rw [last_snoc _ _ (show (2 : Int) ≠ 3 by decide)] at hm
    simp only [Option.some.injEq, Prod.mk.injEq, true_and] at hm
    rw [hm]
  · intro m hm
    obtain rfl := Option.some.inj hm
    exact ⟨by omega, Int.le_refl _⟩
  · intro m hm
    have := ha.n2 m hm
    exact ⟨this.1, by show m ≤ x.last + 1; omega⟩
  · intro m hm
    rcases List.mem_append.1 hm with hm | hm
    · have := ha.n3 m hm; exact ⟨this.1, by show m ≤ x.last + 1; omega⟩
    · simp at hm; subst hm; exact ⟨by omega, Int.le_refl _⟩
  · intro s hs
    rcases List.mem_append.1 hs with hs | hs
    · exact hb.wf s hs
    · rw [List.mem_singleton] at hs; subst hs; exact .inr (.inl rfl)
  · intro m hm h0
    rcases hb.j m hm h0 with ⟨h1, h2⟩ | ⟨h1, h2⟩
    · exact .inl ⟨h1, fun h => by rcases List.mem_append.1 h with h | h; exact h2 h; simp at h⟩
    · exact .inr ⟨h1, List.mem_append_left _ h2⟩
  · intro m hm
    rcases List.mem_append.1 hm with hm | hm
    · exact hb.n2 m hm
    · simp at hm
  · dsimp only
    rw [stuck_run (by omega) hfr ha.wf, run_snoc]
    constructor
    · intro h; have := Option.some.inj h; omega
    · intro h
      exfalso
      unfold sigH at h
      simp at h
/-- a signal comes to x -/
theorem pinv_pass {x y : Side} {s : Sg} {q : List Sg} (h : PInv x y) (hq : x.way = s :: q) : PInv ⟨sigH x.h s, x.last, q⟩ ⟨y.h, y.last, if s.1 = 2 then y.way ++ [(3, s.2)] else y.way⟩ := by
  obtain ⟨ha, hb, hf⟩ := h
  obtain ⟨kd, n⟩ := s
  have hkd : kd = 1 ∨ kd = 2 ∨ kd = 3 := ha.wf (kd, n) (by rw [hq]; exact List.mem_cons_self)
  have hmem : ∀ s ∈ q, s ∈ x.way := fun s hs => by rw [hq]; exact List.mem_cons_of_mem _ hs
  have hlw : ∀ (w : List Sg) (c : Prop) [Decidable c] (a : Int), lastLU (if c then w ++ [(3, a)] else w) = lastLU w := fun w c _ a => by split; exact last_ack _ _; rfl
  -- y's own half
  have hgood : ∀ m, sigH x.h (kd, n) = some m → m ≠ 0 → x.h = some m ∧ ¬ (kd = 3 ∧ n = m) := by
    intro m hm h0
    unfold sigH at hm
    rcases hkd with rfl | rfl | rfl
    · dsimp only at hm
      rw [if_pos rfl] at hm
      split at hm
      · exact ⟨hm, fun h => by simp at h⟩
      · exact absurd (Option.some.inj hm).symm h0
    · dsimp only at hm
      rw [if_neg (by decide), if_pos rfl] at hm
      split at hm
      · cases hm
      · exact ⟨hm, fun h => by simp at h⟩
    · dsimp only at hm
      rw [if_neg (by decide), if_neg (by decide)] at hm
      split at hm
      · cases hm
      · rename_i h3
        refine ⟨hm, fun h => h3 ?_⟩
        obtain ⟨_, rfl⟩ := h
        have := ha.n1 _ hm
        rw [hm]
        exact ⟨by omega, rfl⟩
  have hkeep : ∀ m, x.h = some m → m ≠ 0 → ¬ (kd = 3 ∧ n = m) → sigH x.h (kd, n) = some m := by
    intro m hm h0 hn
    rw [hm]
    exact stuck_sig h0 (fun e => hn (by simpa using e)) hkd
  refine ⟨⟨fun s hs => ha.wf s (hmem s hs), ?_, ?_, ha.n0, ?_, fun m hm => ha.n2 m (hmem _ hm), ?_, ?_⟩, ⟨?_, ?_, ?_, hb.n0, hb.n1, ?_, fun m hm => hb.n3 m (hmem _ hm), by have := hb.n4; rw [hq] at this; exact unl_tail this⟩, ?_⟩
  · intro m hm h0
    obtain ⟨h1, h2⟩ := hgood m hm h0
    rcases ha.j m h1 h0 with ⟨h3, h4⟩ | ⟨h3, h4⟩
    · refine .inl ⟨?_, fun h => h4 (hmem _ h)⟩
      dsimp only
      rw [hlw]; exact h3
    · refine .inr ⟨?_, ?_⟩
      · intro s hs
        dsimp only at hs
        split at hs
        · rcases List.mem_append.1 hs with hs | hs
          · exact h3 s hs
          · rw [List.mem_singleton] at hs; rw [hs]
        · exact h3 s hs
      · rw [hq] at h4
        rcases List.mem_cons.1 h4 with h4 | h4
        · simp only [Prod.mk.injEq] at h4
          exact absurd ⟨h4.1.symm, h4.2.symm⟩ h2
        · exact h4
  · intro m hm
    dsimp only at hm
    rw [hlw] at hm
    have h1 := ha.k m hm
    have h2 := ha.n3 m (last_mem hm).1
    refine hkeep m h1 (by omega) ?_
    rintro ⟨rfl, rfl⟩
    rcases ha.j _ h1 (by omega) with ⟨_, h4⟩ | ⟨h3, _⟩
    · exact h4 (by rw [hq]; exact List.mem_cons_self)
    · have := last_mem hm; exact this.2 (h3 _ this.1)
  · intro m hm
    by_cases h0 : m = 0
    · subst h0; exact ⟨by omega, ha.n0⟩
    · exact ha.n1 m (hgood m hm h0).1
  · intro m hm
    dsimp only at hm
    split at hm
    · rcases List.mem_append.1 hm with hm | hm
      · exact ha.n3 m hm
      · simp at hm
    · exact ha.n3 m hm
  · dsimp only
    split
    · rw [unl_snoc _ (show (3 : Int) ≠ 2 by decide)]; exact ha.n4
    · exact ha.n4
  · intro s hs
    dsimp only at hs
    split at hs
    · rcases List.mem_append.1 hs with hs | hs
      · exact hb.wf s hs
      · rw [List.mem_singleton] at hs; rw [hs]; exact .inr (.inr rfl)
    · exact hb.wf s hs
  · intro m hm h0
    rcases hb.j m hm h0 with ⟨h1, h2⟩ | ⟨h1, h2⟩
    · rw [hq] at h1
      rcases last_tail h1 with h9 | ⟨h1, _, h3⟩
      · refine .inl ⟨h9, fun h => ?_⟩
        dsimp only at h
        split at h
        · rename_i hk2
          have hk2 : kd = 2 := hk2
          subst hk2
          rcases List.mem_append.1 h with h | h
          · exact h2 h
          · simp only [List.mem_singleton, Prod.mk.injEq, true_and] at h
            subst h
            -- two unlinks with one number
            have h4 := hb.n4
            rw [hq] at h4
            exact unl_dup h4 (last_mem h9).1
        · exact h2 h
      · simp only [Prod.mk.injEq] at h1
        obtain ⟨rfl, rfl⟩ := h1
        refine .inr ⟨h3, ?_⟩
        dsimp only
        rw [if_pos rfl]
        exact List.mem_append_right _ (by simp)
    · refine .inr ⟨fun s hs => h1 s (hmem s hs), ?_⟩
      dsimp only
      split
      · exact List.mem_append_left _ h2
      · exact h2
  · intro m hm
    exact hb.k m (by rw [hq]; exact last_cons hm)
  · intro m hm
    dsimp only at hm
    split at hm
    · rename_i hk2
      have hk2 : kd = 2 := hk2
      rcases List.mem_append.1 hm with hm | hm
      · exact hb.n2 m hm
      · simp only [List.mem_singleton, Prod.mk.injEq, true_and] at hm
        subst hm
        exact hb.n3 m (by rw [hq, hk2]; exact List.mem_cons_self)
    · exact hb.n2 m hm
  · dsimp only
    have h1 : runH x.h x.way = runH (sigH x.h (kd, n)) q := by rw [hq]; rfl
    rw [← h1, hf]
    split
    · rw [run_snoc]
      unfold sigH
      constructor
      · intro h
        rw [h]
        simp
        omega
      · intro h
        rw [if_neg (show ¬ (3 : Int) = 1 by decide), if_neg (show ¬ (3 : Int) = 2 by decide)] at h
        split at h
        · cases h
        · exact h
    · exact Iff.rfl
/-- when nothing is under way both are linked or both are not, and no half link is unlinking -/
theorem pinv_end {x y : Side} (h : PInv x y) (hx : x.way = []) (hy : y.way = []) : good x.h ∧ good y.h ∧ (x.h = some 0 ↔ y.h = some 0) := by
  obtain ⟨ha, hb, hf⟩ := h
  have h1 : ∀ {a b : Side}, Inv2 a b → a.way = [] → b.way = [] → good a.h := by
    intro a b h ha hb
    cases hh : a.h with
    | none => exact .inl rfl
    | some m =>
      by_cases h0 : m = 0
      · subst h0; exact .inr rfl
      · rcases h.j m hh h0 with ⟨h1, _⟩ | ⟨_, h2⟩
        · rw [hb] at h1; simp [lastLU] at h1
        · rw [ha] at h2; simp at h2
  rw [hx, hy] at hf
  exact ⟨h1 ha hx hy, h1 hb hy hx, hf⟩
/-- what is still to come -/
def weigh (q : List Sg) : Nat := (q.map (fun s => if s.1 = 2 then 2 else 1)).sum
theorem weigh_cons (s : Sg) (q : List Sg) : weigh (s :: q) = (if s.1 = 2 then 2 else 1) + weigh q := by unfold weigh; simp
theorem weigh_ack (q : List Sg) (n : Int) : weigh (q ++ [(3, n)]) = weigh q + 1 := by unfold weigh; simp
theorem weigh_pos {q : List Sg} (h : q ≠ []) : 0 < weigh q := by
  cases q with
  | nil => exact absurd rfl h
  | cons s q => rw [weigh_cons]; split <;> omega
end Go.Proofs.YtnakbepcalciiaaGreat.lk
/- Queues of signals: slices that are appended to and resliced from the front. Conditions: as said. -/
namespace Go.Proofs.YtnakbepcalciiaaGreat.lk
open Go.RowKit mem rec tm names pm
set_option linter.unusedVariables false
set_option linter.unusedSimpArgs false
set_option maxHeartbeats 1000000
set_option maxRecDepth 100000
def sgL (s : Sg) : List Value := [.int .i64 s.1, .int .i64 s.2]
def QAt (w : World) (base : Nat) (v : Value) (l : List Sg) : Prop :=
  ∃ ao cap, v = .slice ao l.length cap ∧ l.length ≤ cap ∧ cap ≤ maxLen ∧ ((ao = none ∧ cap = 0) ∨ ∃ b off, ao = some ⟨b, off, none⟩ ∧ base ≤ b ∧ b < w.heap.size ∧
    (∀ j, j < cap * 2 → (w.cell? ⟨b, off + j, none⟩).isSome = true ∧ w.frozen? ⟨b, off + j, none⟩ = false) ∧ ∀ j u, (l.flatMap sgL)[j]? = some u → w.cell? ⟨b, off + j, none⟩ = some u)
theorem sg_len (l : List Sg) : (l.flatMap sgL).length = l.length * 2 := by
  induction l with
  | nil => rfl
  | cons a l ih => rw [List.flatMap_cons, List.length_append, ih, List.length_cons]; simp only [sgL, List.length_cons, List.length_nil]; omega
theorem QAt.nil (w : World) (base : Nat) : QAt w base (.slice none 0 0) [] := ⟨none, 0, rfl, Nat.zero_le _, Nat.zero_le _, .inl ⟨rfl, rfl⟩⟩
theorem QAt.same {w w' : World} {base : Nat} {v : Value} {l : List Sg} (h : QAt w base v l) (hs : ∀ k, v.ownBlock = some k → w'.heap[k]? = w.heap[k]?) : QAt w' base v l := by
  obtain ⟨ao, cap, rfl, h1, h2, h3⟩ := h
  refine ⟨ao, cap, rfl, h1, h2, ?_⟩
  rcases h3 with h3 | ⟨b, off, rfl, hb, hlt, hf, hc⟩
  · exact .inl h3
  · have e := hs b rfl
    refine .inr ⟨b, off, rfl, hb, ?_, fun j hj => ?_, fun j u hu => ?_⟩
    · rcases Nat.lt_or_ge b w'.heap.size with h | h
      · exact h
      · rw [Array.getElem?_eq_none h, Array.getElem?_eq_getElem hlt] at e; cases e
    · rw [World.cell?_of_block (a := ⟨b, off + j, none⟩) e, World.frozen?_of_block (a := ⟨b, off + j, none⟩) e]
      exact hf j hj
    · rw [World.cell?_of_block (a := ⟨b, off + j, none⟩) e]
      exact hc j u hu
theorem QAt.lt {w : World} {base : Nat} {v : Value} {l : List Sg} (h : QAt w base v l) {k : Nat} (hk : v.ownBlock = some k) : base ≤ k ∧ k < w.heap.size := by
  obtain ⟨ao, cap, rfl, h1, h2, h3 | ⟨b, off, rfl, hb, hlt, hf, hc⟩⟩ := h
  · obtain ⟨rfl, _⟩ := h3; simp [Value.ownBlock] at hk
  · simp [Value.ownBlock] at hk; subst hk; exact ⟨hb, hlt⟩
theorem QAt.below {w w' : World} {base : Nat} {v : Value} {l : List Sg} (h : QAt w base v l) (hb : Below w.heap.size w w') : QAt w' base v l := h.same (fun k hk => hb.block k (h.lt hk).2)
theorem QAt.shape {w : World} {base : Nat} {v : Value} {l : List Sg} (h : QAt w base v l) : ∃ ao cap, v = .slice ao l.length cap ∧ l.length ≤ cap ∧ cap ≤ maxLen := by
  obtain ⟨ao, cap, e, h1, h2, _⟩ := h
  exact ⟨ao, cap, e, h1, h2⟩
theorem QAt.head {w : World} {base : Nat} {v : Value} {s : Sg} {q : List Sg} (h : QAt w base v (s :: q)) : ∃ b off cap, v = .slice (some ⟨b, off, none⟩) (q.length + 1) cap ∧ q.length + 1 ≤ cap ∧ cap ≤ maxLen ∧ w.cell? ⟨b, off, none⟩ = some (.int .i64 s.1) ∧ w.cell? ⟨b, off + 1, none⟩ = some (.int .i64 s.2) ∧
    QAt w base (.slice (some ⟨b, off, none⟩) 0 0) [] ∧ (1 < cap → QAt w base (.slice (some ⟨b, off + 2, none⟩) q.length (cap - 1)) q) := by
  obtain ⟨ao, cap, rfl, h1, h2, h3 | ⟨b, off, rfl, hb, hlt, hf, hc⟩⟩ := h
  · obtain ⟨_, rfl⟩ := h3; simp at h1
  · refine ⟨b, off, cap, rfl, h1, h2, hc 0 _ rfl, hc 1 _ rfl, ⟨_, _, rfl, Nat.zero_le _, Nat.zero_le _, .inr ⟨b, off, rfl, hb, hlt, fun j hj => by omega, fun j u hu => by simp at hu⟩⟩, fun hcap => ⟨_, _, rfl, by simp at h1; omega, by omega, .inr ⟨b, off + 2, rfl, hb, hlt, fun j hj => ?_, fun j u hu => ?_⟩⟩⟩
    · have := hf (2 + j) (by omega)
      rw [← Nat.add_assoc] at this
      exact this
    · have := hc (2 + j) u (by rw [List.flatMap_cons, List.getElem?_append_right (by simp [sgL])]; simpa [sgL] using hu)
      rw [← Nat.add_assoc] at this
      exact this
theorem info174 : (Tryz.prog.info? 174).map (fun i => (i.zero, i.size, i.bytes)) = some (some (.agg #[.int .i64 0, .int .i64 0]), 2, 16) := by kernel_rfl
/-- what an append to a queue leaves -/
structure AppQ (w : World) (base : Nat) (v : Value) (l : List Sg) (s : Sg) (v' : Value) (w' : World) : Prop where
  own : QAt w' base v' (l ++ [s])
  grown : TouchB (fun k => v.ownBlock = some k) w w'
  at_ : v'.ownBlock = v.ownBlock ∨ v'.ownBlock = some w.heap.size
theorem run_append_q {w : World} {base : Nat} {v : Value} {l : List Sg} (h : QAt w base v l) (hb : base ≤ w.heap.size) (ty : TypeId) {g : Nat} (s : Sg) (hg : w.heap[g]? = some (.cells #[.int .i64 s.1, .int .i64 s.2] 174)) (hl : l.length ≤ 1000000) :
    ∃ v' w', (Builtin.append_ #[68, 68] ty #[v, .slice (some ⟨g, 0, none⟩) 1 1]).run Tryz.prog w = .ok v' w' ∧ AppQ w base v l s v' w' := by
  obtain ⟨ao, cap, rfl, h1, h2, h3⟩ := id h
  cases hx : Tryz.prog.info? 174 with
  | none => have := info174; rw [hx] at this; simp at this
  | some i =>
  have hi := info174
  rw [hx] at hi
  simp only [Option.map_some, Option.some.injEq, Prod.mk.injEq] at hi
  obtain ⟨hz, hsz, hby⟩ := hi
  have hsrc : Src Tryz.prog i.size 68 (.slice (some ⟨g, 0, none⟩) 1 1) 1 (sgL s) w := by
    rw [hsz]
    refine Src.ofSlice w Tryz.underlying68 ⟨g, 0, none⟩ 1 1 (sgL s) rfl (fun j u hu => ?_) (fun u hu => ?_)
    · rw [Addr.add_lit, Nat.zero_add]
      simp only [World.cell?, hg]
      rcases j with _ | _ | j
      · simp [sgL] at hu; subst hu; rfl
      · simp [sgL] at hu; subst hu; rfl
      · simp [sgL] at hu
    · simp only [sgL, List.mem_cons, List.mem_nil_iff, or_false] at hu
      rcases hu with rfl | rfl <;> rfl
  have hfl : ((l ++ [s]).flatMap sgL) = l.flatMap sgL ++ sgL s := by rw [List.flatMap_append]; simp
  by_cases hroom : l.length + 1 ≤ cap
  · rcases h3 with ⟨_, h0⟩ | ⟨b, off, rfl, hbb, hlt, hf, hc⟩
    · omega
    · have hrun := run_append_room_src (P := Tryz.prog) w 68 68 ty 174 i Tryz.underlying68 hx b off l.length cap _ 1 (sgL s) hsrc hroom (fun j hj => by
        have hj : j < 2 := hj
        rw [hsz, Nat.add_assoc]; exact (hf (l.length * 2 + j) (by omega)).1) (fun j hj => by
        have hj : j < 2 := hj
        rw [hsz, Nat.add_assoc]; exact (hf (l.length * 2 + j) (by omega)).2)
      rw [hsz] at hrun
      have e : w.setCells b (off + l.length * 2) (sgL s) = (w.setCell ⟨b, off + l.length * 2, none⟩ (.int .i64 s.1)).setCell ⟨b, off + l.length * 2 + 1, none⟩ (.int .i64 s.2) := rfl
      have t1 := (TouchB.refl (fun k => k = b) w).setCell ⟨b, off + l.length * 2, none⟩ (.int .i64 s.1) (fun _ => rfl)
      have t2 := t1.setCell ⟨b, off + l.length * 2 + 1, none⟩ (.int .i64 s.2) (fun _ => rfl)
      refine ⟨_, _, hrun, ⟨⟨some ⟨b, off, none⟩, cap, by rw [List.length_append]; rfl, by rw [List.length_append]; exact hroom, h2, .inr ⟨b, off, rfl, hbb, ?_, fun j hj => ?_, fun j u hu => ?_⟩⟩, ?_, .inl rfl⟩⟩
      · rw [e]; exact Nat.lt_of_lt_of_le hlt t2.size
      · rw [e, World.frozen?_setCell, World.frozen?_setCell]
        refine ⟨?_, (hf j hj).2⟩
        have hj0 := (hf j hj).1
        by_cases e2 : off + j = off + l.length * 2 + 1
        · rw [e2, World.cell?_setCell_same']
          · rfl
          · rw [World.cell?_setCell_other _ _ _ _ (fun e => by simp at e)]
            have := (hf (l.length * 2 + 1) (by omega)).1
            rwa [← Nat.add_assoc] at this
        · rw [World.cell?_setCell_other _ _ _ _ (fun e => e2 (by simpa using (congrArg Addr.off e).symm))]
          by_cases e1 : off + j = off + l.length * 2
          · rw [e1, World.cell?_setCell_same']
            · rfl
            · exact (hf (l.length * 2) (by omega)).1
          · rw [World.cell?_setCell_other _ _ _ _ (fun e => e1 (by simpa using (congrArg Addr.off e).symm))]
            exact hj0
      · rw [hfl] at hu
        have hll := sg_len l
        rw [e]
        by_cases hjl : j < l.length * 2
        · rw [List.getElem?_append_left (by omega)] at hu
          rw [World.cell?_setCell_other _ _ _ _ (fun e => by have := congrArg Addr.off e; simp at this; omega), World.cell?_setCell_other _ _ _ _ (fun e => by have := congrArg Addr.off e; simp at this; omega)]
          exact hc j u hu
        · rw [List.getElem?_append_right (by omega), hll] at hu
          obtain ⟨k, rfl⟩ : ∃ k, j = l.length * 2 + k := ⟨j - l.length * 2, by omega⟩
          rw [Nat.add_sub_cancel_left] at hu
          rcases k with _ | _ | k
          · simp [sgL] at hu; subst hu
            rw [World.cell?_setCell_other _ _ _ _ (fun e => by have := congrArg Addr.off e; simp at this), Nat.add_zero, World.cell?_setCell_same']
            exact (hf (l.length * 2) (by omega)).1
          · simp [sgL] at hu; subst hu
            rw [← Nat.add_assoc, World.cell?_setCell_same']
            rw [World.cell?_setCell_other _ _ _ _ (fun e => by simp at e)]
            have := (hf (l.length * 2 + 1) (by omega)).1
            rwa [← Nat.add_assoc] at this
          · simp [sgL] at hu
      · rw [e]
        exact t2.mono (fun k _ hk => by rw [hk]; rfl)
  · have hcap : cap = l.length := by omega
    subst hcap
    have hold : (Builtin.firstCells i.size l.length (.slice ao l.length l.length)).run Tryz.prog w.drew = .ok (l.flatMap sgL).toArray w.drew := by
      rw [hsz]
      rcases h3 with ⟨rfl, h0⟩ | ⟨b, off, rfl, hbb, hlt, hf, hc⟩
      · obtain rfl := List.eq_nil_of_length_eq_zero h0
        exact run_firstCells_none w.drew 2 0 0 0
      · exact run_firstCells_some w.drew 2 l.length ⟨b, off, none⟩ l.length l.length (l.flatMap sgL) (sg_len l) (fun j u hu => by rw [Addr.add_lit]; exact hc j u hu)
    have hrun := run_append_grow_src (P := Tryz.prog) w 68 68 ty 174 i _ Tryz.underlying68 hx hz ao l.length l.length (l.flatMap sgL) hold _ 1 (sgL s) hsrc (by omega) (by omega) (growslice_fits (by omega) (by rw [hby]; omega))
    have hge := grownCap_ge w (l.length + 1) l.length 174
    have hcm := grownCap_le_maxLen w (l.length + 1) l.length 174 (by unfold maxLen; omega)
    generalize grownCap w (l.length + 1) l.length 174 = gc at *
    have hn := alloc_new w.drew (.cells ((l.flatMap sgL ++ sgL s).toArray ++ Builtin.zeroCells (Value.cells (.agg #[.int .i64 0, .int .i64 0])) (gc - (l.length + 1))) 174)
    have hsize : ((l.flatMap sgL ++ sgL s).toArray ++ Builtin.zeroCells (Value.cells (.agg #[.int .i64 0, .int .i64 0])) (gc - (l.length + 1))).size = gc * 2 := by
      rw [Array.size_append, List.size_toArray, List.length_append, sg_len, size_zeroCells]
      have : (Value.cells (.agg #[.int .i64 0, .int .i64 0])).size = 2 := rfl
      rw [this]
      simp only [sgL, List.length_cons, List.length_nil]
      omega
    generalize hA : ((l.flatMap sgL ++ sgL s).toArray ++ Builtin.zeroCells (Value.cells (.agg #[.int .i64 0, .int .i64 0])) (gc - (l.length + 1))) = A at *
    refine ⟨_, _, hrun, ⟨⟨some ⟨w.heap.size, 0, none⟩, gc, by rw [List.length_append]; rfl, by rw [List.length_append]; exact hge, hcm, .inr ⟨w.heap.size, 0, rfl, hb, (Array.getElem?_eq_some_iff.1 hn).1, fun j hj => ?_, fun j u hu => ?_⟩⟩, ?_, .inr rfl⟩⟩
    · have hj : j < A.size := by rw [hsize]; exact hj
      rw [Nat.zero_add]
      simp only [World.cell?, World.frozen?]
      erw [hn]
      simp [hj]
    · rw [hfl] at hu
      rw [Nat.zero_add]
      simp only [World.cell?]
      erw [hn]
      rw [← hA]
      have hlt := (List.getElem?_eq_some_iff.1 hu).1
      simp only [Option.bind_some]
      rw [Array.getElem?_append_left (by simpa using hlt), List.getElem?_toArray]
      exact hu
    · exact ((TouchB.refl _ w).drew).alloc _
theorem wpList_append_q {w : World} {ops : Array Oper} {rest : List Oper} {o : Oper} {a : Act} {Q : Exit → Act → World → Prop} (hgd : o.guard = none) (x y : Operand)
    (ho : o.op = .call { callee := .builtin .append, args := #[x, y], argTypes := #[68, 68] }) {base : Nat} {v : Value} {l : List Sg} (hs : a.eval x = v) (hq : QAt w base v l) (hb : base ≤ w.heap.size)
    {g : Nat} (s : Sg) (hx : a.eval y = .slice (some ⟨g, 0, none⟩) 1 1) (hg : w.heap[g]? = some (.cells #[.int .i64 s.1, .int .i64 s.2] 174)) (hl : l.length ≤ 1000000)
    (h : ∀ v' w', AppQ w base v l s v' w' → wpList Tryz.prog ops Q rest (a.put o.dst v') w') : wpList Tryz.prog ops Q (o :: rest) a w := by
  refine wpList_plain hgd fun K hK => ?_
  obtain ⟨v', w', hr, h2⟩ := run_append_q hq hb o.type s hg hl
  unfold Oper.wp execOp
  simp only [ho, resolve, invoke, builtin, Sem.run_bind, Sem.run_pure, Result.andThen_ok, List.map_toArray, List.map_cons, List.map_nil, hs, hx, hr]
  exact hK _ _ (h v' w' h2)
end Go.Proofs.YtnakbepcalciiaaGreat.lk
/- holds: is a process in a list? Conditions: the list lies in memory. -/
namespace Go.Proofs.YtnakbepcalciiaaGreat.lk
open Go.RowKit mem rec tm names pm
set_option linter.unusedVariables false
set_option linter.unusedSimpArgs false
set_option maxHeartbeats 4000000
set_option maxRecDepth 100000
def memI (x : Id) (l : List Id) : Bool := l.any (fun y => decide (y = x))
theorem mem_memI (x : Id) (l : List Id) : memI x l = true ↔ x ∈ l := by
  unfold memI
  rw [List.any_eq_true]
  constructor
  · rintro ⟨y, hy, he⟩; rw [← of_decide_eq_true he]; exact hy
  · intro h; exact ⟨x, h, by simp⟩
theorem same21 (x y : Id) (W : World) : Calls Tryz.prog 21 #[idA x, idA y] W (fun e w' => e = .returned (.bool (decide (x = y))) ∧ Below W.heap.size W w') := by
  have h := tm.sameOne W 0 nilV nilV (tmI x) (tmI y) (Nat.zero_le _) (nilI W x) (nilI W y)
  have e : eqB (tmI x) (tmI y) = decide (x = y) := by
    by_cases h : x = y
    · subst h; rw [eqB_t rfl]; simp
    · rw [eqB_f (fun e => h (by have := congrArg (fun t : Tm 1 => idOf t.f) e; exact this)), decide_eq_false h]
  rw [e] at h
  exact h
theorem holds23 {w : World} {B : Nat} {v : Value} {l : List Id} (hB : B ≤ w.heap.size) (h : RecAt idTL 9 w B v l) (hl : l.length ≤ 100000000) (x : Id) : Calls Tryz.prog 23 #[v, idA x] w (fun e w' => e = .returned (.bool (memI x l)) ∧ Below w.heap.size w w') := by
  have HS := Lib.hid (fun W (y : Id) => same21 y x W)
  have HNot := Lib.hid (fun i (hi : i < l.length) (hn : x ∉ l.take i) (hne : ¬ l[i] = x) => show x ∉ l.take (i + 1) by
    rw [List.take_add_one, List.getElem?_eq_getElem hi]
    intro hm
    rcases List.mem_append.1 hm with hm | hm
    · exact hn hm
    · simp at hm; exact hne hm.symm)
  have HYes := Lib.hid (fun i (hi : i < l.length) (he : l[i] = x) => show x ∈ l by rw [← he]; exact List.getElem_mem hi)
  obtain ⟨r, hr⟩ : ∃ r, memI x l = r := ⟨_, rfl⟩
  rw [hr]
  have HT : Hid (x ∈ l → r = true) := Lib.hid (fun h => by rw [← hr]; exact (mem_memI x l).2 h)
  have HF : Hid (x ∉ l → r = false) := Lib.hid (fun h => by rw [← hr]; cases hm : memI x l; rfl; exact absurd ((mem_memI x l).1 hm) h)
  clear hr
  obtain ⟨pv, cv, rfl, _, _⟩ := h.shape
  have HR := Lib.hid (fun W (hW : Below w.heap.size w W) => h.below hW hB)
  have HBl := Lib.hid hB
  clear h hB
  obtain ⟨x1, x2, x3, x4⟩ := x
  have hx := alloc_new w (.cells #[.int .i64 x1, .int .i64 x4, .int .i64 x3, .string x2, .string ⟨#[]⟩, .int .i64 0, .slice none 0 0, .string ⟨#[]⟩, .int .i64 0] 30)
  have hb1 := belowA (Below.refl w.heap.size w) (.cells #[.int .i64 x1, .int .i64 x4, .int .i64 x3, .string x2, .string ⟨#[]⟩, .int .i64 0, .slice none 0 0, .string ⟨#[]⟩, .int .i64 0] 30) (Nat.le_refl _)
  have hlx : w.heap.size < (w.alloc (.cells #[.int .i64 x1, .int .i64 x4, .int .i64 x3, .string x2, .string ⟨#[]⟩, .int .i64 0, .slice none 0 0, .string ⟨#[]⟩, .int .i64 0] 30)).heap.size := by rw [World.size_alloc]; omega
  unfold idA at *
  dsimp only at *
  have HX := Lib.hid hx
  have HB1 := Lib.hid hb1
  clear hx hb1
  go_enter Tryz.func23, Tryz.ntmps23
  go_upto_region 1 with (fail)
  generalize (w.alloc (.cells #[.int .i64 x1, .int .i64 x4, .int .i64 x3, .string x2, .string ⟨#[]⟩, .int .i64 0, .slice none 0 0, .string ⟨#[]⟩, .int .i64 0] 30)) = W1 at *
  have HXa := Lib.hid (fun W (hW : Below W1.heap.size W1 W) => (nine_of (f := idT (x1, x2, x3, x4)) (v := nilV) ((hW.block _ hlx).trans HX.out)))
  unfold idT nilV at HXa
  dsimp only at HXa
  have HRa := Lib.hid (fun W (hW : Below W1.heap.size W1 W) => HR.out W (HB1.out.trans (hW.mono HB1.out.size)))
  have H00 : Hid ((x1, x2, x3, x4) ∉ l.take 0) := Lib.hid (by simp)
  have HB00 : Hid (Below W1.heap.size W1 W1) := Lib.hid (Below.refl _ _)
  clear HR HX hlx
  go_wp2_with fail
  go_loopw [5] (fun s wr => ∃ i : Nat, s = .int .i64 i ∧ i ≤ l.length ∧ Hid ((x1, x2, x3, x4) ∉ l.take i) ∧ Hid (Below W1.heap.size W1 wr)) (fun s _ => l.length - (intOf s).toNat)
  case atStart => exact ⟨0, by go_num, by omega, H00, HB00⟩
  case round =>
    obtain ⟨i, rfl, hil, HN, HB⟩ := hrel
    by_cases hlt : i < l.length
    · obtain ⟨g, o, rfl, _, hg, hc⟩ := (HRa.out _ HB.out).nth (by omega)
      have hat := List.getElem?_eq_getElem hlt
      have hc := hc i _ hat
      have HN' := Lib.hid (HNot.out i hlt HN.out)
      have HY' := Lib.hid (HYes.out i hlt)
      have hsame := HS.out
      generalize l[i] = y at *
      obtain ⟨y1, y2, y3, y4⟩ := y
      have e0 : wr.cell? ⟨g, o + i * 9, none⟩ = some (.int .i64 y1) := hc 0 _ rfl
      have e1 : wr.cell? ⟨g, o + i * 9 + 1, none⟩ = some (.int .i64 y4) := hc 1 _ rfl
      have e2 : wr.cell? ⟨g, o + i * 9 + 2, none⟩ = some (.int .i64 y3) := hc 2 _ rfl
      have e3 : wr.cell? ⟨g, o + i * 9 + 3, none⟩ = some (.string y2) := hc 3 _ rfl
      have e4 : wr.cell? ⟨g, o + i * 9 + 4, none⟩ = some (.string ⟨#[]⟩) := hc 4 _ rfl
      have e5 : wr.cell? ⟨g, o + i * 9 + 5, none⟩ = some (.int .i64 0) := hc 5 _ rfl
      have e6 : wr.cell? ⟨g, o + i * 9 + 6, none⟩ = some (.slice none 0 0) := hc 6 _ rfl
      have e7 : wr.cell? ⟨g, o + i * 9 + 7, none⟩ = some (.string ⟨#[]⟩) := hc 7 _ rfl
      have e8 : wr.cell? ⟨g, o + i * 9 + 8, none⟩ = some (.int .i64 0) := hc 8 _ rfl
      obtain ⟨dc, hdc⟩ : ∃ b, decide (((y1, y2, y3, y4) : Id) = (x1, x2, x3, x4)) = b := ⟨_, rfl⟩
      have HSm : Hid (∀ W, Calls Tryz.prog 21 #[.agg #[.int .i64 y1, .int .i64 y4, .int .i64 y3, .string y2, .string ⟨#[]⟩, .int .i64 0, .slice none 0 0, .string ⟨#[]⟩, .int .i64 0], .agg #[.int .i64 x1, .int .i64 x4, .int .i64 x3, .string x2, .string ⟨#[]⟩, .int .i64 0, .slice none 0 0, .string ⟨#[]⟩, .int .i64 0]] W (fun e w' => e = .returned (.bool dc) ∧ Below W.heap.size W w')) := Lib.hid (fun W => by rw [← hdc]; exact hsame W (y1, y2, y3, y4))
      have HD := Lib.hid hdc
      have r1 : (i : Int) < (l.length : Int) := by omega
      obtain ⟨z0, z1, z2, z3, z4, z5, z6, z7, z8, zf⟩ := HXa.out _ HB.out
      have hgB : g < wr.heap.size := Nat.lt_of_lt_of_le hg (Nat.le_trans HBl.out (Nat.le_trans HB1.out.size HB.out.size))
      have hbd : Below wr.drew.heap.size wr.drew wr.drew := Below.refl _ _
      have HSm' := Lib.hid (fun W (hW : Below wr.drew.heap.size wr.drew W) => HSm.out W)
      have HXb := Lib.hid (fun W (hW : Below wr.drew.heap.size wr.drew W) => HXa.out W (HB.out.trans ((belowD (Below.refl wr.heap.size wr)).trans hW |>.mono HB.out.size)))
      have HYb := Lib.hid (fun W (hW : Below wr.drew.heap.size wr.drew W) (k : Nat) (u : Value) (hu : wr.cell? ⟨g, k, none⟩ = some u) => show W.cell? ⟨g, k, none⟩ = some u from (World.cell?_of_block (a := ⟨g, k, none⟩) (hW.block g hgB)).trans hu)
      clear hc hat hdc hsame HNot HYes HSm
      go_upto_region 4 with (fail)
      go_region_held3 (fun w' => w'.cell? ⟨w.heap.size, 0, none⟩ = some (.int .i64 x1) ∧ w'.cell? ⟨w.heap.size, 1, none⟩ = some (.int .i64 x4) ∧ w'.cell? ⟨w.heap.size, 2, none⟩ = some (.int .i64 x3) ∧ w'.cell? ⟨w.heap.size, 3, none⟩ = some (.string x2) ∧ w'.cell? ⟨w.heap.size, 4, none⟩ = some (.string ⟨#[]⟩) ∧ w'.cell? ⟨w.heap.size, 5, none⟩ = some (.int .i64 0) ∧ w'.cell? ⟨w.heap.size, 6, none⟩ = some (.slice none 0 0) ∧ w'.cell? ⟨w.heap.size, 7, none⟩ = some (.string ⟨#[]⟩) ∧ w'.cell? ⟨w.heap.size, 8, none⟩ = some (.int .i64 0) ∧ w'.cell? ⟨g, o + i * 9, none⟩ = some (.int .i64 y1) ∧ w'.cell? ⟨g, o + i * 9 + 1, none⟩ = some (.int .i64 y4) ∧ w'.cell? ⟨g, o + i * 9 + 2, none⟩ = some (.int .i64 y3) ∧ w'.cell? ⟨g, o + i * 9 + 3, none⟩ = some (.string y2) ∧ w'.cell? ⟨g, o + i * 9 + 4, none⟩ = some (.string ⟨#[]⟩) ∧ w'.cell? ⟨g, o + i * 9 + 5, none⟩ = some (.int .i64 0) ∧ w'.cell? ⟨g, o + i * 9 + 6, none⟩ = some (.slice none 0 0) ∧ w'.cell? ⟨g, o + i * 9 + 7, none⟩ = some (.string ⟨#[]⟩) ∧ w'.cell? ⟨g, o + i * 9 + 8, none⟩ = some (.int .i64 0)) (go_keep)
        (first
          | (go_at_call 21; (with_reducible refine (HSm'.out _ hbd).mono ?_); rintro e w1 ⟨rfl, hb⟩; have hbe := hbd.trans (hb.mono hbd.size); obtain ⟨z0, z1, z2, z3, z4, z5, z6, z7, z8, zf⟩ := HXb.out _ hbe; have e0 := HYb.out _ hbe _ _ e0; have e1 := HYb.out _ hbe _ _ e1; have e2 := HYb.out _ hbe _ _ e2; have e3 := HYb.out _ hbe _ _ e3; have e4 := HYb.out _ hbe _ _ e4; have e5 := HYb.out _ hbe _ _ e5; have e6 := HYb.out _ hbe _ _ e6; have e7 := HYb.out _ hbe _ _ e7; have e8 := HYb.out _ hbe _ _ e8))
      all_goals
        have HBe : Hid (Below W1.heap.size W1 w1) := Lib.hid (HB.out.trans (((belowD (Below.refl wr.heap.size wr)).trans hbe).mono HB.out.size))
        cases dc
        · have HN2 := Lib.hid (HN'.out (of_decide_eq_false HD.out))
          go_wp2_with fail
          go_roundw
          case rel => exact ⟨i + 1, by go_num, by omega, HN2, HBe⟩
          case measure => simp [intOf]; omega
        · have HFin := Lib.hid (HT.out (HY'.out (of_decide_eq_true HD.out)))
          go_wp2_with fail
          go_ret
          exact ⟨names.ret1b HFin.out.symm, HB1.out.trans (HBe.out.mono HB1.out.size)⟩
    · obtain rfl : i = l.length := by omega
      have HFin := Lib.hid (HF.out (by have := HN.out; rw [List.take_length] at this; exact this))
      go_wp2_with fail
      go_ret
      exact ⟨names.ret1b HFin.out.symm, HB1.out.trans (HB.out.mono HB1.out.size)⟩
end Go.Proofs.YtnakbepcalciiaaGreat.lk
