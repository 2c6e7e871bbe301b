/- The walks of WordsBack and WordsOnce: each returns true. Conditions: each number fits its kind. -/
import Derived.Test.YtlcabmkjacimnaaWordsD
import Derived.Deep.DeepCutAuto
namespace Go.Proofs.Ytlcabmkjacimnaa.words
open Go.RowKit
set_option linter.unusedVariables false
set_option linter.unusedSimpArgs false
set_option maxHeartbeats 1000000

theorem smallW_rng (n : Int) : 0 ≤ smallW n ∧ smallW n ≤ 18446744073709551615 := by
  unfold smallW; split <;> omega
theorem atomW_rng (n : Int) : 0 ≤ atomW n ∧ atomW n ≤ 18446744073709551615 := by
  unfold atomW; split
  · rename_i h; have := of_decide_eq_true h; omega
  · omega
theorem ptrW_rng (t : Int) (h0 : 0 ≤ t) (h1 : t ≤ 3) (o : Bool) (n : Int) : 0 ≤ ptrW t o n ∧ ptrW t o n ≤ 18446744073709551615 := by
  unfold ptrW; split
  · rename_i h; have := of_decide_eq_true h; cases o <;> simp <;> omega
  · omega
theorem hdW_rng (k n : Int) : 0 ≤ hdW k n ∧ hdW k n ≤ 18446744073709551615 := by
  unfold hdW; split
  · rename_i h; have := of_decide_eq_true h; omega
  · omega

theorem small_back (n : Int) (h : smallOk n = true) : soOk (smallW n) = true ∧ soN (smallW n) = n := by
  have h' := of_decide_eq_true h
  have a : soOk (smallW n) = true := by unfold soOk smallW; rw [if_pos h]; simp
  refine ⟨a, ?_⟩
  unfold soN; rw [if_pos a]; unfold smallW; rw [if_pos h]; split <;> omega
theorem atom_back (n : Int) (h : idxOk n = true) : aoOk (atomW n) = true ∧ aoN (atomW n) = n := by
  have h' := of_decide_eq_true h
  have a : aoOk (atomW n) = true := by unfold aoOk atomW; rw [if_pos h]; simp; omega
  refine ⟨a, ?_⟩
  unfold aoN; rw [if_pos a]; unfold atomW; rw [if_pos h]; omega
theorem ptr_back (t : Int) (ht : t = 1 ∨ t = 2) (o : Bool) (n : Int) (h : idxOk n = true) :
    pOk (ptrW t o n) = true ∧ pOld (ptrW t o n) = o ∧ pIx (ptrW t o n) = n ∧ ptrW t o n % 4 = t := by
  have h' := of_decide_eq_true h
  have a : pOk (ptrW t o n) = true := by unfold pOk ptrW; rw [if_pos h]; cases o <;> simp <;> omega
  refine ⟨a, ?_, ?_, ?_⟩
  · unfold pOld; rw [a]; unfold ptrW; rw [if_pos h]; cases o <;> simp <;> omega
  · unfold pIx; rw [if_pos a]; unfold ptrW; rw [if_pos h]; cases o <;> simp <;> omega
  · unfold ptrW; rw [if_pos h]; cases o <;> simp <;> omega
theorem hd_back (k n : Int) (h : hdOk k n = true) : hoOk (hdW k n) = true ∧ hoK (hdW k n) = k ∧ hoN (hdW k n) = n := by
  have h' := of_decide_eq_true h
  have a : hoOk (hdW k n) = true := by unfold hoOk hdW; rw [if_pos h]; simp; omega
  refine ⟨a, ?_, ?_⟩
  · unfold hoK; rw [if_pos a]; unfold hdW; rw [if_pos h]; omega
  · unfold hoN; rw [if_pos a]; unfold hdW; rw [if_pos h]; omega

/-- the facts that a case's walk wants, each in the walk's own form -/
theorem small_case (n : Int) : (smallOk n = true ∧ soOk (smallW n) = true ∧ (soN (smallW n) != n) = false ∧ -576460752303423488 ≤ n ∧ n < 576460752303423488) ∨
    (smallOk n = false ∧ n < -576460752303423488) ∨ (smallOk n = false ∧ -576460752303423488 ≤ n ∧ 576460752303423488 ≤ n) := by
  cases h : smallOk n
  · have : ¬ (-576460752303423488 ≤ n ∧ n < 576460752303423488) := of_decide_eq_false h
    simp; omega
  · have h' : -576460752303423488 ≤ n ∧ n < 576460752303423488 := of_decide_eq_true h
    have := small_back n h
    simp [this]; omega
theorem idx_case (n : Int) : (idxOk n = true ∧ 0 ≤ n ∧ n < 2147483648) ∨ (idxOk n = false ∧ n < 0) ∨ (idxOk n = false ∧ 0 ≤ n ∧ 2147483648 ≤ n) := by
  cases h : idxOk n
  · have : ¬ (0 ≤ n ∧ n < 2147483648) := of_decide_eq_false h
    simp; omega
  · have h' : 0 ≤ n ∧ n < 2147483648 := of_decide_eq_true h
    simp; omega
theorem hd_case (k n : Int) : (hdOk k n = true ∧ hoOk (hdW k n) = true ∧ (hoK (hdW k n) != k) = false ∧ (hoN (hdW k n) != n) = false ∧ 1 ≤ k ∧ k ≤ 8 ∧ 0 ≤ n ∧ n ≤ 65535) ∨
    (hdOk k n = false ∧ k < 1) ∨ (hdOk k n = false ∧ 1 ≤ k ∧ 8 < k) ∨ (hdOk k n = false ∧ 1 ≤ k ∧ k ≤ 8 ∧ n < 0) ∨ (hdOk k n = false ∧ 1 ≤ k ∧ k ≤ 8 ∧ 0 ≤ n ∧ 65535 < n) := by
  cases h : hdOk k n
  · have : ¬ (1 ≤ k ∧ k ≤ 8 ∧ 0 ≤ n ∧ n ≤ 65535) := of_decide_eq_false h
    simp; omega
  · have h' : 1 ≤ k ∧ k ≤ 8 ∧ 0 ≤ n ∧ n ≤ 65535 := of_decide_eq_true h
    have := hd_back k n h
    simp [this]; omega

set_option maxRecDepth 100000 in
theorem lawBack (n i k c : Int) (o : Bool) (n0 : -9223372036854775808 ≤ n) (n1 : n ≤ 9223372036854775807) (w : World) :
    Calls Try.prog 10 #[.agg #[.int .i64 n, .int .i64 i, .int .i64 k, .int .i64 c, .bool o]] w fun e w' => e = .returned (.bool true) ∧ Below w.heap.size w w' := by
  have r1 := (smallW_rng n).1
  have r2 := (smallW_rng n).2
  have r3 := (atomW_rng i).1
  have r4 := (atomW_rng i).2
  have r5 := (ptrW_rng 1 (by decide) (by decide) o i).1
  have r6 := (ptrW_rng 1 (by decide) (by decide) o i).2
  have r7 := (ptrW_rng 2 (by decide) (by decide) o i).1
  have r8 := (ptrW_rng 2 (by decide) (by decide) o i).2
  have r9 := (hdW_rng k c).1
  have r10 := (hdW_rng k c).2
  have I : Hid (idxOk i = true → aoOk (atomW i) = true ∧ (aoN (atomW i) != i) = false ∧ pOk (ptrW 1 o i) = true ∧ pOld (ptrW 1 o i) = o ∧ (pIx (ptrW 1 o i) != i) = false ∧ (ptrW 1 o i % 4 != 1) = false
      ∧ pOk (ptrW 2 o i) = true ∧ pOld (ptrW 2 o i) = o ∧ (pIx (ptrW 2 o i) != i) = false ∧ (ptrW 2 o i % 4 != 2) = false) := Lib.hid (by
    intro h
    have a := atom_back i h
    have b := ptr_back 1 (.inl rfl) o i h
    have d := ptr_back 2 (.inr rfl) o i h
    simp [a, b, d])
  go_enter Try.func10, Try.ntmps10
  go_wp2_with fail
  go_quiet (fail)
  go_upto_region 4 with (first
        | (go_at_call 15; refine (Small _ (by omega) (by omega) _).mono ?_; rintro e w' ⟨rfl, rfl⟩)
        | (go_at_call 40; refine (SmallOf _ (by omega) (by omega) _).mono ?_; rintro e w' ⟨rfl, rfl⟩))
  go_cut [9, 11, 62] from 33 to 62 (fun _ _ s wc => s = .bool false ∧ Below w.heap.size w wc)
  case first =>
    rcases small_case n with ⟨a0, a1, a2, a3, a4⟩ | ⟨a0, a1⟩ | ⟨a0, a1, a2⟩
    all_goals
      go_wp2_with fail
      go_meet
      exact ⟨by first | rfl | (congr 1; simp; omega), by repeat (first | exact Below.refl _ _ | refine Below.drewN ?_ _ | (refine Below.alloc ?_ (by simp) _))⟩
  case rest =>
  obtain ⟨rfl, hg⟩ := hcut
  go_upto_region 8 with (first
        | (go_at_call 21; refine (Atom _ _).mono ?_; rintro e w' ⟨rfl, rfl⟩)
        | (go_at_call 42; refine (AtomOf _ (by omega) (by omega) _).mono ?_; rintro e w' ⟨rfl, rfl⟩))
  go_cut [9, 11, 92] from 63 to 92 (fun _ _ s wc => s = .bool false ∧ Below w.heap.size w wc)
  case first =>
    rcases idx_case i with ⟨b0, b1, b2⟩ | ⟨b0, b1⟩ | ⟨b0, b1, b2⟩
    · obtain ⟨i1, i2, i3, i4, i5, i6, i7, i8, i9, i10⟩ := I.out b0
      clear I
      go_wp2_with fail
      go_meet
      exact ⟨rfl, hg⟩
    all_goals
      clear I
      go_wp2_with fail
      go_meet
      exact ⟨by first | rfl | (congr 1; simp; omega), hg⟩
  case rest =>
  obtain ⟨rfl, hg⟩ := hcut
  go_wp2_with fail
  go_loopw [14] (fun s wc => (∃ z : Int, 0 ≤ z ∧ z ≤ 2 ∧ s = .int .i64 z) ∧ Below w.heap.size w wc) (fun s _ => (2 - intOf s).toNat)
  case atStart => exact ⟨⟨0, by omega, by omega, rfl⟩, hg⟩
  case round =>
    obtain ⟨⟨z, z0, z1, rfl⟩, hg⟩ := hrel
    by_cases hz : z < 2
    · have hz' : (z == 1) = true ∧ z = 1 ∨ (z == 1) = false ∧ z = 0 := by
        have : z = 0 ∨ z = 1 := by omega
        rcases this with rfl | rfl <;> simp
      rcases hz' with ⟨z2, rfl⟩ | ⟨z2, rfl⟩
      all_goals
        rcases idx_case i with ⟨b0, b1, b2⟩ | ⟨b0, b1⟩ | ⟨b0, b1, b2⟩
        · obtain ⟨i1, i2, i3, i4, i5, i6, i7, i8, i9, i10⟩ := I.out b0
          clear I
          go_wp2_with (first
            | (go_at_call 23; refine (List _ _ _).mono ?_; rintro e w' ⟨rfl, rfl⟩)
            | (go_at_call 25; refine (Box _ _ _).mono ?_; rintro e w' ⟨rfl, rfl⟩)
            | (go_at_call 44; refine (Pointer _ (by omega) (by omega) _).mono ?_; rintro e w' ⟨rfl, rfl⟩)
            | (go_at_call 48; refine (Tag _ (by omega) (by omega) _).mono ?_; rintro e w' ⟨rfl, rfl⟩))
          go_roundw
          case rel => exact ⟨⟨_, by omega, by omega, rfl⟩, hg⟩
          case measure => simp [intOf]
        all_goals
          clear I
          go_wp2_with (first
            | (go_at_call 23; refine (List _ _ _).mono ?_; rintro e w' ⟨rfl, rfl⟩)
            | (go_at_call 25; refine (Box _ _ _).mono ?_; rintro e w' ⟨rfl, rfl⟩)
            | (go_at_call 44; refine (Pointer _ (by omega) (by omega) _).mono ?_; rintro e w' ⟨rfl, rfl⟩)
            | (go_at_call 48; refine (Tag _ (by omega) (by omega) _).mono ?_; rintro e w' ⟨rfl, rfl⟩))
          go_roundw
          case rel => exact ⟨⟨_, by omega, by omega, rfl⟩, hg⟩
          case measure => simp [intOf]
    · clear I
      go_upto_region 21 with (first
        | (go_at_call 27; refine (Header _ _ _).mono ?_; rintro e w' ⟨rfl, rfl⟩)
        | (go_at_call 46; refine (HeaderOf _ (by omega) (by omega) _).mono ?_; rintro e w' ⟨rfl, rfl⟩))
      go_cut [9, 11, 193] from 149 to 193 (fun _ _ s wc => s = .bool false ∧ Below w.heap.size w wc)
      case first =>
        rcases hd_case k c with ⟨b0, b1, b2, b3, b4, b5, b6, b7⟩ | ⟨b0, b1⟩ | ⟨b0, b1, b2⟩ | ⟨b0, b1, b2, b3⟩ | ⟨b0, b1, b2, b3, b4⟩
        all_goals
          go_wp2_with fail
          go_meet
          exact ⟨by first | rfl | (congr 1; simp; omega), hg⟩
      case rest =>
        obtain ⟨rfl, hg⟩ := hcut
        go_wp2_with (go_at_call 16; refine (awake _).mono ?_; rintro e w' ⟨rfl, rfl⟩)
        go_ret
        exact ⟨rfl, hg⟩
end Go.Proofs.Ytlcabmkjacimnaa.words
