
/- The contracts of the functions of package words and of its specification: each returns what a plain function on integers says. Conditions: each integer fits its kind. -/
import Derived.Test.YtpnlnbolhkcnjaaGreatBits
import Derived.Lib.Hide
import Derived.Test.YtpnlnbolhkcnjaaGreatWd
namespace Go.Proofs.YtpnlnbolhkcnjaaGreat.words
open Go.RowKit
set_option linter.unusedVariables false
set_option linter.unusedSimpArgs false

theorem ret2 {k1 : IntKind} {b1 b2 : Bool} {x1 x2 : Int} (h1 : x1 = x2) (h2 : b1 = b2) :
    Ending.returned (.tuple #[.int k1 x1, .bool b1]) = .returned (.tuple #[.int k1 x2, .bool b2]) := by rw [h1, h2]

theorem small_raw (n : Int) (h0 : -9223372036854775808 ≤ n) (h1 : n ≤ 9223372036854775807) :
    bits .or .u64 (IntKind.u64.wrap (IntKind.u64.wrap n * 16)) 3 = 16 * (n % 1152921504606846976) + 3 := by
  have e : IntKind.u64.wrap (IntKind.u64.wrap n * 16) = 16 * (n % 1152921504606846976) := by
    rw [IntKind.wrap_u64, IntKind.wrap_u64]; omega
  rw [e, or3 _ (by omega) (by omega)]

set_option maxHeartbeats 400000
theorem Small (n : Int) (h0 : -9223372036854775808 ≤ n) (h1 : n ≤ 9223372036854775807) (w : World) :
    Calls Tryz.prog 96 #[.int .i64 n] w fun e w' => e = .returned (.tuple #[.int .u64 (smallW n), .bool (smallOk n)]) ∧ w = w' := by
  have hr := small_raw n h0 h1
  have Hr := Lib.hid hr; clear hr
  by_cases a : n ≤ 576460752303423487
  · by_cases b : n < -576460752303423488
    · go_enter Tryz.func96, Tryz.ntmps96
      go_wp2
      go_ret2
      exact ⟨ret2 (by unfold smallW smallOk; rw [if_neg (by simp; omega)]) (by unfold smallOk; simp; omega), rfl⟩
    · go_enter Tryz.func96, Tryz.ntmps96
      go_wp2
      go_ret2
      exact ⟨ret2 (by unfold smallW smallOk; rw [if_pos (by simp; omega)]; exact Hr.out) (by unfold smallOk; simp; omega), rfl⟩
  · go_enter Tryz.func96, Tryz.ntmps96
    go_wp2
    go_ret2
    exact ⟨ret2 (by unfold smallW smallOk; rw [if_neg (by simp; omega)]) (by unfold smallOk; simp; omega), rfl⟩

theorem small_ref (n : Int) : IntKind.u64.wrap (IntKind.u64.wrap (IntKind.u64.wrap n * 16) + 3) = 16 * (n % 1152921504606846976) + 3 := by
  rw [IntKind.wrap_u64, IntKind.wrap_u64, IntKind.wrap_u64]; omega

theorem RSmall (n : Int) (h0 : -9223372036854775808 ≤ n) (h1 : n ≤ 9223372036854775807) (w : World) :
    Calls Tryz.prog 157 #[.int .i64 n] w fun e w' => e = .returned (.tuple #[.int .u64 (smallW n), .bool (smallOk n)]) ∧ w = w' := by
  have hr := small_ref n
  have Hr := Lib.hid hr; clear hr
  by_cases b : n < -576460752303423488
  · go_enter Tryz.func157, Tryz.ntmps157
    go_wp2
    go_ret2
    exact ⟨ret2 (by unfold smallW smallOk; rw [if_neg (by simp; omega)]) (by unfold smallOk; simp; omega), rfl⟩
  · by_cases a : n ≤ 576460752303423487
    · go_enter Tryz.func157, Tryz.ntmps157
      go_wp2
      go_ret2
      exact ⟨ret2 (by unfold smallW smallOk; rw [if_pos (by simp; omega)]; exact Hr.out) (by unfold smallOk; simp; omega), rfl⟩
    · go_enter Tryz.func157, Tryz.ntmps157
      go_wp2
      go_ret2
      exact ⟨ret2 (by unfold smallW smallOk; rw [if_neg (by simp; omega)]) (by unfold smallOk; simp; omega), rfl⟩

/-- an index of an atom or of a pointer -/
theorem shl4 (i : Int) (h0 : 0 ≤ i) (h1 : i < 2147483648) : IntKind.u64.wrap (IntKind.u64.wrap i * 16) = 16 * i := by
  rw [IntKind.wrap_u64, IntKind.wrap_u64]; omega
theorem atom_raw (i : Int) (h0 : 0 ≤ i) (h1 : i < 2147483648) : bits .or .u64 (i * 16) 7 = 16 * i + 7 := by
  rw [show i * 16 = 16 * i by omega, or7 _ (by omega) (by omega)]

theorem ptr_raw (tag i : Int) (h0 : 0 ≤ i) (h1 : i < 2147483648) (t0 : 0 ≤ tag) (t1 : tag < 8) : bits .or .u64 tag (i * 8) = 8 * i + tag := by
  rw [or_comm, show i * 8 = 2 ^ 3 * i by omega, or_low 3 _ _ (by omega) (by omega) (by omega) (by omega)]; rfl
theorem tag_raw (tag : Int) (h : tag = 1 ∨ tag = 2) : bits .or .u64 tag 4 = tag + 4 := by
  rcases h with rfl | rfl <;> decide +kernel

theorem Ptr (tag : Int) (ht : tag = 1 ∨ tag = 2) (old : Bool) (i : Int) (w : World) :
    Calls Tryz.prog 194 #[.int .u64 tag, .bool old, .int .i64 i] w fun e w' => e = .returned (.tuple #[.int .u64 (ptrW tag old i), .bool (idxOk i)]) ∧ w = w' := by
  by_cases b : i < 0
  · go_enter Tryz.func194, Tryz.ntmps194
    go_wp2
    go_ret2
    exact ⟨ret2 (by unfold ptrW idxOk; rw [if_neg (by simp; omega)]) (by unfold idxOk; simp; omega), rfl⟩
  · by_cases a : i ≤ 2147483647
    · have Hr := Lib.hid (ptr_raw tag i (by omega) (by omega) (by omega) (by omega))
      have Hs := Lib.hid (ptr_raw (tag + 4) i (by omega) (by omega) (by omega) (by omega))
      have Ht := Lib.hid (tag_raw tag ht)
      cases old
      · go_enter Tryz.func194, Tryz.ntmps194
        go_wp2
        go_ret2
        exact ⟨ret2 (by unfold ptrW idxOk; rw [if_pos (by simp; omega), Hr.out]; simp) (by unfold idxOk; simp; omega), rfl⟩
      · go_enter Tryz.func194, Tryz.ntmps194
        go_wp2
        go_ret2
        exact ⟨ret2 (by unfold ptrW idxOk; rw [if_pos (by simp; omega), Ht.out, Hs.out]; simp; omega) (by unfold idxOk; simp; omega), rfl⟩
    · go_enter Tryz.func194, Tryz.ntmps194
      go_wp2
      go_ret2
      exact ⟨ret2 (by unfold ptrW idxOk; rw [if_neg (by simp; omega)]) (by unfold idxOk; simp; omega), rfl⟩

theorem RPtr (tag : Int) (h0 : 0 ≤ tag) (h1 : tag ≤ 3) (old : Bool) (i : Int) (w : World) :
    Calls Tryz.prog 84 #[.int .i64 tag, .bool old, .int .i64 i] w fun e w' => e = .returned (.tuple #[.int .u64 (ptrW tag old i), .bool (idxOk i)]) ∧ w = w' := by
  by_cases b : i < 0
  · go_enter Tryz.func84, Tryz.ntmps84
    go_wp2
    go_ret2
    exact ⟨ret2 (by unfold ptrW idxOk; rw [if_neg (by simp; omega)]) (by unfold idxOk; simp; omega), rfl⟩
  · by_cases a : i ≤ 2147483647
    · cases old
      all_goals
        go_enter Tryz.func84, Tryz.ntmps84
        go_wp2
        go_ret2
        exact ⟨ret2 (by unfold ptrW idxOk; rw [if_pos (by simp; omega)]; simp; omega) (by unfold idxOk; simp; omega), rfl⟩
    · go_enter Tryz.func84, Tryz.ntmps84
      go_wp2
      go_ret2
      exact ⟨ret2 (by unfold ptrW idxOk; rw [if_neg (by simp; omega)]) (by unfold idxOk; simp; omega), rfl⟩

theorem List (old : Bool) (i : Int) (w : World) :
    Calls Tryz.prog 166 #[.bool old, .int .i64 i] w fun e w' => e = .returned (.tuple #[.int .u64 (ptrW 1 old i), .bool (idxOk i)]) ∧ w = w' := by
  go_enter Tryz.func166, Tryz.ntmps166
  go_wp2_with (go_at_call 194; refine (Ptr 1 (.inl rfl) _ _ _).mono ?_; rintro e w' ⟨rfl, rfl⟩)
  go_ret2
  exact ⟨rfl, rfl⟩
theorem RList (old : Bool) (i : Int) (w : World) :
    Calls Tryz.prog 28 #[.bool old, .int .i64 i] w fun e w' => e = .returned (.tuple #[.int .u64 (ptrW 1 old i), .bool (idxOk i)]) ∧ w = w' := by
  go_enter Tryz.func28, Tryz.ntmps28
  go_wp2_with (go_at_call 84; refine (RPtr 1 (by decide) (by decide) _ _ _).mono ?_; rintro e w' ⟨rfl, rfl⟩)
  go_ret2
  exact ⟨rfl, rfl⟩
theorem Box (old : Bool) (i : Int) (w : World) :
    Calls Tryz.prog 148 #[.bool old, .int .i64 i] w fun e w' => e = .returned (.tuple #[.int .u64 (ptrW 2 old i), .bool (idxOk i)]) ∧ w = w' := by
  go_enter Tryz.func148, Tryz.ntmps148
  go_wp2_with (go_at_call 194; refine (Ptr 2 (.inr rfl) _ _ _).mono ?_; rintro e w' ⟨rfl, rfl⟩)
  go_ret2
  exact ⟨rfl, rfl⟩
theorem RBox (old : Bool) (i : Int) (w : World) :
    Calls Tryz.prog 135 #[.bool old, .int .i64 i] w fun e w' => e = .returned (.tuple #[.int .u64 (ptrW 2 old i), .bool (idxOk i)]) ∧ w = w' := by
  go_enter Tryz.func135, Tryz.ntmps135
  go_wp2_with (go_at_call 84; refine (RPtr 2 (by decide) (by decide) _ _ _).mono ?_; rintro e w' ⟨rfl, rfl⟩)
  go_ret2
  exact ⟨rfl, rfl⟩
theorem Nil (w : World) : Calls Tryz.prog 140 #[] w fun e w' => e = .returned (.int .u64 11) ∧ w = w' := by
  go_enter Tryz.func140, Tryz.ntmps140
  go_wp2
  go_ret
  exact ⟨rfl, rfl⟩
theorem RNil (w : World) : Calls Tryz.prog 192 #[] w fun e w' => e = .returned (.int .u64 11) ∧ w = w' := by
  go_enter Tryz.func192, Tryz.ntmps192
  go_wp2
  go_ret
  exact ⟨rfl, rfl⟩

theorem hd_raw (k n : Int) (h : hdOk k n = true) : bits .or .u64 (n * 16) k * 4 = 64 * n + 4 * k := by
  unfold hdOk at h
  have h := of_decide_eq_true h
  rw [show n * 16 = 2 ^ 4 * n by omega, or_low 4 _ _ (by omega) (by omega) (by omega) (by omega)]; omega

theorem hdOk_iff (k n : Int) : hdOk k n = true ↔ 1 ≤ k ∧ k ≤ 8 ∧ 0 ≤ n ∧ n ≤ 65535 := by simp [hdOk]

end Go.Proofs.YtpnlnbolhkcnjaaGreat.words
