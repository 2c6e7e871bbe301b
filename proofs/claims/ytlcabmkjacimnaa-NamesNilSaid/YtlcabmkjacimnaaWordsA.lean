/- The contracts of the functions of package words and of its specification: each returns what a plain function on integers says. Conditions: each integer fits its kind. -/
import Derived.Test.YtlcabmkjacimnaaBits
import Derived.Lib.Hide
namespace Go.Proofs.Ytlcabmkjacimnaa.words
open Go.RowKit
set_option linter.unusedVariables false
set_option linter.unusedSimpArgs false

def smallOk (n : Int) : Bool := decide (-576460752303423488 ≤ n ∧ n < 576460752303423488)
def smallW (n : Int) : Int := if smallOk n then 16 * (n % 1152921504606846976) + 3 else 0

theorem ret2 {k1 : IntKind} {b1 b2 : Bool} {x1 x2 : Int} (h1 : x1 = x2) (h2 : b1 = b2) :
    Ending.returned (.tuple #[.int k1 x1, .bool b1]) = .returned (.tuple #[.int k1 x2, .bool b2]) := by rw [h1, h2]

theorem small_raw (n : Int) (h0 : -9223372036854775808 ≤ n) (h1 : n ≤ 9223372036854775807) :
    bits .or .u64 (IntKind.u64.wrap (IntKind.u64.wrap n * 16)) 3 = 16 * (n % 1152921504606846976) + 3 := by
  have e : IntKind.u64.wrap (IntKind.u64.wrap n * 16) = 16 * (n % 1152921504606846976) := by
    rw [IntKind.wrap_u64, IntKind.wrap_u64]; omega
  rw [e, or3 _ (by omega) (by omega)]

set_option maxHeartbeats 400000
theorem Small (n : Int) (h0 : -9223372036854775808 ≤ n) (h1 : n ≤ 9223372036854775807) (w : World) :
    Calls Try.prog 15 #[.int .i64 n] w fun e w' => e = .returned (.tuple #[.int .u64 (smallW n), .bool (smallOk n)]) ∧ w = w' := by
  have hr := small_raw n h0 h1
  have Hr := Lib.hid hr; clear hr
  by_cases a : n ≤ 576460752303423487
  · by_cases b : n < -576460752303423488
    · go_enter Try.func15, Try.ntmps15
      go_wp2
      go_ret2
      exact ⟨ret2 (by unfold smallW smallOk; rw [if_neg (by simp; omega)]) (by unfold smallOk; simp; omega), rfl⟩
    · go_enter Try.func15, Try.ntmps15
      go_wp2
      go_ret2
      exact ⟨ret2 (by unfold smallW smallOk; rw [if_pos (by simp; omega)]; exact Hr.out) (by unfold smallOk; simp; omega), rfl⟩
  · go_enter Try.func15, Try.ntmps15
    go_wp2
    go_ret2
    exact ⟨ret2 (by unfold smallW smallOk; rw [if_neg (by simp; omega)]) (by unfold smallOk; simp; omega), rfl⟩

theorem small_ref (n : Int) : IntKind.u64.wrap (IntKind.u64.wrap (IntKind.u64.wrap n * 16) + 3) = 16 * (n % 1152921504606846976) + 3 := by
  rw [IntKind.wrap_u64, IntKind.wrap_u64, IntKind.wrap_u64]; omega

theorem RSmall (n : Int) (h0 : -9223372036854775808 ≤ n) (h1 : n ≤ 9223372036854775807) (w : World) :
    Calls Try.prog 20 #[.int .i64 n] w fun e w' => e = .returned (.tuple #[.int .u64 (smallW n), .bool (smallOk n)]) ∧ w = w' := by
  have hr := small_ref n
  have Hr := Lib.hid hr; clear hr
  by_cases b : n < -576460752303423488
  · go_enter Try.func20, Try.ntmps20
    go_wp2
    go_ret2
    exact ⟨ret2 (by unfold smallW smallOk; rw [if_neg (by simp; omega)]) (by unfold smallOk; simp; omega), rfl⟩
  · by_cases a : n ≤ 576460752303423487
    · go_enter Try.func20, Try.ntmps20
      go_wp2
      go_ret2
      exact ⟨ret2 (by unfold smallW smallOk; rw [if_pos (by simp; omega)]; exact Hr.out) (by unfold smallOk; simp; omega), rfl⟩
    · go_enter Try.func20, Try.ntmps20
      go_wp2
      go_ret2
      exact ⟨ret2 (by unfold smallW smallOk; rw [if_neg (by simp; omega)]) (by unfold smallOk; simp; omega), rfl⟩

/-- an index of an atom or of a pointer -/
def idxOk (i : Int) : Bool := decide (0 ≤ i ∧ i < 2147483648)
def atomW (i : Int) : Int := if idxOk i then 16 * i + 7 else 0
def ptrW (tag : Int) (old : Bool) (i : Int) : Int := if idxOk i then 8 * i + tag + (if old then 4 else 0) else 0
def hdOk (k n : Int) : Bool := decide (1 ≤ k ∧ k ≤ 8 ∧ 0 ≤ n ∧ n ≤ 65535)
def hdW (k n : Int) : Int := if hdOk k n then 64 * n + 4 * k else 0

theorem shl4 (i : Int) (h0 : 0 ≤ i) (h1 : i < 2147483648) : IntKind.u64.wrap (IntKind.u64.wrap i * 16) = 16 * i := by
  rw [IntKind.wrap_u64, IntKind.wrap_u64]; omega
theorem atom_raw (i : Int) (h0 : 0 ≤ i) (h1 : i < 2147483648) : bits .or .u64 (i * 16) 7 = 16 * i + 7 := by
  rw [show i * 16 = 16 * i by omega, or7 _ (by omega) (by omega)]

theorem Atom (i : Int) (w : World) :
    Calls Try.prog 21 #[.int .i64 i] w fun e w' => e = .returned (.tuple #[.int .u64 (atomW i), .bool (idxOk i)]) ∧ w = w' := by
  by_cases b : i < 0
  · go_enter Try.func21, Try.ntmps21
    go_wp2
    go_ret2
    exact ⟨ret2 (by unfold atomW idxOk; rw [if_neg (by simp; omega)]) (by unfold idxOk; simp; omega), rfl⟩
  · by_cases a : i ≤ 2147483647
    · have Hr := Lib.hid (atom_raw i (by omega) (by omega))
      go_enter Try.func21, Try.ntmps21
      go_wp2
      go_ret2
      exact ⟨ret2 (by unfold atomW idxOk; rw [if_pos (by simp; omega)]; exact Hr.out) (by unfold idxOk; simp; omega), rfl⟩
    · go_enter Try.func21, Try.ntmps21
      go_wp2
      go_ret2
      exact ⟨ret2 (by unfold atomW idxOk; rw [if_neg (by simp; omega)]) (by unfold idxOk; simp; omega), rfl⟩

theorem RAtom (i : Int) (w : World) :
    Calls Try.prog 22 #[.int .i64 i] w fun e w' => e = .returned (.tuple #[.int .u64 (atomW i), .bool (idxOk i)]) ∧ w = w' := by
  by_cases b : i < 0
  · go_enter Try.func22, Try.ntmps22
    go_wp2
    go_ret2
    exact ⟨ret2 (by unfold atomW idxOk; rw [if_neg (by simp; omega)]) (by unfold idxOk; simp; omega), rfl⟩
  · by_cases a : i ≤ 2147483647
    · go_enter Try.func22, Try.ntmps22
      go_wp2
      go_ret2
      exact ⟨ret2 (by unfold atomW idxOk; rw [if_pos (by simp; omega)]; omega) (by unfold idxOk; simp; omega), rfl⟩
    · go_enter Try.func22, Try.ntmps22
      go_wp2
      go_ret2
      exact ⟨ret2 (by unfold atomW idxOk; rw [if_neg (by simp; omega)]) (by unfold idxOk; simp; omega), rfl⟩

theorem ptr_raw (tag i : Int) (h0 : 0 ≤ i) (h1 : i < 2147483648) (t0 : 0 ≤ tag) (t1 : tag < 8) : bits .or .u64 tag (i * 8) = 8 * i + tag := by
  rw [or_comm, show i * 8 = 2 ^ 3 * i by omega, or_low 3 _ _ (by omega) (by omega) (by omega) (by omega)]; rfl
theorem tag_raw (tag : Int) (h : tag = 1 ∨ tag = 2) : bits .or .u64 tag 4 = tag + 4 := by
  rcases h with rfl | rfl <;> decide +kernel

theorem Ptr (tag : Int) (ht : tag = 1 ∨ tag = 2) (old : Bool) (i : Int) (w : World) :
    Calls Try.prog 54 #[.int .u64 tag, .bool old, .int .i64 i] w fun e w' => e = .returned (.tuple #[.int .u64 (ptrW tag old i), .bool (idxOk i)]) ∧ w = w' := by
  by_cases b : i < 0
  · go_enter Try.func54, Try.ntmps54
    go_wp2
    go_ret2
    exact ⟨ret2 (by unfold ptrW idxOk; rw [if_neg (by simp; omega)]) (by unfold idxOk; simp; omega), rfl⟩
  · by_cases a : i ≤ 2147483647
    · have Hr := Lib.hid (ptr_raw tag i (by omega) (by omega) (by omega) (by omega))
      have Hs := Lib.hid (ptr_raw (tag + 4) i (by omega) (by omega) (by omega) (by omega))
      have Ht := Lib.hid (tag_raw tag ht)
      cases old
      · go_enter Try.func54, Try.ntmps54
        go_wp2
        go_ret2
        exact ⟨ret2 (by unfold ptrW idxOk; rw [if_pos (by simp; omega), Hr.out]; simp) (by unfold idxOk; simp; omega), rfl⟩
      · go_enter Try.func54, Try.ntmps54
        go_wp2
        go_ret2
        exact ⟨ret2 (by unfold ptrW idxOk; rw [if_pos (by simp; omega), Ht.out, Hs.out]; simp; omega) (by unfold idxOk; simp; omega), rfl⟩
    · go_enter Try.func54, Try.ntmps54
      go_wp2
      go_ret2
      exact ⟨ret2 (by unfold ptrW idxOk; rw [if_neg (by simp; omega)]) (by unfold idxOk; simp; omega), rfl⟩

theorem RPtr (tag : Int) (h0 : 0 ≤ tag) (h1 : tag ≤ 3) (old : Bool) (i : Int) (w : World) :
    Calls Try.prog 55 #[.int .i64 tag, .bool old, .int .i64 i] w fun e w' => e = .returned (.tuple #[.int .u64 (ptrW tag old i), .bool (idxOk i)]) ∧ w = w' := by
  by_cases b : i < 0
  · go_enter Try.func55, Try.ntmps55
    go_wp2
    go_ret2
    exact ⟨ret2 (by unfold ptrW idxOk; rw [if_neg (by simp; omega)]) (by unfold idxOk; simp; omega), rfl⟩
  · by_cases a : i ≤ 2147483647
    · cases old
      all_goals
        go_enter Try.func55, Try.ntmps55
        go_wp2
        go_ret2
        exact ⟨ret2 (by unfold ptrW idxOk; rw [if_pos (by simp; omega)]; simp; omega) (by unfold idxOk; simp; omega), rfl⟩
    · go_enter Try.func55, Try.ntmps55
      go_wp2
      go_ret2
      exact ⟨ret2 (by unfold ptrW idxOk; rw [if_neg (by simp; omega)]) (by unfold idxOk; simp; omega), rfl⟩

theorem List (old : Bool) (i : Int) (w : World) :
    Calls Try.prog 23 #[.bool old, .int .i64 i] w fun e w' => e = .returned (.tuple #[.int .u64 (ptrW 1 old i), .bool (idxOk i)]) ∧ w = w' := by
  go_enter Try.func23, Try.ntmps23
  go_wp2_with (go_at_call 54; refine (Ptr 1 (.inl rfl) _ _ _).mono ?_; rintro e w' ⟨rfl, rfl⟩)
  go_ret2
  exact ⟨rfl, rfl⟩
theorem RList (old : Bool) (i : Int) (w : World) :
    Calls Try.prog 24 #[.bool old, .int .i64 i] w fun e w' => e = .returned (.tuple #[.int .u64 (ptrW 1 old i), .bool (idxOk i)]) ∧ w = w' := by
  go_enter Try.func24, Try.ntmps24
  go_wp2_with (go_at_call 55; refine (RPtr 1 (by decide) (by decide) _ _ _).mono ?_; rintro e w' ⟨rfl, rfl⟩)
  go_ret2
  exact ⟨rfl, rfl⟩
theorem Box (old : Bool) (i : Int) (w : World) :
    Calls Try.prog 25 #[.bool old, .int .i64 i] w fun e w' => e = .returned (.tuple #[.int .u64 (ptrW 2 old i), .bool (idxOk i)]) ∧ w = w' := by
  go_enter Try.func25, Try.ntmps25
  go_wp2_with (go_at_call 54; refine (Ptr 2 (.inr rfl) _ _ _).mono ?_; rintro e w' ⟨rfl, rfl⟩)
  go_ret2
  exact ⟨rfl, rfl⟩
theorem RBox (old : Bool) (i : Int) (w : World) :
    Calls Try.prog 26 #[.bool old, .int .i64 i] w fun e w' => e = .returned (.tuple #[.int .u64 (ptrW 2 old i), .bool (idxOk i)]) ∧ w = w' := by
  go_enter Try.func26, Try.ntmps26
  go_wp2_with (go_at_call 55; refine (RPtr 2 (by decide) (by decide) _ _ _).mono ?_; rintro e w' ⟨rfl, rfl⟩)
  go_ret2
  exact ⟨rfl, rfl⟩
theorem Nil (w : World) : Calls Try.prog 29 #[] w fun e w' => e = .returned (.int .u64 11) ∧ w = w' := by
  go_enter Try.func29, Try.ntmps29
  go_wp2
  go_ret
  exact ⟨rfl, rfl⟩
theorem RNil (w : World) : Calls Try.prog 30 #[] w fun e w' => e = .returned (.int .u64 11) ∧ w = w' := by
  go_enter Try.func30, Try.ntmps30
  go_wp2
  go_ret
  exact ⟨rfl, rfl⟩

theorem hd_raw (k n : Int) (h : hdOk k n = true) : bits .or .u64 (n * 16) k * 4 = 64 * n + 4 * k := by
  unfold hdOk at h
  have h := of_decide_eq_true h
  rw [show n * 16 = 2 ^ 4 * n by omega, or_low 4 _ _ (by omega) (by omega) (by omega) (by omega)]; omega

theorem hdOk_iff (k n : Int) : hdOk k n = true ↔ 1 ≤ k ∧ k ≤ 8 ∧ 0 ≤ n ∧ n ≤ 65535 := by simp [hdOk]

theorem Header (k n : Int) (w : World) :
    Calls Try.prog 27 #[.int .i64 k, .int .i64 n] w fun e w' => e = .returned (.tuple #[.int .u64 (hdW k n), .bool (hdOk k n)]) ∧ w = w' := by
  by_cases a : k < 1
  · go_enter Try.func27, Try.ntmps27
    go_wp2
    go_ret2
    exact ⟨ret2 (by unfold hdW hdOk; rw [if_neg (by simp; omega)]) (by unfold hdOk; simp; omega), rfl⟩
  by_cases b : 8 < k
  · go_enter Try.func27, Try.ntmps27
    go_wp2
    go_ret2
    exact ⟨ret2 (by unfold hdW hdOk; rw [if_neg (by simp; omega)]) (by unfold hdOk; simp; omega), rfl⟩
  by_cases c : n < 0
  · go_enter Try.func27, Try.ntmps27
    go_wp2
    go_ret2
    exact ⟨ret2 (by unfold hdW hdOk; rw [if_neg (by simp; omega)]) (by unfold hdOk; simp; omega), rfl⟩
  by_cases d : 65535 < n
  · go_enter Try.func27, Try.ntmps27
    go_wp2
    go_ret2
    exact ⟨ret2 (by unfold hdW hdOk; rw [if_neg (by simp; omega)]) (by unfold hdOk; simp; omega), rfl⟩
  have Hb := Lib.hid (hd_raw k n (by simp [hdOk]; omega))
  have Hc : Hid (bits .or .u64 (n * 16) k = 16 * n + k) := Lib.hid (by have := Hb.out; omega)
  go_enter Try.func27, Try.ntmps27
  go_wp2
  go_ret2
  refine ⟨ret2 (by unfold hdW hdOk; rw [if_pos (by simp; omega), Hc.out, IntKind.wrap_u64]; omega) (by unfold hdOk; simp; omega), rfl⟩
theorem RHeader (k n : Int) (w : World) :
    Calls Try.prog 28 #[.int .i64 k, .int .i64 n] w fun e w' => e = .returned (.tuple #[.int .u64 (hdW k n), .bool (hdOk k n)]) ∧ w = w' := by
  by_cases a : k < 1
  · go_enter Try.func28, Try.ntmps28
    go_wp2
    go_ret2
    exact ⟨ret2 (by unfold hdW hdOk; rw [if_neg (by simp; omega)]) (by unfold hdOk; simp; omega), rfl⟩
  by_cases b : 8 < k
  · go_enter Try.func28, Try.ntmps28
    go_wp2
    go_ret2
    exact ⟨ret2 (by unfold hdW hdOk; rw [if_neg (by simp; omega)]) (by unfold hdOk; simp; omega), rfl⟩
  by_cases c : n < 0
  · go_enter Try.func28, Try.ntmps28
    go_wp2
    go_ret2
    exact ⟨ret2 (by unfold hdW hdOk; rw [if_neg (by simp; omega)]) (by unfold hdOk; simp; omega), rfl⟩
  by_cases d : 65535 < n
  · go_enter Try.func28, Try.ntmps28
    go_wp2
    go_ret2
    exact ⟨ret2 (by unfold hdW hdOk; rw [if_neg (by simp; omega)]) (by unfold hdOk; simp; omega), rfl⟩
  go_enter Try.func28, Try.ntmps28
  go_wp2
  go_ret2
  refine ⟨ret2 (by unfold hdW hdOk; rw [if_pos (by simp; omega)]; omega) (by unfold hdOk; simp; omega), rfl⟩
end Go.Proofs.Ytlcabmkjacimnaa.words
