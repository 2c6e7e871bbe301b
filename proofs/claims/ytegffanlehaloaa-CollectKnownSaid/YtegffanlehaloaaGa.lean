/- Several texts in one, one behind the other: Wd, Bits, WordsA, WordsB, WordsC, Mem. No condition beyond theirs. -/
import Derived.Lib.Hide
import Derived.Test.YtegffanlehaloaaRows
import Derived.WalkKit
import Derived.Maps.Own
import Derived.Maps.OwnOps
import Derived.Deep.Draws
/- The words of the memory of a process, in plain Lean. -/
namespace Go.Proofs.Ytegffanlehaloaa.words

def smallOk (n : Int) : Bool := decide (-576460752303423488 ≤ n ∧ n < 576460752303423488)
def smallW (n : Int) : Int := if smallOk n then 16 * (n % 1152921504606846976) + 3 else 0
def idxOk (i : Int) : Bool := decide (0 ≤ i ∧ i < 2147483648)
def atomW (i : Int) : Int := if idxOk i then 16 * i + 7 else 0
def ptrW (tag : Int) (old : Bool) (i : Int) : Int := if idxOk i then 8 * i + tag + (if old then 4 else 0) else 0
def hdOk (k n : Int) : Bool := decide (1 ≤ k ∧ k ≤ 8 ∧ 0 ≤ n ∧ n ≤ 65535)
def hdW (k n : Int) : Int := if hdOk k n then 64 * n + 4 * k else 0
def soOk (w : Int) : Bool := decide (w % 16 = 3)
def soN (w : Int) : Int := if soOk w then (if w / 16 ≥ 576460752303423488 then w / 16 - 1152921504606846976 else w / 16) else 0
def aoOk (w : Int) : Bool := decide (w % 16 = 7 ∧ w / 16 < 2147483648)
def aoN (w : Int) : Int := if aoOk w then w / 16 else 0
def pOk (w : Int) : Bool := decide ((w % 4 = 1 ∨ w % 4 = 2) ∧ w / 8 < 2147483648)
def pOld (w : Int) : Bool := pOk w && decide (w / 4 % 2 = 1)
def pIx (w : Int) : Int := if pOk w then w / 8 else 0
def hoOk (w : Int) : Bool := decide (w % 4 = 0 ∧ 1 ≤ w / 4 % 16 ∧ w / 4 % 16 ≤ 8 ∧ w / 64 ≤ 65535)
def hoK (w : Int) : Int := if hoOk w then w / 4 % 16 else 0
def hoN (w : Int) : Int := if hoOk w then w / 64 else 0
def vOk (w : Int) : Bool := soOk w || aoOk w || pOk w || hoOk w || decide (w = 11)
end Go.Proofs.Ytegffanlehaloaa.words
/- Plain arithmetic: what Go's and, or, shifts on 64-bit words come to as division and remainder. No condition. -/
namespace Go.Proofs.Ytegffanlehaloaa.words
open Go.RowKit

theorem ofInt_toNat (a : Int) (h0 : 0 ≤ a) (h1 : a ≤ 18446744073709551615) : (BitVec.ofInt IntKind.u64.bits a).toNat = a.toNat := by
  show (BitVec.ofInt 64 a).toNat = _
  rw [BitVec.toNat_ofInt]
  omega

theorem u64_nat (n : Nat) (h : n ≤ 18446744073709551615) : IntKind.u64.wrap (n : Int) = n := IntWalk.u64_in _ (by omega)

theorem toNat_pow (k : Nat) : ((2 : Int) ^ k).toNat = 2 ^ k := by
  have : ((2 : Int) ^ k) = ((2 ^ k : Nat) : Int) := by simp
  rw [this, Int.toNat_natCast]

theorem or_low (k : Nat) (m b : Int) (hm : 0 ≤ m) (hb : 0 ≤ b) (hlt : b < 2 ^ k) (hmax : 2 ^ k * m + b ≤ 18446744073709551615) :
    bits .or .u64 (2 ^ k * m) b = 2 ^ k * m + b := by
  have hp : (0 : Int) < 2 ^ k := Int.pow_pos (by decide)
  have hpm : 0 ≤ 2 ^ k * m := Int.mul_nonneg (Int.le_of_lt hp) hm
  unfold bits
  simp only [BitVec.toNat_or]
  rw [ofInt_toNat _ hpm (by omega), ofInt_toNat _ hb (by omega)]
  have e1 : (2 ^ k * m).toNat = 2 ^ k * m.toNat := by
    rw [Int.toNat_mul (Int.le_of_lt hp) hm, toNat_pow]
  have e2 : b.toNat < 2 ^ k := by
    have := toNat_pow k; omega
  rw [e1, ← Nat.two_pow_add_eq_or_of_lt e2]
  have e3 : ((2 ^ k * m.toNat + b.toNat : Nat) : Int) = 2 ^ k * m + b := by
    rw [Int.natCast_add, ← e1]; omega
  rw [u64_nat _ (by omega), e3]

theorem and_low (k : Nat) (w c : Int) (hw : 0 ≤ w) (h1 : w ≤ 18446744073709551615) (hc : c = 2 ^ k - 1) (hk : k < 64) :
    bits .and .u64 w c = w % 2 ^ k := by
  have hp : (0 : Int) < 2 ^ k := Int.pow_pos (by decide)
  have hq : (2 : Nat) ^ k ≤ 2 ^ 63 := Nat.pow_le_pow_right (by decide) (by omega)
  have hq' : ((2 : Int) ^ k) = ((2 ^ k : Nat) : Int) := by simp
  unfold bits
  simp only [BitVec.toNat_and]
  rw [ofInt_toNat _ hw h1, ofInt_toNat c (by omega) (by omega)]
  have e1 : c.toNat = 2 ^ k - 1 := by omega
  rw [e1, Nat.and_two_pow_sub_one_eq_mod]
  have e2 : ((w.toNat % 2 ^ k : Nat) : Int) = w % 2 ^ k := by
    rw [Int.natCast_emod]; rw [← hq', Int.toNat_of_nonneg hw]
  have e3 : w.toNat % 2 ^ k < 2 ^ k := Nat.mod_lt _ (Nat.pow_pos (by decide))
  rw [u64_nat _ (by omega), e2]

theorem or3 (m : Int) (hm : 0 ≤ m) (h : 16 * m + 3 ≤ 18446744073709551615) : bits .or .u64 (16 * m) 3 = 16 * m + 3 :=
  or_low 4 m 3 hm (by decide) (by decide) h
theorem or7 (m : Int) (hm : 0 ≤ m) (h : 16 * m + 7 ≤ 18446744073709551615) : bits .or .u64 (16 * m) 7 = 16 * m + 7 :=
  or_low 4 m 7 hm (by decide) (by decide) h
theorem and3 (w : Int) (h0 : 0 ≤ w) (h1 : w ≤ 18446744073709551615) : bits .and .u64 w 3 = w % 4 :=
  and_low 2 w 3 h0 h1 (by decide) (by decide)
theorem and15 (w : Int) (h0 : 0 ≤ w) (h1 : w ≤ 18446744073709551615) : bits .and .u64 w 15 = w % 16 :=
  and_low 4 w 15 h0 h1 (by decide) (by decide)

theorem or_comm (a b : Int) : bits .or .u64 a b = bits .or .u64 b a := by
  unfold bits; simp only [BitVec.or_comm]

theorem and4 (w : Int) (h0 : 0 ≤ w) (h1 : w ≤ 18446744073709551615) : bits .and .u64 w 4 = 4 * (w / 4 % 2) := by
  unfold bits
  simp only [BitVec.toNat_and]
  rw [ofInt_toNat _ h0 h1, ofInt_toNat 4 (by decide) (by decide)]
  have e : w.toNat &&& (4 : Int).toNat = 4 * (w.toNat / 4 % 2) := by
    show w.toNat &&& 4 = _
    have h1 : (w.toNat &&& 4) % 2 ^ 3 = (w.toNat % 2 ^ 3) &&& (4 % 2 ^ 3) := Nat.and_mod_two_pow
    have h2 : (w.toNat &&& 4) ≤ 4 := Nat.and_le_right
    have h3 : ∀ r : Nat, r < 8 → (r &&& 4) = 4 * (r / 4 % 2) := by decide
    have h4 := h3 (w.toNat % 8) (Nat.mod_lt _ (by decide))
    have h5 : (w.toNat &&& 4) % 2 ^ 3 = (w.toNat &&& 4) := Nat.mod_eq_of_lt (by omega)
    rw [← h5, h1]
    show (w.toNat % 8) &&& 4 = _
    rw [h4]
    omega
  rw [e, u64_nat _ (by omega)]
  omega
end Go.Proofs.Ytegffanlehaloaa.words
/- The contracts of the functions of package words and of its specification: each returns what a plain function on integers says. Conditions: each integer fits its kind. -/
namespace Go.Proofs.Ytegffanlehaloaa.words
open Go.RowKit
set_option linter.unusedVariables false
set_option linter.unusedSimpArgs false

theorem ret2 {k1 : IntKind} {b1 b2 : Bool} {x1 x2 : Int} (h1 : x1 = x2) (h2 : b1 = b2) :
    Ending.returned (.tuple #[.int k1 x1, .bool b1]) = .returned (.tuple #[.int k1 x2, .bool b2]) := by rw [h1, h2]

theorem small_raw (n : Int) (h0 : -9223372036854775808 ≤ n) (h1 : n ≤ 9223372036854775807) :
    bits .or .u64 (IntKind.u64.wrap (IntKind.u64.wrap n * 16)) 3 = 16 * (n % 1152921504606846976) + 3 := by
  have e : IntKind.u64.wrap (IntKind.u64.wrap n * 16) = 16 * (n % 1152921504606846976) := by
    rw [IntKind.wrap_u64, IntKind.wrap_u64]; omega
  rw [e, or3 _ (by omega) (by omega)]

set_option maxHeartbeats 400000
theorem Small (n : Int) (h0 : -9223372036854775808 ≤ n) (h1 : n ≤ 9223372036854775807) (w : World) :
    Calls Try.prog 138 #[.int .i64 n] w fun e w' => e = .returned (.tuple #[.int .u64 (smallW n), .bool (smallOk n)]) ∧ w = w' := by
  have hr := small_raw n h0 h1
  have Hr := Lib.hid hr; clear hr
  by_cases a : n ≤ 576460752303423487
  · by_cases b : n < -576460752303423488
    · go_enter Try.func138, Try.ntmps138
      go_wp2
      go_ret2
      exact ⟨ret2 (by unfold smallW smallOk; rw [if_neg (by simp; omega)]) (by unfold smallOk; simp; omega), rfl⟩
    · go_enter Try.func138, Try.ntmps138
      go_wp2
      go_ret2
      exact ⟨ret2 (by unfold smallW smallOk; rw [if_pos (by simp; omega)]; exact Hr.out) (by unfold smallOk; simp; omega), rfl⟩
  · go_enter Try.func138, Try.ntmps138
    go_wp2
    go_ret2
    exact ⟨ret2 (by unfold smallW smallOk; rw [if_neg (by simp; omega)]) (by unfold smallOk; simp; omega), rfl⟩

theorem small_ref (n : Int) : IntKind.u64.wrap (IntKind.u64.wrap (IntKind.u64.wrap n * 16) + 3) = 16 * (n % 1152921504606846976) + 3 := by
  rw [IntKind.wrap_u64, IntKind.wrap_u64, IntKind.wrap_u64]; omega

theorem RSmall (n : Int) (h0 : -9223372036854775808 ≤ n) (h1 : n ≤ 9223372036854775807) (w : World) :
    Calls Try.prog 120 #[.int .i64 n] w fun e w' => e = .returned (.tuple #[.int .u64 (smallW n), .bool (smallOk n)]) ∧ w = w' := by
  have hr := small_ref n
  have Hr := Lib.hid hr; clear hr
  by_cases b : n < -576460752303423488
  · go_enter Try.func120, Try.ntmps120
    go_wp2
    go_ret2
    exact ⟨ret2 (by unfold smallW smallOk; rw [if_neg (by simp; omega)]) (by unfold smallOk; simp; omega), rfl⟩
  · by_cases a : n ≤ 576460752303423487
    · go_enter Try.func120, Try.ntmps120
      go_wp2
      go_ret2
      exact ⟨ret2 (by unfold smallW smallOk; rw [if_pos (by simp; omega)]; exact Hr.out) (by unfold smallOk; simp; omega), rfl⟩
    · go_enter Try.func120, Try.ntmps120
      go_wp2
      go_ret2
      exact ⟨ret2 (by unfold smallW smallOk; rw [if_neg (by simp; omega)]) (by unfold smallOk; simp; omega), rfl⟩

/-- an index of an atom or of a pointer -/
theorem shl4 (i : Int) (h0 : 0 ≤ i) (h1 : i < 2147483648) : IntKind.u64.wrap (IntKind.u64.wrap i * 16) = 16 * i := by
  rw [IntKind.wrap_u64, IntKind.wrap_u64]; omega
theorem atom_raw (i : Int) (h0 : 0 ≤ i) (h1 : i < 2147483648) : bits .or .u64 (i * 16) 7 = 16 * i + 7 := by
  rw [show i * 16 = 16 * i by omega, or7 _ (by omega) (by omega)]

theorem ptr_raw (tag i : Int) (h0 : 0 ≤ i) (h1 : i < 2147483648) (t0 : 0 ≤ tag) (t1 : tag < 8) : bits .or .u64 tag (i * 8) = 8 * i + tag := by
  rw [or_comm, show i * 8 = 2 ^ 3 * i by omega, or_low 3 _ _ (by omega) (by omega) (by omega) (by omega)]; rfl
theorem tag_raw (tag : Int) (h : tag = 1 ∨ tag = 2) : bits .or .u64 tag 4 = tag + 4 := by
  rcases h with rfl | rfl <;> decide +kernel

theorem Ptr (tag : Int) (ht : tag = 1 ∨ tag = 2) (old : Bool) (i : Int) (w : World) :
    Calls Try.prog 117 #[.int .u64 tag, .bool old, .int .i64 i] w fun e w' => e = .returned (.tuple #[.int .u64 (ptrW tag old i), .bool (idxOk i)]) ∧ w = w' := by
  by_cases b : i < 0
  · go_enter Try.func117, Try.ntmps117
    go_wp2
    go_ret2
    exact ⟨ret2 (by unfold ptrW idxOk; rw [if_neg (by simp; omega)]) (by unfold idxOk; simp; omega), rfl⟩
  · by_cases a : i ≤ 2147483647
    · have Hr := Lib.hid (ptr_raw tag i (by omega) (by omega) (by omega) (by omega))
      have Hs := Lib.hid (ptr_raw (tag + 4) i (by omega) (by omega) (by omega) (by omega))
      have Ht := Lib.hid (tag_raw tag ht)
      cases old
      · go_enter Try.func117, Try.ntmps117
        go_wp2
        go_ret2
        exact ⟨ret2 (by unfold ptrW idxOk; rw [if_pos (by simp; omega), Hr.out]; simp) (by unfold idxOk; simp; omega), rfl⟩
      · go_enter Try.func117, Try.ntmps117
        go_wp2
        go_ret2
        exact ⟨ret2 (by unfold ptrW idxOk; rw [if_pos (by simp; omega), Ht.out, Hs.out]; simp; omega) (by unfold idxOk; simp; omega), rfl⟩
    · go_enter Try.func117, Try.ntmps117
      go_wp2
      go_ret2
      exact ⟨ret2 (by unfold ptrW idxOk; rw [if_neg (by simp; omega)]) (by unfold idxOk; simp; omega), rfl⟩

theorem RPtr (tag : Int) (h0 : 0 ≤ tag) (h1 : tag ≤ 3) (old : Bool) (i : Int) (w : World) :
    Calls Try.prog 118 #[.int .i64 tag, .bool old, .int .i64 i] w fun e w' => e = .returned (.tuple #[.int .u64 (ptrW tag old i), .bool (idxOk i)]) ∧ w = w' := by
  by_cases b : i < 0
  · go_enter Try.func118, Try.ntmps118
    go_wp2
    go_ret2
    exact ⟨ret2 (by unfold ptrW idxOk; rw [if_neg (by simp; omega)]) (by unfold idxOk; simp; omega), rfl⟩
  · by_cases a : i ≤ 2147483647
    · cases old
      all_goals
        go_enter Try.func118, Try.ntmps118
        go_wp2
        go_ret2
        exact ⟨ret2 (by unfold ptrW idxOk; rw [if_pos (by simp; omega)]; simp; omega) (by unfold idxOk; simp; omega), rfl⟩
    · go_enter Try.func118, Try.ntmps118
      go_wp2
      go_ret2
      exact ⟨ret2 (by unfold ptrW idxOk; rw [if_neg (by simp; omega)]) (by unfold idxOk; simp; omega), rfl⟩

theorem List (old : Bool) (i : Int) (w : World) :
    Calls Try.prog 88 #[.bool old, .int .i64 i] w fun e w' => e = .returned (.tuple #[.int .u64 (ptrW 1 old i), .bool (idxOk i)]) ∧ w = w' := by
  go_enter Try.func88, Try.ntmps88
  go_wp2_with (go_at_call 117; refine (Ptr 1 (.inl rfl) _ _ _).mono ?_; rintro e w' ⟨rfl, rfl⟩)
  go_ret2
  exact ⟨rfl, rfl⟩
theorem RList (old : Bool) (i : Int) (w : World) :
    Calls Try.prog 89 #[.bool old, .int .i64 i] w fun e w' => e = .returned (.tuple #[.int .u64 (ptrW 1 old i), .bool (idxOk i)]) ∧ w = w' := by
  go_enter Try.func89, Try.ntmps89
  go_wp2_with (go_at_call 118; refine (RPtr 1 (by decide) (by decide) _ _ _).mono ?_; rintro e w' ⟨rfl, rfl⟩)
  go_ret2
  exact ⟨rfl, rfl⟩
theorem Box (old : Bool) (i : Int) (w : World) :
    Calls Try.prog 87 #[.bool old, .int .i64 i] w fun e w' => e = .returned (.tuple #[.int .u64 (ptrW 2 old i), .bool (idxOk i)]) ∧ w = w' := by
  go_enter Try.func87, Try.ntmps87
  go_wp2_with (go_at_call 117; refine (Ptr 2 (.inr rfl) _ _ _).mono ?_; rintro e w' ⟨rfl, rfl⟩)
  go_ret2
  exact ⟨rfl, rfl⟩
theorem RBox (old : Bool) (i : Int) (w : World) :
    Calls Try.prog 91 #[.bool old, .int .i64 i] w fun e w' => e = .returned (.tuple #[.int .u64 (ptrW 2 old i), .bool (idxOk i)]) ∧ w = w' := by
  go_enter Try.func91, Try.ntmps91
  go_wp2_with (go_at_call 118; refine (RPtr 2 (by decide) (by decide) _ _ _).mono ?_; rintro e w' ⟨rfl, rfl⟩)
  go_ret2
  exact ⟨rfl, rfl⟩
theorem Nil (w : World) : Calls Try.prog 84 #[] w fun e w' => e = .returned (.int .u64 11) ∧ w = w' := by
  go_enter Try.func84, Try.ntmps84
  go_wp2
  go_ret
  exact ⟨rfl, rfl⟩
theorem RNil (w : World) : Calls Try.prog 63 #[] w fun e w' => e = .returned (.int .u64 11) ∧ w = w' := by
  go_enter Try.func63, Try.ntmps63
  go_wp2
  go_ret
  exact ⟨rfl, rfl⟩

theorem hd_raw (k n : Int) (h : hdOk k n = true) : bits .or .u64 (n * 16) k * 4 = 64 * n + 4 * k := by
  unfold hdOk at h
  have h := of_decide_eq_true h
  rw [show n * 16 = 2 ^ 4 * n by omega, or_low 4 _ _ (by omega) (by omega) (by omega) (by omega)]; omega

theorem hdOk_iff (k n : Int) : hdOk k n = true ↔ 1 ≤ k ∧ k ≤ 8 ∧ 0 ≤ n ∧ n ≤ 65535 := by simp [hdOk]

end Go.Proofs.Ytegffanlehaloaa.words
/- The contracts of the readers of package words and of its specification. Conditions: the word is one of 64 bits. -/
namespace Go.Proofs.Ytegffanlehaloaa.words
open Go.RowKit
set_option linter.unusedVariables false
set_option linter.unusedSimpArgs false
set_option maxHeartbeats 400000

theorem ret1 {k : IntKind} {a b : Int} (h : a = b) : Ending.returned (.int k a) = .returned (.int k b) := by rw [h]
theorem ret1b {a b : Bool} (h : a = b) : Ending.returned (.bool a) = .returned (.bool b) := by rw [h]
theorem ret3 {b1 b2 c1 c2 : Bool} {x1 x2 : Int} (h1 : b1 = b2) (h2 : x1 = x2) (h3 : c1 = c2) :
    Ending.returned (.tuple #[.bool b1, .int .i64 x1, .bool c1]) = .returned (.tuple #[.bool b2, .int .i64 x2, .bool c2]) := by rw [h1, h2, h3]
theorem ret3i {c1 c2 : Bool} {x1 x2 y1 y2 : Int} (h1 : y1 = y2) (h2 : x1 = x2) (h3 : c1 = c2) :
    Ending.returned (.tuple #[.int .i64 y1, .int .i64 x1, .bool c1]) = .returned (.tuple #[.int .i64 y2, .int .i64 x2, .bool c2]) := by rw [h1, h2, h3]

theorem ret2i {b1 b2 : Bool} {x1 x2 : Int} (h1 : x1 = x2) (h2 : b1 = b2) :
    Ending.returned (.tuple #[.int .i64 x1, .bool b1]) = .returned (.tuple #[.int .i64 x2, .bool b2]) := by rw [h1, h2]
section
variable (x : Int) (h0 : 0 ≤ x) (h1 : x ≤ 18446744073709551615) (w : World)
include h0 h1

theorem Tag : Calls Try.prog 54 #[.int .u64 x] w fun e w' => e = .returned (.int .i64 (x % 4)) ∧ w = w' := by
  have H3 := Lib.hid (and3 x h0 h1)
  go_enter Try.func54, Try.ntmps54
  go_wp2
  go_ret
  exact ⟨ret1 (by rw [H3.out]; first | done | (rw [IntKind.wrap_i64]; omega) | (unfold wrap64; omega)), rfl⟩
theorem RTag : Calls Try.prog 90 #[.int .u64 x] w fun e w' => e = .returned (.int .i64 (x % 4)) ∧ w = w' := by
  go_enter Try.func90, Try.ntmps90
  go_wp2
  go_ret
  exact ⟨rfl, rfl⟩
theorem Low : Calls Try.prog 116 #[.int .u64 x] w fun e w' => e = .returned (.int .i64 (x % 16)) ∧ w = w' := by
  have H3 := Lib.hid (and15 x h0 h1)
  go_enter Try.func116, Try.ntmps116
  go_wp2
  go_ret
  exact ⟨ret1 (by rw [H3.out]; first | done | (rw [IntKind.wrap_i64]; omega) | (unfold wrap64; omega)), rfl⟩

theorem SmallOf : Calls Try.prog 85 #[.int .u64 x] w fun e w' => e = .returned (.tuple #[.int .i64 (soN x), .bool (soOk x)]) ∧ w = w' := by
  by_cases a : x % 16 = 3
  · have A := Lib.hid a
    have bb : (x % 16 != 3) = false := by simp [a]
    clear a
    go_enter Try.func85, Try.ntmps85
    go_wp2_with (go_at_call 116; refine (Low _ (by omega) (by omega) _).mono ?_; rintro e w' ⟨rfl, rfl⟩)
    go_ret2
    have a := A.out
    refine ⟨ret2i ?_ (by simp [soOk, a]), rfl⟩
    unfold soN soOk wrap64
    rw [if_pos (by simp [a])]
    split <;> omega
  · have bb : (x % 16 != 3) = true := by simp [a]
    go_enter Try.func85, Try.ntmps85
    go_wp2_with (go_at_call 116; refine (Low _ (by omega) (by omega) _).mono ?_; rintro e w' ⟨rfl, rfl⟩)
    go_ret2
    exact ⟨ret2i (by simp [soN, soOk, a]) (by simp [soOk, a]), rfl⟩
theorem RSmallOf : Calls Try.prog 60 #[.int .u64 x] w fun e w' => e = .returned (.tuple #[.int .i64 (soN x), .bool (soOk x)]) ∧ w = w' := by
  by_cases a : x % 16 = 3
  · have A := Lib.hid a
    have bb : (x % 16 != 3) = false := by simp [a]
    clear a
    by_cases c : 576460752303423488 ≤ x / 16
    all_goals
      go_enter Try.func60, Try.ntmps60
      go_wp2
      go_ret2
      have a := A.out
      refine ⟨ret2i ?_ (by simp [soOk, a]), rfl⟩
      unfold soN soOk
      rw [if_pos (by simp [a])]
    · rw [if_pos c]; omega
    · rw [if_neg (by omega)]
  · have bb : (x % 16 != 3) = true := by simp [a]
    go_enter Try.func60, Try.ntmps60
    go_wp2
    go_ret2
    exact ⟨ret2i (by simp [soN, soOk, a]) (by simp [soOk, a]), rfl⟩
theorem AtomOf : Calls Try.prog 86 #[.int .u64 x] w fun e w' => e = .returned (.tuple #[.int .i64 (aoN x), .bool (aoOk x)]) ∧ w = w' := by
  by_cases a : x % 16 = 7
  · have A := Lib.hid a
    have bb : (x % 16 != 7) = false := by simp [a]
    clear a
    by_cases c : 2147483647 < x / 16
    all_goals
      go_enter Try.func86, Try.ntmps86
      go_wp2_with (go_at_call 116; refine (Low _ (by omega) (by omega) _).mono ?_; rintro e w' ⟨rfl, rfl⟩)
      go_ret2
      have a := A.out
    · exact ⟨ret2i (by unfold aoN aoOk; rw [if_neg (by simp; omega)]) (by unfold aoOk; simp; omega), rfl⟩
    · exact ⟨ret2i (by unfold aoN aoOk; rw [if_pos (by simp; omega)]) (by unfold aoOk; simp; omega), rfl⟩
  · have bb : (x % 16 != 7) = true := by simp [a]
    go_enter Try.func86, Try.ntmps86
    go_wp2_with (go_at_call 116; refine (Low _ (by omega) (by omega) _).mono ?_; rintro e w' ⟨rfl, rfl⟩)
    go_ret2
    exact ⟨ret2i (by simp [aoN, aoOk, a]) (by simp [aoOk, a]), rfl⟩
theorem RAtomOf : Calls Try.prog 61 #[.int .u64 x] w fun e w' => e = .returned (.tuple #[.int .i64 (aoN x), .bool (aoOk x)]) ∧ w = w' := by
  by_cases a : x % 16 = 7
  · have A := Lib.hid a
    have bb : (x % 16 != 7) = false := by simp [a]
    clear a
    by_cases c : 2147483648 ≤ x / 16
    all_goals
      go_enter Try.func61, Try.ntmps61
      go_wp2
      go_ret2
      have a := A.out
    · exact ⟨ret2i (by unfold aoN aoOk; rw [if_neg (by simp; omega)]) (by unfold aoOk; simp; omega), rfl⟩
    · exact ⟨ret2i (by unfold aoN aoOk; rw [if_pos (by simp; omega)]) (by unfold aoOk; simp; omega), rfl⟩
  · have bb : (x % 16 != 7) = true := by simp [a]
    go_enter Try.func61, Try.ntmps61
    go_wp2
    go_ret2
    exact ⟨ret2i (by simp [aoN, aoOk, a]) (by simp [aoOk, a]), rfl⟩

theorem Pointer : Calls Try.prog 42 #[.int .u64 x] w fun e w' => e = .returned (.tuple #[.bool (pOld x), .int .i64 (pIx x), .bool (pOk x)]) ∧ w = w' := by
  have H4 := Lib.hid (and4 x h0 h1)
  by_cases a : x % 4 = 1 ∨ x % 4 = 2
  · by_cases c : x / 8 ≤ 2147483647
    · have A := Lib.hid a
      have B : ((x % 4 != 1) = true ∧ (x % 4 != 2) = false) ∨ (x % 4 != 1) = false := by rcases a with a | a <;> simp [a]
      clear a
      rcases B with ⟨b1, b2⟩ | b1
      all_goals
        go_enter Try.func42, Try.ntmps42
        go_wp2_with (go_at_call 54; refine (Tag _ (by omega) (by omega) _).mono ?_; rintro e w' ⟨rfl, rfl⟩)
        go_ret3
        have a := A.out
        have hp : pOk x = true := by unfold pOk; simp; omega
        refine ⟨ret3 ?_ (by unfold pIx; rw [if_pos hp]) hp.symm, rfl⟩
        rw [H4.out]; unfold pOld; rw [hp]
        have : x / 4 % 2 = 0 ∨ x / 4 % 2 = 1 := by omega
        rcases this with h | h <;> simp [h]
    · have A := Lib.hid a
      have B : ((x % 4 != 1) = true ∧ (x % 4 != 2) = false) ∨ (x % 4 != 1) = false := by rcases a with a | a <;> simp [a]
      clear a
      rcases B with ⟨b1, b2⟩ | b1
      all_goals
        go_enter Try.func42, Try.ntmps42
        go_wp2_with (go_at_call 54; refine (Tag _ (by omega) (by omega) _).mono ?_; rintro e w' ⟨rfl, rfl⟩)
        go_ret3
        have hp : pOk x = false := by unfold pOk; simp; omega
        exact ⟨ret3 (by unfold pOld; rw [hp]; rfl) (by unfold pIx; rw [hp]; rfl) hp.symm, rfl⟩
  · have b1 : (x % 4 != 1) = true := by simp; omega
    have b2 : (x % 4 != 2) = true := by simp; omega
    have A := Lib.hid a
    clear a
    go_enter Try.func42, Try.ntmps42
    go_wp2_with (go_at_call 54; refine (Tag _ (by omega) (by omega) _).mono ?_; rintro e w' ⟨rfl, rfl⟩)
    go_ret3
    have a := A.out
    have hp : pOk x = false := by unfold pOk; simp; omega
    exact ⟨ret3 (by unfold pOld; rw [hp]; rfl) (by unfold pIx; rw [hp]; rfl) hp.symm, rfl⟩
theorem RPointer : Calls Try.prog 81 #[.int .u64 x] w fun e w' => e = .returned (.tuple #[.bool (pOld x), .int .i64 (pIx x), .bool (pOk x)]) ∧ w = w' := by
  by_cases a : x % 4 = 1 ∨ x % 4 = 2
  · by_cases c : x / 8 < 2147483648
    · have A := Lib.hid a
      have B : ((x % 4 != 1) = true ∧ (x % 4 != 2) = false) ∨ (x % 4 != 1) = false := by rcases a with a | a <;> simp [a]
      clear a
      rcases B with ⟨b1, b2⟩ | b1
      all_goals
        go_enter Try.func81, Try.ntmps81
        go_wp2
        go_ret3
        have a := A.out
        have hp : pOk x = true := by unfold pOk; simp; omega
        refine ⟨ret3 ?_ (by unfold pIx; rw [if_pos hp]) hp.symm, rfl⟩
        unfold pOld; rw [hp]
        have : x / 4 % 2 = 0 ∨ x / 4 % 2 = 1 := by omega
        rcases this with h | h <;> simp [h]
    · have A := Lib.hid a
      have B : ((x % 4 != 1) = true ∧ (x % 4 != 2) = false) ∨ (x % 4 != 1) = false := by rcases a with a | a <;> simp [a]
      clear a
      rcases B with ⟨b1, b2⟩ | b1
      all_goals
        go_enter Try.func81, Try.ntmps81
        go_wp2
        go_ret3
        have hp : pOk x = false := by unfold pOk; simp; omega
        exact ⟨ret3 (by unfold pOld; rw [hp]; rfl) (by unfold pIx; rw [hp]; rfl) hp.symm, rfl⟩
  · have b1 : (x % 4 != 1) = true := by simp; omega
    have b2 : (x % 4 != 2) = true := by simp; omega
    have A := Lib.hid a
    clear a
    go_enter Try.func81, Try.ntmps81
    go_wp2
    go_ret3
    have a := A.out
    have hp : pOk x = false := by unfold pOk; simp; omega
    exact ⟨ret3 (by unfold pOld; rw [hp]; rfl) (by unfold pIx; rw [hp]; rfl) hp.symm, rfl⟩

theorem HeaderOf : Calls Try.prog 76 #[.int .u64 x] w fun e w' => e = .returned (.tuple #[.int .i64 (hoK x), .int .i64 (hoN x), .bool (hoOk x)]) ∧ w = w' := by
  have H4 : bits .and .u64 (x / 4) 15 = x / 4 % 16 := and15 (x / 4) (by omega) (by omega)
  have G : ∀ b : Bool, (decide (x % 4 = 0) = b) → hoOk x = (b && decide (1 ≤ x / 4 % 16) && decide (x / 4 % 16 ≤ 8) && decide (x / 64 ≤ 65535)) := by
    intro b hb; rw [← hb]; unfold hoOk; rw [Bool.eq_iff_iff]; simp [and_assoc]
  have HG := Lib.hid G; clear G
  have hb1 : 0 ≤ x / 4 % 16 := by omega
  have hb2 : x / 4 % 16 < 16 := by omega
  have fin : ∀ a b c, hoOk x = false → Ending.returned (.tuple #[.int .i64 0, .int .i64 0, .bool false]) = .returned (.tuple #[.int .i64 (hoK x), .int .i64 (hoN x), .bool (hoOk x)]) ∧ (a : Nat) = a ∧ (b : Nat) = b ∧ (c : Nat) = c := by
    intro a b c h; exact ⟨ret3i (by unfold hoK; rw [h]; rfl) (by unfold hoN; rw [h]; rfl) h.symm, rfl, rfl, rfl⟩
  have HF := Lib.hid fin; clear fin
  by_cases a : x % 4 = 0
  · have A := Lib.hid a
    have bb : (x % 4 != 0) = false := by simp [a]
    clear a
    by_cases b : x / 4 % 16 < 1
    · go_enter Try.func76, Try.ntmps76
      go_wp2_with (go_at_call 54; refine (Tag _ (by omega) (by omega) _).mono ?_; rintro e w' ⟨rfl, rfl⟩)
      go_ret3
      exact ⟨(HF.out 0 0 0 (by unfold hoOk; simp; omega)).1, rfl⟩
    by_cases c : 8 < x / 4 % 16
    · go_enter Try.func76, Try.ntmps76
      go_wp2_with (go_at_call 54; refine (Tag _ (by omega) (by omega) _).mono ?_; rintro e w' ⟨rfl, rfl⟩)
      go_ret3
      exact ⟨(HF.out 0 0 0 (by unfold hoOk; simp; omega)).1, rfl⟩
    by_cases d : 65535 < x / 64
    · go_enter Try.func76, Try.ntmps76
      go_wp2_with (go_at_call 54; refine (Tag _ (by omega) (by omega) _).mono ?_; rintro e w' ⟨rfl, rfl⟩)
      go_ret3
      exact ⟨(HF.out 0 0 0 (by unfold hoOk; simp; omega)).1, rfl⟩
    go_enter Try.func76, Try.ntmps76
    go_wp2_with (go_at_call 54; refine (Tag _ (by omega) (by omega) _).mono ?_; rintro e w' ⟨rfl, rfl⟩)
    go_ret3
    have a := A.out
    have hp : hoOk x = true := by unfold hoOk; simp; omega
    exact ⟨ret3i (by unfold hoK; rw [if_pos hp]) (by unfold hoN; rw [if_pos hp]) hp.symm, rfl⟩
  · have bb : (x % 4 != 0) = true := by simp [a]
    go_enter Try.func76, Try.ntmps76
    go_wp2_with (go_at_call 54; refine (Tag _ (by omega) (by omega) _).mono ?_; rintro e w' ⟨rfl, rfl⟩)
    go_ret3
    exact ⟨(HF.out 0 0 0 (by unfold hoOk; simp; omega)).1, rfl⟩
theorem RHeaderOf : Calls Try.prog 93 #[.int .u64 x] w fun e w' => e = .returned (.tuple #[.int .i64 (hoK x), .int .i64 (hoN x), .bool (hoOk x)]) ∧ w = w' := by
  have hb1 : 0 ≤ x / 4 % 16 := by omega
  have hb2 : x / 4 % 16 < 16 := by omega
  have fin : ∀ a b c, hoOk x = false → Ending.returned (.tuple #[.int .i64 0, .int .i64 0, .bool false]) = .returned (.tuple #[.int .i64 (hoK x), .int .i64 (hoN x), .bool (hoOk x)]) ∧ (a : Nat) = a ∧ (b : Nat) = b ∧ (c : Nat) = c := by
    intro a b c h; exact ⟨ret3i (by unfold hoK; rw [h]; rfl) (by unfold hoN; rw [h]; rfl) h.symm, rfl, rfl, rfl⟩
  have HF := Lib.hid fin; clear fin
  by_cases a : x % 4 = 0
  · have A := Lib.hid a
    have bb : (x % 4 != 0) = false := by simp [a]
    clear a
    by_cases b : x / 4 % 16 < 1
    · go_enter Try.func93, Try.ntmps93
      go_wp2
      go_ret3
      exact ⟨(HF.out 0 0 0 (by unfold hoOk; simp; omega)).1, rfl⟩
    by_cases c : 8 < x / 4 % 16
    · go_enter Try.func93, Try.ntmps93
      go_wp2
      go_ret3
      exact ⟨(HF.out 0 0 0 (by unfold hoOk; simp; omega)).1, rfl⟩
    by_cases d : 65535 < x / 64
    · go_enter Try.func93, Try.ntmps93
      go_wp2
      go_ret3
      exact ⟨(HF.out 0 0 0 (by unfold hoOk; simp; omega)).1, rfl⟩
    go_enter Try.func93, Try.ntmps93
    go_wp2
    go_ret3
    have a := A.out
    have hp : hoOk x = true := by unfold hoOk; simp; omega
    exact ⟨ret3i (by unfold hoK; rw [if_pos hp]) (by unfold hoN; rw [if_pos hp]) hp.symm, rfl⟩
  · have bb : (x % 4 != 0) = true := by simp [a]
    go_enter Try.func93, Try.ntmps93
    go_wp2
    go_ret3
    exact ⟨(HF.out 0 0 0 (by unfold hoOk; simp; omega)).1, rfl⟩
end
end Go.Proofs.Ytegffanlehaloaa.words
/- Valid, and the walks of the laws about words: each returns true. Conditions: each number fits its kind. -/
namespace Go.Proofs.Ytegffanlehaloaa.words
open Go.RowKit
set_option linter.unusedVariables false
set_option linter.unusedSimpArgs false
set_option maxHeartbeats 400000

section
variable (x : Int) (h0 : 0 ≤ x) (h1 : x ≤ 18446744073709551615) (w : World)
include h0 h1
theorem Valid : Calls Try.prog 55 #[.int .u64 x] w fun e w' => e = .returned (.bool (vOk x)) ∧ w = w' := by
  have HV : Hid (vOk x = (soOk x || aoOk x || pOk x || hoOk x || decide (x = 11))) := Lib.hid rfl
  by_cases a : x = 11
  all_goals cases a1 : soOk x
  all_goals cases a2 : aoOk x
  all_goals cases a3 : pOk x
  all_goals cases a4 : hoOk x
  all_goals
    go_enter Try.func55, Try.ntmps55
    go_wp2_with (first
      | (go_at_call 84; refine (Nil _).mono ?_; rintro e w' ⟨rfl, rfl⟩)
      | (go_at_call 85; refine (SmallOf _ (by omega) (by omega) _).mono ?_; rintro e w' ⟨rfl, rfl⟩)
      | (go_at_call 86; refine (AtomOf _ (by omega) (by omega) _).mono ?_; rintro e w' ⟨rfl, rfl⟩)
      | (go_at_call 42; refine (Pointer _ (by omega) (by omega) _).mono ?_; rintro e w' ⟨rfl, rfl⟩)
      | (go_at_call 76; refine (HeaderOf _ (by omega) (by omega) _).mono ?_; rintro e w' ⟨rfl, rfl⟩))
    go_ret
    refine ⟨ret1b ?_, rfl⟩
    rw [HV.out]
    simp_all
end
end Go.Proofs.Ytegffanlehaloaa.words
/- Memory that a call owns: what a step touches (TouchB), and maps as lists of entries (MapIs), over any program. No condition. -/
namespace Go.Proofs.Ytegffanlehaloaa.mem
open Go.RowKit
set_option linter.unusedVariables false
set_option linter.unusedSimpArgs false
set_option linter.unusedSectionVars false

/-- what lay in memory is as it was, but for the blocks of S -/
structure TouchB (S : Nat → Prop) (w w' : World) : Prop where
  os : w'.os = w.os
  tape : w'.tape = w.tape
  output : w'.output = w.output
  size : w.heap.size ≤ w'.heap.size
  block : ∀ k, k < w.heap.size → ¬ S k → w'.heap[k]? = w.heap[k]?

theorem TouchB.refl (S : Nat → Prop) (w : World) : TouchB S w w := ⟨rfl, rfl, rfl, Nat.le_refl _, fun _ _ _ => rfl⟩
theorem TouchB.trans {S : Nat → Prop} {a b c : World} (h : TouchB S a b) {S' : Nat → Prop} (k : TouchB S' b c) (hs : ∀ i, i < a.heap.size → S' i → S i) : TouchB S a c :=
  ⟨k.os.trans h.os, k.tape.trans h.tape, k.output.trans h.output, Nat.le_trans h.size k.size, fun i hi hn => (k.block i (Nat.lt_of_lt_of_le hi h.size) (fun e => hn (hs i hi e))).trans (h.block i hi hn)⟩
theorem TouchB.mono {S S' : Nat → Prop} {a b : World} (h : TouchB S a b) (hs : ∀ i, i < a.heap.size → S i → S' i) : TouchB S' a b :=
  ⟨h.os, h.tape, h.output, h.size, fun i hi hn => h.block i hi (fun e => hn (hs i hi e))⟩
theorem TouchB.alloc {S : Nat → Prop} {a b : World} (h : TouchB S a b) (o : Obj) : TouchB S a (b.alloc o) :=
  h.trans (S' := fun _ => False) ⟨rfl, rfl, rfl, by simp, fun k hk _ => Below.heap_alloc _ _ _ hk⟩ (fun _ _ f => f.elim)
theorem TouchB.drew {S : Nat → Prop} {a b : World} (h : TouchB S a b) : TouchB S a b.drew := ⟨h.os, h.tape, h.output, h.size, h.block⟩
theorem TouchB.drewN {S : Nat → Prop} {a b : World} (h : TouchB S a b) (n : Nat) : TouchB S a (b.drewN n) := ⟨h.os, h.tape, h.output, h.size, h.block⟩
theorem TouchB.setCell {S : Nat → Prop} {a b : World} (h : TouchB S a b) (p : Addr) (u : Value) (hp : p.block < a.heap.size → S p.block) : TouchB S a (b.setCell p u) :=
  h.trans (S' := fun k => k = p.block) ⟨rfl, rfl, rfl, by simp, fun k _ hn => Below.heap_setCell _ _ _ _ hn⟩ (fun i hi e => by subst e; exact hp hi)
theorem TouchB.grown {S : Nat → Prop} {a b c : World} (h : TouchB S a b) {row : Option Nat} (hg : b.grownBy c row) (hr : ∀ k, row = some k → k < a.heap.size → S k) : TouchB S a c :=
  h.trans (S' := fun k => row = some k) ⟨hg.os, hg.tape, hg.output, hg.size, fun k hk hn => hg.block k hk (fun e => hn e.symm)⟩ (fun i hi e => hr i e hi)
theorem TouchB.below {S : Nat → Prop} {a b : World} (h : TouchB S a b) {B : Nat} (hS : ∀ k, S k → B ≤ k) (hB : B ≤ a.heap.size) : Below B a b :=
  ⟨h.os, h.tape, h.output, h.size, fun k hk => h.block k (by omega) (fun e => by have := hS k e; omega)⟩
theorem TouchB.ofBelow {S : Nat → Prop} {a b c : World} (h : TouchB S a b) {B : Nat} (hb : Below B b c) (hB : a.heap.size ≤ B) : TouchB S a c :=
  h.trans (S' := fun k => B ≤ k) ⟨hb.os, hb.tape, hb.output, hb.size, fun k hk hn => hb.block k (by omega)⟩ (fun i hi e => absurd hi (by omega))
theorem TouchB.cell {S : Nat → Prop} {a b : World} (h : TouchB S a b) {p : Addr} (hp : p.block < a.heap.size) (hn : ¬ S p.block) : b.cell? p = a.cell? p :=
  World.cell?_of_block (w := a) (h.block p.block hp hn)
theorem TouchB.frozen {S : Nat → Prop} {a b : World} (h : TouchB S a b) {p : Addr} (hp : p.block < a.heap.size) (hn : ¬ S p.block) : b.frozen? p = a.frozen? p :=
  World.frozen?_of_block (w := a) (h.block p.block hp hn)

/-- a row that the call owns, in a world that has not touched it -/
theorem row_same {w w' : World} {base : Nat} {e : TypeId} {size : Nat} {v : Value} {n : Nat} {xs : List Value} (h : w.ownsRow base e size v n xs) (hk : ∀ k, v.ownBlock = some k → w'.heap[k]? = w.heap[k]?) :
    w'.ownsRow base e size v n xs := by
  obtain ⟨hl, h | ⟨g, cap, cur, rfl, hb, hh, r⟩⟩ := h
  · exact ⟨hl, .inl h⟩
  · exact ⟨hl, .inr ⟨g, cap, cur, rfl, hb, by rw [hk g rfl]; exact hh, r⟩⟩
theorem row_base {w : World} {base base' : Nat} {e : TypeId} {size : Nat} {v : Value} {n : Nat} {xs : List Value} (h : w.ownsRow base e size v n xs) (hb : ∀ k, v.ownBlock = some k → base' ≤ k) :
    w.ownsRow base' e size v n xs := by
  obtain ⟨hl, h | ⟨g, cap, cur, rfl, hb', r⟩⟩ := h
  · exact ⟨hl, .inl h⟩
  · exact ⟨hl, .inr ⟨g, cap, cur, rfl, hb g rfl, r⟩⟩

/-! ### maps -/
section
variable {κ : Type} [DecidableEq κ]

/-- block m is a map whose entries are kvs, in this order -/
def MapIs (toV : κ → Value) (w : World) (m : Nat) (kvs : List (κ × Value)) : Prop :=
  ∃ es clock, w.heap[m]? = some (.map es clock) ∧ es.toList.map (fun e => (e.key, e.val)) = kvs.map (fun p => (toV p.1, p.2))

theorem MapIs.lt {toV : κ → Value} {w : World} {m : Nat} {kvs : List (κ × Value)} (h : MapIs toV w m kvs) : m < w.heap.size := by
  obtain ⟨es, clock, hh, _⟩ := h
  exact (Array.getElem?_eq_some_iff.1 hh).1
theorem MapIs.same {toV : κ → Value} {w w' : World} {m : Nat} {kvs : List (κ × Value)} (h : MapIs toV w m kvs) (hs : w'.heap[m]? = w.heap[m]?) : MapIs toV w' m kvs := by
  obtain ⟨es, clock, hh, r⟩ := h
  exact ⟨es, clock, hs.trans hh, r⟩
theorem MapIs.made (toV : κ → Value) (w : World) : MapIs toV (w.alloc (.map #[] 0)) w.heap.size [] :=
  ⟨#[], 0, (MapKept.heap_alloc w _).1, rfl⟩

/-- a key's type, and how its values are told apart -/
structure KeyKind (P : Program) (kt : TypeId) (toV : κ → Value) : Prop where
  kind : ∃ d, P.underlying kt = some d ∧ (d = .string ∨ (∃ k, d = .int k) ∨ d = .bool) ∧ ∀ a b, Instr.sameNow d (toV a) (toV b) = some (decide (a = b))
  bits : ∀ a, Instr.sameBits 10000 (toV a) (toV a) = true

theorem findNow_eq {d : TypeDesc} {toV : κ → Value} (hd : ∀ a b, Instr.sameNow d (toV a) (toV b) = some (decide (a = b))) (k : κ) :
    ∀ (es : List MapEntry) (kvs : List (κ × Value)) (i : Nat), es.map (fun e => (e.key, e.val)) = kvs.map (fun p => (toV p.1, p.2)) →
    Instr.findNow d (toV k) es i = some ((kvs.findIdx? (fun p => decide (k = p.1))).map (fun j => (i + j, ((kvs[j]?).map (·.2)).getD undef))) := by
  intro es
  induction es with
  | nil =>
    intro kvs i h
    cases kvs with
    | nil => rfl
    | cons _ _ => simp at h
  | cons e es ih =>
    intro kvs i h
    cases kvs with
    | nil => simp at h
    | cons p kvs =>
      simp only [List.map_cons, List.cons.injEq, Prod.mk.injEq] at h
      obtain ⟨⟨h1, h2⟩, h3⟩ := h
      simp only [Instr.findNow, h1, hd]
      by_cases hk : k = p.1
      · simp [hk, List.findIdx?_cons, h2]
      · simp only [hk, decide_false]
        rw [ih kvs (i + 1) h3, List.findIdx?_cons]
        simp [hk]
        cases List.findIdx? (fun p => decide (k = p.1)) kvs <;> simp; omega

def alFind (kvs : List (κ × Value)) (k : κ) : Option Value := (kvs.find? (fun p => decide (k = p.1))).map (·.2)
def alIdx (kvs : List (κ × Value)) (k : κ) : Option Nat := kvs.findIdx? (fun p => decide (k = p.1))
def alPut (kvs : List (κ × Value)) (k : κ) (v : Value) : List (κ × Value) :=
  match alIdx kvs k with
  | some i => kvs.modify i (fun p => (p.1, v))
  | none => kvs ++ [(k, v)]
def alDel (kvs : List (κ × Value)) (k : κ) : List (κ × Value) :=
  match alIdx kvs k with
  | some i => kvs.eraseIdx i
  | none => kvs

theorem alFind_idx (kvs : List (κ × Value)) (k : κ) : (alIdx kvs k).map (fun j => ((kvs[j]?).map (·.2)).getD undef) = alFind kvs k := by
  unfold alIdx alFind
  induction kvs with
  | nil => rfl
  | cons p kvs ih =>
    rw [List.findIdx?_cons, List.find?_cons]
    by_cases hk : k = p.1
    · simp [hk]
    · simp only [hk, decide_false, Bool.false_eq_true, if_false]
      rw [← ih]
      cases List.findIdx? (fun p => decide (k = p.1)) kvs <;> simp

theorem run_checkKey {P : Program} {kt : TypeId} {d : TypeDesc} (h : P.underlying kt = some d) (hd : d = .string ∨ (∃ k, d = .int k) ∨ d = .bool) (b : Bool) (v : Value) (w : World) :
    (Instr.checkKey b 10000 kt v).run P w = .ok () w := by
  have g : ∀ n, (Instr.checkKey b (n + 1) kt v).run P w = .ok () w := by
    intro n
    rcases hd with rfl | ⟨k, rfl⟩ | rfl
    all_goals simp [Instr.checkKey, run_underlying h]
  exact g 9999

theorem run_findKey {P : Program} {kt : TypeId} {toV : κ → Value} (K : KeyKind P kt toV) (k : κ) (es : List MapEntry) (kvs : List (κ × Value)) (h : es.map (fun e => (e.key, e.val)) = kvs.map (fun p => (toV p.1, p.2))) (w : World) :
    (Instr.findKey kt (toV k) es).run P w = .ok ((alIdx kvs k).map (fun j => (j, ((kvs[j]?).map (·.2)).getD undef))) w := by
  obtain ⟨d, hd, hdd, hs⟩ := K.kind
  simp [Instr.findKey, run_underlying hd, findNow_eq hs k es kvs 0 h, alIdx]

theorem run_lookup_ok {P : Program} {t kt et : TypeId} {toV : κ → Value} (K : KeyKind P kt toV) (ht : P.underlying t = some (.map kt et)) {w : World} {m : Nat} {kvs : List (κ × Value)} (hm : MapIs toV w m kvs) (k : κ)
    {z : Value} (hz : (zeroValue et).run P w = .ok z w) :
    (Instr.lookup t (.map (some m)) (toV k) true).run P w = .ok (.tuple #[(alFind kvs k).getD z, .bool (alFind kvs k).isSome]) w := by
  obtain ⟨es, clock, hh, he⟩ := hm
  obtain ⟨d, hd, hdd, hs⟩ := K.kind
  have hf := run_findKey K k es.toList kvs he w
  have hc := run_checkKey hd hdd es.isEmpty (toV k) w
  have hi := alFind_idx kvs k
  simp [Instr.lookup, run_underlying ht, getObj, Sem.run, hh, hc, hf, Result.andThen]
  cases hx : alIdx kvs k with
  | none => rw [hx] at hi; simp [← hi, hz, Result.andThen]
  | some j => rw [hx] at hi; simp [← hi]
theorem run_lookup {P : Program} {t kt et : TypeId} {toV : κ → Value} (K : KeyKind P kt toV) (ht : P.underlying t = some (.map kt et)) {w : World} {m : Nat} {kvs : List (κ × Value)} (hm : MapIs toV w m kvs) (k : κ)
    {z : Value} (hz : (zeroValue et).run P w = .ok z w) :
    (Instr.lookup t (.map (some m)) (toV k) false).run P w = .ok ((alFind kvs k).getD z) w := by
  obtain ⟨es, clock, hh, he⟩ := hm
  obtain ⟨d, hd, hdd, hs⟩ := K.kind
  have hf := run_findKey K k es.toList kvs he w
  have hc := run_checkKey hd hdd es.isEmpty (toV k) w
  have hi := alFind_idx kvs k
  simp [Instr.lookup, run_underlying ht, getObj, Sem.run, hh, hc, hf, Result.andThen]
  cases hx : alIdx kvs k with
  | none => rw [hx] at hi; simp [← hi, hz, Result.andThen]
  | some j => rw [hx] at hi; simp [← hi]

theorem alIdx_lt {kvs : List (κ × Value)} {k : κ} {j : Nat} (h : alIdx kvs k = some j) : ∃ v, kvs[j]? = some (k, v) := by
  unfold alIdx at h
  rw [List.findIdx?_eq_some_iff_getElem] at h
  obtain ⟨hl, hk, _⟩ := h
  refine ⟨kvs[j].2, ?_⟩
  rw [List.getElem?_eq_getElem hl]
  have := of_decide_eq_true hk
  rw [this]

theorem map_modify_entries (toV : κ → Value) (es : List MapEntry) (kvs : List (κ × Value)) (h : es.map (fun e => (e.key, e.val)) = kvs.map (fun p => (toV p.1, p.2))) (j : Nat) (k : κ) (v v0 : Value) (hj : kvs[j]? = some (k, v0)) :
    (es.modify j (fun e => { e with key := toV k, val := v })).map (fun e => (e.key, e.val)) = (kvs.modify j (fun p => (p.1, v))).map (fun p => (toV p.1, p.2)) := by
  induction kvs generalizing es j with
  | nil => simp at hj
  | cons p kvs ih =>
    cases es with
    | nil => simp at h
    | cons e es =>
      simp only [List.map_cons, List.cons.injEq] at h
      cases j with
      | zero =>
        simp only [List.getElem?_cons_zero, Option.some.injEq] at hj
        subst hj
        simp [List.modify_zero_cons, h.2]
      | succ j =>
        simp only [List.getElem?_cons_succ] at hj
        simp only [List.modify_succ_cons, List.map_cons, h.1, ih es h.2 j hj]

theorem set_touch (w : World) (m : Nat) (o : Obj) : TouchB (fun k => k = m) w { w with heap := w.heap.setIfInBounds m o } :=
  ⟨rfl, rfl, rfl, by simp, fun k hk hn => by
    show (w.heap.setIfInBounds m o)[k]? = _
    rw [Array.getElem?_setIfInBounds_ne (fun e => hn e.symm)]⟩
theorem set_heap (w : World) (m : Nat) (o : Obj) (h : m < w.heap.size) : ({ w with heap := w.heap.setIfInBounds m o } : World).heap[m]? = some o := by
  show (w.heap.setIfInBounds m o)[m]? = _
  rw [Array.getElem?_setIfInBounds_self_of_lt h]

theorem run_mapUpdate {P : Program} {t kt et : TypeId} {toV : κ → Value} (K : KeyKind P kt toV) (ht : P.underlying t = some (.map kt et)) {w : World} {m : Nat} {kvs : List (κ × Value)} (hm : MapIs toV w m kvs) (k : κ) (v : Value) :
    ∃ w', (Instr.mapUpdate t (.map (some m)) (toV k) v).run P w = .ok () w' ∧ MapIs toV w' m (alPut kvs k v) ∧ TouchB (fun i => i = m) w w' ∧ w'.heap.size = w.heap.size := by
  have hlt := hm.lt
  obtain ⟨es, clock, hh, he⟩ := hm
  obtain ⟨d, hd, hdd, hs⟩ := K.kind
  have hf := run_findKey K k es.toList kvs he w
  have hc := run_checkKey hd hdd false (toV k) w
  cases hx : alIdx kvs k with
  | none =>
    rw [hx] at hf
    refine ⟨{ w with heap := w.heap.setIfInBounds m (.map (es.push { key := toV k, val := v, born := clock }) (clock + 1)) }, ?_, ?_, set_touch w m _, by simp⟩
    · simp [Instr.mapUpdate, run_underlying ht, getObj, setObj, Sem.run, hh, hc, hf, Result.andThen]
    · refine ⟨_, _, set_heap w m _ hlt, ?_⟩
      simp [alPut, hx, he]
  | some j =>
    rw [hx] at hf
    obtain ⟨v0, hj⟩ := alIdx_lt hx
    have hek : es[j]?.map (fun e => (e.key, e.val)) = some (toV k, v0) := by
      have h1 := congrArg (fun l => l[j]?) he
      simp only [List.getElem?_map, Array.getElem?_toList, hj, Option.map_some] at h1
      exact h1
    have hek' : (es[j]?).map (·.key) = some (toV k) := by
      cases hh : es[j]? with
      | none => rw [hh] at hek; simp at hek
      | some e => rw [hh] at hek; simp only [Option.map_some, Option.some.injEq, Prod.mk.injEq] at hek; simp [hek.1]
    have hst : (Instr.keyThatStays (toV k) (toV k)).run P w = .ok (toV k) w := by
      unfold Instr.keyThatStays; rw [if_pos (K.bits k)]; rfl
    refine ⟨{ w with heap := w.heap.setIfInBounds m (.map (es.modify j fun e => { e with key := toV k, val := v }) clock) }, ?_, ?_, set_touch w m _, by simp⟩
    · simp [Instr.mapUpdate, run_underlying ht, getObj, setObj, Sem.run, hh, hc, hf, Result.andThen, hek', hst]
    · refine ⟨_, _, set_heap w m _ hlt, ?_⟩
      simp only [alPut, hx, Array.toList_modify]
      exact map_modify_entries toV es.toList kvs he j k v v0 hj

theorem map_eraseIdx' {α β : Type} (f : α → β) (l : List α) (j : Nat) : (l.eraseIdx j).map f = (l.map f).eraseIdx j := by
  induction l generalizing j with
  | nil => rfl
  | cons a l ih => cases j <;> simp [ih]

theorem run_delete {P : Program} {t kt et ty : TypeId} {toV : κ → Value} {at1 : TypeId} (K : KeyKind P kt toV) (ht : P.underlying t = some (.map kt et)) {w : World} {m : Nat} {kvs : List (κ × Value)} (hm : MapIs toV w m kvs) (k : κ) :
    ∃ w', (Builtin.delete_ #[t, at1] ty #[.map (some m), toV k]).run P w = .ok (.tuple #[]) w' ∧ MapIs toV w' m (alDel kvs k) ∧ TouchB (fun i => i = m) w w' ∧ w'.heap.size = w.heap.size := by
  have hlt := hm.lt
  obtain ⟨es, clock, hh, he⟩ := hm
  obtain ⟨d, hd, hdd, hs⟩ := K.kind
  have hf := run_findKey K k es.toList kvs he w
  have hc := run_checkKey hd hdd es.isEmpty (toV k) w
  cases hx : alIdx kvs k with
  | none =>
    rw [hx] at hf
    refine ⟨{ w with heap := w.heap.setIfInBounds m (.map es clock) }, ?_, ?_, set_touch w m _, by simp⟩
    · simp [Builtin.delete_, run_underlying ht, getObj, setObj, Sem.run, hh, hc, hf, Result.andThen]
    · refine ⟨_, _, set_heap w m _ hlt, ?_⟩
      simp [alDel, hx, he]
  | some j =>
    rw [hx] at hf
    refine ⟨{ w with heap := w.heap.setIfInBounds m (.map (es.eraseIdxIfInBounds j) clock) }, ?_, ?_, set_touch w m _, by simp⟩
    · simp [Builtin.delete_, run_underlying ht, getObj, setObj, Sem.run, hh, hc, hf, Result.andThen]
    · refine ⟨_, _, set_heap w m _ hlt, ?_⟩
      have e1 : (es.eraseIdxIfInBounds j).toList = es.toList.eraseIdx j := by
        unfold Array.eraseIdxIfInBounds
        split
        · simp
        · rename_i hn; rw [List.eraseIdx_of_length_le]; simpa using Nat.le_of_not_lt hn
      simp only [alDel, hx, e1, map_eraseIdx', he]

/-- at the operation, for the walk -/
theorem wpList_mapUpdate_al {P : Program} (w : World) {ops : Array Oper} {rest : List Oper} {o : Oper} {a : Act} {Q : Exit → Act → World → Prop}
    (hg : o.guard = none) (mo xo vo : Operand) (t : TypeId) (hop : o.op = Op.mapUpdate t mo xo vo)
    {kt et : TypeId} {toV : κ → Value} (K : KeyKind P kt toV) (ht : P.underlying t = some (.map kt et)) (m : Nat) (kvs : List (κ × Value)) (hm : MapIs toV w m kvs) (k : κ) (v : Value)
    (hmo : a.eval mo = .map (some m)) (hx : a.eval xo = toV k) (hv : a.eval vo = v)
    (hK : ∀ w', MapIs toV w' m (alPut kvs k v) → TouchB (fun i => i = m) w w' → w'.heap.size = w.heap.size → wpList P ops Q rest (a.put o.dst undef) w') :
    wpList P ops Q (o :: rest) a w := by
  refine wpList_plain hg fun K' hK' => ?_
  obtain ⟨w', hrun, r1, r2, r3⟩ := run_mapUpdate K ht hm k v
  unfold Oper.wp
  simp [execOp, hop, hmo, hx, hv, hrun, Result.andThen]
  exact hK' _ _ (hK w' r1 r2 r3)

theorem bytes_beq (a b : ByteArray) : (a == b) = true ↔ a = b := by
  obtain ⟨a⟩ := a
  obtain ⟨b⟩ := b
  show (a == b) = true ↔ _
  simp
theorem string_key {P : Program} {kt : TypeId} (h : P.underlying kt = some .string) : KeyKind P kt Value.string where
  kind := ⟨.string, h, .inl rfl, fun a b => by simp only [Instr.sameNow]; congr 1; rw [Bool.eq_iff_iff, bytes_beq]; simp⟩
  bits := fun a => by simp only [Instr.sameBits]; exact (bytes_beq a a).2 rfl
theorem int_key {P : Program} {kt : TypeId} {q : IntKind} (h : P.underlying kt = some (.int q)) : KeyKind P kt (Value.int q) where
  kind := ⟨.int q, h, .inr (.inl ⟨q, rfl⟩), fun a b => by simp only [Instr.sameNow, if_true]; rfl⟩
  bits := fun a => by simp [Instr.sameBits]
theorem bool_key {P : Program} {kt : TypeId} (h : P.underlying kt = some .bool) : KeyKind P kt Value.bool where
  kind := ⟨.bool, h, .inr (.inr rfl), fun a b => by simp only [Instr.sameNow]; rfl⟩
  bits := fun a => by simp [Instr.sameBits]
end
end Go.Proofs.Ytegffanlehaloaa.mem
