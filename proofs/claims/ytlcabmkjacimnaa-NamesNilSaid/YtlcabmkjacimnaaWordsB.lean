/- The contracts of the readers of package words and of its specification. Conditions: the word is one of 64 bits. -/
import Derived.Test.YtlcabmkjacimnaaWordsA
namespace Go.Proofs.Ytlcabmkjacimnaa.words
open Go.RowKit
set_option linter.unusedVariables false
set_option linter.unusedSimpArgs false
set_option maxHeartbeats 400000

theorem ret1 {k : IntKind} {a b : Int} (h : a = b) : Ending.returned (.int k a) = .returned (.int k b) := by rw [h]
theorem ret1b {a b : Bool} (h : a = b) : Ending.returned (.bool a) = .returned (.bool b) := by rw [h]
theorem ret3 {b1 b2 c1 c2 : Bool} {x1 x2 : Int} (h1 : b1 = b2) (h2 : x1 = x2) (h3 : c1 = c2) :
    Ending.returned (.tuple #[.bool b1, .int .i64 x1, .bool c1]) = .returned (.tuple #[.bool b2, .int .i64 x2, .bool c2]) := by rw [h1, h2, h3]
theorem ret3i {c1 c2 : Bool} {x1 x2 y1 y2 : Int} (h1 : y1 = y2) (h2 : x1 = x2) (h3 : c1 = c2) :
    Ending.returned (.tuple #[.int .i64 y1, .int .i64 x1, .bool c1]) = .returned (.tuple #[.int .i64 y2, .int .i64 x2, .bool c2]) := by rw [h1, h2, h3]

theorem ret2i {b1 b2 : Bool} {x1 x2 : Int} (h1 : x1 = x2) (h2 : b1 = b2) :
    Ending.returned (.tuple #[.int .i64 x1, .bool b1]) = .returned (.tuple #[.int .i64 x2, .bool b2]) := by rw [h1, h2]
def soOk (w : Int) : Bool := decide (w % 16 = 3)
def soN (w : Int) : Int := if soOk w then (if w / 16 ≥ 576460752303423488 then w / 16 - 1152921504606846976 else w / 16) else 0
def aoOk (w : Int) : Bool := decide (w % 16 = 7 ∧ w / 16 < 2147483648)
def aoN (w : Int) : Int := if aoOk w then w / 16 else 0
def pOk (w : Int) : Bool := decide ((w % 4 = 1 ∨ w % 4 = 2) ∧ w / 8 < 2147483648)
def pOld (w : Int) : Bool := pOk w && decide (w / 4 % 2 = 1)
def pIx (w : Int) : Int := if pOk w then w / 8 else 0
def hoOk (w : Int) : Bool := decide (w % 4 = 0 ∧ 1 ≤ w / 4 % 16 ∧ w / 4 % 16 ≤ 8 ∧ w / 64 ≤ 65535)
def hoK (w : Int) : Int := if hoOk w then w / 4 % 16 else 0
def hoN (w : Int) : Int := if hoOk w then w / 64 else 0
def vOk (w : Int) : Bool := soOk w || aoOk w || pOk w || hoOk w || decide (w = 11)

section
variable (x : Int) (h0 : 0 ≤ x) (h1 : x ≤ 18446744073709551615) (w : World)
include h0 h1

theorem Tag : Calls Try.prog 48 #[.int .u64 x] w fun e w' => e = .returned (.int .i64 (x % 4)) ∧ w = w' := by
  have H3 := Lib.hid (and3 x h0 h1)
  go_enter Try.func48, Try.ntmps48
  go_wp2
  go_ret
  exact ⟨ret1 (by rw [H3.out]; first | done | (rw [IntKind.wrap_i64]; omega) | (unfold wrap64; omega)), rfl⟩
theorem RTag : Calls Try.prog 49 #[.int .u64 x] w fun e w' => e = .returned (.int .i64 (x % 4)) ∧ w = w' := by
  go_enter Try.func49, Try.ntmps49
  go_wp2
  go_ret
  exact ⟨rfl, rfl⟩
theorem Low : Calls Try.prog 58 #[.int .u64 x] w fun e w' => e = .returned (.int .i64 (x % 16)) ∧ w = w' := by
  have H3 := Lib.hid (and15 x h0 h1)
  go_enter Try.func58, Try.ntmps58
  go_wp2
  go_ret
  exact ⟨ret1 (by rw [H3.out]; first | done | (rw [IntKind.wrap_i64]; omega) | (unfold wrap64; omega)), rfl⟩

theorem SmallOf : Calls Try.prog 40 #[.int .u64 x] w fun e w' => e = .returned (.tuple #[.int .i64 (soN x), .bool (soOk x)]) ∧ w = w' := by
  by_cases a : x % 16 = 3
  · have A := Lib.hid a
    have bb : (x % 16 != 3) = false := by simp [a]
    clear a
    go_enter Try.func40, Try.ntmps40
    go_wp2_with (go_at_call 58; refine (Low _ (by omega) (by omega) _).mono ?_; rintro e w' ⟨rfl, rfl⟩)
    go_ret2
    have a := A.out
    refine ⟨ret2i ?_ (by simp [soOk, a]), rfl⟩
    unfold soN soOk wrap64
    rw [if_pos (by simp [a])]
    split <;> omega
  · have bb : (x % 16 != 3) = true := by simp [a]
    go_enter Try.func40, Try.ntmps40
    go_wp2_with (go_at_call 58; refine (Low _ (by omega) (by omega) _).mono ?_; rintro e w' ⟨rfl, rfl⟩)
    go_ret2
    exact ⟨ret2i (by simp [soN, soOk, a]) (by simp [soOk, a]), rfl⟩
theorem RSmallOf : Calls Try.prog 41 #[.int .u64 x] w fun e w' => e = .returned (.tuple #[.int .i64 (soN x), .bool (soOk x)]) ∧ w = w' := by
  by_cases a : x % 16 = 3
  · have A := Lib.hid a
    have bb : (x % 16 != 3) = false := by simp [a]
    clear a
    by_cases c : 576460752303423488 ≤ x / 16
    all_goals
      go_enter Try.func41, Try.ntmps41
      go_wp2
      go_ret2
      have a := A.out
      refine ⟨ret2i ?_ (by simp [soOk, a]), rfl⟩
      unfold soN soOk
      rw [if_pos (by simp [a])]
    · rw [if_pos c]; omega
    · rw [if_neg (by omega)]
  · have bb : (x % 16 != 3) = true := by simp [a]
    go_enter Try.func41, Try.ntmps41
    go_wp2
    go_ret2
    exact ⟨ret2i (by simp [soN, soOk, a]) (by simp [soOk, a]), rfl⟩
theorem AtomOf : Calls Try.prog 42 #[.int .u64 x] w fun e w' => e = .returned (.tuple #[.int .i64 (aoN x), .bool (aoOk x)]) ∧ w = w' := by
  by_cases a : x % 16 = 7
  · have A := Lib.hid a
    have bb : (x % 16 != 7) = false := by simp [a]
    clear a
    by_cases c : 2147483647 < x / 16
    all_goals
      go_enter Try.func42, Try.ntmps42
      go_wp2_with (go_at_call 58; refine (Low _ (by omega) (by omega) _).mono ?_; rintro e w' ⟨rfl, rfl⟩)
      go_ret2
      have a := A.out
    · exact ⟨ret2i (by unfold aoN aoOk; rw [if_neg (by simp; omega)]) (by unfold aoOk; simp; omega), rfl⟩
    · exact ⟨ret2i (by unfold aoN aoOk; rw [if_pos (by simp; omega)]) (by unfold aoOk; simp; omega), rfl⟩
  · have bb : (x % 16 != 7) = true := by simp [a]
    go_enter Try.func42, Try.ntmps42
    go_wp2_with (go_at_call 58; refine (Low _ (by omega) (by omega) _).mono ?_; rintro e w' ⟨rfl, rfl⟩)
    go_ret2
    exact ⟨ret2i (by simp [aoN, aoOk, a]) (by simp [aoOk, a]), rfl⟩
theorem RAtomOf : Calls Try.prog 43 #[.int .u64 x] w fun e w' => e = .returned (.tuple #[.int .i64 (aoN x), .bool (aoOk x)]) ∧ w = w' := by
  by_cases a : x % 16 = 7
  · have A := Lib.hid a
    have bb : (x % 16 != 7) = false := by simp [a]
    clear a
    by_cases c : 2147483648 ≤ x / 16
    all_goals
      go_enter Try.func43, Try.ntmps43
      go_wp2
      go_ret2
      have a := A.out
    · exact ⟨ret2i (by unfold aoN aoOk; rw [if_neg (by simp; omega)]) (by unfold aoOk; simp; omega), rfl⟩
    · exact ⟨ret2i (by unfold aoN aoOk; rw [if_pos (by simp; omega)]) (by unfold aoOk; simp; omega), rfl⟩
  · have bb : (x % 16 != 7) = true := by simp [a]
    go_enter Try.func43, Try.ntmps43
    go_wp2
    go_ret2
    exact ⟨ret2i (by simp [aoN, aoOk, a]) (by simp [aoOk, a]), rfl⟩

theorem Pointer : Calls Try.prog 44 #[.int .u64 x] w fun e w' => e = .returned (.tuple #[.bool (pOld x), .int .i64 (pIx x), .bool (pOk x)]) ∧ w = w' := by
  have H4 := Lib.hid (and4 x h0 h1)
  by_cases a : x % 4 = 1 ∨ x % 4 = 2
  · by_cases c : x / 8 ≤ 2147483647
    · have A := Lib.hid a
      have B : ((x % 4 != 1) = true ∧ (x % 4 != 2) = false) ∨ (x % 4 != 1) = false := by rcases a with a | a <;> simp [a]
      clear a
      rcases B with ⟨b1, b2⟩ | b1
      all_goals
        go_enter Try.func44, Try.ntmps44
        go_wp2_with (go_at_call 48; refine (Tag _ (by omega) (by omega) _).mono ?_; rintro e w' ⟨rfl, rfl⟩)
        go_ret3
        have a := A.out
        have hp : pOk x = true := by unfold pOk; simp; omega
        refine ⟨ret3 ?_ (by unfold pIx; rw [if_pos hp]) hp.symm, rfl⟩
        rw [H4.out]; unfold pOld; rw [hp]
        have : x / 4 % 2 = 0 ∨ x / 4 % 2 = 1 := by omega
        rcases this with h | h <;> simp [h]
    · have A := Lib.hid a
      have B : ((x % 4 != 1) = true ∧ (x % 4 != 2) = false) ∨ (x % 4 != 1) = false := by rcases a with a | a <;> simp [a]
      clear a
      rcases B with ⟨b1, b2⟩ | b1
      all_goals
        go_enter Try.func44, Try.ntmps44
        go_wp2_with (go_at_call 48; refine (Tag _ (by omega) (by omega) _).mono ?_; rintro e w' ⟨rfl, rfl⟩)
        go_ret3
        have hp : pOk x = false := by unfold pOk; simp; omega
        exact ⟨ret3 (by unfold pOld; rw [hp]; rfl) (by unfold pIx; rw [hp]; rfl) hp.symm, rfl⟩
  · have b1 : (x % 4 != 1) = true := by simp; omega
    have b2 : (x % 4 != 2) = true := by simp; omega
    have A := Lib.hid a
    clear a
    go_enter Try.func44, Try.ntmps44
    go_wp2_with (go_at_call 48; refine (Tag _ (by omega) (by omega) _).mono ?_; rintro e w' ⟨rfl, rfl⟩)
    go_ret3
    have a := A.out
    have hp : pOk x = false := by unfold pOk; simp; omega
    exact ⟨ret3 (by unfold pOld; rw [hp]; rfl) (by unfold pIx; rw [hp]; rfl) hp.symm, rfl⟩
theorem RPointer : Calls Try.prog 45 #[.int .u64 x] w fun e w' => e = .returned (.tuple #[.bool (pOld x), .int .i64 (pIx x), .bool (pOk x)]) ∧ w = w' := by
  by_cases a : x % 4 = 1 ∨ x % 4 = 2
  · by_cases c : x / 8 < 2147483648
    · have A := Lib.hid a
      have B : ((x % 4 != 1) = true ∧ (x % 4 != 2) = false) ∨ (x % 4 != 1) = false := by rcases a with a | a <;> simp [a]
      clear a
      rcases B with ⟨b1, b2⟩ | b1
      all_goals
        go_enter Try.func45, Try.ntmps45
        go_wp2
        go_ret3
        have a := A.out
        have hp : pOk x = true := by unfold pOk; simp; omega
        refine ⟨ret3 ?_ (by unfold pIx; rw [if_pos hp]) hp.symm, rfl⟩
        unfold pOld; rw [hp]
        have : x / 4 % 2 = 0 ∨ x / 4 % 2 = 1 := by omega
        rcases this with h | h <;> simp [h]
    · have A := Lib.hid a
      have B : ((x % 4 != 1) = true ∧ (x % 4 != 2) = false) ∨ (x % 4 != 1) = false := by rcases a with a | a <;> simp [a]
      clear a
      rcases B with ⟨b1, b2⟩ | b1
      all_goals
        go_enter Try.func45, Try.ntmps45
        go_wp2
        go_ret3
        have hp : pOk x = false := by unfold pOk; simp; omega
        exact ⟨ret3 (by unfold pOld; rw [hp]; rfl) (by unfold pIx; rw [hp]; rfl) hp.symm, rfl⟩
  · have b1 : (x % 4 != 1) = true := by simp; omega
    have b2 : (x % 4 != 2) = true := by simp; omega
    have A := Lib.hid a
    clear a
    go_enter Try.func45, Try.ntmps45
    go_wp2
    go_ret3
    have a := A.out
    have hp : pOk x = false := by unfold pOk; simp; omega
    exact ⟨ret3 (by unfold pOld; rw [hp]; rfl) (by unfold pIx; rw [hp]; rfl) hp.symm, rfl⟩

theorem HeaderOf : Calls Try.prog 46 #[.int .u64 x] w fun e w' => e = .returned (.tuple #[.int .i64 (hoK x), .int .i64 (hoN x), .bool (hoOk x)]) ∧ w = w' := by
  have H4 : bits .and .u64 (x / 4) 15 = x / 4 % 16 := and15 (x / 4) (by omega) (by omega)
  have G : ∀ b : Bool, (decide (x % 4 = 0) = b) → hoOk x = (b && decide (1 ≤ x / 4 % 16) && decide (x / 4 % 16 ≤ 8) && decide (x / 64 ≤ 65535)) := by
    intro b hb; rw [← hb]; unfold hoOk; rw [Bool.eq_iff_iff]; simp [and_assoc]
  have HG := Lib.hid G; clear G
  have hb1 : 0 ≤ x / 4 % 16 := by omega
  have hb2 : x / 4 % 16 < 16 := by omega
  have fin : ∀ a b c, hoOk x = false → Ending.returned (.tuple #[.int .i64 0, .int .i64 0, .bool false]) = .returned (.tuple #[.int .i64 (hoK x), .int .i64 (hoN x), .bool (hoOk x)]) ∧ (a : Nat) = a ∧ (b : Nat) = b ∧ (c : Nat) = c := by
    intro a b c h; exact ⟨ret3i (by unfold hoK; rw [h]; rfl) (by unfold hoN; rw [h]; rfl) h.symm, rfl, rfl, rfl⟩
  have HF := Lib.hid fin; clear fin
  by_cases a : x % 4 = 0
  · have A := Lib.hid a
    have bb : (x % 4 != 0) = false := by simp [a]
    clear a
    by_cases b : x / 4 % 16 < 1
    · go_enter Try.func46, Try.ntmps46
      go_wp2_with (go_at_call 48; refine (Tag _ (by omega) (by omega) _).mono ?_; rintro e w' ⟨rfl, rfl⟩)
      go_ret3
      exact ⟨(HF.out 0 0 0 (by unfold hoOk; simp; omega)).1, rfl⟩
    by_cases c : 8 < x / 4 % 16
    · go_enter Try.func46, Try.ntmps46
      go_wp2_with (go_at_call 48; refine (Tag _ (by omega) (by omega) _).mono ?_; rintro e w' ⟨rfl, rfl⟩)
      go_ret3
      exact ⟨(HF.out 0 0 0 (by unfold hoOk; simp; omega)).1, rfl⟩
    by_cases d : 65535 < x / 64
    · go_enter Try.func46, Try.ntmps46
      go_wp2_with (go_at_call 48; refine (Tag _ (by omega) (by omega) _).mono ?_; rintro e w' ⟨rfl, rfl⟩)
      go_ret3
      exact ⟨(HF.out 0 0 0 (by unfold hoOk; simp; omega)).1, rfl⟩
    go_enter Try.func46, Try.ntmps46
    go_wp2_with (go_at_call 48; refine (Tag _ (by omega) (by omega) _).mono ?_; rintro e w' ⟨rfl, rfl⟩)
    go_ret3
    have a := A.out
    have hp : hoOk x = true := by unfold hoOk; simp; omega
    exact ⟨ret3i (by unfold hoK; rw [if_pos hp]) (by unfold hoN; rw [if_pos hp]) hp.symm, rfl⟩
  · have bb : (x % 4 != 0) = true := by simp [a]
    go_enter Try.func46, Try.ntmps46
    go_wp2_with (go_at_call 48; refine (Tag _ (by omega) (by omega) _).mono ?_; rintro e w' ⟨rfl, rfl⟩)
    go_ret3
    exact ⟨(HF.out 0 0 0 (by unfold hoOk; simp; omega)).1, rfl⟩
theorem RHeaderOf : Calls Try.prog 47 #[.int .u64 x] w fun e w' => e = .returned (.tuple #[.int .i64 (hoK x), .int .i64 (hoN x), .bool (hoOk x)]) ∧ w = w' := by
  have hb1 : 0 ≤ x / 4 % 16 := by omega
  have hb2 : x / 4 % 16 < 16 := by omega
  have fin : ∀ a b c, hoOk x = false → Ending.returned (.tuple #[.int .i64 0, .int .i64 0, .bool false]) = .returned (.tuple #[.int .i64 (hoK x), .int .i64 (hoN x), .bool (hoOk x)]) ∧ (a : Nat) = a ∧ (b : Nat) = b ∧ (c : Nat) = c := by
    intro a b c h; exact ⟨ret3i (by unfold hoK; rw [h]; rfl) (by unfold hoN; rw [h]; rfl) h.symm, rfl, rfl, rfl⟩
  have HF := Lib.hid fin; clear fin
  by_cases a : x % 4 = 0
  · have A := Lib.hid a
    have bb : (x % 4 != 0) = false := by simp [a]
    clear a
    by_cases b : x / 4 % 16 < 1
    · go_enter Try.func47, Try.ntmps47
      go_wp2
      go_ret3
      exact ⟨(HF.out 0 0 0 (by unfold hoOk; simp; omega)).1, rfl⟩
    by_cases c : 8 < x / 4 % 16
    · go_enter Try.func47, Try.ntmps47
      go_wp2
      go_ret3
      exact ⟨(HF.out 0 0 0 (by unfold hoOk; simp; omega)).1, rfl⟩
    by_cases d : 65535 < x / 64
    · go_enter Try.func47, Try.ntmps47
      go_wp2
      go_ret3
      exact ⟨(HF.out 0 0 0 (by unfold hoOk; simp; omega)).1, rfl⟩
    go_enter Try.func47, Try.ntmps47
    go_wp2
    go_ret3
    have a := A.out
    have hp : hoOk x = true := by unfold hoOk; simp; omega
    exact ⟨ret3i (by unfold hoK; rw [if_pos hp]) (by unfold hoN; rw [if_pos hp]) hp.symm, rfl⟩
  · have bb : (x % 4 != 0) = true := by simp [a]
    go_enter Try.func47, Try.ntmps47
    go_wp2
    go_ret3
    exact ⟨(HF.out 0 0 0 (by unfold hoOk; simp; omega)).1, rfl⟩
end
end Go.Proofs.Ytlcabmkjacimnaa.words
