
/- Comparisons of numbers and strings. No condition. -/
import Derived.Test.YtfbggmbmgohiiaaGreatTmA
import Derived.Test.YtfbggmbmgohiiaaGreatTmB
import Derived.Lib.Bytealg
import Derived.Laws.Cover1
import Derived.WalkSpells
namespace Go.Proofs.YtfbggmbmgohiiaaGreat.tm
open Go.RowKit mem
set_option linter.unusedVariables false
set_option linter.unusedSimpArgs false
set_option maxHeartbeats 1000000
set_option maxRecDepth 100000

def cmpI (a b : Int) : Int := if a < b then -1 else if b < a then 1 else 0
def cmpB (a b : ByteArray) : Int := Lib.compareBytes a.data.toList b.data.toList
theorem ret1i {a b : Int} (h : a = b) : Ending.returned (.int .i64 a) = .returned (.int .i64 b) := by rw [h]
theorem cb_less : ∀ x y : List UInt8, Op.bytesLess x y = decide (Lib.compareBytes x y = -1)
  | [], [] => rfl
  | [], _ :: _ => rfl
  | _ :: _, [] => rfl
  | a :: x, b :: y => by
    unfold Op.bytesLess Lib.compareBytes
    by_cases h : a < b
    · simp [h]
    · by_cases h2 : b < a
      · have : a ≠ b := fun e => by subst e; exact h h2
        simp [h, h2, this]
      · have e : a = b := by
          apply UInt8.toNat_inj.1
          have h1 : ¬ a.toNat < b.toNat := h
          have h3 : ¬ b.toNat < a.toNat := h2
          omega
        subst e
        simp [h, cb_less x y]
theorem cb_eq : ∀ x y : List UInt8, (x == y) = decide (Lib.compareBytes x y = 0)
  | [], [] => rfl
  | [], _ :: _ => rfl
  | _ :: _, [] => rfl
  | a :: x, b :: y => by
    unfold Lib.compareBytes
    have ih := cb_eq x y
    by_cases h : a < b
    · have : a ≠ b := fun e => by subst e; exact absurd h (Nat.lt_irrefl _)
      simp [h, this]
    · by_cases h2 : b < a
      · have : a ≠ b := fun e => by subst e; exact h h2
        simp [h, h2, this]
      · have e : a = b := by
          apply UInt8.toNat_inj.1
          have h1 : ¬ a.toNat < b.toNat := h
          have h3 : ¬ b.toNat < a.toNat := h2
          omega
        subst e
        simp only [List.cons_beq_cons, beq_self_eq_true, Bool.true_and, h, if_false]
        exact ih
theorem cb_three : ∀ x y : List UInt8, Lib.compareBytes x y = -1 ∨ Lib.compareBytes x y = 0 ∨ Lib.compareBytes x y = 1
  | [], [] => .inr (.inl rfl)
  | [], _ :: _ => .inl rfl
  | _ :: _, [] => .inr (.inr rfl)
  | a :: x, b :: y => by
    unfold Lib.compareBytes
    by_cases h : a < b
    · rw [if_pos h]; exact .inl rfl
    · rw [if_neg h]
      by_cases h2 : b < a
      · rw [if_pos h2]; exact .inr (.inr rfl)
      · rw [if_neg h2]; exact cb_three x y
theorem cmpB_cases (a b : ByteArray) : (cmpB a b = -1 ∧ Op.bytesLess a.toList b.toList = true) ∨ (cmpB a b = 0 ∧ Op.bytesLess a.toList b.toList = false ∧ (a.toList == b.toList) = true) ∨ (cmpB a b = 1 ∧ Op.bytesLess a.toList b.toList = false ∧ (a.toList == b.toList) = false) := by
  unfold cmpB
  rw [ByteArray.toList_eq, ByteArray.toList_eq, cb_less, cb_eq]
  rcases cb_three a.data.toList b.data.toList with h | h | h <;> simp [h]
theorem isNaN77 (x : Int) (w : World) : Calls Tryz.prog 153 #[.int .i64 x] w fun e w' => e = .returned (.bool false) ∧ w = w' := by
  have q : (x != x) = false := by simp
  go_enter Tryz.func153, Tryz.ntmps153
  go_wp2_with fail
  go_ret
  exact ⟨rfl, rfl⟩
theorem isNaN81 (x : Int) (w : World) : Calls Tryz.prog 157 #[.int .i64 x] w fun e w' => e = .returned (.bool false) ∧ w = w' := by
  have q : (x != x) = false := by simp
  go_enter Tryz.func157, Tryz.ntmps157
  go_wp2_with fail
  go_ret
  exact ⟨rfl, rfl⟩
theorem isNaN86 (x : Int) (w : World) : Calls Tryz.prog 160 #[.int .u8 x] w fun e w' => e = .returned (.bool false) ∧ w = w' := by
  have q : (x != x) = false := by simp
  go_enter Tryz.func160, Tryz.ntmps160
  go_wp2_with fail
  go_ret
  exact ⟨rfl, rfl⟩
theorem cmpInt (a b : Int) (w : World) : Calls Tryz.prog 130 #[.int .i64 a, .int .i64 b] w fun e w' => e = .returned (.int .i64 (cmpI a b)) ∧ w = w' := by
  unfold cmpI
  by_cases h : a < b
  · rw [if_pos h]
    have q1 : decide (a < b) = true := decide_eq_true h
    go_enter Tryz.func130, Tryz.ntmps130
    go_wp2_with (go_at_call 153; refine (isNaN77 _ _).mono ?_; rintro e w' ⟨rfl, rfl⟩)
    go_ret
    exact ⟨rfl, rfl⟩
  · rw [if_neg h]
    have q1 : decide (a < b) = false := decide_eq_false h
    by_cases h2 : b < a
    · rw [if_pos h2]
      have q2 : decide (b < a) = true := decide_eq_true h2
      go_enter Tryz.func130, Tryz.ntmps130
      go_wp2_with (go_at_call 153; refine (isNaN77 _ _).mono ?_; rintro e w' ⟨rfl, rfl⟩)
      go_ret
      exact ⟨rfl, rfl⟩
    · rw [if_neg h2]
      have q2 : decide (b < a) = false := decide_eq_false h2
      go_enter Tryz.func130, Tryz.ntmps130
      go_wp2_with (go_at_call 153; refine (isNaN77 _ _).mono ?_; rintro e w' ⟨rfl, rfl⟩)
      go_ret
      exact ⟨rfl, rfl⟩
theorem cmpInt64 (a b : Int) (w : World) : Calls Tryz.prog 136 #[.int .i64 a, .int .i64 b] w fun e w' => e = .returned (.int .i64 (cmpI a b)) ∧ w = w' := by
  unfold cmpI
  by_cases h : a < b
  · rw [if_pos h]
    have q1 : decide (a < b) = true := decide_eq_true h
    go_enter Tryz.func136, Tryz.ntmps136
    go_wp2_with (go_at_call 157; refine (isNaN81 _ _).mono ?_; rintro e w' ⟨rfl, rfl⟩)
    go_ret
    exact ⟨rfl, rfl⟩
  · rw [if_neg h]
    have q1 : decide (a < b) = false := decide_eq_false h
    by_cases h2 : b < a
    · rw [if_pos h2]
      have q2 : decide (b < a) = true := decide_eq_true h2
      go_enter Tryz.func136, Tryz.ntmps136
      go_wp2_with (go_at_call 157; refine (isNaN81 _ _).mono ?_; rintro e w' ⟨rfl, rfl⟩)
      go_ret
      exact ⟨rfl, rfl⟩
    · rw [if_neg h2]
      have q2 : decide (b < a) = false := decide_eq_false h2
      go_enter Tryz.func136, Tryz.ntmps136
      go_wp2_with (go_at_call 157; refine (isNaN81 _ _).mono ?_; rintro e w' ⟨rfl, rfl⟩)
      go_ret
      exact ⟨rfl, rfl⟩
theorem cmpByte (a b : Int) (w : World) : Calls Tryz.prog 155 #[.int .u8 a, .int .u8 b] w fun e w' => e = .returned (.int .i64 (cmpI a b)) ∧ w = w' := by
  unfold cmpI
  by_cases h : a < b
  · rw [if_pos h]
    have q1 : decide (a < b) = true := decide_eq_true h
    go_enter Tryz.func155, Tryz.ntmps155
    go_wp2_with (go_at_call 160; refine (isNaN86 _ _).mono ?_; rintro e w' ⟨rfl, rfl⟩)
    go_ret
    exact ⟨rfl, rfl⟩
  · rw [if_neg h]
    have q1 : decide (a < b) = false := decide_eq_false h
    by_cases h2 : b < a
    · rw [if_pos h2]
      have q2 : decide (b < a) = true := decide_eq_true h2
      go_enter Tryz.func155, Tryz.ntmps155
      go_wp2_with (go_at_call 160; refine (isNaN86 _ _).mono ?_; rintro e w' ⟨rfl, rfl⟩)
      go_ret
      exact ⟨rfl, rfl⟩
    · rw [if_neg h2]
      have q2 : decide (b < a) = false := decide_eq_false h2
      go_enter Tryz.func155, Tryz.ntmps155
      go_wp2_with (go_at_call 160; refine (isNaN86 _ _).mono ?_; rintro e w' ⟨rfl, rfl⟩)
      go_ret
      exact ⟨rfl, rfl⟩
theorem ints (a b : Int) (w : World) : Calls Tryz.prog 108 #[.int .i64 a, .int .i64 b] w fun e w' => e = .returned (.int .i64 (cmpI a b)) ∧ w = w' := by
  unfold cmpI
  by_cases h : a < b
  · rw [if_pos h]
    have q1 : decide (a < b) = true := decide_eq_true h
    go_enter Tryz.func108, Tryz.ntmps108
    go_wp2_with fail
    go_ret
    exact ⟨rfl, rfl⟩
  · rw [if_neg h]
    have q1 : decide (a < b) = false := decide_eq_false h
    by_cases h2 : b < a
    · rw [if_pos h2]
      have q2 : decide (b < a) = true := decide_eq_true h2
      go_enter Tryz.func108, Tryz.ntmps108
      go_wp2_with fail
      go_ret
      exact ⟨rfl, rfl⟩
    · rw [if_neg h2]
      have q2 : decide (b < a) = false := decide_eq_false h2
      go_enter Tryz.func108, Tryz.ntmps108
      go_wp2_with fail
      go_ret
      exact ⟨rfl, rfl⟩
theorem texts (a b : ByteArray) (w : World) : Calls Tryz.prog 109 #[.string a, .string b] w fun e w' => e = .returned (.int .i64 (cmpB a b)) ∧ w = w' := by
  rcases cmpB_cases a b with ⟨h, q1⟩ | ⟨h, q1, q2⟩ | ⟨h, q1, q2⟩
  all_goals
    rw [h]
    clear h
    go_enter Tryz.func109, Tryz.ntmps109
    go_wp2_with fail
    go_ret
    exact ⟨rfl, rfl⟩
theorem cmpString80 (a b : ByteArray) (w : World) : Calls Tryz.prog 156 #[.string a, .string b] w fun e w' => e = .returned (.int .i64 (cmpB a b)) ∧ w = w' := by
  go_enter Tryz.func156, Tryz.ntmps156
  go_wp2_with fail
  rw [run_callFunc_extern Tryz.func161 (by kernel_rfl) (by kernel_rfl) (by kernel_rfl) (e := Extern.BytealgCompare.compare) (by kernel_rfl), Lib.run_compareString]
  simp only [Result.andThen]
  rw [Oper.upon_value]
  go_wp2_with fail
  go_ret
  exact ⟨rfl, rfl⟩
theorem cmpString (a b : ByteArray) (w : World) : Calls Tryz.prog 135 #[.string a, .string b] w fun e w' => e = .returned (.int .i64 (cmpB a b)) ∧ w = w' := by
  go_enter Tryz.func135, Tryz.ntmps135
  go_wp2_with (go_at_call 156; refine (cmpString80 _ _ _).mono ?_; rintro e w' ⟨rfl, rfl⟩)
  go_ret
  exact ⟨rfl, rfl⟩
end Go.Proofs.YtfbggmbmgohiiaaGreat.tm
