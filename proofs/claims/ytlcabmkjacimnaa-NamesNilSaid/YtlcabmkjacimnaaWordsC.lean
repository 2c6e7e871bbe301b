/- Valid, and the walks of the laws about words: each returns true. Conditions: each number fits its kind. -/
import Derived.Test.YtlcabmkjacimnaaWordsB
namespace Go.Proofs.Ytlcabmkjacimnaa.words
open Go.RowKit
set_option linter.unusedVariables false
set_option linter.unusedSimpArgs false
set_option maxHeartbeats 400000

section
variable (x : Int) (h0 : 0 ≤ x) (h1 : x ≤ 18446744073709551615) (w : World)
include h0 h1
theorem Valid : Calls Try.prog 50 #[.int .u64 x] w fun e w' => e = .returned (.bool (vOk x)) ∧ w = w' := by
  have HV : Hid (vOk x = (soOk x || aoOk x || pOk x || hoOk x || decide (x = 11))) := Lib.hid rfl
  by_cases a : x = 11
  all_goals cases a1 : soOk x
  all_goals cases a2 : aoOk x
  all_goals cases a3 : pOk x
  all_goals cases a4 : hoOk x
  all_goals
    go_enter Try.func50, Try.ntmps50
    go_wp2_with (first
      | (go_at_call 29; refine (Nil _).mono ?_; rintro e w' ⟨rfl, rfl⟩)
      | (go_at_call 40; refine (SmallOf _ (by omega) (by omega) _).mono ?_; rintro e w' ⟨rfl, rfl⟩)
      | (go_at_call 42; refine (AtomOf _ (by omega) (by omega) _).mono ?_; rintro e w' ⟨rfl, rfl⟩)
      | (go_at_call 44; refine (Pointer _ (by omega) (by omega) _).mono ?_; rintro e w' ⟨rfl, rfl⟩)
      | (go_at_call 46; refine (HeaderOf _ (by omega) (by omega) _).mono ?_; rintro e w' ⟨rfl, rfl⟩))
    go_ret
    refine ⟨ret1b ?_, rfl⟩
    rw [HV.out]
    simp_all
theorem RValid : Calls Try.prog 51 #[.int .u64 x] w fun e w' => e = .returned (.bool (vOk x)) ∧ w = w' := by
  have HV : Hid (vOk x = (soOk x || aoOk x || pOk x || hoOk x || decide (x = 11))) := Lib.hid rfl
  by_cases a : x = 11
  all_goals cases a1 : soOk x
  all_goals cases a2 : aoOk x
  all_goals cases a3 : pOk x
  all_goals cases a4 : hoOk x
  all_goals
    go_enter Try.func51, Try.ntmps51
    go_wp2_with (first
      | (go_at_call 30; refine (RNil _).mono ?_; rintro e w' ⟨rfl, rfl⟩)
      | (go_at_call 41; refine (RSmallOf _ (by omega) (by omega) _).mono ?_; rintro e w' ⟨rfl, rfl⟩)
      | (go_at_call 43; refine (RAtomOf _ (by omega) (by omega) _).mono ?_; rintro e w' ⟨rfl, rfl⟩)
      | (go_at_call 45; refine (RPointer _ (by omega) (by omega) _).mono ?_; rintro e w' ⟨rfl, rfl⟩)
      | (go_at_call 47; refine (RHeaderOf _ (by omega) (by omega) _).mono ?_; rintro e w' ⟨rfl, rfl⟩))
    go_ret
    refine ⟨ret1b ?_, rfl⟩
    rw [HV.out]
    simp_all
end

theorem awake (w : World) : Calls Try.prog 16 #[] w fun e w' => e = .returned (.bool true) ∧ w = w' := by
  have s1 : smallW 1 = 19 := by decide
  have s2 : smallOk 1 = true := by decide
  have s3 : hdW 1 3 = 196 := by decide
  have s4 : hdOk 1 3 = true := by decide
  go_enter Try.func16, Try.ntmps16
  go_wp2_with (first
      | (go_at_call 15; refine (Small 1 (by omega) (by omega) _).mono ?_; rintro e w' ⟨rfl, rfl⟩)
      | (go_at_call 27; refine (Header 1 3 _).mono ?_; rintro e w' ⟨rfl, rfl⟩)
      | (go_at_call 29; refine (Nil _).mono ?_; rintro e w' ⟨rfl, rfl⟩))
  go_ret
  exact ⟨rfl, rfl⟩

end Go.Proofs.Ytlcabmkjacimnaa.words
