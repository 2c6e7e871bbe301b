
/- Valid, and the walks of the laws about words: each returns true. Conditions: each number fits its kind. -/
import Derived.Test.YtpnlnbolhkcnjaaGreatWordsB
namespace Go.Proofs.YtpnlnbolhkcnjaaGreat.words
open Go.RowKit
set_option linter.unusedVariables false
set_option linter.unusedSimpArgs false
set_option maxHeartbeats 400000

section
variable (x : Int) (h0 : 0 ≤ x) (h1 : x ≤ 18446744073709551615) (w : World)
include h0 h1
theorem Valid : Calls Tryz.prog 188 #[.int .u64 x] w fun e w' => e = .returned (.bool (vOk x)) ∧ w = w' := by
  have HV : Hid (vOk x = (soOk x || aoOk x || pOk x || hoOk x || decide (x = 11))) := Lib.hid rfl
  by_cases a : x = 11
  all_goals cases a1 : soOk x
  all_goals cases a2 : aoOk x
  all_goals cases a3 : pOk x
  all_goals cases a4 : hoOk x
  all_goals
    go_enter Tryz.func188, Tryz.ntmps188
    go_wp2_with (first
      | (go_at_call 140; refine (Nil _).mono ?_; rintro e w' ⟨rfl, rfl⟩)
      | (go_at_call 105; refine (SmallOf _ (by omega) (by omega) _).mono ?_; rintro e w' ⟨rfl, rfl⟩)
      | (go_at_call 106; refine (AtomOf _ (by omega) (by omega) _).mono ?_; rintro e w' ⟨rfl, rfl⟩)
      | (go_at_call 131; refine (Pointer _ (by omega) (by omega) _).mono ?_; rintro e w' ⟨rfl, rfl⟩)
      | (go_at_call 184; refine (HeaderOf _ (by omega) (by omega) _).mono ?_; rintro e w' ⟨rfl, rfl⟩))
    go_ret
    refine ⟨ret1b ?_, rfl⟩
    rw [HV.out]
    simp_all
end
end Go.Proofs.YtpnlnbolhkcnjaaGreat.words
