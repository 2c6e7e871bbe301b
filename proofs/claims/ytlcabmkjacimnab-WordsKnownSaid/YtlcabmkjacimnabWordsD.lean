/- The walk of WordsKnown: it returns true. No condition. -/
import Derived.Test.YtlcabmkjacimnabWordsC
namespace Go.Proofs.Ytlcabmkjacimnab.words
open Go.RowKit
set_option linter.unusedVariables false
set_option linter.unusedSimpArgs false
set_option maxHeartbeats 1000000
set_option maxRecDepth 100000 in
theorem lawKnown (w : World) : Calls Try.prog 3 #[] w fun e w' => e = .returned (.bool true) ∧ w = w' := by
  have s1 : smallW 0 = 3 := by decide
  have s2 : smallW 1 = 19 := by decide
  have s3 : smallW (-1) = 18446744073709551603 := by decide
  have s4 : smallW (-576460752303423488) = 9223372036854775811 := by decide
  have s5 : smallOk 576460752303423488 = false := by decide
  have a1 : atomW 0 = 7 := by decide
  have a2 : atomW 1 = 23 := by decide
  have p1 : ptrW 1 false 0 = 1 := by decide
  have p2 : ptrW 1 true 2 = 21 := by decide
  have p3 : ptrW 2 false 2 = 18 := by decide
  have p4 : ptrW 2 true 0 = 6 := by decide
  have h1 : hdW 1 0 = 4 := by decide
  have h2 : hdW 1 3 = 196 := by decide
  have h3 : hdW 8 2 = 160 := by decide
  have h4 : hdOk 9 0 = false := by decide
  have r1 : soOk 7 = false := by decide
  have r2 : aoOk 3 = false := by decide
  have r3 : pOk 3 = false := by decide
  have r4 : hoOk 1 = false := by decide
  have v1 : vOk 15 = false := by decide
  have v2 : vOk 0 = false := by decide
  go_enter Try.func3, Try.ntmps3
  go_wp2_with (first
      | (go_at_call 4; refine (Small _ (by omega) (by omega) _).mono ?_; rintro e w' ⟨rfl, rfl⟩)
      | (go_at_call 5; refine (Atom _ _).mono ?_; rintro e w' ⟨rfl, rfl⟩)
      | (go_at_call 6; refine (List _ _ _).mono ?_; rintro e w' ⟨rfl, rfl⟩)
      | (go_at_call 7; refine (Box _ _ _).mono ?_; rintro e w' ⟨rfl, rfl⟩)
      | (go_at_call 8; refine (Nil _).mono ?_; rintro e w' ⟨rfl, rfl⟩)
      | (go_at_call 9; refine (Header _ _ _).mono ?_; rintro e w' ⟨rfl, rfl⟩)
      | (go_at_call 10; refine (SmallOf _ (by omega) (by omega) _).mono ?_; rintro e w' ⟨rfl, rfl⟩)
      | (go_at_call 11; refine (AtomOf _ (by omega) (by omega) _).mono ?_; rintro e w' ⟨rfl, rfl⟩)
      | (go_at_call 12; refine (Pointer _ (by omega) (by omega) _).mono ?_; rintro e w' ⟨rfl, rfl⟩)
      | (go_at_call 13; refine (HeaderOf _ (by omega) (by omega) _).mono ?_; rintro e w' ⟨rfl, rfl⟩)
      | (go_at_call 14; refine (Valid _ (by omega) (by omega) _).mono ?_; rintro e w' ⟨rfl, rfl⟩)
      | (go_at_call 15; refine (awake _).mono ?_; rintro e w' ⟨rfl, rfl⟩))
  go_ret
  exact ⟨rfl, rfl⟩
end Go.Proofs.Ytlcabmkjacimnab.words
