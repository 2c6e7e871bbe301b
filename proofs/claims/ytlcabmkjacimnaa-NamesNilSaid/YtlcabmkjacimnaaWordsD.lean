/- The walks of the laws about words: each returns true. Conditions: each number fits its kind. -/
import Derived.Test.YtlcabmkjacimnaaWordsC
import Derived.Deep.QuietTactic
import Derived.BigQuiet
namespace Go
theorem RowKit.Below.drewN {B : Nat} {a w : World} (h : RowKit.Below B a w) (n : Nat) : RowKit.Below B a (w.drewN n) := ⟨h.os, h.tape, h.output, h.size, h.block⟩
end Go
namespace Go.Proofs.Ytlcabmkjacimnaa.words
open Go.RowKit
set_option linter.unusedVariables false
set_option linter.unusedSimpArgs false
set_option maxHeartbeats 400000

theorem smallW_mono (a b : Int) (ha : smallOk a = true) (hb : smallOk b = true) :
    (decide (wrap64 (smallW a) < wrap64 (smallW b)) = decide (a < b)) ∧ ((smallW a == smallW b) = (a == b)) := by
  have ha' := of_decide_eq_true ha
  have hb' := of_decide_eq_true hb
  unfold smallW wrap64
  rw [if_pos ha, if_pos hb]
  refine ⟨by rw [decide_eq_decide]; omega, by rw [Bool.eq_iff_iff, beq_iff_eq, beq_iff_eq]; omega⟩

theorem lawOrder (a b : Int) (a0 : -9223372036854775808 ≤ a) (a1 : a ≤ 9223372036854775807) (b0 : -9223372036854775808 ≤ b) (b1 : b ≤ 9223372036854775807) (w : World) :
    Calls Try.prog 3 #[.int .i64 a, .int .i64 b] w fun e w' => e = .returned (.bool true) ∧ w = w' := by
  cases sa : smallOk a
  · go_enter Try.func3, Try.ntmps3
    go_wp2_with (first
      | (go_at_call 15; refine (Small _ (by omega) (by omega) _).mono ?_; rintro e w' ⟨rfl, rfl⟩)
      | (go_at_call 16; refine (awake _).mono ?_; rintro e w' ⟨rfl, rfl⟩))
    go_ret
    exact ⟨rfl, rfl⟩
  cases sb : smallOk b
  · go_enter Try.func3, Try.ntmps3
    go_wp2_with (first
      | (go_at_call 15; refine (Small _ (by omega) (by omega) _).mono ?_; rintro e w' ⟨rfl, rfl⟩)
      | (go_at_call 16; refine (awake _).mono ?_; rintro e w' ⟨rfl, rfl⟩))
    go_ret
    exact ⟨rfl, rfl⟩
  obtain ⟨m1, m2⟩ := smallW_mono a b sa sb
  have e1 : (decide (wrap64 (smallW a) < wrap64 (smallW b)) == decide (a < b)) = true := by rw [m1]; simp
  have e2 : ((smallW a == smallW b) == (a == b)) = true := by rw [m2]; simp
  clear m1 m2
  go_enter Try.func3, Try.ntmps3
  go_wp2_with (first
      | (go_at_call 15; refine (Small _ (by omega) (by omega) _).mono ?_; rintro e w' ⟨rfl, rfl⟩)
      | (go_at_call 16; refine (awake _).mono ?_; rintro e w' ⟨rfl, rfl⟩))
  go_ret
  exact ⟨rfl, rfl⟩

theorem lawReads (x : Int) (h0 : 0 ≤ x) (h1 : x ≤ 18446744073709551615) (w : World) :
    Calls Try.prog 9 #[.int .u64 x] w fun e w' => e = .returned (.bool true) ∧ w = w' := by
  go_enter Try.func9, Try.ntmps9
  go_wp2_with (first
      | (go_at_call 40; refine (SmallOf _ (by omega) (by omega) _).mono ?_; rintro e w' ⟨rfl, rfl⟩)
      | (go_at_call 41; refine (RSmallOf _ (by omega) (by omega) _).mono ?_; rintro e w' ⟨rfl, rfl⟩)
      | (go_at_call 42; refine (AtomOf _ (by omega) (by omega) _).mono ?_; rintro e w' ⟨rfl, rfl⟩)
      | (go_at_call 43; refine (RAtomOf _ (by omega) (by omega) _).mono ?_; rintro e w' ⟨rfl, rfl⟩)
      | (go_at_call 44; refine (Pointer _ (by omega) (by omega) _).mono ?_; rintro e w' ⟨rfl, rfl⟩)
      | (go_at_call 45; refine (RPointer _ (by omega) (by omega) _).mono ?_; rintro e w' ⟨rfl, rfl⟩)
      | (go_at_call 46; refine (HeaderOf _ (by omega) (by omega) _).mono ?_; rintro e w' ⟨rfl, rfl⟩)
      | (go_at_call 47; refine (RHeaderOf _ (by omega) (by omega) _).mono ?_; rintro e w' ⟨rfl, rfl⟩)
      | (go_at_call 48; refine (Tag _ (by omega) (by omega) _).mono ?_; rintro e w' ⟨rfl, rfl⟩)
      | (go_at_call 49; refine (RTag _ (by omega) (by omega) _).mono ?_; rintro e w' ⟨rfl, rfl⟩)
      | (go_at_call 50; refine (Valid _ (by omega) (by omega) _).mono ?_; rintro e w' ⟨rfl, rfl⟩)
      | (go_at_call 51; refine (RValid _ (by omega) (by omega) _).mono ?_; rintro e w' ⟨rfl, rfl⟩)
      | (go_at_call 16; refine (awake _).mono ?_; rintro e w' ⟨rfl, rfl⟩))
  go_ret
  exact ⟨rfl, rfl⟩

theorem lawBuilds (n i k c : Int) (o : Bool) (n0 : -9223372036854775808 ≤ n) (n1 : n ≤ 9223372036854775807) (w : World) :
    Calls Try.prog 5 #[.agg #[.int .i64 n, .int .i64 i, .int .i64 k, .int .i64 c, .bool o]] w fun e w' => e = .returned (.bool true) ∧ Below w.heap.size w w' := by
  go_enter Try.func5, Try.ntmps5
  go_wp2_with fail
  go_quiet (fail)
  go_wp2_with (first
      | (go_at_call 15; refine (Small _ (by omega) (by omega) _).mono ?_; rintro e w' ⟨rfl, rfl⟩)
      | (go_at_call 20; refine (RSmall _ (by omega) (by omega) _).mono ?_; rintro e w' ⟨rfl, rfl⟩)
      | (go_at_call 21; refine (Atom _ _).mono ?_; rintro e w' ⟨rfl, rfl⟩)
      | (go_at_call 22; refine (RAtom _ _).mono ?_; rintro e w' ⟨rfl, rfl⟩)
      | (go_at_call 23; refine (List _ _ _).mono ?_; rintro e w' ⟨rfl, rfl⟩)
      | (go_at_call 24; refine (RList _ _ _).mono ?_; rintro e w' ⟨rfl, rfl⟩)
      | (go_at_call 25; refine (Box _ _ _).mono ?_; rintro e w' ⟨rfl, rfl⟩)
      | (go_at_call 26; refine (RBox _ _ _).mono ?_; rintro e w' ⟨rfl, rfl⟩)
      | (go_at_call 27; refine (Header _ _ _).mono ?_; rintro e w' ⟨rfl, rfl⟩)
      | (go_at_call 28; refine (RHeader _ _ _).mono ?_; rintro e w' ⟨rfl, rfl⟩)
      | (go_at_call 29; refine (Nil _).mono ?_; rintro e w' ⟨rfl, rfl⟩)
      | (go_at_call 30; refine (RNil _).mono ?_; rintro e w' ⟨rfl, rfl⟩)
      | (go_at_call 16; refine (awake _).mono ?_; rintro e w' ⟨rfl, rfl⟩))
  go_ret
  exact ⟨rfl, by repeat (first | exact Below.refl _ _ | refine Below.drewN ?_ _ | (refine Below.alloc ?_ (by simp) _))⟩
end Go.Proofs.Ytlcabmkjacimnaa.words
