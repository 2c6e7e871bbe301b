/- The walk of WordsOnce: it returns true. Conditions: the word is one of 64 bits. -/
import Derived.Test.YtlcabmkjacimnaaWordsE
namespace Go.Proofs.Ytlcabmkjacimnaa.words
open Go.RowKit
set_option linter.unusedVariables false
set_option linter.unusedSimpArgs false
set_option maxHeartbeats 1000000

theorem so_iff (x : Int) : soOk x = true ↔ x % 16 = 3 := by simp [soOk]
theorem ao_iff (x : Int) : aoOk x = true ↔ (x % 16 = 7 ∧ x / 16 < 2147483648) := by simp [aoOk]
theorem p_iff (x : Int) : pOk x = true ↔ ((x % 4 = 1 ∨ x % 4 = 2) ∧ x / 8 < 2147483648) := by simp [pOk]
theorem ho_iff (x : Int) : hoOk x = true ↔ (x % 4 = 0 ∧ 1 ≤ x / 4 % 16 ∧ x / 4 % 16 ≤ 8 ∧ x / 64 ≤ 65535) := by simp [hoOk]
theorem not_of {b : Bool} {p : Prop} (h : b = true ↔ p) (hn : ¬ p) : b = false := by cases b with | false => rfl | true => exact absurd (h.1 rfl) hn

theorem once_case (x : Int) (h0 : 0 ≤ x) (h1 : x ≤ 18446744073709551615) :
    (soOk x = true ∧ aoOk x = false ∧ pOk x = false ∧ hoOk x = false ∧ (x == 11) = false ∧ vOk x = true ∧ (smallW (soN x) == x) = true ∧ -576460752303423488 ≤ soN x ∧ soN x < 576460752303423488)
    ∨ (soOk x = false ∧ aoOk x = true ∧ pOk x = false ∧ hoOk x = false ∧ (x == 11) = false ∧ vOk x = true ∧ (atomW (aoN x) == x) = true)
    ∨ (soOk x = false ∧ aoOk x = false ∧ pOk x = true ∧ hoOk x = false ∧ (x == 11) = false ∧ vOk x = true ∧ (x % 4 == 2) = false ∧ (ptrW 1 (pOld x) (pIx x) == x) = true)
    ∨ (soOk x = false ∧ aoOk x = false ∧ pOk x = true ∧ hoOk x = false ∧ (x == 11) = false ∧ vOk x = true ∧ (x % 4 == 2) = true ∧ (ptrW 2 (pOld x) (pIx x) == x) = true)
    ∨ (soOk x = false ∧ aoOk x = false ∧ pOk x = false ∧ hoOk x = true ∧ (x == 11) = false ∧ vOk x = true ∧ (hdW (hoK x) (hoN x) == x) = true)
    ∨ (soOk x = false ∧ aoOk x = false ∧ pOk x = false ∧ hoOk x = false ∧ (x == 11) = true ∧ vOk x = true)
    ∨ (soOk x = false ∧ aoOk x = false ∧ pOk x = false ∧ hoOk x = false ∧ (x == 11) = false ∧ vOk x = false) := by
  have a1 := so_iff x
  have a2 := ao_iff x
  have a3 := p_iff x
  have a4 := ho_iff x
  by_cases c1 : x % 16 = 3
  · have b1 := a1.2 c1
    have b2 := not_of a2 (by omega)
    have b3 := not_of a3 (by omega)
    have b4 := not_of a4 (by omega)
    refine .inl ⟨b1, b2, b3, b4, by simp; omega, by simp [vOk, b1], ?_, ?_, ?_⟩
    · rw [beq_iff_eq]
      have : smallOk (soN x) = true := by unfold smallOk soN; rw [if_pos b1]; simp; split <;> omega
      unfold smallW; rw [if_pos this]; unfold soN; rw [if_pos b1]; split <;> omega
    · unfold soN; rw [if_pos b1]; split <;> omega
    · unfold soN; rw [if_pos b1]; split <;> omega
  have b1 := not_of a1 c1
  by_cases c2 : x % 16 = 7 ∧ x / 16 < 2147483648
  · have b2 := a2.2 c2
    have b3 := not_of a3 (by omega)
    have b4 := not_of a4 (by omega)
    refine .inr (.inl ⟨b1, b2, b3, b4, by simp; omega, by simp [vOk, b2], ?_⟩)
    rw [beq_iff_eq]
    have : idxOk (aoN x) = true := by unfold idxOk aoN; rw [if_pos b2]; simp; omega
    unfold atomW; rw [if_pos this]; unfold aoN; rw [if_pos b2]; omega
  have b2 := not_of a2 c2
  by_cases c3 : (x % 4 = 1 ∨ x % 4 = 2) ∧ x / 8 < 2147483648
  · have b3 := a3.2 c3
    have b4 := not_of a4 (by omega)
    have hi : idxOk (pIx x) = true := by unfold idxOk pIx; rw [if_pos b3]; simp; omega
    have hp : ∀ t, x % 4 = t → ptrW t (pOld x) (pIx x) = x := by
      intro t ht
      unfold ptrW; rw [if_pos hi]; unfold pIx pOld; rw [if_pos b3, b3]
      have : x / 4 % 2 = 0 ∨ x / 4 % 2 = 1 := by omega
      rcases this with h | h <;> simp [h] <;> omega
    by_cases c4 : x % 4 = 2
    · exact .inr (.inr (.inr (.inl ⟨b1, b2, b3, b4, by simp; omega, by simp [vOk, b3], by simp [c4], by rw [beq_iff_eq]; exact hp 2 c4⟩)))
    · exact .inr (.inr (.inl ⟨b1, b2, b3, b4, by simp; omega, by simp [vOk, b3], by simp [c4], by rw [beq_iff_eq]; exact hp 1 (by omega)⟩))
  have b3 := not_of a3 c3
  by_cases c4 : x % 4 = 0 ∧ 1 ≤ x / 4 % 16 ∧ x / 4 % 16 ≤ 8 ∧ x / 64 ≤ 65535
  · have b4 := a4.2 c4
    refine .inr (.inr (.inr (.inr (.inl ⟨b1, b2, b3, b4, by simp; omega, by simp [vOk, b4], ?_⟩))))
    rw [beq_iff_eq]
    have : hdOk (hoK x) (hoN x) = true := by unfold hdOk hoK hoN; rw [if_pos b4, if_pos b4]; simp; omega
    unfold hdW; rw [if_pos this]; unfold hoK hoN; rw [if_pos b4, if_pos b4]; omega
  have b4 := not_of a4 c4
  by_cases c5 : x = 11
  · exact .inr (.inr (.inr (.inr (.inr (.inl ⟨b1, b2, b3, b4, by simp [c5], by simp [vOk, c5]⟩)))))
  · exact .inr (.inr (.inr (.inr (.inr (.inr ⟨b1, b2, b3, b4, by simp [c5], by simp [vOk, b1, b2, b3, b4, c5]⟩)))))

set_option maxRecDepth 100000 in
theorem lawOnce (x : Int) (h0 : 0 ≤ x) (h1 : x ≤ 18446744073709551615) (w : World) :
    Calls Try.prog 14 #[.int .u64 x] w fun e w' => e = .returned (.bool true) ∧ w = w' := by
  rcases once_case x h0 h1 with ⟨c1, c2, c3, c4, c5, c6, c7, c8, c9⟩ | ⟨c1, c2, c3, c4, c5, c6, c7⟩ | ⟨c1, c2, c3, c4, c5, c6, c7, c8⟩ | ⟨c1, c2, c3, c4, c5, c6, c7, c8⟩ | ⟨c1, c2, c3, c4, c5, c6, c7⟩ | ⟨c1, c2, c3, c4, c5, c6⟩ | ⟨c1, c2, c3, c4, c5, c6⟩
  all_goals
    go_enter Try.func14, Try.ntmps14
    go_wp2_with (first
        | (go_at_call 15; refine (Small _ (by omega) (by omega) _).mono ?_; rintro e w' ⟨rfl, rfl⟩)
        | (go_at_call 21; refine (Atom _ _).mono ?_; rintro e w' ⟨rfl, rfl⟩)
        | (go_at_call 23; refine (List _ _ _).mono ?_; rintro e w' ⟨rfl, rfl⟩)
        | (go_at_call 25; refine (Box _ _ _).mono ?_; rintro e w' ⟨rfl, rfl⟩)
        | (go_at_call 27; refine (Header _ _ _).mono ?_; rintro e w' ⟨rfl, rfl⟩)
        | (go_at_call 29; refine (Nil _).mono ?_; rintro e w' ⟨rfl, rfl⟩)
        | (go_at_call 40; refine (SmallOf _ (by omega) (by omega) _).mono ?_; rintro e w' ⟨rfl, rfl⟩)
        | (go_at_call 42; refine (AtomOf _ (by omega) (by omega) _).mono ?_; rintro e w' ⟨rfl, rfl⟩)
        | (go_at_call 44; refine (Pointer _ (by omega) (by omega) _).mono ?_; rintro e w' ⟨rfl, rfl⟩)
        | (go_at_call 46; refine (HeaderOf _ (by omega) (by omega) _).mono ?_; rintro e w' ⟨rfl, rfl⟩)
        | (go_at_call 48; refine (Tag _ (by omega) (by omega) _).mono ?_; rintro e w' ⟨rfl, rfl⟩)
        | (go_at_call 50; refine (Valid _ (by omega) (by omega) _).mono ?_; rintro e w' ⟨rfl, rfl⟩)
        | (go_at_call 16; refine (awake _).mono ?_; rintro e w' ⟨rfl, rfl⟩))
    go_ret
    exact ⟨rfl, rfl⟩
end Go.Proofs.Ytlcabmkjacimnaa.words
