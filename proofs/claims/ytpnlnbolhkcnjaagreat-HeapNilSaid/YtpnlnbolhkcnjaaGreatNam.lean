
/- Valid names: the program's Valid and the specification's return the same function of the string's bytes. Conditions: none on the string but that it is one that a Go program can hold. -/
import Derived.Test.YtpnlnbolhkcnjaaGreatTmD
import Derived.Laws.Strings
namespace Go.Proofs.YtpnlnbolhkcnjaaGreat.names
open Go.RowKit
set_option linter.unusedVariables false
set_option linter.unusedSimpArgs false
set_option maxHeartbeats 1000000

/-- may the byte c stand at place k of a name? -/
def okAt (k : Nat) (c : Nat) : Bool := decide (97 ≤ c ∧ c ≤ 122) || (decide (0 < k) && (decide (65 ≤ c ∧ c ≤ 90) || decide (48 ≤ c ∧ c ≤ 57) || decide (c = 95) || decide (c = 64)))
def vName (s : ByteArray) : Bool := decide (1 ≤ s.size ∧ s.size ≤ 32 ∧ ∀ k : Nat, (h : k < s.size) → okAt k (s[k]'h).toNat = true)

theorem vName_false {s : ByteArray} (k : Nat) (h : k < s.size) (hk : okAt k (s[k]'h).toNat = false) : vName s = false := by
  unfold vName; rw [decide_eq_false_iff_not]; rintro ⟨_, _, h3⟩; rw [h3 k h] at hk; cases hk
theorem vName_true {s : ByteArray} (h1 : 1 ≤ s.size) (h2 : s.size ≤ 32) (h3 : ∀ k : Nat, (h : k < s.size) → okAt k (s[k]'h).toNat = true) : vName s = true := by
  unfold vName; exact decide_eq_true ⟨h1, h2, h3⟩
theorem ret1b {a b : Bool} (h : a = b) : Ending.returned (.bool a) = .returned (.bool b) := by rw [h]
theorem okAt_high (k c : Nat) (h : 128 ≤ c) : okAt k c = false := by
  unfold okAt; simp; omega

theorem toList_len (s : ByteArray) : s.toList.length = s.size := by
  rw [ByteArray.toList_eq, Array.length_toList]; rfl
theorem okAt_iff (k c : Nat) : okAt k c = true ↔ (97 ≤ c ∧ c ≤ 122) ∨ (0 < k ∧ ((65 ≤ c ∧ c ≤ 90) ∨ (48 ≤ c ∧ c ≤ 57) ∨ c = 95 ∨ c = 64)) := by
  unfold okAt; simp [or_assoc]
theorem okAt_not (k c : Nat) (h : ¬ ((97 ≤ c ∧ c ≤ 122) ∨ (0 < k ∧ ((65 ≤ c ∧ c ≤ 90) ∨ (48 ≤ c ∧ c ≤ 57) ∨ c = 95 ∨ c = 64)))) : okAt k c = false := by
  rw [Bool.eq_false_iff, ne_eq, okAt_iff]; exact h
/-- the classes of bytes -/
theorem classes (c : Nat) (h : c < 256) : ∃ lo hi : Int, ∃ b1 b2 : Bool, lo ≤ (c : Int) ∧ (c : Int) ≤ hi ∧ ((c : Int) == 95) = b1 ∧ ((c : Int) == 64) = b2 ∧ ((c : Int) != 95) = !b1 ∧ ((c : Int) != 64) = !b2 ∧ ((lo = 0 ∧ hi = 47 ∧ b1 = false ∧ b2 = false) ∨ (lo = 48 ∧ hi = 57 ∧ b1 = false ∧ b2 = false) ∨ (lo = 58 ∧ hi = 63 ∧ b1 = false ∧ b2 = false) ∨ (lo = 64 ∧ hi = 64 ∧ b1 = false ∧ b2 = true) ∨ (lo = 65 ∧ hi = 90 ∧ b1 = false ∧ b2 = false) ∨ (lo = 91 ∧ hi = 94 ∧ b1 = false ∧ b2 = false) ∨ (lo = 95 ∧ hi = 95 ∧ b1 = true ∧ b2 = false) ∨ (lo = 96 ∧ hi = 96 ∧ b1 = false ∧ b2 = false) ∨ (lo = 97 ∧ hi = 122 ∧ b1 = false ∧ b2 = false) ∨ (lo = 123 ∧ hi = 255 ∧ b1 = false ∧ b2 = false)) := by
  have : c ≤ 47 ∨ (48 ≤ c ∧ c ≤ 57) ∨ (58 ≤ c ∧ c ≤ 63) ∨ c = 64 ∨ (65 ≤ c ∧ c ≤ 90) ∨ (91 ≤ c ∧ c ≤ 94) ∨ c = 95 ∨ c = 96 ∨ (97 ≤ c ∧ c ≤ 122) ∨ 123 ≤ c := by omega
  rcases this with h | h | h | h | h | h | h | h | h | h
  · exact ⟨0, 47, false, false, by omega, by omega, by simp <;> omega, by simp <;> omega, by simp <;> omega, by simp <;> omega, by simp⟩
  · exact ⟨48, 57, false, false, by omega, by omega, by simp <;> omega, by simp <;> omega, by simp <;> omega, by simp <;> omega, by simp⟩
  · exact ⟨58, 63, false, false, by omega, by omega, by simp <;> omega, by simp <;> omega, by simp <;> omega, by simp <;> omega, by simp⟩
  · exact ⟨64, 64, false, true, by omega, by omega, by simp <;> omega, by simp <;> omega, by simp <;> omega, by simp <;> omega, by simp⟩
  · exact ⟨65, 90, false, false, by omega, by omega, by simp <;> omega, by simp <;> omega, by simp <;> omega, by simp <;> omega, by simp⟩
  · exact ⟨91, 94, false, false, by omega, by omega, by simp <;> omega, by simp <;> omega, by simp <;> omega, by simp <;> omega, by simp⟩
  · exact ⟨95, 95, true, false, by omega, by omega, by simp <;> omega, by simp <;> omega, by simp <;> omega, by simp <;> omega, by simp⟩
  · exact ⟨96, 96, false, false, by omega, by omega, by simp <;> omega, by simp <;> omega, by simp <;> omega, by simp <;> omega, by simp⟩
  · exact ⟨97, 122, false, false, by omega, by omega, by simp <;> omega, by simp <;> omega, by simp <;> omega, by simp <;> omega, by simp⟩
  · exact ⟨123, 255, false, false, by omega, by omega, by simp <;> omega, by simp <;> omega, by simp <;> omega, by simp <;> omega, by simp⟩
/-- what a round of the loop over runes sees -/
theorem rune_at (s : ByteArray) (pos : Nat) (h : pos < s.size) :
    ((Utf8.decode s pos).1 = ((s[pos]'h).toNat : Int) ∧ (s[pos]'h).toNat < 128 ∧ (Utf8.decode s pos).2 = 1) ∨ (128 ≤ (Utf8.decode s pos).1 ∧ 128 ≤ (s[pos]'h).toNat) := by
  by_cases ha : (s[pos]'h).toNat < 128
  · left; rw [decode_ascii s pos h ha]; exact ⟨rfl, ha, rfl⟩
  · right; exact ⟨by have := (decode_high s pos h (by omega)).1; omega, by omega⟩

theorem Valid (s : ByteArray) (w : World) :
    Calls Tryz.prog 65 #[.string s] w fun e w' => e = .returned (.bool (vName s)) ∧ Below w.heap.size w w' := by
  by_cases h1 : s.size = 0
  · have h3 : s.toList.isEmpty = true := by rw [List.isEmpty_iff, ← List.length_eq_zero_iff, toList_len]; exact h1
    go_enter Tryz.func65, Tryz.ntmps65
    go_wp2_with fail
    go_ret
    exact ⟨ret1b (by unfold vName; symm; rw [decide_eq_false_iff_not]; omega), Below.refl _ _⟩
  have h3 : s.toList.isEmpty = false := by rw [List.isEmpty_eq_false_iff]; intro e; exact h1 (by rw [← toList_len, e]; rfl)
  by_cases h2 : 32 < s.size
  · go_enter Tryz.func65, Tryz.ntmps65
    go_wp2_with fail
    go_ret
    exact ⟨ret1b (by unfold vName; symm; rw [decide_eq_false_iff_not]; omega), Below.refl _ _⟩
  go_enter Tryz.func65, Tryz.ntmps65
  go_wp2_with fail
  go_loopw [3] (fun _ w' => ∃ pos : Nat, w' = w.iter s pos ∧ pos ≤ s.size ∧ ∀ k : Nat, (h : k < s.size) → k < pos → okAt k (s[k]'h).toNat = true) (fun _ w' => s.size - w'.iterPos w.heap.size)
  case atStart => exact ⟨0, rfl, by omega, by omega⟩
  case round =>
    obtain ⟨pos, rfl, hpos, hall⟩ := hrel
    have HALL := Lib.hid hall
    clear hall
    by_cases hp : pos < s.size
    · by_cases ha : s[pos].toNat < 128
      · have hnx : ∀ ty, (Instr.next (.pointer (some ⟨w.heap.size, 0, none⟩)) true ty).run Tryz.prog (w.iter s pos) = _ := fun ty => run_next_ascii w s pos ty hp ha
        have HP : Hid (pos = 0 ∨ 0 < pos) := Lib.hid (by omega)
        obtain ⟨lo, hi, b1, b2, c1, c2, c3, c4, c5, c6, hG⟩ := classes s[pos].toNat (by omega)
        rcases HP.out with hp0 | hp0
        · subst hp0
          rcases hG with ⟨rfl, rfl, rfl, rfl⟩ | ⟨rfl, rfl, rfl, rfl⟩ | ⟨rfl, rfl, rfl, rfl⟩ | ⟨rfl, rfl, rfl, rfl⟩ | ⟨rfl, rfl, rfl, rfl⟩ | ⟨rfl, rfl, rfl, rfl⟩ | ⟨rfl, rfl, rfl, rfl⟩ | ⟨rfl, rfl, rfl, rfl⟩ | ⟨rfl, rfl, rfl, rfl⟩ | ⟨rfl, rfl, rfl, rfl⟩
          all_goals go_wp2
          all_goals first
            | (go_ret
               exact ⟨ret1b (vName_false 0 hp (okAt_not _ _ (by omega))).symm, (Below.refl _ _).alloc (Nat.le_refl _) _⟩)
            | (go_roundw
               case rel => exact ⟨0 + 1, rfl, by omega, fun k h hk => by obtain rfl : k = 0 := by omega
                                                                         exact (okAt_iff _ _).2 (by omega)⟩
               case measure => simp; omega)
            | (exfalso; simp only [Bool.not_eq_eq_eq_not, Bool.not_false, Bool.not_true, decide_eq_true_eq, decide_eq_false_iff_not] at *; omega)
        · rcases hG with ⟨rfl, rfl, rfl, rfl⟩ | ⟨rfl, rfl, rfl, rfl⟩ | ⟨rfl, rfl, rfl, rfl⟩ | ⟨rfl, rfl, rfl, rfl⟩ | ⟨rfl, rfl, rfl, rfl⟩ | ⟨rfl, rfl, rfl, rfl⟩ | ⟨rfl, rfl, rfl, rfl⟩ | ⟨rfl, rfl, rfl, rfl⟩ | ⟨rfl, rfl, rfl, rfl⟩ | ⟨rfl, rfl, rfl, rfl⟩
          all_goals go_wp2
          all_goals first
            | (go_ret
               exact ⟨ret1b (vName_false pos hp (okAt_not _ _ (by omega))).symm, (Below.refl _ _).alloc (Nat.le_refl _) _⟩)
            | (go_roundw
               case rel =>
                refine ⟨pos + 1, rfl, by omega, fun k h hk => ?_⟩
                by_cases hkp : k < pos
                · exact HALL.out k h hkp
                · obtain rfl : k = pos := by omega
                  exact (okAt_iff _ _).2 (by omega)
               case measure => simp; omega)
            | (exfalso; simp only [Bool.not_eq_eq_eq_not, Bool.not_false, Bool.not_true, decide_eq_true_eq, decide_eq_false_iff_not] at *; omega)
      · have hnx : ∀ ty, (Instr.next (.pointer (some ⟨w.heap.size, 0, none⟩)) true ty).run Tryz.prog (w.iter s pos) = _ := fun ty => run_next_any w s pos ty hp
        have hr := (decode_high s pos hp (by omega)).1
        generalize hdr : (Utf8.decode s pos).1 = r at *
        generalize hdw : (Utf8.decode s pos).2 = wd at *
        clear hdr hdw
        have q1 : ((r : Int) == 95) = false := by simp; omega
        have q2 : ((r : Int) == 64) = false := by simp; omega
        by_cases hp0 : 0 < pos
        all_goals go_wp2
        all_goals first
          | (go_ret
             exact ⟨ret1b (vName_false pos hp (okAt_high _ _ (by omega))).symm, (Below.refl _ _).alloc (Nat.le_refl _) _⟩)
          | (exfalso; simp only [Bool.not_eq_eq_eq_not, Bool.not_false, Bool.not_true, decide_eq_true_eq, decide_eq_false_iff_not] at *; omega)
    · have hnx : ∀ ty, (Instr.next (.pointer (some ⟨w.heap.size, 0, none⟩)) true ty).run Tryz.prog (w.iter s pos) = _ := fun ty => run_next_end w s pos ty hp
      go_wp2
      go_ret
      exact ⟨ret1b (vName_true (by omega) (by omega) (fun k h => HALL.out k h (by omega))).symm, (Below.refl _ _).alloc (Nat.le_refl _) _⟩

end Go.Proofs.YtpnlnbolhkcnjaaGreat.names
