
/- terms: the function of bit strings. No condition. -/
import Derived.Test.YtpnlnbolhkcnjaaGreatTmE
namespace Go.Proofs.YtpnlnbolhkcnjaaGreat.tm
open Go.RowKit mem names
set_option linter.unusedVariables false
set_option linter.unusedSimpArgs false
set_option maxHeartbeats 1000000
set_option maxRecDepth 100000
def shlN (b r : Nat) : Nat := b * 2 ^ r % 256
theorem shl_int (b r : Nat) : ((b : Int) * 2 ^ r % 256) = (shlN b r : Int) := by
  unfold shlN
  rw [Int.natCast_emod, Int.natCast_mul, Int.natCast_pow]; rfl
theorem shl_iff (b r : Nat) (hb : b < 256) (h1 : 1 ≤ r) (h7 : r ≤ 7) : shlN b r = 0 ↔ b % 2 ^ (8 - r) = 0 := by
  unfold shlN
  have ways : r = 1 ∨ r = 2 ∨ r = 3 ∨ r = 4 ∨ r = 5 ∨ r = 6 ∨ r = 7 := by omega
  rcases ways with rfl | rfl | rfl | rfl | rfl | rfl | rfl <;> (simp only [Nat.reducePow, Nat.reduceSub]; omega)
theorem last_byte (s : ByteArray) (m : Nat) (h : s.size = m + 1) : lastByte s = (s[m]'(by omega)).toNat := by
  unfold lastByte
  have hl : s.data.toList.length = m + 1 := by rw [Array.length_toList]; exact h
  rw [List.getLastD_eq_getLast?, List.getLast?_eq_getElem?, hl, Nat.add_sub_cancel, List.getElem?_eq_getElem (by omega)]
  rfl
theorem kindBits (i g : Int) (nm fn : ByteArray) (ar : Int) (by_ : ByteArray) (bt : Int) (p : Option Addr) (n c : Nat) (last : Int) (w : World) :
    Calls Tryz.prog 264 #[aggV ⟨10, i, g, nm, fn, ar, by_, bt⟩ (.slice p n c)] w (KPost ⟨10, i, g, nm, fn, ar, by_, bt⟩ (.slice p n c) n last w) := by
  have hb : bareF ⟨10, i, g, nm, fn, ar, by_, bt⟩ = ⟨10, i, g, nm, fn, ar, ⟨#[]⟩, 0⟩ := by simp [bareF]
  have hv : bareV ⟨10, i, g, nm, fn, ar, by_, bt⟩ (.slice p n c) = .slice p n c := by simp [bareV, nilV]
  have ho : okF ⟨10, i, g, nm, fn, ar, by_, bt⟩ n last = okBits ⟨10, i, g, nm, fn, ar, by_, bt⟩ := by simp [okF]
  unfold KPost
  rw [hb, hv, ho]
  unfold aggV okBits
  dsimp only
  clear hb hv ho
  by_cases h0 : inB bt 0 16384 = true
  · have hw := fun W => within bt 0 16384 W
    rw [h0] at hw
    rw [h0]
    have hbt := of_decide_eq_true h0
    by_cases h1 : (by_.size : Int) = (bt + 7) / 8
    · rw [decide_eq_true h1]
      have q1 : ((by_.size : Int) == (bt + 7) / 8) = true := by simp [h1]
      by_cases h2 : bt % 8 = 0
      · have q2 : (bt % 8 != 0) = false := by simp [h2]
        rw [decide_eq_true (Or.inl h2)]
        clear h1 h2 h0
        go_enter Tryz.func264, Tryz.ntmps264
        go_wp2_with fail
        refine (hw _).mono ?_
        rintro e w' ⟨rfl, rfl⟩
        go_wp2_with fail
        exact bodyPost_ret (v := (.tuple #[.agg #[.int .i64 10, .int .i64 i, .int .i64 g, .string nm, .string fn, .int .i64 ar, .slice p n c, .string ⟨#[]⟩, .int .i64 0], .bool true])) (by simp [results, Tryz.results264, go_sem, *]) rfl ⟨by simp, by (repeat' (first | with_reducible exact Below.refl _ _ | with_reducible exact Nat.le_refl _ | with_reducible refine Below.setCell ?_ ?_ _ | with_reducible refine Below.alloc ?_ ?_ _ | (simp; done) | (simp; omega)))⟩
      · have q2 : (bt % 8 != 0) = true := by simp [h2]
        obtain ⟨m, hm⟩ : ∃ m, by_.size = m + 1 := ⟨by_.size - 1, by omega⟩
        have hm2 : m < by_.size := by omega
        have HM := Lib.hid hm
        have hsz : (by_.size : Int) = (m : Int) + 1 := by omega
        have hsz2 : (bt + 7) / 8 = (m : Int) + 1 := by omega
        have hmm : (m : Int) < 10000 := by omega
        have hwm : IntKind.i64.wrap (m : Int) = m := IntWalk.i64_in _ (by omega)
        obtain ⟨r, hr⟩ : ∃ r : Nat, bt % 8 = (r : Int) := ⟨(bt % 8).toNat, by omega⟩
        have hr1 : 1 ≤ r := by omega
        have hr7 : r ≤ 7 := by omega
        have htm : bt.tmod 8 = (r : Int) := by rw [Int.tmod_eq_emod_of_nonneg hbt.1]; exact hr
        have hlast : lastByte by_ = (by_[m]'hm2).toNat := last_byte by_ m hm
        have hb8 : (by_[m]'hm2).toNat < 256 := UInt8.toNat_lt _
        have hix : ∀ w : World, (Instr.index 9 (.string by_) (.int .i64 (m : Int))).run Tryz.prog w = .ok (.int .u8 ((by_[m]'hm2).toNat : Int)) w := fun w => by
          rw [run_index_string w 9 by_ .i64 (m : Int) Tryz.underlying9, dif_pos ⟨by omega, by omega⟩]; rfl
        have hz := shl_int (by_[m]'hm2).toNat r
        have hiff : shlN (by_[m]'hm2).toNat r = 0 ↔ lastByte by_ % 2 ^ (8 - (bt % 8).toNat) = 0 := by
          rw [hlast, hr, Int.toNat_natCast]; exact shl_iff _ r hb8 hr1 hr7
        clear hlast hm h0
        generalize (by_[m]'hm2).toNat = b at *
        have HZ := Lib.hid hz; clear hz
        generalize shlN b r = s at *
        have hr0 : ((r : Int) != 0) = true := by simp; omega
        by_cases h3 : s = 0
        · have H3 := Lib.hid h3
          have hfin : (decide (bt % 8 = 0 ∨ lastByte by_ % 2 ^ (8 - (bt % 8).toNat) = 0)) = true := decide_eq_true (.inr (hiff.1 h3))
          rw [hfin]
          clear hfin hiff h3 h1 h2 q1 q2
          go_enter Tryz.func264, Tryz.ntmps264
          go_wp2_with fail
          refine (hw _).mono ?_
          rintro e w' ⟨rfl, rfl⟩
          go_wp2_with fail
          go_quiet (fail)
          go_wp2_with fail
          exact bodyPost_ret (v := (.tuple #[.agg #[.int .i64 10, .int .i64 i, .int .i64 g, .string nm, .string fn, .int .i64 ar, .slice p n c, .string ⟨#[]⟩, .int .i64 0], .bool true])) (by simp [results, Tryz.results264, go_sem, *]; rw [HZ.out, H3.out]; rfl) rfl ⟨by simp, by (repeat' (first | with_reducible exact Below.refl _ _ | with_reducible exact Nat.le_refl _ | with_reducible refine Below.setCell ?_ ?_ _ | with_reducible refine Below.alloc ?_ ?_ _ | with_reducible refine RowKit.Below.drewN ?_ _ | (simp; done) | (simp; omega)))⟩
        · have H3 := Lib.hid h3
          have hfin : (decide (bt % 8 = 0 ∨ lastByte by_ % 2 ^ (8 - (bt % 8).toNat) = 0)) = false := decide_eq_false (by intro h; rcases h with h | h; exact h2 h; exact h3 (hiff.2 h))
          rw [hfin]
          clear hfin hiff h3 h1 h2 q1 q2
          go_enter Tryz.func264, Tryz.ntmps264
          go_wp2_with fail
          refine (hw _).mono ?_
          rintro e w' ⟨rfl, rfl⟩
          go_wp2_with fail
          go_quiet (fail)
          go_wp2_with fail
          exact bodyPost_ret (v := (.tuple #[.agg #[.int .i64 10, .int .i64 i, .int .i64 g, .string nm, .string fn, .int .i64 ar, .slice p n c, .string ⟨#[]⟩, .int .i64 0], .bool false])) (by simp [results, Tryz.results264, go_sem, *]; rw [HZ.out]; have := H3.out; omega) rfl ⟨by simp, by (repeat' (first | with_reducible exact Below.refl _ _ | with_reducible exact Nat.le_refl _ | with_reducible refine Below.setCell ?_ ?_ _ | with_reducible refine Below.alloc ?_ ?_ _ | with_reducible refine RowKit.Below.drewN ?_ _ | (simp; done) | (simp; omega)))⟩
    · rw [decide_eq_false h1]
      have q1 : ((by_.size : Int) == (bt + 7) / 8) = false := by simp [h1]
      clear h1 h0
      go_enter Tryz.func264, Tryz.ntmps264
      go_wp2_with fail
      refine (hw _).mono ?_
      rintro e w' ⟨rfl, rfl⟩
      go_wp2_with fail
      exact bodyPost_ret (v := (.tuple #[.agg #[.int .i64 10, .int .i64 i, .int .i64 g, .string nm, .string fn, .int .i64 ar, .slice p n c, .string ⟨#[]⟩, .int .i64 0], .bool false])) (by simp [results, Tryz.results264, go_sem, *]) rfl ⟨by simp, by (repeat' (first | with_reducible exact Below.refl _ _ | with_reducible exact Nat.le_refl _ | with_reducible refine Below.setCell ?_ ?_ _ | with_reducible refine Below.alloc ?_ ?_ _ | (simp; done) | (simp; omega)))⟩
  · have h0 : inB bt 0 16384 = false := by simpa using h0
    have hw := fun W => within bt 0 16384 W
    rw [h0] at hw
    rw [h0]
    go_enter Tryz.func264, Tryz.ntmps264
    go_wp2_with fail
    refine (hw _).mono ?_
    rintro e w' ⟨rfl, rfl⟩
    go_wp2_with fail
    exact bodyPost_ret (v := (.tuple #[.agg #[.int .i64 10, .int .i64 i, .int .i64 g, .string nm, .string fn, .int .i64 ar, .slice p n c, .string ⟨#[]⟩, .int .i64 0], .bool false])) (by simp [results, Tryz.results264, go_sem, *]) rfl ⟨by simp, by (repeat' (first | with_reducible exact Below.refl _ _ | with_reducible exact Nat.le_refl _ | with_reducible refine Below.setCell ?_ ?_ _ | with_reducible refine Below.alloc ?_ ?_ _ | (simp; done) | (simp; omega)))⟩
end Go.Proofs.YtpnlnbolhkcnjaaGreat.tm
