
/- The reference's order: bit, bits. Conditions: the bits are formed. -/
import Derived.Test.YtfbggmbmgohiiaaGreatTnA
namespace Go.Proofs.YtfbggmbmgohiiaaGreat.tm
open Go.RowKit mem names
set_option linter.unusedVariables false
set_option linter.unusedSimpArgs false
set_option maxHeartbeats 1000000
set_option maxRecDepth 100000

theorem bitR (f : TF) (p : Option Addr) (m c i : Nat) (w : World) (hi : i / 8 < f.bytes.size) (hm : i ≤ 20000) :
    Calls Tryz.prog 126 #[aggV f (.slice p m c), .int .i64 i] w (IPostC (bitAt f.bytes.data.toList i) w) := by
  obtain ⟨k1, i1, g1, n1, fn1, a1, by1, s1⟩ := f
  dsimp only at hi ⊢
  unfold aggV IPostC
  dsimp only
  obtain ⟨q, hq⟩ : ∃ q : Nat, i / 8 = q := ⟨_, rfl⟩
  obtain ⟨r, hr⟩ : ∃ r : Nat, i % 8 = r := ⟨_, rfl⟩
  have hd8 : (i : Int) / 8 = (q : Int) := by omega
  have hm8 : (i : Int) % 8 = (r : Int) := by omega
  have htd : (i : Int).tdiv 8 = (q : Int) := by rw [Int.tdiv_eq_ediv_of_nonneg (by omega)]; exact hd8
  have htm : (i : Int).tmod 8 = (r : Int) := by rw [Int.tmod_eq_emod_of_nonneg (by omega)]; exact hm8
  have hqs : q < by1.size := by omega
  have hr8 : r < 8 := by omega
  have hqi : (q : Int) < (by1.size : Int) := by omega
  have hq0 : (0 : Int) ≤ (q : Int) := by omega
  have hby : byteAt by1.data.toList q = (by1[q]'hqs).toNat := by
    unfold byteAt
    rw [getD_in (by rw [Array.length_toList]; exact hqs)]; rfl
  have hb0 : (0 : Int) ≤ ((by1[q]'hqs).toNat : Int) := by omega
  have hb1 : ((by1[q]'hqs).toNat : Int) ≤ 255 := by have := UInt8.toNat_lt (by1[q]'hqs); omega
  have hres : bitAt by1.data.toList i = (((by1[q]'hqs).toNat / 2 ^ (7 - r) % 2 : Nat) : Int) := by unfold bitAt; rw [hq, hr, hby]
  rw [hres]
  obtain ⟨B, hB⟩ : ∃ B : Nat, (by1[q]'hqs).toNat = B := ⟨_, rfl⟩
  rw [hB]
  obtain ⟨R, hR⟩ : ∃ R : Nat, B / 2 ^ (7 - r) % 2 = R := ⟨_, rfl⟩
  rw [hR]
  have HR := Lib.hid hR
  have HB := Lib.hid hB
  clear hi hres hby hq hr hB hR
  go_enter Tryz.func126, Tryz.ntmps126
  go_wp2_with fail
  go_loop [5, 6] (fun s t => ∃ k n : Nat, s = .int .i64 n ∧ t = .int .i64 k ∧ k ≤ 7 ∧ n ≤ 255 ∧ Hid (r ≤ k ∧ n = B / 2 ^ (k - r))) (fun _ t => 7 - (intOf t).toNat)
  case atStart => exact ⟨r, B, by rw [HB.out], rfl, by omega, by have := HB.out; omega, Lib.hid ⟨by omega, by rw [Nat.sub_self, Nat.pow_zero, Nat.div_one]⟩⟩
  case round =>
    obtain ⟨k, n, rfl, rfl, hk, hn, HN⟩ := hrel
    by_cases hlt : k < 7
    · have hd : (n : Int).tdiv 2 = ((n / 2 : Nat) : Int) := by rw [Int.tdiv_eq_ediv_of_nonneg (by omega)]; omega
      have H2 : Hid (r ≤ k + 1 ∧ n / 2 = B / 2 ^ (k + 1 - r)) := Lib.hid (by
        obtain ⟨h1, h2⟩ := HN.out
        refine ⟨by omega, ?_⟩
        rw [h2, show k + 1 - r = (k - r) + 1 by omega, Nat.pow_succ, ← Nat.div_div_eq_div_mul])
      go_wp2_with fail
      go_round
      case rel => exact ⟨k + 1, n / 2, by go_num, by go_num, by omega, by omega, H2⟩
      case measure => simp [intOf]; omega
    · obtain rfl : k = 7 := by omega
      have hd : (n : Int).tmod 2 = ((n % 2 : Nat) : Int) := by rw [Int.tmod_eq_emod_of_nonneg (by omega)]; omega
      have HF : Hid (R = n % 2) := Lib.hid (by obtain ⟨h1, h2⟩ := HN.out; rw [h2, HR.out])
      go_wp2_with fail
      go_ret
      exact ⟨ret1i (by have := HF.out; omega), (Below.refl _ _).alloc (Nat.le_refl _) _⟩
end Go.Proofs.YtfbggmbmgohiiaaGreat.tm
