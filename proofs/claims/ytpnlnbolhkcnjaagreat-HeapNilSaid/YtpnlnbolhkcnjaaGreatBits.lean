
/- Plain arithmetic: what Go's and, or, shifts on 64-bit words come to as division and remainder. No condition. -/
import Derived.Test.YtpnlnbolhkcnjaaGreatRows
import Derived.WalkKit
namespace Go.Proofs.YtpnlnbolhkcnjaaGreat.words
open Go.RowKit

theorem ofInt_toNat (a : Int) (h0 : 0 ≤ a) (h1 : a ≤ 18446744073709551615) : (BitVec.ofInt IntKind.u64.bits a).toNat = a.toNat := by
  show (BitVec.ofInt 64 a).toNat = _
  rw [BitVec.toNat_ofInt]
  omega

theorem u64_nat (n : Nat) (h : n ≤ 18446744073709551615) : IntKind.u64.wrap (n : Int) = n := IntWalk.u64_in _ (by omega)

theorem toNat_pow (k : Nat) : ((2 : Int) ^ k).toNat = 2 ^ k := by
  have : ((2 : Int) ^ k) = ((2 ^ k : Nat) : Int) := by simp
  rw [this, Int.toNat_natCast]

theorem or_low (k : Nat) (m b : Int) (hm : 0 ≤ m) (hb : 0 ≤ b) (hlt : b < 2 ^ k) (hmax : 2 ^ k * m + b ≤ 18446744073709551615) :
    bits .or .u64 (2 ^ k * m) b = 2 ^ k * m + b := by
  have hp : (0 : Int) < 2 ^ k := Int.pow_pos (by decide)
  have hpm : 0 ≤ 2 ^ k * m := Int.mul_nonneg (Int.le_of_lt hp) hm
  unfold bits
  simp only [BitVec.toNat_or]
  rw [ofInt_toNat _ hpm (by omega), ofInt_toNat _ hb (by omega)]
  have e1 : (2 ^ k * m).toNat = 2 ^ k * m.toNat := by
    rw [Int.toNat_mul (Int.le_of_lt hp) hm, toNat_pow]
  have e2 : b.toNat < 2 ^ k := by
    have := toNat_pow k; omega
  rw [e1, ← Nat.two_pow_add_eq_or_of_lt e2]
  have e3 : ((2 ^ k * m.toNat + b.toNat : Nat) : Int) = 2 ^ k * m + b := by
    rw [Int.natCast_add, ← e1]; omega
  rw [u64_nat _ (by omega), e3]

theorem and_low (k : Nat) (w c : Int) (hw : 0 ≤ w) (h1 : w ≤ 18446744073709551615) (hc : c = 2 ^ k - 1) (hk : k < 64) :
    bits .and .u64 w c = w % 2 ^ k := by
  have hp : (0 : Int) < 2 ^ k := Int.pow_pos (by decide)
  have hq : (2 : Nat) ^ k ≤ 2 ^ 63 := Nat.pow_le_pow_right (by decide) (by omega)
  have hq' : ((2 : Int) ^ k) = ((2 ^ k : Nat) : Int) := by simp
  unfold bits
  simp only [BitVec.toNat_and]
  rw [ofInt_toNat _ hw h1, ofInt_toNat c (by omega) (by omega)]
  have e1 : c.toNat = 2 ^ k - 1 := by omega
  rw [e1, Nat.and_two_pow_sub_one_eq_mod]
  have e2 : ((w.toNat % 2 ^ k : Nat) : Int) = w % 2 ^ k := by
    rw [Int.natCast_emod]; rw [← hq', Int.toNat_of_nonneg hw]
  have e3 : w.toNat % 2 ^ k < 2 ^ k := Nat.mod_lt _ (Nat.pow_pos (by decide))
  rw [u64_nat _ (by omega), e2]

theorem or3 (m : Int) (hm : 0 ≤ m) (h : 16 * m + 3 ≤ 18446744073709551615) : bits .or .u64 (16 * m) 3 = 16 * m + 3 :=
  or_low 4 m 3 hm (by decide) (by decide) h
theorem or7 (m : Int) (hm : 0 ≤ m) (h : 16 * m + 7 ≤ 18446744073709551615) : bits .or .u64 (16 * m) 7 = 16 * m + 7 :=
  or_low 4 m 7 hm (by decide) (by decide) h
theorem and3 (w : Int) (h0 : 0 ≤ w) (h1 : w ≤ 18446744073709551615) : bits .and .u64 w 3 = w % 4 :=
  and_low 2 w 3 h0 h1 (by decide) (by decide)
theorem and15 (w : Int) (h0 : 0 ≤ w) (h1 : w ≤ 18446744073709551615) : bits .and .u64 w 15 = w % 16 :=
  and_low 4 w 15 h0 h1 (by decide) (by decide)

theorem or_comm (a b : Int) : bits .or .u64 a b = bits .or .u64 b a := by
  unfold bits; simp only [BitVec.or_comm]

theorem and4 (w : Int) (h0 : 0 ≤ w) (h1 : w ≤ 18446744073709551615) : bits .and .u64 w 4 = 4 * (w / 4 % 2) := by
  unfold bits
  simp only [BitVec.toNat_and]
  rw [ofInt_toNat _ h0 h1, ofInt_toNat 4 (by decide) (by decide)]
  have e : w.toNat &&& (4 : Int).toNat = 4 * (w.toNat / 4 % 2) := by
    show w.toNat &&& 4 = _
    have h1 : (w.toNat &&& 4) % 2 ^ 3 = (w.toNat % 2 ^ 3) &&& (4 % 2 ^ 3) := Nat.and_mod_two_pow
    have h2 : (w.toNat &&& 4) ≤ 4 := Nat.and_le_right
    have h3 : ∀ r : Nat, r < 8 → (r &&& 4) = 4 * (r / 4 % 2) := by decide
    have h4 := h3 (w.toNat % 8) (Nat.mod_lt _ (by decide))
    have h5 : (w.toNat &&& 4) % 2 ^ 3 = (w.toNat &&& 4) := Nat.mod_eq_of_lt (by omega)
    rw [← h5, h1]
    show (w.toNat % 8) &&& 4 = _
    rw [h4]
    omega
  rw [e, u64_nat _ (by omega)]
  omega
end Go.Proofs.YtpnlnbolhkcnjaaGreat.words
