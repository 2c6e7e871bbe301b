/- Bits,Wd,WordsA. No condition beyond theirs. -/
import Derived.WalkKit
import Derived.Test.YtpnlnbolhkcnjaaGreatRows
import Derived.Lib.Hide
set_option linter.unusedSimpArgs false
set_option linter.unusedVariables false
set_option maxHeartbeats 400000
namespace Go.Proofs.YtpnlnbolhkcnjaaGreat
namespace words
open Go.RowKit
theorem ofInt_toNat (a:Int) (h0:0 ≤ a) (h1:a ≤ 18446744073709551615):(BitVec.ofInt IntKind.u64.bits a).toNat = a.toNat:=by
 show (BitVec.ofInt 64 a).toNat = _;rw [BitVec.toNat_ofInt];omega
theorem u64_nat (n:Nat) (h:n ≤ 18446744073709551615):IntKind.u64.wrap (n:Int) = n:=IntWalk.u64_in _ (by omega)
theorem toNat_pow (k:Nat):((2:Int) ^ k).toNat = 2 ^ k:=by
 have:((2:Int) ^ k) = ((2 ^ k:Nat):Int):=by simp
 rw [this,Int.toNat_natCast]
theorem or_low (k:Nat) (m b:Int) (hm:0 ≤ m) (hb:0 ≤ b) (hlt:b < 2 ^ k) (hmax:2 ^ k * m + b ≤ 18446744073709551615) :
 bits .or .u64 (2 ^ k * m) b = 2 ^ k * m + b:=by
 have hp:(0:Int) < 2 ^ k:=Int.pow_pos (by decide);have hpm:0 ≤ 2 ^ k * m:=Int.mul_nonneg (Int.le_of_lt hp) hm;unfold bits;simp only [BitVec.toNat_or];rw [ofInt_toNat _ hpm (by omega),ofInt_toNat _ hb (by omega)];have e1:(2 ^ k * m).toNat = 2 ^ k * m.toNat:=by
  rw [Int.toNat_mul (Int.le_of_lt hp) hm,toNat_pow]
 have e2:b.toNat < 2 ^ k:=by
  have:=toNat_pow k;omega
 rw [e1,← Nat.two_pow_add_eq_or_of_lt e2];have e3:((2 ^ k * m.toNat + b.toNat:Nat):Int) = 2 ^ k * m + b:=by
  rw [Int.natCast_add,← e1];omega
 rw [u64_nat _ (by omega),e3]
theorem and_low (k:Nat) (w c:Int) (hw:0 ≤ w) (h1:w ≤ 18446744073709551615) (hc:c = 2 ^ k - 1) (hk:k < 64) :
 bits .and .u64 w c = w % 2 ^ k:=by
 have hp:(0:Int) < 2 ^ k:=Int.pow_pos (by decide);have hq:(2:Nat) ^ k ≤ 2 ^ 63:=Nat.pow_le_pow_right (by decide) (by omega);have hq':((2:Int) ^ k) = ((2 ^ k:Nat):Int):=by simp
 unfold bits;simp only [BitVec.toNat_and];rw [ofInt_toNat _ hw h1,ofInt_toNat c (by omega) (by omega)];have e1:c.toNat = 2 ^ k - 1:=by omega
 rw [e1,Nat.and_two_pow_sub_one_eq_mod];have e2:((w.toNat % 2 ^ k:Nat):Int) = w % 2 ^ k:=by
  rw [Int.natCast_emod];rw [← hq',Int.toNat_of_nonneg hw]
 have e3:w.toNat % 2 ^ k < 2 ^ k:=Nat.mod_lt _ (Nat.pow_pos (by decide));rw [u64_nat _ (by omega),e2]
theorem or3 (m:Int) (hm:0 ≤ m) (h:16 * m + 3 ≤ 18446744073709551615):bits .or .u64 (16 * m) 3 = 16 * m + 3 :=
 or_low 4 m 3 hm (by decide) (by decide) h
theorem or7 (m:Int) (hm:0 ≤ m) (h:16 * m + 7 ≤ 18446744073709551615):bits .or .u64 (16 * m) 7 = 16 * m + 7 :=
 or_low 4 m 7 hm (by decide) (by decide) h
theorem and3 (w:Int) (h0:0 ≤ w) (h1:w ≤ 18446744073709551615):bits .and .u64 w 3 = w % 4 :=
 and_low 2 w 3 h0 h1 (by decide) (by decide)
theorem and15 (w:Int) (h0:0 ≤ w) (h1:w ≤ 18446744073709551615):bits .and .u64 w 15 = w % 16 :=
 and_low 4 w 15 h0 h1 (by decide) (by decide)
theorem or_comm (a b:Int):bits .or .u64 a b = bits .or .u64 b a:=by
 unfold bits;simp only [BitVec.or_comm]
theorem and4 (w:Int) (h0:0 ≤ w) (h1:w ≤ 18446744073709551615):bits .and .u64 w 4 = 4 * (w / 4 % 2):=by
 unfold bits;simp only [BitVec.toNat_and];rw [ofInt_toNat _ h0 h1,ofInt_toNat 4 (by decide) (by decide)];have e:w.toNat &&& (4:Int).toNat = 4 * (w.toNat / 4 % 2):=by
  show w.toNat &&& 4 = _;have h1:(w.toNat &&& 4) % 2 ^ 3 = (w.toNat % 2 ^ 3) &&& (4 % 2 ^ 3):=Nat.and_mod_two_pow;have h2:(w.toNat &&& 4) ≤ 4:=Nat.and_le_right;have h3:∀ r:Nat,r < 8→(r &&& 4) = 4 * (r / 4 % 2):=by decide
  have h4:=h3 (w.toNat % 8) (Nat.mod_lt _ (by decide));have h5:(w.toNat &&& 4) % 2 ^ 3 = (w.toNat &&& 4):=Nat.mod_eq_of_lt (by omega);rw [← h5,h1];show (w.toNat % 8) &&& 4 = _;rw [h4];omega
 rw [e,u64_nat _ (by omega)];omega
end words
namespace words
def smallOk (n:Int):Bool:=decide (-576460752303423488 ≤ n∧n < 576460752303423488)
def smallW (n:Int):Int:=if smallOk n then 16 * (n % 1152921504606846976) + 3 else 0
def idxOk (i:Int):Bool:=decide (0 ≤ i∧i < 2147483648)
def atomW (i:Int):Int:=if idxOk i then 16 * i + 7 else 0
def ptrW (tag:Int) (old:Bool) (i:Int):Int:=if idxOk i then 8 * i + tag + (if old then 4 else 0) else 0
def hdOk (k n:Int):Bool:=decide (1 ≤ k∧k ≤ 8∧0 ≤ n∧n ≤ 65535)
def hdW (k n:Int):Int:=if hdOk k n then 64 * n + 4 * k else 0
def soOk (w:Int):Bool:=decide (w % 16 = 3)
def soN (w:Int):Int:=if soOk w then (if w / 16 ≥ 576460752303423488 then w / 16 - 1152921504606846976 else w / 16) else 0
def aoOk (w:Int):Bool:=decide (w % 16 = 7∧w / 16 < 2147483648)
def aoN (w:Int):Int:=if aoOk w then w / 16 else 0
def pOk (w:Int):Bool:=decide ((w % 4 = 1∨w % 4 = 2)∧w / 8 < 2147483648)
def pOld (w:Int):Bool:=pOk w && decide (w / 4 % 2 = 1)
def pIx (w:Int):Int:=if pOk w then w / 8 else 0
def hoOk (w:Int):Bool:=decide (w % 4 = 0∧1 ≤ w / 4 % 16∧w / 4 % 16 ≤ 8∧w / 64 ≤ 65535)
def hoK (w:Int):Int:=if hoOk w then w / 4 % 16 else 0
def hoN (w:Int):Int:=if hoOk w then w / 64 else 0
def vOk (w:Int):Bool:=soOk w || aoOk w || pOk w || hoOk w || decide (w = 11)
end words
namespace words
open Go.RowKit
theorem ret2 {k1:IntKind} {b1 b2:Bool} {x1 x2:Int} (h1:x1 = x2) (h2:b1 = b2) :
 Ending.returned (.tuple #[.int k1 x1,.bool b1]) = .returned (.tuple #[.int k1 x2,.bool b2]):=by rw [h1,h2]
theorem small_raw (n:Int) (h0:-9223372036854775808 ≤ n) (h1:n ≤ 9223372036854775807) :
 bits .or .u64 (IntKind.u64.wrap (IntKind.u64.wrap n * 16)) 3 = 16 * (n % 1152921504606846976) + 3:=by
 have e:IntKind.u64.wrap (IntKind.u64.wrap n * 16) = 16 * (n % 1152921504606846976):=by
  rw [IntKind.wrap_u64,IntKind.wrap_u64];omega
 rw [e,or3 _ (by omega) (by omega)]
theorem Small (n:Int) (h0:-9223372036854775808 ≤ n) (h1:n ≤ 9223372036854775807) (w:World) :
 Calls Tryz.prog 96 #[.int .i64 n] w fun e w'=>e = .returned (.tuple #[.int .u64 (smallW n),.bool (smallOk n)])∧w = w':=by
 have hr:=small_raw n h0 h1;have Hr:=Lib.hid hr;clear hr
 by_cases a:n ≤ 576460752303423487
 ·by_cases b:n < -576460752303423488
  ·go_enter Tryz.func96,Tryz.ntmps96;go_wp2
   go_ret2
   exact ⟨ret2 (by unfold smallW smallOk;rw [if_neg (by simp;omega)]) (by unfold smallOk;simp;omega),rfl⟩
  ·go_enter Tryz.func96,Tryz.ntmps96;go_wp2
   go_ret2
   exact ⟨ret2 (by unfold smallW smallOk;rw [if_pos (by simp;omega)];exact Hr.out) (by unfold smallOk;simp;omega),rfl⟩
 ·go_enter Tryz.func96,Tryz.ntmps96;go_wp2
  go_ret2
  exact ⟨ret2 (by unfold smallW smallOk;rw [if_neg (by simp;omega)]) (by unfold smallOk;simp;omega),rfl⟩
theorem atom_raw (i:Int) (h0:0 ≤ i) (h1:i < 2147483648):bits .or .u64 (i * 16) 7 = 16 * i + 7:=by
 rw [show i * 16 = 16 * i by omega,or7 _ (by omega) (by omega)]
theorem ptr_raw (tag i:Int) (h0:0 ≤ i) (h1:i < 2147483648) (t0:0 ≤ tag) (t1:tag < 8):bits .or .u64 tag (i * 8) = 8 * i + tag:=by
 rw [or_comm,show i * 8 = 2 ^ 3 * i by omega,or_low 3 _ _ (by omega) (by omega) (by omega) (by omega)];rfl
theorem tag_raw (tag:Int) (h:tag = 1∨tag = 2):bits .or .u64 tag 4 = tag + 4:=by
 rcases h with rfl | rfl <;> decide +kernel
theorem Ptr (tag:Int) (ht:tag = 1∨tag = 2) (old:Bool) (i:Int) (w:World) :
 Calls Tryz.prog 194 #[.int .u64 tag,.bool old,.int .i64 i] w fun e w'=>e = .returned (.tuple #[.int .u64 (ptrW tag old i),.bool (idxOk i)])∧w = w':=by
 by_cases b:i < 0
 ·go_enter Tryz.func194,Tryz.ntmps194;go_wp2
  go_ret2
  exact ⟨ret2 (by unfold ptrW idxOk;rw [if_neg (by simp;omega)]) (by unfold idxOk;simp;omega),rfl⟩
 ·by_cases a:i ≤ 2147483647
  ·have Hr:=Lib.hid (ptr_raw tag i (by omega) (by omega) (by omega) (by omega));have Hs:=Lib.hid (ptr_raw (tag + 4) i (by omega) (by omega) (by omega) (by omega));have Ht:=Lib.hid (tag_raw tag ht)
   cases old
   ·go_enter Tryz.func194,Tryz.ntmps194;go_wp2
    go_ret2
    exact ⟨ret2 (by unfold ptrW idxOk;rw [if_pos (by simp;omega),Hr.out];simp) (by unfold idxOk;simp;omega),rfl⟩
   ·go_enter Tryz.func194,Tryz.ntmps194;go_wp2
    go_ret2
    exact ⟨ret2 (by unfold ptrW idxOk;rw [if_pos (by simp;omega),Ht.out,Hs.out];simp;omega) (by unfold idxOk;simp;omega),rfl⟩
  ·go_enter Tryz.func194,Tryz.ntmps194;go_wp2
   go_ret2
   exact ⟨ret2 (by unfold ptrW idxOk;rw [if_neg (by simp;omega)]) (by unfold idxOk;simp;omega),rfl⟩
theorem RPtr (tag:Int) (h0:0 ≤ tag) (h1:tag ≤ 3) (old:Bool) (i:Int) (w:World) :
 Calls Tryz.prog 84 #[.int .i64 tag,.bool old,.int .i64 i] w fun e w'=>e = .returned (.tuple #[.int .u64 (ptrW tag old i),.bool (idxOk i)])∧w = w':=by
 by_cases b:i < 0
 ·go_enter Tryz.func84,Tryz.ntmps84;go_wp2
  go_ret2
  exact ⟨ret2 (by unfold ptrW idxOk;rw [if_neg (by simp;omega)]) (by unfold idxOk;simp;omega),rfl⟩
 ·by_cases a:i ≤ 2147483647
  ·cases old
   all_goals
    go_enter Tryz.func84,Tryz.ntmps84;go_wp2
    go_ret2
    exact ⟨ret2 (by unfold ptrW idxOk;rw [if_pos (by simp;omega)];simp;omega) (by unfold idxOk;simp;omega),rfl⟩
  ·go_enter Tryz.func84,Tryz.ntmps84;go_wp2
   go_ret2
   exact ⟨ret2 (by unfold ptrW idxOk;rw [if_neg (by simp;omega)]) (by unfold idxOk;simp;omega),rfl⟩
theorem List (old:Bool) (i:Int) (w:World) :
 Calls Tryz.prog 166 #[.bool old,.int .i64 i] w fun e w'=>e = .returned (.tuple #[.int .u64 (ptrW 1 old i),.bool (idxOk i)])∧w = w':=by
 go_enter Tryz.func166,Tryz.ntmps166;go_wp2_with (go_at_call 194;refine (Ptr 1 (.inl rfl) _ _ _).mono ?_;rintro e w' ⟨rfl,rfl⟩)
 go_ret2
 exact ⟨rfl,rfl⟩
theorem RList (old:Bool) (i:Int) (w:World) :
 Calls Tryz.prog 28 #[.bool old,.int .i64 i] w fun e w'=>e = .returned (.tuple #[.int .u64 (ptrW 1 old i),.bool (idxOk i)])∧w = w':=by
 go_enter Tryz.func28,Tryz.ntmps28;go_wp2_with (go_at_call 84;refine (RPtr 1 (by decide) (by decide) _ _ _).mono ?_;rintro e w' ⟨rfl,rfl⟩)
 go_ret2
 exact ⟨rfl,rfl⟩
theorem Box (old:Bool) (i:Int) (w:World) :
 Calls Tryz.prog 148 #[.bool old,.int .i64 i] w fun e w'=>e = .returned (.tuple #[.int .u64 (ptrW 2 old i),.bool (idxOk i)])∧w = w':=by
 go_enter Tryz.func148,Tryz.ntmps148;go_wp2_with (go_at_call 194;refine (Ptr 2 (.inr rfl) _ _ _).mono ?_;rintro e w' ⟨rfl,rfl⟩)
 go_ret2
 exact ⟨rfl,rfl⟩
theorem Nil (w:World):Calls Tryz.prog 140 #[] w fun e w'=>e = .returned (.int .u64 11)∧w = w':=by
 go_enter Tryz.func140,Tryz.ntmps140;go_wp2
 go_ret;exact ⟨rfl,rfl⟩
theorem hd_raw (k n:Int) (h:hdOk k n = true):bits .or .u64 (n * 16) k * 4 = 64 * n + 4 * k:=by
 unfold hdOk at h;have h:=of_decide_eq_true h;rw [show n * 16 = 2 ^ 4 * n by omega,or_low 4 _ _ (by omega) (by omega) (by omega) (by omega)];omega
end words
end Go.Proofs.YtpnlnbolhkcnjaaGreat
