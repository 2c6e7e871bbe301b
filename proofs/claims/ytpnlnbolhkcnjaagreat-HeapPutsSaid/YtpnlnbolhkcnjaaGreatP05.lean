/- HpD,HpE. No condition beyond theirs. -/
import Derived.Test.YtpnlnbolhkcnjaaGreatP04
import Derived.LoopN
set_option linter.unusedSimpArgs false
set_option linter.unusedVariables false
set_option maxHeartbeats 4000000
set_option maxRecDepth 100000
namespace Go.Proofs.YtpnlnbolhkcnjaaGreat.hp
open Go.RowKit mem words rec
theorem integer97 (w:World) (p:Option Addr) (n:Int) (h0:-9223372036854775808 ≤ n) (h1:n ≤ 9223372036854775807) (hs:smallOk n = true) :
 Calls Tryz.prog 97 #[.pointer p,.int .i64 n] w fun e w'=>e = .returned (.int .u64 (smallW n))∧w = w':=by
 have HS:=Lib.hid (fun W=>words.Small n h0 h1 W);clear h0 h1;go_enter Tryz.func97,Tryz.ntmps97;go_wp2_with fail;refine (HS.out _).mono ?_;rintro e w' ⟨rfl,rfl⟩;go_wp2_with fail;go_ret;exact ⟨rfl,rfl⟩
def mkc (k:Nat):Array Value:=madeCells (Value.int .u64 0).cells k
theorem mkc_size (k:Nat):(mkc k).size = k:=by unfold mkc;rw [size_madeCells]
theorem mk22 (W:World) (k:Nat) (hk:k ≤ 100000):(Instr.makeSlice 22 (.int .i64 0) (.int .i64 k)).run Tryz.prog W = .ok (.slice (some ⟨W.heap.size,0,none⟩) 0 k) (W.alloc (.cells (mkc k) 40)):=by
 obtain ⟨hund,⟨i,z,hi,hz,hs,hzs,hby⟩,hpos⟩:=elW;have hz':z = .int .u64 0:=by
  have:=info40;rw [hi] at this;simp only [Option.map_some,Option.some.injEq,Prod.mk.injEq] at this;rw [hz] at this;exact Option.some.inj this.1
 subst hz';have:=run_make (P:=Tryz.prog) W 22 40 i _ hund hi hz .i64 .i64 0 (k:Int) (by omega) (by omega) (by
  have:i.bytes * k ≤ 10000 * 100000:=Nat.mul_le_mul hby hk
  have h2:((i.bytes * k:Nat):Int) ≤ ((10000 * 100000:Nat):Int):=Int.ofNat_le.2 this
  rw [Int.natCast_mul] at h2
  omega) (by omega)
 rw [hs,Int.toNat_natCast,Nat.mul_one] at this;exact this
abbrev flatT (k n:Int):Value:=.agg #[.int .i64 k,.int .i64 n,.int .i64 0,.string ⟨#[]⟩,.string ⟨#[]⟩,.int .i64 0,.slice none 0 0,.string ⟨#[]⟩,.int .i64 0]
abbrev flatC (k n:Int):Array Value:=#[.int .i64 k,.int .i64 n,.int .i64 0,.string ⟨#[]⟩,.string ⟨#[]⟩,.int .i64 0,.slice none 0 0,.string ⟨#[]⟩,.int .i64 0]
theorem putInt (w:World) (p:Option Addr) (n:Int) (h0:-9223372036854775808 ≤ n) (h1:n ≤ 9223372036854775807) (hs:smallOk n = true) :
 Calls Tryz.prog 69 #[.pointer p,flatT 1 n] w fun e w'=>e = .returned (.int .u64 (smallW n))∧Below w.heap.size w w':=by
 have HI:=Lib.hid (fun W=>integer97 W p n h0 h1 hs);have hmk:∀ W:World,(Instr.makeSlice 22 (.int .i64 0) (.int .i64 0)).run Tryz.prog W = .ok (.slice (some ⟨W.heap.size,0,none⟩) 0 0) (W.alloc (.cells (mkc 0) 40)):=fun W=>mk22 W 0 (by omega);have HB:=Lib.hid (fun o o'=>belowA (belowA (Below.refl _ w) o) o');clear h0 h1 hs;go_enter Tryz.func69,Tryz.ntmps69;go_wp2_with fail;refine wp_loop_rounds 1 ?_;rw [rounds_succ];go_wp2_with fail;refine (HI.out _).mono ?_;rintro e w' ⟨rfl,rfl⟩;go_wp2_with fail;go_ret;exact ⟨rfl,HB.out _ _⟩
theorem putNil (w:World) (p:Option Addr) (n:Int) :
 Calls Tryz.prog 69 #[.pointer p,flatT 8 n] w fun e w'=>e = .returned (.int .u64 11)∧Below w.heap.size w w':=by
 have HI:=Lib.hid (fun W=>words.Nil W);have hmk:∀ W:World,(Instr.makeSlice 22 (.int .i64 0) (.int .i64 0)).run Tryz.prog W = .ok (.slice (some ⟨W.heap.size,0,none⟩) 0 0) (W.alloc (.cells (mkc 0) 40)):=fun W=>mk22 W 0 (by omega);have HB:=Lib.hid (fun o o'=>belowA (belowA (Below.refl _ w) o) o');go_enter Tryz.func69,Tryz.ntmps69;go_wp2_with fail;refine wp_loop_rounds 1 ?_;rw [rounds_succ];go_wp2_with fail;refine (HI.out _).mono ?_;rintro e w' ⟨rfl,rfl⟩;go_wp2_with fail;go_ret;exact ⟨rfl,HB.out _ _⟩
theorem needInt (w:World) (n:Int) (h0:-9223372036854775808 ≤ n) (h1:n ≤ 9223372036854775807) (hs:smallOk n = true) :
 Calls Tryz.prog 68 #[flatT 1 n] w fun e w'=>e = .returned (.int .i64 0)∧Below w.heap.size w w':=by
 have HI:=Lib.hid (fun W=>words.Small n h0 h1 W);have HB:=Lib.hid (fun o=>belowA (Below.refl _ w) o);clear h0 h1;go_enter Tryz.func68,Tryz.ntmps68;go_wp2_with fail;refine (HI.out _).mono ?_;rintro e w' ⟨rfl,rfl⟩;go_wp2_with fail;refine wp_loop_rounds 1 ?_;rw [rounds_succ];go_wp2_with fail;go_ret;exact ⟨rfl,HB.out _⟩
theorem needNil (w:World) (n:Int) :
 Calls Tryz.prog 68 #[flatT 8 n] w fun e w'=>e = .returned (.int .i64 0)∧Below w.heap.size w w':=by
 have HB:=Lib.hid (fun o=>belowA (Below.refl _ w) o);go_enter Tryz.func68,Tryz.ntmps68;go_wp2_with fail;refine wp_loop_rounds 1 ?_;rw [rounds_succ];go_wp2_with fail;go_ret;exact ⟨rfl,HB.out _⟩
abbrev flatL (k n:Int):List Value:=[.int .i64 k,.int .i64 n,.int .i64 0,.string ⟨#[]⟩,.string ⟨#[]⟩,.int .i64 0,.slice none 0 0,.string ⟨#[]⟩,.int .i64 0]
def aw3:Array Value:=(flatL 1 1 ++ flatL 1 1 ++ flatL 8 0).toArray
theorem aw3_range {w:World} {g:Nat} (h:w.heap[g]? = some (.cells aw3 38)):w.rangeAt g 0 (flatL 1 1)∧w.rangeAt g 9 (flatL 1 1)∧w.rangeAt g 18 (flatL 8 0):=by
 have e:∀ j,w.cell? ⟨g,j,none⟩ = (flatL 1 1 ++ flatL 1 1 ++ flatL 8 0)[j]?:=fun j=>by rw [cell_of_blk h];simp [aw3]
 refine ⟨fun j v hj=>?_,fun j v hj=>?_,fun j v hj=>?_⟩
 ·have hl:=(List.getElem?_eq_some_iff.1 hj).1;rw [Nat.zero_add,e,List.append_assoc,List.getElem?_append_left hl,hj]
 ·have hl:=(List.getElem?_eq_some_iff.1 hj).1;rw [e,List.append_assoc,List.getElem?_append_right (by simp),List.getElem?_append_left (by simpa using hl)];simpa using hj
 ·have hl:=(List.getElem?_eq_some_iff.1 hj).1;rw [e,List.getElem?_append_right (by simp)];simpa using hj
abbrev listT (g:Nat):Value:=.agg #[.int .i64 9,.int .i64 0,.int .i64 0,.string ⟨#[]⟩,.string ⟨#[]⟩,.int .i64 0,.slice (some ⟨g,0,none⟩) 3 3,.string ⟨#[]⟩,.int .i64 0]
theorem needL (w:World) (g:Nat) (hg:w.heap[g]? = some (.cells aw3 38)) :
 Calls Tryz.prog 68 #[listT g] w fun e w'=>e = .returned (.int .i64 4)∧Below w.heap.size w w':=by
 have HR:=Lib.hid (fun W (hb:Below w.heap.size w W)=>aw3_range (w:=W) ((hb.block g (Array.getElem?_eq_some_iff.1 hg).1).trans hg));have HI:=Lib.hid (fun W=>needInt W 1 (by omega) (by omega) (by decide));have HN:=Lib.hid (fun W=>needNil W 0);have HB:=Lib.hid (fun o=>belowA (Below.refl _ w) o);clear hg;go_enter Tryz.func68,Tryz.ntmps68;go_wp2_with fail;refine wp_loop_rounds 4 ?_;rw [rounds_succ];go_wp2_with (refine wpList_load_mid rfl 38 (.tmp 53) rfl g 0 rfl (flatL 1 1) _ (HR.out _ (HB.out _)).1 Tryz.underlying38 rfl (by kernel_rfl) ?_)
 refine (HI.out _).mono ?_;rintro e W1 ⟨rfl,hb1⟩;have HB1:=Lib.hid (show Below w.heap.size w W1 from (belowA (belowA (Below.refl _ w) _) _).trans (hb1.mono (belowA (belowA (Below.refl _ w) _) _).size));clear hb1;go_wp2_with fail;rw [rounds_succ];go_wp2_with (refine wpList_load_mid rfl 38 (.tmp 53) rfl g 9 rfl (flatL 1 1) _ (HR.out _ HB1.out).2.1 Tryz.underlying38 rfl (by kernel_rfl) ?_)
 refine (HI.out _).mono ?_;rintro e W2 ⟨rfl,hb2⟩;have HB2:=Lib.hid (show Below w.heap.size w W2 from (belowA HB1.out _).trans (hb2.mono (belowA HB1.out _).size));clear hb2;go_wp2_with fail;rw [rounds_succ];go_wp2_with (refine wpList_load_mid rfl 38 (.tmp 53) rfl g 18 rfl (flatL 8 0) _ (HR.out _ HB2.out).2.2 Tryz.underlying38 rfl (by kernel_rfl) ?_)
 refine (HN.out _).mono ?_;rintro e W3 ⟨rfl,hb3⟩;have HB3:=Lib.hid (show Below w.heap.size w W3 from (belowA HB2.out _).trans (hb3.mono (belowA HB2.out _).size));clear hb3;go_wp2_with fail;rw [rounds_succ];go_wp2_with fail;go_ret;exact ⟨rfl,HB3.out⟩
end Go.Proofs.YtpnlnbolhkcnjaaGreat.hp
