/- HpL,HpN,HpO. No condition beyond theirs. -/
import Derived.Test.YtpnlnbolhkcnjaaGreatP32
set_option linter.unusedSimpArgs false
set_option linter.unusedVariables false
set_option maxHeartbeats 4000000
set_option maxRecDepth 100000
namespace Go.Proofs.YtpnlnbolhkcnjaaGreat
namespace hp
open Go.RowKit mem words rec tm
abbrev aw27:Array Value:=#[.int .i64 1,.int .i64 1,.int .i64 0,.string ⟨#[]⟩,.string ⟨#[]⟩,.int .i64 0,.slice none 0 0,.string ⟨#[]⟩,.int .i64 0,.int .i64 1,.int .i64 1,.int .i64 0,.string ⟨#[]⟩,.string ⟨#[]⟩,.int .i64 0,.slice none 0 0,.string ⟨#[]⟩,.int .i64 0,.int .i64 8,.int .i64 0,.int .i64 0,.string ⟨#[]⟩,.string ⟨#[]⟩,.int .i64 0,.slice none 0 0,.string ⟨#[]⟩,.int .i64 0]
theorem w4_facts (w W:World) (hW:(((w.alloc (.cells (flatC 1 1) 38)).alloc (.cells (flatC 8 0) 38)).alloc (.cells aw27 38)).alloc (.cells (flatC9 (w.heap.size + 1 + 1)) 38) = W):Below w.heap.size w W∧W.heap[w.heap.size + 1 + 1]? = some (.cells aw3 38)∧W.heap[w.heap.size + 1 + 1 + 1]? = some (.cells (flatC9 (w.heap.size + 1 + 1)) 38)∧W.heap.size = w.heap.size + 1 + 1 + 1 + 1:=by
 subst hW;have s1:(w.alloc (.cells (flatC 1 1) 38)).heap.size = w.heap.size + 1:=World.size_alloc _ _;have s2:((w.alloc (.cells (flatC 1 1) 38)).alloc (.cells (flatC 8 0) 38)).heap.size = w.heap.size + 1 + 1:=by rw [World.size_alloc,s1]
 have s3:(((w.alloc (.cells (flatC 1 1) 38)).alloc (.cells (flatC 8 0) 38)).alloc (.cells aw27 38)).heap.size = w.heap.size + 1 + 1 + 1:=by rw [World.size_alloc,s2]
 have h3:=heap_alloc_new ((w.alloc (.cells (flatC 1 1) 38)).alloc (.cells (flatC 8 0) 38)) (.cells aw27 38);have h4:=heap_alloc_new (((w.alloc (.cells (flatC 1 1) 38)).alloc (.cells (flatC 8 0) 38)).alloc (.cells aw27 38)) (.cells (flatC9 (w.heap.size + 1 + 1)) 38);rw [s2] at h3;rw [s3] at h4;refine ⟨belowA (belowA (belowA (belowA (Below.refl _ w) _) _) _) _,?_,h4,by rw [World.size_alloc,s3]⟩;exact (heap_alloc_old _ _ (by rw [s3];omega)).trans h3
abbrev BoxV (x:Nat) (p:Option Addr) (k:Nat) (W:World):Prop:=W.cell? ⟨x,0,none⟩ = some (.int .i64 9)∧W.cell? ⟨x,1,none⟩ = some (.int .i64 0)∧W.cell? ⟨x,2,none⟩ = some (.int .i64 0)∧W.cell? ⟨x,3,none⟩ = some (.string ⟨#[]⟩)∧W.cell? ⟨x,4,none⟩ = some (.string ⟨#[]⟩)∧W.cell? ⟨x,5,none⟩ = some (.int .i64 0)∧W.cell? ⟨x,6,none⟩ = some (.slice p 3 k)∧W.cell? ⟨x,7,none⟩ = some (.string ⟨#[]⟩)∧W.cell? ⟨x,8,none⟩ = some (.int .i64 0)
theorem boxV {W:World} {x k:Nat} {p:Option Addr} (h:W.heap[x]? = some (.cells (flatV (.slice p 3 k)) 38)):BoxV x p k W :=
 ⟨(cell_of_blk h).trans rfl,(cell_of_blk h).trans rfl,(cell_of_blk h).trans rfl,(cell_of_blk h).trans rfl,(cell_of_blk h).trans rfl,(cell_of_blk h).trans rfl,(cell_of_blk h).trans rfl,(cell_of_blk h).trans rfl,(cell_of_blk h).trans rfl⟩
theorem awake11 (w:World):Calls Tryz.prog 11 #[] w fun e w'=>e = .returned (.bool true)∧Below w.heap.size w w':=by
 have H14:=Lib.hid (fun W=>names14 W);have H15:=Lib.hid (fun W=>blobs15 W);have H17:=Lib.hid (fun W a b=>heap17 W a b 100 (by omega) (by omega));go_enter Tryz.func11,Tryz.ntmps11;go_wp2_with fail;refine (H14.out _).mono ?_;rintro e w1 ⟨a,rfl,hb1⟩;go_wp2_with fail;refine (H15.out _).mono ?_;rintro e w2 ⟨b,rfl,hb2⟩;go_wp2_with fail;refine (H17.out _ a b).mono ?_;rintro e w3 ⟨z,rfl,hb3,hA⟩;have HB3:=Lib.hid ((hb1.trans (hb2.mono hb1.size)).trans (hb3.mono (hb1.trans (hb2.mono hb1.size)).size));have HBw:=Lib.hid (hb1.trans (hb2.mono hb1.size)).size;have HH:=Lib.hid hA;clear hb1 hb2 hb3 hA
 go_upto_region 6 with (fail);generalize hW:(((w3.alloc (.cells (flatC 1 1) 38)).alloc (.cells (flatC 8 0) 38)).alloc (.cells aw27 38)).alloc (.cells (flatC9 (w3.heap.size + 1 + 1)) 38) = w4 at *;obtain ⟨hb4,hg,ht,hs4⟩:=w4_facts w3 w4 hW;clear hW;have hz3:z < w3.heap.size:=(Array.getElem?_eq_some_iff.1 HH.out.blk).1;have HP:=Lib.hid (put18 (HH.out.below hb4) hg);obtain ⟨x0,x1,x2,x3,x4,x5,x6,x7,x8⟩:=boxF ht;have HB4:=Lib.hid (HB3.out.trans (hb4.mono HB3.out.size))
 have HF:=Lib.hid (⟨hg,ht,hs4,hz3⟩:w4.heap[w3.heap.size + 1 + 1]? = some (.cells aw3 38)∧w4.heap[w3.heap.size + 1 + 1 + 1]? = some (.cells (flatC9 (w3.heap.size + 1 + 1)) 38)∧w4.heap.size = w3.heap.size + 1 + 1 + 1 + 1∧z < w3.heap.size);have HZ:=Lib.hid (Nat.le_trans HBw.out HH.out.hz);clear hb4 hg ht hs4 hz3 HH;go_wp2_with fail;refine HP.out.mono ?_;rintro e w5 ⟨rfl,vY,vF,hA5,t5,c5⟩;have hno:∀ k,k ≠ z→¬ HB z (.slice none 0 0) (.slice none 0 0) k:=fun k hk h=>by
  rcases h with h | h | h
  ·exact hk h
  ·simp [Value.ownBlock] at h
  ·simp [Value.ownBlock] at h
 have hg5:=(t5.block (w3.heap.size + 1 + 1) (by have:=HF.out.2.2;omega) (hno _ (by have:=HF.out.2.2;omega))).trans HF.out.1;have ht5:=(t5.block (w3.heap.size + 1 + 1 + 1) (by have:=HF.out.2.2;omega) (hno _ (by have:=HF.out.2.2;omega))).trans HF.out.2.1;have hb5:Below w.heap.size w w5:=HB4.out.trans (t5.below (fun k hk=>by
  by_cases e:k = z
  ·have:=HZ.out;omega
  ·exact absurd hk (hno k e)) HB4.out.size)
 have hs5:=t5.size;have HB5:=Lib.hid hb5;have HF5:=Lib.hid (⟨hg5,ht5,by have:=HF.out.2.2;omega⟩:w5.heap[w3.heap.size + 1 + 1]? = some (.cells aw3 38)∧w5.heap[w3.heap.size + 1 + 1 + 1]? = some (.cells (flatC9 (w3.heap.size + 1 + 1)) 38)∧w3.heap.size + 1 + 1 + 1 < w5.heap.size);have HA5:=Lib.hid hA5;have HG:=Lib.hid (get29 hA5);clear hno hg5 ht5 hb5 hs5 hA5 t5 c5 x0 x1 x2 x3 x4 x5 x6 x7 x8 HP HF HB4 HB3;go_wp2_with fail;refine HG.out.mono ?_;rintro e w6 ⟨p,k,rfl,hO,hb6⟩;have hnew:=heap_alloc_new w6 (.cells (flatV (.slice p 3 k)) 38)
 have hb7:Below w5.heap.size w5 (w6.alloc (.cells (flatV (.slice p 3 k)) 38)):=hb6.alloc hb6.size _;have hO7:=hO.below (belowA (Below.refl _ w6) (.cells (flatV (.slice p 3 k)) 38));have hs7:(w6.alloc (.cells (flatV (.slice p 3 k)) 38)).heap.size = w6.heap.size + 1:=World.size_alloc _ _;go_upto_region 8 with (fail);generalize w6.alloc (.cells (flatV (.slice p 3 k)) 38) = w7 at *;have hg7:=(hb7.block (w3.heap.size + 1 + 1) (by have:=HF5.out.2.2;omega)).trans HF5.out.1;have ht7:=(hb7.block (w3.heap.size + 1 + 1 + 1) HF5.out.2.2).trans HF5.out.2.1;have hgl:=(Array.getElem?_eq_some_iff.1 hg7).1
 obtain ⟨u0,u1,u2,u3,u4,u5,u6,u7,u8⟩:=boxV hnew;obtain ⟨x0,x1,x2,x3,x4,x5,x6,x7,x8⟩:=boxF ht7;have HSm:Hid (Calls Tryz.prog 38 #[.agg (flatV (.slice p 3 k)),listT (w3.heap.size + 1 + 1)] w7 fun e w'=>e = .returned (.bool true)∧Below w7.heap.size w7 w'):=Lib.hid (by
  have:=sameOne w7 w7.heap.size _ _ t0 t0 (Nat.le_refl _) (items_of (hO7.row (encT_ok _))) (items_of ((aw3_row hg7).more (by omega)))
  rw [eqB_t rfl] at this
  exact this)
 have hHA:=fun W (hb:Below w7.heap.size w7 W)=>HA5.out.below (hb7.trans (hb.mono hb7.size));have HU:Hid (∀ W,Below w7.heap.size w7 W→Calls Tryz.prog 19 #[.pointer (some ⟨z,0,none⟩)] W fun e w'=>e = .returned (.int .i64 4)∧Below W.heap.size W w'):=Lib.hid (fun W hb=>used19 (hHA W hb) (by simp));have HR:Hid (∀ W,Below w7.heap.size w7 W→Calls Tryz.prog 39 #[.pointer (some ⟨z,0,none⟩)] W fun e w'=>e = .returned (.int .i64 96)∧Below W.heap.size W w'):=Lib.hid (fun W hb=>room39 (hHA W hb) (by simp) (by omega) (by omega));have HK:=Lib.hid (fun W hb=>kind46 (hHA W hb))
 have HB7:=Lib.hid (HB5.out.trans (hb7.mono HB5.out.size));clear hb6 hb7 hO hO7 hnew hs7 hg7 ht7 hgl hHA HF5 HA5 HG HB5;go_wp2_with fail;refine HSm.out.mono ?_;rintro e w8 ⟨rfl,hb8⟩;have H8:=Lib.hid hb8;clear hb8 u0 u1 u2 u3 u4 u5 u6 u7 u8 x0 x1 x2 x3 x4 x5 x6 x7 x8;go_wp2_with fail;refine (HU.out _ H8.out).mono ?_;rintro e w9 ⟨rfl,hb⟩;have H9:=Lib.hid (H8.out.trans (hb.mono H8.out.size));clear hb;go_wp2_with fail;refine (HR.out _ H9.out).mono ?_;rintro e w10 ⟨rfl,hb⟩;have H10:=Lib.hid (H9.out.trans (hb.mono H9.out.size));clear hb;go_wp2_with fail;refine (HK.out _ H10.out).mono ?_
 rintro e w11 ⟨rfl,hb⟩;have H11:=Lib.hid (HB7.out.trans ((H10.out.trans (hb.mono H10.out.size)).mono HB7.out.size));clear hb;go_wp2_with fail;go_ret;exact ⟨rfl,H11.out⟩
end hp
namespace hp
open Go.RowKit mem words rec
abbrev NilP (v:Value) (w:World) (e:Ending) (w':World):Prop:=e = .returned v∧Below w.heap.size w w'
theorem new17 (w:World) (p q:Option Addr) (c:Int) (h:p = none∨q = none∨c < 1∨1048576 < c):Calls Tryz.prog 17 #[.pointer p,.pointer q,.int .i64 c] w (NilP (.pointer none) w):=by
 cases p with
 | none =>
  clear h;go_enter Tryz.func17,Tryz.ntmps17;go_wp2_with fail;go_ret;exact ⟨rfl,Below.refl _ _⟩
 | some a =>
  cases q with
  | none =>
   clear h;go_enter Tryz.func17,Tryz.ntmps17;go_wp2_with fail;go_ret;exact ⟨rfl,Below.refl _ _⟩
  | some b =>
   have h:c < 1∨1048576 < c:=by simpa using h
   by_cases h1:c < 1
   ·have q1:decide (c < 1) = true:=decide_eq_true h1;clear h h1;go_enter Tryz.func17,Tryz.ntmps17;go_wp2_with fail;go_ret;exact ⟨rfl,Below.refl _ _⟩
   ·have q1:decide (c < 1) = false:=decide_eq_false h1;have q2:decide ((1048576:Int) < c) = true:=decide_eq_true (by omega);clear h h1;go_enter Tryz.func17,Tryz.ntmps17;go_wp2_with fail;go_ret;exact ⟨rfl,Below.refl _ _⟩
end hp
namespace hp
open Go.RowKit mem words rec tm
end hp
end Go.Proofs.YtpnlnbolhkcnjaaGreat
