/- HrM,HrN. No condition beyond theirs. -/
import Derived.Test.YtpnlnbolhkcnjaaGreatP34
set_option linter.unusedSimpArgs false
set_option linter.unusedVariables false
set_option maxHeartbeats 4000000
set_option maxRecDepth 100000
namespace Go.Proofs.YtpnlnbolhkcnjaaGreat.hp
open Go.RowKit mem words rec tm
theorem tm8_bd (s:ByteArray) (i j k:Nat):tm8 s i j k ≤ 255 * 2 ^ (56 - 8 * k):=by
 unfold tm8;have:=byteN_lt s (8 * j + k)
 split
 ·exact Nat.mul_le_mul_right _ (by omega)
 ·omega
theorem pack_get (s:ByteArray) (i j r:Nat) (hr:r < 8) (hi:8 * j + r < i):packN s i j / 2 ^ (56 - 8 * r) % 256 = byteN s (8 * j + r):=by
 have b0:=tm8_bd s i j 0;have b1:=tm8_bd s i j 1;have b2:=tm8_bd s i j 2;have b3:=tm8_bd s i j 3;have b4:=tm8_bd s i j 4;have b5:=tm8_bd s i j 5;have b6:=tm8_bd s i j 6;have b7:=tm8_bd s i j 7;have hb:=byteN_lt s (8 * j + r);have ht:∀ k,k ≤ r→tm8 s i j k = byteN s (8 * j + k) * 2 ^ (56 - 8 * k):=fun k hk=>tm8_t (by omega);rw [packN_eq];have hc:r = 0∨r = 1∨r = 2∨r = 3∨r = 4∨r = 5∨r = 6∨r = 7:=by omega
 simp only [Nat.reduceMul,Nat.reduceSub,Nat.reducePow] at b0 b1 b2 b3 b4 b5 b6 b7
 rcases hc with rfl | rfl | rfl | rfl | rfl | rfl | rfl | rfl
 ·have t0:=ht 0 (by omega);simp only [Nat.reduceMul,Nat.reduceSub,Nat.reducePow] at *;omega
 ·have t0:=ht 0 (by omega);have t1:=ht 1 (by omega);simp only [Nat.reduceMul,Nat.reduceSub,Nat.reducePow] at *;omega
 ·have t0:=ht 0 (by omega);have t1:=ht 1 (by omega);have t2:=ht 2 (by omega);simp only [Nat.reduceMul,Nat.reduceSub,Nat.reducePow] at *;omega
 ·have t0:=ht 0 (by omega);have t1:=ht 1 (by omega);have t2:=ht 2 (by omega);have t3:=ht 3 (by omega);simp only [Nat.reduceMul,Nat.reduceSub,Nat.reducePow] at *;omega
 ·have t0:=ht 0 (by omega);have t1:=ht 1 (by omega);have t2:=ht 2 (by omega);have t3:=ht 3 (by omega);have t4:=ht 4 (by omega);simp only [Nat.reduceMul,Nat.reduceSub,Nat.reducePow] at *;omega
 ·have t0:=ht 0 (by omega);have t1:=ht 1 (by omega);have t2:=ht 2 (by omega);have t3:=ht 3 (by omega);have t4:=ht 4 (by omega);have t5:=ht 5 (by omega);simp only [Nat.reduceMul,Nat.reduceSub,Nat.reducePow] at *;omega
 ·have t0:=ht 0 (by omega);have t1:=ht 1 (by omega);have t2:=ht 2 (by omega);have t3:=ht 3 (by omega);have t4:=ht 4 (by omega);have t5:=ht 5 (by omega);have t6:=ht 6 (by omega);simp only [Nat.reduceMul,Nat.reduceSub,Nat.reducePow] at *;omega
 ·have t0:=ht 0 (by omega);have t1:=ht 1 (by omega);have t2:=ht 2 (by omega);have t3:=ht 3 (by omega);have t4:=ht 4 (by omega);have t5:=ht 5 (by omega);have t6:=ht 6 (by omega);have t7:=ht 7 (by omega);simp only [Nat.reduceMul,Nat.reduceSub,Nat.reducePow,Nat.div_one] at *;omega
theorem mkb (W:World) (k:Nat) (hk:k ≤ 100000):(Instr.makeSlice 47 (.int .i64 k) (.int .i64 k)).run Tryz.prog W = .ok (.slice (some ⟨W.heap.size,0,none⟩) k k) (W.alloc (.cells (Array.replicate k (Value.int .u8 0)) 5)):=by
 obtain ⟨hund,⟨i,z,hi,hz,hs,hzs,hby⟩,hpos⟩:=elB;have hz':z = .int .u8 0:=by
  have:=info5;rw [hi] at this;simp only [Option.map_some,Option.some.injEq,Prod.mk.injEq] at this;rw [hz] at this;exact Option.some.inj this.1
 subst hz';have:=run_make (P:=Tryz.prog) W 47 5 i _ hund hi hz .i64 .i64 (k:Int) (k:Int) (by omega) (by omega) (by
  have:i.bytes * k ≤ 10000 * 100000:=Nat.mul_le_mul hby hk
  have h2:((i.bytes * k:Nat):Int) ≤ ((10000 * 100000:Nat):Int):=Int.ofNat_le.2 this
  rw [Int.natCast_mul] at h2
  omega) (by omega)
 rw [hs,Int.toNat_natCast,Nat.mul_one] at this;rw [this];have e:madeCells (Value.int .u8 0).cells k = Array.replicate k (Value.int .u8 0):=by
  apply Array.toList_inj.1;rw [Array.toList_replicate];have:=toList_madeCells_one (.int .u8 0) k;show (madeCells #[Value.int .u8 0] k).toList = _;rw [this]
 rw [e]
def upTo (s:ByteArray) (k i:Nat):List UInt8:=(List.range k).map (fun q=>if q < i then UInt8.ofNat (byteN s q) else 0)
abbrev bytesC (l:List UInt8):Array Value:=(l.map (fun b=>Value.int .u8 (b.toNat:Int))).toArray
theorem upTo_zero (s:ByteArray) (k:Nat):bytesC (upTo s k 0) = Array.replicate k (Value.int .u8 0):=by
 apply Array.toList_inj.1;rw [Array.toList_replicate];unfold upTo bytesC;simp only [List.map_map];apply List.ext_getElem?;intro j
 by_cases hj:j < k
 ·simp [hj]
 ·simp [hj]
theorem upTo_step (s:ByteArray) (k i:Nat) (hi:i < k):(bytesC (upTo s k i)).setIfInBounds i (.int .u8 (byteN s i)) = bytesC (upTo s k (i + 1)):=by
 have hb:=byteN_lt s i;apply Array.toList_inj.1;unfold bytesC upTo;rw [List.setIfInBounds_toArray];simp only [List.map_map];apply List.ext_getElem?;intro j;rw [List.getElem?_set]
 by_cases hj:j < k
 ·by_cases e:i = j
  ·subst e;have:(UInt8.ofNat (byteN s i)).toNat = byteN s i:=by simp [UInt8.toNat_ofNat];exact hb
   simp [hi,this]
  ·have:(j < i) = (j < i + 1):=by
    apply propext;omega
   simp [hj,e,this]
 ·have:i ≠ j:=by omega
  simp [hj,this]
theorem upTo_full (s:ByteArray):upTo s s.size s.size = s.data.toList:=by
 apply List.ext_getElem?;intro i;unfold upTo
 by_cases hi:i < s.size
 ·have hi2:i < s.data.size:=hi;have e2:byteN s i = (s.data[i]).toNat:=by
   unfold byteN;rw [Array.getElem?_eq_getElem hi2];rfl
  rw [List.getElem?_eq_getElem (l:=s.data.toList) (by simpa using hi2)];simp [hi,e2]
 ·rw [List.getElem?_eq_none (by simp;omega),List.getElem?_eq_none (by simp;exact Nat.le_of_not_lt hi)]
theorem text81r {w:World} {z:Nat} {Bx:Nat} {v:Value} {n:Int} {s:ByteArray} (hr:RecAt encW 1 w Bx v (smallW n :: packI s s.size ((n + 63) / 64).toNat)) (hBx:Bx ≤ w.heap.size) (hB:BitsOk s n) (hn:n ≤ 512) :
 Calls Tryz.prog 81 #[.pointer (some ⟨z,0,none⟩),.int .i64 7,v] w fun e w'=>e = .returned (.agg #[.string s,.int .i64 n])∧Below w.heap.size w w':=by
 obtain ⟨nw,hnw⟩:∃ nw:Nat,((n + 63) / 64).toNat = nw:=⟨_,rfl⟩;rw [hnw] at hr;have hb0':=hB.n0;have hsz':=hB.sz;obtain ⟨p,k,ev,hk1,hk2⟩:=hr.shape;rw [ev] at hr;obtain ⟨g,o,rfl,_,hg,hc⟩:=hr.nth (by simp);subst ev;have hlen:(smallW n :: packI s s.size nw).length = nw + 1:=by simp [packI_len]
 rw [hlen] at *;have hx:=heap_alloc_new w (.cells #[.string ⟨#[]⟩,.int .i64 0] 49);have hb0:Below w.heap.size w (w.alloc (.cells #[.string ⟨#[]⟩,.int .i64 0] 49)):=belowA (Below.refl _ w) _;have hsz:(w.alloc (.cells #[.string ⟨#[]⟩,.int .i64 0] 49)).heap.size = w.heap.size + 1:=World.size_alloc _ _;generalize hw1:w.alloc (.cells #[.string ⟨#[]⟩,.int .i64 0] 49) = w1 at *
 have HC:Hid (∀ W,Below w1.heap.size w1 W→(∀ j x,(smallW n :: packI s s.size nw)[j]? = some x→W.cell? ⟨g,o + j,none⟩ = some (.int .u64 x))∧Below w.heap.size w W∧W.heap[w.heap.size]? = some (.cells #[.string ⟨#[]⟩,.int .i64 0] 49)):=Lib.hid (fun W hW=>by
  have hb:=hb0.trans (hW.mono (by omega))
  refine ⟨fun j x hj=>(Below.cell hb (p:=⟨g,o + j,none⟩) (show g < _ by omega)).trans ?_,hb,(hW.block _ (by omega)).trans hx⟩
  have:=hc j x hj 0 _ rfl
  rw [Nat.mul_one,Nat.add_zero] at this
  exact this)
 have s3:=so_small (n:=n) (by simp [smallOk];omega);have o3:=smallW_ok (n:=n) (by simp [smallOk];omega);have n3:NumIs (smallW n) n:=⟨o3.1,o3.2.1,s3.2⟩;have x0:w1.cell? ⟨g,o,none⟩ = some (.int .u64 (smallW n)):=(HC.out w1 (Below.refl _ _)).1 0 _ rfl;have q1:IntKind.i64.wrap (n + 7) = n + 7:=IntWalk.i64_in _ (by omega);have q2:(n + 7).tdiv 8 = (s.size:Int):=by rw [Int.tdiv_eq_ediv_of_nonneg (by omega)];omega
 have q3:IntKind.i64.wrap (s.size:Int) = s.size:=IntWalk.i64_in _ (by omega);have hmk:=fun W=>mkb W s.size (by omega);have HK:=Lib.hid (⟨by omega,by omega⟩:s.size ≤ 64∧s.size ≤ 8 * nw);have HSZ:=Lib.hid hsz;clear hnw hb0' hsz' hr hc hlen hx hb0 hsz s3 o3 hB hn hBx hg hk1 hk2;have HKn:=Lib.hid n3;generalize hkn:smallW n = kn at *;clear hkn;go_enter Tryz.func81,Tryz.ntmps81;go_upto_region 1 with (fail);clear hw1;go_wp2_with fail;refine (num77i _ _ n3 _).mono ?_;rintro e w' ⟨rfl,rfl⟩;go_upto_region 7 with (fail)
 have hg2:(w1.alloc (.cells (Array.replicate s.size (Value.int .u8 0)) 5)).heap[w1.heap.size]? = some (.cells (bytesC (upTo s s.size 0)) 5):=(heap_alloc_new w1 _).trans (by rw [upTo_zero]);have hb2:Below w1.heap.size w1 (w1.alloc (.cells (Array.replicate s.size (Value.int .u8 0)) 5)):=belowA (Below.refl _ w1) _;generalize w1.alloc (.cells (Array.replicate s.size (Value.int .u8 0)) 5) = wA at *;have HG2:=Lib.hid hg2;have HB2:=Lib.hid hb2;clear hg2 hb2 x0 q1 q2 q3 hmk n3;go_wp2_with fail
 go_loopw [53] (fun s53 wr=>∃ i:Nat,s53 = .int .i64 i∧i ≤ s.size∧Hid (wr.heap[w1.heap.size]? = some (.cells (bytesC (upTo s s.size i)) 5))∧Hid (Below w1.heap.size w1 wr)) (fun s53 _=>s.size - (intOf s53).toNat)
 case atStart=>exact ⟨0,rfl,by omega,HG2,HB2⟩
 case round =>
  obtain ⟨i,rfl,hi,HG,HB⟩:=hrel
  by_cases hlt:i < s.size
  ·have hi64:i < 100:=by have:=HK.out;omega
   have hj:i / 8 < nw:=by have:=HK.out;omega
   have hi8:8 * (i / 8) + i % 8 = i:=by omega
   have d1:Int.tdiv (i:Int) 8 = ((i / 8:Nat):Int):=by rw [Int.tdiv_eq_ediv_of_nonneg (by omega)];omega
   have d2:Int.tmod (i:Int) 8 = ((i % 8:Nat):Int):=by rw [Int.tmod_eq_emod_of_nonneg (by omega)];omega
   have hr8:i % 8 < 8:=Nat.mod_lt _ (by omega);have hu:IntKind.i64.wrap (1 + ((i / 8:Nat):Int)) = ((i / 8:Nat):Int) + 1:=by rw [IntWalk.i64_in _ (by have:=HK.out;omega)];omega
   have hv:IntKind.i64.wrap ((i / 8:Nat):Int) = ((i / 8:Nat):Int):=IntWalk.i64_in _ (by have:=HK.out;omega);have hx:IntKind.i64.wrap ((i % 8:Nat):Int) = ((i % 8:Nat):Int):=IntWalk.i64_in _ (by omega);have hy:IntKind.u64.wrap ((i % 8:Nat):Int) = ((i % 8:Nat):Int):=IntWalk.u64_in _ (by omega);have hm:IntKind.u64.wrap (8 * ((i % 8:Nat):Int)) = 8 * ((i % 8:Nat):Int):=IntWalk.u64_in _ (by omega);have hs:IntKind.u64.wrap (56 - 8 * ((i % 8:Nat):Int)) = 56 - 8 * ((i % 8:Nat):Int):=IntWalk.u64_in _ (by omega)
   have k1:=(HC.out _ HB.out).1 (i / 8 + 1) ((packN s s.size (i / 8):Nat):Int) (by rw [List.getElem?_cons_succ];exact packI_get s s.size nw _ hj);have fz:=frozen_of_row wr w1.heap.size i _ _ HG.out;have k2:wr.cell? ⟨w1.heap.size,i,none⟩ = some (.int .u8 0):=(cell_of_blk HG.out).trans (by simp [bytesC,upTo,hlt]);have hb1:(0:Int) ≤ ((i / 8:Nat):Int) + 1:=by omega
   have hb3:((i / 8:Nat):Int) < (nw:Int):=by omega
   have HP:=Lib.hid (pack_get s s.size (i / 8) (i % 8) hr8 (by rw [hi8];exact hlt));have H8:=Lib.hid hi8;clear hi8;generalize i / 8 = j at *;generalize i % 8 = r at *;go_wp2_with fail;go_roundw
   case rel =>
    have hval:((packN s s.size j:Nat):Int) / 2 ^ (56 - 8 * r) % 256 = (byteN s i:Int):=by
     have h:=HP.out;rw [H8.out] at h;rw [← h]
     push_cast
     rfl
    refine ⟨i + 1,by go_num,by omega,Lib.hid ?_,Lib.hid (HB.out.setCell (p:=⟨w1.heap.size,i,none⟩) (Nat.le_refl _) _)⟩;rw [hval];have h3:=blk_set (i:=i) HG.out (.int .u8 (byteN s i:Int));rw [upTo_step s s.size i hlt] at h3;exact h3
   case measure=>simp [intOf];omega
  ·obtain rfl:i = s.size:=by omega
   have hg:=HG.out;have hcv:(convert 47 9 (.slice (some ⟨w1.heap.size,0,none⟩) s.size s.size)).run Tryz.prog wr = .ok (.string s) wr:=by
    have h:=run_convert_bytes_back (P:=Tryz.prog) wr 47 9 5 ⟨w1.heap.size,0,none⟩ s.size (upTo s s.size s.size) Tryz.underlying47 (by kernel_rfl) Tryz.underlying9 (fun q hq=>by
     rw [Addr.add_lit,Nat.zero_add]
     exact (cell_of_blk hg).trans (by simp [bytesC,List.getElem?_eq_getElem hq]))
    have hl:(upTo s s.size s.size).length = s.size:=by simp [upTo]
    rw [hl,upTo_full] at h;exact h
   obtain ⟨_,hq2,hq3⟩:=HC.out _ HB.out;have H2:=Lib.hid hq2;have H3:=Lib.hid hq3;clear hg hq2 hq3;go_wp2_with (refine wpList_store_row rfl 49 (.tmp 6) (.tmp 76) rfl w.heap.size #[.string s,.int .i64 n] rfl rfl 49 #[.string ⟨#[]⟩,.int .i64 0] H3.out i49 rfl (by simp [Value.oneCell']) ?_)
   refine bodyPost_ret (v:=.agg #[.string s,.int .i64 n]) (ret_bits rfl _ rfl (cs:=[.string s,.int .i64 n]) rfl (range_blk (setRow_heap _ _ _ _ _ _ H3.out))) rfl ⟨rfl,below_setRow H2.out (Nat.le_refl _) _⟩
end Go.Proofs.YtpnlnbolhkcnjaaGreat.hp
