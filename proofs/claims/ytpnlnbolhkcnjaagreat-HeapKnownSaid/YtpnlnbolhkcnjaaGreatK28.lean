/- HrC,TnH,HrD. No condition beyond theirs. -/
import Derived.Test.YtpnlnbolhkcnjaaGreatK27
set_option linter.unusedSimpArgs false
set_option linter.unusedVariables false
set_option maxHeartbeats 4000000
set_option maxRecDepth 100000
namespace Go.Proofs.YtpnlnbolhkcnjaaGreat
namespace hp
open Go.RowKit mem words rec tm
theorem packN_le (s:ByteArray) (i j:Nat):((packN s i j:Nat):Int) ≤ 18446744073709551615:=by
 have e:∀ k,k < 8→tm8 s i j k ≤ 255 * 2 ^ (56 - 8 * k):=fun k hk=>by
  unfold tm8;have:=byteN_lt s (8 * j + k)
  split
  ·exact Nat.mul_le_mul_right _ (by omega)
  ·omega
 have e0:=e 0 (by omega);have e1:=e 1 (by omega);have e2:=e 2 (by omega);have e3:=e 3 (by omega);have e4:=e 4 (by omega);have e5:=e 5 (by omega);have e6:=e 6 (by omega);have e7:=e 7 (by omega);rw [packN_eq];simp only [Nat.reduceMul,Nat.reduceSub,Nat.reducePow] at *;omega
theorem mkk (W:World) (k:Nat) (hk:k ≤ 100000):(Instr.makeSlice 22 (.int .i64 k) (.int .i64 k)).run Tryz.prog W = .ok (.slice (some ⟨W.heap.size,0,none⟩) k k) (W.alloc (.cells (Array.replicate k (Value.int .u64 0)) 40)):=by
 obtain ⟨hund,⟨i,z,hi,hz,hs,hzs,hby⟩,hpos⟩:=elW;have hz':z = .int .u64 0:=by
  have:=info40;rw [hi] at this;simp only [Option.map_some,Option.some.injEq,Prod.mk.injEq] at this;rw [hz] at this;exact Option.some.inj this.1
 subst hz';have:=run_make (P:=Tryz.prog) W 22 40 i _ hund hi hz .i64 .i64 (k:Int) (k:Int) (by omega) (by omega) (by
  have:i.bytes * k ≤ 10000 * 100000:=Nat.mul_le_mul hby hk
  have h2:((i.bytes * k:Nat):Int) ≤ ((10000 * 100000:Nat):Int):=Int.ofNat_le.2 this
  rw [Int.natCast_mul] at h2
  omega) (by omega)
 rw [hs,Int.toNat_natCast,Nat.mul_one] at this;rw [this];have e:madeCells (Value.int .u64 0).cells k = Array.replicate k (Value.int .u64 0):=by
  apply Array.toList_inj.1;rw [Array.toList_replicate];have:=toList_madeCells_one (.int .u64 0) k;show (madeCells #[Value.int .u64 0] k).toList = _;rw [this]
 rw [e]
abbrev wordsC (l:List Int):Array Value:=(l.map (Value.int .u64)).toArray
theorem words_set (l:List Int) (j:Nat) (x:Int):(wordsC l).setIfInBounds j (.int .u64 x) = wordsC (l.set j x):=by
 unfold wordsC;rw [List.setIfInBounds_toArray,List.map_set]
theorem words_cell {w:World} {g:Nat} {l:List Int} {t:TypeId} {fz:Nat × Nat} (h:w.heap[g]? = some (.cells (wordsC l) t fz)) {j:Nat} {x:Int} (hj:l[j]? = some x):w.cell? ⟨g,j,none⟩ = some (.int .u64 x):=by
 rw [cell_of_blk h];simp [wordsC,hj]
section
variable {w:World} {B z a b:Nat} {c:Int} {σ:St} {S:Nat→Prop}
theorem bitsSm (h:HQ w B z a b c σ S) (s:ByteArray) (n:Int) (h0:0 ≤ n) (hn:n ≤ 512) (hs:(s.size:Int) = (n + 7) / 8) (hc:σ.Y.length + 12 ≤ 1000000) :
 Calls Tryz.prog 72 #[.pointer (some ⟨z,0,none⟩),.agg #[.string s,.int .i64 n]] w (RQ B z a b c S (bitsO s n σ) w):=by
 obtain ⟨nw,hnw⟩:∃ nw:Nat,((n + 63) / 64).toNat = nw:=⟨_,rfl⟩;have hnw':(n + 63) / 64 = (nw:Int):=by omega
 have e1:bitsO s n σ = boxO 7 (smallW n :: packI s s.size nw) σ:=by
  unfold bitsO;rw [if_neg (by omega),hnw]
 rw [e1];have hnw9:nw ≤ 8:=by omega
 have hsz8:s.size ≤ 8 * nw:=by omega
 have hsm:=smallW_ok (n:=n) (by simp [smallOk];omega);have hb0:Below w.heap.size w (w.alloc (.cells #[.string s,.int .i64 n] 49)):=belowA (Below.refl _ w) _;have hx:=heap_alloc_new w (.cells #[.string s,.int .i64 n] 49);have hsz:(w.alloc (.cells #[.string s,.int .i64 n] 49)).heap.size = w.heap.size + 1:=World.size_alloc _ _;generalize hw0:w.alloc (.cells #[.string s,.int .i64 n] 49) = w0 at *;have x0:w0.cell? ⟨w.heap.size,0,none⟩ = some (.string s):=(cell_of_blk hx).trans rfl;have x1:w0.cell? ⟨w.heap.size,1,none⟩ = some (.int .i64 n):=(cell_of_blk hx).trans rfl;have HH:=Lib.hid h
 have HB0:=Lib.hid hb0;have HX:=Lib.hid hx;have HSZ:=Lib.hid hsz;have HE:=Lib.hid hs;have HC:=Lib.hid hc;have HL:=Lib.hid (h.lt);have HSm:=Lib.hid hsm;have H79:=Lib.hid (fun W=>small79 n (by omega) (by omega) W);have HN:=Lib.hid (⟨hnw9,hsz8⟩:nw ≤ 8∧s.size ≤ 8 * nw);have qn:decide ((512:Int) < n) = false:=decide_eq_false (by omega);have w1:IntKind.i64.wrap (n + 63) = n + 63:=IntWalk.i64_in _ (by omega);have w2:Int.tdiv (n + 63) 64 = (nw:Int):=by rw [Int.tdiv_eq_ediv_of_nonneg (by omega)];exact hnw'
 have w3:IntKind.i64.wrap (nw:Int) = nw:=IntWalk.i64_in _ (by omega);have w4:IntKind.i64.wrap (1 + (nw:Int)) = (nw:Int) + 1:=by rw [IntWalk.i64_in _ (by omega)];omega
 have hmk:∀ W:World,(Instr.makeSlice 22 (.int .i64 ((nw:Int) + 1)) (.int .i64 ((nw:Int) + 1))).run Tryz.prog W = .ok (.slice (some ⟨W.heap.size,0,none⟩) (nw + 1) (nw + 1)) (W.alloc (.cells (Array.replicate (nw + 1) (Value.int .u64 0)) 40)):=fun W=>mkk W (nw + 1) (by omega);clear h hx hb0 hsz hs hc hsm e1 hnw hnw' h0 hn hnw9 hsz8;go_enter Tryz.func72,Tryz.ntmps72;go_upto_region 1 with (fail);clear hw0;go_upto_region 5 with (fail);have hg:=heap_alloc_new w0 (.cells (Array.replicate (nw + 1) (Value.int .u64 0)) 40)
 have hb1:Below w0.heap.size w0 (w0.alloc (.cells (Array.replicate (nw + 1) (Value.int .u64 0)) 40)):=belowA (Below.refl _ w0) _;have hs0:=HSZ.out;have hs1:(w0.alloc (.cells (Array.replicate (nw + 1) (Value.int .u64 0)) 40)).heap.size = w0.heap.size + 1:=World.size_alloc _ _;generalize w0.alloc (.cells (Array.replicate (nw + 1) (Value.int .u64 0)) 40) = w1' at *;have fz:=frozen_of_row w1' w0.heap.size 0 _ _ hg;have g0:w1'.cell? ⟨w0.heap.size,0,none⟩ = some (.int .u64 0):=(cell_of_blk hg).trans (by simp);have q0:decide ((0:Int) < (nw:Int) + 1) = true:=decide_eq_true (by omega)
 have X1:w1'.cell? ⟨w.heap.size,1,none⟩ = some (.int .i64 n):=(Below.cell hb1 (show w.heap.size < w0.heap.size by omega)).trans x1;have HS1:=Lib.hid hs1;have HB1:=Lib.hid hb1;clear x0 x1 hs0 hs1 hb1;go_wp2_with fail;refine (H79.out _).mono ?_;rintro e w' ⟨rfl,rfl⟩;go_upto_region 6 with (fail);have eW:Array.replicate (nw + 1) (Value.int .u64 0) = wordsC (0 :: packI s 0 nw):=by
  apply Array.toList_inj.1;rw [packI_zero];simp [wordsC,List.replicate_succ]
 rw [eW] at hg;have hg2:=blk_set (i:=0) hg (.int .u64 (smallW n));rw [words_set,List.set_cons_zero] at hg2;have HB2:=Lib.hid (HB1.out.setCell (p:=⟨w0.heap.size,0,none⟩) (Nat.le_refl _) (.int .u64 (smallW n)));have HG2:=Lib.hid hg2;clear hg hg2 HB1 HS1 g0 fz q0 X1 H79 w1 w2 w3 w4 hmk qn;generalize w1'.setCell ⟨w0.heap.size,0,none⟩ (.int .u64 (smallW n)) = wA at *;clear w1' eW;have hz0:∀ W,Below w0.heap.size w0 W→W.cell? ⟨w.heap.size,0,none⟩ = some (.string s):=fun W hb=>by
  have h:=(hb.block w.heap.size (by have:=HSZ.out;omega)).trans HX.out;exact (cell_of_blk h).trans rfl
 have HZ0:=Lib.hid hz0;clear hz0;go_wp2_with fail;go_loopw [8] (fun s8 wr=>∃ i:Nat,s8 = .int .i64 i∧i ≤ s.size∧Hid (wr.heap[w0.heap.size]? = some (.cells (wordsC (smallW n :: packI s i nw)) 40))∧Hid (Below w0.heap.size w0 wr)) (fun s8 _=>s.size - (intOf s8).toNat)
 case atStart=>exact ⟨0,rfl,by omega,HG2,HB2⟩
 case round =>
  obtain ⟨i,rfl,hi,HG,HB⟩:=hrel;have x0:=HZ0.out _ HB.out
  by_cases hlt:i < s.size
  ·have hj:i / 8 < nw:=by have:=HN.out;omega
   have hi8:8 * (i / 8) + i % 8 = i:=by omega
   have d1:Int.tdiv (i:Int) 8 = ((i / 8:Nat):Int):=by rw [Int.tdiv_eq_ediv_of_nonneg (by omega)];omega
   have d2:Int.tmod (i:Int) 8 = ((i % 8:Nat):Int):=by rw [Int.tmod_eq_emod_of_nonneg (by omega)];omega
   have hr8:i % 8 < 8:=Nat.mod_lt _ (by omega);have hu:IntKind.i64.wrap (1 + ((i / 8:Nat):Int)) = ((i / 8:Nat):Int) + 1:=by rw [IntWalk.i64_in _ (by have:=HN.out;omega)];omega
   have hv:IntKind.i64.wrap ((i / 8:Nat):Int) = ((i / 8:Nat):Int):=IntWalk.i64_in _ (by have:=HN.out;omega);have hx:IntKind.i64.wrap ((i % 8:Nat):Int) = ((i % 8:Nat):Int):=IntWalk.i64_in _ (by omega);have hy:IntKind.u64.wrap ((i % 8:Nat):Int) = ((i % 8:Nat):Int):=IntWalk.u64_in _ (by omega);have hm:IntKind.u64.wrap (8 * ((i % 8:Nat):Int)) = 8 * ((i % 8:Nat):Int):=IntWalk.u64_in _ (by omega);have hs:IntKind.u64.wrap (56 - 8 * ((i % 8:Nat):Int)) = 56 - 8 * ((i % 8:Nat):Int):=IntWalk.u64_in _ (by omega)
   have k1:=words_cell HG.out (j:=i / 8 + 1) (x:=(packN s i (i / 8):Nat)) (by rw [List.getElem?_cons_succ];exact packI_get s i nw _ hj);have fz:=frozen_of_row wr w0.heap.size (i / 8 + 1) _ _ HG.out;have hi64:i < 100:=by have:=HN.out;omega
   have hb1:(0:Int) ≤ ((i / 8:Nat):Int) + 1:=by omega
   have hb2:((i / 8:Nat):Int) + 1 < (nw:Int) + 1:=by omega
   have hb3:((i / 8:Nat):Int) < (nw:Int):=by omega
   have HS:=Lib.hid (packI_step s i nw hj);have hby:(s[i]'hlt).toNat = byteN s i:=by
    unfold byteN;rw [Array.getElem?_eq_getElem (show i < s.data.size from hlt)];rfl
   have HV:Hid (bits .or .u64 ((packN s i (i / 8):Nat):Int) (IntKind.u64.wrap (IntKind.u64.wrap ((s[i]'hlt).toNat:Int) * 2 ^ (56 - 8 * (i % 8)))) = (packN s i (i / 8):Nat) + (byteN s i:Int) * 2 ^ (56 - 8 * (i % 8))):=Lib.hid (by
    have hB:=byteN_lt s i
    have e2:IntKind.u64.wrap (byteN s i:Int) = byteN s i:=IntWalk.u64_in _ (by omega)
    obtain ⟨_,_,hb⟩:=pack_step s (i / 8) (i % 8) (by omega)
    have hmul:byteN s i * 2 ^ (56 - 8 * (i % 8)) ≤ 255 * 2 ^ (56 - 8 * (i % 8)):=Nat.mul_le_mul_right _ (by omega)
    have hc:((byteN s i:Int) * 2 ^ (56 - 8 * (i % 8))) = ((byteN s i * 2 ^ (56 - 8 * (i % 8)):Nat):Int):=by push_cast;rfl
    rw [hby,e2,← pack_or s i]
    congr 1
    exact IntWalk.u64_in _ (by rw [hc];omega))
   clear hby;have H8:=Lib.hid hi8;clear hi8;generalize i / 8 = j at *;generalize i % 8 = r at *;go_wp2_with fail;have k1':wr.drew.cell? ⟨w0.heap.size,j + 1,none⟩ = some (.int .u64 (packN s i j:Nat)):=k1;have x0':wr.drew.cell? ⟨w.heap.size,0,none⟩ = some (.string s):=x0;have fz':wr.drew.frozen? ⟨w0.heap.size,j + 1,none⟩ = false:=fz
   have y0:∀ v,(wr.setCell ⟨w0.heap.size,j + 1,none⟩ v).drew.cell? ⟨w.heap.size,0,none⟩ = some (.string s):=fun v=>(World.cell?_of_block (w:=wr) (w':=wr.setCell ⟨w0.heap.size,j + 1,none⟩ v) (a:=⟨w.heap.size,0,none⟩) (blk_oth wr w0.heap.size (j + 1) v (show w.heap.size ≠ w0.heap.size by have:=HSZ.out;omega))).trans x0;refine wp_region_held_drew (S:=fun W=>W.cell? ⟨w.heap.size,0,none⟩ = some (.string s)) (by kernel_rfl) x0' (fun hHeld=>?_)
   refine wpAnyH_take (i:=0) (oi:={ dst:=some 49,op:=Op.move (Operand.tmp 7),type:=22,pos := "heap.go:185",after:=#[],guard:=none }) (v:=?vv0) rfl (by kernel_rfl) (by kernel_rfl) (by kernel_rfl) (fun _ _ _ h=>h) (Or.inl ⟨by rfl,?hy0⟩) (by assumption) ?rs0;case hy0 =>
    intro w hSw;(try dsimp only at hSw)
    go_simp;(try with_reducible rfl)
   (try simp only [Act.put,List.setIfInBounds_toArray,List.set_cons_zero,List.set_cons_succ])
   refine wpAnyH_take (i:=1) (oi:={ dst:=some 50,op:=Op.move (Operand.tmp 8),type:=3,pos := "heap.go:185",after:=#[],guard:=none }) (v:=?vv1) rfl (by kernel_rfl) (by kernel_rfl) (by kernel_rfl) (fun _ _ _ h=>h) (Or.inl ⟨by rfl,?hy1⟩) (by assumption) ?rs1;case hy1 =>
    intro w hSw;(try dsimp only at hSw)
    go_simp;(try with_reducible rfl)
   (try simp only [Act.put,List.setIfInBounds_toArray,List.set_cons_zero,List.set_cons_succ])
   refine wpAnyH_take (i:=2) (oi:={ dst:=some 51,op:=Op.binOp BinOp.quo 3 (Operand.tmp 50) (Operand.const (Value.int IntKind.i64 8)) 3,type:=3,pos := "heap.go:185",after:=#[{ on:=1,ground:=Ground.data }],guard:=none }) (v:=?vv2) rfl (by kernel_rfl) (by kernel_rfl) (by kernel_rfl) (fun _ _ _ h=>h) (Or.inl ⟨by rfl,?hy2⟩) (by assumption) ?rs2;case hy2 =>
    intro w hSw;(try dsimp only at hSw)
    go_simp;(try with_reducible rfl)
   (try simp only [Act.put,List.setIfInBounds_toArray,List.set_cons_zero,List.set_cons_succ])
   refine wpAnyH_take (i:=3) (oi:={ dst:=some 52,op:=Op.binOp BinOp.add 3 (Operand.const (Value.int IntKind.i64 1)) (Operand.tmp 51) 3,type:=3,pos := "heap.go:185",after:=#[{ on:=2,ground:=Ground.data }],guard:=none }) (v:=?vv3) rfl (by kernel_rfl) (by kernel_rfl) (by kernel_rfl) (fun _ _ _ h=>h) (Or.inl ⟨by rfl,?hy3⟩) (by assumption) ?rs3;case hy3 =>
    intro w hSw;(try dsimp only at hSw)
    go_simp;(try with_reducible rfl)
   (try simp only [Act.put,List.setIfInBounds_toArray,List.set_cons_zero,List.set_cons_succ])
   refine wpAnyH_take (i:=4) (oi:={ dst:=some 53,op:=Op.indexAddr 22 (Operand.tmp 49) (Operand.tmp 52),type:=0,pos := "heap.go:185",after:=#[{ on:=0,ground:=Ground.data },{ on:=3,ground:=Ground.data }],guard:=none }) (v:=?vv4) rfl (by kernel_rfl) (by kernel_rfl) (by kernel_rfl) (fun _ _ _ h=>h) (Or.inl ⟨by rfl,?hy4⟩) (by assumption) ?rs4;case hy4 =>
    intro w hSw;(try dsimp only at hSw)
    go_simp;(try with_reducible rfl)
   (try simp only [Act.put,List.setIfInBounds_toArray,List.set_cons_zero,List.set_cons_succ])
   refine wpAnyH_take (i:=6) (oi:={ dst:=some 55,op:=Op.fieldAddr 49 (Operand.tmp 3) 0,type:=0,pos := "heap.go:185",after:=#[],guard:=none }) (v:=?vv6) rfl (by kernel_rfl) (by kernel_rfl) (by kernel_rfl) (fun _ _ _ h=>h) (Or.inl ⟨by rfl,?hy6⟩) (by assumption) ?rs6;case hy6 =>
    intro w hSw;(try dsimp only at hSw)
    go_simp;(try with_reducible rfl)
   (try simp only [Act.put,List.setIfInBounds_toArray,List.set_cons_zero,List.set_cons_succ])
   refine wpAnyH_take (i:=7) (oi:={ dst:=some 56,op:=Op.load 9 (Operand.tmp 55),type:=9,pos := "heap.go:185",after:=#[{ on:=6,ground:=Ground.data }],guard:=none }) (v:=?vv7) rfl (by kernel_rfl) (by kernel_rfl) (by kernel_rfl) (fun _ _ _ h=>h) (Or.inl ⟨by rfl,?hy7⟩) (by assumption) ?rs7;case hy7 =>
    intro w hSw;(try dsimp only at hSw)
    go_simp;(try with_reducible rfl)
   (try simp only [Act.put,List.setIfInBounds_toArray,List.set_cons_zero,List.set_cons_succ])
   refine wpAnyH_take (i:=8) (oi:={ dst:=some 57,op:=Op.move (Operand.tmp 8),type:=3,pos := "heap.go:185",after:=#[],guard:=none }) (v:=?vv8) rfl (by kernel_rfl) (by kernel_rfl) (by kernel_rfl) (fun _ _ _ h=>h) (Or.inl ⟨by rfl,?hy8⟩) (by assumption) ?rs8;case hy8 =>
    intro w hSw;(try dsimp only at hSw)
    go_simp;(try with_reducible rfl)
   (try simp only [Act.put,List.setIfInBounds_toArray,List.set_cons_zero,List.set_cons_succ])
   refine wpAnyH_take (i:=9) (oi:={ dst:=some 58,op:=Op.index 9 (Operand.tmp 56) (Operand.tmp 57),type:=5,pos := "heap.go:185",after:=#[{ on:=7,ground:=Ground.data },{ on:=8,ground:=Ground.data }],guard:=none }) (v:=?vv9) rfl (by kernel_rfl) (by kernel_rfl) (by kernel_rfl) (fun _ _ _ h=>h) (Or.inl ⟨by rfl,?hy9⟩) (by assumption) ?rs9;case hy9 =>
    intro w hSw;(try dsimp only at hSw)
    go_simp;(try with_reducible rfl)
   (try simp only [Act.put,List.setIfInBounds_toArray,List.set_cons_zero,List.set_cons_succ])
   refine wpAnyH_take (i:=10) (oi:={ dst:=some 59,op:=Op.convert 5 40 (Operand.tmp 58),type:=40,pos := "heap.go:185",after:=#[{ on:=9,ground:=Ground.data }],guard:=none }) (v:=?vv10) rfl (by kernel_rfl) (by kernel_rfl) (by kernel_rfl) (fun _ _ _ h=>h) (Or.inl ⟨by rfl,?hy10⟩) (by assumption) ?rs10;case hy10 =>
    intro w hSw;(try dsimp only at hSw)
    go_simp;(try with_reducible rfl)
   (try simp only [Act.put,List.setIfInBounds_toArray,List.set_cons_zero,List.set_cons_succ])
   refine wpAnyH_take (i:=11) (oi:={ dst:=some 60,op:=Op.move (Operand.tmp 8),type:=3,pos := "heap.go:185",after:=#[],guard:=none }) (v:=?vv11) rfl (by kernel_rfl) (by kernel_rfl) (by kernel_rfl) (fun _ _ _ h=>h) (Or.inl ⟨by rfl,?hy11⟩) (by assumption) ?rs11;case hy11 =>
    intro w hSw;(try dsimp only at hSw)
    go_simp;(try with_reducible rfl)
   (try simp only [Act.put,List.setIfInBounds_toArray,List.set_cons_zero,List.set_cons_succ])
   refine wpAnyH_take (i:=12) (oi:={ dst:=some 61,op:=Op.binOp BinOp.rem 3 (Operand.tmp 60) (Operand.const (Value.int IntKind.i64 8)) 3,type:=3,pos := "heap.go:185",after:=#[{ on:=11,ground:=Ground.data }],guard:=none }) (v:=?vv12) rfl (by kernel_rfl) (by kernel_rfl) (by kernel_rfl) (fun _ _ _ h=>h) (Or.inl ⟨by rfl,?hy12⟩) (by assumption) ?rs12;case hy12 =>
    intro w hSw;(try dsimp only at hSw)
    go_simp;(try with_reducible rfl)
   (try simp only [Act.put,List.setIfInBounds_toArray,List.set_cons_zero,List.set_cons_succ])
   refine wpAnyH_take (i:=13) (oi:={ dst:=some 62,op:=Op.convert 3 195 (Operand.tmp 61),type:=195,pos := "heap.go:185",after:=#[{ on:=12,ground:=Ground.data }],guard:=none }) (v:=?vv13) rfl (by kernel_rfl) (by kernel_rfl) (by kernel_rfl) (fun _ _ _ h=>h) (Or.inl ⟨by rfl,?hy13⟩) (by assumption) ?rs13;case hy13 =>
    intro w hSw;(try dsimp only at hSw)
    go_simp;(try with_reducible rfl)
   (try simp only [Act.put,List.setIfInBounds_toArray,List.set_cons_zero,List.set_cons_succ])
   refine wpAnyH_take (i:=14) (oi:={ dst:=some 63,op:=Op.binOp BinOp.mul 195 (Operand.const (Value.int IntKind.u64 8)) (Operand.tmp 62) 195,type:=195,pos := "heap.go:185",after:=#[{ on:=13,ground:=Ground.data }],guard:=none }) (v:=?vv14) rfl (by kernel_rfl) (by kernel_rfl) (by kernel_rfl) (fun _ _ _ h=>h) (Or.inl ⟨by rfl,?hy14⟩) (by assumption) ?rs14;case hy14 =>
    intro w hSw;(try dsimp only at hSw)
    go_simp;(try with_reducible rfl)
   (try simp only [Act.put,List.setIfInBounds_toArray,List.set_cons_zero,List.set_cons_succ])
   refine wpAnyH_take (i:=15) (oi:={ dst:=some 64,op:=Op.binOp BinOp.sub 195 (Operand.const (Value.int IntKind.u64 56)) (Operand.tmp 63) 195,type:=195,pos := "heap.go:185",after:=#[{ on:=14,ground:=Ground.data }],guard:=none }) (v:=?vv15) rfl (by kernel_rfl) (by kernel_rfl) (by kernel_rfl) (fun _ _ _ h=>h) (Or.inl ⟨by rfl,?hy15⟩) (by assumption) ?rs15;case hy15 =>
    intro w hSw;(try dsimp only at hSw)
    go_simp;(try with_reducible rfl)
   (try simp only [Act.put,List.setIfInBounds_toArray,List.set_cons_zero,List.set_cons_succ])
   refine wpAnyH_take (i:=16) (oi:={ dst:=some 65,op:=Op.binOp BinOp.shl 40 (Operand.tmp 59) (Operand.tmp 64) 195,type:=40,pos := "heap.go:185",after:=#[{ on:=10,ground:=Ground.data },{ on:=15,ground:=Ground.data }],guard:=none }) (v:=?vv16) rfl (by kernel_rfl) (by kernel_rfl) (by kernel_rfl) (fun _ _ _ h=>h) (Or.inl ⟨by rfl,?hy16⟩) (by assumption) ?rs16;case hy16 =>
    intro w hSw;(try dsimp only at hSw)
    go_simp;(try with_reducible rfl)
   (try simp only [Act.put,List.setIfInBounds_toArray,List.set_cons_zero,List.set_cons_succ])
   refine wpAnyH_ready (rs:=[5]) (by kernel_rfl) (by simp) ?_;refine (AllReadyH.cons (o:={ dst:=some 54,op:=Op.load 40 (Operand.tmp 53),type:=40,pos := "heap.go:185",after:=#[{ on:=4,ground:=Ground.data }],guard:=none }) rfl (fun K hK=>?_) AllReadyH.nil);go_simp
   refine hK.out _ _ ?_ (fun hHeld=>?_)
   ·first | exact x0' | exact y0 _
   clear hK K;(try simp only [Act.put,List.setIfInBounds_toArray,List.set_cons_zero,List.set_cons_succ])
   refine wpAnyH_take (i:=17) (oi:={ dst:=some 66,op:=Op.binOp BinOp.or 40 (Operand.tmp 54) (Operand.tmp 65) 40,type:=40,pos := "heap.go:185",after:=#[{ on:=5,ground:=Ground.data },{ on:=16,ground:=Ground.data }],guard:=none }) (v:=?vv17) rfl (by kernel_rfl) (by kernel_rfl) (by kernel_rfl) (fun _ _ _ h=>h) (Or.inl ⟨by rfl,?hy17⟩) (by assumption) ?rs17;case hy17 =>
    intro w hSw;(try dsimp only at hSw)
    go_simp;(try with_reducible rfl)
   (try simp only [Act.put,List.setIfInBounds_toArray,List.set_cons_zero,List.set_cons_succ])
   refine wpAnyH_take (i:=18) (oi:={ dst:=some 67,op:=Op.indexAddr 22 (Operand.tmp 49) (Operand.tmp 52),type:=0,pos := "heap.go:185",after:=#[{ on:=0,ground:=Ground.data },{ on:=3,ground:=Ground.data },{ on:=0,ground:=Ground.phase },{ on:=1,ground:=Ground.phase },{ on:=2,ground:=Ground.phase },{ on:=3,ground:=Ground.phase },{ on:=4,ground:=Ground.phase },{ on:=5,ground:=Ground.phase },{ on:=6,ground:=Ground.phase },{ on:=7,ground:=Ground.phase },{ on:=8,ground:=Ground.phase },{ on:=9,ground:=Ground.phase },{ on:=10,ground:=Ground.phase },{ on:=11,ground:=Ground.phase },{ on:=12,ground:=Ground.phase },{ on:=13,ground:=Ground.phase },{ on:=14,ground:=Ground.phase },{ on:=15,ground:=Ground.phase },{ on:=16,ground:=Ground.phase },{ on:=17,ground:=Ground.phase }],guard:=none }) (v:=?vv18) rfl (by kernel_rfl) (by kernel_rfl) (by kernel_rfl) (fun _ _ _ h=>h) (Or.inl ⟨by rfl,?hy18⟩) (by assumption) ?rs18
   case hy18 =>
    intro w hSw;(try dsimp only at hSw)
    go_simp;(try with_reducible rfl)
   (try simp only [Act.put,List.setIfInBounds_toArray,List.set_cons_zero,List.set_cons_succ])
   refine wpAnyH_ready (rs:=[19]) (by kernel_rfl) (by simp) ?_
   refine (AllReadyH.cons (o:={ dst:=none,op:=Op.store 40 (Operand.tmp 67) (Operand.tmp 66),type:=0,pos := "heap.go:185",after:=#[{ on:=18,ground:=Ground.data },{ on:=17,ground:=Ground.data },{ on:=0,ground:=Ground.phase },{ on:=1,ground:=Ground.phase },{ on:=2,ground:=Ground.phase },{ on:=3,ground:=Ground.phase },{ on:=4,ground:=Ground.phase },{ on:=5,ground:=Ground.phase },{ on:=6,ground:=Ground.phase },{ on:=7,ground:=Ground.phase },{ on:=8,ground:=Ground.phase },{ on:=9,ground:=Ground.phase },{ on:=10,ground:=Ground.phase },{ on:=11,ground:=Ground.phase },{ on:=12,ground:=Ground.phase },{ on:=13,ground:=Ground.phase },{ on:=14,ground:=Ground.phase },{ on:=15,ground:=Ground.phase },{ on:=16,ground:=Ground.phase },{ on:=17,ground:=Ground.phase }],guard:=none }) rfl (fun K hK=>?_) AllReadyH.nil)
   go_simp
   refine hK.out _ _ ?_ (fun hHeld=>?_)
   ·first | exact x0' | exact y0 _
   clear hK K;(try simp only [Act.put,List.setIfInBounds_toArray,List.set_cons_zero,List.set_cons_succ])
   refine wpAnyH_done (by kernel_rfl) ?_ _
   all_goals
    clear k1 k1' x0 x0' fz fz' y0;go_wp2_with fail;go_roundw
    case rel =>
     refine ⟨i + 1,by go_num,by omega,Lib.hid ?_,Lib.hid ((HB.out.setCell (p:=⟨w0.heap.size,j + 1,none⟩) (Nat.le_refl _) _).drew)⟩;have h3:=blk_set (i:=j + 1) HG.out (.int .u64 (packN s i j + (byteN s i:Int) * 2 ^ (56 - 8 * r)));rw [words_set,List.set_cons_succ,← HS.out,← HV.out] at h3;exact h3
    case measure=>simp [intOf];omega
  ·obtain rfl:i = s.size:=by omega
   have hb:=HB0.out.trans (HB.out.mono (by have:=HSZ.out;omega));have hg:=HG.out;have e0:(smallW n :: packI s s.size nw).length = nw + 1:=by simp [packI_len]
   have hrow:RecAt encW 1 wr (w0.heap.size + 1) (.slice (some ⟨w0.heap.size,0,none⟩) (nw + 1) (nw + 1)) (smallW n :: packI s s.size nw):=by
    have:=RecAt.fresh (w:=wr) (g:=w0.heap.size) (e:=40) (l:=smallW n :: packI s s.size nw) (encW_ok _) (by decide) (by rw [flat_words];exact hg) (c:=nw + 1) (by rw [e0];exact Nat.le_refl _) (by unfold maxLen;have:=HN.out;omega);rw [e0] at this;exact this
   have HBX:=Lib.hid ((boxQ (HH.out.below hb) (k:=7) (by omega) (by omega) hrow (Array.getElem?_eq_some_iff.1 hg).1 (by rw [e0];have:=HN.out;omega) (fun x hx=>by
    rcases List.mem_cons.1 hx with rfl | hx
    ·exact ⟨HSm.out.1,HSm.out.2.1⟩
    ·unfold packI at hx
     obtain ⟨q,_,rfl⟩:=List.mem_map.1 hx
     exact ⟨by omega,packN_le s s.size q⟩) (by rw [e0];have:=HC.out;have:=HN.out;omega)).mono fun e w' hh=>hh.of_below hb)
   clear hb hg hrow e0 HG;go_wp2_with fail;refine HBX.out.mono ?_;rintro e W4 hq;have hq1:=hq.1;subst hq1;have HQ:=Lib.hid hq.2;clear hq;go_wp2_with fail;go_ret;exact ⟨rfl,HQ.out⟩
end
end hp
namespace tm
open Go.RowKit mem names
def nineL (f:TF) (v:Value):List Value:=[.int .i64 f.kind,.int .i64 f.int,.int .i64 f.gen,.string f.name,.string f.func,.int .i64 f.arity,v,.string f.bytes,.int .i64 f.bits]
def flatR (rs:List (TF × Value)):List Value:=rs.flatMap (fun r=>nineL r.1 r.2)
theorem flatR_append (a b:List (TF × Value)):flatR (a ++ b) = flatR a ++ flatR b:=by simp [flatR]
theorem flatR_get:∀ (rs:List (TF × Value)) (j:Nat) (h:j < rs.length) (i:Nat),i < 9→(flatR rs)[j * 9 + i]? = (nineL rs[j].1 rs[j].2)[i]?
 | r :: rs,0,h,i,hi=>by
  show (nineL r.1 r.2 ++ flatR rs)[0 * 9 + i]? = _;rw [List.getElem?_append_left (by simp [nineL];omega)];simp
 | r :: rs,j + 1,h,i,hi=>by
  show (nineL r.1 r.2 ++ flatR rs)[(j + 1) * 9 + i]? = _;rw [List.getElem?_append_right (by simp [nineL];omega),show (j + 1) * 9 + i - (nineL r.1 r.2).length = j * 9 + i by simp [nineL];omega];exact flatR_get rs j (by simpa using h) i hi
theorem Cells.of {w:World} {g o:Nat} {f:TF} {v:Value} (h:∀ i,i < 9→w.cell? ⟨g,o + i,none⟩ = (nineL f v)[i]?):Cells w g o f v :=
 ⟨h 0 (by omega),h 1 (by omega),h 2 (by omega),h 3 (by omega),h 4 (by omega),h 5 (by omega),h 6 (by omega),h 7 (by omega),h 8 (by omega)⟩
theorem Cells.all {w:World} {g o:Nat} {f:TF} {v:Value} (h:Cells w g o f v):∀ i,i < 9→w.cell? ⟨g,o + i,none⟩ = (nineL f v)[i]?:=by
 intro i hi
 rcases (show i = 0∨i = 1∨i = 2∨i = 3∨i = 4∨i = 5∨i = 6∨i = 7∨i = 8 by omega) with rfl | rfl | rfl | rfl | rfl | rfl | rfl | rfl | rfl
 ·exact h.c0
 ·exact h.c1
 ·exact h.c2
 ·exact h.c3
 ·exact h.c4
 ·exact h.c5
 ·exact h.c6
 ·exact h.c7
 ·exact h.c8
theorem row_cells {w:World} {base g n cap:Nat} {rs:List (TF × Value)} (h:w.ownsRow base 38 9 (.slice (some ⟨g,0,none⟩) n cap) n (flatR rs)) (hn:rs.length = n) (j:Nat) (hj:j < rs.length):Cells w g (j * 9) rs[j].1 rs[j].2:=by
 refine Cells.of fun i hi=>?_;rw [h.cellAt (j * 9 + i) (by omega)];exact flatR_get rs j hj i hi
def ItemsIn (w:World) (F:Nat→Prop):(n:Nat)→Value→List (Tm n)→Prop
 | 0,v,_=>∃ p c,v = .slice p 0 c∧c ≤ maxLen
 | n + 1,v,l=>∃ p c,v = .slice p l.length c∧l.length ≤ c∧c ≤ maxLen∧(l ≠ []→∃ g o,p = some ⟨g,o,none⟩∧F g ∧
  ∀ j,(h:j < l.length)→∃ u,Cells w g (o + j * 9) (l[j]).f u∧ItemsIn w F n u (l[j]).items)
theorem ItemsIn.mono {w w':World} {F F':Nat→Prop} (hs:∀ g,F g→w'.heap[g]? = w.heap[g]?) (hF:∀ g,F g→F' g):∀ {n:Nat} {v:Value} {l:List (Tm n)},ItemsIn w F n v l→ItemsIn w' F' n v l:=by
 intro n
 induction n with
 | zero=>intro v l h;exact h
 | succ n ih =>
  intro v l h;obtain ⟨p,c,e,h1,h2,h3⟩:=h;refine ⟨p,c,e,h1,h2,fun hn=>?_⟩;obtain ⟨g,o,e,hg,hc⟩:=h3 hn;refine ⟨g,o,e,hF g hg,fun j hj=>?_⟩;obtain ⟨u,hc1,hc2⟩:=hc j hj;exact ⟨u,hc1.same (hs g hg),ih hc2⟩
theorem ItemsIn.toAt {w:World} {F:Nat→Prop} {B:Nat} (hF:∀ g,F g→g < B):∀ {n:Nat} {v:Value} {l:List (Tm n)},ItemsIn w F n v l→ItemsAt w B n v l:=by
 intro n
 induction n with
 | zero=>intro v l h;exact h
 | succ n ih =>
  intro v l h;obtain ⟨p,c,e,h1,h2,h3⟩:=h;refine ⟨p,c,e,h1,h2,fun hn=>?_⟩;obtain ⟨g,o,e,hg,hc⟩:=h3 hn;refine ⟨g,o,e,hF g hg,fun j hj=>?_⟩;obtain ⟨u,hc1,hc2⟩:=hc j hj;exact ⟨u,hc1,ih hc2⟩
theorem ItemsAt.toIn {w:World} {B:Nat}:∀ {n:Nat} {v:Value} {l:List (Tm n)},ItemsAt w B n v l→ItemsIn w (fun g=>g < B) n v l:=by
 intro n
 induction n with
 | zero=>intro v l h;exact h
 | succ n ih =>
  intro v l h;obtain ⟨p,c,e,h1,h2,h3⟩:=h;refine ⟨p,c,e,h1,h2,fun hn=>?_⟩;obtain ⟨g,o,e,hg,hc⟩:=h3 hn;refine ⟨g,o,e,hg,fun j hj=>?_⟩;obtain ⟨u,hc1,hc2⟩:=hc j hj;exact ⟨u,hc1,ih hc2⟩
theorem ItemsIn.nil_any {w:World} {F:Nat→Prop} {n c:Nat} {p:Option Addr} (hc:c ≤ maxLen):ItemsIn w F n (.slice p 0 c) ([]:List (Tm n)):=by
 cases n with
 | zero=>exact ⟨p,c,rfl,hc⟩
 | succ n=>exact ⟨p,c,rfl,Nat.zero_le _,hc,fun h=>absurd rfl h⟩
def PtrOK (w:World) (F:Nat→Prop) (g:Nat) (u:Value):Prop :=
 ∃ p len c,u = .slice p len c∧(len = 0∨∃ g' k cur fz,p = some ⟨g',k * 9,none⟩∧F g'∧g < g'∧w.heap[g']? = some (.cells cur 38 fz)∧(k + len) * 9 ≤ cur.size∧len ≤ maxLen)
def Typed (w:World) (F:Nat→Prop):Prop :=
 ∀ g,F g→∃ cur N,w.heap[g]? = some (.cells cur 38 (0,0))∧cur.size = N * 9∧∀ j,j < N→∃ f u,Cells w g (j * 9) f u∧PtrOK w F g u
theorem PtrOK.nil {w:World} {F:Nat→Prop} {g:Nat}:PtrOK w F g nilV:=⟨none,0,0,rfl,.inl rfl⟩
theorem PtrOK.mono {w w':World} {F F':Nat→Prop} {g:Nat} {u:Value} (h:PtrOK w F g u) (hs:∀ g,F g→w'.heap[g]? = w.heap[g]?) (hF:∀ g,F g→F' g):PtrOK w' F' g u:=by
 obtain ⟨p,len,c,e,h⟩:=h;refine ⟨p,len,c,e,?_⟩
 rcases h with h | ⟨g',k,cur,fz,e,h1,h2,h3,h4⟩
 ·exact .inl h
 ·exact .inr ⟨g',k,cur,fz,e,hF _ h1,h2,(hs _ h1).trans h3,h4⟩
theorem PtrOK.less {w:World} {F:Nat→Prop} {g g':Nat} {u:Value} (h:PtrOK w F g u) (hg:g' ≤ g):PtrOK w F g' u:=by
 obtain ⟨p,len,c,e,h⟩:=h;refine ⟨p,len,c,e,?_⟩
 rcases h with h | ⟨g1,k,cur,fz,e,h1,h2,h3,h4⟩
 ·exact .inl h
 ·exact .inr ⟨g1,k,cur,fz,e,h1,by omega,h3,h4⟩
theorem Typed.same {w w':World} {F:Nat→Prop} (h:Typed w F) (hs:∀ g,F g→w'.heap[g]? = w.heap[g]?):Typed w' F:=by
 intro g hg;obtain ⟨cur,N,h1,h2,h3⟩:=h g hg;refine ⟨cur,N,(hs g hg).trans h1,h2,fun j hj=>?_⟩;obtain ⟨f,u,hc,hp⟩:=h3 j hj;exact ⟨f,u,hc.same (hs g hg),hp.mono hs (fun _ h=>h)⟩
theorem Typed.union {w:World} {F F':Nat→Prop} (h:Typed w F) (h':Typed w F'):Typed w (fun g=>F g∨F' g):=by
 intro g hg
 rcases hg with hg | hg
 ·obtain ⟨cur,N,h1,h2,h3⟩:=h g hg;refine ⟨cur,N,h1,h2,fun j hj=>?_⟩;obtain ⟨f,u,hc,hp⟩:=h3 j hj;exact ⟨f,u,hc,hp.mono (fun _ _=>rfl) (fun _ h=>.inl h)⟩
 ·obtain ⟨cur,N,h1,h2,h3⟩:=h' g hg;refine ⟨cur,N,h1,h2,fun j hj=>?_⟩;obtain ⟨f,u,hc,hp⟩:=h3 j hj;exact ⟨f,u,hc,hp.mono (fun _ _=>rfl) (fun _ h=>.inr h)⟩
theorem Typed.add {w:World} {F:Nat→Prop} (h:Typed w F) {g0:Nat} {cur:Array Value} {N:Nat} (h1:w.heap[g0]? = some (.cells cur 38 (0,0))) (h2:cur.size = N * 9) (h3:∀ j,j < N→∃ f u,Cells w g0 (j * 9) f u∧PtrOK w F g0 u):Typed w (fun g=>F g∨g = g0):=by
 intro g hg
 rcases hg with hg | rfl
 ·obtain ⟨cur,N,h1,h2,h3⟩:=h g hg;refine ⟨cur,N,h1,h2,fun j hj=>?_⟩;obtain ⟨f,u,hc,hp⟩:=h3 j hj;exact ⟨f,u,hc,hp.mono (fun _ _=>rfl) (fun _ h=>.inl h)⟩
 ·refine ⟨cur,N,h1,h2,fun j hj=>?_⟩;obtain ⟨f,u,hc,hp⟩:=h3 j hj;exact ⟨f,u,hc,hp.mono (fun _ _=>rfl) (fun _ h=>.inl h)⟩
structure NewAt (w w':World) (F:Nat→Prop) (n:Nat) (u:Value) (l:List (Tm n)):Prop where
 items:ItemsIn w' F n u l
 inr:∀ g,F g→w.heap.size ≤ g∧g < w'.heap.size
 typed:Typed w' F
 ptr:∀ g,g < w.heap.size→PtrOK w' F g u
 below:Below w.heap.size w w'
section
variable {P:Program} {w:World}
end
end tm
namespace hp
open Go.RowKit mem words rec tm
theorem bitsQ {w:World} {B z a b:Nat} {c:Int} {σ:St} {S:Nat→Prop} (h:HQ w B z a b c σ S) (s:ByteArray) (n:Int) (h0:0 ≤ n) (hn:n ≤ 16384) (hs:(s.size:Int) = (n + 7) / 8) (hc:Cap σ 1 (if 512 < n then 4 else 2 + (n + 63) / 64)) :
 Calls Tryz.prog 72 #[.pointer (some ⟨z,0,none⟩),.agg #[.string s,.int .i64 n]] w (RQ B z a b c S (bitsO s n σ) w):=by
 by_cases hb:512 < n
 ·rw [if_pos hb] at hc;exact bitsBig h s n hb hn (by omega) hc
 ·rw [if_neg hb] at hc;have:=hc.y;exact bitsSm h s n h0 (by omega) hs (by omega)
structure LoopI (W0:World) (B z a b:Nat) (c:Int) (S S1:Nat→Prop) (σ1:St) (wr:World) (v:Value) (l:List Int):Prop where
 hq:HQ wr B z a b c σ1 S1
 t:TouchB S W0 wr
 c1:∀ k,S1 k→k < W0.heap.size→S k
 row:RecOwn encW 40 1 wr W0.heap.size v l
 ap:∀ k,v.ownBlock = some k→¬ S1 k
section
variable {w W0 wr wr1 w2:World} {B z a b:Nat} {c:Int} {S S1:Nat→Prop} {σ σ1 σ2:St} {v:Value} {l:List Int}
theorem row_step (h:RecOwn encW 40 1 wr W0.heap.size v l) (ap:∀ k,v.ownBlock = some k→¬ S1 k) (ht:TouchB S1 wr w2):RecOwn encW 40 1 w2 W0.heap.size v l :=
 h.same fun k hk=>ht.block k (h.lt hk).2 (ap k hk)
theorem LoopI.row2 (h:LoopI W0 B z a b c S S1 σ1 wr v l) (hb:Below wr.heap.size wr wr1) (hs:StepQ B z a b c S1 wr1 σ2 w2) (o:Obj):RecOwn encW 40 1 (w2.alloc o) W0.heap.size v l:=by
 obtain ⟨S2,h2,t2,c2⟩:=StepQ.of_below hb hs;exact (row_step h.row h.ap t2).below (belowA (Below.refl _ w2) o)
theorem LoopI.size (h:LoopI W0 B z a b c S S1 σ1 wr v l) (hb:Below wr.heap.size wr wr1) (hs:StepQ B z a b c S1 wr1 σ2 w2) (o:Obj):W0.heap.size ≤ (w2.alloc o).heap.size:=by
 obtain ⟨S2,h2,t2,c2⟩:=StepQ.of_below hb hs;have:=h.t.size;have:=t2.size;rw [World.size_alloc];omega
theorem LoopI.next (h:LoopI W0 B z a b c S S1 σ1 wr v l) (hb:Below wr.heap.size wr wr1) (hs:StepQ B z a b c S1 wr1 σ2 w2) {o:Obj} {x:Int} {v':Value} {w3:World} (hA:AppR encW 40 1 (w2.alloc o) W0.heap.size v l [x] v' w3):∃ S2,LoopI W0 B z a b c S S2 σ2 w3 v' (l ++ [x]):=by
 have hsz:=h.size hb hs o;obtain ⟨S2,h2,t2,c2⟩:=StepQ.of_below hb hs;have hl:=fun k hk=>h.row.lt (k:=k) hk;have t3:TouchB S W0 (w2.alloc o):=(h.t.trans t2 (fun k hk h1=>h.c1 k h1 hk)).alloc o;have c3:∀ k,S2 k→k < W0.heap.size→S k:=fun k hk hlt=>h.c1 k (c2 k hk (Nat.lt_of_lt_of_le hlt h.t.size)) hlt;have ap2:∀ k,v.ownBlock = some k→¬ S2 k:=fun k hk h'=>h.ap k hk (c2 k h' (hl k hk).2);have h2':=h2.below (belowA (Below.refl _ w2) o)
 refine ⟨S2,⟨h2'.same fun k hk=>hA.other (h2'.lt k hk) (fun e=>ap2 k e hk),?_,c3,hA.own,fun k hk h'=>?_⟩⟩
 ·refine hA.touch t3 (fun k hk hlt=>?_);have:=(hl k hk).1;omega
 ·rcases hA.at_ with e | e
  ·exact ap2 k (e ▸ hk) h'
  ·rw [e] at hk;have:=h2'.lt k h';have:=Option.some.inj hk;omega
theorem LoopI.fin (h:LoopI W0 B z a b c S S1 σ1 wr v l) (hb0:Below w.heap.size w W0) {W4:World} (hq:StepQ B z a b c S1 wr σ2 W4):StepQ B z a b c S w σ2 W4:=StepQ.of_below hb0 (StepQ.trans h.t h.c1 hq)
theorem LoopI.keep (h:LoopI W0 B z a b c S S1 σ1 wr v l) {g:Nat} (hg:g < W0.heap.size) (hn:¬ S g):wr.heap[g]? = W0.heap[g]?∧¬ S1 g∧g < wr.heap.size:=⟨h.t.block g hg hn,fun e=>hn (h.c1 g e hg),Nat.lt_of_lt_of_le hg h.t.size⟩
end
structure PutEl (w:World) (B z a b:Nat) (c:Int) (σ:St) (S:Nat→Prop) (p:Option Addr) (len:Nat) (ws:Nat→List Int) (σs:Nat→St) (xs:Nat→Int):Prop where
 w0:ws 0 = []
 s0:σs 0 = σ
 w1:∀ j,j < len→ws (j + 1) = ws j ++ [xs j]
 wl:∀ j,j ≤ len→(ws j).length = j
 ok:∀ j,j ≤ len→∀ x ∈ ws j,Wok x
 el:∀ j,j < len→∃ g o f' q m c',p = some ⟨g,o,none⟩∧g < w.heap.size∧¬ S g∧Cells w g (o + j * 9) f' (.slice q m c') ∧
  ∀ W S1,HQ W B z a b c (σs j) S1→(∀ g,¬ S g→g < w.heap.size→W.heap[g]? = w.heap[g]?)→(∀ k,S1 k→k < w.heap.size→S k)→w.heap.size ≤ W.heap.size →
   Calls Tryz.prog 69 #[.pointer (some ⟨z,0,none⟩),aggV f' (.slice q m c')] W (RQ B z a b c S1 (xs j,σs (j + 1)) W)
def PutS (n:Nat):Prop:=∀ (w:World) (B z a b:Nat) (c:Int) (σ:St) (S:Nat→Prop) (v:Value) (t:Tm (n + 1)),HQ w B z a b c σ S→ItemsIn w (fun g=>¬ S g∧g < w.heap.size) n v t.items→formedT t = true→rngT (n + 1) t→Cap σ (nodesT t) (needT (n + 1) t) →
 Calls Tryz.prog 69 #[.pointer (some ⟨z,0,none⟩),aggV t.f v] w (RQ B z a b c S (putO (n + 1) t σ) w)
theorem itemsIn_shape {w:World} {F:Nat→Prop} {n:Nat} {v:Value} {l:List (Tm n)} (h:ItemsIn w F n v l):∃ p c,v = .slice p l.length c∧l.length ≤ c∧c ≤ maxLen:=by
 cases n with
 | zero =>
  obtain ⟨p,c,rfl,hc⟩:=h;have:=Tm.nil0 l;subst this;exact ⟨p,c,rfl,Nat.zero_le _,hc⟩
 | succ n=>obtain ⟨p,c,e,h1,h2,_⟩:=h;exact ⟨p,c,e,h1,h2⟩
theorem putEl {n:Nat} (ih:∀ m,n = m + 1→PutS m) {w:World} {B z a b:Nat} {c:Int} {σ:St} {S:Nat→Prop} (p:Option Addr) (len cp:Nat) (l:List (Tm n)) (hlen:l.length = len) (hI:ItemsIn w (fun g=>¬ S g∧g < w.heap.size) n (.slice p len cp) l)
 (hf:formedL n l = true) (hr:∀ x ∈ l,rngT n x) {k:Nat} {m:Int} (hm:0 ≤ m) (hc:Cap σ (nodesL n l + k) (ndL n l + m)) :
 ∃ ws σs xs,PutEl w B z a b c σ S p len ws σs xs∧(ws len,σs len) = itemsO (putO n) l σ∧Cap (σs len) k m:=by
 cases n with
 | zero =>
  obtain rfl:=Tm.nil0 l;subst hlen;have hw0:∀ j,j ≤ ([]:List (Tm 0)).length→([]:List Int).length = j:=fun j hj=>by
   have:j = 0:=by simpa using hj
   rw [this];rfl
  exact ⟨fun _=>[],fun _=>σ,fun _=>0,⟨rfl,rfl,fun j hj=>absurd hj (by simp),hw0,fun _ _ x hx=>by simp at hx,fun j hj=>absurd hj (by simp)⟩,rfl,hc.less (by omega) (by rw [ndL_nil];omega)⟩
 | succ n =>
  subst hlen;have hfj:∀ j,(h:j < l.length)→formedT l[j] = true:=fun j h=>by
   unfold formedL at hf;rw [List.all_eq_true] at hf;exact hf l[j] (List.getElem_mem h)
  have hft:∀ j,formedL (n + 1) (l.take j) = true:=fun j=>formed_yes (fun k hk=>by
   rw [List.getElem_take];exact hfj k (by simp at hk;omega))
  have hfd:∀ j,formedL (n + 1) (l.drop j) = true:=fun j=>formed_yes (fun k hk=>by
   rw [List.getElem_drop];exact hfj _ (by simp at hk;omega))
  have hcap:∀ j,j ≤ l.length→Cap (itemsO (putO (n + 1)) (l.take j) σ).2 (nodesL (n + 1) (l.drop j) + k) (ndL (n + 1) (l.drop j) + m)∧∀ x ∈ (itemsO (putO (n + 1)) (l.take j) σ).1,Wok x:=fun j hj=>by
   have e1:nodesL (n + 1) l = nodesL (n + 1) (l.take j) + nodesL (n + 1) (l.drop j):=by rw [← nodesL_append,List.take_append_drop]
   have e2:ndL (n + 1) l = ndL (n + 1) (l.take j) + ndL (n + 1) (l.drop j):=by rw [← ndL_append,List.take_append_drop]
   have hd:=ndL_bd (need_bd n) _ (hfd j);exact itemsO_cap (putO_cap n) (l.take j) σ _ _ (by omega) (hft j) (hc.less (by omega) (by omega))
  refine ⟨fun j=>(itemsO (putO (n + 1)) (l.take j) σ).1,fun j=>(itemsO (putO (n + 1)) (l.take j) σ).2,fun j=>if h:j < l.length then (putO (n + 1) l[j] (itemsO (putO (n + 1)) (l.take j) σ).2).1 else 0,⟨rfl,rfl,fun j hj=>?_,fun j hj=>?_,fun j hj=>(hcap j hj).2,fun j hj=>?_⟩,?_,?_⟩
  ·rw [itemsO_step _ l j hj,dif_pos hj]
  ·rw [itemsO_len,List.length_take];omega
  ·obtain ⟨p',c2,e,_,_,hx⟩:=hI;obtain ⟨g,o,rfl,⟨hg1,hg2⟩,hx⟩:=hx (by intro e;subst e;simp at hj);obtain ⟨u,hC,hI2⟩:=hx j hj;simp only [Value.slice.injEq] at e;obtain ⟨q,c',rfl,_,_⟩:=itemsIn_shape hI2;refine ⟨g,o,l[j].f,q,_,c',e.1,hg2,hg1,hC,fun W S1 hq hW h1 hsz=>?_⟩;rw [dif_pos hj,itemsO_step _ l j hj];have hd:l.drop j = l[j] :: l.drop (j + 1):=List.drop_eq_getElem_cons hj;have hc2:=(hcap j (by omega)).1;have e1:nodesL (n + 1) (l.drop j) = nodesT l[j] + nodesL (n + 1) (l.drop (j + 1)):=by rw [hd,nodesL_cons]
   have e2:ndL (n + 1) (l.drop j) = needT (n + 1) l[j] + ndL (n + 1) (l.drop (j + 1)):=by rw [hd,ndL_cons]
   have hb:=ndL_bd (need_bd n) _ (hfd (j + 1));have hI3:ItemsIn W (fun g=>¬ S1 g∧g < W.heap.size) n (.slice q l[j].items.length c') l[j].items:=hI2.mono (fun g hg=>hW g hg.1 hg.2) (fun g hg=>⟨fun e=>hg.1 (h1 g e hg.2),Nat.lt_of_lt_of_le hg.2 hsz⟩);exact ih n rfl W B z a b c _ S1 _ l[j] hq hI3 (hfj j hj) (hr _ (List.getElem_mem hj)) (hc2.less (by omega) (by omega))
  ·dsimp only;rw [List.take_of_length_le (Nat.le_refl _)]
  ·have:=(hcap l.length (Nat.le_refl _)).1;rw [List.drop_eq_nil_of_le (Nat.le_refl _)] at this;exact this.less (by omega) (by rw [ndL_nil];omega)
end hp
end Go.Proofs.YtpnlnbolhkcnjaaGreat
