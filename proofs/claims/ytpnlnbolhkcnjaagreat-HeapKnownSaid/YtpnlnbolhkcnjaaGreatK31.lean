/- HrI,HrJ. No condition beyond theirs. -/
import Derived.Test.YtpnlnbolhkcnjaaGreatK30
import Derived.Test.YtpnlnbolhkcnjaaGreatK21
import Derived.Laws.IdiomStrings
set_option linter.unusedSimpArgs false
set_option linter.unusedVariables false
set_option maxHeartbeats 4000000
set_option maxRecDepth 100000
namespace Go.Proofs.YtpnlnbolhkcnjaaGreat.hp
open Go.RowKit mem words rec tm
theorem and_mask (b:Nat) (hb:b < 256) (r:Nat) (h1:1 ≤ r) (h7:r ≤ 7):bits .and .u8 (b:Int) (((255 / 2 ^ r:Nat):Int)) = ((b % 2 ^ (8 - r):Nat):Int):=by
 have h:∀ r:Fin 8,∀ b:Fin 256,1 ≤ r.val→bits .and .u8 (b.val:Int) (((255 / 2 ^ r.val:Nat):Int)) = ((b.val % 2 ^ (8 - r.val):Nat):Int):=by decide +kernel
 exact h ⟨r,by omega⟩ ⟨b,hb⟩ h1
theorem bitlen141 (n:Int) (h0:0 ≤ n) (h1:n ≤ 1000000) (w:World):Calls Tryz.prog 141 #[.int .i64 n] w fun e w'=>e = .returned (.int .i64 ((n + 7) / 8))∧w = w':=by
 have t1:n.tmod 8 = n % 8:=Int.tmod_eq_emod_of_nonneg h0;have t2:n.tdiv 8 = n / 8:=Int.tdiv_eq_ediv_of_nonneg h0;have w1:IntKind.i64.wrap (n / 8) = n / 8:=IntWalk.i64_in _ (by omega);have w2:IntKind.i64.wrap (n / 8 + 1) = n / 8 + 1:=IntWalk.i64_in _ (by omega);have w3:IntKind.i64.wrap (n % 8) = n % 8:=IntWalk.i64_in _ (by omega)
 by_cases h:0 < n % 8
 ·have HF:Hid (n / 8 + 1 = (n + 7) / 8):=Lib.hid (by omega);go_enter Tryz.func141,Tryz.ntmps141;go_wp2_with fail;go_ret;exact ⟨by rw [HF.out];rfl,rfl⟩
 ·have HF:Hid (n / 8 = (n + 7) / 8):=Lib.hid (by omega);go_enter Tryz.func141,Tryz.ntmps141;go_wp2_with fail;go_ret;exact ⟨by rw [HF.out];rfl,rfl⟩
theorem valid70 (s:ByteArray) (n:Int) (h0:0 ≤ n) (h1:n ≤ 1000000) (hs:(s.size:Int) = (n + 7) / 8) (hl:n % 8 = 0∨lastByte s % 2 ^ (8 - (n % 8).toNat) = 0) (w:World) :
 Calls Tryz.prog 70 #[.agg #[.string s,.int .i64 n]] w fun e w'=>e = .returned (.bool true)∧Below w.heap.size w w':=by
 have hb0:Below w.heap.size w (w.alloc (.cells #[.string s,.int .i64 n] 49)):=belowA (Below.refl _ w) _;have hx:=heap_alloc_new w (.cells #[.string s,.int .i64 n] 49);generalize hw0:w.alloc (.cells #[.string s,.int .i64 n] 49) = w0 at *;have x0:w0.cell? ⟨w.heap.size,0,none⟩ = some (.string s):=(cell_of_blk hx).trans rfl;have x1:w0.cell? ⟨w.heap.size,1,none⟩ = some (.int .i64 n):=(cell_of_blk hx).trans rfl;have x0':w0.drew.cell? ⟨w.heap.size,0,none⟩ = some (.string s):=x0;have x1':w0.drew.cell? ⟨w.heap.size,1,none⟩ = some (.int .i64 n):=x1;have HBd:=Lib.hid (belowD hb0)
 have H141:=Lib.hid (fun W=>hs ▸ bitlen141 n h0 h1 W);have q0:decide (n < 0) = false:=decide_eq_false (by omega);have q1:((s.size:Int) != (s.size:Int)) = false:=by simp
 clear hx hb0
 by_cases h8:n % 8 = 0
 ·have t1:n.tmod 8 = 0:=by rw [Int.tmod_eq_emod_of_nonneg h0];exact h8
  have w1:IntKind.u64.wrap 0 = 0:=by decide
  clear hs hl h8 h0 h1;go_enter Tryz.func70,Tryz.ntmps70;go_upto_region 1 with (fail);clear hw0
  go_region_held3 (fun W=>W.cell? ⟨w.heap.size,0,none⟩ = some (.string s)∧W.cell? ⟨w.heap.size,1,none⟩ = some (.int .i64 n)) (go_keep)
   (first
     | (go_at_call 141;refine (H141.out _).mono ?_;rintro e w' ⟨rfl,rfl⟩))
  all_goals
   go_wp2_with fail;go_ret;exact ⟨rfl,HBd.out⟩
 ·obtain ⟨m,hm⟩:∃ m,s.size = m + 1:=⟨s.size - 1,by omega⟩;have hm2:m < s.size:=by omega
  obtain ⟨r,hr⟩:∃ r:Nat,n % 8 = (r:Int):=⟨(n % 8).toNat,by omega⟩;have t1:n.tmod 8 = (r:Int):=by rw [Int.tmod_eq_emod_of_nonneg h0];exact hr
  have w1:IntKind.u64.wrap (r:Int) = r:=IntWalk.u64_in _ (by omega);have q2:((r:Int) == 0) = false:=by simp;omega
  have hlast:lastByte s = (s[m]'hm2).toNat:=last_byte s m hm;have hix:∀ w:World,(Instr.index 9 (.string s) (.int .i64 (m:Int))).run Tryz.prog w = .ok (.int .u8 ((s[m]'hm2).toNat:Int)) w:=fun w=>by
   rw [run_index_string w 9 s .i64 (m:Int) Tryz.underlying9,dif_pos ⟨by omega,by omega⟩];rfl
  have hz:(s[m]'hm2).toNat % 2 ^ (8 - r) = 0:=by
   rcases hl with h | h
   ·omega
   ·rw [hlast,hr,Int.toNat_natCast] at h;exact h
  have w2:IntKind.i64.wrap ((s.size:Int) - 1) = (m:Int):=by rw [IntWalk.i64_in _ (by omega)];omega
  have HMk:=Lib.hid (and_mask (s[m]'hm2).toNat (UInt8.toNat_lt _) r (by omega) (by omega));have HZ:=Lib.hid hz;have hm3:bits .and .u8 ((s[m]'hm2).toNat:Int) (255 / 2 ^ min r 8) = 0:=by
   have e:(255 / 2 ^ min r 8:Int) = ((255 / 2 ^ r:Nat):Int):=by
    rw [Nat.min_eq_left (by omega)]
    push_cast
    rfl
   rw [e,HMk.out,hz];rfl
  clear hs hl h8 h0 h1 hm hr hlast hz HMk HZ;generalize (s[m]'hm2).toNat = bb at *;go_enter Tryz.func70,Tryz.ntmps70;go_upto_region 1 with (fail);clear hw0
  go_region_held3 (fun W=>W.cell? ⟨w.heap.size,0,none⟩ = some (.string s)∧W.cell? ⟨w.heap.size,1,none⟩ = some (.int .i64 n)) (go_keep)
   (first
     | (go_at_call 141;refine (H141.out _).mono ?_;rintro e w' ⟨rfl,rfl⟩))
  all_goals
   go_wp2_with fail;go_ret;exact ⟨rfl,HBd.out⟩
theorem of152 (s:ByteArray) (hs:s.size ≤ 100000) (w:World):Calls Tryz.prog 152 #[.string s] w fun e w'=>e = .returned (.agg #[.string s,.int .i64 (8 * s.size)])∧Below w.heap.size w w':=by
 have hw:IntKind.i64.wrap (8 * (s.size:Int)) = 8 * s.size:=IntWalk.i64_in _ (by omega);have HB:=Lib.hid (fun o=>belowA (Below.refl _ w) o);clear hs;go_enter Tryz.func152,Tryz.ntmps152;go_wp2_with fail;refine bodyPost_ret (v:=.agg #[.string s,.int .i64 (8 * s.size)]) (by simp [results,Tryz.results152,go_sem, *]) rfl ⟨rfl,HB.out _⟩
theorem num77 (v:Int) (v0:0 ≤ v) (v1:v ≤ 18446744073709551615) (w:World):Calls Tryz.prog 77 #[.int .u64 v] w fun e w'=>e = .returned (.int .i64 (soN v))∧w = w':=by
 have HS:=Lib.hid (fun W=>words.SmallOf v v0 v1 W);clear v0 v1;go_enter Tryz.func77,Tryz.ntmps77;go_wp2_with fail;refine (HS.out _).mono ?_;rintro e w' ⟨rfl,rfl⟩;go_wp2_with fail;go_ret;exact ⟨rfl,rfl⟩
theorem get112 {w:World} {b:Nat} {E:Ents} {gv tot:Int} {m1 m2:Nat} (h:Sto w b E gv tot m1 m2) (hw:WE E gv) {id:Int} {s:ByteArray} {n:Int} (he:(id,s,n) ∈ E) :
 Calls Tryz.prog 112 #[.pointer (some ⟨b,0,none⟩),.int .i64 id] w fun e w'=>e = .returned (.tuple #[.string s,.bool true])∧Below w.heap.size w w':=by
 obtain ⟨c0,c1,c2,c3⟩:=h.cells;have HM:=Lib.hid (made73 c0);obtain ⟨i,hi,he⟩:=List.getElem_of_mem he;have he':E[i]? = some (id,s,n):=by rw [List.getElem?_eq_getElem hi,he]
 have hl:(Instr.lookup 118 (.map (some m2)) (.int .i64 id) true).run Tryz.prog w = .ok (.tuple #[entV s n,.bool true]) w:=by
  have:=run_lookup_any_ok key3i Tryz.underlying118 h.ent.is id (zero129 w);rw [this];have:=find_ent hw.ids he';dsimp only at this;rw [this];rfl
 have HB:=Lib.hid (fun o=>belowA (Below.refl _ w) o);clear h hw hi he he' c2 c3;go_enter Tryz.func112,Tryz.ntmps112;go_wp2_with fail;refine HM.out.mono ?_;rintro e w1 ⟨rfl,rfl⟩;go_wp2_with fail;go_ret2
 exact ⟨rfl,HB.out _⟩
def encB (b:UInt8):List Value:=[.int .u8 b.toNat]
theorem encB_ok (l:List UInt8):EncOK encB 1 l:=fun a _=>⟨rfl,fun u hu=>by simp [encB] at hu;subst hu;rfl⟩
theorem info5:(Tryz.prog.info? 5).map (fun i=>(i.zero,i.size,i.bytes)) = some (some (.int .u8 0),1,1):=by kernel_rfl
theorem elB:ElTy 47 5 1:=elty_of Tryz.underlying47 info5 rfl (by decide) (by decide)
def cutB (s:ByteArray) (n i:Nat):Nat:=byteN s i / 2 ^ (8 - min (n - 8 * i) 8) * 2 ^ (8 - min (n - 8 * i) 8)
def outB (s:ByteArray) (n k:Nat):List UInt8:=(List.range k).map (fun i=>UInt8.ofNat (cutB s n i))
theorem outB_succ (s:ByteArray) (n k:Nat):outB s n (k + 1) = outB s n k ++ [UInt8.ofNat (cutB s n k)]:=by
 unfold outB;rw [List.range_succ,List.map_append];rfl
theorem outB_len (s:ByteArray) (n k:Nat):(outB s n k).length = k:=by simp [outB]
theorem cutB_lt (s:ByteArray) (n i:Nat):cutB s n i < 256:=by
 have:=byteN_lt s i;have h:cutB s n i ≤ byteN s i:=Nat.div_mul_le_self _ _;omega
theorem and_high (b:Nat) (hb:b < 256) (m:Nat) (h1:1 ≤ m) (h8:m ≤ 8):bits .and .u8 (b:Int) (IntKind.u8.wrap (255 * 2 ^ (8 - m))) = ((b / 2 ^ (8 - m) * 2 ^ (8 - m):Nat):Int):=by
 have h:∀ m:Fin 9,∀ b:Fin 256,1 ≤ m.val→bits .and .u8 (b.val:Int) (IntKind.u8.wrap (255 * 2 ^ (8 - m.val))) = ((b.val / 2 ^ (8 - m.val) * 2 ^ (8 - m.val):Nat):Int):=by decide +kernel
 exact h ⟨m,by omega⟩ ⟨b,hb⟩ h1
theorem index_byte (s:ByteArray) (j:Nat) (h:j < s.size) (w:World):(Instr.index 9 (.string s) (.int .i64 (j:Int))).run Tryz.prog w = .ok (.int .u8 (byteN s j:Int)) w:=by
 rw [run_index_string w 9 s .i64 (j:Int) Tryz.underlying9,dif_pos ⟨by omega,by omega⟩];have:(s[j]'h).toNat = byteN s j:=by
  unfold byteN;rw [Array.getElem?_eq_getElem (show j < s.data.size from h)];rfl
 rw [← this];rfl
theorem eight195 (w:World) (x:Nat) (s:ByteArray) (hx:w.cell? ⟨x,0,none⟩ = some (.string s)) (j:Nat) (h:j < s.size) (hs:s.size ≤ 100000) :
 Calls Tryz.prog 195 #[.int .i64 (8 * (j:Int)),.pointer (some ⟨x,0,none⟩)] w fun e w'=>e = .returned (.int .u8 (byteN s j))∧w = w':=by
 have t1:(8 * (j:Int)).tmod 8 = 0:=by rw [Int.tmod_eq_emod_of_nonneg (by omega)];omega
 have t2:(8 * (j:Int)).tdiv 8 = (j:Int):=by rw [Int.tdiv_eq_ediv_of_nonneg (by omega)];omega
 have w1:IntKind.i64.wrap (j:Int) = j:=IntWalk.i64_in _ (by omega);have w2:IntKind.u64.wrap 0 = 0:=by decide
 have hix:=index_byte s j h;have hb:=byteN_lt s j;have w3:IntKind.u8.wrap (byteN s j:Int) = byteN s j:=by rw [IntKind.wrap_u8];omega
 generalize byteN s j = bb at *;clear h hs;go_enter Tryz.func195,Tryz.ntmps195;go_wp2_with fail;go_ret;exact ⟨rfl,rfl⟩
abbrev wrC (n:Int) (v:Value):Array Value:=#[.string ⟨#[]⟩,.int .i64 n,v]
def AddQ (bw:Nat) (s:ByteArray) (n:Nat) (w:World) (e:Ending) (w':World):Prop:=e = .returned (.tuple #[])∧∃ v,w'.heap[bw]? = some (.cells (wrC n v) 204)∧RecOwn encB 5 1 w' w.heap.size v (outB s n ((n + 7) / 8))∧TouchB (fun k=>k = bw) w w'
theorem add_end {wr w3 w0:World} {bw j:Nat} {v:Value} {s:ByteArray} {n:Nat} {bb:UInt8} {o:Obj} {p3:Option Addr} {n3 c3:Nat} {x:Int} (hA:AppR encB 5 1 (wr.alloc o) w0.heap.size v (outB s n j) [bb] (.slice p3 n3 c3) w3) (hR:RecOwn encB 5 1 wr w0.heap.size v (outB s n j))
 (hT:TouchB (fun k=>k = bw) w0 wr) (hv:v.ownBlock ≠ some bw) (hb:bw < w0.heap.size) (hbb:bb = UInt8.ofNat (cutB s n j)) (h4:(w3.setCell ⟨bw,2,none⟩ (.slice p3 n3 c3)).heap[bw]? = some (.cells (wrC x (.slice p3 n3 c3)) 204)) (y:Int) :
 ((w3.setCell ⟨bw,2,none⟩ (.slice p3 n3 c3)).setCell ⟨bw,1,none⟩ (.int .i64 y)).heap[bw]? = some (.cells (wrC y (.slice p3 n3 c3)) 204)∧RecOwn encB 5 1 ((w3.setCell ⟨bw,2,none⟩ (.slice p3 n3 c3)).setCell ⟨bw,1,none⟩ (.int .i64 y)) w0.heap.size (.slice p3 n3 c3) (outB s n (j + 1))∧TouchB (fun k=>k = bw) w0 ((w3.setCell ⟨bw,2,none⟩ (.slice p3 n3 c3)).setCell ⟨bw,1,none⟩ (.int .i64 y)):=by
 refine ⟨blk_set h4 _,?_,?_⟩
 ·rw [outB_succ,← hbb];refine hA.own.same fun k hk=>?_;have hne:k ≠ bw:=fun e=>by
   have:=(hA.own.lt hk).1;omega
  exact (blk_oth _ _ _ _ hne).trans (blk_oth _ _ _ _ hne)
 ·have t1:=hA.touch (hT.alloc o) (fun k hk hlt=>by have:=(hR.lt hk).1;omega);exact (t1.setCell ⟨bw,2,none⟩ _ (fun _=>rfl)).setCell ⟨bw,1,none⟩ _ (fun _=>rfl)
theorem add150 (w:World) (bw:Nat) (hbw:w.heap[bw]? = some (.cells (wrC 0 (.slice none 0 0)) 204)) (s:ByteArray) (n:Nat) (h1:1 ≤ n) (hn:n ≤ 8 * s.size) (hs:s.size ≤ 100000) :
 Calls Tryz.prog 150 #[.pointer (some ⟨bw,0,none⟩),.string s,.int .i64 0,.int .i64 n] w (AddQ bw s n w):=by
 have hbl:=(Array.getElem?_eq_some_iff.1 hbw).1;have hb0:Below w.heap.size w (w.alloc (.cells #[.string s] 9)):=belowA (Below.refl _ w) _;have hx:=heap_alloc_new w (.cells #[.string s] 9);have hsz:(w.alloc (.cells #[.string s] 9)).heap.size = w.heap.size + 1:=World.size_alloc _ _;generalize hw0:w.alloc (.cells #[.string s] 9) = w0 at *;have HB0:=Lib.hid hb0;have HX:=Lib.hid hx;have HSZ:=Lib.hid hsz;have HBL:=Lib.hid hbl;have HBW:=Lib.hid ((hb0.block bw hbl).trans hbw);have HN:=Lib.hid (⟨h1,hn,hs⟩:1 ≤ n∧n ≤ 8 * s.size∧s.size ≤ 100000);clear hbw hbl hb0 hx hsz h1 hn hs
 go_enter Tryz.func150,Tryz.ntmps150;go_upto_region 1 with (fail);clear hw0;go_wp2_with fail;go_loopw [2,3] (fun s2 s3 wr=>∃ (j:Nat) (v:Value),s2 = .int .i64 ((min (8 * j) n:Nat):Int)∧s3 = .int .i64 ((n - 8 * j:Nat):Int)∧8 * j ≤ n + 7∧Hid (wr.heap[bw]? = some (.cells (wrC ((min (8 * j) n:Nat):Int) v) 204))∧Hid (RecOwn encB 5 1 wr w0.heap.size v (outB s n j))∧Hid (TouchB (fun k=>k = bw) w0 wr)) (fun _ s3 _=>(intOf s3).toNat)
 case atStart=>exact ⟨0,.slice none 0 0,by simp,by simp,by omega,Lib.hid (by simpa using HBW.out),Lib.hid (RecOwn.nil _ _ _),Lib.hid (TouchB.refl _ _)⟩
 case round =>
  obtain ⟨j,v,rfl,rfl,hj,HC,HR,HT⟩:=hrel
  by_cases hlt:8 * j < n
  ·have e1:min (8 * j) n = 8 * j:=by omega
   have hjs:j < s.size:=by have:=HN.out;omega
   obtain ⟨r,hr⟩:∃ r,r = n - 8 * j:=⟨_,rfl⟩;obtain ⟨m,hm⟩:∃ m,m = min r 8:=⟨_,rfl⟩;have x0:wr.cell? ⟨w.heap.size,0,none⟩ = some (.string s):=by
    have hb:=(HT.out.block w.heap.size (by have:=HSZ.out;omega) (by have:=HBL.out;omega)).trans HX.out;exact (cell_of_blk hb).trans rfl
   have HE:=Lib.hid (eight195 wr w.heap.size s x0 j hjs HN.out.2.2);have hr0:0 < r:=by omega
   have hmn:min (r:Int) 8 = (m:Int):=by omega
   have hw1:IntKind.u64.wrap (m:Int) = m:=IntWalk.u64_in _ (by omega);have hw2:IntKind.u64.wrap (8 - (m:Int)) = 8 - (m:Int):=IntWalk.u64_in _ (by omega);rw [e1] at HC ⊢;have HHr:=Lib.hid hr;have HHm:=Lib.hid hm;have HJ:=Lib.hid hjs;rw [← hr];clear hr hm hjs e1 hj hlt;obtain ⟨c0,c1,c2⟩:wr.cell? ⟨bw,0,none⟩ = some (.string ⟨#[]⟩)∧wr.cell? ⟨bw,1,none⟩ = some (.int .i64 ((8 * j:Nat):Int))∧wr.cell? ⟨bw,2,none⟩ = some v:=⟨(cell_of_blk HC.out).trans rfl,(cell_of_blk HC.out).trans rfl,(cell_of_blk HC.out).trans rfl⟩;have t1:(8 * (j:Int)).tmod 8 = 0:=by rw [Int.tmod_eq_emod_of_nonneg (by omega)];omega
   have hw3:IntKind.u64.wrap 0 = 0:=by decide
   obtain ⟨bb,hbb⟩:∃ bb,bb = UInt8.ofNat (cutB s n j):=⟨_,rfl⟩;have hbn:bb.toNat = cutB s n j:=by rw [hbb];simp [UInt8.toNat_ofNat,cutB_lt]
   have HBB:=Lib.hid hbn;have HBB2:=Lib.hid hbb;have HBs:Hid (w0.heap.size ≤ (wr.alloc (.cells #[.int .u8 bb.toNat] 5)).heap.size):=Lib.hid (by rw [World.size_alloc];have:=HT.out.size;omega);have HBs0:Hid (bw < w0.heap.size):=Lib.hid (by have:=HSZ.out;have:=HBL.out;omega);have HBl:Hid (bw < (wr.alloc (.cells #[.int .u8 bb.toNat] 5)).heap.size∧v.ownBlock ≠ some bw):=Lib.hid ⟨by rw [World.size_alloc];have:=HT.out.size;have:=HBs0.out;omega,fun e=>by have:=(HR.out.lt e).1;have:=HBs0.out;omega⟩
   have HBq:=Lib.hid ((heap_alloc_old wr (.cells #[.int .u8 bb.toNat] 5) (by have:=HT.out.size;have:=HBs0.out;omega)).trans HC.out);have HLn:Hid ((outB s n j).length + [bb].length ≤ 1000000000):=Lib.hid (by rw [outB_len];have:=HN.out;have:=HHr.out;simp;omega);clear hbb hbn hmn hw1 hw2
   by_cases h8:r ≤ 8
   ·have hC:bits .and .u8 (byteN s j:Int) (255 * 2 ^ (8 - r) % 256) = ((bb.toNat:Nat):Int):=by
     rw [HBB.out];have h:=and_high (byteN s j) (byteN_lt s j) r (by omega) h8;rw [IntKind.wrap_u8] at h;have e:min (n - 8 * j) 8 = r:=by have:=HHr.out;omega
     unfold cutB;rw [e];exact h
    have hw1:IntKind.u64.wrap (r:Int) = r:=IntWalk.u64_in _ (by omega);have hw2:IntKind.u64.wrap (8 - (r:Int)) = 8 - (r:Int):=IntWalk.u64_in _ (by omega);have hwA:IntKind.i64.wrap (8 * (j:Int) + (r:Int)) = ((min (8 * (j + 1)) n:Nat):Int):=by rw [IntWalk.i64_in _ (by have:=HN.out;have:=HHr.out;omega)];have:=HHr.out;omega
    have hwB:IntKind.i64.wrap ((r:Int) - (r:Int)) = ((n - 8 * (j + 1):Nat):Int):=by rw [IntWalk.i64_in _ (by have:=HN.out;have:=HHr.out;omega)];have:=HHr.out;omega
    have HNx:Hid (n - 8 * (j + 1) < r∧(8 * j + (r:Int) = ((min (8 * (j + 1)) n:Nat):Int))∧((r:Int) - (r:Int) = ((n - 8 * (j + 1):Nat):Int))):=Lib.hid (by have:=HHr.out;omega);generalize hnx:min (8 * (j + 1)) n = nx at *;generalize hny:n - 8 * (j + 1) = ny at *;have HNx2:=Lib.hid hnx;have HNy2:=Lib.hid hny;clear hnx hny;go_wp2_with fail;refine HE.out.mono ?_;rintro e w' ⟨rfl,rfl⟩
    have RB:Hid (RecAt encB 1 (wr.alloc (.cells #[.int .u8 bb.toNat] 5)) (wr.heap.size + 1) (.slice (some ⟨wr.heap.size,0,none⟩) 1 1) [bb]):=Lib.hid (RecAt.fresh (encB_ok [bb]) (by decide) (heap_alloc_new wr _) (Nat.le_refl 1) (by unfold maxLen;omega));have RO:=Lib.hid (HR.out.below (belowA (Below.refl _ wr) (.cells #[.int .u8 bb.toNat] 5)));go_wp2_with (refine wpList_append_rec (enc:=encB) elB rfl (.tmp 39) (.tmp 41) rfl rfl (base:=w0.heap.size) (l:=outB s n j) RO.out HBs.out (B:=wr.heap.size + 1) (xs:=[bb]) rfl RB.out (encB_ok _) HLn.out ?_)
    intro v3 w3 hA;obtain ⟨p3,c3,e3,_,_⟩:=hA.own.shape;generalize (outB s n j ++ [bb]).length = len3 at e3;subst e3;have hb3:w3.heap[bw]? = some (.cells (wrC ((8 * j:Nat):Int) v) 204):=(hA.other (k:=bw) HBl.out.1 HBl.out.2).trans HBq.out;have fz2:=frozen_of_row w3 bw 2 _ _ hb3;have g2:w3.cell? ⟨bw,2,none⟩ = some v:=(cell_of_blk hb3).trans rfl;have hb4:=blk_set (i:=2) hb3 (.slice p3 len3 c3);have g1:(w3.setCell ⟨bw,2,none⟩ (.slice p3 len3 c3)).cell? ⟨bw,1,none⟩ = some (.int .i64 (8 * (j:Int))):=(cell_of_blk hb4).trans rfl
    have fz1:=frozen_of_row (w3.setCell ⟨bw,2,none⟩ (.slice p3 len3 c3)) bw 1 _ _ hb4;have HF:=Lib.hid (add_end hA HR.out HT.out HBl.out.2 HBs0.out HBB2.out hb4 (nx:Int));clear hA hb3 hb4 x0 c0 c1 c2;go_wp2_with fail;go_roundw
    case rel=>exact ⟨j + 1,.slice p3 len3 c3,by rw [HNx2.out],by rw [HNy2.out];try (have:=HNx.out;congr 1;omega),by have:=HHr.out;omega,Lib.hid (by rw [HNx2.out];exact HF.out.1),Lib.hid HF.out.2.1,Lib.hid HF.out.2.2⟩
    case measure =>
     have:=HNx.out;simp [intOf];omega
   ·have h8:8 < r:=by omega
    have hC:bits .and .u8 (byteN s j:Int) (255) = ((bb.toNat:Nat):Int):=by
     rw [HBB.out];have h:=and_high (byteN s j) (byteN_lt s j) 8 (by omega) (by omega);have e:min (n - 8 * j) 8 = 8:=by have:=HHr.out;omega
     unfold cutB;rw [e];exact h
    have hwA:IntKind.i64.wrap (8 * (j:Int) + 8) = ((min (8 * (j + 1)) n:Nat):Int):=by rw [IntWalk.i64_in _ (by have:=HN.out;have:=HHr.out;omega)];have:=HHr.out;omega
    have hwB:IntKind.i64.wrap ((r:Int) - 8) = ((n - 8 * (j + 1):Nat):Int):=by rw [IntWalk.i64_in _ (by have:=HN.out;have:=HHr.out;omega)];have:=HHr.out;omega
    have HNx:Hid (n - 8 * (j + 1) < r∧(8 * j + 8 = ((min (8 * (j + 1)) n:Nat):Int))∧((r:Int) - 8 = ((n - 8 * (j + 1):Nat):Int))):=Lib.hid (by have:=HHr.out;omega);generalize hnx:min (8 * (j + 1)) n = nx at *;generalize hny:n - 8 * (j + 1) = ny at *;have HNx2:=Lib.hid hnx;have HNy2:=Lib.hid hny;clear hnx hny;go_wp2_with fail;refine HE.out.mono ?_;rintro e w' ⟨rfl,rfl⟩
    have RB:Hid (RecAt encB 1 (wr.alloc (.cells #[.int .u8 bb.toNat] 5)) (wr.heap.size + 1) (.slice (some ⟨wr.heap.size,0,none⟩) 1 1) [bb]):=Lib.hid (RecAt.fresh (encB_ok [bb]) (by decide) (heap_alloc_new wr _) (Nat.le_refl 1) (by unfold maxLen;omega));have RO:=Lib.hid (HR.out.below (belowA (Below.refl _ wr) (.cells #[.int .u8 bb.toNat] 5)));go_wp2_with (refine wpList_append_rec (enc:=encB) elB rfl (.tmp 39) (.tmp 41) rfl rfl (base:=w0.heap.size) (l:=outB s n j) RO.out HBs.out (B:=wr.heap.size + 1) (xs:=[bb]) rfl RB.out (encB_ok _) HLn.out ?_)
    intro v3 w3 hA;obtain ⟨p3,c3,e3,_,_⟩:=hA.own.shape;generalize (outB s n j ++ [bb]).length = len3 at e3;subst e3;have hb3:w3.heap[bw]? = some (.cells (wrC ((8 * j:Nat):Int) v) 204):=(hA.other (k:=bw) HBl.out.1 HBl.out.2).trans HBq.out;have fz2:=frozen_of_row w3 bw 2 _ _ hb3;have g2:w3.cell? ⟨bw,2,none⟩ = some v:=(cell_of_blk hb3).trans rfl;have hb4:=blk_set (i:=2) hb3 (.slice p3 len3 c3);have g1:(w3.setCell ⟨bw,2,none⟩ (.slice p3 len3 c3)).cell? ⟨bw,1,none⟩ = some (.int .i64 (8 * (j:Int))):=(cell_of_blk hb4).trans rfl
    have fz1:=frozen_of_row (w3.setCell ⟨bw,2,none⟩ (.slice p3 len3 c3)) bw 1 _ _ hb4;have HF:=Lib.hid (add_end hA HR.out HT.out HBl.out.2 HBs0.out HBB2.out hb4 (nx:Int));clear hA hb3 hb4 x0 c0 c1 c2;go_wp2_with fail;go_roundw
    case rel=>exact ⟨j + 1,.slice p3 len3 c3,by rw [HNx2.out],by rw [HNy2.out];try (have:=HNx.out;congr 1;omega),by have:=HHr.out;omega,Lib.hid (by rw [HNx2.out];exact HF.out.1),Lib.hid HF.out.2.1,Lib.hid HF.out.2.2⟩
    case measure =>
     have:=HNx.out;simp [intOf];omega
  ·have e1:min (8 * j) n = n:=by omega
   have e2:n - 8 * j = 0:=by omega
   have e3:(n + 7) / 8 = j:=by omega
   have HF:Hid (AddQ bw s n w (.returned (.tuple #[])) wr):=Lib.hid (by
    have hc:=HC.out
    have hr:=HR.out
    rw [e1] at hc
    rw [← e3] at hr
    refine ⟨rfl,v,hc,hr.base (fun k hk=>by have:=(hr.lt hk).1;have:=HSZ.out;omega),((TouchB.refl _ w).ofBelow HB0.out (Nat.le_refl _)).trans HT.out (fun _ _ e=>e)⟩)
   rw [e1,e2];clear e1 e2 e3 hj hlt HC HR HT;go_wp2_with fail;exact bodyPost_ret (v:=.tuple #[]) (by simp [results,Tryz.results150,go_sem]) rfl HF.out
theorem outB_str {s:ByteArray} {n:Nat} (hs:s.size = (n + 7) / 8) (hl:n % 8 = 0∨lastByte s % 2 ^ (8 - n % 8) = 0):outB s n ((n + 7) / 8) = s.data.toList:=by
 apply List.ext_getElem?;intro i
 by_cases hi:i < (n + 7) / 8
 ·have hi2:i < s.data.size:=by have:s.data.size = s.size:=rfl;omega
  have e1:(outB s n ((n + 7) / 8))[i]? = some (UInt8.ofNat (cutB s n i)):=by
   unfold outB;simp [hi]
  have e2:byteN s i = (s.data[i]).toNat:=by
   unfold byteN;rw [Array.getElem?_eq_getElem hi2];rfl
  have e3:cutB s n i = byteN s i:=by
   unfold cutB
   by_cases h8:8 ≤ n - 8 * i
   ·rw [Nat.min_eq_right h8];simp
   ·rw [Nat.min_eq_left (by omega)];have hm:n - 8 * i = n % 8:=by omega
    have hlast:lastByte s = byteN s i:=by
     have hsz:s.size = i + 1:=by omega
     rw [last_byte s i hsz,e2];rfl
    rw [hm]
    rcases hl with h | h
    ·omega
    ·rw [hlast] at h;exact Nat.div_mul_cancel (Nat.dvd_of_mod_eq_zero h)
  rw [e1,e3,e2,List.getElem?_eq_getElem (by simpa using hi2)];simp
 ·rw [List.getElem?_eq_none (by rw [outB_len];omega),List.getElem?_eq_none (by have:=(show s.data.toList.length = s.size from by simp);omega)]
theorem ret_bits {fn:Func} {p:Tmp} (h:fn.results = #[.cell p 49]) (tmps:Array Value) {g:Nat} (hp:tmps.getD p undef = .pointer (some ⟨g,0,none⟩)) {W:World} {cs:List Value} (hl:cs.length = 2) (hc:W.rangeAt g 0 cs) :
 (results fn tmps).run Tryz.prog W = .ok (.agg cs.toArray) W:=by
 rw [results_cell1 h,hp];simp only [asAddr,Sem.run_pure,Result.andThen_ok];exact run_loadVar_mid W g 0 49 cs _ hc Tryz.underlying49 rfl (by rw [hl];kernel_rfl)
theorem i49:(Tryz.prog.info? 49).map (·.size) = some 2:=by kernel_rfl
theorem done151 (w:World) (bw B:Nat) (n:Int) (v:Value) (hbw:w.heap[bw]? = some (.cells (wrC n v) 204)) (l:List UInt8) (hl:l ≠ []) (hr:RecOwn encB 5 1 w B v l) (hb:bw < B) :
 Calls Tryz.prog 151 #[.pointer (some ⟨bw,0,none⟩)] w fun e w'=>e = .returned (.agg #[.string ⟨l.toArray⟩,.int .i64 n])∧TouchB (fun k=>k = bw) w w':=by
 obtain ⟨p,c,e,hc,hm⟩:=hr.shape;have hrow:=hr.row (encB_ok l);rw [e] at hrow;obtain ⟨g,o,rfl,_,_,hcl⟩:=hrow.nth (List.length_pos_iff.2 hl);have hgb:(g:Nat) ≠ bw:=by
  have:=(hr.lt (k:=g) (by rw [e];rfl)).1;omega
 subst e;have e2:=heap_alloc_old w (.cells #[.string ⟨#[]⟩,.int .i64 0] 49) (Array.getElem?_eq_some_iff.1 hbw).1;have hx:=heap_alloc_new w (.cells #[.string ⟨#[]⟩,.int .i64 0] 49);have hb0:Below w.heap.size w (w.alloc (.cells #[.string ⟨#[]⟩,.int .i64 0] 49)):=belowA (Below.refl _ w) _;have hgl:g < w.heap.size:=(hr.lt (k:=g) rfl).2;have hbl:=(Array.getElem?_eq_some_iff.1 hbw).1
 have hcv:(convert 47 9 (.slice (some ⟨g,o,none⟩) l.length c)).run Tryz.prog (w.alloc (.cells #[.string ⟨#[]⟩,.int .i64 0] 49)) = .ok (.string ⟨l.toArray⟩) (w.alloc (.cells #[.string ⟨#[]⟩,.int .i64 0] 49)) :=
  run_convert_bytes_back _ 47 9 5 ⟨g,o,none⟩ c l Tryz.underlying47 (by kernel_rfl) Tryz.underlying9 (fun j hj=>by
   have:=hcl j l[j] (List.getElem?_eq_getElem hj) 0 _ rfl
   rw [Nat.mul_one,Nat.add_zero] at this
   rw [Addr.add_lit]
   exact (Below.cell hb0 (p:=⟨g,o + j,none⟩) hgl).trans this)
 have hw1:=e2.trans hbw;generalize hW:w.alloc (.cells #[.string ⟨#[]⟩,.int .i64 0] 49) = w1 at *;have hsz:w1.heap.size = w.heap.size + 1:=by rw [← hW];exact World.size_alloc _ _
 have c0:w1.cell? ⟨bw,0,none⟩ = some (.string ⟨#[]⟩):=(cell_of_blk hw1).trans rfl;have c1:w1.cell? ⟨bw,1,none⟩ = some (.int .i64 n):=(cell_of_blk hw1).trans rfl;have c2:w1.cell? ⟨bw,2,none⟩ = some (.slice (some ⟨g,o,none⟩) l.length c):=(cell_of_blk hw1).trans rfl;have fz0:=frozen_of_row w1 bw 0 _ _ hw1;have hw2:=blk_set (i:=0) hw1 (.string ⟨l.toArray⟩);have d0:(w1.setCell ⟨bw,0,none⟩ (.string ⟨l.toArray⟩)).cell? ⟨bw,0,none⟩ = some (.string ⟨l.toArray⟩):=(cell_of_blk hw2).trans rfl
 have d1:(w1.setCell ⟨bw,0,none⟩ (.string ⟨l.toArray⟩)).cell? ⟨bw,1,none⟩ = some (.int .i64 n):=(cell_of_blk hw2).trans rfl;have hx2:(w1.setCell ⟨bw,0,none⟩ (.string ⟨l.toArray⟩)).heap[w.heap.size]? = some (.cells #[.string ⟨#[]⟩,.int .i64 0] 49):=(blk_oth _ _ _ _ (by omega)).trans hx;have HX:=Lib.hid hx2;have HT:Hid (TouchB (fun k=>k = bw) w (w1.setCell ⟨bw,0,none⟩ (.string ⟨l.toArray⟩))):=Lib.hid (((TouchB.refl _ w).ofBelow hb0 (Nat.le_refl _)).setCell _ _ (fun _=>rfl));clear hbw hl hr hb hrow hcl hgb e2 hx hb0 hgl hbl hw1 hsz hw2 hx2 hc hm;go_enter Tryz.func151,Tryz.ntmps151
 go_upto_region 1 with (fail);clear hW;go_upto_region 2 with (fail);generalize w1.setCell ⟨bw,0,none⟩ (.string ⟨l.toArray⟩) = w2 at *;clear c0 c1 c2 fz0;have hr2:w2.rangeAt bw 0 [.string ⟨l.toArray⟩,.int .i64 n]:=fun j v hj=>by
  have:j = 0∨j = 1:=by have:=(List.getElem?_eq_some_iff.1 hj).1;simp at this;omega
  rcases this with rfl | rfl
  ·obtain rfl:Value.string ⟨l.toArray⟩ = v:=by simpa using hj
   exact d0
  ·obtain rfl:Value.int .i64 n = v:=by simpa using hj
   exact d1
 have HR2:=Lib.hid hr2;clear d0 d1 hr2;go_wp2_with (first
  | (refine wpList_load_mid rfl 49 (.tmp 14) rfl bw 0 rfl [.string ⟨l.toArray⟩,.int .i64 n] _ HR2.out Tryz.underlying49 rfl (by kernel_rfl) ?_)
  | (refine wpList_store_row rfl 49 (.tmp 2) (.tmp 15) rfl w.heap.size #[.string ⟨l.toArray⟩,.int .i64 n] rfl rfl 49 #[.string ⟨#[]⟩,.int .i64 0] HX.out i49 rfl (by simp [Value.oneCell']) ?_))
 refine bodyPost_ret (v:=.agg #[.string ⟨l.toArray⟩,.int .i64 n]) (ret_bits rfl _ rfl (cs:=[.string ⟨l.toArray⟩,.int .i64 n]) rfl (range_blk (setRow_heap _ _ _ _ _ _ HX.out))) rfl ⟨rfl,HT.out.ofBelow (below_setRow (Below.refl _ _) (Nat.le_refl _) _) (Nat.le_refl _)⟩
end Go.Proofs.YtpnlnbolhkcnjaaGreat.hp
