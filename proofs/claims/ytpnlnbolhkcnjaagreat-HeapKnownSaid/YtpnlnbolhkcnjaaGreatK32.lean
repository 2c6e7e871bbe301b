/- HrK,HrL. No condition beyond theirs. -/
import Derived.Test.YtpnlnbolhkcnjaaGreatK31
set_option linter.unusedSimpArgs false
set_option linter.unusedVariables false
set_option maxHeartbeats 4000000
set_option maxRecDepth 100000
namespace Go.Proofs.YtpnlnbolhkcnjaaGreat.hp
open Go.RowKit mem words rec tm
def cutS (s:ByteArray) (n:Nat):ByteArray:=⟨(outB s n ((n + 7) / 8)).toArray⟩
theorem ret_bits1 {fn:Func} {p q:Tmp} (h:fn.results = #[.cell p 49,.tmp q]) (tmps:Array Value) {g:Nat} {r:Value} (hp:tmps.getD p undef = .pointer (some ⟨g,0,none⟩)) (hq:tmps.getD q undef = r) {W:World} {cs:List Value} (hl:cs.length = 2) (hc:W.rangeAt g 0 cs) :
 (results fn tmps).run Tryz.prog W = .ok (.tuple #[.agg cs.toArray,r]) W:=by
 rw [results_c1 h,hp];simp only [asAddr,Sem.run_pure,Result.andThen_ok];rw [run_loadVar_mid W g 0 49 cs _ hc Tryz.underlying49 rfl (by rw [hl];kernel_rfl),Result.andThen_ok,hq]
theorem cut80 (w:World) (s:ByteArray) (N n:Nat) (h1:1 ≤ n) (hn:n ≤ N) (hN:N ≤ 1000000) (hs:s.size = (N + 7) / 8) (hl:(N:Int) % 8 = 0∨lastByte s % 2 ^ (8 - ((N:Int) % 8).toNat) = 0) (hsz:s.size ≤ 100000) :
 Calls Tryz.prog 80 #[.agg #[.string s,.int .i64 N],.int .i64 0,.int .i64 n] w fun e w'=>e = .returned (.tuple #[.agg #[.string (cutS s n),.int .i64 n],.int .i64 0])∧Below w.heap.size w w':=by
 have HV:=Lib.hid (fun W=>valid70 s N (by omega) (by omega) (by omega) hl W);have e1:=heap_alloc_new w (.cells #[.string s,.int .i64 N] 49);have e2:=heap_alloc_new (w.alloc (.cells #[.string s,.int .i64 N] 49)) (.cells #[.string ⟨#[]⟩,.int .i64 0] 49);have hs1:(w.alloc (.cells #[.string s,.int .i64 N] 49)).heap.size = w.heap.size + 1:=World.size_alloc _ _;have hb:Below w.heap.size w ((w.alloc (.cells #[.string s,.int .i64 N] 49)).alloc (.cells #[.string ⟨#[]⟩,.int .i64 0] 49)):=belowA (belowA (Below.refl _ w) _) _
 have e3:=(heap_alloc_old (w.alloc (.cells #[.string s,.int .i64 N] 49)) (.cells #[.string ⟨#[]⟩,.int .i64 0] 49) (show w.heap.size < _ by omega)).trans e1;have hs2:((w.alloc (.cells #[.string s,.int .i64 N] 49)).alloc (.cells #[.string ⟨#[]⟩,.int .i64 0] 49)).heap.size = w.heap.size + 1 + 1:=by rw [World.size_alloc,hs1]
 rw [hs1] at e2;generalize hw2:(w.alloc (.cells #[.string s,.int .i64 N] 49)).alloc (.cells #[.string ⟨#[]⟩,.int .i64 0] 49) = w2 at *
 have HF:Hid (∀ W,Below w2.heap.size w2 W→W.heap[w.heap.size]? = some (.cells #[.string s,.int .i64 N] 49)∧W.heap[w.heap.size + 1]? = some (.cells #[.string ⟨#[]⟩,.int .i64 0] 49)∧Below w.heap.size w W) :=
  Lib.hid (fun W hW=>⟨(hW.block _ (by omega)).trans e3,(hW.block _ (by omega)).trans e2,hb.trans (hW.mono (by omega))⟩)
 have HSZ:=Lib.hid hs2;have x0:w2.cell? ⟨w.heap.size,0,none⟩ = some (.string s):=(cell_of_blk e3).trans rfl;have x1:w2.cell? ⟨w.heap.size,1,none⟩ = some (.int .i64 N):=(cell_of_blk e3).trans rfl;have HK:=Lib.hid (⟨h1,hn,hN,hs,hsz⟩:1 ≤ n∧n ≤ N∧N ≤ 1000000∧s.size = (N + 7) / 8∧s.size ≤ 100000);have q1:decide ((n:Int) < 0) = false:=decide_eq_false (by omega);have q2:decide ((N:Int) < 0) = false:=decide_eq_false (by omega);have q4:decide (N < n) = false:=decide_eq_false (by omega);have q3:IntKind.i64.wrap (N:Int) = N:=IntWalk.i64_in _ (by omega);clear e1 e2 hs1 hb e3 hs2 h1 hn hN hs hl hsz
 go_enter Tryz.func80,Tryz.ntmps80;go_upto_region 1 with (fail);clear hw2;go_wp2_with fail;refine (HV.out _).mono ?_;rintro e W3 ⟨rfl,hb⟩;obtain ⟨f1,f2,f3⟩:=HF.out W3 hb;clear x0 x1;have x0:W3.cell? ⟨w.heap.size,0,none⟩ = some (.string s):=(cell_of_blk f1).trans rfl;have x1:W3.cell? ⟨w.heap.size,1,none⟩ = some (.int .i64 N):=(cell_of_blk f1).trans rfl;have H2:=Lib.hid f2;have H3:=Lib.hid f3;have HS3:Hid (w.heap.size + 1 < W3.heap.size):=Lib.hid (by have:=hb.size;have:=HSZ.out;omega);clear hb f1 f2 f3;go_upto_region 4 with (fail)
 have hb4:Below W3.heap.size W3 (W3.alloc (.cells (wrC 0 (.slice none 0 0)) 204)):=belowA (Below.refl _ W3) _;have hs4:(W3.alloc (.cells (wrC 0 (.slice none 0 0)) 204)).heap.size = W3.heap.size + 1:=World.size_alloc _ _;have x0':=(Below.cell hb4 (p:=⟨w.heap.size,0,none⟩) (show w.heap.size < W3.heap.size by have:=HS3.out;omega)).trans x0;have HAd:=Lib.hid (add150 (W3.alloc (.cells (wrC 0 (.slice none 0 0)) 204)) W3.heap.size (heap_alloc_new W3 _) s n HK.out.1 (by have:=HK.out;omega) HK.out.2.2.2.2);have HB4:=Lib.hid hb4;have HS4:=Lib.hid hs4;clear hb4 hs4 x0 x1
 generalize W3.alloc (.cells (wrC 0 (.slice none 0 0)) 204) = w4 at *;go_wp2_with fail;refine HAd.out.mono ?_;rintro e W5 ⟨rfl,v,hc5,hr5,ht5⟩;have HD:=Lib.hid (done151 W5 W3.heap.size w4.heap.size n v hc5 _ (by intro e;have:=congrArg List.length e;rw [outB_len] at this;simp at this;have:=HK.out;omega) hr5 (by have:=HS4.out;omega));have HT5:=Lib.hid ht5;clear hc5 hr5 ht5 x0';go_wp2_with fail;refine HD.out.mono ?_;rintro e W6 ⟨rfl,ht6⟩
 have h6:W6.heap[w.heap.size + 1]? = some (.cells #[.string ⟨#[]⟩,.int .i64 0] 49) :=
  (ht6.block _ (by have:=HT5.out.size;have:=HS4.out;have:=HS3.out;omega) (by have:=HS3.out;omega)).trans ((HT5.out.block _ (by have:=HS4.out;have:=HS3.out;omega) (by have:=HS3.out;omega)).trans ((HB4.out.block _ HS3.out).trans H2.out))
 have hb6:Below w.heap.size w W6:=by
  have ht:=HT5.out.trans ht6 (fun _ _ e=>e);have hbb:Below W3.heap.size w4 W6:=ht.below (fun k hk=>by rw [hk];exact Nat.le_refl _) (by have:=HS4.out;omega);exact (H3.out.trans (HB4.out.mono H3.out.size)).trans (hbb.mono H3.out.size)
 have H6:=Lib.hid h6;have HB6:=Lib.hid hb6;clear ht6 h6 hb6;go_wp2_with (refine wpList_store_row rfl 49 (.tmp 6) (.tmp 40) rfl (w.heap.size + 1) #[.string (cutS s n),.int .i64 n] rfl rfl 49 #[.string ⟨#[]⟩,.int .i64 0] H6.out i49 rfl (by simp [Value.oneCell']) ?_)
 go_wp2_with fail;refine bodyPost_ret (v:=.tuple #[.agg #[.string (cutS s n),.int .i64 n],.int .i64 0]) (ret_bits1 (p:=6) (q:=7) (r:=.int .i64 0) rfl _ rfl rfl (cs:=[.string (cutS s n),.int .i64 n]) rfl (range_blk (setRow_heap _ _ _ _ _ _ H6.out))) rfl ⟨rfl,below_setRow HB6.out (by omega) _⟩
theorem cutS_str {s:ByteArray} {n:Int} (h:BitsOk s n):cutS s n.toNat = s:=by
 unfold cutS;rw [outB_str (s:=s) (n:=n.toNat) (by have:=h.sz;have:=h.n0;omega) (by
  rcases h.last with h' | h'
  ·left
   have:=h.n0
   omega
  ·right
   have e:n.toNat % 8 = (n % 8).toNat:=by have:=h.n0;omega
   rw [e]
   exact h')]
theorem row3 {w:World} {B:Nat} {v:Value} {a b c:Int} (h:RecAt encW 1 w B v [a,b,c]):∃ g o k,v = .slice (some ⟨g,o,none⟩) 3 k∧g < B∧w.cell? ⟨g,o,none⟩ = some (.int .u64 a)∧w.cell? ⟨g,o + 1,none⟩ = some (.int .u64 b)∧w.cell? ⟨g,o + 2,none⟩ = some (.int .u64 c):=by
 obtain ⟨p,k,e,_,_⟩:=h.shape;rw [e] at h;obtain ⟨g,o,rfl,_,hg,hc⟩:=h.nth (by simp);exact ⟨g,o,k,e,hg,by simpa using hc 0 a rfl 0 _ rfl,by simpa using hc 1 b rfl 0 _ rfl,by simpa using hc 2 c rfl 0 _ rfl⟩
def NumIs (x y:Int):Prop:=0 ≤ x∧x ≤ 18446744073709551615∧soN x = y
theorem num77i (x y:Int) (h:NumIs x y) (w:World):Calls Tryz.prog 77 #[.int .u64 x] w fun e w'=>e = .returned (.int .i64 y)∧w = w':=h.2.2 ▸ num77 x h.1 h.2.1 w
abbrev e2c:Obj:=.cells #[.string ⟨#[]⟩,.int .i64 0] 49
theorem text81b {w:World} {B z a b:Nat} {c:Int} {σ:St} {S:Nat→Prop} (h:HQ w B z a b c σ S) {Bx:Nat} {v:Value} {id n:Int} {s:ByteArray} {cnt:Int} (hr:RecAt encW 1 w Bx v [smallW id,smallW 0,smallW n]) (hBx:Bx ≤ w.heap.size) (he:(id,s,cnt) ∈ σ.E) (i0:1 ≤ id) (i1:id ≤ 500000) (hB:BitsOk s n) (hn:512 < n) :
 Calls Tryz.prog 81 #[.pointer (some ⟨z,0,none⟩),.int .i64 8,v] w fun e w'=>e = .returned (.agg #[.string s,.int .i64 n])∧Below w.heap.size w w':=by
 obtain ⟨vY,vF,m,p,cc,m1,m2,h⟩:=h;obtain ⟨g,o,k,ev,hg,r0,r1,r2⟩:=row3 hr;subst ev;have hx:=heap_alloc_new w (.cells #[.string ⟨#[]⟩,.int .i64 0] 49);have hb0:Below w.heap.size w (w.alloc (.cells #[.string ⟨#[]⟩,.int .i64 0] 49)):=belowA (Below.refl _ w) _;have hsz:(w.alloc (.cells #[.string ⟨#[]⟩,.int .i64 0] 49)).heap.size = w.heap.size + 1:=World.size_alloc _ _;generalize hw1:w.alloc (.cells #[.string ⟨#[]⟩,.int .i64 0] 49) = w1 at *;have hzl:z < w.heap.size:=(h.ha.hb_lt z (.inl rfl)).2;have c7:w.cell? ⟨z,7,none⟩ = some (.pointer (some ⟨b,0,none⟩)):=(cell_of_blk h.ha.blk).trans rfl
 have HKp:Hid (∀ W,Below w1.heap.size w1 W→W.cell? ⟨z,7,none⟩ = some (.pointer (some ⟨b,0,none⟩))∧W.cell? ⟨g,o,none⟩ = some (.int .u64 (smallW id))∧W.cell? ⟨g,o + 1,none⟩ = some (.int .u64 (smallW 0))∧W.cell? ⟨g,o + 2,none⟩ = some (.int .u64 (smallW n))∧Below w.heap.size w W∧W.heap[w.heap.size]? = some (.cells #[.string ⟨#[]⟩,.int .i64 0] 49)):=Lib.hid (fun W hW=>by
  have hb:=hb0.trans (hW.mono (by omega))
  exact ⟨(Below.cell hb (p:=⟨z,7,none⟩) hzl).trans c7,(Below.cell hb (p:=⟨g,o,none⟩) (show g < _ by omega)).trans r0,(Below.cell hb (p:=⟨g,o + 1,none⟩) (show g < _ by omega)).trans r1,(Below.cell hb (p:=⟨g,o + 2,none⟩) (show g < _ by omega)).trans r2,hb,(hW.block _ (by omega)).trans hx⟩)
 have HX:=Lib.hid h;have HG:Hid (∀ W,Below w1.heap.size w1 W→Calls Tryz.prog 112 #[.pointer (some ⟨b,0,none⟩),.int .i64 id] W fun e w'=>e = .returned (.tuple #[.string s,.bool true])∧Below W.heap.size W w'):=Lib.hid (fun W hW=>by
  have hb:=hb0.trans (hW.mono (by omega))
  exact get112 (h.sto.below hb) h.we he)
 have s1:=so_small (n:=id) (by simp [smallOk];omega);have s2:=so_small (n:=0) (by simp [smallOk]);have s3:=so_small (n:=n) (by have:=hB.n1;simp [smallOk];omega);have o1:=smallW_ok (n:=id) (by simp [smallOk];omega);have o2:=smallW_ok (n:=0) (by simp [smallOk]);have o3:=smallW_ok (n:=n) (by have:=hB.n1;simp [smallOk];omega);have n1:NumIs (smallW id) id:=⟨o1.1,o1.2.1,s1.2⟩;have n2:NumIs (smallW 0) 0:=⟨o2.1,o2.2.1,s2.2⟩;have n3:NumIs (smallW n) n:=⟨o3.1,o3.2.1,s3.2⟩;have hs8:s.size ≤ 100000:=by have:=hB.sz;have:=hB.n1;omega
 have HOf:=Lib.hid (fun W=>of152 s hs8 W);have HCut:Hid (∀ W,Calls Tryz.prog 80 #[.agg #[.string s,.int .i64 (8 * s.size)],.int .i64 0,.int .i64 n] W fun e w'=>e = .returned (.tuple #[.agg #[.string s,.int .i64 n],.int .i64 0])∧Below W.heap.size W w'):=Lib.hid (fun W=>by
  have h1:=cut80 W s (8 * s.size) n.toNat (by omega) (by have:=hB.sz;omega) (by omega) (by omega) (.inl (by omega)) hs8
  have e1:((n.toNat:Nat):Int) = n:=by omega
  have e2:((8 * s.size:Nat):Int) = 8 * (s.size:Int):=by omega
  rw [cutS_str hB,e1,e2] at h1
  exact h1)
 have HSZ:=Lib.hid (⟨hzl,hg,hBx,hsz⟩:z < w.heap.size∧g < Bx∧Bx ≤ w.heap.size∧w1.heap.size = w.heap.size + 1);obtain ⟨x0,x1,x2,x3,_,_⟩:=HKp.out w1 (Below.refl _ _);have hbd:Below w1.heap.size w1 w1:=Below.refl _ _;clear h hr hBx he i0 i1 hB hn hg r0 r1 r2 hx hb0 hsz hzl c7 s1 s2 s3 o1 o2 o3 hs8;generalize smallW id = ki at *;generalize smallW 0 = k0 at *;generalize smallW n = kn at *;go_enter Tryz.func81,Tryz.ntmps81;go_upto_region 1 with (fail);clear hw1;go_wp2_with fail;replace hbd:=belowD hbd;clear x0 x1 x2 x3;obtain ⟨x0,x1,x2,x3,_,_⟩:=HKp.out _ hbd
 go_region_held3 (fun W=>W.cell? ⟨z,7,none⟩ = some (.pointer (some ⟨b,0,none⟩))∧W.cell? ⟨g,o,none⟩ = some (.int .u64 ki)) (go_keep)
  (first
    | (go_at_call 77;refine (num77i _ _ (by assumption) _).mono ?_;rintro e w' ⟨rfl,rfl⟩)
    | (go_at_call 112;refine (HG.out _ hbd).mono ?_;rintro e W3 ⟨rfl,hb⟩;replace hbd:=hbd.trans (hb.mono hbd.size);clear hb x0 x1 x2 x3;obtain ⟨x0,x1,x2,x3,_,_⟩:=HKp.out W3 hbd))
 all_goals
  go_wp2_with fail;have hbd0:=hbd;have z1:∀ q:Obj,(W3.alloc q).drew.cell? ⟨g,o + 1,none⟩ = some (.int .u64 k0):=fun q=>(HKp.out _ (belowD (belowA hbd q))).2.2.1;have z2:∀ q:Obj,(W3.alloc q).drew.cell? ⟨g,o + 2,none⟩ = some (.int .u64 kn):=fun q=>(HKp.out _ (belowD (belowA hbd q))).2.2.2.1;replace hbd:=belowD hbd;clear x0 x1 x2 x3;obtain ⟨x0,x1,x2,x3,_,_⟩:=HKp.out _ hbd;have k1:=World.new_ne W3 ⟨g,o + 1,none⟩ x2;have k2:=World.new_ne W3 ⟨g,o + 2,none⟩ x3
  go_region_held3 (fun W=>W.cell? ⟨g,o + 1,none⟩ = some (.int .u64 k0)∧W.cell? ⟨g,o + 2,none⟩ = some (.int .u64 kn)) (go_keep)
   (first
     | (go_at_call 77;refine (num77i _ _ (by assumption) _).mono ?_;rintro e w' ⟨rfl,rfl⟩)
     | (go_at_call 152;refine (HOf.out _).mono ?_;rintro e W4 ⟨rfl,hb⟩;(first | (replace hbd:=hbd.trans (hb.mono hbd.size)) | (have hbx:=(hb.block W3.heap.size (show W3.heap.size < (W3.alloc e2c).heap.size by rw [World.size_alloc];exact Nat.lt_succ_self _)).trans (heap_alloc_new W3 e2c);replace hbd:=(belowD (belowA hbd0 e2c)).trans (hb.mono (belowD (belowA hbd0 e2c)).size)) | (have hbx:=(hb.block _ (by rw [World.size_alloc];exact Nat.lt_succ_self _)).trans (heap_alloc_new _ _);replace hbd:=(belowA hbd _).trans (hb.mono (belowA hbd _).size)));(try (replace hbx:=(hb.block _ (Array.getElem?_eq_some_iff.1 hbx).1).trans hbx));have hs4:=hbd.size;clear hb x0 x1 x2 x3;obtain ⟨x0,x1,x2,x3,_,_⟩:=HKp.out W4 hbd;have k1:=World.new_ne W4 ⟨g,o + 1,none⟩ x2;have k2:=World.new_ne W4 ⟨g,o + 2,none⟩ x3)
     | (go_at_call 80;refine (HCut.out _).mono ?_;rintro e W5 ⟨rfl,hb⟩;(first | (replace hbd:=hbd.trans (hb.mono hbd.size)) | (have hbx:=(hb.block W3.heap.size (show W3.heap.size < (W3.alloc e2c).heap.size by rw [World.size_alloc];exact Nat.lt_succ_self _)).trans (heap_alloc_new W3 e2c);replace hbd:=(belowD (belowA hbd0 e2c)).trans (hb.mono (belowD (belowA hbd0 e2c)).size)) | (have hbx:=(hb.block _ (by rw [World.size_alloc];exact Nat.lt_succ_self _)).trans (heap_alloc_new _ _);replace hbd:=(belowA hbd _).trans (hb.mono (belowA hbd _).size)));(try (replace hbx:=(hb.block _ (Array.getElem?_eq_some_iff.1 hbx).1).trans hbx));(try (have kb0:W5.cell? ⟨_,0,none⟩ = some (.string ⟨#[]⟩):=(cell_of_blk hbx).trans rfl;have kb1:W5.cell? ⟨_,1,none⟩ = some (.int .i64 0):=(cell_of_blk hbx).trans rfl;have kf0:=frozen_of_row W5 _ 0 _ _ hbx;have kf1:=frozen_of_row W5 _ 1 _ _ hbx));clear hb x0 x1 x2 x3;obtain ⟨x0,x1,x2,x3,_,_⟩:=HKp.out W5 hbd;have k1:=World.new_ne W5 ⟨g,o + 1,none⟩ x2;have k2:=World.new_ne W5 ⟨g,o + 2,none⟩ x3))
  ·have hq:=(HKp.out W5 hbd).2.2.2.2;have hX:=heap_alloc_new W5 (.cells #[.string s,.int .i64 n] 49);have hR:=(heap_alloc_old W5 (.cells #[.string s,.int .i64 n] 49) (show w.heap.size < _ by have:=hbd.size;have:=HSZ.out;omega)).trans hq.2;have hQ:=belowA hq.1 (.cells #[.string s,.int .i64 n] 49);generalize W5.alloc (.cells #[.string s,.int .i64 n] 49) = WF at *;generalize W5.heap.size = xb at *;have HX2:=Lib.hid hX;have HR2:=Lib.hid hR;have HQ2:=Lib.hid hQ;clear hX hR hQ;go_wp2_with (first
    | (refine wpList_load_mid rfl 49 (.tmp 42) rfl xb 0 rfl [.string s,.int .i64 n] _ (range_blk HX2.out) Tryz.underlying49 rfl (by kernel_rfl) ?_)
    | (refine wpList_load_mid rfl 49 (.tmp 9) rfl xb 0 rfl [.string s,.int .i64 n] _ (range_blk HX2.out) Tryz.underlying49 rfl (by kernel_rfl) ?_)
    | (refine wpList_store_row rfl 49 (.tmp 6) (.tmp 42) rfl w.heap.size #[.string s,.int .i64 n] rfl rfl 49 #[.string ⟨#[]⟩,.int .i64 0] HR2.out i49 rfl (by simp [Value.oneCell']) ?_))
   refine bodyPost_ret (v:=.agg #[.string s,.int .i64 n]) (ret_bits rfl _ rfl (cs:=[.string s,.int .i64 n]) rfl (range_blk (setRow_heap _ _ _ _ _ _ HR2.out))) rfl ⟨rfl,below_setRow HQ2.out (Nat.le_refl _) _⟩
  ·have hq:=(HKp.out W5 hbd).2.2.2.2;have hne:W4.heap.size ≠ w.heap.size∧w.heap.size ≤ W4.heap.size:=by have:=hs4;have:=HSZ.out;omega
   have hX:((W5.setCell ⟨W4.heap.size,0,none⟩ (.string s)).setCell ⟨W4.heap.size,1,none⟩ (.int .i64 n)).heap[W4.heap.size]? = some (.cells #[.string s,.int .i64 n] 49):=blk_set (blk_set hbx _) _;have hR:=((blk_oth (W5.setCell ⟨W4.heap.size,0,none⟩ (.string s)) W4.heap.size 1 (.int .i64 n) (Ne.symm hne.1)).trans (blk_oth W5 W4.heap.size 0 (.string s) (Ne.symm hne.1))).trans hq.2;have hQ:=(hq.1.setCell (p:=⟨W4.heap.size,0,none⟩) hne.2 (.string s)).setCell (p:=⟨W4.heap.size,1,none⟩) hne.2 (.int .i64 n);clear hne
   generalize (W5.setCell ⟨W4.heap.size,0,none⟩ (.string s)).setCell ⟨W4.heap.size,1,none⟩ (.int .i64 n) = WF at *;generalize W4.heap.size = xb at *;have HX2:=Lib.hid hX;have HR2:=Lib.hid hR;have HQ2:=Lib.hid hQ;clear hX hR hQ;go_wp2_with (first
    | (refine wpList_load_mid rfl 49 (.tmp 42) rfl xb 0 rfl [.string s,.int .i64 n] _ (range_blk HX2.out) Tryz.underlying49 rfl (by kernel_rfl) ?_)
    | (refine wpList_load_mid rfl 49 (.tmp 9) rfl xb 0 rfl [.string s,.int .i64 n] _ (range_blk HX2.out) Tryz.underlying49 rfl (by kernel_rfl) ?_)
    | (refine wpList_store_row rfl 49 (.tmp 6) (.tmp 42) rfl w.heap.size #[.string s,.int .i64 n] rfl rfl 49 #[.string ⟨#[]⟩,.int .i64 0] HR2.out i49 rfl (by simp [Value.oneCell']) ?_))
   refine bodyPost_ret (v:=.agg #[.string s,.int .i64 n]) (ret_bits rfl _ rfl (cs:=[.string s,.int .i64 n]) rfl (range_blk (setRow_heap _ _ _ _ _ _ HR2.out))) rfl ⟨rfl,below_setRow HQ2.out (Nat.le_refl _) _⟩
  ·have hq:=(HKp.out W5 hbd).2.2.2.2;have hne:W4.heap.size ≠ w.heap.size∧w.heap.size ≤ W4.heap.size:=by have:=hs4;have:=HSZ.out;omega
   have hX:((W5.setCell ⟨W4.heap.size,0,none⟩ (.string s)).setCell ⟨W4.heap.size,1,none⟩ (.int .i64 n)).heap[W4.heap.size]? = some (.cells #[.string s,.int .i64 n] 49):=blk_set (blk_set hbx _) _;have hR:=((blk_oth (W5.setCell ⟨W4.heap.size,0,none⟩ (.string s)) W4.heap.size 1 (.int .i64 n) (Ne.symm hne.1)).trans (blk_oth W5 W4.heap.size 0 (.string s) (Ne.symm hne.1))).trans hq.2;have hQ:=(hq.1.setCell (p:=⟨W4.heap.size,0,none⟩) hne.2 (.string s)).setCell (p:=⟨W4.heap.size,1,none⟩) hne.2 (.int .i64 n);clear hne
   generalize (W5.setCell ⟨W4.heap.size,0,none⟩ (.string s)).setCell ⟨W4.heap.size,1,none⟩ (.int .i64 n) = WF at *;generalize W4.heap.size = xb at *;have HX2:=Lib.hid hX;have HR2:=Lib.hid hR;have HQ2:=Lib.hid hQ;clear hX hR hQ;go_wp2_with (first
    | (refine wpList_load_mid rfl 49 (.tmp 42) rfl xb 0 rfl [.string s,.int .i64 n] _ (range_blk HX2.out) Tryz.underlying49 rfl (by kernel_rfl) ?_)
    | (refine wpList_load_mid rfl 49 (.tmp 9) rfl xb 0 rfl [.string s,.int .i64 n] _ (range_blk HX2.out) Tryz.underlying49 rfl (by kernel_rfl) ?_)
    | (refine wpList_store_row rfl 49 (.tmp 6) (.tmp 42) rfl w.heap.size #[.string s,.int .i64 n] rfl rfl 49 #[.string ⟨#[]⟩,.int .i64 0] HR2.out i49 rfl (by simp [Value.oneCell']) ?_))
   refine bodyPost_ret (v:=.agg #[.string s,.int .i64 n]) (ret_bits rfl _ rfl (cs:=[.string s,.int .i64 n]) rfl (range_blk (setRow_heap _ _ _ _ _ _ HR2.out))) rfl ⟨rfl,below_setRow HQ2.out (Nat.le_refl _) _⟩
  ·have hq:=(HKp.out W5 hbd).2.2.2.2;have hne:W4.heap.size ≠ w.heap.size∧w.heap.size ≤ W4.heap.size:=by have:=hs4;have:=HSZ.out;omega
   have hX:((W5.setCell ⟨W4.heap.size,0,none⟩ (.string s)).setCell ⟨W4.heap.size,1,none⟩ (.int .i64 n)).heap[W4.heap.size]? = some (.cells #[.string s,.int .i64 n] 49):=blk_set (blk_set hbx _) _;have hR:=((blk_oth (W5.setCell ⟨W4.heap.size,0,none⟩ (.string s)) W4.heap.size 1 (.int .i64 n) (Ne.symm hne.1)).trans (blk_oth W5 W4.heap.size 0 (.string s) (Ne.symm hne.1))).trans hq.2;have hQ:=(hq.1.setCell (p:=⟨W4.heap.size,0,none⟩) hne.2 (.string s)).setCell (p:=⟨W4.heap.size,1,none⟩) hne.2 (.int .i64 n);clear hne
   generalize (W5.setCell ⟨W4.heap.size,0,none⟩ (.string s)).setCell ⟨W4.heap.size,1,none⟩ (.int .i64 n) = WF at *;generalize W4.heap.size = xb at *;have HX2:=Lib.hid hX;have HR2:=Lib.hid hR;have HQ2:=Lib.hid hQ;clear hX hR hQ;go_wp2_with (first
    | (refine wpList_load_mid rfl 49 (.tmp 42) rfl xb 0 rfl [.string s,.int .i64 n] _ (range_blk HX2.out) Tryz.underlying49 rfl (by kernel_rfl) ?_)
    | (refine wpList_load_mid rfl 49 (.tmp 9) rfl xb 0 rfl [.string s,.int .i64 n] _ (range_blk HX2.out) Tryz.underlying49 rfl (by kernel_rfl) ?_)
    | (refine wpList_store_row rfl 49 (.tmp 6) (.tmp 42) rfl w.heap.size #[.string s,.int .i64 n] rfl rfl 49 #[.string ⟨#[]⟩,.int .i64 0] HR2.out i49 rfl (by simp [Value.oneCell']) ?_))
   refine bodyPost_ret (v:=.agg #[.string s,.int .i64 n]) (ret_bits rfl _ rfl (cs:=[.string s,.int .i64 n]) rfl (range_blk (setRow_heap _ _ _ _ _ _ HR2.out))) rfl ⟨rfl,below_setRow HQ2.out (Nat.le_refl _) _⟩
  ·have hq:=(HKp.out W5 hbd).2.2.2.2;have hne:W3.heap.size ≠ w.heap.size∧w.heap.size ≤ W3.heap.size:=by have:=hbd0.size;have:=HSZ.out;omega
   have hX:((W5.setCell ⟨W3.heap.size,0,none⟩ (.string s)).setCell ⟨W3.heap.size,1,none⟩ (.int .i64 n)).heap[W3.heap.size]? = some (.cells #[.string s,.int .i64 n] 49):=blk_set (blk_set hbx _) _;have hR:=((blk_oth (W5.setCell ⟨W3.heap.size,0,none⟩ (.string s)) W3.heap.size 1 (.int .i64 n) (Ne.symm hne.1)).trans (blk_oth W5 W3.heap.size 0 (.string s) (Ne.symm hne.1))).trans hq.2;have hQ:=(hq.1.setCell (p:=⟨W3.heap.size,0,none⟩) hne.2 (.string s)).setCell (p:=⟨W3.heap.size,1,none⟩) hne.2 (.int .i64 n);clear hne
   generalize (W5.setCell ⟨W3.heap.size,0,none⟩ (.string s)).setCell ⟨W3.heap.size,1,none⟩ (.int .i64 n) = WF at *;generalize W3.heap.size = xb at *;have HX2:=Lib.hid hX;have HR2:=Lib.hid hR;have HQ2:=Lib.hid hQ;clear hX hR hQ;go_wp2_with (first
    | (refine wpList_load_mid rfl 49 (.tmp 42) rfl xb 0 rfl [.string s,.int .i64 n] _ (range_blk HX2.out) Tryz.underlying49 rfl (by kernel_rfl) ?_)
    | (refine wpList_load_mid rfl 49 (.tmp 9) rfl xb 0 rfl [.string s,.int .i64 n] _ (range_blk HX2.out) Tryz.underlying49 rfl (by kernel_rfl) ?_)
    | (refine wpList_store_row rfl 49 (.tmp 6) (.tmp 42) rfl w.heap.size #[.string s,.int .i64 n] rfl rfl 49 #[.string ⟨#[]⟩,.int .i64 0] HR2.out i49 rfl (by simp [Value.oneCell']) ?_))
   refine bodyPost_ret (v:=.agg #[.string s,.int .i64 n]) (ret_bits rfl _ rfl (cs:=[.string s,.int .i64 n]) rfl (range_blk (setRow_heap _ _ _ _ _ _ HR2.out))) rfl ⟨rfl,below_setRow HQ2.out (Nat.le_refl _) _⟩
end Go.Proofs.YtpnlnbolhkcnjaaGreat.hp
