/- HtA,HtC. No condition beyond theirs. -/
import Derived.Test.YtpnlnbolhkcnjaaGreatK45
set_option linter.unusedSimpArgs false
set_option linter.unusedVariables false
set_option maxHeartbeats 4000000
set_option maxRecDepth 100000
namespace Go.Proofs.YtpnlnbolhkcnjaaGreat.hp
open Go.RowKit mem words rec tm
theorem index163i (w:World):(∀ {i:Int} {r:Int},i = 8∧r = 10∨i = 1∧r = 7∨i = 7∧r = 10∨i = 0∧r = 9→(Instr.index 163 (.agg kinds) (.int .i64 i)).run Tryz.prog w = .ok (.int .i64 r) w):=by
 intro i r hr;have h3:(Tryz.prog.info? 3).map (·.size) = some 1:=by kernel_rfl
 cases hi:Tryz.prog.info? 3 with
 | none=>rw [hi] at h3;simp at h3
 | some q =>
  rw [hi] at h3;have hs:q.size = 1:=by simpa using h3
  rcases hr with ⟨rfl,rfl⟩ | ⟨rfl,rfl⟩ | ⟨rfl,rfl⟩ | ⟨rfl,rfl⟩ <;> simp [Instr.index,run_underlying Tryz.underlying163,sizeOf,typeInfo,hi,hs,asInt,asIntOf,go_sem,kinds]
section
variable {w:World} {B z a b:Nat} {c:Int} {σ:St} {S:Nat→Prop}
theorem kind46Q (h:HQ w B z a b c σ S) (hY:σ.Y.length ≤ 100000) {v:Int} {x:List Int} (hv:Wok v) (hp:cl.Pt (Kb σ) v x) {r:Int} (hr:cl.knd x = 8∧r = 10∨cl.knd x = 1∧r = 7∨cl.knd x = 7∧r = 10∨cl.knd x = 0∧r = 9) :
 Calls Tryz.prog 46 #[.pointer (some ⟨z,0,none⟩),.int .u64 v] w fun e w'=>e = .returned (.int .i64 r)∧Below w.heap.size w w':=by
 obtain ⟨hso,hao⟩:=pt_flags hp;have HI:=Lib.hid (isQ h hY hv.1 hv.2.1 (.inr (.inr (.inr ⟨x,hp⟩))) (fun e=>by rw [hao] at e;exact Bool.noConfusion e));have HS:=Lib.hid (fun W=>words.SmallOf v hv.1 hv.2.1 W);rw [hso] at HS;have HA':=Lib.hid (fun W=>words.AtomOf v hv.1 hv.2.1 W);rw [hao] at HA';have HO:=Lib.hid (fun W (hb:Below w.heap.size w W)=>objQ (h.below hb) hY hv.1 hv.2.1 hp);unfold ObP at HO;have hix:=fun W=>index163i W hr;unfold kinds at hix;clear h hY hv hp hso hao;generalize cl.wds x = ws at *;generalize soN v = y1 at *;generalize aoN v = y2 at *
 rcases hr with ⟨e,rfl⟩ | ⟨e,rfl⟩ | ⟨e,rfl⟩ | ⟨e,rfl⟩
 all_goals
  rw [e] at HO hix;clear e;go_enter Tryz.func46,Tryz.ntmps46;go_wp2_with fail;refine HI.out.mono ?_;rintro e w1 ⟨rfl,hb⟩;have HB1:=Lib.hid hb;clear hb;go_wp2_with fail;refine (HS.out _).mono ?_;rintro e w2 ⟨rfl,rfl⟩;go_wp2_with fail;refine (HA'.out _).mono ?_;rintro e w2 ⟨rfl,rfl⟩;go_wp2_with fail;refine (HO.out _ HB1.out).mono ?_;rintro e w2 ⟨u,rfl,hR,hb⟩;have HB2:=Lib.hid (HB1.out.trans (hb.mono HB1.out.size));clear hR hb;go_wp2_with fail;go_ret;exact ⟨by first | rfl | kernel_rfl,HB2.out⟩
theorem change146 {E:Ents} {gv tot:Int} {m1 m2:Nat} (h:Sto w b E gv tot m1 m2) (hw:WE E gv) {i:Nat} {id:Int} {s:ByteArray} {n:Int} (he:E[i]? = some (id,s,n)) (h0:0 ≤ n) (h1:n ≤ 1000000000) :
 Calls Tryz.prog 146 #[.pointer (some ⟨b,0,none⟩),.int .i64 id,.int .i64 1] w fun e w'=>e = .returned (.int .i64 0)∧Sto w' b (upE E i 1) gv tot m1 m2∧WE (upE E i 1) gv∧TouchB (sfoot b m1 m2) w w':=by
 obtain ⟨c0,c1,c2,c3⟩:=h.cells;have HM:=Lib.hid (made73 c0);have hl:(Instr.lookup 118 (.map (some m2)) (.int .i64 id) true).run Tryz.prog w = .ok (.tuple #[entV s n,.bool true]) w:=by
  have:=run_lookup_any_ok key3i Tryz.underlying118 h.ent.is id (zero129 w);rw [find_ent hw.ids he] at this;exact this
 have hwr:IntKind.i64.wrap (n + 1) = n + 1:=IntWalk.i64_in _ (by omega);have q0:decide (0 < n + 1) = true:=decide_eq_true (by omega);have H:=Lib.hid h;have HW:=Lib.hid hw;have HE:=Lib.hid he;clear h hw he h0 h1;go_enter Tryz.func146,Tryz.ntmps146;go_wp2_with fail;refine HM.out.mono ?_;rintro e w1 ⟨rfl,rfl⟩;go_upto_region 8 with (fail);have hx:=heap_alloc_new w (.cells #[.string s,.int .i64 (n + 1)] 129);have hb8:Below w.heap.size w (w.alloc (.cells #[.string s,.int .i64 (n + 1)] 129)).drew:=belowD (belowA (Below.refl _ w) _)
 generalize hw8:w.alloc (.cells #[.string s,.int .i64 (n + 1)] 129) = w8 at *;have h8:=H.out.below hb8;obtain ⟨w2,hu,hm,ht⟩:=upd_ent h8 id (entV s (n + 1));have hp:=put_ent HW.out.ids HE.out 1;dsimp only at hp;rw [hp] at hm;have hS:=(h8.ent_upd hm ht).ids_eq (ids_up E i 1).1;have HF:Hid (Sto w2 b (upE E i 1) gv tot m1 m2∧WE (upE E i 1) gv∧TouchB (sfoot b m1 m2) w w2):=Lib.hid ⟨hS,HW.out.up i 1,((TouchB.refl _ w).ofBelow hb8 (Nat.le_refl _)).trans (ht.mono (fun k _ e=>.inr (.inr e))) (fun _ _ e=>e)⟩;obtain ⟨d0,d1,_,_⟩:=h8.cells
 have y0:w8.drew.cell? ⟨w.heap.size,0,none⟩ = some (.string s):=(cell_of_blk hx).trans rfl;have y1:w8.drew.cell? ⟨w.heap.size,1,none⟩ = some (.int .i64 (n + 1)):=(cell_of_blk hx).trans rfl;have g1:=hS.cells.2.1;have hz:w2.heap[w.heap.size]? = some (.cells #[.string s,.int .i64 (n + 1)] 129):=(ht.block w.heap.size (Array.getElem?_eq_some_iff.1 hx).1 (fun e=>by have:=H.out.ent.lt;omega)).trans hx;have g2:w2.cell? ⟨w.heap.size,0,none⟩ = some (.string s):=(cell_of_blk hz).trans rfl;have g3:w2.cell? ⟨w.heap.size,1,none⟩ = some (.int .i64 (n + 1)):=(cell_of_blk hz).trans rfl
 clear hz hx hb8 hw8 h8 hm ht hp hS c0 c1 c2 c3 H HW HE d0;go_region_held3 (fun W=>W.cell? ⟨b,1,none⟩ = some (.map (some m2))∧W.cell? ⟨w.heap.size,0,none⟩ = some (.string s)∧W.cell? ⟨w.heap.size,1,none⟩ = some (.int .i64 (n + 1))) (go_keep) (fail)
 all_goals
  go_wp2_with fail;go_ret;exact ⟨rfl,HF.out⟩
theorem keep76 {E:Ents} {gv tot:Int} {m1 m2:Nat} (h:Sto w b E gv tot m1 m2) (hw:WE E gv) {i:Nat} {id:Int} {s:ByteArray} {n:Int} (he:E[i]? = some (id,s,n)) (h0:0 ≤ n) (h1:n ≤ 1000000000) :
 Calls Tryz.prog 76 #[.pointer (some ⟨b,0,none⟩),.int .i64 id] w fun e w'=>e = .returned (.int .i64 0)∧Sto w' b (upE E i 1) gv tot m1 m2∧WE (upE E i 1) gv∧TouchB (sfoot b m1 m2) w w':=by
 have H:=Lib.hid (change146 h hw he h0 h1);clear h hw he h0 h1;go_enter Tryz.func76,Tryz.ntmps76;go_wp2_with fail;refine H.out.mono ?_;rintro e w' ⟨rfl,hh⟩;have HH:=Lib.hid hh;clear hh;go_wp2_with fail;go_ret;exact ⟨rfl,HH.out⟩
theorem count23 {E:Ents} {gv tot:Int} {m1 m2:Nat} (h:Sto w b E gv tot m1 m2) (hw:WE E gv) {i:Nat} {id:Int} {s:ByteArray} {n:Int} (he:E[i]? = some (id,s,n)) :
 Calls Tryz.prog 23 #[.pointer (some ⟨b,0,none⟩),.int .i64 id] w fun e w'=>e = .returned (.int .i64 n)∧w = w':=by
 obtain ⟨c0,c1,c2,c3⟩:=h.cells;have HM:=Lib.hid (made73 c0);have hl:(Instr.lookup 118 (.map (some m2)) (.int .i64 id) false).run Tryz.prog w = .ok (entV s n) w:=by
  rw [look_ent h id,find_ent hw.ids he];rfl
 have hfd:=field129 s n;clear h hw he;go_enter Tryz.func23,Tryz.ntmps23;go_wp2_with fail;refine HM.out.mono ?_;rintro e w1 ⟨rfl,rfl⟩;go_wp2_with fail;go_ret;exact ⟨rfl,rfl⟩
theorem head25 (h:HQ w B z a b c σ S) (hY:σ.Y.length ≤ 100000) {v:Int} {x:List Int} (hv:Wok v) (hp:cl.Pt (Kb σ) v x) (hk:cl.knd x = 1) :
 Calls Tryz.prog 25 #[.pointer (some ⟨z,0,none⟩),.int .u64 v] w fun e w'=>e = .returned (.tuple #[.int .u64 0,.bool false])∧Below w.heap.size w w':=by
 have HK:=Lib.hid (kind46Q h hY hv hp (.inr (.inl ⟨hk,rfl⟩)));clear h hY hv hp hk;have H82:Hid (Calls Tryz.prog 82 #[.pointer (some ⟨z,0,none⟩),.int .u64 v,.int .i64 0] w fun e w'=>e = .returned (.tuple #[.int .u64 0,.bool false])∧Below w.heap.size w w'):=Lib.hid (by
  go_enter Tryz.func82,Tryz.ntmps82
  go_wp2_with fail
  refine HK.out.mono ?_
  rintro e w1 ⟨rfl,hb⟩
  have HB:=Lib.hid hb
  clear hb
  go_wp2_with fail
  go_ret2
  exact ⟨rfl,HB.out⟩)
 clear HK;go_enter Tryz.func25,Tryz.ntmps25;go_wp2_with fail;refine H82.out.mono ?_;rintro e w1 ⟨rfl,hb⟩;have HB:=Lib.hid hb;clear hb;go_wp2_with fail;go_ret2
 exact ⟨rfl,HB.out⟩
theorem len74 (h:HQ w B z a b c σ S) (hY:σ.Y.length ≤ 100000) {v:Int} {x:List Int} (hv:Wok v) (hp:cl.Pt (Kb σ) v x) (hk:cl.knd x = 8) {i0 i1 i2 n:Int} (hw:cl.wds x = [i0,i1,i2]) (hn:NumIs i2 n) :
 Calls Tryz.prog 74 #[.pointer (some ⟨z,0,none⟩),.int .u64 v] w fun e w'=>e = .returned (.tuple #[.int .i64 n,.bool true])∧Below w.heap.size w w':=by
 have HK:=Lib.hid (kind46Q h hY hv hp (.inl ⟨hk,rfl⟩));have HO:=Lib.hid (fun W (hb:Below w.heap.size w W)=>objQ (h.below hb) hY hv.1 hv.2.1 hp);unfold ObP at HO;rw [hk,hw] at HO;have HN:=Lib.hid (fun W=>num77i i2 n hn W);clear h hY hv hp hk hw hn;go_enter Tryz.func74,Tryz.ntmps74;go_wp2_with fail;refine HK.out.mono ?_;rintro e w1 ⟨rfl,hb⟩;have HB:=Lib.hid hb;clear hb;go_wp2_with fail;refine (HO.out _ HB.out).mono ?_;rintro e w2 ⟨u,rfl,hR,hb⟩;have HB2:=Lib.hid (HB.out.trans (hb.mono HB.out.size));obtain ⟨g,o,k,ev,hg,r0,r1,r2⟩:=row3 hR;subst ev;clear hb hR HO;go_wp2_with fail
 refine (HN.out _).mono ?_;rintro e w3 ⟨rfl,rfl⟩;go_wp2_with fail;go_ret2
 exact ⟨rfl,HB2.out⟩
end
section
variable {w:World} {B z a b:Nat} {c:Int} {σ:St} {S:Nat→Prop}
theorem isN (h:HQ w B z a b c σ S) (hY:σ.Y.length ≤ 100000) {v:Int} (v0:0 ≤ v) (v1:v ≤ 18446744073709551615) (hn:¬ cl.Tm (Kb σ) v) :
 Calls Tryz.prog 85 #[.pointer (some ⟨z,0,none⟩),.int .u64 v] w fun e w'=>e = .returned (.bool false)∧Below w.heap.size w w':=by
 have HM:=Lib.hid (madeQ h)
 have HT:Hid (Calls Tryz.prog 134 #[.pointer (some ⟨z,0,none⟩),.int .u64 v] w fun e w'=>e = .returned (.bool false)∧Below w.heap.size w w') :=
  Lib.hid ((termQ h hY v0 v1).mono fun e w' hh=>by
   obtain ⟨⟨t,rfl,ht⟩,hb⟩:=hh
   refine ⟨?_,hb⟩
   cases t with
   | false=>rfl
   | true=>exact absurd (ht.1 rfl) hn)
 clear h hY v0 v1 hn;go_enter Tryz.func85,Tryz.ntmps85;go_wp2_with fail;refine HM.out.mono ?_;rintro e w1 ⟨rfl,rfl⟩;go_wp2_with fail;refine HT.out.mono ?_;rintro e w1 ⟨rfl,hb⟩;have HB:=Lib.hid hb;clear hb;go_wp2_with fail;go_ret;exact ⟨rfl,HB.out⟩
theorem get29n (h:HQ w B z a b c σ S) (hY:σ.Y.length ≤ 100000) {v:Int} (v0:0 ≤ v) (v1:v ≤ 18446744073709551615) (hn:¬ cl.Tm (Kb σ) v) :
 Calls Tryz.prog 29 #[.pointer (some ⟨z,0,none⟩),.int .u64 v] w fun e w'=>e = .returned (.tuple #[flatT 0 0,.int .i64 6])∧Below w.heap.size w w':=by
 have hb0:Below w.heap.size w (w.alloc (.cells zC 38)):=belowA (Below.refl _ w) _;have HX:=Lib.hid (heap_alloc_new w (.cells zC 38));have HS:=Lib.hid (World.size_alloc w (.cells zC 38));have HM:=Lib.hid (madeQ (h.below hb0));have HI:=Lib.hid (isN (h.below hb0) hY v0 v1 hn);have HB0:=Lib.hid hb0;clear h hb0 hY v0 v1 hn;go_enter Tryz.func29,Tryz.ntmps29;go_wp2_with fail;refine HM.out.mono ?_;rintro e w1 ⟨rfl,rfl⟩;go_wp2_with fail;refine HI.out.mono ?_;rintro e w1 ⟨rfl,hb⟩;have hs1:=hb.size;have HX1:=Lib.hid ((hb.block w.heap.size (by rw [HS.out];omega)).trans HX.out)
 have HB1:=Lib.hid (HB0.out.trans (hb.mono HB0.out.size));clear hs1 hb;go_wp2_with (first | (refine wpList_store_row rfl 38 (.tmp 4) (.tmp 14) rfl w.heap.size (flatC 0 0) rfl rfl 38 zC HX1.out i38 rfl (one9 0 0) ?_))
 go_wp2_with fail;refine bodyPost_ret (v:=.tuple #[flatT 0 0,.int .i64 6]) ?_ rfl ⟨rfl,below_setRow HB1.out (Nat.le_refl _) _⟩;exact ret_row1 (p:=4) (q:=5) (r:=.int .i64 6) rfl _ rfl rfl (cs:=flatL 0 0) rfl (range_blk (setRow_heap _ _ _ _ _ _ HX1.out))
theorem bits22 (h:HQ w B z a b c σ S) (hc1:-2000000 ≤ c) (hc2:c ≤ 2000000) (hY:σ.Y.length ≤ 100000) (s:ByteArray) (n:Int) (hB:BitsOk s n) {m:Int} (hm:(if 512 < n then (4:Int) else 2 + (n + 63) / 64) = m) (hR:¬ c - σ.Y.length < m) (hcap:Cap σ 1 m) :
 Calls Tryz.prog 22 #[.pointer (some ⟨z,0,none⟩),.agg #[.string s,.int .i64 n]] w fun e w'=>e = .returned (.tuple #[.int .u64 (bitsO s n σ).1,.int .i64 0])∧StepQ B z a b c S w (bitsO s n σ).2 w':=by
 have hn0:=hB.n0;have hn1:=hB.n1;have hb0:Below w.heap.size w (w.alloc (.cells #[.string s,.int .i64 n] 49)):=belowA (Below.refl _ w) _;have hx:=heap_alloc_new w (.cells #[.string s,.int .i64 n] 49);have hsz:=World.size_alloc w (.cells #[.string s,.int .i64 n] 49);generalize hw0:w.alloc (.cells #[.string s,.int .i64 n] 49) = w0 at *;have HM:=Lib.hid (fun W (hb:Below w.heap.size w W)=>madeQ (h.below hb));have HV:=Lib.hid (fun W=>valid70 s n hn0 (by omega) hB.sz hB.last W);have HR:=Lib.hid (fun W (hb:Below w.heap.size w W)=>roomQ (h.below hb) (by omega) hc1 hc2)
 have HN:Hid (∀ W,Calls Tryz.prog 71 #[.int .i64 n] W fun e w'=>e = .returned (.int .i64 m)∧W = w'):=Lib.hid (fun W=>hm ▸ bitWords71 W n hn0 (by omega));have HQb:=Lib.hid (fun W (hb:Below w.heap.size w W)=>bitsQ (h.below hb) s n hn0 hn1 hB.sz (hm ▸ hcap));unfold RQ at HQb;have q1:decide (16384 < n) = false:=decide_eq_false (by omega);have q2:decide (c - σ.Y.length < m) = false:=decide_eq_false hR;have HX:Hid (∀ W,Below w0.heap.size w0 W→W.cell? ⟨w.heap.size,0,none⟩ = some (.string s)∧W.cell? ⟨w.heap.size,1,none⟩ = some (.int .i64 n)):=Lib.hid (fun W hb=>by
  have:=(hb.block w.heap.size (by omega)).trans hx
  exact ⟨(cell_of_blk this).trans rfl,(cell_of_blk this).trans rfl⟩)
 have HB0:=Lib.hid hb0;generalize (bitsO s n σ).1 = r1 at *;obtain ⟨x0,x1⟩:=HX.out w0 (Below.refl _ _);have hbd:Below w0.heap.size w0 w0:=Below.refl _ _;clear h hb0 hx hsz hB hm hR hcap hn0 hn1 hY hc1 hc2;go_enter Tryz.func22,Tryz.ntmps22;go_upto_region 1 with (fail);clear hw0;go_wp2_with fail;refine (HM.out _ HB0.out).mono ?_;rintro e w1 ⟨rfl,rfl⟩;go_wp2_with fail;refine (HV.out _).mono ?_;rintro e w1 ⟨rfl,hb⟩;replace hbd:=hbd.trans (hb.mono hbd.size);clear hb x0 x1;obtain ⟨x0,x1⟩:=HX.out w1 hbd;go_wp2_with fail;replace hbd:=belowD hbd;clear x0 x1;obtain ⟨x0,x1⟩:=HX.out w1.drew hbd
 go_region_held3 (fun W=>W.cell? ⟨w.heap.size,1,none⟩ = some (.int .i64 n)) (go_keep)
  (first
    | (go_at_call 39;refine (HR.out _ (HB0.out.trans (hbd.mono HB0.out.size))).mono ?_;rintro e W4 ⟨rfl,hb⟩;replace hbd:=hbd.trans (hb.mono hbd.size);clear hb x0 x1;obtain ⟨x0,x1⟩:=HX.out W4 hbd)
    | (go_at_call 71;refine (HN.out _).mono ?_;rintro e W4 ⟨rfl,rfl⟩))
 all_goals
  go_wp2_with fail;refine (HQb.out _ (HB0.out.trans (hbd.mono HB0.out.size))).mono ?_;rintro e W5 ⟨rfl,hq⟩;have HQ5:=Lib.hid (StepQ.of_below (HB0.out.trans (hbd.mono HB0.out.size)) hq);clear hq x0 x1;go_wp2_with fail;go_ret2
  exact ⟨rfl,HQ5.out⟩
def ClP (l:List Int) (w:World) (e:Ending) (w':World):Prop:=∃ p k,e = .returned (.slice p l.length k)∧RecOwn encW 40 1 w' w.heap.size (.slice p l.length k) l∧Below w.heap.size w w'
theorem eq22n:∀ (w:World) (n c n' c':Nat),(binOp .eql 22 (.slice none n c) (.slice none n' c')).run Tryz.prog w = .ok (.bool true) w:=fun w n c n' c'=>Lib.run_eql_slice_nil w _ _ none n c n' c' Tryz.underlying22
theorem eq22s:∀ (w:World) (a:Addr) (n c n' c':Nat),(binOp .eql 22 (.slice (some a) n c) (.slice none n' c')).run Tryz.prog w = .ok (.bool false) w:=fun w a n c n' c'=>Lib.run_eql_slice_nil w _ _ (some a) n c n' c' Tryz.underlying22
theorem clone83 {v:Value} {l:List Int} (h:RecOwn encW 40 1 w B v l) (hl:l.length ≤ 1000000):Calls Tryz.prog 83 #[v] w (ClP l w):=by
 have HO:=Lib.hid h
 rcases h with ⟨hk,⟨rfl,el⟩ | ⟨g,cap,cur,rfl,hr⟩⟩
 ·obtain rfl:l = []:=by
   cases l with
   | nil=>rfl
   | cons x l=>simp at el
  clear hk el HO;have q22:=eq22n;go_enter Tryz.func83,Tryz.ntmps83;go_wp2_with fail;go_ret;exact ⟨_,_,rfl,RecOwn.nil _ _ _,Below.refl _ _⟩
 ·clear hk hr;have HR:=Lib.hid (HO.out.row (encW_ok _));have HL:=Lib.hid hl;have hb0:Below w.heap.size w (w.alloc (.cells #[] 40)):=belowA (Below.refl _ w) _;have O0:Hid (RecOwn encW 40 1 (w.alloc (.cells #[] 40)) w.heap.size (.slice (some ⟨w.heap.size,0,none⟩) 0 0) []):=Lib.hid (World.ownsRow_made (e:=40) (size:=1) (base:=w.heap.size) w #[] 0 (Nat.le_refl _) (by unfold maxLen;omega) rfl);have HB0:=Lib.hid hb0;clear hb0 hl HO;have q22:=eq22s;go_enter Tryz.func83,Tryz.ntmps83
  go_wp2_with (refine wpList_append_rec (enc:=encW) elW rfl (.tmp 5) (.tmp 6) rfl rfl (base:=w.heap.size) (l:=[]) O0.out HB0.out.size (B:=w.heap.size) (xs:=l) rfl (HR.out.below HB0.out (Nat.le_refl _)) (encW_ok _) (by have:=HL.out;simp;omega) ?_)
  intro v1 W1 hA;have HA':=Lib.hid (⟨by simpa using hA.own,hA.belowB HB0.out HB0.out.size (fun k hk=>(O0.out.lt hk).1)⟩:RecOwn encW 40 1 W1 w.heap.size v1 l∧Below w.heap.size w W1);obtain ⟨p1,k1,rfl,_⟩:=HA'.out.1.shape;clear hA q22;go_wp2_with fail;go_ret;exact ⟨_,_,rfl,HA'.out⟩
def MemP (Y:List Int) (w:World) (e:Ending) (w':World):Prop:=∃ v1 v2,e = .returned (.agg #[v1,v2,.int .i64 0])∧RecOwn encW 40 1 w' w.heap.size v1 Y∧RecOwn encW 40 1 w' w.heap.size v2 []∧Below w.heap.size w w'
abbrev z24:Array Value:=#[.slice none 0 0,.slice none 0 0,.int .i64 0]
theorem ret24 {fn:Func} {p:Tmp} (h:fn.results = #[.cell p 24]) (tmps:Array Value) {g:Nat} (hp:tmps.getD p undef = .pointer (some ⟨g,0,none⟩)) {W:World} {cs:List Value} (hl:cs.length = 3) (hc:W.rangeAt g 0 cs) :
 (results fn tmps).run Tryz.prog W = .ok (.agg cs.toArray) W:=by
 rw [results_cell1 h,hp];simp only [asAddr,Sem.run_pure,Result.andThen_ok];exact run_loadVar_mid W g 0 24 cs _ hc Tryz.underlying24 rfl (by rw [hl];kernel_rfl)
theorem set3c (W:World) {x z:Nat} (h:z ≠ x) (u0 u1 u2:Value) (j:Nat):(((W.setCell ⟨x,0,none⟩ u0).setCell ⟨x,1,none⟩ u1).setCell ⟨x,2,none⟩ u2).cell? ⟨z,j,none⟩ = W.cell? ⟨z,j,none⟩:=by
 rw [World.cell?_setCell_far _ _ _ _ (Ne.symm h),World.cell?_setCell_far _ _ _ _ (Ne.symm h),World.cell?_setCell_far _ _ _ _ (Ne.symm h)]
theorem set3b {w W:World} {x:Nat} {a0 a1 a2:Value} {t:TypeId} (hb:W.heap[x]? = some (.cells #[a0,a1,a2] t)) (u0 u1 u2:Value) :
 (((W.setCell ⟨x,0,none⟩ u0).setCell ⟨x,1,none⟩ u1).setCell ⟨x,2,none⟩ u2).heap[x]? = some (.cells #[u0,u1,u2] t) ∧
 ∀ k,k ≠ x→(((W.setCell ⟨x,0,none⟩ u0).setCell ⟨x,1,none⟩ u1).setCell ⟨x,2,none⟩ u2).heap[k]? = W.heap[k]? :=
 ⟨blk_set (blk_set (blk_set hb _) _) _,fun k hk=>(blk_oth _ _ _ _ hk).trans ((blk_oth _ _ _ _ hk).trans (blk_oth _ _ _ _ hk))⟩
theorem mem26 (h:HQ w B z a b c σ S) (hY:σ.Y.length ≤ 1000000):Calls Tryz.prog 26 #[.pointer (some ⟨z,0,none⟩)] w (MemP σ.Y w):=by
 have hb0:Below w.heap.size w (w.alloc (.cells z24 24)):=belowA (Below.refl _ w) _;have hx:=heap_alloc_new w (.cells z24 24);have hsz:=World.size_alloc w (.cells z24 24);have HM:=Lib.hid (fun W (hb:Below w.heap.size w W)=>madeQ (h.below hb));obtain ⟨vY,vF,m,p,cc,m1,m2,h⟩:=h;have HZ:Hid (∀ W,Below w.heap.size w W→W.cell? ⟨z,0,none⟩ = some vY∧W.cell? ⟨z,2,none⟩ = some (.slice none 0 0)∧W.cell? ⟨z,4,none⟩ = some (.int .i64 0)):=Lib.hid (fun W hb=>by
  have:=(hb.block z (h.ha.hb_lt z (.inl rfl)).2).trans h.ha.blk
  exact ⟨(cell_of_blk this).trans rfl,(cell_of_blk this).trans rfl,(cell_of_blk this).trans rfl⟩)
 have HC1:=Lib.hid (fun W (hb:Below w.heap.size w W)=>clone83 (w:=W) (h.ha.y.below hb) hY);have HC2:=Lib.hid (fun W=>clone83 (w:=W) (B:=0) (v:=.slice none 0 0) (l:=[]) (RecOwn.nil _ _ _) (by simp));unfold ClP at HC1 HC2;have HX:=Lib.hid hx;have HXB:Hid (∀ W,Below (w.alloc (.cells z24 24)).heap.size (w.alloc (.cells z24 24)) W→W.heap[w.heap.size]? = some (.cells z24 24)):=Lib.hid (fun W hb=>(hb.block w.heap.size (by omega)).trans hx);have HSz:=Lib.hid hsz;have HB0:=Lib.hid hb0;have HNz:Hid (z ≠ w.heap.size):=Lib.hid (by have:=(h.ha.hb_lt z (.inl rfl)).2;omega);obtain ⟨pY,kY,rfl,_⟩:=h.ha.y.shape
 generalize σ.Y.length = n at *;clear h hx hsz hb0 hY;go_enter Tryz.func26,Tryz.ntmps26;go_wp2_with fail;refine (HM.out _ HB0.out).mono ?_;rintro e w1 ⟨rfl,rfl⟩;go_wp2_with fail;have hbd:=belowD (Below.refl (w.alloc (.cells z24 24)).heap.size (w.alloc (.cells z24 24)));obtain ⟨z0,z2,z4⟩:=HZ.out _ (HB0.out.trans (hbd.mono HB0.out.size))
 go_region_held3 (fun W=>W.cell? ⟨z,0,none⟩ = some (.slice pY n kY)∧W.cell? ⟨z,2,none⟩ = some (.slice none 0 0)∧W.cell? ⟨z,4,none⟩ = some (.int .i64 0)) (go_keep)
  (first
    | (go_at_call 83;refine (HC1.out _ (HB0.out.trans (hbd.mono HB0.out.size))).mono ?_;rintro e W4 ⟨p1,k1,rfl,hO1,hb⟩;have hs1:=hbd.size;replace hbd:=hbd.trans (hb.mono hbd.size);clear hb z0 z2 z4;obtain ⟨z0,z2,z4⟩:=HZ.out W4 (HB0.out.trans (hbd.mono HB0.out.size)))
    | (go_at_call 83;refine (HC2.out _).mono ?_;rintro e W5 ⟨p2,k2,rfl,hO2,hb⟩;have hs2:=hbd.size;have hO3:=hO1.below hb;replace hbd:=hbd.trans (hb.mono hbd.size);clear hb z0 z2 z4;obtain ⟨z0,z2,z4⟩:=HZ.out W5 (HB0.out.trans (hbd.mono HB0.out.size));have hbk:=HXB.out _ hbd;have k0:W5.cell? ⟨w.heap.size,0,none⟩ = some (.slice none 0 0):=(cell_of_blk hbk).trans rfl;have k1':W5.cell? ⟨w.heap.size,1,none⟩ = some (.slice none 0 0):=(cell_of_blk hbk).trans rfl;have k2':W5.cell? ⟨w.heap.size,2,none⟩ = some (.int .i64 0):=(cell_of_blk hbk).trans rfl;have f0:W5.frozen? ⟨w.heap.size,0,none⟩ = false:=frozen_of_row W5 w.heap.size 0 _ _ hbk;have f1:W5.frozen? ⟨w.heap.size,1,none⟩ = false:=frozen_of_row W5 w.heap.size 1 _ _ hbk;have f2:W5.frozen? ⟨w.heap.size,2,none⟩ = false:=frozen_of_row W5 w.heap.size 2 _ _ hbk;have l0:=(set3c W5 HNz.out (.slice p1 n k1) (.slice p2 0 k2) (.int .i64 0) 0).trans z0;have l2:=(set3c W5 HNz.out (.slice p1 n k1) (.slice p2 0 k2) (.int .i64 0) 2).trans z2;have l4:=(set3c W5 HNz.out (.slice p1 n k1) (.slice p2 0 k2) (.int .i64 0) 4).trans z4))
 all_goals
  have hb2:=set3b (w:=w) hbk (.slice p1 n k1) (.slice p2 0 k2) (.int .i64 0)
  have hbF:Below w.heap.size w (((W5.setCell ⟨w.heap.size,0,none⟩ (.slice p1 n k1)).setCell ⟨w.heap.size,1,none⟩ (.slice p2 0 k2)).setCell ⟨w.heap.size,2,none⟩ (.int .i64 0)) :=
   (((((TouchB.refl (fun k=>k = w.heap.size) w).ofBelow (HB0.out.trans (hbd.mono HB0.out.size)) (Nat.le_refl _)).setCell ⟨w.heap.size,0,none⟩ _ (fun _=>rfl)).setCell ⟨w.heap.size,1,none⟩ _ (fun _=>rfl)).setCell ⟨w.heap.size,2,none⟩ _ (fun _=>rfl)).below (fun k hk=>Nat.le_of_eq hk.symm) (Nat.le_refl _)
  have HF:=Lib.hid hb2;have HBF:=Lib.hid hbF;have HO3:=Lib.hid hO3;have HO2:=Lib.hid hO2;have HS1:=Lib.hid hs1;have HS2:=Lib.hid hs2;clear hb2 hbF hO1 hO2 hO3 hs1 hs2;go_wp2_with fail
  refine bodyPost_ret (v:=.agg #[.slice p1 n k1,.slice p2 0 k2,.int .i64 0]) (ret24 (g:=w.heap.size) rfl _ rfl (cs:=[.slice p1 n k1,.slice p2 0 k2,.int .i64 0]) rfl (range_blk HF.out.1)) rfl ⟨_,_,rfl,?_,?_,HBF.out⟩
  ·exact (HO3.out.same fun k hk=>HF.out.2 k (by have:=HSz.out;have:=HS1.out;have:=(HO3.out.lt hk).1;omega)).base fun k hk=>by have:=HSz.out;have:=HS1.out;have:=(HO3.out.lt hk).1;omega
  ·exact (HO2.out.same fun k hk=>HF.out.2 k (by have:=HSz.out;have:=HS2.out;have:=(HO2.out.lt hk).1;omega)).base fun k hk=>by have:=HSz.out;have:=HS2.out;have:=(HO2.out.lt hk).1;omega
end
end Go.Proofs.YtpnlnbolhkcnjaaGreat.hp
