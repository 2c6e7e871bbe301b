/- HpI,HpJ. No condition beyond theirs. -/
import Derived.Test.YtpnlnbolhkcnjaaGreatK14
import Derived.Laws.Tables
set_option linter.unusedSimpArgs false
set_option linter.unusedVariables false
set_option maxHeartbeats 4000000
set_option maxRecDepth 100000
namespace Go.Proofs.YtpnlnbolhkcnjaaGreat.hp
open Go.RowKit mem words rec
theorem results_cell1 {fn:Func} {p:Tmp} {ty:TypeId} (h:fn.results = #[.cell p ty]) (tmps:Array Value) (P:Program) (w:World) :
 (results fn tmps).run P w = ((asAddr (tmps.getD p undef)).run P w).andThen fun a w₁=>(loadVar ty a).run P w₁:=by
 simp only [results,h];simp [Sem.run_bind,Result.andThen]
theorem range_blk {W:World} {g:Nat} {cs:List Value} {t:TypeId} {fz:Nat × Nat} (h:W.heap[g]? = some (.cells cs.toArray t fz)):W.rangeAt g 0 cs:=fun j v hj=>by
 rw [Nat.zero_add,cell_of_blk h];simpa using hj
theorem ret_row {fn:Func} {p:Tmp} (h:fn.results = #[.cell p 38]) (tmps:Array Value) {g:Nat} (hp:tmps.getD p undef = .pointer (some ⟨g,0,none⟩)) {W:World} {cs:List Value} (hl:cs.length = 9) (hc:W.rangeAt g 0 cs) :
 (results fn tmps).run Tryz.prog W = .ok (.agg cs.toArray) W:=by
 rw [results_cell1 h,hp];simp only [asAddr,Sem.run_pure,Result.andThen_ok];exact run_loadVar_mid W g 0 38 cs _ hc Tryz.underlying38 rfl (by rw [hl];kernel_rfl)
theorem below_setRow {B:Nat} {a w:World} (h:Below B a w) {g:Nat} (hg:B ≤ g) (cs:Array Value):Below B a (w.setRow g cs) :=
 ⟨h.os,h.tape,h.output,by have:=h.size;simpa using this,fun k hk=>(setRow_other w g k _ (by omega)).trans (h.block k hk)⟩
abbrev zC:Array Value:=flatC 0 0
theorem one9 (k n:Int):(flatC k n).all (·.oneCell') = true:=by
 simp [Value.oneCell']
theorem i38:(Tryz.prog.info? 38).map (·.size) = some 9:=by kernel_rfl
theorem get19 (w:World) (p:Option Addr):Calls Tryz.prog 86 #[.pointer p,.int .u64 19] w fun e w'=>e = .returned (flatT 1 1)∧Below w.heap.size w w':=by
 have HS:=Lib.hid (fun W=>words.SmallOf 19 (by omega) (by omega) W);have e3:soOk 19 = true:=by decide
 have e4:soN 19 = 1:=by decide
 rw [e3,e4] at HS;have HI:=Lib.hid (fun W=>int153 W 1);have HZ:=Lib.hid (heap_alloc_new w (.cells zC 38));have HB:=Lib.hid (belowA (Below.refl _ w) (.cells zC 38));clear e3 e4;go_enter Tryz.func86,Tryz.ntmps86;go_wp2_with fail;refine (HS.out _).mono ?_;rintro e w1 ⟨rfl,rfl⟩;go_wp2_with fail;refine (HI.out _).mono ?_;rintro e w1 ⟨rfl,hb⟩;have HZ1:=Lib.hid ((hb.block w.heap.size (by rw [World.size_alloc];omega)).trans HZ.out);have HB1:=Lib.hid (HB.out.trans (hb.mono HB.out.size));clear hb
 go_wp2_with (refine wpList_store_row rfl 38 (.tmp 4) (.tmp 22) rfl w.heap.size (flatC 1 1) rfl rfl 38 zC HZ1.out i38 rfl (one9 1 1) ?_)
 go_wp2_with fail;refine bodyPost_ret (v:=flatT 1 1) (ret_row rfl _ rfl (cs:=flatL 1 1) rfl (range_blk (setRow_heap _ _ _ _ _ _ HZ1.out))) rfl ⟨rfl,below_setRow HB1.out (Nat.le_refl _) _⟩
theorem get11 {w:World} {B z a b:Nat} {c:Int} {vY vF:Value} (h:HA w B z a b c vY vF [19,11,19,1] F1):Calls Tryz.prog 86 #[.pointer (some ⟨z,0,none⟩),.int .u64 11] w fun e w'=>e = .returned (flatT 8 0)∧Below w.heap.size w w':=by
 have HS:=Lib.hid (fun W=>words.SmallOf 11 (by omega) (by omega) W);have HA':=Lib.hid (fun W=>words.AtomOf 11 (by omega) (by omega) W);have e1:aoOk 11 = false:=by decide
 have e2:aoN 11 = 0:=by decide
 have e3:soOk 11 = false:=by decide
 have e4:soN 11 = 0:=by decide
 rw [e3,e4] at HS;rw [e1,e2] at HA';have HI:=Lib.hid (fun W=>nil155 W);have HZ:=Lib.hid (heap_alloc_new w (.cells zC 38));have HB:=Lib.hid (belowA (Below.refl _ w) (.cells zC 38));have HO:=Lib.hid (obj_no (h.below (belowA (Below.refl _ w) (.cells zC 38))));clear e1 e2 e3 e4 h;go_enter Tryz.func86,Tryz.ntmps86;go_wp2_with fail;refine (HS.out _).mono ?_;rintro e w1 ⟨rfl,rfl⟩;go_wp2_with fail;refine (HA'.out _).mono ?_;rintro e w1 ⟨rfl,rfl⟩;go_wp2_with fail;refine HO.out.mono ?_;rintro e w1 ⟨rfl,hb⟩;have HZ1:=Lib.hid ((hb.block w.heap.size (by rw [World.size_alloc];omega)).trans HZ.out)
 have HB1:=Lib.hid (HB.out.trans (hb.mono HB.out.size));have HSz:Hid (w.heap.size < w1.heap.size):=Lib.hid (by have:=hb.size;rw [World.size_alloc] at this;omega);clear hb HO;go_wp2_with fail;refine (HI.out _).mono ?_;rintro e w2 ⟨rfl,hb⟩;have HZ2:=Lib.hid ((hb.block w.heap.size HSz.out).trans HZ1.out);have HB2:=Lib.hid (HB1.out.trans (hb.mono HB1.out.size));clear hb;go_wp2_with (refine wpList_store_row rfl 38 (.tmp 4) (.tmp 44) rfl w.heap.size (flatC 8 0) rfl rfl 38 zC HZ2.out i38 rfl (one9 8 0) ?_)
 go_wp2_with fail;refine bodyPost_ret (v:=flatT 8 0) (ret_row rfl _ rfl (cs:=flatL 8 0) rfl (range_blk (setRow_heap _ _ _ _ _ _ HZ2.out))) rfl ⟨rfl,below_setRow HB2.out (Nat.le_refl _) _⟩
def encT (q:Int × Int):List Value:=flatL q.1 q.2
theorem encT_ok (l:List (Int × Int)):EncOK encT 9 l:=fun a _=>⟨rfl,fun u hu=>by
 simp only [encT,flatL,List.mem_cons,List.not_mem_nil,or_false] at hu
 rcases hu with rfl | rfl | rfl | rfl | rfl | rfl | rfl | rfl | rfl <;> rfl⟩
theorem info38:(Tryz.prog.info? 38).map (fun i=>(i.zero,i.size,i.bytes)) = some (some (.agg zC),9,112):=by kernel_rfl
theorem elT:ElTy 36 38 9:=elty_of Tryz.underlying36 info38 rfl (by decide) (by decide)
theorem heap_at {w W:World} {B z a b:Nat} {c:Int} {vY vF:Value} (h:HA w B z a b c vY vF [19,11,19,1] F1) (hb:Below w.heap.size w W):cl.HeapIn W w.heap.size z m1 K1:=by
 obtain ⟨⟨⟨v1,v2,a1,a2,a3,a4⟩,a5,a6,a7⟩,⟨⟨u1,u2,b1,b2,b3,b4⟩,b5,b6,b7⟩⟩:=heap_in h;have e:∀ i,W.cell? ⟨z,i,none⟩ = w.cell? ⟨z,i,none⟩:=fun i=>World.cell?_of_block (w:=w) (w':=W) (a:=⟨z,i,none⟩) (hb.block z (Array.getElem?_eq_some_iff.1 h.blk).1);exact ⟨⟨⟨v1,v2,(e _).trans a1,(e _).trans a2,a3.below hb (Nat.le_refl _),a4.below hb (Nat.le_refl _)⟩,a5,a6,a7⟩,⟨⟨u1,u2,(e _).trans b1,(e _).trans b2,b3.below hb (Nat.le_refl _),b4.below hb (Nat.le_refl _)⟩,b5,b6,b7⟩⟩
def ObZ (w0:World) (l:List Int) (w:World) (e:Ending) (w':World):Prop:=∃ g o k,e = .returned (.tuple #[.int .i64 0,.slice (some ⟨g,o,none⟩) l.length k,.bool true])∧(∀ W,Below w0.heap.size w0 W→∀ j x,l[j]? = some x→W.cell? ⟨g,o + j,none⟩ = some (.int .u64 x))∧Below w.heap.size w w'
theorem obz {w W:World} {B z a b:Nat} {c:Int} {vY vF:Value} (h:HA w B z a b c vY vF [19,11,19,1] F1) (hb:Below w.heap.size w W) {v:Int} {x:List Int} (v0:0 ≤ v) (v1:v ≤ 18446744073709551615) (hp:cl.Pt K1 v x) (hk:cl.knd x = 0) (hw:cl.wds x = x) (hx:x ≠ []) :
 Calls Tryz.prog 75 #[.pointer (some ⟨z,0,none⟩),.int .u64 v] W (ObZ w x W) :=
 (cl.object96 W w.heap.size z m1 K1 (heap_at h hb) v v0 v1).mono fun e w' hh=>by
   obtain ⟨n,rfl,⟨y,u,hy,rfl,hu⟩ | ⟨hn,_⟩⟩:=hh
   ·obtain rfl:=cl.Pt.uniq (heap_in h).pos hy hp;rw [hw] at hu;obtain ⟨p,k,rfl,_,_,h3⟩:=hu;obtain ⟨g,o,rfl,hg,hc⟩:=h3 hx;refine ⟨g,o,k,by rw [hk],fun V hV j q hj=>?_,⟨rfl,rfl,rfl,Nat.le_refl _,fun _ _=>rfl⟩⟩;obtain ⟨hl,rfl⟩:=List.getElem?_eq_some_iff.1 hj;exact (World.cell?_of_block (w:=W) (w':=V) (a:=⟨g,o + j,none⟩) ((hV.block g hg).trans (hb.block g hg).symm)).trans (hc j hl)
   ·exact absurd ⟨x,hp⟩ hn
theorem obn {w W:World} {B z a b:Nat} {c:Int} {vY vF:Value} (h:HA w B z a b c vY vF [19,11,19,1] F1) (hb:Below w.heap.size w W) :
 Calls Tryz.prog 75 #[.pointer (some ⟨z,0,none⟩),.int .u64 11] W fun e w'=>e = .returned (.tuple #[.int .i64 0,.slice none 0 0,.bool false])∧Below W.heap.size W w' :=
 obj_no (h.below hb)
abbrev flatV (v:Value):Array Value:=#[.int .i64 9,.int .i64 0,.int .i64 0,.string ⟨#[]⟩,.string ⟨#[]⟩,.int .i64 0,v,.string ⟨#[]⟩,.int .i64 0]
theorem oneV {W:World} {base:Nat} {v:Value} {l:List (Int × Int)} (h:RecOwn encT 38 9 W base v l):(flatV v).all (·.oneCell') = true:=by
 obtain ⟨p,c,rfl,_,_⟩:=h.shape;simp [Value.oneCell']
theorem get17 {w:World} {B z a b:Nat} {c:Int} {vY vF:Value} (h:HA w B z a b c vY vF [19,11,19,1] F1) :
 Calls Tryz.prog 86 #[.pointer (some ⟨z,0,none⟩),.int .u64 17] w fun e w'=>∃ v,e = .returned (.agg #[.int .i64 9,.int .i64 0,.int .i64 0,.string ⟨#[]⟩,.string ⟨#[]⟩,.int .i64 0,v,.string ⟨#[]⟩,.int .i64 0])∧RecOwn encT 38 9 w' w.heap.size v [(1,1),(1,1),(8,0)]∧Below w.heap.size w w':=by
 have HS:=Lib.hid (fun W=>words.SmallOf 17 (by omega) (by omega) W);have HA':=Lib.hid (fun W=>words.AtomOf 17 (by omega) (by omega) W);have e1:aoOk 17 = false:=by decide
 have e2:aoN 17 = 0:=by decide
 have e3:soOk 17 = false:=by decide
 have e4:soN 17 = 0:=by decide
 rw [e3,e4] at HS;rw [e1,e2] at HA';have HG:=Lib.hid (fun W=>get19 W (some ⟨z,0,none⟩));have HN:=Lib.hid (fun W (hb:Below w.heap.size w W)=>get11 (h.below hb));have HZ:=Lib.hid (heap_alloc_new w (.cells zC 38));have HB:=Lib.hid (belowA (Below.refl _ w) (.cells zC 38));have HO0:=Lib.hid (fun W (hb:Below w.heap.size w W)=>obz h hb (by omega) (by omega) pt17 (by decide) (by decide) (by simp));have HO1:=Lib.hid (fun W (hb:Below w.heap.size w W)=>obz h hb (by omega) (by omega) pt1 (by decide) (by decide) (by simp));have HO2:=Lib.hid (fun W (hb:Below w.heap.size w W)=>obn h hb);clear e1 e2 e3 e4 h
 have hsz:(w.alloc (.cells zC 38)).heap.size = w.heap.size + 1:=World.size_alloc _ _;have HSZ:=Lib.hid hsz;clear hsz;go_enter Tryz.func86,Tryz.ntmps86;go_wp2_with fail;refine (HS.out _).mono ?_;rintro e w1 ⟨rfl,rfl⟩;go_wp2_with fail;refine (HA'.out _).mono ?_;rintro e w1 ⟨rfl,rfl⟩;go_wp2_with fail;refine (HO0.out _ HB.out).mono ?_;rintro e W0 ⟨g0,o0,k0,rfl,hc,hb⟩
 -- the fence: the blocks of this call's own rows lie above
 have hs1:=hb.size;have HZ0:=Lib.hid ((hb.block w.heap.size (by rw [HSZ.out];omega)).trans HZ.out);have HB0:=Lib.hid (HB.out.trans (hb.mono HB.out.size));have HK:Hid (w.heap.size < W0.heap.size):=Lib.hid (by rw [HSZ.out] at hs1;omega);have HC0:=Lib.hid hc;have O0:Hid (RecOwn encT 38 9 W0 W0.heap.size (.slice none 0 0) []):=Lib.hid (RecOwn.nil _ _ _);have HF0:=Lib.hid (Below.refl W0.heap.size W0);clear hs1 hb hc HZ HB HO0;have x0:W0.cell? ⟨g0,o0,none⟩ = some (.int .u64 19):=HC0.out W0 HB0.out 0 19 rfl;go_wp2_with fail;refine wp_loop_rounds 3 ?_;rw [rounds_succ];go_wp2_with fail
 refine (HG.out _).mono ?_;rintro e V0 ⟨rfl,hv⟩;have hby:Below W0.heap.size W0 (V0.alloc (.cells (flatC 1 1) 38)):=hv.alloc hv.size _;have hbf:=HF0.out.trans (hby.mono HF0.out.size);have OA:Hid (RecOwn encT 38 9 (V0.alloc (.cells (flatC 1 1) 38)) W0.heap.size (.slice none 0 0) []):=Lib.hid (O0.out.below hby);have RA:Hid (RecAt encT 9 (V0.alloc (.cells (flatC 1 1) 38)) (V0.heap.size + 1) (.slice (some ⟨V0.heap.size,0,none⟩) 1 1) [(1,1)]):=Lib.hid (RecAt.fresh (encT_ok [(1,1)]) (by decide) (heap_alloc_new V0 _) (Nat.le_refl 1) (by unfold maxLen;omega));have hsz:=hbf.size;have HBn:=Lib.hid hbf
 have HBb:=Lib.hid hsz;clear hv hby hbf hsz;go_wp2_with (refine wpList_append_rec (enc:=encT) elT rfl (.tmp 81) (.tmp 87) rfl rfl (base:=W0.heap.size) (l:=[]) OA.out HBb.out (B:=V0.heap.size + 1) (xs:=[(1,1)]) rfl RA.out (encT_ok _) (by decide) ?_)
 intro v1 U1 hA;have P1:Hid (RecOwn encT 38 9 U1 W0.heap.size v1 [(1,1)]):=Lib.hid hA.own;have HU1:=Lib.hid (hA.belowB HBn.out HBb.out (fun k hk=>(OA.out.lt hk).1));have HW1:=Lib.hid (HB0.out.trans (HU1.out.mono HB0.out.size));clear hA OA RA HBn HBb O0 HF0;have x1:U1.cell? ⟨g0,o0 + 1,none⟩ = some (.int .u64 1):=HC0.out U1 HW1.out 1 1 rfl;clear x0;go_wp2_with fail;refine (HO1.out _ HW1.out).mono ?_;rintro e W1 ⟨g1,o1,k1,rfl,hc,hb⟩;have O1:Hid (RecOwn encT 38 9 W1 W0.heap.size v1 [(1,1)]):=Lib.hid (P1.out.below hb);have HF1:=Lib.hid (HU1.out.trans (hb.mono HU1.out.size));have HC1:=Lib.hid hc
 clear hc hb x1 P1 HU1 HW1;have y0:W1.cell? ⟨g1,o1,none⟩ = some (.int .u64 19):=HC1.out W1 (HB0.out.trans (HF1.out.mono HB0.out.size)) 0 19 rfl;go_wp2_with fail;rw [rounds_succ];go_wp2_with fail;refine (HG.out _).mono ?_;rintro e V1 ⟨rfl,hv⟩;have hby:Below W1.heap.size W1 (V1.alloc (.cells (flatC 1 1) 38)):=hv.alloc hv.size _;have hbf:=HF1.out.trans (hby.mono HF1.out.size);have OA:Hid (RecOwn encT 38 9 (V1.alloc (.cells (flatC 1 1) 38)) W0.heap.size v1 [(1,1)]):=Lib.hid (O1.out.below hby)
 have RA:Hid (RecAt encT 9 (V1.alloc (.cells (flatC 1 1) 38)) (V1.heap.size + 1) (.slice (some ⟨V1.heap.size,0,none⟩) 1 1) [(1,1)]):=Lib.hid (RecAt.fresh (encT_ok [(1,1)]) (by decide) (heap_alloc_new V1 _) (Nat.le_refl 1) (by unfold maxLen;omega));have hsz:=hbf.size;have HBn:=Lib.hid hbf;have HBb:=Lib.hid hsz;clear hv hby hbf hsz;go_wp2_with (refine wpList_append_rec (enc:=encT) elT rfl (.tmp 81) (.tmp 87) rfl rfl (base:=W0.heap.size) (l:=[(1,1)]) OA.out HBb.out (B:=V1.heap.size + 1) (xs:=[(1,1)]) rfl RA.out (encT_ok _) (by decide) ?_)
 intro v2 U2 hA;have P2:Hid (RecOwn encT 38 9 U2 W0.heap.size v2 [(1,1),(1,1)]):=Lib.hid hA.own;have HU2:=Lib.hid (hA.belowB HBn.out HBb.out (fun k hk=>(OA.out.lt hk).1));have HW2:=Lib.hid (HB0.out.trans (HU2.out.mono HB0.out.size));clear hA OA RA HBn HBb O1 HF1;have y1:U2.cell? ⟨g1,o1 + 1,none⟩ = some (.int .u64 11):=HC1.out U2 HW2.out 1 11 rfl;clear y0;go_wp2_with fail;refine (HO2.out _ HW2.out).mono ?_;rintro e W2 ⟨rfl,hb⟩;have O2:Hid (RecOwn encT 38 9 W2 W0.heap.size v2 [(1,1),(1,1)]):=Lib.hid (P2.out.below hb);have HF2:=Lib.hid (HU2.out.trans (hb.mono HU2.out.size));clear hb y1 P2 HU2 HW2
 go_wp2_with fail;rw [rounds_succ];go_wp2_with fail;refine (HN.out _ (HB0.out.trans (HF2.out.mono HB0.out.size))).mono ?_;rintro e V2 ⟨rfl,hv⟩;have hby:Below W2.heap.size W2 (V2.alloc (.cells (flatC 8 0) 38)):=hv.alloc hv.size _;have hbf:=HF2.out.trans (hby.mono HF2.out.size);have OA:Hid (RecOwn encT 38 9 (V2.alloc (.cells (flatC 8 0) 38)) W0.heap.size v2 [(1,1),(1,1)]):=Lib.hid (O2.out.below hby)
 have RA:Hid (RecAt encT 9 (V2.alloc (.cells (flatC 8 0) 38)) (V2.heap.size + 1) (.slice (some ⟨V2.heap.size,0,none⟩) 1 1) [(8,0)]):=Lib.hid (RecAt.fresh (encT_ok [(8,0)]) (by decide) (heap_alloc_new V2 _) (Nat.le_refl 1) (by unfold maxLen;omega));have hsz:=hbf.size;have HBn:=Lib.hid hbf;have HBb:=Lib.hid hsz;clear hv hby hbf hsz;go_wp2_with (refine wpList_append_rec (enc:=encT) elT rfl (.tmp 92) (.tmp 96) rfl rfl (base:=W0.heap.size) (l:=[(1,1),(1,1)]) OA.out HBb.out (B:=V2.heap.size + 1) (xs:=[(8,0)]) rfl RA.out (encT_ok _) (by decide) ?_)
 intro v3 U3 hA;have P3:Hid (RecOwn encT 38 9 U3 W0.heap.size v3 [(1,1),(1,1),(8,0)]):=Lib.hid hA.own;have HU3:=Lib.hid (hA.belowB HBn.out HBb.out (fun k hk=>(OA.out.lt hk).1));have HW3:=Lib.hid (HB0.out.trans (HU3.out.mono HB0.out.size));clear hA OA RA HBn HBb O2 HF2;obtain ⟨p3,c3,e3,_,_⟩:=P3.out.shape;have e3':v3 = .slice p3 3 c3:=e3;clear e3;subst e3';have HZ3:=Lib.hid ((HU3.out.block w.heap.size HK.out).trans HZ0.out);go_wp2_with (refine wpList_store_row rfl 38 (.tmp 4) (.tmp 98) rfl w.heap.size (flatV (.slice p3 3 c3)) rfl rfl 38 zC HZ3.out i38 rfl (oneV P3.out) ?_)
 go_wp2_with fail;refine bodyPost_ret (v:=.agg (flatV (.slice p3 3 c3))) (ret_row rfl _ rfl (cs:=(flatV (.slice p3 3 c3)).toList) rfl (range_blk (setRow_heap _ _ _ _ _ _ HZ3.out))) rfl ⟨.slice p3 3 c3,rfl,?_,below_setRow HW3.out (Nat.le_refl _) _⟩;refine (P3.out.same fun k hk=>setRow_other _ _ k _ (fun e=>?_)).base (fun k hk=>Nat.le_trans (Nat.le_of_lt HK.out) (P3.out.lt hk).1);have:=(P3.out.lt hk).1;have:=HK.out;omega
end Go.Proofs.YtpnlnbolhkcnjaaGreat.hp
