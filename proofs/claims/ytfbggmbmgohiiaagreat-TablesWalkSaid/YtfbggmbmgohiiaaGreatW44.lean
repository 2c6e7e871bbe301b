/- Texts of this seat, one behind the other: TcP, TcQ, TcR, TcS, TcV, TcW, TeB. No condition beyond theirs. -/
import Derived.Test.YtfbggmbmgohiiaaGreatW42
import Derived.Test.YtfbggmbmgohiiaaGreatW35
import Derived.Test.YtfbggmbmgohiiaaGreatW39
import Derived.Test.YtfbggmbmgohiiaaGreatW43
set_option linter.unusedSimpArgs false
set_option linter.unusedVariables false
set_option maxHeartbeats 4000000
set_option maxRecDepth 100000
namespace Go.Proofs.YtfbggmbmgohiiaaGreat.tb
open Go.RowKit mem rec tm names
section
variable {N:Nat} {w w':World} {B:Nat} {F:Nat→Prop} {s:TbSt N} {t:TabE N}
theorem row73n (h:TabAt w B F t) {i:Nat} (hi:t.rows.length ≤ i) :
 Calls Tryz.prog 73 #[.pointer (some ⟨t.b,0,none⟩),.int .i64 i] w fun e w'=>e = .returned (.tuple #[.agg #[.int .i64 0,.int .i64 0,.int .i64 0,.string ⟨#[]⟩,.string ⟨#[]⟩,.int .i64 0,.slice none 0 0,.string ⟨#[]⟩,.int .i64 0],.agg #[.int .i64 0,.int .i64 0,.int .i64 0,.string ⟨#[]⟩,.string ⟨#[]⟩,.int .i64 0,.slice none 0 0,.string ⟨#[]⟩,.int .i64 0],.bool false,.int .i64 0])∧Below w.heap.size w w':=by
 have htb:=h.lt
 obtain ⟨pv0,cv0,ev0,hcc,hcm⟩:=h.rows.shape
 have HRg:Hid (∀ W,Below w.heap.size w W→W.cell? ⟨t.b,19,none⟩ = some (.slice pv0 t.rows.length cv0)):=Lib.hid (fun W hW=>by rw [← ev0];exact cell_keep hW htb (tab_cells h.blk).2.2.2.1)
 have hilt:(t.rows.length:Int) ≤ (i:Int):=by omega
 generalize t.b = tb at *
 clear h ev0 hi
 generalize t.rows.length = n at *
 have hsz9:(Tryz.prog.info? 24).map (·.size) = some 9:=by kernel_rfl
 obtain ⟨hb0,hz4,hz5⟩:=two_boxes w (.cells #[.int .i64 0,.int .i64 0,.int .i64 0,.string ⟨#[]⟩,.string ⟨#[]⟩,.int .i64 0,.slice none 0 0,.string ⟨#[]⟩,.int .i64 0] 24) (.cells #[.int .i64 0,.int .i64 0,.int .i64 0,.string ⟨#[]⟩,.string ⟨#[]⟩,.int .i64 0,.slice none 0 0,.string ⟨#[]⟩,.int .i64 0] 24)
 have c0:=HRg.out _ hb0
 go_enter Tryz.func73,Tryz.ntmps73
 go_upto_region 1 with (fail)
 generalize ((w.alloc (.cells #[.int .i64 0,.int .i64 0,.int .i64 0,.string ⟨#[]⟩,.string ⟨#[]⟩,.int .i64 0,.slice none 0 0,.string ⟨#[]⟩,.int .i64 0] 24)).alloc (.cells #[.int .i64 0,.int .i64 0,.int .i64 0,.string ⟨#[]⟩,.string ⟨#[]⟩,.int .i64 0,.slice none 0 0,.string ⟨#[]⟩,.int .i64 0] 24)) = W1 at *
 have hq4:=setRow_heap W1 w.heap.size _ #[.int .i64 0,.int .i64 0,.int .i64 0,.string ⟨#[]⟩,.string ⟨#[]⟩,.int .i64 0,.slice none 0 0,.string ⟨#[]⟩,.int .i64 0] _ _ hz4
 have hq5:=(setRow_other W1 w.heap.size (w.heap.size + 1) #[.int .i64 0,.int .i64 0,.int .i64 0,.string ⟨#[]⟩,.string ⟨#[]⟩,.int .i64 0,.slice none 0 0,.string ⟨#[]⟩,.int .i64 0] (by omega)).trans hz5
 have hbq:=hb0.trans ((touch_setRow W1 w.heap.size #[.int .i64 0,.int .i64 0,.int .i64 0,.string ⟨#[]⟩,.string ⟨#[]⟩,.int .i64 0,.slice none 0 0,.string ⟨#[]⟩,.int .i64 0]).below (fun q e=>by omega) hb0.size)
 have hp5:=setRow_heap (W1.setRow w.heap.size #[.int .i64 0,.int .i64 0,.int .i64 0,.string ⟨#[]⟩,.string ⟨#[]⟩,.int .i64 0,.slice none 0 0,.string ⟨#[]⟩,.int .i64 0]) (w.heap.size + 1) _ #[.int .i64 0,.int .i64 0,.int .i64 0,.string ⟨#[]⟩,.string ⟨#[]⟩,.int .i64 0,.slice none 0 0,.string ⟨#[]⟩,.int .i64 0] _ _ hq5
 have hp4:=(setRow_other (W1.setRow w.heap.size #[.int .i64 0,.int .i64 0,.int .i64 0,.string ⟨#[]⟩,.string ⟨#[]⟩,.int .i64 0,.slice none 0 0,.string ⟨#[]⟩,.int .i64 0]) (w.heap.size + 1) w.heap.size #[.int .i64 0,.int .i64 0,.int .i64 0,.string ⟨#[]⟩,.string ⟨#[]⟩,.int .i64 0,.slice none 0 0,.string ⟨#[]⟩,.int .i64 0] (by omega)).trans hq4
 have hbp:=hbq.trans ((touch_setRow (W1.setRow w.heap.size #[.int .i64 0,.int .i64 0,.int .i64 0,.string ⟨#[]⟩,.string ⟨#[]⟩,.int .i64 0,.slice none 0 0,.string ⟨#[]⟩,.int .i64 0]) (w.heap.size + 1) #[.int .i64 0,.int .i64 0,.int .i64 0,.string ⟨#[]⟩,.string ⟨#[]⟩,.int .i64 0,.slice none 0 0,.string ⟨#[]⟩,.int .i64 0]).below (fun q e=>by omega) hbq.size)
 have hl4:=run_loadVar_mid (P:=Tryz.prog) _ w.heap.size 0 24 [.int .i64 0,.int .i64 0,.int .i64 0,.string ⟨#[]⟩,.string ⟨#[]⟩,.int .i64 0,.slice none 0 0,.string ⟨#[]⟩,.int .i64 0] _ (row_rng hp4) Tryz.underlying24 rfl hsz9
 have hl5:=run_loadVar_mid (P:=Tryz.prog) _ (w.heap.size + 1) 0 24 [.int .i64 0,.int .i64 0,.int .i64 0,.string ⟨#[]⟩,.string ⟨#[]⟩,.int .i64 0,.slice none 0 0,.string ⟨#[]⟩,.int .i64 0] _ (row_rng hp5) Tryz.underlying24 rfl hsz9
 have HZ4':=Lib.hid hz4
 have HQ5:=Lib.hid hq5
 have HF:=Lib.hid (And.intro hl4 (And.intro hl5 hbp))
 clear hl4 hl5 hp4 hp5 hbp hbq hq4 hq5
 go_wp2_with (first
  | (refine wpList_store_row rfl 24 (.tmp 4) (.tmp 15) rfl w.heap.size #[.int .i64 0,.int .i64 0,.int .i64 0,.string ⟨#[]⟩,.string ⟨#[]⟩,.int .i64 0,.slice none 0 0,.string ⟨#[]⟩,.int .i64 0] rfl rfl 24 _ HZ4'.out hsz9 rfl zoneA ?_)
  | (refine wpList_store_row rfl 24 (.tmp 5) (.tmp 16) rfl (w.heap.size + 1) #[.int .i64 0,.int .i64 0,.int .i64 0,.string ⟨#[]⟩,.string ⟨#[]⟩,.int .i64 0,.slice none 0 0,.string ⟨#[]⟩,.int .i64 0] rfl rfl 24 _ HQ5.out hsz9 rfl zoneA ?_))
 (try simp only [Exit.inBlock,Exit.then])
 obtain ⟨hl4,hl5,hbp⟩:=HF.out
 refine bodyPost_ret (v:=.tuple #[.agg #[.int .i64 0,.int .i64 0,.int .i64 0,.string ⟨#[]⟩,.string ⟨#[]⟩,.int .i64 0,.slice none 0 0,.string ⟨#[]⟩,.int .i64 0],.agg #[.int .i64 0,.int .i64 0,.int .i64 0,.string ⟨#[]⟩,.string ⟨#[]⟩,.int .i64 0,.slice none 0 0,.string ⟨#[]⟩,.int .i64 0],.bool false,.int .i64 0]) ?_ rfl ⟨rfl,hbp⟩
 have hA:∀ (a:Addr) (w:World),(asAddr (.pointer (some a))).run Tryz.prog w = .ok a w:=fun _ _=>rfl
 rw [results_cc rfl]
 simp [hA,hl4,hl5,Result.andThen]
theorem first39e (h:TbAt w B F s) (hlen:s.tabs.length ≤ 1000) {r:Tm (N + 1)} {ur:Value} {B2:Nat} (hB:B2 ≤ w.heap.size) (hI:ItemsAt w B2 N ur r.items) {er:Int} (he:er ≠ 0) (hTR:TabR s.tabs r none er) :
 Calls Tryz.prog 39 #[.pointer (some ⟨s.z,0,none⟩),aggV r.f ur] w fun e w'=>e = .returned (.tuple #[.agg #[.int .i64 0,.int .i64 0,.int .i64 0,.string ⟨#[]⟩,.string ⟨#[]⟩,.int .i64 0,.slice none 0 0,.string ⟨#[]⟩,.int .i64 0],.agg #[.int .i64 0,.int .i64 0,.int .i64 0,.string ⟨#[]⟩,.string ⟨#[]⟩,.int .i64 0,.slice none 0 0,.string ⟨#[]⟩,.int .i64 0],.bool false,.int .i64 er])∧Below w.heap.size w w':=by
 have HTb:=Lib.hid (fun (W:World) (hW:Below w.heap.size w W)=>table49 (h.below hW) hlen (Nat.le_trans hB hW.size) (hI.below hW hB) hTR)
 obtain ⟨pr,cr,er1,_,_⟩:=hI.shape
 rw [er1] at HTb ⊢
 generalize s.z = z at *
 clear h hTR hlen hB hI er1
 generalize r.items.length = nr at *
 generalize r.f = fr at *
 obtain ⟨rk,ri,rg,rn,rf,ra,rb,rs⟩:=fr
 unfold aggV at *
 dsimp only at *
 have hsz9:(Tryz.prog.info? 24).map (·.size) = some 9:=by kernel_rfl
 obtain ⟨hb0,hs1,hz3,hz4,hz5⟩:=three_heap w (.cells #[.int .i64 rk,.int .i64 ri,.int .i64 rg,.string rn,.string rf,.int .i64 ra,.slice pr nr cr,.string rb,.int .i64 rs] 24) (.cells #[.int .i64 0,.int .i64 0,.int .i64 0,.string ⟨#[]⟩,.string ⟨#[]⟩,.int .i64 0,.slice none 0 0,.string ⟨#[]⟩,.int .i64 0] 24) (.cells #[.int .i64 0,.int .i64 0,.int .i64 0,.string ⟨#[]⟩,.string ⟨#[]⟩,.int .i64 0,.slice none 0 0,.string ⟨#[]⟩,.int .i64 0] 24)
 go_enter Tryz.func39,Tryz.ntmps39
 go_upto_region 1 with (fail)
 generalize (((w.alloc (.cells #[.int .i64 rk,.int .i64 ri,.int .i64 rg,.string rn,.string rf,.int .i64 ra,.slice pr nr cr,.string rb,.int .i64 rs] 24)).alloc (.cells #[.int .i64 0,.int .i64 0,.int .i64 0,.string ⟨#[]⟩,.string ⟨#[]⟩,.int .i64 0,.slice none 0 0,.string ⟨#[]⟩,.int .i64 0] 24)).alloc (.cells #[.int .i64 0,.int .i64 0,.int .i64 0,.string ⟨#[]⟩,.string ⟨#[]⟩,.int .i64 0,.slice none 0 0,.string ⟨#[]⟩,.int .i64 0] 24)) = W1 at *
 have HL3:=Lib.hid (row_rng hz3)
 have HZ4:=Lib.hid hz4
 have HZ5:=Lib.hid hz5
 have HB0:=Lib.hid hb0
 clear hz3 hz4 hz5 hb0
 go_wp2_with (first
  | (refine wpList_load_mid rfl 24 (.tmp 3) rfl w.heap.size 0 rfl [.int .i64 rk,.int .i64 ri,.int .i64 rg,.string rn,.string rf,.int .i64 ra,.slice pr nr cr,.string rb,.int .i64 rs] _ HL3.out Tryz.underlying24 rfl hsz9 ?_))
 refine (HTb.out _ HB0.out).mono ?_
 rintro e w2 ⟨rfl,hb2⟩
 have hbd:=HB0.out.trans (hb2.mono HB0.out.size)
 have hz4:=(hb2.block (w.heap.size + 1) (by omega)).trans HZ4.out
 have hz5:=(hb2.block (w.heap.size + 2) (by omega)).trans HZ5.out
 clear hb2 HL3 HTb HZ4 HZ5 HB0
 have hq4:=setRow_heap w2 (w.heap.size + 1) _ #[.int .i64 0,.int .i64 0,.int .i64 0,.string ⟨#[]⟩,.string ⟨#[]⟩,.int .i64 0,.slice none 0 0,.string ⟨#[]⟩,.int .i64 0] _ _ hz4
 have hq5:=(setRow_other w2 (w.heap.size + 1) (w.heap.size + 2) #[.int .i64 0,.int .i64 0,.int .i64 0,.string ⟨#[]⟩,.string ⟨#[]⟩,.int .i64 0,.slice none 0 0,.string ⟨#[]⟩,.int .i64 0] (by omega)).trans hz5
 have hbq:=hbd.trans ((touch_setRow w2 (w.heap.size + 1) #[.int .i64 0,.int .i64 0,.int .i64 0,.string ⟨#[]⟩,.string ⟨#[]⟩,.int .i64 0,.slice none 0 0,.string ⟨#[]⟩,.int .i64 0]).below (fun q e=>by omega) hbd.size)
 have hp5:=setRow_heap (w2.setRow (w.heap.size + 1) #[.int .i64 0,.int .i64 0,.int .i64 0,.string ⟨#[]⟩,.string ⟨#[]⟩,.int .i64 0,.slice none 0 0,.string ⟨#[]⟩,.int .i64 0]) (w.heap.size + 2) _ #[.int .i64 0,.int .i64 0,.int .i64 0,.string ⟨#[]⟩,.string ⟨#[]⟩,.int .i64 0,.slice none 0 0,.string ⟨#[]⟩,.int .i64 0] _ _ hq5
 have hp4:=(setRow_other (w2.setRow (w.heap.size + 1) #[.int .i64 0,.int .i64 0,.int .i64 0,.string ⟨#[]⟩,.string ⟨#[]⟩,.int .i64 0,.slice none 0 0,.string ⟨#[]⟩,.int .i64 0]) (w.heap.size + 2) (w.heap.size + 1) #[.int .i64 0,.int .i64 0,.int .i64 0,.string ⟨#[]⟩,.string ⟨#[]⟩,.int .i64 0,.slice none 0 0,.string ⟨#[]⟩,.int .i64 0] (by omega)).trans hq4
 have hbp:=hbq.trans ((touch_setRow (w2.setRow (w.heap.size + 1) #[.int .i64 0,.int .i64 0,.int .i64 0,.string ⟨#[]⟩,.string ⟨#[]⟩,.int .i64 0,.slice none 0 0,.string ⟨#[]⟩,.int .i64 0]) (w.heap.size + 2) #[.int .i64 0,.int .i64 0,.int .i64 0,.string ⟨#[]⟩,.string ⟨#[]⟩,.int .i64 0,.slice none 0 0,.string ⟨#[]⟩,.int .i64 0]).below (fun q e=>by omega) hbq.size)
 have hl4:=run_loadVar_mid (P:=Tryz.prog) _ (w.heap.size + 1) 0 24 [.int .i64 0,.int .i64 0,.int .i64 0,.string ⟨#[]⟩,.string ⟨#[]⟩,.int .i64 0,.slice none 0 0,.string ⟨#[]⟩,.int .i64 0] _ (row_rng hp4) Tryz.underlying24 rfl hsz9
 have hl5:=run_loadVar_mid (P:=Tryz.prog) _ (w.heap.size + 2) 0 24 [.int .i64 0,.int .i64 0,.int .i64 0,.string ⟨#[]⟩,.string ⟨#[]⟩,.int .i64 0,.slice none 0 0,.string ⟨#[]⟩,.int .i64 0] _ (row_rng hp5) Tryz.underlying24 rfl hsz9
 have HZ4':=Lib.hid hz4
 have HQ5:=Lib.hid hq5
 have HF:=Lib.hid (And.intro hl4 (And.intro hl5 hbp))
 clear hl4 hl5 hp4 hp5 hbp hbq hq4 hq5
 go_wp2_with (first
  | (refine wpList_store_row rfl 24 (.tmp 4) (.tmp 17) rfl (w.heap.size + 1) #[.int .i64 0,.int .i64 0,.int .i64 0,.string ⟨#[]⟩,.string ⟨#[]⟩,.int .i64 0,.slice none 0 0,.string ⟨#[]⟩,.int .i64 0] rfl rfl 24 _ HZ4'.out hsz9 rfl zoneA ?_)
  | (refine wpList_store_row rfl 24 (.tmp 5) (.tmp 18) rfl (w.heap.size + 2) #[.int .i64 0,.int .i64 0,.int .i64 0,.string ⟨#[]⟩,.string ⟨#[]⟩,.int .i64 0,.slice none 0 0,.string ⟨#[]⟩,.int .i64 0] rfl rfl 24 _ HQ5.out hsz9 rfl zoneA ?_))
 (try simp only [Exit.inBlock,Exit.then])
 obtain ⟨hl4,hl5,hbp⟩:=HF.out
 refine bodyPost_ret (v:=.tuple #[.agg #[.int .i64 0,.int .i64 0,.int .i64 0,.string ⟨#[]⟩,.string ⟨#[]⟩,.int .i64 0,.slice none 0 0,.string ⟨#[]⟩,.int .i64 0],.agg #[.int .i64 0,.int .i64 0,.int .i64 0,.string ⟨#[]⟩,.string ⟨#[]⟩,.int .i64 0,.slice none 0 0,.string ⟨#[]⟩,.int .i64 0],.bool false,.int .i64 er]) ?_ rfl ⟨rfl,hbp⟩
 have hA:∀ (a:Addr) (w:World),(asAddr (.pointer (some a))).run Tryz.prog w = .ok a w:=fun _ _=>rfl
 rw [results_cc rfl]
 simp [hA,hl4,hl5,Result.andThen]
theorem first39n (h:TbAt w B F s) (hlen:s.tabs.length ≤ 1000) {r:Tm (N + 1)} {ur:Value} {B2:Nat} (hB:B2 ≤ w.heap.size) (hI:ItemsAt w B2 N ur r.items) {i:Nat} (hi:i < s.tabs.length) (hr:refAt s.tabs r = some i) (h0:(s.tabs[i]).rows = []) :
 Calls Tryz.prog 39 #[.pointer (some ⟨s.z,0,none⟩),aggV r.f ur] w fun e w'=>e = .returned (.tuple #[.agg #[.int .i64 0,.int .i64 0,.int .i64 0,.string ⟨#[]⟩,.string ⟨#[]⟩,.int .i64 0,.slice none 0 0,.string ⟨#[]⟩,.int .i64 0],.agg #[.int .i64 0,.int .i64 0,.int .i64 0,.string ⟨#[]⟩,.string ⟨#[]⟩,.int .i64 0,.slice none 0 0,.string ⟨#[]⟩,.int .i64 0],.bool false,.int .i64 0])∧Below w.heap.size w w':=by
 have ht:=h.tabs _ (List.getElem_mem hi)
 have hTR:TabR s.tabs r (some ⟨(s.tabs[i]).b,0,none⟩) 0:=.inr ⟨i,hi,hr,rfl,rfl⟩
 have HTb:=Lib.hid (fun (W:World) (hW:Below w.heap.size w W)=>table49 (h.below hW) hlen (Nat.le_trans hB hW.size) (hI.below hW hB) hTR)
 have HRo:=Lib.hid (fun (W:World) (hW:Below w.heap.size w W)=>row73n (ht.below hW h.fl) (i:=0) (by rw [h0];exact Nat.le_refl _))
 obtain ⟨pr,cr,er1,_,_⟩:=hI.shape
 rw [er1] at HTb ⊢
 generalize (s.tabs[i]).b = tb at *
 generalize s.z = z at *
 clear h ht hTR hlen hB hI hr h0 er1 hi
 generalize r.items.length = nr at *
 generalize r.f = fr at *
 obtain ⟨rk,ri,rg,rn,rf,ra,rb,rs⟩:=fr
 unfold aggV at *
 dsimp only at *
 have hsz9:(Tryz.prog.info? 24).map (·.size) = some 9:=by kernel_rfl
 obtain ⟨hb0,hs1,hz3,hz4,hz5⟩:=three_heap w (.cells #[.int .i64 rk,.int .i64 ri,.int .i64 rg,.string rn,.string rf,.int .i64 ra,.slice pr nr cr,.string rb,.int .i64 rs] 24) (.cells #[.int .i64 0,.int .i64 0,.int .i64 0,.string ⟨#[]⟩,.string ⟨#[]⟩,.int .i64 0,.slice none 0 0,.string ⟨#[]⟩,.int .i64 0] 24) (.cells #[.int .i64 0,.int .i64 0,.int .i64 0,.string ⟨#[]⟩,.string ⟨#[]⟩,.int .i64 0,.slice none 0 0,.string ⟨#[]⟩,.int .i64 0] 24)
 go_enter Tryz.func39,Tryz.ntmps39
 go_upto_region 1 with (fail)
 generalize (((w.alloc (.cells #[.int .i64 rk,.int .i64 ri,.int .i64 rg,.string rn,.string rf,.int .i64 ra,.slice pr nr cr,.string rb,.int .i64 rs] 24)).alloc (.cells #[.int .i64 0,.int .i64 0,.int .i64 0,.string ⟨#[]⟩,.string ⟨#[]⟩,.int .i64 0,.slice none 0 0,.string ⟨#[]⟩,.int .i64 0] 24)).alloc (.cells #[.int .i64 0,.int .i64 0,.int .i64 0,.string ⟨#[]⟩,.string ⟨#[]⟩,.int .i64 0,.slice none 0 0,.string ⟨#[]⟩,.int .i64 0] 24)) = W1 at *
 have HL3:=Lib.hid (row_rng hz3)
 have HZ4:=Lib.hid hz4
 have HZ5:=Lib.hid hz5
 have HB0:=Lib.hid hb0
 clear hz3 hz4 hz5 hb0
 go_wp2_with (first
  | (refine wpList_load_mid rfl 24 (.tmp 3) rfl w.heap.size 0 rfl [.int .i64 rk,.int .i64 ri,.int .i64 rg,.string rn,.string rf,.int .i64 ra,.slice pr nr cr,.string rb,.int .i64 rs] _ HL3.out Tryz.underlying24 rfl hsz9 ?_))
 refine (HTb.out _ HB0.out).mono ?_
 rintro e w2 ⟨rfl,hb2⟩
 have HB2:=Lib.hid (HB0.out.trans (hb2.mono HB0.out.size))
 have HW2:=Lib.hid hb2
 clear hb2 HL3 HTb
 go_wp2_with fail
 refine (HRo.out _ HB2.out).mono ?_
 rintro e w3 ⟨rfl,hb3⟩
 have hbd:=HB2.out.trans (hb3.mono HB2.out.size)
 have hbW:=HW2.out.trans (hb3.mono HW2.out.size)
 have hz4:=(hbW.block (w.heap.size + 1) (by omega)).trans HZ4.out
 have hz5:=(hbW.block (w.heap.size + 2) (by omega)).trans HZ5.out
 clear hb3 hbW HZ4 HZ5 HB0 HB2 HW2 HRo
 have hq4:=setRow_heap w3 (w.heap.size + 1) _ #[.int .i64 0,.int .i64 0,.int .i64 0,.string ⟨#[]⟩,.string ⟨#[]⟩,.int .i64 0,.slice none 0 0,.string ⟨#[]⟩,.int .i64 0] _ _ hz4
 have hq5:=(setRow_other w3 (w.heap.size + 1) (w.heap.size + 2) #[.int .i64 0,.int .i64 0,.int .i64 0,.string ⟨#[]⟩,.string ⟨#[]⟩,.int .i64 0,.slice none 0 0,.string ⟨#[]⟩,.int .i64 0] (by omega)).trans hz5
 have hbq:=hbd.trans ((touch_setRow w3 (w.heap.size + 1) #[.int .i64 0,.int .i64 0,.int .i64 0,.string ⟨#[]⟩,.string ⟨#[]⟩,.int .i64 0,.slice none 0 0,.string ⟨#[]⟩,.int .i64 0]).below (fun q e=>by omega) hbd.size)
 have hp5:=setRow_heap (w3.setRow (w.heap.size + 1) #[.int .i64 0,.int .i64 0,.int .i64 0,.string ⟨#[]⟩,.string ⟨#[]⟩,.int .i64 0,.slice none 0 0,.string ⟨#[]⟩,.int .i64 0]) (w.heap.size + 2) _ #[.int .i64 0,.int .i64 0,.int .i64 0,.string ⟨#[]⟩,.string ⟨#[]⟩,.int .i64 0,.slice none 0 0,.string ⟨#[]⟩,.int .i64 0] _ _ hq5
 have hp4:=(setRow_other (w3.setRow (w.heap.size + 1) #[.int .i64 0,.int .i64 0,.int .i64 0,.string ⟨#[]⟩,.string ⟨#[]⟩,.int .i64 0,.slice none 0 0,.string ⟨#[]⟩,.int .i64 0]) (w.heap.size + 2) (w.heap.size + 1) #[.int .i64 0,.int .i64 0,.int .i64 0,.string ⟨#[]⟩,.string ⟨#[]⟩,.int .i64 0,.slice none 0 0,.string ⟨#[]⟩,.int .i64 0] (by omega)).trans hq4
 have hbp:=hbq.trans ((touch_setRow (w3.setRow (w.heap.size + 1) #[.int .i64 0,.int .i64 0,.int .i64 0,.string ⟨#[]⟩,.string ⟨#[]⟩,.int .i64 0,.slice none 0 0,.string ⟨#[]⟩,.int .i64 0]) (w.heap.size + 2) #[.int .i64 0,.int .i64 0,.int .i64 0,.string ⟨#[]⟩,.string ⟨#[]⟩,.int .i64 0,.slice none 0 0,.string ⟨#[]⟩,.int .i64 0]).below (fun q e=>by omega) hbq.size)
 have hl4:=run_loadVar_mid (P:=Tryz.prog) _ (w.heap.size + 1) 0 24 [.int .i64 0,.int .i64 0,.int .i64 0,.string ⟨#[]⟩,.string ⟨#[]⟩,.int .i64 0,.slice none 0 0,.string ⟨#[]⟩,.int .i64 0] _ (row_rng hp4) Tryz.underlying24 rfl hsz9
 have hl5:=run_loadVar_mid (P:=Tryz.prog) _ (w.heap.size + 2) 0 24 [.int .i64 0,.int .i64 0,.int .i64 0,.string ⟨#[]⟩,.string ⟨#[]⟩,.int .i64 0,.slice none 0 0,.string ⟨#[]⟩,.int .i64 0] _ (row_rng hp5) Tryz.underlying24 rfl hsz9
 have HZ4':=Lib.hid hz4
 have HQ5:=Lib.hid hq5
 have HF:=Lib.hid (And.intro hl4 (And.intro hl5 hbp))
 clear hl4 hl5 hp4 hp5 hbp hbq hq4 hq5
 go_wp2_with (first
  | (refine wpList_store_row rfl 24 (.tmp 4) (.tmp 22) rfl (w.heap.size + 1) #[.int .i64 0,.int .i64 0,.int .i64 0,.string ⟨#[]⟩,.string ⟨#[]⟩,.int .i64 0,.slice none 0 0,.string ⟨#[]⟩,.int .i64 0] rfl rfl 24 _ HZ4'.out hsz9 rfl zoneA ?_)
  | (refine wpList_store_row rfl 24 (.tmp 5) (.tmp 23) rfl (w.heap.size + 2) #[.int .i64 0,.int .i64 0,.int .i64 0,.string ⟨#[]⟩,.string ⟨#[]⟩,.int .i64 0,.slice none 0 0,.string ⟨#[]⟩,.int .i64 0] rfl rfl 24 _ HQ5.out hsz9 rfl zoneA ?_))
 (try simp only [Exit.inBlock,Exit.then])
 obtain ⟨hl4,hl5,hbp⟩:=HF.out
 refine bodyPost_ret (v:=.tuple #[.agg #[.int .i64 0,.int .i64 0,.int .i64 0,.string ⟨#[]⟩,.string ⟨#[]⟩,.int .i64 0,.slice none 0 0,.string ⟨#[]⟩,.int .i64 0],.agg #[.int .i64 0,.int .i64 0,.int .i64 0,.string ⟨#[]⟩,.string ⟨#[]⟩,.int .i64 0,.slice none 0 0,.string ⟨#[]⟩,.int .i64 0],.bool false,.int .i64 0]) ?_ rfl ⟨rfl,hbp⟩
 have hA:∀ (a:Addr) (w:World),(asAddr (.pointer (some a))).run Tryz.prog w = .ok a w:=fun _ _=>rfl
 rw [results_cc rfl]
 simp [hA,hl4,hl5,Result.andThen]
end
noncomputable def nextAt {N:Nat} (t:TabE N) (k:Tm (N + 1)):Nat:=if hasK t k then posK t k + 1 else posK t k
theorem four_heap (w:World) (o1 o2 o3 o4:Obj):Below w.heap.size w ((((w.alloc o1).alloc o2).alloc o3).alloc o4)∧((((w.alloc o1).alloc o2).alloc o3).alloc o4).heap.size = w.heap.size + 4∧((((w.alloc o1).alloc o2).alloc o3).alloc o4).heap[w.heap.size]? = some o1∧((((w.alloc o1).alloc o2).alloc o3).alloc o4).heap[w.heap.size + 1]? = some o2∧((((w.alloc o1).alloc o2).alloc o3).alloc o4).heap[w.heap.size + 2]? = some o3∧((((w.alloc o1).alloc o2).alloc o3).alloc o4).heap[w.heap.size + 3]? = some o4:=by
 obtain ⟨h0,hs,h1,h2,h3⟩:=three_heap w o1 o2 o3
 have h4:=alloc_new (((w.alloc o1).alloc o2).alloc o3) o4
 rw [hs] at h4
 have k:∀ g,g < w.heap.size + 3→((((w.alloc o1).alloc o2).alloc o3).alloc o4).heap[g]? = (((w.alloc o1).alloc o2).alloc o3).heap[g]?:=fun g hg=>Below.heap_alloc _ o4 g (by omega)
 exact ⟨belowA h0 o4 h0.size,by rw [World.size_alloc,hs],(k _ (by omega)).trans h1,(k _ (by omega)).trans h2,(k _ (by omega)).trans h3,h4⟩
section
variable {N:Nat} {w w':World} {B:Nat} {F:Nat→Prop} {s:TbSt N}
theorem next40e (h:TbAt w B F s) (hlen:s.tabs.length ≤ 1000) {r k:Tm (N + 1)} {ur uk:Value} {B2:Nat} (hB:B2 ≤ w.heap.size) (hI:ItemsAt w B2 N ur r.items) (hJ:ItemsAt w B2 N uk k.items) (hnk:nodesT k ≤ 100000000) {er:Int} (he:er ≠ 0) (hKR:KeyR s.tabs r k none er) :
 Calls Tryz.prog 40 #[.pointer (some ⟨s.z,0,none⟩),aggV r.f ur,aggV k.f uk] w fun e w'=>e = .returned (.tuple #[.agg #[.int .i64 0,.int .i64 0,.int .i64 0,.string ⟨#[]⟩,.string ⟨#[]⟩,.int .i64 0,.slice none 0 0,.string ⟨#[]⟩,.int .i64 0],.agg #[.int .i64 0,.int .i64 0,.int .i64 0,.string ⟨#[]⟩,.string ⟨#[]⟩,.int .i64 0,.slice none 0 0,.string ⟨#[]⟩,.int .i64 0],.bool false,.int .i64 er])∧Below w.heap.size w w':=by
 have HKy:=Lib.hid (fun (W:World) (hW:Below w.heap.size w W)=>keyed55 (h.below hW) hlen (Nat.le_trans hB hW.size) (hI.below hW hB) (hJ.below hW hB) (by omega) (po:=none) (er:=er) hKR)
 obtain ⟨pr,cr,er1,_,_⟩:=hI.shape
 obtain ⟨pk,ck,ek,_,_⟩:=hJ.shape
 rw [er1] at HKy ⊢
 rw [ek] at HKy ⊢
 clear h hlen hB hI hJ hnk hKR er1 ek
 generalize s.z = z at *
 generalize r.items.length = nr at *
 generalize k.items.length = nk at *
 generalize r.f = fr at *
 generalize k.f = fk at *
 obtain ⟨rk,ri,rg,rn,rf,ra,rb,rs⟩:=fr
 obtain ⟨kk,ki,kg,kn,kf,ka,kb,ks⟩:=fk
 unfold aggV at *
 dsimp only at *
 have hsz9:(Tryz.prog.info? 24).map (·.size) = some 9:=by kernel_rfl
 obtain ⟨hb0,hs1,hz4,hz5,hz6,hz7⟩:=four_heap w (.cells #[.int .i64 rk,.int .i64 ri,.int .i64 rg,.string rn,.string rf,.int .i64 ra,.slice pr nr cr,.string rb,.int .i64 rs] 24) (.cells #[.int .i64 kk,.int .i64 ki,.int .i64 kg,.string kn,.string kf,.int .i64 ka,.slice pk nk ck,.string kb,.int .i64 ks] 24) (.cells #[.int .i64 0,.int .i64 0,.int .i64 0,.string ⟨#[]⟩,.string ⟨#[]⟩,.int .i64 0,.slice none 0 0,.string ⟨#[]⟩,.int .i64 0] 24) (.cells #[.int .i64 0,.int .i64 0,.int .i64 0,.string ⟨#[]⟩,.string ⟨#[]⟩,.int .i64 0,.slice none 0 0,.string ⟨#[]⟩,.int .i64 0] 24)
 go_enter Tryz.func40,Tryz.ntmps40
 go_upto_region 1 with (fail)
 generalize ((((w.alloc (.cells #[.int .i64 rk,.int .i64 ri,.int .i64 rg,.string rn,.string rf,.int .i64 ra,.slice pr nr cr,.string rb,.int .i64 rs] 24)).alloc (.cells #[.int .i64 kk,.int .i64 ki,.int .i64 kg,.string kn,.string kf,.int .i64 ka,.slice pk nk ck,.string kb,.int .i64 ks] 24)).alloc (.cells #[.int .i64 0,.int .i64 0,.int .i64 0,.string ⟨#[]⟩,.string ⟨#[]⟩,.int .i64 0,.slice none 0 0,.string ⟨#[]⟩,.int .i64 0] 24)).alloc (.cells #[.int .i64 0,.int .i64 0,.int .i64 0,.string ⟨#[]⟩,.string ⟨#[]⟩,.int .i64 0,.slice none 0 0,.string ⟨#[]⟩,.int .i64 0] 24)) = W1 at *
 have HL4:=Lib.hid (row_rng hz4)
 have HL5:=Lib.hid (row_rng hz5)
 have HZ5:=Lib.hid hz5
 have HZ6:=Lib.hid hz6
 have HZ7:=Lib.hid hz7
 have HB0:=Lib.hid hb0
 clear hz4 hz5 hz6 hz7 hb0
 go_wp2_with (first
  | (refine wpList_load_mid rfl 24 (.tmp 4) rfl w.heap.size 0 rfl [.int .i64 rk,.int .i64 ri,.int .i64 rg,.string rn,.string rf,.int .i64 ra,.slice pr nr cr,.string rb,.int .i64 rs] _ HL4.out Tryz.underlying24 rfl hsz9 ?_)
  | (refine wpList_load_mid rfl 24 (.tmp 5) rfl (w.heap.size + 1) 0 rfl [.int .i64 kk,.int .i64 ki,.int .i64 kg,.string kn,.string kf,.int .i64 ka,.slice pk nk ck,.string kb,.int .i64 ks] _ HL5.out Tryz.underlying24 rfl hsz9 ?_))
 refine (HKy.out _ HB0.out).mono ?_
 rintro e w2 ⟨rfl,hb2⟩
 have HB2:=Lib.hid (HB0.out.trans (hb2.mono HB0.out.size))
 have HW2:=Lib.hid hb2
 clear HL4 HL5 hb2 HKy HB0
 have hz6:=(HW2.out.block (w.heap.size + 2) (by omega)).trans HZ6.out
 have hz7:=(HW2.out.block (w.heap.size + 3) (by omega)).trans HZ7.out
 have hbd:=HB2.out
 have hq4:=setRow_heap w2 (w.heap.size + 2) _ #[.int .i64 0,.int .i64 0,.int .i64 0,.string ⟨#[]⟩,.string ⟨#[]⟩,.int .i64 0,.slice none 0 0,.string ⟨#[]⟩,.int .i64 0] _ _ hz6
 have hq5:=(setRow_other w2 (w.heap.size + 2) (w.heap.size + 3) #[.int .i64 0,.int .i64 0,.int .i64 0,.string ⟨#[]⟩,.string ⟨#[]⟩,.int .i64 0,.slice none 0 0,.string ⟨#[]⟩,.int .i64 0] (by omega)).trans hz7
 have hbq:=hbd.trans ((touch_setRow w2 (w.heap.size + 2) #[.int .i64 0,.int .i64 0,.int .i64 0,.string ⟨#[]⟩,.string ⟨#[]⟩,.int .i64 0,.slice none 0 0,.string ⟨#[]⟩,.int .i64 0]).below (fun q e=>by omega) hbd.size)
 have hp5:=setRow_heap (w2.setRow (w.heap.size + 2) #[.int .i64 0,.int .i64 0,.int .i64 0,.string ⟨#[]⟩,.string ⟨#[]⟩,.int .i64 0,.slice none 0 0,.string ⟨#[]⟩,.int .i64 0]) (w.heap.size + 3) _ #[.int .i64 0,.int .i64 0,.int .i64 0,.string ⟨#[]⟩,.string ⟨#[]⟩,.int .i64 0,.slice none 0 0,.string ⟨#[]⟩,.int .i64 0] _ _ hq5
 have hp4:=(setRow_other (w2.setRow (w.heap.size + 2) #[.int .i64 0,.int .i64 0,.int .i64 0,.string ⟨#[]⟩,.string ⟨#[]⟩,.int .i64 0,.slice none 0 0,.string ⟨#[]⟩,.int .i64 0]) (w.heap.size + 3) (w.heap.size + 2) #[.int .i64 0,.int .i64 0,.int .i64 0,.string ⟨#[]⟩,.string ⟨#[]⟩,.int .i64 0,.slice none 0 0,.string ⟨#[]⟩,.int .i64 0] (by omega)).trans hq4
 have hbp:=hbq.trans ((touch_setRow (w2.setRow (w.heap.size + 2) #[.int .i64 0,.int .i64 0,.int .i64 0,.string ⟨#[]⟩,.string ⟨#[]⟩,.int .i64 0,.slice none 0 0,.string ⟨#[]⟩,.int .i64 0]) (w.heap.size + 3) #[.int .i64 0,.int .i64 0,.int .i64 0,.string ⟨#[]⟩,.string ⟨#[]⟩,.int .i64 0,.slice none 0 0,.string ⟨#[]⟩,.int .i64 0]).below (fun q e=>by omega) hbq.size)
 have hl4:=run_loadVar_mid (P:=Tryz.prog) _ (w.heap.size + 2) 0 24 [.int .i64 0,.int .i64 0,.int .i64 0,.string ⟨#[]⟩,.string ⟨#[]⟩,.int .i64 0,.slice none 0 0,.string ⟨#[]⟩,.int .i64 0] _ (row_rng hp4) Tryz.underlying24 rfl hsz9
 have hl5:=run_loadVar_mid (P:=Tryz.prog) _ (w.heap.size + 3) 0 24 [.int .i64 0,.int .i64 0,.int .i64 0,.string ⟨#[]⟩,.string ⟨#[]⟩,.int .i64 0,.slice none 0 0,.string ⟨#[]⟩,.int .i64 0] _ (row_rng hp5) Tryz.underlying24 rfl hsz9
 have HZ4':=Lib.hid hz6
 have HQ5:=Lib.hid hq5
 have HF:=Lib.hid (And.intro hl4 (And.intro hl5 hbp))
 clear hl4 hl5 hp4 hp5 hbp hbq hq4 hq5
 go_wp2_with (first
  | (refine wpList_store_row rfl 24 (.tmp 6) (.tmp 22) rfl (w.heap.size + 2) #[.int .i64 0,.int .i64 0,.int .i64 0,.string ⟨#[]⟩,.string ⟨#[]⟩,.int .i64 0,.slice none 0 0,.string ⟨#[]⟩,.int .i64 0] rfl rfl 24 _ HZ4'.out hsz9 rfl zoneA ?_)
  | (refine wpList_store_row rfl 24 (.tmp 7) (.tmp 23) rfl (w.heap.size + 3) #[.int .i64 0,.int .i64 0,.int .i64 0,.string ⟨#[]⟩,.string ⟨#[]⟩,.int .i64 0,.slice none 0 0,.string ⟨#[]⟩,.int .i64 0] rfl rfl 24 _ HQ5.out hsz9 rfl zoneA ?_))
 (try simp only [Exit.inBlock,Exit.then])
 obtain ⟨hl4,hl5,hbp⟩:=HF.out
 refine bodyPost_ret (v:=.tuple #[.agg #[.int .i64 0,.int .i64 0,.int .i64 0,.string ⟨#[]⟩,.string ⟨#[]⟩,.int .i64 0,.slice none 0 0,.string ⟨#[]⟩,.int .i64 0],.agg #[.int .i64 0,.int .i64 0,.int .i64 0,.string ⟨#[]⟩,.string ⟨#[]⟩,.int .i64 0,.slice none 0 0,.string ⟨#[]⟩,.int .i64 0],.bool false,.int .i64 er]) ?_ rfl ⟨rfl,hbp⟩
 have hA:∀ (a:Addr) (w:World),(asAddr (.pointer (some a))).run Tryz.prog w = .ok a w:=fun _ _=>rfl
 rw [results_cc rfl]
 simp [hA,hl4,hl5,Result.andThen]
theorem next40n (h:TbAt w B F s) (hlen:s.tabs.length ≤ 1000) {r k:Tm (N + 1)} {ur uk:Value} {B2:Nat} (hB:B2 ≤ w.heap.size) (hI:ItemsAt w B2 N ur r.items) (hJ:ItemsAt w B2 N uk k.items) (hnk:nodesT k ≤ 100000000) (hvk:validT k = true) {i:Nat} (hi:i < s.tabs.length) (hr:refAt s.tabs r = some i) (hok:FindOK s.tabs[i] k) (hnx:(s.tabs[i]).rows.length ≤ nextAt s.tabs[i] k) :
 Calls Tryz.prog 40 #[.pointer (some ⟨s.z,0,none⟩),aggV r.f ur,aggV k.f uk] w fun e w'=>e = .returned (.tuple #[.agg #[.int .i64 0,.int .i64 0,.int .i64 0,.string ⟨#[]⟩,.string ⟨#[]⟩,.int .i64 0,.slice none 0 0,.string ⟨#[]⟩,.int .i64 0],.agg #[.int .i64 0,.int .i64 0,.int .i64 0,.string ⟨#[]⟩,.string ⟨#[]⟩,.int .i64 0,.slice none 0 0,.string ⟨#[]⟩,.int .i64 0],.bool false,.int .i64 0])∧Below w.heap.size w w':=by
 have ht:=h.tabs _ (List.getElem_mem hi)
 have hKR:KeyR s.tabs r k (some ⟨(s.tabs[i]).b,0,none⟩) 0:=.inr ⟨hvk,.inr ⟨i,hi,hr,rfl,rfl⟩⟩
 have HFi:=Lib.hid (fun (W:World) (hW:Below w.heap.size w W)=>find56 (ht.below hW h.fl) (fun g hg=>Nat.lt_of_lt_of_le (h.fl g hg) hW.size) (Nat.le_trans hB hW.size) (hJ.below hW hB) (by omega) hok)
 have HRo:=Lib.hid (fun (W:World) (hW:Below w.heap.size w W)=>row73n (ht.below hW h.fl) hnx)
 have hpl:=posK_le s.tabs[i] k
 have hrl:=hok.len
 have HKy:=Lib.hid (fun (W:World) (hW:Below w.heap.size w W)=>keyed55 (h.below hW) hlen (Nat.le_trans hB hW.size) (hI.below hW hB) (hJ.below hW hB) (by omega) (po:=some ⟨(s.tabs[i]).b,0,none⟩) (er:=0) hKR)
 obtain ⟨pr,cr,er1,_,_⟩:=hI.shape
 obtain ⟨pk,ck,ek,_,_⟩:=hJ.shape
 rw [er1] at HKy ⊢
 rw [ek] at HKy HFi ⊢
 have hna:nextAt s.tabs[i] k = if hasK s.tabs[i] k then posK s.tabs[i] k + 1 else posK s.tabs[i] k:=rfl
 clear hnx ht
 generalize nextAt s.tabs[i] k = na at *
 generalize hasK s.tabs[i] k = hs at *
 generalize posK s.tabs[i] k = pos at *
 have hrl2:pos ≤ 1000000:=by omega
 clear hpl hrl
 generalize (s.tabs[i]).b = tb at *
 clear h hlen hB hI hJ hnk hKR er1 ek hok hr hi hvk
 generalize s.z = z at *
 generalize r.items.length = nr at *
 generalize k.items.length = nk at *
 generalize r.f = fr at *
 generalize k.f = fk at *
 obtain ⟨rk,ri,rg,rn,rf,ra,rb,rs⟩:=fr
 obtain ⟨kk,ki,kg,kn,kf,ka,kb,ks⟩:=fk
 unfold aggV at *
 dsimp only at *
 have hsz9:(Tryz.prog.info? 24).map (·.size) = some 9:=by kernel_rfl
 obtain ⟨hb0,hs1,hz4,hz5,hz6,hz7⟩:=four_heap w (.cells #[.int .i64 rk,.int .i64 ri,.int .i64 rg,.string rn,.string rf,.int .i64 ra,.slice pr nr cr,.string rb,.int .i64 rs] 24) (.cells #[.int .i64 kk,.int .i64 ki,.int .i64 kg,.string kn,.string kf,.int .i64 ka,.slice pk nk ck,.string kb,.int .i64 ks] 24) (.cells #[.int .i64 0,.int .i64 0,.int .i64 0,.string ⟨#[]⟩,.string ⟨#[]⟩,.int .i64 0,.slice none 0 0,.string ⟨#[]⟩,.int .i64 0] 24) (.cells #[.int .i64 0,.int .i64 0,.int .i64 0,.string ⟨#[]⟩,.string ⟨#[]⟩,.int .i64 0,.slice none 0 0,.string ⟨#[]⟩,.int .i64 0] 24)
 go_enter Tryz.func40,Tryz.ntmps40
 go_upto_region 1 with (fail)
 generalize ((((w.alloc (.cells #[.int .i64 rk,.int .i64 ri,.int .i64 rg,.string rn,.string rf,.int .i64 ra,.slice pr nr cr,.string rb,.int .i64 rs] 24)).alloc (.cells #[.int .i64 kk,.int .i64 ki,.int .i64 kg,.string kn,.string kf,.int .i64 ka,.slice pk nk ck,.string kb,.int .i64 ks] 24)).alloc (.cells #[.int .i64 0,.int .i64 0,.int .i64 0,.string ⟨#[]⟩,.string ⟨#[]⟩,.int .i64 0,.slice none 0 0,.string ⟨#[]⟩,.int .i64 0] 24)).alloc (.cells #[.int .i64 0,.int .i64 0,.int .i64 0,.string ⟨#[]⟩,.string ⟨#[]⟩,.int .i64 0,.slice none 0 0,.string ⟨#[]⟩,.int .i64 0] 24)) = W1 at *
 have HL4:=Lib.hid (row_rng hz4)
 have HL5:=Lib.hid (row_rng hz5)
 have HZ5:=Lib.hid hz5
 have HZ6:=Lib.hid hz6
 have HZ7:=Lib.hid hz7
 have HB0:=Lib.hid hb0
 clear hz4 hz5 hz6 hz7 hb0
 go_wp2_with (first
  | (refine wpList_load_mid rfl 24 (.tmp 4) rfl w.heap.size 0 rfl [.int .i64 rk,.int .i64 ri,.int .i64 rg,.string rn,.string rf,.int .i64 ra,.slice pr nr cr,.string rb,.int .i64 rs] _ HL4.out Tryz.underlying24 rfl hsz9 ?_)
  | (refine wpList_load_mid rfl 24 (.tmp 5) rfl (w.heap.size + 1) 0 rfl [.int .i64 kk,.int .i64 ki,.int .i64 kg,.string kn,.string kf,.int .i64 ka,.slice pk nk ck,.string kb,.int .i64 ks] _ HL5.out Tryz.underlying24 rfl hsz9 ?_))
 refine (HKy.out _ HB0.out).mono ?_
 rintro e w2 ⟨rfl,hb2⟩
 have HB2:=Lib.hid (HB0.out.trans (hb2.mono HB0.out.size))
 have HW2:=Lib.hid hb2
 clear HL4 HL5 hb2 HKy HB0
 have hz5:=(HW2.out.block (w.heap.size + 1) (by omega)).trans HZ5.out
 have HL5:=Lib.hid (row_rng hz5)
 clear hz5
 go_wp2_with (first
  | (refine wpList_load_mid rfl 24 (.tmp 5) rfl (w.heap.size + 1) 0 rfl [.int .i64 kk,.int .i64 ki,.int .i64 kg,.string kn,.string kf,.int .i64 ka,.slice pk nk ck,.string kb,.int .i64 ks] _ HL5.out Tryz.underlying24 rfl hsz9 ?_))
 refine (HFi.out _ HB2.out).mono ?_
 rintro e w3 ⟨rfl,hb3⟩
 have HB3:=Lib.hid (HB2.out.trans (hb3.mono HB2.out.size))
 have HW3:=Lib.hid (HW2.out.trans (hb3.mono HW2.out.size))
 clear hb3 HB2 HW2 HL5 HFi
 cases hs
 all_goals
  simp only [Bool.false_eq_true,if_false,if_true] at hna
  subst hna
  go_wp2_with fail
  refine (HRo.out _ HB3.out).mono ?_
  rintro e w4 ⟨rfl,hb4⟩
  have hbd:=HB3.out.trans (hb4.mono HB3.out.size)
  have hbW:=HW3.out.trans (hb4.mono HW3.out.size)
  have hz6:=(hbW.block (w.heap.size + 2) (by omega)).trans HZ6.out
  have hz7:=(hbW.block (w.heap.size + 3) (by omega)).trans HZ7.out
  clear hb4 hbW HRo
  have hq4:=setRow_heap w4 (w.heap.size + 2) _ #[.int .i64 0,.int .i64 0,.int .i64 0,.string ⟨#[]⟩,.string ⟨#[]⟩,.int .i64 0,.slice none 0 0,.string ⟨#[]⟩,.int .i64 0] _ _ hz6
  have hq5:=(setRow_other w4 (w.heap.size + 2) (w.heap.size + 3) #[.int .i64 0,.int .i64 0,.int .i64 0,.string ⟨#[]⟩,.string ⟨#[]⟩,.int .i64 0,.slice none 0 0,.string ⟨#[]⟩,.int .i64 0] (by omega)).trans hz7
  have hbq:=hbd.trans ((touch_setRow w4 (w.heap.size + 2) #[.int .i64 0,.int .i64 0,.int .i64 0,.string ⟨#[]⟩,.string ⟨#[]⟩,.int .i64 0,.slice none 0 0,.string ⟨#[]⟩,.int .i64 0]).below (fun q e=>by omega) hbd.size)
  have hp5:=setRow_heap (w4.setRow (w.heap.size + 2) #[.int .i64 0,.int .i64 0,.int .i64 0,.string ⟨#[]⟩,.string ⟨#[]⟩,.int .i64 0,.slice none 0 0,.string ⟨#[]⟩,.int .i64 0]) (w.heap.size + 3) _ #[.int .i64 0,.int .i64 0,.int .i64 0,.string ⟨#[]⟩,.string ⟨#[]⟩,.int .i64 0,.slice none 0 0,.string ⟨#[]⟩,.int .i64 0] _ _ hq5
  have hp4:=(setRow_other (w4.setRow (w.heap.size + 2) #[.int .i64 0,.int .i64 0,.int .i64 0,.string ⟨#[]⟩,.string ⟨#[]⟩,.int .i64 0,.slice none 0 0,.string ⟨#[]⟩,.int .i64 0]) (w.heap.size + 3) (w.heap.size + 2) #[.int .i64 0,.int .i64 0,.int .i64 0,.string ⟨#[]⟩,.string ⟨#[]⟩,.int .i64 0,.slice none 0 0,.string ⟨#[]⟩,.int .i64 0] (by omega)).trans hq4
  have hbp:=hbq.trans ((touch_setRow (w4.setRow (w.heap.size + 2) #[.int .i64 0,.int .i64 0,.int .i64 0,.string ⟨#[]⟩,.string ⟨#[]⟩,.int .i64 0,.slice none 0 0,.string ⟨#[]⟩,.int .i64 0]) (w.heap.size + 3) #[.int .i64 0,.int .i64 0,.int .i64 0,.string ⟨#[]⟩,.string ⟨#[]⟩,.int .i64 0,.slice none 0 0,.string ⟨#[]⟩,.int .i64 0]).below (fun q e=>by omega) hbq.size)
  have hl4:=run_loadVar_mid (P:=Tryz.prog) _ (w.heap.size + 2) 0 24 [.int .i64 0,.int .i64 0,.int .i64 0,.string ⟨#[]⟩,.string ⟨#[]⟩,.int .i64 0,.slice none 0 0,.string ⟨#[]⟩,.int .i64 0] _ (row_rng hp4) Tryz.underlying24 rfl hsz9
  have hl5:=run_loadVar_mid (P:=Tryz.prog) _ (w.heap.size + 3) 0 24 [.int .i64 0,.int .i64 0,.int .i64 0,.string ⟨#[]⟩,.string ⟨#[]⟩,.int .i64 0,.slice none 0 0,.string ⟨#[]⟩,.int .i64 0] _ (row_rng hp5) Tryz.underlying24 rfl hsz9
  have HZ4':=Lib.hid hz6
  have HQ5:=Lib.hid hq5
  have HF:=Lib.hid (And.intro hl4 (And.intro hl5 hbp))
  clear hl4 hl5 hp4 hp5 hbp hbq hq4 hq5
  go_wp2_with (first
   | (refine wpList_store_row rfl 24 (.tmp 6) (.tmp 37) rfl (w.heap.size + 2) #[.int .i64 0,.int .i64 0,.int .i64 0,.string ⟨#[]⟩,.string ⟨#[]⟩,.int .i64 0,.slice none 0 0,.string ⟨#[]⟩,.int .i64 0] rfl rfl 24 _ HZ4'.out hsz9 rfl zoneA ?_)
   | (refine wpList_store_row rfl 24 (.tmp 7) (.tmp 38) rfl (w.heap.size + 3) #[.int .i64 0,.int .i64 0,.int .i64 0,.string ⟨#[]⟩,.string ⟨#[]⟩,.int .i64 0,.slice none 0 0,.string ⟨#[]⟩,.int .i64 0] rfl rfl 24 _ HQ5.out hsz9 rfl zoneA ?_))
  (try simp only [Exit.inBlock,Exit.then])
  obtain ⟨hl4,hl5,hbp⟩:=HF.out
  refine bodyPost_ret (v:=.tuple #[.agg #[.int .i64 0,.int .i64 0,.int .i64 0,.string ⟨#[]⟩,.string ⟨#[]⟩,.int .i64 0,.slice none 0 0,.string ⟨#[]⟩,.int .i64 0],.agg #[.int .i64 0,.int .i64 0,.int .i64 0,.string ⟨#[]⟩,.string ⟨#[]⟩,.int .i64 0,.slice none 0 0,.string ⟨#[]⟩,.int .i64 0],.bool false,.int .i64 0]) ?_ rfl ⟨rfl,hbp⟩
  have hA:∀ (a:Addr) (w:World),(asAddr (.pointer (some a))).run Tryz.prog w = .ok a w:=fun _ _=>rfl
  rw [results_cc rfl]
  simp [hA,hl4,hl5,Result.andThen]
theorem next40y (h:TbAt w B F s) (hlen:s.tabs.length ≤ 1000) {r k:Tm (N + 1)} {ur uk:Value} {B2:Nat} (hB:B2 ≤ w.heap.size) (hI:ItemsAt w B2 N ur r.items) (hJ:ItemsAt w B2 N uk k.items) (hnk:nodesT k ≤ 100000000) (hvk:validT k = true) {i:Nat} (hi:i < s.tabs.length) (hr:refAt s.tabs r = some i) (hok:FindOK s.tabs[i] k) (hnx:nextAt s.tabs[i] k < (s.tabs[i]).rows.length) (hnk2:nodesT ((s.tabs[i]).rows[nextAt s.tabs[i] k]).k ≤ 100000000) (hnv2:nodesT ((s.tabs[i]).rows[nextAt s.tabs[i] k]).v ≤ 100000000) :
 Calls Tryz.prog 40 #[.pointer (some ⟨s.z,0,none⟩),aggV r.f ur,aggV k.f uk] w (RowP ((s.tabs[i]).rows[nextAt s.tabs[i] k]).k ((s.tabs[i]).rows[nextAt s.tabs[i] k]).v w):=by
 have ht:=h.tabs _ (List.getElem_mem hi)
 have hKR:KeyR s.tabs r k (some ⟨(s.tabs[i]).b,0,none⟩) 0:=.inr ⟨hvk,.inr ⟨i,hi,hr,rfl,rfl⟩⟩
 have HFi:=Lib.hid (fun (W:World) (hW:Below w.heap.size w W)=>find56 (ht.below hW h.fl) (fun g hg=>Nat.lt_of_lt_of_le (h.fl g hg) hW.size) (Nat.le_trans hB hW.size) (hJ.below hW hB) (by omega) hok)
 have HRo:=Lib.hid (fun (W:World) (hW:Below w.heap.size w W)=>row73y (ht.below hW h.fl) (fun g hg=>Nat.lt_of_lt_of_le (h.fl g hg) hW.size) hnx hnk2 hnv2)
 have hpl:=posK_le s.tabs[i] k
 have hrl:=hok.len
 have HKy:=Lib.hid (fun (W:World) (hW:Below w.heap.size w W)=>keyed55 (h.below hW) hlen (Nat.le_trans hB hW.size) (hI.below hW hB) (hJ.below hW hB) (by omega) (po:=some ⟨(s.tabs[i]).b,0,none⟩) (er:=0) hKR)
 obtain ⟨pr,cr,er1,_,_⟩:=hI.shape
 obtain ⟨pk,ck,ek,_,_⟩:=hJ.shape
 rw [er1] at HKy ⊢
 rw [ek] at HKy HFi ⊢
 have hna:nextAt s.tabs[i] k = if hasK s.tabs[i] k then posK s.tabs[i] k + 1 else posK s.tabs[i] k:=rfl
 have HSh:Hid (∀ (W W':World) G u (k:Tm (N + 1)),NewI W W' G N u k.items→u.oneCell' = true):=Lib.hid (fun W W' G u k hN=>in_one hN.items)
 unfold RowP at *
 generalize ((s.tabs[i]).rows[nextAt s.tabs[i] k]).k = kt at *
 generalize ((s.tabs[i]).rows[nextAt s.tabs[i] k]).v = vt at *
 have HN1:=Lib.hid (fun W W' G u=>HSh.out W W' G u kt)
 have HN2:=Lib.hid (fun W W' G u=>HSh.out W W' G u vt)
 clear HSh
 clear hnx ht
 generalize nextAt s.tabs[i] k = na at *
 generalize hasK s.tabs[i] k = hs at *
 generalize posK s.tabs[i] k = pos at *
 have hrl2:pos ≤ 1000000:=by omega
 clear hpl hrl
 generalize (s.tabs[i]).b = tb at *
 clear h hlen hB hI hJ hnk hKR er1 ek hok hr hi hvk
 generalize kt.items = kil at *
 generalize vt.items = vil at *
 generalize kt.f = fa at *
 generalize vt.f = fv at *
 obtain ⟨ak,ai,ag,an,af,aa,ab,as_⟩:=fa
 obtain ⟨vk,vi,vg,vn,vf,va,vb,vs⟩:=fv
 generalize s.z = z at *
 generalize r.items.length = nr at *
 generalize k.items.length = nk at *
 generalize r.f = fr at *
 generalize k.f = fk at *
 obtain ⟨rk,ri,rg,rn,rf,ra,rb,rs⟩:=fr
 obtain ⟨kk,ki,kg,kn,kf,ka,kb,ks⟩:=fk
 unfold aggV at *
 dsimp only at *
 have hsz9:(Tryz.prog.info? 24).map (·.size) = some 9:=by kernel_rfl
 obtain ⟨hb0,hs1,hz4,hz5,hz6,hz7⟩:=four_heap w (.cells #[.int .i64 rk,.int .i64 ri,.int .i64 rg,.string rn,.string rf,.int .i64 ra,.slice pr nr cr,.string rb,.int .i64 rs] 24) (.cells #[.int .i64 kk,.int .i64 ki,.int .i64 kg,.string kn,.string kf,.int .i64 ka,.slice pk nk ck,.string kb,.int .i64 ks] 24) (.cells #[.int .i64 0,.int .i64 0,.int .i64 0,.string ⟨#[]⟩,.string ⟨#[]⟩,.int .i64 0,.slice none 0 0,.string ⟨#[]⟩,.int .i64 0] 24) (.cells #[.int .i64 0,.int .i64 0,.int .i64 0,.string ⟨#[]⟩,.string ⟨#[]⟩,.int .i64 0,.slice none 0 0,.string ⟨#[]⟩,.int .i64 0] 24)
 go_enter Tryz.func40,Tryz.ntmps40
 go_upto_region 1 with (fail)
 generalize ((((w.alloc (.cells #[.int .i64 rk,.int .i64 ri,.int .i64 rg,.string rn,.string rf,.int .i64 ra,.slice pr nr cr,.string rb,.int .i64 rs] 24)).alloc (.cells #[.int .i64 kk,.int .i64 ki,.int .i64 kg,.string kn,.string kf,.int .i64 ka,.slice pk nk ck,.string kb,.int .i64 ks] 24)).alloc (.cells #[.int .i64 0,.int .i64 0,.int .i64 0,.string ⟨#[]⟩,.string ⟨#[]⟩,.int .i64 0,.slice none 0 0,.string ⟨#[]⟩,.int .i64 0] 24)).alloc (.cells #[.int .i64 0,.int .i64 0,.int .i64 0,.string ⟨#[]⟩,.string ⟨#[]⟩,.int .i64 0,.slice none 0 0,.string ⟨#[]⟩,.int .i64 0] 24)) = W1 at *
 have HL4:=Lib.hid (row_rng hz4)
 have HL5:=Lib.hid (row_rng hz5)
 have HZ5:=Lib.hid hz5
 have HZ6:=Lib.hid hz6
 have HZ7:=Lib.hid hz7
 have HB0:=Lib.hid hb0
 clear hz4 hz5 hz6 hz7 hb0
 go_wp2_with (first
  | (refine wpList_load_mid rfl 24 (.tmp 4) rfl w.heap.size 0 rfl [.int .i64 rk,.int .i64 ri,.int .i64 rg,.string rn,.string rf,.int .i64 ra,.slice pr nr cr,.string rb,.int .i64 rs] _ HL4.out Tryz.underlying24 rfl hsz9 ?_)
  | (refine wpList_load_mid rfl 24 (.tmp 5) rfl (w.heap.size + 1) 0 rfl [.int .i64 kk,.int .i64 ki,.int .i64 kg,.string kn,.string kf,.int .i64 ka,.slice pk nk ck,.string kb,.int .i64 ks] _ HL5.out Tryz.underlying24 rfl hsz9 ?_))
 refine (HKy.out _ HB0.out).mono ?_
 rintro e w2 ⟨rfl,hb2⟩
 have HB2:=Lib.hid (HB0.out.trans (hb2.mono HB0.out.size))
 have HW2:=Lib.hid hb2
 clear HL4 HL5 hb2 HKy HB0
 have hz5:=(HW2.out.block (w.heap.size + 1) (by omega)).trans HZ5.out
 have HL5:=Lib.hid (row_rng hz5)
 clear hz5
 go_wp2_with (first
  | (refine wpList_load_mid rfl 24 (.tmp 5) rfl (w.heap.size + 1) 0 rfl [.int .i64 kk,.int .i64 ki,.int .i64 kg,.string kn,.string kf,.int .i64 ka,.slice pk nk ck,.string kb,.int .i64 ks] _ HL5.out Tryz.underlying24 rfl hsz9 ?_))
 refine (HFi.out _ HB2.out).mono ?_
 rintro e w3 ⟨rfl,hb3⟩
 have HB3:=Lib.hid (HB2.out.trans (hb3.mono HB2.out.size))
 have HW3:=Lib.hid (HW2.out.trans (hb3.mono HW2.out.size))
 clear hb3 HB2 HW2 HL5 HFi
 cases hs
 all_goals
  simp only [Bool.false_eq_true,if_false,if_true] at hna
  subst hna
  go_wp2_with fail
  refine (HRo.out _ HB3.out).mono ?_
  rintro e w4 ⟨F1,F2,u1,u2,rfl,hb4,hN1,hN2⟩
  have HB4:=Lib.hid (HB3.out.trans (hb4.mono HB3.out.size))
  have hbW:=HW3.out.trans (hb4.mono HW3.out.size)
  have hW13:=HW3.out.size
  have hz4:=(hbW.block (w.heap.size + 2) (by omega)).trans HZ6.out
  have hz5:=(hbW.block (w.heap.size + 3) (by omega)).trans HZ7.out
  have ho1:(#[.int .i64 ak,.int .i64 ai,.int .i64 ag,.string an,.string af,.int .i64 aa,u1,.string ab,.int .i64 as_]:Array Value).all (·.oneCell') = true:=all_oneCell_toArray (nineL_one (f:=⟨ak,ai,ag,an,af,aa,ab,as_⟩) (u:=u1) (HN1.out _ _ _ _ hN1))
  have ho2:(#[.int .i64 vk,.int .i64 vi,.int .i64 vg,.string vn,.string vf,.int .i64 va,u2,.string vb,.int .i64 vs]:Array Value).all (·.oneCell') = true:=all_oneCell_toArray (nineL_one (f:=⟨vk,vi,vg,vn,vf,va,vb,vs⟩) (u:=u2) (HN2.out _ _ _ _ hN2))
  have hq4:=setRow_heap w4 (w.heap.size + 2) _ #[.int .i64 ak,.int .i64 ai,.int .i64 ag,.string an,.string af,.int .i64 aa,u1,.string ab,.int .i64 as_] _ _ hz4
  have hq5:=(setRow_other w4 (w.heap.size + 2) (w.heap.size + 3) #[.int .i64 ak,.int .i64 ai,.int .i64 ag,.string an,.string af,.int .i64 aa,u1,.string ab,.int .i64 as_] (by omega)).trans hz5
  have hM1:=hN1.touch (touch_setRow w4 (w.heap.size + 2) #[.int .i64 ak,.int .i64 ai,.int .i64 ag,.string an,.string af,.int .i64 aa,u1,.string ab,.int .i64 as_]) (fun q e=>by subst e;omega)
  have hM2:=hN2.touch (touch_setRow w4 (w.heap.size + 2) #[.int .i64 ak,.int .i64 ai,.int .i64 ag,.string an,.string af,.int .i64 aa,u1,.string ab,.int .i64 as_]) (fun q e=>by subst e;omega)
  have hbq:=HB4.out.trans ((touch_setRow w4 (w.heap.size + 2) #[.int .i64 ak,.int .i64 ai,.int .i64 ag,.string an,.string af,.int .i64 aa,u1,.string ab,.int .i64 as_]).below (fun q e=>by omega) HB4.out.size)
  have hp5:=setRow_heap (w4.setRow (w.heap.size + 2) #[.int .i64 ak,.int .i64 ai,.int .i64 ag,.string an,.string af,.int .i64 aa,u1,.string ab,.int .i64 as_]) (w.heap.size + 3) _ #[.int .i64 vk,.int .i64 vi,.int .i64 vg,.string vn,.string vf,.int .i64 va,u2,.string vb,.int .i64 vs] _ _ hq5
  have hp4:=(setRow_other (w4.setRow (w.heap.size + 2) #[.int .i64 ak,.int .i64 ai,.int .i64 ag,.string an,.string af,.int .i64 aa,u1,.string ab,.int .i64 as_]) (w.heap.size + 3) (w.heap.size + 2) #[.int .i64 vk,.int .i64 vi,.int .i64 vg,.string vn,.string vf,.int .i64 va,u2,.string vb,.int .i64 vs] (by omega)).trans hq4
  have hK1:=hM1.touch (touch_setRow (w4.setRow (w.heap.size + 2) #[.int .i64 ak,.int .i64 ai,.int .i64 ag,.string an,.string af,.int .i64 aa,u1,.string ab,.int .i64 as_]) (w.heap.size + 3) #[.int .i64 vk,.int .i64 vi,.int .i64 vg,.string vn,.string vf,.int .i64 va,u2,.string vb,.int .i64 vs]) (fun q e=>by subst e;omega)
  have hK2:=hM2.touch (touch_setRow (w4.setRow (w.heap.size + 2) #[.int .i64 ak,.int .i64 ai,.int .i64 ag,.string an,.string af,.int .i64 aa,u1,.string ab,.int .i64 as_]) (w.heap.size + 3) #[.int .i64 vk,.int .i64 vi,.int .i64 vg,.string vn,.string vf,.int .i64 va,u2,.string vb,.int .i64 vs]) (fun q e=>by subst e;omega)
  have hbp:=hbq.trans ((touch_setRow (w4.setRow (w.heap.size + 2) #[.int .i64 ak,.int .i64 ai,.int .i64 ag,.string an,.string af,.int .i64 aa,u1,.string ab,.int .i64 as_]) (w.heap.size + 3) #[.int .i64 vk,.int .i64 vi,.int .i64 vg,.string vn,.string vf,.int .i64 va,u2,.string vb,.int .i64 vs]).below (fun q e=>by omega) hbq.size)
  have hl4:=run_loadVar_mid (P:=Tryz.prog) _ (w.heap.size + 2) 0 24 [.int .i64 ak,.int .i64 ai,.int .i64 ag,.string an,.string af,.int .i64 aa,u1,.string ab,.int .i64 as_] _ (row_rng hp4) Tryz.underlying24 rfl hsz9
  have hl5:=run_loadVar_mid (P:=Tryz.prog) _ (w.heap.size + 3) 0 24 [.int .i64 vk,.int .i64 vi,.int .i64 vg,.string vn,.string vf,.int .i64 va,u2,.string vb,.int .i64 vs] _ (row_rng hp5) Tryz.underlying24 rfl hsz9
  have HZ4':=Lib.hid hz4
  have HQ5:=Lib.hid hq5
  have HF:=Lib.hid (And.intro hl4 (And.intro hl5 (And.intro hbp (And.intro (hK1.base (HB3.out.size)) (hK2.base (HB3.out.size))))))
  clear hl4 hl5 hp4 hp5 hK1 hK2 hbp hbq hM1 hM2 hq4 hq5 hz4 hz5 hbW hN1 hN2 hb4 HN1 HN2 HRo
  go_wp2_with (first
   | (refine wpList_store_row rfl 24 (.tmp 6) (.tmp 37) rfl (w.heap.size + 2) #[.int .i64 ak,.int .i64 ai,.int .i64 ag,.string an,.string af,.int .i64 aa,u1,.string ab,.int .i64 as_] rfl rfl 24 _ HZ4'.out hsz9 rfl ho1 ?_)
   | (refine wpList_store_row rfl 24 (.tmp 7) (.tmp 38) rfl (w.heap.size + 3) #[.int .i64 vk,.int .i64 vi,.int .i64 vg,.string vn,.string vf,.int .i64 va,u2,.string vb,.int .i64 vs] rfl rfl 24 _ HQ5.out hsz9 rfl ho2 ?_))
  (try simp only [Exit.inBlock,Exit.then])
  obtain ⟨hl4,hl5,hbp,hK1,hK2⟩:=HF.out
  refine bodyPost_ret (v:=.tuple #[.agg #[.int .i64 ak,.int .i64 ai,.int .i64 ag,.string an,.string af,.int .i64 aa,u1,.string ab,.int .i64 as_],.agg #[.int .i64 vk,.int .i64 vi,.int .i64 vg,.string vn,.string vf,.int .i64 va,u2,.string vb,.int .i64 vs],.bool true,.int .i64 0]) ?_ rfl ⟨F1,F2,u1,u2,rfl,hbp,hK1,hK2⟩
  have hA:∀ (a:Addr) (w:World),(asAddr (.pointer (some a))).run Tryz.prog w = .ok a w:=fun _ _=>rfl
  rw [results_cc rfl]
  simp [hA,hl4,hl5,Result.andThen]
end
section
variable {N:Nat} {w:World} {B:Nat} {l:List (RowE N)} {g cap:Nat}
theorem clear_tail (hown:RecOwn rowL 108 19 w B (.slice (some ⟨g,0,none⟩) l.length cap) l) (hc:l.length < cap) (c:Nat) (ty:TypeId) :
 ∃ w',(Builtin.clear_ #[96] ty #[.slice (some ⟨g,l.length * 19,none⟩) 1 c]).run Tryz.prog w = .ok (.tuple #[]) w'∧RecOwn rowL 108 19 w' B (.slice (some ⟨g,0,none⟩) l.length cap) l∧TouchB (fun q=>q = g) w w':=by
 obtain ⟨hlen,hz | ⟨g',cap',cur,hv,hbg,hg,hnc,hcm,hcs,htk⟩⟩:=hown
 ·simp at hz
 simp only [Value.slice.injEq,Option.some.injEq,Addr.mk.injEq,and_true,true_and] at hv
 obtain ⟨rfl,rfl⟩:=hv
 obtain ⟨i0,hi0,hz0,hs0,hb0⟩:=info_parts info108
 have hZl:(Builtin.zeroCells (Value.agg #[.int .i64 0,.int .i64 0,.int .i64 0,.string ⟨#[]⟩,.string ⟨#[]⟩,.int .i64 0,.slice none 0 0,.string ⟨#[]⟩,.int .i64 0,.int .i64 0,.int .i64 0,.int .i64 0,.string ⟨#[]⟩,.string ⟨#[]⟩,.int .i64 0,.slice none 0 0,.string ⟨#[]⟩,.int .i64 0,.int .u32 0]).cells 1).toList = nineL zeroF nilV ++ (nineL zeroF nilV ++ [.int .u32 0]):=by kernel_rfl
 have hcl:cur.toList.length = cap * 19:=by rw [Array.length_toList];exact hcs
 have hl19:(nineL zeroF nilV ++ (nineL zeroF nilV ++ [Value.int .u32 0])).length = 19:=rfl
 have hst:=run_storeCells_at Tryz.prog g (l.length * 19) 108 (nineL zeroF nilV ++ (nineL zeroF nilV ++ [.int .u32 0])) 0 cur w hg (by rw [hl19,hcs];omega) (fun v hv=>by
  rcases List.mem_append.1 hv with hv | hv
  ·exact nineL_one rfl v hv
  rcases List.mem_append.1 hv with hv | hv
  ·exact nineL_one rfl v hv
  ·simp at hv;subst hv;rfl)
 simp only [Nat.add_zero] at hst
 have hput:(put cur.toList (l.length * 19) (nineL zeroF nilV ++ (nineL zeroF nilV ++ [Value.int .u32 0]))).take (l.length * 19) = l.flatMap rowL:=(put_take (l.length * 19) (Nat.le_refl _) (by rw [hcl];omega)).trans htk
 refine ⟨w.setRow g (put cur.toList (l.length * 19) (nineL zeroF nilV ++ (nineL zeroF nilV ++ [.int .u32 0]))).toArray,?_,⟨hlen,.inr ⟨g,cap,_,rfl,hbg,setRow_heap _ _ _ _ _ _ hg,hnc,hcm,?_,?_⟩⟩,touch_setRow _ _ _⟩
 ·have hzv:(zeroValue 108).run Tryz.prog w = .ok (.agg #[.int .i64 0,.int .i64 0,.int .i64 0,.string ⟨#[]⟩,.string ⟨#[]⟩,.int .i64 0,.slice none 0 0,.string ⟨#[]⟩,.int .i64 0,.int .i64 0,.int .i64 0,.int .i64 0,.string ⟨#[]⟩,.string ⟨#[]⟩,.int .i64 0,.slice none 0 0,.string ⟨#[]⟩,.int .i64 0,.int .u32 0]) w:=by kernel_rfl
  unfold put
  unfold Builtin.clear_
  simp [run_underlying Tryz.underlying96,hzv,hZl,hst]
 ·rw [List.size_toArray,put_len (by rw [hcl,hl19];omega),hcl]
 ·rw [List.toList_toArray];exact hput
theorem del_append (hown:RecOwn rowL 108 19 w B (.slice (some ⟨g,0,none⟩) l.length cap) l) (hE:EncOK rowL 19 l) {p:Nat} (hp:p < l.length) {o:Nat} (ho:o = (p + 1) * 19∨l.length = p + 1) (c:Nat) (ty:TypeId) :
 ∃ w',(Builtin.append_ #[96,96] ty #[.slice (some ⟨g,0,none⟩) p cap,.slice (some ⟨g,o,none⟩) (l.length - (p + 1)) c]).run Tryz.prog w = .ok (.slice (some ⟨g,0,none⟩) (l.length - 1) cap) w'∧RecOwn rowL 108 19 w' B (.slice (some ⟨g,0,none⟩) (l.take p ++ l.drop (p + 1)).length cap) (l.take p ++ l.drop (p + 1))∧TouchB (fun q=>q = g) w w'∧(l.take p ++ l.drop (p + 1)).length = l.length - 1:=by
 have hlen2:(l.take p ++ l.drop (p + 1)).length = l.length - 1:=by rw [List.length_append,List.length_take,List.length_drop];omega
 obtain ⟨g',cap',cur,hv,hbg,hg,hnc,hcm,hcs,htk⟩:=own_parts hown (by omega)
 simp only [Value.slice.injEq,Option.some.injEq,Addr.mk.injEq,and_true,true_and] at hv
 obtain ⟨rfl,rfl⟩:=hv
 obtain ⟨i0,hi0,hz0,hs0,hb0⟩:=info_parts info108
 have hE1:EncOK rowL 19 (l.take p):=hE.sub (fun a ha=>List.mem_of_mem_take ha)
 have hE2:EncOK rowL 19 (l.drop (p + 1)):=hE.sub (fun a ha=>List.mem_of_mem_drop ha)
 have hcl:cur.toList.length = cap * 19:=by rw [Array.length_toList];exact hcs
 have hrow:w.ownsRow B 108 19 (.slice (some ⟨g,0,none⟩) p cap) p ((l.take p).flatMap rowL):=by
  refine ⟨by rw [flat_len hE1,List.length_take,Nat.min_eq_left (by omega)],.inr ⟨g,cap,cur,rfl,hbg,hg,by omega,hcm,hcs,?_⟩⟩
  have h1:cur.toList.take (p * 19) = (cur.toList.take (l.length * 19)).take (p * 19):=by rw [List.take_take,Nat.min_eq_left (by omega)]
  rw [h1,htk]
  exact flat_take hE p (by omega)
 have hnews:∀ j u,((l.drop (p + 1)).flatMap rowL)[j]? = some u→w.cell? ((⟨g,o,none⟩:Addr).add j) = some u:=fun j u hj=>by
  rcases ho with rfl | ho
  rotate_left
  ·rw [List.drop_of_length_le (by omega)] at hj
   simp at hj
  rw [Addr.add_lit]
  rw [← flat_drop hE (p + 1) (by omega),← htk,List.getElem?_drop,List.getElem?_take] at hj
  split at hj
  ·rw [cell_of_row w g _ cur 108 _ hg]
   rwa [Array.getElem?_toList] at hj
  ·cases hj
 obtain ⟨w',hr,ho',hgr⟩:=run_append_fits (P:=Tryz.prog) (w:=w) B 96 ty 108 i0 19 Tryz.underlying96 hi0 hs0 g p cap _ hrow ⟨g,o,none⟩ (l.length - (p + 1)) c ((l.drop (p + 1)).flatMap rowL) (by rw [flat_len hE2,List.length_drop]) hnews (fun u hu=>by
  obtain ⟨a,ha,hu⟩:=List.mem_flatMap.1 hu
  exact (hE2 a ha).2 u hu) (by omega)
 have e:p + (l.length - (p + 1)) = l.length - 1:=by omega
 rw [e] at hr ho'
 refine ⟨w',hr,?_,⟨hgr.os,hgr.tape,hgr.output,hgr.size,fun k hk hn=>hgr.block k hk (fun e=>hn (by simpa using e))⟩,hlen2⟩
 unfold RecOwn
 rw [hlen2,List.flatMap_append]
 exact ho'
end
theorem step_append_run {w w':World} {ops:Array Oper} {o:Oper} {a:Act} {K:Act→World→Prop} {Q:Exit→Act→World→Prop} {E:Prop} (hgd:o.guard = none) (x y:Operand) {t t':TypeId}
 (ho:o.op = .call { callee:=.builtin .append,args:=#[x,y],argTypes:=#[t,t'] }) {vx vy v:Value} (hx:a.eval x = vx) (hy:a.eval y = vy) (hr:(Builtin.append_ #[t,t'] o.type #[vx,vy]).run Tryz.prog w = .ok v w')
 (hK:K (a.put o.dst v) w'):if Region.wanted o (yielded ops a.tmps) = true then Oper.wp Tryz.prog o a w K Q else E:=by
 have hw:Region.wanted o (yielded ops a.tmps) = true:=by simp [Region.wanted,hgd]
 rw [if_pos hw]
 unfold Oper.wp execOp
 simp only [ho,resolve,invoke,builtin,Sem.run_bind,Sem.run_pure,Result.andThen_ok,List.map_toArray,List.map_cons,List.map_nil,hx,hy,hr]
 exact hK
theorem wpList_clear_run {w w':World} {ops:Array Oper} {rest:List Oper} {o:Oper} {a:Act} {Q:Exit→Act→World→Prop} (hgd:o.guard = none) (x:Operand) {t:TypeId}
 (ho:o.op = .call { callee:=.builtin .clear,args:=#[x],argTypes:=#[t] }) {vx v:Value} (hx:a.eval x = vx) (hr:(Builtin.clear_ #[t] o.type #[vx]).run Tryz.prog w = .ok v w')
 (h:wpList Tryz.prog ops Q rest (a.put o.dst v) w'):wpList Tryz.prog ops Q (o :: rest) a w:=by
 refine wpList_plain hgd fun K hK=>?_
 unfold Oper.wp execOp
 simp only [ho,resolve,invoke,builtin,Sem.run_bind,Sem.run_pure,Result.andThen_ok,List.map_toArray,List.map_cons,List.map_nil,hx,hr]
 exact hK _ _ h
section
variable {N:Nat} {w:World} {B:Nat} {l:List (RowE N)} {g cap:Nat}
theorem delete57 (hown:RecOwn rowL 108 19 w B (.slice (some ⟨g,0,none⟩) l.length cap) l) (hE:EncOK rowL 19 l) (hl:l.length ≤ 1000000) {p:Nat} (hp:p < l.length) :
 Calls Tryz.prog 57 #[.slice (some ⟨g,0,none⟩) l.length cap,.int .i64 p,.int .i64 ((p:Int) + 1)] w fun e w'=>e = .returned (.slice (some ⟨g,0,none⟩) (l.length - 1) cap)∧RecOwn rowL 108 19 w' B (.slice (some ⟨g,0,none⟩) (l.length - 1) cap) (l.take p ++ l.drop (p + 1))∧TouchB (fun q=>q = g) w w':=by
 have hcb:l.length ≤ cap∧cap ≤ maxLen:=by
  obtain ⟨_,c',ec,h1,h2⟩:=hown.shape
  simp only [Value.slice.injEq] at ec
  rw [ec.2.2]
  exact ⟨h1,h2⟩
 obtain ⟨hcl,hcm⟩:=hcb
 have hown2:RecOwn rowL 108 19 w.drew B (.slice (some ⟨g,0,none⟩) l.length cap) l:=hown.below (belowD (Below.refl _ _))
 have HA:=Lib.hid (fun o ho c ty=>del_append hown2 hE hp (o:=o) ho c ty)
 have HC:=Lib.hid (fun (W:World) (h:RecOwn rowL 108 19 W B (.slice (some ⟨g,0,none⟩) (l.take p ++ l.drop (p + 1)).length cap) (l.take p ++ l.drop (p + 1))) c ty=>clear_tail h (by
  have:(l.take p ++ l.drop (p + 1)).length = l.length - 1:=by rw [List.length_append,List.length_take,List.length_drop];omega
  omega) c ty)
 clear hown hown2 hE
 generalize l.take p ++ l.drop (p + 1) = l2 at *
 generalize hn:l.length = n at *
 unfold maxLen at hcm
 have h1:((p:Int) + 1).toNat = p + 1:=by omega
 have h2:(p:Int) + 1 ≤ (n:Int):=by omega
 have h3:(n:Int) ≤ (cap:Int):=by omega
 have h4:(p:Int) ≤ (p:Int) + 1:=by omega
 have h5:¬ ((p:Int) = (p:Int) + 1):=by omega
 have h6:(0:Int) ≤ (p:Int) + 1:=by omega
 have h7:(p:Int) ≤ (cap:Int):=by omega
 have h8:(n:Int) ≤ 1000000:=by omega
 have h9:(((n - 1:Nat):Int)) ≤ (n:Int):=by omega
 have hcp:¬ (cap = p):=by omega
 have hnp:n - 1 ≤ cap:=by omega
 go_enter Tryz.func57,Tryz.ntmps57
 go_upto_region 5 with (fail)
 refine wp_region_held_drew (S:=(fun _=>True)) (by kernel_rfl) ?_ (fun hHeld=>?_)
 ·trivial
 refine run_in [0,1,2,3,4,5] ?_
 iterate 6 (refine run_e rfl (by kernel_rfl) (by rfl) (fun _ _ _ _ h=>h) (by assumption) ?_;apply Exists.intro;refine And.intro (fun w hSw=>?_) ?_;(focus (try dsimp only at hSw);go_simp;(try with_reducible rfl));(try simp only [Act.put,pA,pB,pC]))
 refine run_out ?_
 try simp only [Option.map_some,Addr.add_lit,Nat.zero_add]
 obtain ⟨o,ho,he⟩:∃ o:Nat,(o = (p + 1) * 19∨n = p + 1)∧(if cap = p + 1 then some (⟨g,0,none⟩:Addr) else some ⟨g,(p + 1) * 19,none⟩) = some ⟨g,o,none⟩:=by
  by_cases hq:cap = p + 1
  ·exact ⟨0,.inr (by omega),by rw [if_pos hq]⟩
  ·exact ⟨_,.inl rfl,by rw [if_neg hq]⟩
 rw [he]
 refine wpAnyH_ready (rs:=[6]) (by kernel_rfl) (by simp) ?_
 refine readyR rfl (fun K hK=>?_) AllReadyH.nil
 obtain ⟨w6,hr,hown6,hT6,hl6⟩:=HA.out o ho (cap - (p + 1)) 96
 refine step_append_run (t:=96) (t':=96) (w':=w6) (v:=.slice (some ⟨g,0,none⟩) (n - 1) cap) rfl (.tmp 22) (.tmp 25) rfl rfl rfl ?_ ?_
 ·exact hr
 refine hK.out _ _ ?_ (fun hHeld=>?_)
 ·trivial
 clear hK K
 (try simp only [Act.put,pA,pB,pC])
 refine run_in [7] ?_
 (refine run_e rfl (by kernel_rfl) (by rfl) (fun _ _ _ _ h=>h) (by assumption) ?_;apply Exists.intro;refine And.intro (fun w hSw=>?_) ?_;(focus (try dsimp only at hSw);go_simp;(try with_reducible rfl));(try simp only [Act.put,pA,pB,pC]))
 refine run_out ?_
 refine wpAnyH_done (by kernel_rfl) ?_ _
 obtain ⟨w7,hr7,hown7,hT7⟩:=HC.out _ hown6 (cap - (n - 1)) 0
 rw [hl6] at hr7 hown7
 have hnn:n - (n - 1) = 1:=by omega
 go_wp2_with (refine wpList_clear_run rfl (.tmp 31) rfl (by first | rfl | (rw [hnn])) hr7 ?_)
 go_ret
 exact ⟨rfl,hown7,((TouchB.refl (fun q=>q = g) w).drew.trans hT6 (fun _ _ e=>e)).trans hT7 (fun _ _ e=>e)⟩
end
def DelQ {N:Nat} (w:World) (B:Nat) (F:Nat→Prop) (t:TabE N) (k:Tm (N + 1)) (W:World):Prop:=∃ vr,TabQ w B F t W F vr (t.rows.take (posK t k) ++ t.rows.drop (posK t k + 1))
section
variable {N:Nat} {w w':World} {B:Nat} {F:Nat→Prop} {s:TbSt N} {t:TabE N} {k:Tm (N + 1)}
theorem del_step (h:TabAt w B F t) (hty:Typed w F) (hfl:∀ g,F g→g < w.heap.size) (hlen:t.rows.length ≤ 1000000) (hp:posK t k < t.rows.length) :
 ∃ g cap,t.vr = .slice (some ⟨g,0,none⟩) t.rows.length cap∧∀ W,Below w.heap.size w W→Calls Tryz.prog 57 #[.slice (some ⟨g,0,none⟩) t.rows.length cap,.int .i64 (posK t k),.int .i64 ((posK t k:Int) + 1)] W fun e w'=>e = .returned (.slice (some ⟨g,0,none⟩) (t.rows.length - 1) cap)∧TouchB (fun q=>q = g) W w'∧w'.cell? ⟨t.b,19,none⟩ = some (.slice (some ⟨g,0,none⟩) t.rows.length cap)∧w'.frozen? ⟨t.b,19,none⟩ = false∧DelQ w B F t k (w'.setCell ⟨t.b,19,none⟩ (.slice (some ⟨g,0,none⟩) (t.rows.length - 1) cap)):=by
 obtain ⟨g,cap,cur,hv,hbg,hg,hnc,hcm,hcs,htk⟩:=own_parts h.rows (by omega)
 refine ⟨g,cap,hv,fun W hb=>?_⟩
 have hW:=h.below hb hfl
 have hown:=hW.rows
 rw [hv] at hown
 have hne:g ≠ t.b:=ty_ne (tyOf_of hg) (tyOf_of h.blk) (by decide)
 have hgw:g < w.heap.size:=(Array.getElem?_eq_some_iff.1 hg).1
 refine (delete57 hown hW.enc hlen hp).mono ?_
 rintro e w' ⟨rfl,hown2,hT⟩
 have hblk:w'.heap[t.b]? = some (.cells (tabL t).toArray 98):=(hT.block _ hW.lt (fun e=>hne e.symm)).trans hW.blk
 obtain ⟨_,_,_,hc19,hfz⟩:=tab_cells hblk
 refine ⟨rfl,hT,hc19.trans (by rw [hv]),hfz 19,.slice (some ⟨g,0,none⟩) (t.rows.length - 1) cap,?_⟩
 have hset:∀ q,q ≠ t.b→(w'.setCell ⟨t.b,19,none⟩ (.slice (some ⟨g,0,none⟩) (t.rows.length - 1) cap)).heap[q]? = w'.heap[q]?:=fun q hq=>Below.heap_setCell _ _ _ _ hq
 have hFne:∀ q,F q→q ≠ t.b∧q ≠ g:=fun q hq=>⟨ty_ne (typed_ty hty hq) (tyOf_of h.blk) (by decide),ty_ne (typed_ty hty hq) (tyOf_of hg) (by decide)⟩
 have hFs:∀ q,F q→(w'.setCell ⟨t.b,19,none⟩ (.slice (some ⟨g,0,none⟩) (t.rows.length - 1) cap)).heap[q]? = w.heap[q]?:=fun q hq=>(hset q (hFne q hq).1).trans ((hT.block q (Nat.lt_of_lt_of_le (hfl q hq) hb.size) (hFne q hq).2).trans (hb.block q (hfl q hq)))
 have hsz:(w'.setCell ⟨t.b,19,none⟩ (.slice (some ⟨g,0,none⟩) (t.rows.length - 1) cap)).heap.size = w'.heap.size:=by simp
 refine ⟨⟨?_,?_,h.iref.mono hFs (fun _ q=>q),h.iown.mono hFs (fun _ q=>q),?_,h.low⟩,?_,fun _ q=>q,hty.same hFs,?_,fun q hq=>?_,fun _ q=>.inl q⟩
 ·exact (set_block hblk _).trans (by rw [tab_set t _ (t.rows.take (posK t k) ++ t.rows.drop (posK t k + 1))])
 ·exact hown2.same (fun q hq=>hset q (fun e=>by
   have:q = g:=(Option.some.inj hq).symm
   exact hne (this.symm.trans e)))
 ·intro r hr
  have hr:r ∈ t.rows.take (posK t k) ++ t.rows.drop (posK t k + 1):=hr
  have hm:r ∈ t.rows:=by
   rcases List.mem_append.1 hr with hr | hr
   ·exact List.mem_of_mem_take hr
   ·exact List.mem_of_mem_drop hr
  have:=h.irow r hm
  exact ⟨this.1.mono hFs (fun _ q=>q),this.2.mono hFs (fun _ q=>q)⟩
 ·exact TouchB.setCell (((TouchB.refl _ _).ofBelow hb (Nat.le_refl _)).trans hT (fun q _ e=>.inr (by rw [hv,e];rfl))) _ _ (fun _=>.inl rfl)
 ·intro q hq
  rw [hsz]
  exact Nat.lt_of_lt_of_le (hfl q hq) (Nat.le_trans hb.size hT.size)
 ·exact .inl (by rw [hv];exact hq)
theorem del22e (h:TbAt w B F s) (hlen:s.tabs.length ≤ 1000) {r k:Tm (N + 1)} {ur uk:Value} {B2:Nat} (hB:B2 ≤ w.heap.size) (hI:ItemsAt w B2 N ur r.items) (hJ:ItemsAt w B2 N uk k.items) (hnk:nodesT k ≤ 100000000) {er:Int} (he:er ≠ 0) (hKR:KeyR s.tabs r k none er) :
 Calls Tryz.prog 22 #[.pointer (some ⟨s.z,0,none⟩),aggV r.f ur,aggV k.f uk] w fun e w'=>e = .returned (.tuple #[.bool false,.int .i64 er])∧Below w.heap.size w w':=by
 have HKy:=Lib.hid (fun (W:World) (hW:Below w.heap.size w W)=>keyed55 (h.below hW) hlen (Nat.le_trans hB hW.size) (hI.below hW hB) (hJ.below hW hB) (by omega) (po:=none) (er:=er) hKR)
 obtain ⟨pr,cr,er1,_,_⟩:=hI.shape
 obtain ⟨pk,ck,ek,_,_⟩:=hJ.shape
 rw [er1] at HKy ⊢
 rw [ek] at HKy ⊢
 clear h hlen hB hI hJ hnk hKR er1 ek
 generalize s.z = z at *
 generalize r.items.length = nr at *
 generalize k.items.length = nk at *
 generalize r.f = fr at *
 generalize k.f = fk at *
 obtain ⟨rk,ri,rg,rn,rf,ra,rb,rs⟩:=fr
 obtain ⟨kk,ki,kg,kn,kf,ka,kb,ks⟩:=fk
 unfold aggV at *
 dsimp only at *
 have hsz9:(Tryz.prog.info? 24).map (·.size) = some 9:=by kernel_rfl
 obtain ⟨hb0,hz4,hz5⟩:=two_boxes w (.cells #[.int .i64 rk,.int .i64 ri,.int .i64 rg,.string rn,.string rf,.int .i64 ra,.slice pr nr cr,.string rb,.int .i64 rs] 24) (.cells #[.int .i64 kk,.int .i64 ki,.int .i64 kg,.string kn,.string kf,.int .i64 ka,.slice pk nk ck,.string kb,.int .i64 ks] 24)
 go_enter Tryz.func22,Tryz.ntmps22
 go_upto_region 1 with (fail)
 generalize ((w.alloc (.cells #[.int .i64 rk,.int .i64 ri,.int .i64 rg,.string rn,.string rf,.int .i64 ra,.slice pr nr cr,.string rb,.int .i64 rs] 24)).alloc (.cells #[.int .i64 kk,.int .i64 ki,.int .i64 kg,.string kn,.string kf,.int .i64 ka,.slice pk nk ck,.string kb,.int .i64 ks] 24)) = W1 at *
 have HL4:=Lib.hid (row_rng hz4)
 have HL5:=Lib.hid (row_rng hz5)
 have HZ5:=Lib.hid hz5
 have hlt:=(Array.getElem?_eq_some_iff.1 hz5).1
 have HB0:=Lib.hid hb0
 clear hz4 hz5 hb0
 go_wp2_with (first
  | (refine wpList_load_mid rfl 24 (.tmp 4) rfl w.heap.size 0 rfl [.int .i64 rk,.int .i64 ri,.int .i64 rg,.string rn,.string rf,.int .i64 ra,.slice pr nr cr,.string rb,.int .i64 rs] _ HL4.out Tryz.underlying24 rfl hsz9 ?_)
  | (refine wpList_load_mid rfl 24 (.tmp 5) rfl (w.heap.size + 1) 0 rfl [.int .i64 kk,.int .i64 ki,.int .i64 kg,.string kn,.string kf,.int .i64 ka,.slice pk nk ck,.string kb,.int .i64 ks] _ HL5.out Tryz.underlying24 rfl hsz9 ?_))
 refine (HKy.out _ HB0.out).mono ?_
 rintro e w2 ⟨rfl,hb2⟩
 have HB2:=Lib.hid (HB0.out.trans (hb2.mono HB0.out.size))
 have HZ5':=Lib.hid ((hb2.block _ hlt).trans HZ5.out)
 have hlt2:=Nat.lt_of_lt_of_le hlt hb2.size
 clear HL4 HL5 hb2 HKy HB0 HZ5 hlt
 go_wp2_with fail
 go_ret2
 exact ⟨rfl,HB2.out⟩
theorem del22n (h:TbAt w B F s) (hlen:s.tabs.length ≤ 1000) {r k:Tm (N + 1)} {ur uk:Value} {B2:Nat} (hB:B2 ≤ w.heap.size) (hI:ItemsAt w B2 N ur r.items) (hJ:ItemsAt w B2 N uk k.items) (hnk:nodesT k ≤ 100000000) (hvk:validT k = true) {i:Nat} (hi:i < s.tabs.length) (hr:refAt s.tabs r = some i) (hok:FindOK s.tabs[i] k) (hno:hasK s.tabs[i] k = false) :
 Calls Tryz.prog 22 #[.pointer (some ⟨s.z,0,none⟩),aggV r.f ur,aggV k.f uk] w fun e w'=>e = .returned (.tuple #[.bool false,.int .i64 0])∧Below w.heap.size w w':=by
 have ht:=h.tabs _ (List.getElem_mem hi)
 have hKR:KeyR s.tabs r k (some ⟨(s.tabs[i]).b,0,none⟩) 0:=.inr ⟨hvk,.inr ⟨i,hi,hr,rfl,rfl⟩⟩
 have HFi:=Lib.hid (fun (W:World) (hW:Below w.heap.size w W)=>find56 (ht.below hW h.fl) (fun g hg=>Nat.lt_of_lt_of_le (h.fl g hg) hW.size) (Nat.le_trans hB hW.size) (hJ.below hW hB) (by omega) hok)
 have HKy:=Lib.hid (fun (W:World) (hW:Below w.heap.size w W)=>keyed55 (h.below hW) hlen (Nat.le_trans hB hW.size) (hI.below hW hB) (hJ.below hW hB) (by omega) (po:=some ⟨(s.tabs[i]).b,0,none⟩) (er:=0) hKR)
 obtain ⟨pr,cr,er1,_,_⟩:=hI.shape
 obtain ⟨pk,ck,ek,_,_⟩:=hJ.shape
 rw [er1] at HKy ⊢
 rw [ek] at HKy HFi ⊢
 rw [hno] at HFi
 generalize posK s.tabs[i] k = pos at *
 generalize (s.tabs[i]).b = tb at *
 clear h hlen hB hI hJ hnk hKR er1 ek ht hok hno hr hi hvk
 generalize s.z = z at *
 generalize r.items.length = nr at *
 generalize k.items.length = nk at *
 generalize r.f = fr at *
 generalize k.f = fk at *
 obtain ⟨rk,ri,rg,rn,rf,ra,rb,rs⟩:=fr
 obtain ⟨kk,ki,kg,kn,kf,ka,kb,ks⟩:=fk
 unfold aggV at *
 dsimp only at *
 have hsz9:(Tryz.prog.info? 24).map (·.size) = some 9:=by kernel_rfl
 obtain ⟨hb0,hz4,hz5⟩:=two_boxes w (.cells #[.int .i64 rk,.int .i64 ri,.int .i64 rg,.string rn,.string rf,.int .i64 ra,.slice pr nr cr,.string rb,.int .i64 rs] 24) (.cells #[.int .i64 kk,.int .i64 ki,.int .i64 kg,.string kn,.string kf,.int .i64 ka,.slice pk nk ck,.string kb,.int .i64 ks] 24)
 go_enter Tryz.func22,Tryz.ntmps22
 go_upto_region 1 with (fail)
 generalize ((w.alloc (.cells #[.int .i64 rk,.int .i64 ri,.int .i64 rg,.string rn,.string rf,.int .i64 ra,.slice pr nr cr,.string rb,.int .i64 rs] 24)).alloc (.cells #[.int .i64 kk,.int .i64 ki,.int .i64 kg,.string kn,.string kf,.int .i64 ka,.slice pk nk ck,.string kb,.int .i64 ks] 24)) = W1 at *
 have HL4:=Lib.hid (row_rng hz4)
 have HL5:=Lib.hid (row_rng hz5)
 have HZ5:=Lib.hid hz5
 have hlt:=(Array.getElem?_eq_some_iff.1 hz5).1
 have HB0:=Lib.hid hb0
 clear hz4 hz5 hb0
 go_wp2_with (first
  | (refine wpList_load_mid rfl 24 (.tmp 4) rfl w.heap.size 0 rfl [.int .i64 rk,.int .i64 ri,.int .i64 rg,.string rn,.string rf,.int .i64 ra,.slice pr nr cr,.string rb,.int .i64 rs] _ HL4.out Tryz.underlying24 rfl hsz9 ?_)
  | (refine wpList_load_mid rfl 24 (.tmp 5) rfl (w.heap.size + 1) 0 rfl [.int .i64 kk,.int .i64 ki,.int .i64 kg,.string kn,.string kf,.int .i64 ka,.slice pk nk ck,.string kb,.int .i64 ks] _ HL5.out Tryz.underlying24 rfl hsz9 ?_))
 refine (HKy.out _ HB0.out).mono ?_
 rintro e w2 ⟨rfl,hb2⟩
 have HB2:=Lib.hid (HB0.out.trans (hb2.mono HB0.out.size))
 have HZ5':=Lib.hid ((hb2.block _ hlt).trans HZ5.out)
 have hlt2:=Nat.lt_of_lt_of_le hlt hb2.size
 clear HL4 HL5 hb2 HKy HB0 HZ5 hlt
 have HL5:=Lib.hid (row_rng HZ5'.out)
 go_wp2_with (first
  | (refine wpList_load_mid rfl 24 (.tmp 5) rfl (w.heap.size + 1) 0 rfl [.int .i64 kk,.int .i64 ki,.int .i64 kg,.string kn,.string kf,.int .i64 ka,.slice pk nk ck,.string kb,.int .i64 ks] _ HL5.out Tryz.underlying24 rfl hsz9 ?_))
 refine (HFi.out _ HB2.out).mono ?_
 rintro e w3 ⟨rfl,hb3⟩
 have HB3:=Lib.hid (HB2.out.trans (hb3.mono HB2.out.size))
 clear hb3 HB2 HL5 HFi HZ5' hlt2
 go_wp2_with fail
 go_ret2
 exact ⟨rfl,HB3.out⟩
theorem del22y (h:TbAt w B F s) (hlen:s.tabs.length ≤ 1000) {r k:Tm (N + 1)} {ur uk:Value} {B2:Nat} (hB:B2 ≤ w.heap.size) (hI:ItemsAt w B2 N ur r.items) (hJ:ItemsAt w B2 N uk k.items) (hnk:nodesT k ≤ 100000000) (hvk:validT k = true) {i:Nat} (hi:i < s.tabs.length) (hr:refAt s.tabs r = some i) (hok:FindOK s.tabs[i] k) (hyes:hasK s.tabs[i] k = true) (hp:posK s.tabs[i] k < (s.tabs[i]).rows.length) :
 Calls Tryz.prog 22 #[.pointer (some ⟨s.z,0,none⟩),aggV r.f ur,aggV k.f uk] w fun e w'=>e = .returned (.tuple #[.bool true,.int .i64 0])∧DelQ w B F s.tabs[i] k w':=by
 have ht:=h.tabs _ (List.getElem_mem hi)
 have hKR:KeyR s.tabs r k (some ⟨(s.tabs[i]).b,0,none⟩) 0:=.inr ⟨hvk,.inr ⟨i,hi,hr,rfl,rfl⟩⟩
 have HFi:=Lib.hid (fun (W:World) (hW:Below w.heap.size w W)=>find56 (ht.below hW h.fl) (fun g hg=>Nat.lt_of_lt_of_le (h.fl g hg) hW.size) (Nat.le_trans hB hW.size) (hJ.below hW hB) (by omega) hok)
 have HKy:=Lib.hid (fun (W:World) (hW:Below w.heap.size w W)=>keyed55 (h.below hW) hlen (Nat.le_trans hB hW.size) (hI.below hW hB) (hJ.below hW hB) (by omega) (po:=some ⟨(s.tabs[i]).b,0,none⟩) (er:=0) hKR)
 obtain ⟨pr,cr,er1,_,_⟩:=hI.shape
 obtain ⟨pk,ck,ek,_,_⟩:=hJ.shape
 rw [er1] at HKy ⊢
 rw [ek] at HKy HFi ⊢
 rw [hyes] at HFi
 obtain ⟨g,cap,ev,hst⟩:=del_step ht h.ty h.fl hok.len hp
 have htb:=ht.lt
 have HSt:=Lib.hid hst
 have hgt:=ty_ne (ownTy ht.rows (k:=g) (by rw [ev];rfl)) (tyOf_of ht.blk) (by decide)
 have HC19:Hid (∀ W,Below w.heap.size w W→W.cell? ⟨(s.tabs[i]).b,19,none⟩ = some (.slice (some ⟨g,0,none⟩) (s.tabs[i]).rows.length cap)):=Lib.hid (fun W hW=>by rw [← ev];exact cell_keep hW htb (tab_cells ht.blk).2.2.2.1)
 have hpz:(posK s.tabs[i] k:Int) < ((s.tabs[i]).rows.length:Int):=by omega
 have hlr:=hok.len
 clear hst ev hgt
 generalize DelQ w B F s.tabs[i] k = Dq at *
 generalize posK s.tabs[i] k = pos at *
 generalize (s.tabs[i]).rows.length = n at *
 generalize (s.tabs[i]).b = tb at *
 clear h hlen hB hI hJ hnk hKR er1 ek ht hok hyes hr hi hvk
 generalize s.z = z at *
 generalize r.items.length = nr at *
 generalize k.items.length = nk at *
 generalize r.f = fr at *
 generalize k.f = fk at *
 obtain ⟨rk,ri,rg,rn,rf,ra,rb,rs⟩:=fr
 obtain ⟨kk,ki,kg,kn,kf,ka,kb,ks⟩:=fk
 unfold aggV at *
 dsimp only at *
 have hsz9:(Tryz.prog.info? 24).map (·.size) = some 9:=by kernel_rfl
 obtain ⟨hb0,hz4,hz5⟩:=two_boxes w (.cells #[.int .i64 rk,.int .i64 ri,.int .i64 rg,.string rn,.string rf,.int .i64 ra,.slice pr nr cr,.string rb,.int .i64 rs] 24) (.cells #[.int .i64 kk,.int .i64 ki,.int .i64 kg,.string kn,.string kf,.int .i64 ka,.slice pk nk ck,.string kb,.int .i64 ks] 24)
 go_enter Tryz.func22,Tryz.ntmps22
 go_upto_region 1 with (fail)
 generalize ((w.alloc (.cells #[.int .i64 rk,.int .i64 ri,.int .i64 rg,.string rn,.string rf,.int .i64 ra,.slice pr nr cr,.string rb,.int .i64 rs] 24)).alloc (.cells #[.int .i64 kk,.int .i64 ki,.int .i64 kg,.string kn,.string kf,.int .i64 ka,.slice pk nk ck,.string kb,.int .i64 ks] 24)) = W1 at *
 have HL4:=Lib.hid (row_rng hz4)
 have HL5:=Lib.hid (row_rng hz5)
 have HZ5:=Lib.hid hz5
 have hlt:=(Array.getElem?_eq_some_iff.1 hz5).1
 have HB0:=Lib.hid hb0
 clear hz4 hz5 hb0
 go_wp2_with (first
  | (refine wpList_load_mid rfl 24 (.tmp 4) rfl w.heap.size 0 rfl [.int .i64 rk,.int .i64 ri,.int .i64 rg,.string rn,.string rf,.int .i64 ra,.slice pr nr cr,.string rb,.int .i64 rs] _ HL4.out Tryz.underlying24 rfl hsz9 ?_)
  | (refine wpList_load_mid rfl 24 (.tmp 5) rfl (w.heap.size + 1) 0 rfl [.int .i64 kk,.int .i64 ki,.int .i64 kg,.string kn,.string kf,.int .i64 ka,.slice pk nk ck,.string kb,.int .i64 ks] _ HL5.out Tryz.underlying24 rfl hsz9 ?_))
 refine (HKy.out _ HB0.out).mono ?_
 rintro e w2 ⟨rfl,hb2⟩
 have HB2:=Lib.hid (HB0.out.trans (hb2.mono HB0.out.size))
 have HZ5':=Lib.hid ((hb2.block _ hlt).trans HZ5.out)
 have hlt2:=Nat.lt_of_lt_of_le hlt hb2.size
 clear HL4 HL5 hb2 HKy HB0 HZ5 hlt
 have HL5:=Lib.hid (row_rng HZ5'.out)
 go_wp2_with (first
  | (refine wpList_load_mid rfl 24 (.tmp 5) rfl (w.heap.size + 1) 0 rfl [.int .i64 kk,.int .i64 ki,.int .i64 kg,.string kn,.string kf,.int .i64 ka,.slice pk nk ck,.string kb,.int .i64 ks] _ HL5.out Tryz.underlying24 rfl hsz9 ?_))
 refine (HFi.out _ HB2.out).mono ?_
 rintro e w3 ⟨rfl,hb3⟩
 have HB3:=Lib.hid (HB2.out.trans (hb3.mono HB2.out.size))
 clear hb3 HB2 HL5 HFi HZ5' hlt2
 have hc19:=HC19.out _ HB3.out
 have hpw:IntKind.i64.wrap ((pos:Int) + 1) = (pos:Int) + 1:=IntWalk.i64_in _ (by omega)
 go_wp2_with fail
 refine (HSt.out _ HB3.out).mono ?_
 rintro e w4 ⟨rfl,hT,hc,hf,hq⟩
 have HQ:=Lib.hid hq
 clear hq hc19
 go_wp2_with fail
 go_ret2
 exact ⟨rfl,HQ.out⟩
end
structure TabA (N:Nat) where
 ref:Tm (N + 1)
 own:Tm (N + 1)
 hs:Bool
 rows:List (Tm (N + 1) × Tm (N + 1))
def absT {N:Nat} (t:TabE N):TabA N:=⟨t.ref,t.own,t.hs,absR t⟩
def StG {N:Nat} (B z:Nat) (A:List (TabA N)) (W:World):Prop:=∃ F vl tabs,TbAt W B F ⟨z,vl,tabs⟩∧tabs.map absT = A∧∀ t ∈ tabs,GoodT t
noncomputable def refA {N:Nat} (A:List (TabA N)) (r:Tm (N + 1)):Option Nat:=A.findIdx? (fun x=>eqB x.ref r)
noncomputable def tabA {N:Nat} (A:List (TabA N)) (r:Tm (N + 1)):Option (TabA N):=(refA A r).bind (fun i=>A[i]?)
structure SmA {N:Nat} (A:List (TabA N)):Prop where
 len:A.length ≤ 1000
 rows:∀ a ∈ A,a.rows.length ≤ 1000000
noncomputable def updA {N:Nat} (A:List (TabA N)) (r:Tm (N + 1)) (f:TabA N→List (Tm (N + 1) × Tm (N + 1))):List (TabA N):=match refA A r with
 | none=>A
 | some i=>match A[i]? with
  | none=>A
  | some a=>A.set i { a with rows:=f a }
noncomputable def putE {N:Nat} (A:List (TabA N)) (r k v:Tm (N + 1)):Int:=if validT v then (if validT k then (match refA A r with | none=>4 | some _=>0) else 2) else 2
noncomputable def putA {N:Nat} (A:List (TabA N)) (r k v:Tm (N + 1)):List (TabA N):=if validT v && validT k then updA A r (fun a=>putR (cmpH a.hs) a.rows k v) else A
noncomputable def delX {N:Nat} (A:List (TabA N)) (r k:Tm (N + 1)):Bool × Int:=if validT k then (match tabA A r with
 | none=>(false,4)
 | some a=>(hasR (cmpH a.hs) a.rows k,0)) else (false,2)
noncomputable def delA {N:Nat} (A:List (TabA N)) (r k:Tm (N + 1)):List (TabA N):=if validT k then updA A r (fun a=>delR (cmpH a.hs) a.rows k) else A
noncomputable def makeE {N:Nat} (A:List (TabA N)) (r o:Tm (N + 1)):Int:=if decide (r.f.kind = 3) && decide (o.f.kind = 6) && validT r && validT o then (match refA A r with
 | some _=>8
 | none=>if 64 ≤ A.length then 5 else 0) else 2
noncomputable def makeA {N:Nat} (A:List (TabA N)) (r o:Tm (N + 1)) (hs:Bool):List (TabA N):=if makeE A r o = 0 then A ++ [⟨r,o,hs,[]⟩] else A
section
variable {N:Nat} {B z:Nat} {A:List (TabA N)} {W W':World}
theorem StG.below (h:StG B z A W) (hb:Below W.heap.size W W'):StG B z A W':=by
 obtain ⟨F,vl,tabs,h1,h2⟩:=h
 exact ⟨F,vl,tabs,h1.below hb,h2⟩
theorem StG.lt (h:StG B z A W):z < W.heap.size:=by
 obtain ⟨F,vl,tabs,h1,h2⟩:=h
 exact h1.zlt
theorem refA_map (tabs:List (TabE N)) (r:Tm (N + 1)):refA (tabs.map absT) r = refAt tabs r:=by
 unfold refA refAt
 rw [List.findIdx?_map]
 rfl
theorem refA_lt {r:Tm (N + 1)} {i:Nat} (h:refA A r = some i):∃ a,A[i]? = some a∧a.ref = r:=by
 unfold refA at h
 rw [List.findIdx?_eq_some_iff_getElem] at h
 obtain ⟨hi,hp,_⟩:=h
 exact ⟨_,List.getElem?_eq_getElem hi,of_eqB hp⟩
theorem NewI.nil (w w':World):NewI w w' (fun _=>False) N nilV (zT:Tm (N + 1)).items:=⟨ItemsIn.nil_any (by decide),fun g hg=>hg.elim,fun g hg=>hg.elim⟩
theorem open_at {tabs:List (TabE N)} (h2:tabs.map absT = A) (h3:∀ t ∈ tabs,GoodT t) (hs:SmA A) (r:Tm (N + 1)):tabs.length ≤ 1000 ∧
 ((refA A r = none∧refAt tabs r = none∧tabA A r = none)∨∃ i,∃ hi:i < tabs.length,refA A r = some i∧refAt tabs r = some i∧A[i]? = some (absT tabs[i])∧tabA A r = some (absT tabs[i])∧GoodT tabs[i]∧(tabs[i]).rows.length ≤ 1000000):=by
 subst h2
 refine ⟨by have:=hs.len;rwa [List.length_map] at this,?_⟩
 cases hr:refAt tabs r with
 | none =>
  have e:refA (tabs.map absT) r = none:=by rw [refA_map,hr]
  exact .inl ⟨e,rfl,by unfold tabA;rw [e];rfl⟩
 | some i =>
  have e:refA (tabs.map absT) r = some i:=by rw [refA_map,hr]
  obtain ⟨hi,_⟩:=refAt_lt hr
  have ea:(tabs.map absT)[i]? = some (absT tabs[i]):=by rw [List.getElem?_map,List.getElem?_eq_getElem hi];rfl
  have hl:=hs.rows (absT tabs[i]) (List.mem_map.2 ⟨_,List.getElem_mem hi,rfl⟩)
  refine .inr ⟨i,hi,e,rfl,ea,by unfold tabA;rw [e];exact ea,h3 _ (List.getElem_mem hi),?_⟩
  unfold absT absR at hl
  rwa [List.length_map] at hl
theorem StG.open (h:StG B z A W) (hs:SmA A) (r:Tm (N + 1)):∃ F vl tabs,TbAt W B F ⟨z,vl,tabs⟩∧tabs.map absT = A∧(∀ t ∈ tabs,GoodT t)∧tabs.length ≤ 1000 ∧
 ((refA A r = none∧refAt tabs r = none∧tabA A r = none)∨∃ i,∃ hi:i < tabs.length,refA A r = some i∧refAt tabs r = some i∧A[i]? = some (absT tabs[i])∧tabA A r = some (absT tabs[i])∧GoodT tabs[i]∧(tabs[i]).rows.length ≤ 1000000):=by
 obtain ⟨F,vl,tabs,h1,h2,h3⟩:=h
 exact ⟨F,vl,tabs,h1,h2,h3,open_at h2 h3 hs r⟩
def StX (G:Nat→Prop) (B z:Nat) (A:List (TabA N)) (W:World):Prop:=∃ F vl tabs,TbAt W B F ⟨z,vl,tabs⟩∧tabs.map absT = A∧(∀ t ∈ tabs,GoodT t)∧∀ g,F g→¬ G g
theorem StX.st {G:Nat→Prop} (h:StX G B z A W):StG B z A W:=by
 obtain ⟨F,vl,tabs,h1,h2,h3,_⟩:=h
 exact ⟨F,vl,tabs,h1,h2,h3⟩
theorem StG.x (h:StG B z A W) {G:Nat→Prop} (hG:∀ g,G g→W.heap.size ≤ g):StX G B z A W:=by
 obtain ⟨F,vl,tabs,h1,h2,h3⟩:=h
 exact ⟨F,vl,tabs,h1,h2,h3,fun g hg hGg=>by have:=h1.fl g hg;have:=hG g hGg;omega⟩
theorem StX.below {G:Nat→Prop} (h:StX G B z A W) (hb:Below W.heap.size W W'):StX G B z A W':=by
 obtain ⟨F,vl,tabs,h1,h2⟩:=h
 exact ⟨F,vl,tabs,h1.below hb,h2⟩
theorem StX.touch {G:Nat→Prop} (h:StX G B z A W) (ht:TouchB G W W') (hG:∀ g,G g→∀ t,tyOf W g = some t→¬ progT t):StX G B z A W':=by
 obtain ⟨F,vl,tabs,h1,h2,h3,h4⟩:=h
 refine ⟨F,vl,tabs,h1.same (fun k hk hc=>ht.block k hk (fun hg=>?_)) ht.size,h2,h3,h4⟩
 rcases hc with hc | ⟨t,e,hc⟩
 ·exact h4 k hc hg
 ·exact hG k hg t e hc
theorem StG.set {tabs:List (TabE N)} (hg:∀ t ∈ tabs,GoodT t) {i:Nat} {t':TabE N} (h':GoodT t'):∀ t ∈ tabs.set i t',GoodT t:=fun t ht=>by
 rcases List.mem_or_eq_of_mem_set ht with ht | rfl
 ·exact hg t ht
 ·exact h'
theorem set_abs {tabs:List (TabE N)} {i:Nat} {t':TabE N}:(tabs.set i t').map absT = (tabs.map absT).set i (absT t'):=by
 refine List.ext_getElem? fun j=>?_
 rw [List.getElem?_map,List.getElem?_set,List.getElem?_set,List.length_map,List.getElem?_map]
 split
 ·split <;> rfl
 ·rfl
variable {r k v o:Tm (N + 1)} {ur uk uv uo:Value} {B2:Nat}
theorem g_putG {G:Nat→Prop} (h:StX G B z A W) (hG:∀ g,G g→g < W.heap.size) (hs:SmA A) (hB:B ≤ W.heap.size) (hBw:B2 ≤ W.heap.size) (hI:ItemsAt W B2 N ur r.items) (hJ:ItemsAt W B2 N uk k.items) (hV:ItemsAt W B2 N uv v.items) (hnk:nodesT k ≤ 100000000) (hnv:nodesT v ≤ 100000000)
 (hVm:∀ Wm,W.heap.size ≤ Wm.heap.size→(∀ g,g < W.heap.size→(g < B∨∀ t,tyOf W g = some t→¬ progT t)→Wm.heap[g]? = W.heap[g]?)→ItemsAt Wm Wm.heap.size N uv v.items) :
 Calls Tryz.prog 24 #[.pointer (some ⟨z,0,none⟩),aggV r.f ur,aggV k.f uk,aggV v.f uv] W fun e w'=>e = .returned (.int .i64 (putE A r k v))∧StX G B z (putA A r k v) w'∧TT progT B W w':=by
 obtain ⟨F,vl,tabs,h1,h2,h3,hx⟩:=h
 obtain ⟨hl,hc⟩:=open_at h2 h3 hs r
 have old:∀ {e:Ending} {w':World},Below W.heap.size W w'→StX G B z A w'∧TT progT B W w':=fun hb=>⟨⟨F,vl,tabs,h1.below hb,h2,h3,hx⟩,TT.new hb⟩
 cases hv:validT v
 ·have e1:putE A r k v = 2:=by unfold putE;rw [hv,if_neg (by decide)]
  have e2:putA A r k v = A:=by unfold putA;rw [hv];rfl
  rw [e1,e2]
  refine (put24v h1 hl hBw hI hJ hV hnk hnv hv).mono ?_
  rintro e w' ⟨rfl,hb⟩
  exact ⟨rfl,old (e:=.returned (.int .i64 2)) hb⟩
 ·cases hk:validT k
  ·have e1:putE A r k v = 2:=by unfold putE;rw [hv,hk,if_pos rfl,if_neg (by decide)]
   have e2:putA A r k v = A:=by unfold putA;rw [hv,hk];rfl
   rw [e1,e2]
   refine (put24e h1 hl hBw hI hJ hV hnk hnv hv (er:=2) (by decide) (.inl ⟨hk,rfl,rfl⟩)).mono ?_
   rintro e w' ⟨rfl,hb⟩
   exact ⟨rfl,old (e:=.returned (.int .i64 2)) hb⟩
  ·rcases hc with ⟨c1,c2,c3⟩ | ⟨i,hi,c1,c2,c3,c4,c5,c6⟩
   ·have e1:putE A r k v = 4:=by unfold putE;rw [hv,hk,if_pos rfl,if_pos rfl,c1]
    have e2:putA A r k v = A:=by unfold putA updA;rw [hv,hk,c1];rfl
    rw [e1,e2]
    refine (put24e h1 hl hBw hI hJ hV hnk hnv hv (er:=4) (by decide) (.inr ⟨hk,.inl ⟨c2,rfl,rfl⟩⟩)).mono ?_
    rintro e w' ⟨rfl,hb⟩
    exact ⟨rfl,old (e:=.returned (.int .i64 4)) hb⟩
   ·have e1:putE A r k v = 0:=by unfold putE;rw [hv,hk,if_pos rfl,if_pos rfl,c1]
    have e2:putA A r k v = A.set i { absT tabs[i] with rows:=putR (cmpH (absT tabs[i]).hs) (absT tabs[i]).rows k v }:=by
     unfold putA updA
     rw [hv,hk,c1]
     dsimp only
     rw [c3]
     rfl
    rw [e1,e2]
    have ht:=h1.tabs _ (List.getElem_mem hi)
    refine (put24g h1 hB hl hBw hI hJ hV hnk hnv hk hv hi c2 (c5.find c6 k) (fun Wm hm=>?_)).mono ?_
    ·obtain ⟨F1,uk',vr,hq⟩:=hm
     refine hVm Wm hq.touch.size (fun g hg hn=>hq.touch.block g hg ?_)
     rintro (rfl | e)
     ·rcases hn with hn | hn
      ·exact absurd hn (Nat.not_lt.2 ht.low)
      ·exact hn 98 (tyOf_of ht.blk) (.inr (.inr (.inl rfl)))
     ·rcases hn with hn | hn
      ·exact absurd hn (Nat.not_lt.2 (ht.rows.lt e).1)
      ·exact hn 108 (ownTy ht.rows e) (.inr (.inr (.inr rfl)))
    rintro e w' ⟨rfl,F1,uk',uv',vr,hq⟩
    obtain ⟨h4,h5⟩:=hq.upd h1 hi
    refine ⟨rfl,⟨F1,vl,_,h4,?_,StG.set h3 (c5.put hk hnk hnv),fun g hg hGg=>by rcases hq.new g hg with e | e;exact hx g e hGg;have:=hG g hGg;omega⟩,h5⟩
    rw [set_abs,h2]
    show A.set i ⟨_,_,_,(putRows tabs[i] k v uk' uv').map (fun r=>(r.k,r.v))⟩ = _
    rw [put_rows_abs c5]
    rfl
theorem g_put (h:StG B z A W) (hs:SmA A) (hB:B ≤ W.heap.size) (hB2:B2 ≤ B) (hI:ItemsAt W B2 N ur r.items) (hJ:ItemsAt W B2 N uk k.items) (hV:ItemsAt W B2 N uv v.items) (hnk:nodesT k ≤ 100000000) (hnv:nodesT v ≤ 100000000) :
 Calls Tryz.prog 24 #[.pointer (some ⟨z,0,none⟩),aggV r.f ur,aggV k.f uk,aggV v.f uv] W fun e w'=>e = .returned (.int .i64 (putE A r k v))∧StG B z (putA A r k v) w'∧TT progT B W w':=by
 refine (g_putG (h.x (G:=fun _=>False) (fun _ e=>e.elim)) (fun _ e=>e.elim) hs hB (Nat.le_trans hB2 hB) hI hJ hV hnk hnv (fun Wm hz hk=>(hV.same (fun g hg=>hk g (by omega) (.inl (by omega)))).more (by omega))).mono ?_
 rintro e w' ⟨h1,h2,h3⟩
 exact ⟨h1,h2.st,h3⟩
theorem g_del (h:StG B z A W) (hs:SmA A) (hB2:B2 ≤ W.heap.size) (hI:ItemsAt W B2 N ur r.items) (hJ:ItemsAt W B2 N uk k.items) (hnk:nodesT k ≤ 100000000) :
 Calls Tryz.prog 22 #[.pointer (some ⟨z,0,none⟩),aggV r.f ur,aggV k.f uk] W fun e w'=>e = .returned (.tuple #[.bool (delX A r k).1,.int .i64 (delX A r k).2])∧StG B z (delA A r k) w'∧TT progT B W w':=by
 obtain ⟨F,vl,tabs,h1,h2,h3,hl,hc⟩:=h.open hs r
 cases hk:validT k
 ·have e1:delX A r k = (false,2):=by unfold delX;rw [hk,if_neg (by decide)]
  have e2:delA A r k = A:=by unfold delA;rw [hk,if_neg (by decide)]
  rw [e1,e2]
  refine (del22e h1 hl hB2 hI hJ hnk (er:=2) (by decide) (.inl ⟨hk,rfl,rfl⟩)).mono ?_
  rintro e w' ⟨rfl,hb⟩
  exact ⟨rfl,h.below hb,TT.new hb⟩
 ·rcases hc with ⟨c1,c2,c3⟩ | ⟨i,hi,c1,c2,c3,c4,c5,c6⟩
  ·have e1:delX A r k = (false,4):=by unfold delX;rw [hk,if_pos rfl,c3]
   have e2:delA A r k = A:=by unfold delA updA;rw [hk,if_pos rfl,c1]
   rw [e1,e2]
   refine (del22e h1 hl hB2 hI hJ hnk (er:=4) (by decide) (.inr ⟨hk,.inl ⟨c2,rfl,rfl⟩⟩)).mono ?_
   rintro e w' ⟨rfl,hb⟩
   exact ⟨rfl,h.below hb,TT.new hb⟩
  ·have eh:hasK tabs[i] k = hasR (cmpH (absT tabs[i]).hs) (absT tabs[i]).rows k:=c5.has k
   have e2:delA A r k = A.set i { absT tabs[i] with rows:=delR (cmpH (absT tabs[i]).hs) (absT tabs[i]).rows k }:=by
    unfold delA updA
    rw [hk,if_pos rfl,c1]
    dsimp only
    rw [c3]
   have e1:delX A r k = (hasK tabs[i] k,0):=by unfold delX;rw [hk,if_pos rfl,c4];dsimp only;rw [eh]
   rw [e1]
   cases hh:hasK tabs[i] k
   ·have e3:delA A r k = A:=by
     rw [e2]
     have:delR (cmpH (absT tabs[i]).hs) (absT tabs[i]).rows k = (absT tabs[i]).rows:=by unfold delR;rw [← eh,hh,if_neg (by decide)]
     rw [this]
     refine List.ext_getElem? fun j=>?_
     rw [List.getElem?_set]
     split
     ·rename_i e;subst e;split
      ·exact c3.symm
      ·rename_i hn;rw [List.getElem?_eq_none (by omega)]
     ·rfl
    rw [e3]
    refine (del22n h1 hl hB2 hI hJ hnk hk hi c2 (c5.find c6 k) hh).mono ?_
    rintro e w' ⟨rfl,hb⟩
    exact ⟨rfl,h.below hb,TT.new hb⟩
   ·obtain ⟨hp,_⟩:=c5.hasp hh
    rw [e2]
    refine (del22y h1 hl hB2 hI hJ hnk hk hi c2 (c5.find c6 k) hh hp).mono ?_
    rintro e w' ⟨rfl,vr,hq⟩
    obtain ⟨h4,h5⟩:=hq.upd h1 hi
    obtain ⟨h6,h7⟩:=c5.del hh (vr:=vr)
    refine ⟨rfl,⟨F,vl,_,h4,?_,StG.set h3 h6⟩,h5⟩
    rw [set_abs,h2]
    show A.set i ⟨_,_,_,absR _⟩ = _
    rw [h7]
    rfl
theorem g_make (h:StG B z A W) (hs:SmA A) (hB:B ≤ W.heap.size) (hB2:B2 ≤ B) (hI:ItemsAt W B2 N ur r.items) (hJ:ItemsAt W B2 N uo o.items) (hnr:nodesT r ≤ 100000000) (hno:nodesT o ≤ 100000000) (hf:Bool) :
 Calls Tryz.prog 17 #[.pointer (some ⟨z,0,none⟩),aggV r.f ur,aggV o.f uo,.bool hf] W fun e w'=>e = .returned (.int .i64 (makeE A r o))∧StG B z (makeA A r o hf) w'∧TT progT B W w':=by
 obtain ⟨F,vl,tabs,h1,h2,h3,hl,hc⟩:=h.open hs r
 have hBw:=Nat.le_trans hB2 hB
 obtain ⟨po,er,hTR⟩:=TabR.of tabs r
 have her:er ≠ 1:=by rcases hTR with ⟨_,_,rfl⟩ | ⟨_,_,_,_,rfl⟩ <;> decide
 have old:makeE A r o ≠ 0→∀ {n:Int},makeE A r o = n→∀ {e:Ending} {w':World},e = .returned (.int .i64 n)∧Below W.heap.size W w'→e = .returned (.int .i64 (makeE A r o))∧StG B z (makeA A r o hf) w'∧TT progT B W w':=fun hne n hn e w' ⟨he,hb⟩=>by
  have e2:makeA A r o hf = A:=by unfold makeA;rw [if_neg hne]
  rw [e2,hn]
  exact ⟨he,h.below hb,TT.new hb⟩
 have bad:(decide (r.f.kind = 3) && decide (o.f.kind = 6) && validT r && validT o) = false→makeE A r o = 2:=fun hq=>by unfold makeE;rw [hq,if_neg (by decide)]
 have good:(decide (r.f.kind = 3) && decide (o.f.kind = 6) && validT r && validT o) = true→makeE A r o = (match refA A r with | some _=>8 | none=>if 64 ≤ A.length then 5 else 0):=fun hq=>by unfold makeE;rw [hq,if_pos rfl]
 by_cases k1:r.f.kind = 3
 rotate_left
 ·have hm:=bad (by rw [decide_eq_false k1];rfl)
  exact (make17a h1 hl hBw hI hJ hnr hno hf her hTR k1).mono (fun e w' hp=>old (by omega) hm hp)
 by_cases k2:o.f.kind = 6
 rotate_left
 ·have hm:=bad (by rw [decide_eq_false k2];simp)
  exact (make17b h1 hl hBw hI hJ hnr hno hf her hTR k1 k2).mono (fun e w' hp=>old (by omega) hm hp)
 cases k3:validT r
 ·have hm:=bad (by rw [k3];simp)
  exact (make17c h1 hl hBw hI hJ hnr hno hf her hTR k1 k2 k3).mono (fun e w' hp=>old (by omega) hm hp)
 cases k4:validT o
 ·have hm:=bad (by rw [k4];simp)
  exact (make17d h1 hl hBw hI hJ hnr hno hf her hTR k1 k2 k3 k4).mono (fun e w' hp=>old (by omega) hm hp)
 have hg:=good (by rw [decide_eq_true k1,decide_eq_true k2,k3,k4];rfl)
 rcases hc with ⟨c1,c2,c3⟩ | ⟨i,hi,c1,c2,c3,c4,c5,c6⟩
 ·rw [c1] at hg
  dsimp only at hg
  have hle:A.length = tabs.length:=by rw [← h2,List.length_map]
  by_cases hfull:64 ≤ A.length
  ·rw [if_pos hfull] at hg
   have he0:er ≠ 0:=by
    rcases hTR with ⟨_,_,rfl⟩ | ⟨i,_,e,_,_⟩
    ·decide
    ·rw [c2] at e;cases e
   exact (make17f h1 hl hBw hI hJ hnr hno hf her hTR k1 k2 k3 k4 he0 (by show 64 ≤ tabs.length;omega)).mono (fun e w' hp=>old (by omega) hg hp)
  ·rw [if_neg hfull] at hg
   have e2:makeA A r o hf = A ++ [⟨r,o,hf,[]⟩]:=by unfold makeA;rw [if_pos hg]
   rw [hg,e2]
   refine (make17y h1 hB hl hB2 hI hJ hnr hno k3 k4 k1 k2 hf (by show tabs.length < 64;omega) c2).mono ?_
   rintro e w' ⟨rfl,F1,ur',uo',vl',b,h4,h5,_⟩
   refine ⟨rfl,⟨F1,vl',_,h4,?_,fun t ht=>?_⟩,h5⟩
   ·rw [List.map_append,h2];rfl
   ·rcases List.mem_append.1 ht with ht | ht
    ·exact h3 t ht
    ·obtain rfl:=List.mem_singleton.1 ht
     exact ⟨fun r hr=>(nomatch hr),fun r hr=>(nomatch hr),List.Pairwise.nil,fun r hr=>(nomatch hr)⟩
 ·rw [c1] at hg
  dsimp only at hg
  exact (make17t h1 hB hl hB2 hI hJ hnr hno k3 k4 k1 k2 hf hi c2).mono (fun e w' hp=>old (by omega) hg hp)
end
structure RRw (N:Nat) where
 k:Tm (N + 1)
 v:Tm (N + 1)
 uk:Value
 uv:Value
def rrL {N:Nat} (r:RRw N):List Value:=nineL r.k.f r.uk ++ nineL r.v.f r.uv
structure RTb (N:Nat) where
 ref:Tm (N + 1)
 own:Tm (N + 1)
 ur:Value
 uo:Value
 hs:Bool
 vr:Value
 rows:List (RRw N)
def rtL {N:Nat} (t:RTb N):List Value:=nineL t.ref.f t.ur ++ (nineL t.own.f t.uo ++ [.bool t.hs,t.vr])
structure RTbAt {N:Nat} (w:World) (B:Nat) (t:RTb N):Prop where
 rows:RecOwn rrL 55 18 w B t.vr t.rows
 iref:ItemsAt w B N t.ur t.ref.items
 iown:ItemsAt w B N t.uo t.own.items
 irow:∀ r ∈ t.rows,ItemsAt w B N r.uk r.k.items∧ItemsAt w B N r.uv r.v.items
structure RfAt {N:Nat} (w:World) (B y:Nat) (lv:Value) (T:List (RTb N)):Prop where
 obj:w.heap[y]? = some (.cells #[lv] 39)
 l:RecOwn rtL 53 20 w B lv T
 tabs:∀ t ∈ T,RTbAt w B t
 low:B ≤ y
def refT3 (t:TypeId):Prop:=t = 39∨t = 53∨t = 55
def absRT {N:Nat} (t:RTb N):TabA N:=⟨t.ref,t.own,t.hs,t.rows.map (fun r=>(r.k,r.v))⟩
section
variable {N:Nat} {w w':World} {B y:Nat} {lv:Value} {T:List (RTb N)} {t:RTb N}
theorem it_one {n:Nat} {v:Value} {l:List (Tm n)} (h:ItemsAt w B n v l):v.oneCell' = true:=by
 obtain ⟨p,c,rfl,_,_⟩:=h.shape
 rfl
theorem RTbAt.enc (h:RTbAt w B t):EncOK rrL 18 t.rows:=fun r hr=>⟨rfl,fun u hu=>by
 obtain ⟨h1,h2⟩:=h.irow r hr
 unfold rrL at hu
 rcases List.mem_append.1 hu with hu | hu
 ·exact nineL_one (it_one h1) u hu
 ·exact nineL_one (it_one h2) u hu⟩
theorem RfAt.enc (h:RfAt w B y lv T):EncOK rtL 20 T:=fun t ht=>⟨rfl,fun u hu=>by
 have ht:=h.tabs t ht
 obtain ⟨p,c,e,_,_⟩:=ht.rows.shape
 unfold rtL at hu
 rcases List.mem_append.1 hu with hu | hu
 ·exact nineL_one (it_one ht.iref) u hu
 rcases List.mem_append.1 hu with hu | hu
 ·exact nineL_one (it_one ht.iown) u hu
 ·simp at hu
  rcases hu with rfl | rfl
  ·rfl
  ·rw [e];rfl⟩
theorem RTbAt.keep (h:RTbAt w B t) (hl:∀ g,g < B→w'.heap[g]? = w.heap[g]?) (ho:∀ g,t.vr.ownBlock = some g→w'.heap[g]? = w.heap[g]?):RTbAt w' B t :=
 ⟨h.rows.same ho,h.iref.same hl,h.iown.same hl,fun r hr=>⟨(h.irow r hr).1.same hl,(h.irow r hr).2.same hl⟩⟩
theorem RfAt.keep (h:RfAt w B y lv T) (hl:∀ g,g < B→w'.heap[g]? = w.heap[g]?) (ho:∀ g t,tyOf w g = some t→refT3 t→w'.heap[g]? = w.heap[g]?):RfAt w' B y lv T :=
 ⟨(ho y 39 (tyOf_of h.obj) (.inl rfl)).trans h.obj,h.l.same (fun g hg=>ho g 53 (ownTy h.l hg) (.inr (.inl rfl))),fun t ht=>(h.tabs t ht).keep hl (fun g hg=>ho g 55 (ownTy (h.tabs t ht).rows hg) (.inr (.inr rfl))),h.low⟩
theorem RfAt.ylt (h:RfAt w B y lv T):y < w.heap.size:=(Array.getElem?_eq_some_iff.1 h.obj).1
theorem RfAt.blt (h:RfAt w B y lv T):B ≤ w.heap.size:=Nat.le_trans h.low (Nat.le_of_lt h.ylt)
theorem tyOf_lt {g:Nat} {t:TypeId} (h:tyOf w g = some t):g < w.heap.size:=by
 unfold tyOf at h
 by_cases hg:g < w.heap.size
 ·exact hg
 ·rw [Array.getElem?_eq_none (by omega)] at h
  cases h
theorem RfAt.below (h:RfAt w B y lv T) (hb:Below w.heap.size w w'):RfAt w' B y lv T:=h.keep (fun g hg=>hb.block g (by have:=h.blt;omega)) (fun g t ht _=>hb.block g (tyOf_lt ht))
theorem RfAt.prog (h:RfAt w B y lv T) (ht:TT progT B w w'):RfAt w' B y lv T :=
 h.keep (fun g hg=>(ht.below h.blt).block g hg) (fun g t hty hT=>ht.keep (tyOf_lt hty) (fun t' ht' hP=>by
  rw [hty] at ht'
  obtain rfl:=Option.some.inj ht'
  unfold refT3 at hT
  unfold progT at hP
  rcases hT with rfl | rfl | rfl <;> rcases hP with hP | hP | hP | hP <;> exact absurd hP (by decide)))
theorem StG.ref {z:Nat} {A:List (TabA N)} (h:StG B z A w) (ht:TT refT3 B w w'):StG B z A w':=by
 obtain ⟨F,vl,tabs,h1,h2⟩:=h
 refine ⟨F,vl,tabs,h1.same (fun k hk hq=>ht.keep hk (fun t' ht' hP=>?_)) ht.size,h2⟩
 unfold refT3 at hP
 rcases hq with hF | ⟨t,hty,hT⟩
 ·rw [F_ty h1 hF] at ht'
  obtain rfl:=Option.some.inj ht'
  rcases hP with hP | hP | hP <;> exact absurd hP (by decide)
 ·rw [hty] at ht'
  obtain rfl:=Option.some.inj ht'
  unfold progT at hT
  rcases hT with rfl | rfl | rfl | rfl <;> rcases hP with hP | hP | hP <;> exact absurd hP (by decide)
noncomputable def refR (T:List (RTb N)) (r:Tm (N + 1)):Option Nat:=T.findIdx? (fun t=>eqB t.ref r)
theorem refR_abs (T:List (RTb N)) (r:Tm (N + 1)):refA (T.map absRT) r = refR T r:=by
 unfold refA refR
 rw [List.findIdx?_map]
 rfl
theorem rec_rng {α:Type} {enc:α→List Value} {s:Nat} {p:Option Addr} {c:Nat} {l:List α} (h:RecAt enc s w B (.slice p l.length c) l) {i:Nat} (hi:i < l.length):∃ g o,p = some ⟨g,o,none⟩∧g < B∧w.rangeAt g (o + i * s) (enc l[i]):=by
 obtain ⟨g,o,e,_,hg,hc⟩:=h.nth (by omega)
 refine ⟨g,o,e,hg,fun k u hk=>?_⟩
 have:=hc i l[i] (List.getElem?_eq_getElem hi) k u hk
 rwa [← Nat.add_assoc] at this
end
end Go.Proofs.YtfbggmbmgohiiaaGreat.tb
