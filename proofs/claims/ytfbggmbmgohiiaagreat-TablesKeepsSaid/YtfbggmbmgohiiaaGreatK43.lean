/- Texts of this seat, one behind the other: TcP, TcQ, TcR, TcS, TcV, TkA, TcW, TeB. No condition beyond theirs. -/
import Derived.Test.YtfbggmbmgohiiaaGreatK41
import Derived.Test.YtfbggmbmgohiiaaGreatK01
import Derived.Test.YtfbggmbmgohiiaaGreatK38
import Derived.Test.YtfbggmbmgohiiaaGreatK42
set_option linter.unusedSimpArgs false
set_option linter.unusedVariables false
set_option maxHeartbeats 4000000
set_option maxRecDepth 100000
namespace Go.Proofs.YtfbggmbmgohiiaaGreat.tb
open Go.RowKit mem rec tm names
section
variable {N:Nat} {w w':World} {B:Nat} {F:Nat→Prop} {s:TbSt N} {t:TabE N}
theorem row73n (h:TabAt w B F t) {i:Nat} (hi:t.rows.length ≤ i) :
 Calls Tryz.prog 73 #[.pointer (some ⟨t.b,0,none⟩),.int .i64 i] w fun e w'=>e = .returned (.tuple #[.agg #[.int .i64 0,.int .i64 0,.int .i64 0,.string ⟨#[]⟩,.string ⟨#[]⟩,.int .i64 0,.slice none 0 0,.string ⟨#[]⟩,.int .i64 0],.agg #[.int .i64 0,.int .i64 0,.int .i64 0,.string ⟨#[]⟩,.string ⟨#[]⟩,.int .i64 0,.slice none 0 0,.string ⟨#[]⟩,.int .i64 0],.bool false,.int .i64 0])∧Below w.heap.size w w':=by
 have htb:=h.lt
 obtain ⟨pv0,cv0,ev0,hcc,hcm⟩:=h.rows.shape
 have HRg:Hid (∀ W,Below w.heap.size w W→W.cell? ⟨t.b,19,none⟩ = some (.slice pv0 t.rows.length cv0)):=Lib.hid (fun W hW=>by rw [← ev0];exact cell_keep hW htb (tab_cells h.blk).2.2.2.1)
 have hilt:(t.rows.length:Int) ≤ (i:Int):=by omega
 generalize t.b = tb at *
 clear h ev0 hi
 generalize t.rows.length = n at *
 have hsz9:(Tryz.prog.info? 24).map (·.size) = some 9:=by kernel_rfl
 obtain ⟨hb0,hz4,hz5⟩:=two_boxes w (.cells #[.int .i64 0,.int .i64 0,.int .i64 0,.string ⟨#[]⟩,.string ⟨#[]⟩,.int .i64 0,.slice none 0 0,.string ⟨#[]⟩,.int .i64 0] 24) (.cells #[.int .i64 0,.int .i64 0,.int .i64 0,.string ⟨#[]⟩,.string ⟨#[]⟩,.int .i64 0,.slice none 0 0,.string ⟨#[]⟩,.int .i64 0] 24)
 have c0:=HRg.out _ hb0
 go_enter Tryz.func73,Tryz.ntmps73
 go_upto_region 1 with (fail)
 generalize ((w.alloc (.cells #[.int .i64 0,.int .i64 0,.int .i64 0,.string ⟨#[]⟩,.string ⟨#[]⟩,.int .i64 0,.slice none 0 0,.string ⟨#[]⟩,.int .i64 0] 24)).alloc (.cells #[.int .i64 0,.int .i64 0,.int .i64 0,.string ⟨#[]⟩,.string ⟨#[]⟩,.int .i64 0,.slice none 0 0,.string ⟨#[]⟩,.int .i64 0] 24)) = W1 at *
 have hq4:=setRow_heap W1 w.heap.size _ #[.int .i64 0,.int .i64 0,.int .i64 0,.string ⟨#[]⟩,.string ⟨#[]⟩,.int .i64 0,.slice none 0 0,.string ⟨#[]⟩,.int .i64 0] _ _ hz4
 have hq5:=(setRow_other W1 w.heap.size (w.heap.size + 1) #[.int .i64 0,.int .i64 0,.int .i64 0,.string ⟨#[]⟩,.string ⟨#[]⟩,.int .i64 0,.slice none 0 0,.string ⟨#[]⟩,.int .i64 0] (by omega)).trans hz5
 have hbq:=hb0.trans ((touch_setRow W1 w.heap.size #[.int .i64 0,.int .i64 0,.int .i64 0,.string ⟨#[]⟩,.string ⟨#[]⟩,.int .i64 0,.slice none 0 0,.string ⟨#[]⟩,.int .i64 0]).below (fun q e=>by omega) hb0.size)
 have hp5:=setRow_heap (W1.setRow w.heap.size #[.int .i64 0,.int .i64 0,.int .i64 0,.string ⟨#[]⟩,.string ⟨#[]⟩,.int .i64 0,.slice none 0 0,.string ⟨#[]⟩,.int .i64 0]) (w.heap.size + 1) _ #[.int .i64 0,.int .i64 0,.int .i64 0,.string ⟨#[]⟩,.string ⟨#[]⟩,.int .i64 0,.slice none 0 0,.string ⟨#[]⟩,.int .i64 0] _ _ hq5
 have hp4:=(setRow_other (W1.setRow w.heap.size #[.int .i64 0,.int .i64 0,.int .i64 0,.string ⟨#[]⟩,.string ⟨#[]⟩,.int .i64 0,.slice none 0 0,.string ⟨#[]⟩,.int .i64 0]) (w.heap.size + 1) w.heap.size #[.int .i64 0,.int .i64 0,.int .i64 0,.string ⟨#[]⟩,.string ⟨#[]⟩,.int .i64 0,.slice none 0 0,.string ⟨#[]⟩,.int .i64 0] (by omega)).trans hq4
 have hbp:=hbq.trans ((touch_setRow (W1.setRow w.heap.size #[.int .i64 0,.int .i64 0,.int .i64 0,.string ⟨#[]⟩,.string ⟨#[]⟩,.int .i64 0,.slice none 0 0,.string ⟨#[]⟩,.int .i64 0]) (w.heap.size + 1) #[.int .i64 0,.int .i64 0,.int .i64 0,.string ⟨#[]⟩,.string ⟨#[]⟩,.int .i64 0,.slice none 0 0,.string ⟨#[]⟩,.int .i64 0]).below (fun q e=>by omega) hbq.size)
 have hl4:=run_loadVar_mid (P:=Tryz.prog) _ w.heap.size 0 24 [.int .i64 0,.int .i64 0,.int .i64 0,.string ⟨#[]⟩,.string ⟨#[]⟩,.int .i64 0,.slice none 0 0,.string ⟨#[]⟩,.int .i64 0] _ (row_rng hp4) Tryz.underlying24 rfl hsz9
 have hl5:=run_loadVar_mid (P:=Tryz.prog) _ (w.heap.size + 1) 0 24 [.int .i64 0,.int .i64 0,.int .i64 0,.string ⟨#[]⟩,.string ⟨#[]⟩,.int .i64 0,.slice none 0 0,.string ⟨#[]⟩,.int .i64 0] _ (row_rng hp5) Tryz.underlying24 rfl hsz9
 have HZ4':=Lib.hid hz4
 have HQ5:=Lib.hid hq5
 have HF:=Lib.hid (And.intro hl4 (And.intro hl5 hbp))
 clear hl4 hl5 hp4 hp5 hbp hbq hq4 hq5
 go_wp2_with (first
  | (refine wpList_store_row rfl 24 (.tmp 4) (.tmp 15) rfl w.heap.size #[.int .i64 0,.int .i64 0,.int .i64 0,.string ⟨#[]⟩,.string ⟨#[]⟩,.int .i64 0,.slice none 0 0,.string ⟨#[]⟩,.int .i64 0] rfl rfl 24 _ HZ4'.out hsz9 rfl zoneA ?_)
  | (refine wpList_store_row rfl 24 (.tmp 5) (.tmp 16) rfl (w.heap.size + 1) #[.int .i64 0,.int .i64 0,.int .i64 0,.string ⟨#[]⟩,.string ⟨#[]⟩,.int .i64 0,.slice none 0 0,.string ⟨#[]⟩,.int .i64 0] rfl rfl 24 _ HQ5.out hsz9 rfl zoneA ?_))
 (try simp only [Exit.inBlock,Exit.then])
 obtain ⟨hl4,hl5,hbp⟩:=HF.out
 refine bodyPost_ret (v:=.tuple #[.agg #[.int .i64 0,.int .i64 0,.int .i64 0,.string ⟨#[]⟩,.string ⟨#[]⟩,.int .i64 0,.slice none 0 0,.string ⟨#[]⟩,.int .i64 0],.agg #[.int .i64 0,.int .i64 0,.int .i64 0,.string ⟨#[]⟩,.string ⟨#[]⟩,.int .i64 0,.slice none 0 0,.string ⟨#[]⟩,.int .i64 0],.bool false,.int .i64 0]) ?_ rfl ⟨rfl,hbp⟩
 have hA:∀ (a:Addr) (w:World),(asAddr (.pointer (some a))).run Tryz.prog w = .ok a w:=fun _ _=>rfl
 rw [results_cc rfl]
 simp [hA,hl4,hl5,Result.andThen]
theorem first39e (h:TbAt w B F s) (hlen:s.tabs.length ≤ 1000) {r:Tm (N + 1)} {ur:Value} {B2:Nat} (hB:B2 ≤ w.heap.size) (hI:ItemsAt w B2 N ur r.items) {er:Int} (he:er ≠ 0) (hTR:TabR s.tabs r none er) :
 Calls Tryz.prog 39 #[.pointer (some ⟨s.z,0,none⟩),aggV r.f ur] w fun e w'=>e = .returned (.tuple #[.agg #[.int .i64 0,.int .i64 0,.int .i64 0,.string ⟨#[]⟩,.string ⟨#[]⟩,.int .i64 0,.slice none 0 0,.string ⟨#[]⟩,.int .i64 0],.agg #[.int .i64 0,.int .i64 0,.int .i64 0,.string ⟨#[]⟩,.string ⟨#[]⟩,.int .i64 0,.slice none 0 0,.string ⟨#[]⟩,.int .i64 0],.bool false,.int .i64 er])∧Below w.heap.size w w':=by
 have HTb:=Lib.hid (fun (W:World) (hW:Below w.heap.size w W)=>table49 (h.below hW) hlen (Nat.le_trans hB hW.size) (hI.below hW hB) hTR)
 obtain ⟨pr,cr,er1,_,_⟩:=hI.shape
 rw [er1] at HTb ⊢
 generalize s.z = z at *
 clear h hTR hlen hB hI er1
 generalize r.items.length = nr at *
 generalize r.f = fr at *
 obtain ⟨rk,ri,rg,rn,rf,ra,rb,rs⟩:=fr
 unfold aggV at *
 dsimp only at *
 have hsz9:(Tryz.prog.info? 24).map (·.size) = some 9:=by kernel_rfl
 obtain ⟨hb0,hs1,hz3,hz4,hz5⟩:=three_heap w (.cells #[.int .i64 rk,.int .i64 ri,.int .i64 rg,.string rn,.string rf,.int .i64 ra,.slice pr nr cr,.string rb,.int .i64 rs] 24) (.cells #[.int .i64 0,.int .i64 0,.int .i64 0,.string ⟨#[]⟩,.string ⟨#[]⟩,.int .i64 0,.slice none 0 0,.string ⟨#[]⟩,.int .i64 0] 24) (.cells #[.int .i64 0,.int .i64 0,.int .i64 0,.string ⟨#[]⟩,.string ⟨#[]⟩,.int .i64 0,.slice none 0 0,.string ⟨#[]⟩,.int .i64 0] 24)
 go_enter Tryz.func39,Tryz.ntmps39
 go_upto_region 1 with (fail)
 generalize (((w.alloc (.cells #[.int .i64 rk,.int .i64 ri,.int .i64 rg,.string rn,.string rf,.int .i64 ra,.slice pr nr cr,.string rb,.int .i64 rs] 24)).alloc (.cells #[.int .i64 0,.int .i64 0,.int .i64 0,.string ⟨#[]⟩,.string ⟨#[]⟩,.int .i64 0,.slice none 0 0,.string ⟨#[]⟩,.int .i64 0] 24)).alloc (.cells #[.int .i64 0,.int .i64 0,.int .i64 0,.string ⟨#[]⟩,.string ⟨#[]⟩,.int .i64 0,.slice none 0 0,.string ⟨#[]⟩,.int .i64 0] 24)) = W1 at *
 have HL3:=Lib.hid (row_rng hz3)
 have HZ4:=Lib.hid hz4
 have HZ5:=Lib.hid hz5
 have HB0:=Lib.hid hb0
 clear hz3 hz4 hz5 hb0
 go_wp2_with (first
  | (refine wpList_load_mid rfl 24 (.tmp 3) rfl w.heap.size 0 rfl [.int .i64 rk,.int .i64 ri,.int .i64 rg,.string rn,.string rf,.int .i64 ra,.slice pr nr cr,.string rb,.int .i64 rs] _ HL3.out Tryz.underlying24 rfl hsz9 ?_))
 refine (HTb.out _ HB0.out).mono ?_
 rintro e w2 ⟨rfl,hb2⟩
 have hbd:=HB0.out.trans (hb2.mono HB0.out.size)
 have hz4:=(hb2.block (w.heap.size + 1) (by omega)).trans HZ4.out
 have hz5:=(hb2.block (w.heap.size + 2) (by omega)).trans HZ5.out
 clear hb2 HL3 HTb HZ4 HZ5 HB0
 have hq4:=setRow_heap w2 (w.heap.size + 1) _ #[.int .i64 0,.int .i64 0,.int .i64 0,.string ⟨#[]⟩,.string ⟨#[]⟩,.int .i64 0,.slice none 0 0,.string ⟨#[]⟩,.int .i64 0] _ _ hz4
 have hq5:=(setRow_other w2 (w.heap.size + 1) (w.heap.size + 2) #[.int .i64 0,.int .i64 0,.int .i64 0,.string ⟨#[]⟩,.string ⟨#[]⟩,.int .i64 0,.slice none 0 0,.string ⟨#[]⟩,.int .i64 0] (by omega)).trans hz5
 have hbq:=hbd.trans ((touch_setRow w2 (w.heap.size + 1) #[.int .i64 0,.int .i64 0,.int .i64 0,.string ⟨#[]⟩,.string ⟨#[]⟩,.int .i64 0,.slice none 0 0,.string ⟨#[]⟩,.int .i64 0]).below (fun q e=>by omega) hbd.size)
 have hp5:=setRow_heap (w2.setRow (w.heap.size + 1) #[.int .i64 0,.int .i64 0,.int .i64 0,.string ⟨#[]⟩,.string ⟨#[]⟩,.int .i64 0,.slice none 0 0,.string ⟨#[]⟩,.int .i64 0]) (w.heap.size + 2) _ #[.int .i64 0,.int .i64 0,.int .i64 0,.string ⟨#[]⟩,.string ⟨#[]⟩,.int .i64 0,.slice none 0 0,.string ⟨#[]⟩,.int .i64 0] _ _ hq5
 have hp4:=(setRow_other (w2.setRow (w.heap.size + 1) #[.int .i64 0,.int .i64 0,.int .i64 0,.string ⟨#[]⟩,.string ⟨#[]⟩,.int .i64 0,.slice none 0 0,.string ⟨#[]⟩,.int .i64 0]) (w.heap.size + 2) (w.heap.size + 1) #[.int .i64 0,.int .i64 0,.int .i64 0,.string ⟨#[]⟩,.string ⟨#[]⟩,.int .i64 0,.slice none 0 0,.string ⟨#[]⟩,.int .i64 0] (by omega)).trans hq4
 have hbp:=hbq.trans ((touch_setRow (w2.setRow (w.heap.size + 1) #[.int .i64 0,.int .i64 0,.int .i64 0,.string ⟨#[]⟩,.string ⟨#[]⟩,.int .i64 0,.slice none 0 0,.string ⟨#[]⟩,.int .i64 0]) (w.heap.size + 2) #[.int .i64 0,.int .i64 0,.int .i64 0,.string ⟨#[]⟩,.string ⟨#[]⟩,.int .i64 0,.slice none 0 0,.string ⟨#[]⟩,.int .i64 0]).below (fun q e=>by omega) hbq.size)
 have hl4:=run_loadVar_mid (P:=Tryz.prog) _ (w.heap.size + 1) 0 24 [.int .i64 0,.int .i64 0,.int .i64 0,.string ⟨#[]⟩,.string ⟨#[]⟩,.int .i64 0,.slice none 0 0,.string ⟨#[]⟩,.int .i64 0] _ (row_rng hp4) Tryz.underlying24 rfl hsz9
 have hl5:=run_loadVar_mid (P:=Tryz.prog) _ (w.heap.size + 2) 0 24 [.int .i64 0,.int .i64 0,.int .i64 0,.string ⟨#[]⟩,.string ⟨#[]⟩,.int .i64 0,.slice none 0 0,.string ⟨#[]⟩,.int .i64 0] _ (row_rng hp5) Tryz.underlying24 rfl hsz9
 have HZ4':=Lib.hid hz4
 have HQ5:=Lib.hid hq5
 have HF:=Lib.hid (And.intro hl4 (And.intro hl5 hbp))
 clear hl4 hl5 hp4 hp5 hbp hbq hq4 hq5
 go_wp2_with (first
  | (refine wpList_store_row rfl 24 (.tmp 4) (.tmp 17) rfl (w.heap.size + 1) #[.int .i64 0,.int .i64 0,.int .i64 0,.string ⟨#[]⟩,.string ⟨#[]⟩,.int .i64 0,.slice none 0 0,.string ⟨#[]⟩,.int .i64 0] rfl rfl 24 _ HZ4'.out hsz9 rfl zoneA ?_)
  | (refine wpList_store_row rfl 24 (.tmp 5) (.tmp 18) rfl (w.heap.size + 2) #[.int .i64 0,.int .i64 0,.int .i64 0,.string ⟨#[]⟩,.string ⟨#[]⟩,.int .i64 0,.slice none 0 0,.string ⟨#[]⟩,.int .i64 0] rfl rfl 24 _ HQ5.out hsz9 rfl zoneA ?_))
 (try simp only [Exit.inBlock,Exit.then])
 obtain ⟨hl4,hl5,hbp⟩:=HF.out
 refine bodyPost_ret (v:=.tuple #[.agg #[.int .i64 0,.int .i64 0,.int .i64 0,.string ⟨#[]⟩,.string ⟨#[]⟩,.int .i64 0,.slice none 0 0,.string ⟨#[]⟩,.int .i64 0],.agg #[.int .i64 0,.int .i64 0,.int .i64 0,.string ⟨#[]⟩,.string ⟨#[]⟩,.int .i64 0,.slice none 0 0,.string ⟨#[]⟩,.int .i64 0],.bool false,.int .i64 er]) ?_ rfl ⟨rfl,hbp⟩
 have hA:∀ (a:Addr) (w:World),(asAddr (.pointer (some a))).run Tryz.prog w = .ok a w:=fun _ _=>rfl
 rw [results_cc rfl]
 simp [hA,hl4,hl5,Result.andThen]
theorem first39n (h:TbAt w B F s) (hlen:s.tabs.length ≤ 1000) {r:Tm (N + 1)} {ur:Value} {B2:Nat} (hB:B2 ≤ w.heap.size) (hI:ItemsAt w B2 N ur r.items) {i:Nat} (hi:i < s.tabs.length) (hr:refAt s.tabs r = some i) (h0:(s.tabs[i]).rows = []) :
 Calls Tryz.prog 39 #[.pointer (some ⟨s.z,0,none⟩),aggV r.f ur] w fun e w'=>e = .returned (.tuple #[.agg #[.int .i64 0,.int .i64 0,.int .i64 0,.string ⟨#[]⟩,.string ⟨#[]⟩,.int .i64 0,.slice none 0 0,.string ⟨#[]⟩,.int .i64 0],.agg #[.int .i64 0,.int .i64 0,.int .i64 0,.string ⟨#[]⟩,.string ⟨#[]⟩,.int .i64 0,.slice none 0 0,.string ⟨#[]⟩,.int .i64 0],.bool false,.int .i64 0])∧Below w.heap.size w w':=by
 have ht:=h.tabs _ (List.getElem_mem hi)
 have hTR:TabR s.tabs r (some ⟨(s.tabs[i]).b,0,none⟩) 0:=.inr ⟨i,hi,hr,rfl,rfl⟩
 have HTb:=Lib.hid (fun (W:World) (hW:Below w.heap.size w W)=>table49 (h.below hW) hlen (Nat.le_trans hB hW.size) (hI.below hW hB) hTR)
 have HRo:=Lib.hid (fun (W:World) (hW:Below w.heap.size w W)=>row73n (ht.below hW h.fl) (i:=0) (by rw [h0];exact Nat.le_refl _))
 obtain ⟨pr,cr,er1,_,_⟩:=hI.shape
 rw [er1] at HTb ⊢
 generalize (s.tabs[i]).b = tb at *
 generalize s.z = z at *
 clear h ht hTR hlen hB hI hr h0 er1 hi
 generalize r.items.length = nr at *
 generalize r.f = fr at *
 obtain ⟨rk,ri,rg,rn,rf,ra,rb,rs⟩:=fr
 unfold aggV at *
 dsimp only at *
 have hsz9:(Tryz.prog.info? 24).map (·.size) = some 9:=by kernel_rfl
 obtain ⟨hb0,hs1,hz3,hz4,hz5⟩:=three_heap w (.cells #[.int .i64 rk,.int .i64 ri,.int .i64 rg,.string rn,.string rf,.int .i64 ra,.slice pr nr cr,.string rb,.int .i64 rs] 24) (.cells #[.int .i64 0,.int .i64 0,.int .i64 0,.string ⟨#[]⟩,.string ⟨#[]⟩,.int .i64 0,.slice none 0 0,.string ⟨#[]⟩,.int .i64 0] 24) (.cells #[.int .i64 0,.int .i64 0,.int .i64 0,.string ⟨#[]⟩,.string ⟨#[]⟩,.int .i64 0,.slice none 0 0,.string ⟨#[]⟩,.int .i64 0] 24)
 go_enter Tryz.func39,Tryz.ntmps39
 go_upto_region 1 with (fail)
 generalize (((w.alloc (.cells #[.int .i64 rk,.int .i64 ri,.int .i64 rg,.string rn,.string rf,.int .i64 ra,.slice pr nr cr,.string rb,.int .i64 rs] 24)).alloc (.cells #[.int .i64 0,.int .i64 0,.int .i64 0,.string ⟨#[]⟩,.string ⟨#[]⟩,.int .i64 0,.slice none 0 0,.string ⟨#[]⟩,.int .i64 0] 24)).alloc (.cells #[.int .i64 0,.int .i64 0,.int .i64 0,.string ⟨#[]⟩,.string ⟨#[]⟩,.int .i64 0,.slice none 0 0,.string ⟨#[]⟩,.int .i64 0] 24)) = W1 at *
 have HL3:=Lib.hid (row_rng hz3)
 have HZ4:=Lib.hid hz4
 have HZ5:=Lib.hid hz5
 have HB0:=Lib.hid hb0
 clear hz3 hz4 hz5 hb0
 go_wp2_with (first
  | (refine wpList_load_mid rfl 24 (.tmp 3) rfl w.heap.size 0 rfl [.int .i64 rk,.int .i64 ri,.int .i64 rg,.string rn,.string rf,.int .i64 ra,.slice pr nr cr,.string rb,.int .i64 rs] _ HL3.out Tryz.underlying24 rfl hsz9 ?_))
 refine (HTb.out _ HB0.out).mono ?_
 rintro e w2 ⟨rfl,hb2⟩
 have HB2:=Lib.hid (HB0.out.trans (hb2.mono HB0.out.size))
 have HW2:=Lib.hid hb2
 clear hb2 HL3 HTb
 go_wp2_with fail
 refine (HRo.out _ HB2.out).mono ?_
 rintro e w3 ⟨rfl,hb3⟩
 have hbd:=HB2.out.trans (hb3.mono HB2.out.size)
 have hbW:=HW2.out.trans (hb3.mono HW2.out.size)
 have hz4:=(hbW.block (w.heap.size + 1) (by omega)).trans HZ4.out
 have hz5:=(hbW.block (w.heap.size + 2) (by omega)).trans HZ5.out
 clear hb3 hbW HZ4 HZ5 HB0 HB2 HW2 HRo
 have hq4:=setRow_heap w3 (w.heap.size + 1) _ #[.int .i64 0,.int .i64 0,.int .i64 0,.string ⟨#[]⟩,.string ⟨#[]⟩,.int .i64 0,.slice none 0 0,.string ⟨#[]⟩,.int .i64 0] _ _ hz4
 have hq5:=(setRow_other w3 (w.heap.size + 1) (w.heap.size + 2) #[.int .i64 0,.int .i64 0,.int .i64 0,.string ⟨#[]⟩,.string ⟨#[]⟩,.int .i64 0,.slice none 0 0,.string ⟨#[]⟩,.int .i64 0] (by omega)).trans hz5
 have hbq:=hbd.trans ((touch_setRow w3 (w.heap.size + 1) #[.int .i64 0,.int .i64 0,.int .i64 0,.string ⟨#[]⟩,.string ⟨#[]⟩,.int .i64 0,.slice none 0 0,.string ⟨#[]⟩,.int .i64 0]).below (fun q e=>by omega) hbd.size)
 have hp5:=setRow_heap (w3.setRow (w.heap.size + 1) #[.int .i64 0,.int .i64 0,.int .i64 0,.string ⟨#[]⟩,.string ⟨#[]⟩,.int .i64 0,.slice none 0 0,.string ⟨#[]⟩,.int .i64 0]) (w.heap.size + 2) _ #[.int .i64 0,.int .i64 0,.int .i64 0,.string ⟨#[]⟩,.string ⟨#[]⟩,.int .i64 0,.slice none 0 0,.string ⟨#[]⟩,.int .i64 0] _ _ hq5
 have hp4:=(setRow_other (w3.setRow (w.heap.size + 1) #[.int .i64 0,.int .i64 0,.int .i64 0,.string ⟨#[]⟩,.string ⟨#[]⟩,.int .i64 0,.slice none 0 0,.string ⟨#[]⟩,.int .i64 0]) (w.heap.size + 2) (w.heap.size + 1) #[.int .i64 0,.int .i64 0,.int .i64 0,.string ⟨#[]⟩,.string ⟨#[]⟩,.int .i64 0,.slice none 0 0,.string ⟨#[]⟩,.int .i64 0] (by omega)).trans hq4
 have hbp:=hbq.trans ((touch_setRow (w3.setRow (w.heap.size + 1) #[.int .i64 0,.int .i64 0,.int .i64 0,.string ⟨#[]⟩,.string ⟨#[]⟩,.int .i64 0,.slice none 0 0,.string ⟨#[]⟩,.int .i64 0]) (w.heap.size + 2) #[.int .i64 0,.int .i64 0,.int .i64 0,.string ⟨#[]⟩,.string ⟨#[]⟩,.int .i64 0,.slice none 0 0,.string ⟨#[]⟩,.int .i64 0]).below (fun q e=>by omega) hbq.size)
 have hl4:=run_loadVar_mid (P:=Tryz.prog) _ (w.heap.size + 1) 0 24 [.int .i64 0,.int .i64 0,.int .i64 0,.string ⟨#[]⟩,.string ⟨#[]⟩,.int .i64 0,.slice none 0 0,.string ⟨#[]⟩,.int .i64 0] _ (row_rng hp4) Tryz.underlying24 rfl hsz9
 have hl5:=run_loadVar_mid (P:=Tryz.prog) _ (w.heap.size + 2) 0 24 [.int .i64 0,.int .i64 0,.int .i64 0,.string ⟨#[]⟩,.string ⟨#[]⟩,.int .i64 0,.slice none 0 0,.string ⟨#[]⟩,.int .i64 0] _ (row_rng hp5) Tryz.underlying24 rfl hsz9
 have HZ4':=Lib.hid hz4
 have HQ5:=Lib.hid hq5
 have HF:=Lib.hid (And.intro hl4 (And.intro hl5 hbp))
 clear hl4 hl5 hp4 hp5 hbp hbq hq4 hq5
 go_wp2_with (first
  | (refine wpList_store_row rfl 24 (.tmp 4) (.tmp 22) rfl (w.heap.size + 1) #[.int .i64 0,.int .i64 0,.int .i64 0,.string ⟨#[]⟩,.string ⟨#[]⟩,.int .i64 0,.slice none 0 0,.string ⟨#[]⟩,.int .i64 0] rfl rfl 24 _ HZ4'.out hsz9 rfl zoneA ?_)
  | (refine wpList_store_row rfl 24 (.tmp 5) (.tmp 23) rfl (w.heap.size + 2) #[.int .i64 0,.int .i64 0,.int .i64 0,.string ⟨#[]⟩,.string ⟨#[]⟩,.int .i64 0,.slice none 0 0,.string ⟨#[]⟩,.int .i64 0] rfl rfl 24 _ HQ5.out hsz9 rfl zoneA ?_))
 (try simp only [Exit.inBlock,Exit.then])
 obtain ⟨hl4,hl5,hbp⟩:=HF.out
 refine bodyPost_ret (v:=.tuple #[.agg #[.int .i64 0,.int .i64 0,.int .i64 0,.string ⟨#[]⟩,.string ⟨#[]⟩,.int .i64 0,.slice none 0 0,.string ⟨#[]⟩,.int .i64 0],.agg #[.int .i64 0,.int .i64 0,.int .i64 0,.string ⟨#[]⟩,.string ⟨#[]⟩,.int .i64 0,.slice none 0 0,.string ⟨#[]⟩,.int .i64 0],.bool false,.int .i64 0]) ?_ rfl ⟨rfl,hbp⟩
 have hA:∀ (a:Addr) (w:World),(asAddr (.pointer (some a))).run Tryz.prog w = .ok a w:=fun _ _=>rfl
 rw [results_cc rfl]
 simp [hA,hl4,hl5,Result.andThen]
end
theorem four_heap (w:World) (o1 o2 o3 o4:Obj):Below w.heap.size w ((((w.alloc o1).alloc o2).alloc o3).alloc o4)∧((((w.alloc o1).alloc o2).alloc o3).alloc o4).heap.size = w.heap.size + 4∧((((w.alloc o1).alloc o2).alloc o3).alloc o4).heap[w.heap.size]? = some o1∧((((w.alloc o1).alloc o2).alloc o3).alloc o4).heap[w.heap.size + 1]? = some o2∧((((w.alloc o1).alloc o2).alloc o3).alloc o4).heap[w.heap.size + 2]? = some o3∧((((w.alloc o1).alloc o2).alloc o3).alloc o4).heap[w.heap.size + 3]? = some o4:=by
 obtain ⟨h0,hs,h1,h2,h3⟩:=three_heap w o1 o2 o3
 have h4:=alloc_new (((w.alloc o1).alloc o2).alloc o3) o4
 rw [hs] at h4
 have k:∀ g,g < w.heap.size + 3→((((w.alloc o1).alloc o2).alloc o3).alloc o4).heap[g]? = (((w.alloc o1).alloc o2).alloc o3).heap[g]?:=fun g hg=>Below.heap_alloc _ o4 g (by omega)
 exact ⟨belowA h0 o4 h0.size,by rw [World.size_alloc,hs],(k _ (by omega)).trans h1,(k _ (by omega)).trans h2,(k _ (by omega)).trans h3,h4⟩
section
variable {N:Nat} {w w':World} {B:Nat} {F:Nat→Prop} {s:TbSt N}
end
section
variable {N:Nat} {w:World} {B:Nat} {l:List (RowE N)} {g cap:Nat}
end
section
variable {N:Nat} {w:World} {B:Nat} {l:List (RowE N)} {g cap:Nat}
end
section
variable {N:Nat} {w w':World} {B:Nat} {F:Nat→Prop} {s:TbSt N} {t:TabE N} {k:Tm (N + 1)}
end
def NilO (w:World) (q:Option Addr):Prop:=q = none∨∃ z,q = some ⟨z,0,none⟩∧w.heap[z]? = some (.cells #[.bool false,.slice none 0 0] 74)
theorem NilO.below {w w':World} {q:Option Addr} (h:NilO w q) (hb:Below w.heap.size w w'):NilO w' q:=by
 rcases h with h | ⟨z,h,hz⟩
 ·exact .inl h
 ·exact .inr ⟨z,h,(hb.block z (Array.getElem?_eq_some_iff.1 hz).1).trans hz⟩
def ErrP (v:Value) (w:World) (e:Ending) (w':World):Prop:=e = .returned v∧Below w.heap.size w w'
section
variable {w w':World} {q:Option Addr}
theorem table49N (h:NilO w q) (fr:TF) (pr:Option Addr) (nr cr:Nat):Calls Tryz.prog 49 #[.pointer q,aggV fr (.slice pr nr cr)] w (ErrP (.tuple #[.pointer none,.int .i64 1]) w):=by
 obtain ⟨rk,ri,rg,rn,rf,ra,rb,rs⟩:=fr
 unfold aggV ErrP at *
 dsimp only at *
 have hb0:=belowA (Below.refl w.heap.size w) (.cells #[.int .i64 rk,.int .i64 ri,.int .i64 rg,.string rn,.string rf,.int .i64 ra,.slice pr nr cr,.string rb,.int .i64 rs] 24) (Nat.le_refl _)
 have HB0:=Lib.hid hb0
 rcases h with rfl | ⟨z,rfl,hz⟩
 ·clear hb0
  go_enter Tryz.func49,Tryz.ntmps49
  go_upto_region 1 with (fail)
  generalize (w.alloc (.cells #[.int .i64 rk,.int .i64 ri,.int .i64 rg,.string rn,.string rf,.int .i64 ra,.slice pr nr cr,.string rb,.int .i64 rs] 24)) = W1 at *
  go_wp2_with fail
  go_ret2
  exact ⟨rfl,HB0.out⟩
 ·have HO:=Lib.hid (two_cells ((hb0.block z (Array.getElem?_eq_some_iff.1 hz).1).trans hz))
  clear hb0
  go_enter Tryz.func49,Tryz.ntmps49
  go_upto_region 1 with (fail)
  generalize (w.alloc (.cells #[.int .i64 rk,.int .i64 ri,.int .i64 rg,.string rn,.string rf,.int .i64 ra,.slice pr nr cr,.string rb,.int .i64 rs] 24)) = W1 at *
  obtain ⟨o0,o1,of⟩:=HO.out
  go_wp2_with fail
  go_ret2
  exact ⟨rfl,HB0.out⟩
theorem keyed55N (h:NilO w q) (fr:TF) (pr:Option Addr) (nr cr:Nat) (fk:TF) (pk:Option Addr) (nk ck:Nat):Calls Tryz.prog 55 #[.pointer q,aggV fr (.slice pr nr cr),aggV fk (.slice pk nk ck)] w (ErrP (.tuple #[.pointer none,.int .i64 1]) w):=by
 have HT:=Lib.hid (fun W (hW:Below w.heap.size w W)=>table49N (h.below hW) fr pr nr cr)
 obtain ⟨rk,ri,rg,rn,rf,ra,rb,rs⟩:=fr
 obtain ⟨kk,ki,kg,kn,kf,ka,kb,ks⟩:=fk
 unfold aggV ErrP at *
 dsimp only at *
 have hsz9:(Tryz.prog.info? 24).map (·.size) = some 9:=by kernel_rfl
 obtain ⟨hb0,hc1,hc2⟩:=two_boxes w (.cells #[.int .i64 rk,.int .i64 ri,.int .i64 rg,.string rn,.string rf,.int .i64 ra,.slice pr nr cr,.string rb,.int .i64 rs] 24) (.cells #[.int .i64 kk,.int .i64 ki,.int .i64 kg,.string kn,.string kf,.int .i64 ka,.slice pk nk ck,.string kb,.int .i64 ks] 24)
 have HB0:=Lib.hid hb0
 have HZ1:=Lib.hid hc1
 clear hc1 hc2
 rcases h with rfl | ⟨z,rfl,hz⟩
 ·clear hb0
  go_enter Tryz.func55,Tryz.ntmps55
  go_upto_region 1 with (fail)
  generalize ((w.alloc (.cells #[.int .i64 rk,.int .i64 ri,.int .i64 rg,.string rn,.string rf,.int .i64 ra,.slice pr nr cr,.string rb,.int .i64 rs] 24)).alloc (.cells #[.int .i64 kk,.int .i64 ki,.int .i64 kg,.string kn,.string kf,.int .i64 ka,.slice pk nk ck,.string kb,.int .i64 ks] 24)) = W1 at *
  have HL:=Lib.hid (row_rng HZ1.out)
  go_wp2_with (first
   | (refine wpList_load_mid rfl 24 (.tmp 4) rfl w.heap.size 0 rfl [.int .i64 rk,.int .i64 ri,.int .i64 rg,.string rn,.string rf,.int .i64 ra,.slice pr nr cr,.string rb,.int .i64 rs] _ HL.out Tryz.underlying24 rfl hsz9 ?_))
  refine (HT.out _ HB0.out).mono ?_
  rintro e w3 ⟨rfl,hb3⟩
  have HBX:=Lib.hid (HB0.out.trans (hb3.mono HB0.out.size))
  clear hb3
  go_wp2_with fail
  go_ret2
  exact ⟨rfl,HBX.out⟩
 ·have HO:=Lib.hid (two_cells ((hb0.block z (Array.getElem?_eq_some_iff.1 hz).1).trans hz))
  clear hb0
  go_enter Tryz.func55,Tryz.ntmps55
  go_upto_region 1 with (fail)
  generalize ((w.alloc (.cells #[.int .i64 rk,.int .i64 ri,.int .i64 rg,.string rn,.string rf,.int .i64 ra,.slice pr nr cr,.string rb,.int .i64 rs] 24)).alloc (.cells #[.int .i64 kk,.int .i64 ki,.int .i64 kg,.string kn,.string kf,.int .i64 ka,.slice pk nk ck,.string kb,.int .i64 ks] 24)) = W1 at *
  obtain ⟨o0,o1,of⟩:=HO.out
  have HL:=Lib.hid (row_rng HZ1.out)
  go_wp2_with (first
   | (refine wpList_load_mid rfl 24 (.tmp 4) rfl w.heap.size 0 rfl [.int .i64 rk,.int .i64 ri,.int .i64 rg,.string rn,.string rf,.int .i64 ra,.slice pr nr cr,.string rb,.int .i64 rs] _ HL.out Tryz.underlying24 rfl hsz9 ?_))
  refine (HT.out _ HB0.out).mono ?_
  rintro e w3 ⟨rfl,hb3⟩
  have HBX:=Lib.hid (HB0.out.trans (hb3.mono HB0.out.size))
  clear hb3
  go_wp2_with fail
  go_ret2
  exact ⟨rfl,HBX.out⟩
theorem put24N (h:NilO w q) (fr:TF) (pr:Option Addr) (nr cr:Nat) (fk:TF) (pk:Option Addr) (nk ck:Nat) (fv:TF) (pv:Option Addr) (nv cv:Nat):Calls Tryz.prog 24 #[.pointer q,aggV fr (.slice pr nr cr),aggV fk (.slice pk nk ck),aggV fv (.slice pv nv cv)] w (ErrP (.int .i64 1) w):=by
 have HT:=Lib.hid (fun W (hW:Below w.heap.size w W)=>keyed55N (h.below hW) fr pr nr cr fk pk nk ck)
 obtain ⟨rk,ri,rg,rn,rf,ra,rb,rs⟩:=fr
 obtain ⟨kk,ki,kg,kn,kf,ka,kb,ks⟩:=fk
 obtain ⟨vk,vi,vg,vn,vf,va,vb,vs⟩:=fv
 unfold aggV ErrP at *
 dsimp only at *
 have hsz9:(Tryz.prog.info? 24).map (·.size) = some 9:=by kernel_rfl
 obtain ⟨hb0,hs1,hc1,hc2,hc3⟩:=three_heap w (.cells #[.int .i64 rk,.int .i64 ri,.int .i64 rg,.string rn,.string rf,.int .i64 ra,.slice pr nr cr,.string rb,.int .i64 rs] 24) (.cells #[.int .i64 kk,.int .i64 ki,.int .i64 kg,.string kn,.string kf,.int .i64 ka,.slice pk nk ck,.string kb,.int .i64 ks] 24) (.cells #[.int .i64 vk,.int .i64 vi,.int .i64 vg,.string vn,.string vf,.int .i64 va,.slice pv nv cv,.string vb,.int .i64 vs] 24)
 have HB0:=Lib.hid hb0
 have HZ1:=Lib.hid hc1
 have HZ2:=Lib.hid hc2
 clear hc1 hc2 hc3 hs1
 rcases h with rfl | ⟨z,rfl,hz⟩
 ·clear hb0
  go_enter Tryz.func24,Tryz.ntmps24
  go_upto_region 1 with (fail)
  generalize (((w.alloc (.cells #[.int .i64 rk,.int .i64 ri,.int .i64 rg,.string rn,.string rf,.int .i64 ra,.slice pr nr cr,.string rb,.int .i64 rs] 24)).alloc (.cells #[.int .i64 kk,.int .i64 ki,.int .i64 kg,.string kn,.string kf,.int .i64 ka,.slice pk nk ck,.string kb,.int .i64 ks] 24)).alloc (.cells #[.int .i64 vk,.int .i64 vi,.int .i64 vg,.string vn,.string vf,.int .i64 va,.slice pv nv cv,.string vb,.int .i64 vs] 24)) = W1 at *
  have HL5:=Lib.hid (row_rng HZ1.out)
  have HL6:=Lib.hid (row_rng HZ2.out)
  go_wp2_with (first
   | (refine wpList_load_mid rfl 24 (.tmp 5) rfl w.heap.size 0 rfl [.int .i64 rk,.int .i64 ri,.int .i64 rg,.string rn,.string rf,.int .i64 ra,.slice pr nr cr,.string rb,.int .i64 rs] _ HL5.out Tryz.underlying24 rfl hsz9 ?_)
   | (refine wpList_load_mid rfl 24 (.tmp 6) rfl (w.heap.size + 1) 0 rfl [.int .i64 kk,.int .i64 ki,.int .i64 kg,.string kn,.string kf,.int .i64 ka,.slice pk nk ck,.string kb,.int .i64 ks] _ HL6.out Tryz.underlying24 rfl hsz9 ?_))
  refine (HT.out _ HB0.out).mono ?_
  rintro e w3 ⟨rfl,hb3⟩
  have HBX:=Lib.hid (HB0.out.trans (hb3.mono HB0.out.size))
  clear hb3
  go_wp2_with fail
  go_ret
  exact ⟨rfl,HBX.out⟩
 ·have HO:=Lib.hid (two_cells ((hb0.block z (Array.getElem?_eq_some_iff.1 hz).1).trans hz))
  clear hb0
  go_enter Tryz.func24,Tryz.ntmps24
  go_upto_region 1 with (fail)
  generalize (((w.alloc (.cells #[.int .i64 rk,.int .i64 ri,.int .i64 rg,.string rn,.string rf,.int .i64 ra,.slice pr nr cr,.string rb,.int .i64 rs] 24)).alloc (.cells #[.int .i64 kk,.int .i64 ki,.int .i64 kg,.string kn,.string kf,.int .i64 ka,.slice pk nk ck,.string kb,.int .i64 ks] 24)).alloc (.cells #[.int .i64 vk,.int .i64 vi,.int .i64 vg,.string vn,.string vf,.int .i64 va,.slice pv nv cv,.string vb,.int .i64 vs] 24)) = W1 at *
  obtain ⟨o0,o1,of⟩:=HO.out
  have HL5:=Lib.hid (row_rng HZ1.out)
  have HL6:=Lib.hid (row_rng HZ2.out)
  go_wp2_with (first
   | (refine wpList_load_mid rfl 24 (.tmp 5) rfl w.heap.size 0 rfl [.int .i64 rk,.int .i64 ri,.int .i64 rg,.string rn,.string rf,.int .i64 ra,.slice pr nr cr,.string rb,.int .i64 rs] _ HL5.out Tryz.underlying24 rfl hsz9 ?_)
   | (refine wpList_load_mid rfl 24 (.tmp 6) rfl (w.heap.size + 1) 0 rfl [.int .i64 kk,.int .i64 ki,.int .i64 kg,.string kn,.string kf,.int .i64 ka,.slice pk nk ck,.string kb,.int .i64 ks] _ HL6.out Tryz.underlying24 rfl hsz9 ?_))
  refine (HT.out _ HB0.out).mono ?_
  rintro e w3 ⟨rfl,hb3⟩
  have HBX:=Lib.hid (HB0.out.trans (hb3.mono HB0.out.size))
  clear hb3
  go_wp2_with fail
  go_ret
  exact ⟨rfl,HBX.out⟩
theorem make17N (h:NilO w q) (fr:TF) (pr:Option Addr) (nr cr:Nat) (fo:TF) (po_:Option Addr) (no co:Nat) (hs:Bool):Calls Tryz.prog 17 #[.pointer q,aggV fr (.slice pr nr cr),aggV fo (.slice po_ no co),.bool hs] w (ErrP (.int .i64 1) w):=by
 have HT:=Lib.hid (fun W (hW:Below w.heap.size w W)=>table49N (h.below hW) fr pr nr cr)
 obtain ⟨rk,ri,rg,rn,rf,ra,rb,rs⟩:=fr
 obtain ⟨ok,oi,og,on,of,oa,ob,os⟩:=fo
 clear h
 unfold aggV ErrP at *
 dsimp only at *
 have hsz9:(Tryz.prog.info? 24).map (·.size) = some 9:=by kernel_rfl
 obtain ⟨hb0,hc1,hc2⟩:=two_boxes w (.cells #[.int .i64 rk,.int .i64 ri,.int .i64 rg,.string rn,.string rf,.int .i64 ra,.slice pr nr cr,.string rb,.int .i64 rs] 24) (.cells #[.int .i64 ok,.int .i64 oi,.int .i64 og,.string on,.string of,.int .i64 oa,.slice po_ no co,.string ob,.int .i64 os] 24)
 have HB0:=Lib.hid hb0
 have HL:=Lib.hid (row_rng hc1)
 clear hc1 hc2 hb0
 go_enter Tryz.func17,Tryz.ntmps17
 go_upto_region 1 with (fail)
 generalize ((w.alloc (.cells #[.int .i64 rk,.int .i64 ri,.int .i64 rg,.string rn,.string rf,.int .i64 ra,.slice pr nr cr,.string rb,.int .i64 rs] 24)).alloc (.cells #[.int .i64 ok,.int .i64 oi,.int .i64 og,.string on,.string of,.int .i64 oa,.slice po_ no co,.string ob,.int .i64 os] 24)) = W1 at *
 go_wp2_with (first
  | (refine wpList_load_mid rfl 24 (.tmp 5) rfl w.heap.size 0 rfl [.int .i64 rk,.int .i64 ri,.int .i64 rg,.string rn,.string rf,.int .i64 ra,.slice pr nr cr,.string rb,.int .i64 rs] _ HL.out Tryz.underlying24 rfl hsz9 ?_))
 refine (HT.out _ HB0.out).mono ?_
 rintro e w3 ⟨rfl,hb3⟩
 have HBX:=Lib.hid (HB0.out.trans (hb3.mono HB0.out.size))
 clear hb3
 go_wp2_with fail
 go_ret
 exact ⟨rfl,HBX.out⟩
theorem size31N (h:NilO w q) (fr:TF) (pr:Option Addr) (nr cr:Nat):Calls Tryz.prog 31 #[.pointer q,aggV fr (.slice pr nr cr)] w (ErrP (.tuple #[.int .i64 0,.int .i64 1]) w):=by
 have HT:=Lib.hid (fun W (hW:Below w.heap.size w W)=>table49N (h.below hW) fr pr nr cr)
 obtain ⟨rk,ri,rg,rn,rf,ra,rb,rs⟩:=fr
 clear h
 unfold aggV ErrP at *
 dsimp only at *
 have hsz9:(Tryz.prog.info? 24).map (·.size) = some 9:=by kernel_rfl
 have hb0:=belowA (Below.refl w.heap.size w) (.cells #[.int .i64 rk,.int .i64 ri,.int .i64 rg,.string rn,.string rf,.int .i64 ra,.slice pr nr cr,.string rb,.int .i64 rs] 24) (Nat.le_refl _)
 have HL:=Lib.hid (row_rng (alloc_new w (.cells #[.int .i64 rk,.int .i64 ri,.int .i64 rg,.string rn,.string rf,.int .i64 ra,.slice pr nr cr,.string rb,.int .i64 rs] 24)))
 have HB0:=Lib.hid hb0
 clear hb0
 go_enter Tryz.func31,Tryz.ntmps31
 go_upto_region 1 with (fail)
 generalize (w.alloc (.cells #[.int .i64 rk,.int .i64 ri,.int .i64 rg,.string rn,.string rf,.int .i64 ra,.slice pr nr cr,.string rb,.int .i64 rs] 24)) = W1 at *
 go_wp2_with (first
  | (refine wpList_load_mid rfl 24 (.tmp 3) rfl w.heap.size 0 rfl [.int .i64 rk,.int .i64 ri,.int .i64 rg,.string rn,.string rf,.int .i64 ra,.slice pr nr cr,.string rb,.int .i64 rs] _ HL.out Tryz.underlying24 rfl hsz9 ?_))
 refine (HT.out _ HB0.out).mono ?_
 rintro e w3 ⟨rfl,hb3⟩
 have HBX:=Lib.hid (HB0.out.trans (hb3.mono HB0.out.size))
 clear hb3
 go_wp2_with fail
 go_ret2
 exact ⟨rfl,HBX.out⟩
theorem drop41N (h:NilO w q) (fr:TF) (pr:Option Addr) (nr cr:Nat):Calls Tryz.prog 41 #[.pointer q,aggV fr (.slice pr nr cr)] w (ErrP (.int .i64 1) w):=by
 have HT:=Lib.hid (fun W (hW:Below w.heap.size w W)=>table49N (h.below hW) fr pr nr cr)
 obtain ⟨rk,ri,rg,rn,rf,ra,rb,rs⟩:=fr
 clear h
 unfold aggV ErrP at *
 dsimp only at *
 have hsz9:(Tryz.prog.info? 24).map (·.size) = some 9:=by kernel_rfl
 have hb0:=belowA (Below.refl w.heap.size w) (.cells #[.int .i64 rk,.int .i64 ri,.int .i64 rg,.string rn,.string rf,.int .i64 ra,.slice pr nr cr,.string rb,.int .i64 rs] 24) (Nat.le_refl _)
 have HL:=Lib.hid (row_rng (alloc_new w (.cells #[.int .i64 rk,.int .i64 ri,.int .i64 rg,.string rn,.string rf,.int .i64 ra,.slice pr nr cr,.string rb,.int .i64 rs] 24)))
 have HB0:=Lib.hid hb0
 clear hb0
 go_enter Tryz.func41,Tryz.ntmps41
 go_upto_region 1 with (fail)
 generalize (w.alloc (.cells #[.int .i64 rk,.int .i64 ri,.int .i64 rg,.string rn,.string rf,.int .i64 ra,.slice pr nr cr,.string rb,.int .i64 rs] 24)) = W1 at *
 go_wp2_with (first
  | (refine wpList_load_mid rfl 24 (.tmp 3) rfl w.heap.size 0 rfl [.int .i64 rk,.int .i64 ri,.int .i64 rg,.string rn,.string rf,.int .i64 ra,.slice pr nr cr,.string rb,.int .i64 rs] _ HL.out Tryz.underlying24 rfl hsz9 ?_))
 refine (HT.out _ HB0.out).mono ?_
 rintro e w3 ⟨rfl,hb3⟩
 have HBX:=Lib.hid (HB0.out.trans (hb3.mono HB0.out.size))
 clear hb3
 go_wp2_with fail
 go_ret
 exact ⟨rfl,HBX.out.alloc HBX.out.size _⟩
theorem end33N (h:NilO w q) (fr:TF) (pr:Option Addr) (nr cr:Nat):Calls Tryz.prog 33 #[.pointer q,aggV fr (.slice pr nr cr)] w (ErrP (.slice none 0 0) w):=by
 obtain ⟨rk,ri,rg,rn,rf,ra,rb,rs⟩:=fr
 unfold aggV ErrP at *
 dsimp only at *
 have hb0:=belowA (Below.refl w.heap.size w) (.cells #[.int .i64 rk,.int .i64 ri,.int .i64 rg,.string rn,.string rf,.int .i64 ra,.slice pr nr cr,.string rb,.int .i64 rs] 24) (Nat.le_refl _)
 have HB0:=Lib.hid hb0
 rcases h with rfl | ⟨z,rfl,hz⟩
 ·clear hb0
  go_enter Tryz.func33,Tryz.ntmps33
  go_upto_region 1 with (fail)
  generalize (w.alloc (.cells #[.int .i64 rk,.int .i64 ri,.int .i64 rg,.string rn,.string rf,.int .i64 ra,.slice pr nr cr,.string rb,.int .i64 rs] 24)) = W1 at *
  go_wp2_with fail
  go_ret
  exact ⟨rfl,HB0.out⟩
 ·have HO:=Lib.hid (two_cells ((hb0.block z (Array.getElem?_eq_some_iff.1 hz).1).trans hz))
  clear hb0
  go_enter Tryz.func33,Tryz.ntmps33
  go_upto_region 1 with (fail)
  generalize (w.alloc (.cells #[.int .i64 rk,.int .i64 ri,.int .i64 rg,.string rn,.string rf,.int .i64 ra,.slice pr nr cr,.string rb,.int .i64 rs] 24)) = W1 at *
  obtain ⟨o0,o1,of⟩:=HO.out
  go_wp2_with fail
  go_ret
  exact ⟨rfl,HB0.out⟩
theorem get32N (h:NilO w q) (fr:TF) (pr:Option Addr) (nr cr:Nat) (fk:TF) (pk:Option Addr) (nk ck:Nat):Calls Tryz.prog 32 #[.pointer q,aggV fr (.slice pr nr cr),aggV fk (.slice pk nk ck)] w (ErrP (.tuple #[.agg #[.int .i64 0,.int .i64 0,.int .i64 0,.string ⟨#[]⟩,.string ⟨#[]⟩,.int .i64 0,.slice none 0 0,.string ⟨#[]⟩,.int .i64 0],.bool false,.int .i64 1]) w):=by
 have HKy:=Lib.hid (fun W (hW:Below w.heap.size w W)=>keyed55N (h.below hW) fr pr nr cr fk pk nk ck)
 have he:(1:Int) ≠ 0:=by decide
 clear h
 unfold ErrP at *
 obtain ⟨rk,ri,rg,rn,rf,ra,rb,rs⟩:=fr
 obtain ⟨kk,ki,kg,kn,kf,ka,kb,ks⟩:=fk
 unfold aggV at *
 dsimp only at *
 have hsz9:(Tryz.prog.info? 24).map (·.size) = some 9:=by kernel_rfl
 obtain ⟨hb0,hs1,hz4,hz5,hz6⟩:=three_heap w (.cells #[.int .i64 rk,.int .i64 ri,.int .i64 rg,.string rn,.string rf,.int .i64 ra,.slice pr nr cr,.string rb,.int .i64 rs] 24) (.cells #[.int .i64 kk,.int .i64 ki,.int .i64 kg,.string kn,.string kf,.int .i64 ka,.slice pk nk ck,.string kb,.int .i64 ks] 24) (.cells #[.int .i64 0,.int .i64 0,.int .i64 0,.string ⟨#[]⟩,.string ⟨#[]⟩,.int .i64 0,.slice none 0 0,.string ⟨#[]⟩,.int .i64 0] 24)
 go_enter Tryz.func32,Tryz.ntmps32
 go_upto_region 1 with (fail)
 generalize (((w.alloc (.cells #[.int .i64 rk,.int .i64 ri,.int .i64 rg,.string rn,.string rf,.int .i64 ra,.slice pr nr cr,.string rb,.int .i64 rs] 24)).alloc (.cells #[.int .i64 kk,.int .i64 ki,.int .i64 kg,.string kn,.string kf,.int .i64 ka,.slice pk nk ck,.string kb,.int .i64 ks] 24)).alloc (.cells #[.int .i64 0,.int .i64 0,.int .i64 0,.string ⟨#[]⟩,.string ⟨#[]⟩,.int .i64 0,.slice none 0 0,.string ⟨#[]⟩,.int .i64 0] 24)) = W1 at *
 have HL4:=Lib.hid (row_rng hz4)
 have HL5:=Lib.hid (row_rng hz5)
 have HZ5:=Lib.hid hz5
 have HZ6:=Lib.hid hz6
 have HB0:=Lib.hid hb0
 clear hz4 hz5 hz6 hb0
 go_wp2_with (first
  | (refine wpList_load_mid rfl 24 (.tmp 4) rfl w.heap.size 0 rfl [.int .i64 rk,.int .i64 ri,.int .i64 rg,.string rn,.string rf,.int .i64 ra,.slice pr nr cr,.string rb,.int .i64 rs] _ HL4.out Tryz.underlying24 rfl hsz9 ?_)
  | (refine wpList_load_mid rfl 24 (.tmp 5) rfl (w.heap.size + 1) 0 rfl [.int .i64 kk,.int .i64 ki,.int .i64 kg,.string kn,.string kf,.int .i64 ka,.slice pk nk ck,.string kb,.int .i64 ks] _ HL5.out Tryz.underlying24 rfl hsz9 ?_))
 refine (HKy.out _ HB0.out).mono ?_
 rintro e w2 ⟨rfl,hb2⟩
 have HB2:=Lib.hid (HB0.out.trans (hb2.mono HB0.out.size))
 have HW2:=Lib.hid hb2
 clear HL4 HL5 hb2 HKy HB0
 have hz6:=(HW2.out.block (w.heap.size + 2) (by omega)).trans HZ6.out
 have hq6:=setRow_heap w2 (w.heap.size + 2) _ #[.int .i64 0,.int .i64 0,.int .i64 0,.string ⟨#[]⟩,.string ⟨#[]⟩,.int .i64 0,.slice none 0 0,.string ⟨#[]⟩,.int .i64 0] _ _ hz6
 have hbq:=HB2.out.trans ((touch_setRow w2 (w.heap.size + 2) #[.int .i64 0,.int .i64 0,.int .i64 0,.string ⟨#[]⟩,.string ⟨#[]⟩,.int .i64 0,.slice none 0 0,.string ⟨#[]⟩,.int .i64 0]).below (fun q e=>by omega) HB2.out.size)
 have HZ:=Lib.hid hz6
 have HF:=Lib.hid (And.intro (run_loadVar_mid (P:=Tryz.prog) _ (w.heap.size + 2) 0 24 [.int .i64 0,.int .i64 0,.int .i64 0,.string ⟨#[]⟩,.string ⟨#[]⟩,.int .i64 0,.slice none 0 0,.string ⟨#[]⟩,.int .i64 0] _ (row_rng hq6) Tryz.underlying24 rfl hsz9) hbq)
 clear hz6 hq6 hbq
 go_wp2_with (first
  | (refine wpList_store_row rfl 24 (.tmp 6) (.tmp 22) rfl (w.heap.size + 2) #[.int .i64 0,.int .i64 0,.int .i64 0,.string ⟨#[]⟩,.string ⟨#[]⟩,.int .i64 0,.slice none 0 0,.string ⟨#[]⟩,.int .i64 0] rfl rfl 24 _ HZ.out hsz9 rfl zoneA ?_))
 (try simp only [Exit.inBlock,Exit.then])
 obtain ⟨hl6,hbp⟩:=HF.out
 refine bodyPost_ret (v:=.tuple #[.agg #[.int .i64 0,.int .i64 0,.int .i64 0,.string ⟨#[]⟩,.string ⟨#[]⟩,.int .i64 0,.slice none 0 0,.string ⟨#[]⟩,.int .i64 0],.bool false,.int .i64 1]) ?_ rfl ⟨rfl,hbp⟩
 have hA:∀ (a:Addr) (w:World),(asAddr (.pointer (some a))).run Tryz.prog w = .ok a w:=fun _ _=>rfl
 rw [results_c2 rfl]
 simp [hA,hl6,Result.andThen]
theorem own37N (h:NilO w q) (fr:TF) (pr:Option Addr) (nr cr:Nat):Calls Tryz.prog 37 #[.pointer q,aggV fr (.slice pr nr cr)] w (ErrP (.tuple #[.agg #[.int .i64 0,.int .i64 0,.int .i64 0,.string ⟨#[]⟩,.string ⟨#[]⟩,.int .i64 0,.slice none 0 0,.string ⟨#[]⟩,.int .i64 0],.int .i64 1]) w):=by
 have HKy:=Lib.hid (fun W (hW:Below w.heap.size w W)=>table49N (h.below hW) fr pr nr cr)
 have he:(1:Int) ≠ 0:=by decide
 clear h
 unfold ErrP at *
 obtain ⟨rk,ri,rg,rn,rf,ra,rb,rs⟩:=fr
 unfold aggV at *
 dsimp only at *
 have hsz9:(Tryz.prog.info? 24).map (·.size) = some 9:=by kernel_rfl
 obtain ⟨hb0,hz3,hz4⟩:=two_boxes w (.cells #[.int .i64 rk,.int .i64 ri,.int .i64 rg,.string rn,.string rf,.int .i64 ra,.slice pr nr cr,.string rb,.int .i64 rs] 24) (.cells #[.int .i64 0,.int .i64 0,.int .i64 0,.string ⟨#[]⟩,.string ⟨#[]⟩,.int .i64 0,.slice none 0 0,.string ⟨#[]⟩,.int .i64 0] 24)
 have hs1:((w.alloc (.cells #[.int .i64 rk,.int .i64 ri,.int .i64 rg,.string rn,.string rf,.int .i64 ra,.slice pr nr cr,.string rb,.int .i64 rs] 24)).alloc (.cells #[.int .i64 0,.int .i64 0,.int .i64 0,.string ⟨#[]⟩,.string ⟨#[]⟩,.int .i64 0,.slice none 0 0,.string ⟨#[]⟩,.int .i64 0] 24)).heap.size = w.heap.size + 2:=by rw [World.size_alloc,World.size_alloc]
 go_enter Tryz.func37,Tryz.ntmps37
 go_upto_region 1 with (fail)
 generalize ((w.alloc (.cells #[.int .i64 rk,.int .i64 ri,.int .i64 rg,.string rn,.string rf,.int .i64 ra,.slice pr nr cr,.string rb,.int .i64 rs] 24)).alloc (.cells #[.int .i64 0,.int .i64 0,.int .i64 0,.string ⟨#[]⟩,.string ⟨#[]⟩,.int .i64 0,.slice none 0 0,.string ⟨#[]⟩,.int .i64 0] 24)) = W1 at *
 have HL3:=Lib.hid (row_rng hz3)
 have HZ4:=Lib.hid hz4
 have HB0:=Lib.hid hb0
 clear hz3 hz4 hb0
 go_wp2_with (first
  | (refine wpList_load_mid rfl 24 (.tmp 3) rfl w.heap.size 0 rfl [.int .i64 rk,.int .i64 ri,.int .i64 rg,.string rn,.string rf,.int .i64 ra,.slice pr nr cr,.string rb,.int .i64 rs] _ HL3.out Tryz.underlying24 rfl hsz9 ?_))
 refine (HKy.out _ HB0.out).mono ?_
 rintro e w2 ⟨rfl,hb2⟩
 have HB2:=Lib.hid (HB0.out.trans (hb2.mono HB0.out.size))
 have HW2:=Lib.hid hb2
 clear HL3 hb2 HKy HB0
 have hz6:=(HW2.out.block (w.heap.size + 1) (by omega)).trans HZ4.out
 have hq6:=setRow_heap w2 (w.heap.size + 1) _ #[.int .i64 0,.int .i64 0,.int .i64 0,.string ⟨#[]⟩,.string ⟨#[]⟩,.int .i64 0,.slice none 0 0,.string ⟨#[]⟩,.int .i64 0] _ _ hz6
 have hbq:=HB2.out.trans ((touch_setRow w2 (w.heap.size + 1) #[.int .i64 0,.int .i64 0,.int .i64 0,.string ⟨#[]⟩,.string ⟨#[]⟩,.int .i64 0,.slice none 0 0,.string ⟨#[]⟩,.int .i64 0]).below (fun q e=>by omega) HB2.out.size)
 have HZ:=Lib.hid hz6
 have HF:=Lib.hid (And.intro (run_loadVar_mid (P:=Tryz.prog) _ (w.heap.size + 1) 0 24 [.int .i64 0,.int .i64 0,.int .i64 0,.string ⟨#[]⟩,.string ⟨#[]⟩,.int .i64 0,.slice none 0 0,.string ⟨#[]⟩,.int .i64 0] _ (row_rng hq6) Tryz.underlying24 rfl hsz9) hbq)
 clear hz6 hq6 hbq
 go_wp2_with (first
  | (refine wpList_store_row rfl 24 (.tmp 4) (.tmp 16) rfl (w.heap.size + 1) #[.int .i64 0,.int .i64 0,.int .i64 0,.string ⟨#[]⟩,.string ⟨#[]⟩,.int .i64 0,.slice none 0 0,.string ⟨#[]⟩,.int .i64 0] rfl rfl 24 _ HZ.out hsz9 rfl zoneA ?_))
 (try simp only [Exit.inBlock,Exit.then])
 obtain ⟨hl6,hbp⟩:=HF.out
 refine bodyPost_ret (v:=.tuple #[.agg #[.int .i64 0,.int .i64 0,.int .i64 0,.string ⟨#[]⟩,.string ⟨#[]⟩,.int .i64 0,.slice none 0 0,.string ⟨#[]⟩,.int .i64 0],.int .i64 1]) ?_ rfl ⟨rfl,hbp⟩
 have hA:∀ (a:Addr) (w:World),(asAddr (.pointer (some a))).run Tryz.prog w = .ok a w:=fun _ _=>rfl
 rw [results_c1 rfl]
 simp [hA,hl6,Result.andThen]
theorem first39N (h:NilO w q) (fr:TF) (pr:Option Addr) (nr cr:Nat):Calls Tryz.prog 39 #[.pointer q,aggV fr (.slice pr nr cr)] w (ErrP (.tuple #[.agg #[.int .i64 0,.int .i64 0,.int .i64 0,.string ⟨#[]⟩,.string ⟨#[]⟩,.int .i64 0,.slice none 0 0,.string ⟨#[]⟩,.int .i64 0],.agg #[.int .i64 0,.int .i64 0,.int .i64 0,.string ⟨#[]⟩,.string ⟨#[]⟩,.int .i64 0,.slice none 0 0,.string ⟨#[]⟩,.int .i64 0],.bool false,.int .i64 1]) w):=by
 have HTb:=Lib.hid (fun W (hW:Below w.heap.size w W)=>table49N (h.below hW) fr pr nr cr)
 have he:(1:Int) ≠ 0:=by decide
 clear h
 unfold ErrP at *
 obtain ⟨rk,ri,rg,rn,rf,ra,rb,rs⟩:=fr
 unfold aggV at *
 dsimp only at *
 have hsz9:(Tryz.prog.info? 24).map (·.size) = some 9:=by kernel_rfl
 obtain ⟨hb0,hs1,hz3,hz4,hz5⟩:=three_heap w (.cells #[.int .i64 rk,.int .i64 ri,.int .i64 rg,.string rn,.string rf,.int .i64 ra,.slice pr nr cr,.string rb,.int .i64 rs] 24) (.cells #[.int .i64 0,.int .i64 0,.int .i64 0,.string ⟨#[]⟩,.string ⟨#[]⟩,.int .i64 0,.slice none 0 0,.string ⟨#[]⟩,.int .i64 0] 24) (.cells #[.int .i64 0,.int .i64 0,.int .i64 0,.string ⟨#[]⟩,.string ⟨#[]⟩,.int .i64 0,.slice none 0 0,.string ⟨#[]⟩,.int .i64 0] 24)
 go_enter Tryz.func39,Tryz.ntmps39
 go_upto_region 1 with (fail)
 generalize (((w.alloc (.cells #[.int .i64 rk,.int .i64 ri,.int .i64 rg,.string rn,.string rf,.int .i64 ra,.slice pr nr cr,.string rb,.int .i64 rs] 24)).alloc (.cells #[.int .i64 0,.int .i64 0,.int .i64 0,.string ⟨#[]⟩,.string ⟨#[]⟩,.int .i64 0,.slice none 0 0,.string ⟨#[]⟩,.int .i64 0] 24)).alloc (.cells #[.int .i64 0,.int .i64 0,.int .i64 0,.string ⟨#[]⟩,.string ⟨#[]⟩,.int .i64 0,.slice none 0 0,.string ⟨#[]⟩,.int .i64 0] 24)) = W1 at *
 have HL3:=Lib.hid (row_rng hz3)
 have HZ4:=Lib.hid hz4
 have HZ5:=Lib.hid hz5
 have HB0:=Lib.hid hb0
 clear hz3 hz4 hz5 hb0
 go_wp2_with (first
  | (refine wpList_load_mid rfl 24 (.tmp 3) rfl w.heap.size 0 rfl [.int .i64 rk,.int .i64 ri,.int .i64 rg,.string rn,.string rf,.int .i64 ra,.slice pr nr cr,.string rb,.int .i64 rs] _ HL3.out Tryz.underlying24 rfl hsz9 ?_))
 refine (HTb.out _ HB0.out).mono ?_
 rintro e w2 ⟨rfl,hb2⟩
 have hbd:=HB0.out.trans (hb2.mono HB0.out.size)
 have hz4:=(hb2.block (w.heap.size + 1) (by omega)).trans HZ4.out
 have hz5:=(hb2.block (w.heap.size + 2) (by omega)).trans HZ5.out
 clear hb2 HL3 HTb HZ4 HZ5 HB0
 have hq4:=setRow_heap w2 (w.heap.size + 1) _ #[.int .i64 0,.int .i64 0,.int .i64 0,.string ⟨#[]⟩,.string ⟨#[]⟩,.int .i64 0,.slice none 0 0,.string ⟨#[]⟩,.int .i64 0] _ _ hz4
 have hq5:=(setRow_other w2 (w.heap.size + 1) (w.heap.size + 2) #[.int .i64 0,.int .i64 0,.int .i64 0,.string ⟨#[]⟩,.string ⟨#[]⟩,.int .i64 0,.slice none 0 0,.string ⟨#[]⟩,.int .i64 0] (by omega)).trans hz5
 have hbq:=hbd.trans ((touch_setRow w2 (w.heap.size + 1) #[.int .i64 0,.int .i64 0,.int .i64 0,.string ⟨#[]⟩,.string ⟨#[]⟩,.int .i64 0,.slice none 0 0,.string ⟨#[]⟩,.int .i64 0]).below (fun q e=>by omega) hbd.size)
 have hp5:=setRow_heap (w2.setRow (w.heap.size + 1) #[.int .i64 0,.int .i64 0,.int .i64 0,.string ⟨#[]⟩,.string ⟨#[]⟩,.int .i64 0,.slice none 0 0,.string ⟨#[]⟩,.int .i64 0]) (w.heap.size + 2) _ #[.int .i64 0,.int .i64 0,.int .i64 0,.string ⟨#[]⟩,.string ⟨#[]⟩,.int .i64 0,.slice none 0 0,.string ⟨#[]⟩,.int .i64 0] _ _ hq5
 have hp4:=(setRow_other (w2.setRow (w.heap.size + 1) #[.int .i64 0,.int .i64 0,.int .i64 0,.string ⟨#[]⟩,.string ⟨#[]⟩,.int .i64 0,.slice none 0 0,.string ⟨#[]⟩,.int .i64 0]) (w.heap.size + 2) (w.heap.size + 1) #[.int .i64 0,.int .i64 0,.int .i64 0,.string ⟨#[]⟩,.string ⟨#[]⟩,.int .i64 0,.slice none 0 0,.string ⟨#[]⟩,.int .i64 0] (by omega)).trans hq4
 have hbp:=hbq.trans ((touch_setRow (w2.setRow (w.heap.size + 1) #[.int .i64 0,.int .i64 0,.int .i64 0,.string ⟨#[]⟩,.string ⟨#[]⟩,.int .i64 0,.slice none 0 0,.string ⟨#[]⟩,.int .i64 0]) (w.heap.size + 2) #[.int .i64 0,.int .i64 0,.int .i64 0,.string ⟨#[]⟩,.string ⟨#[]⟩,.int .i64 0,.slice none 0 0,.string ⟨#[]⟩,.int .i64 0]).below (fun q e=>by omega) hbq.size)
 have hl4:=run_loadVar_mid (P:=Tryz.prog) _ (w.heap.size + 1) 0 24 [.int .i64 0,.int .i64 0,.int .i64 0,.string ⟨#[]⟩,.string ⟨#[]⟩,.int .i64 0,.slice none 0 0,.string ⟨#[]⟩,.int .i64 0] _ (row_rng hp4) Tryz.underlying24 rfl hsz9
 have hl5:=run_loadVar_mid (P:=Tryz.prog) _ (w.heap.size + 2) 0 24 [.int .i64 0,.int .i64 0,.int .i64 0,.string ⟨#[]⟩,.string ⟨#[]⟩,.int .i64 0,.slice none 0 0,.string ⟨#[]⟩,.int .i64 0] _ (row_rng hp5) Tryz.underlying24 rfl hsz9
 have HZ4':=Lib.hid hz4
 have HQ5:=Lib.hid hq5
 have HF:=Lib.hid (And.intro hl4 (And.intro hl5 hbp))
 clear hl4 hl5 hp4 hp5 hbp hbq hq4 hq5
 go_wp2_with (first
  | (refine wpList_store_row rfl 24 (.tmp 4) (.tmp 17) rfl (w.heap.size + 1) #[.int .i64 0,.int .i64 0,.int .i64 0,.string ⟨#[]⟩,.string ⟨#[]⟩,.int .i64 0,.slice none 0 0,.string ⟨#[]⟩,.int .i64 0] rfl rfl 24 _ HZ4'.out hsz9 rfl zoneA ?_)
  | (refine wpList_store_row rfl 24 (.tmp 5) (.tmp 18) rfl (w.heap.size + 2) #[.int .i64 0,.int .i64 0,.int .i64 0,.string ⟨#[]⟩,.string ⟨#[]⟩,.int .i64 0,.slice none 0 0,.string ⟨#[]⟩,.int .i64 0] rfl rfl 24 _ HQ5.out hsz9 rfl zoneA ?_))
 (try simp only [Exit.inBlock,Exit.then])
 obtain ⟨hl4,hl5,hbp⟩:=HF.out
 refine bodyPost_ret (v:=.tuple #[.agg #[.int .i64 0,.int .i64 0,.int .i64 0,.string ⟨#[]⟩,.string ⟨#[]⟩,.int .i64 0,.slice none 0 0,.string ⟨#[]⟩,.int .i64 0],.agg #[.int .i64 0,.int .i64 0,.int .i64 0,.string ⟨#[]⟩,.string ⟨#[]⟩,.int .i64 0,.slice none 0 0,.string ⟨#[]⟩,.int .i64 0],.bool false,.int .i64 1]) ?_ rfl ⟨rfl,hbp⟩
 have hA:∀ (a:Addr) (w:World),(asAddr (.pointer (some a))).run Tryz.prog w = .ok a w:=fun _ _=>rfl
 rw [results_cc rfl]
 simp [hA,hl4,hl5,Result.andThen]
theorem next40N (h:NilO w q) (fr:TF) (pr:Option Addr) (nr cr:Nat) (fk:TF) (pk:Option Addr) (nk ck:Nat):Calls Tryz.prog 40 #[.pointer q,aggV fr (.slice pr nr cr),aggV fk (.slice pk nk ck)] w (ErrP (.tuple #[.agg #[.int .i64 0,.int .i64 0,.int .i64 0,.string ⟨#[]⟩,.string ⟨#[]⟩,.int .i64 0,.slice none 0 0,.string ⟨#[]⟩,.int .i64 0],.agg #[.int .i64 0,.int .i64 0,.int .i64 0,.string ⟨#[]⟩,.string ⟨#[]⟩,.int .i64 0,.slice none 0 0,.string ⟨#[]⟩,.int .i64 0],.bool false,.int .i64 1]) w):=by
 have HKy:=Lib.hid (fun W (hW:Below w.heap.size w W)=>keyed55N (h.below hW) fr pr nr cr fk pk nk ck)
 have he:(1:Int) ≠ 0:=by decide
 clear h
 unfold ErrP at *
 obtain ⟨rk,ri,rg,rn,rf,ra,rb,rs⟩:=fr
 obtain ⟨kk,ki,kg,kn,kf,ka,kb,ks⟩:=fk
 unfold aggV at *
 dsimp only at *
 have hsz9:(Tryz.prog.info? 24).map (·.size) = some 9:=by kernel_rfl
 obtain ⟨hb0,hs1,hz4,hz5,hz6,hz7⟩:=four_heap w (.cells #[.int .i64 rk,.int .i64 ri,.int .i64 rg,.string rn,.string rf,.int .i64 ra,.slice pr nr cr,.string rb,.int .i64 rs] 24) (.cells #[.int .i64 kk,.int .i64 ki,.int .i64 kg,.string kn,.string kf,.int .i64 ka,.slice pk nk ck,.string kb,.int .i64 ks] 24) (.cells #[.int .i64 0,.int .i64 0,.int .i64 0,.string ⟨#[]⟩,.string ⟨#[]⟩,.int .i64 0,.slice none 0 0,.string ⟨#[]⟩,.int .i64 0] 24) (.cells #[.int .i64 0,.int .i64 0,.int .i64 0,.string ⟨#[]⟩,.string ⟨#[]⟩,.int .i64 0,.slice none 0 0,.string ⟨#[]⟩,.int .i64 0] 24)
 go_enter Tryz.func40,Tryz.ntmps40
 go_upto_region 1 with (fail)
 generalize ((((w.alloc (.cells #[.int .i64 rk,.int .i64 ri,.int .i64 rg,.string rn,.string rf,.int .i64 ra,.slice pr nr cr,.string rb,.int .i64 rs] 24)).alloc (.cells #[.int .i64 kk,.int .i64 ki,.int .i64 kg,.string kn,.string kf,.int .i64 ka,.slice pk nk ck,.string kb,.int .i64 ks] 24)).alloc (.cells #[.int .i64 0,.int .i64 0,.int .i64 0,.string ⟨#[]⟩,.string ⟨#[]⟩,.int .i64 0,.slice none 0 0,.string ⟨#[]⟩,.int .i64 0] 24)).alloc (.cells #[.int .i64 0,.int .i64 0,.int .i64 0,.string ⟨#[]⟩,.string ⟨#[]⟩,.int .i64 0,.slice none 0 0,.string ⟨#[]⟩,.int .i64 0] 24)) = W1 at *
 have HL4:=Lib.hid (row_rng hz4)
 have HL5:=Lib.hid (row_rng hz5)
 have HZ5:=Lib.hid hz5
 have HZ6:=Lib.hid hz6
 have HZ7:=Lib.hid hz7
 have HB0:=Lib.hid hb0
 clear hz4 hz5 hz6 hz7 hb0
 go_wp2_with (first
  | (refine wpList_load_mid rfl 24 (.tmp 4) rfl w.heap.size 0 rfl [.int .i64 rk,.int .i64 ri,.int .i64 rg,.string rn,.string rf,.int .i64 ra,.slice pr nr cr,.string rb,.int .i64 rs] _ HL4.out Tryz.underlying24 rfl hsz9 ?_)
  | (refine wpList_load_mid rfl 24 (.tmp 5) rfl (w.heap.size + 1) 0 rfl [.int .i64 kk,.int .i64 ki,.int .i64 kg,.string kn,.string kf,.int .i64 ka,.slice pk nk ck,.string kb,.int .i64 ks] _ HL5.out Tryz.underlying24 rfl hsz9 ?_))
 refine (HKy.out _ HB0.out).mono ?_
 rintro e w2 ⟨rfl,hb2⟩
 have HB2:=Lib.hid (HB0.out.trans (hb2.mono HB0.out.size))
 have HW2:=Lib.hid hb2
 clear HL4 HL5 hb2 HKy HB0
 have hz6:=(HW2.out.block (w.heap.size + 2) (by omega)).trans HZ6.out
 have hz7:=(HW2.out.block (w.heap.size + 3) (by omega)).trans HZ7.out
 have hbd:=HB2.out
 have hq4:=setRow_heap w2 (w.heap.size + 2) _ #[.int .i64 0,.int .i64 0,.int .i64 0,.string ⟨#[]⟩,.string ⟨#[]⟩,.int .i64 0,.slice none 0 0,.string ⟨#[]⟩,.int .i64 0] _ _ hz6
 have hq5:=(setRow_other w2 (w.heap.size + 2) (w.heap.size + 3) #[.int .i64 0,.int .i64 0,.int .i64 0,.string ⟨#[]⟩,.string ⟨#[]⟩,.int .i64 0,.slice none 0 0,.string ⟨#[]⟩,.int .i64 0] (by omega)).trans hz7
 have hbq:=hbd.trans ((touch_setRow w2 (w.heap.size + 2) #[.int .i64 0,.int .i64 0,.int .i64 0,.string ⟨#[]⟩,.string ⟨#[]⟩,.int .i64 0,.slice none 0 0,.string ⟨#[]⟩,.int .i64 0]).below (fun q e=>by omega) hbd.size)
 have hp5:=setRow_heap (w2.setRow (w.heap.size + 2) #[.int .i64 0,.int .i64 0,.int .i64 0,.string ⟨#[]⟩,.string ⟨#[]⟩,.int .i64 0,.slice none 0 0,.string ⟨#[]⟩,.int .i64 0]) (w.heap.size + 3) _ #[.int .i64 0,.int .i64 0,.int .i64 0,.string ⟨#[]⟩,.string ⟨#[]⟩,.int .i64 0,.slice none 0 0,.string ⟨#[]⟩,.int .i64 0] _ _ hq5
 have hp4:=(setRow_other (w2.setRow (w.heap.size + 2) #[.int .i64 0,.int .i64 0,.int .i64 0,.string ⟨#[]⟩,.string ⟨#[]⟩,.int .i64 0,.slice none 0 0,.string ⟨#[]⟩,.int .i64 0]) (w.heap.size + 3) (w.heap.size + 2) #[.int .i64 0,.int .i64 0,.int .i64 0,.string ⟨#[]⟩,.string ⟨#[]⟩,.int .i64 0,.slice none 0 0,.string ⟨#[]⟩,.int .i64 0] (by omega)).trans hq4
 have hbp:=hbq.trans ((touch_setRow (w2.setRow (w.heap.size + 2) #[.int .i64 0,.int .i64 0,.int .i64 0,.string ⟨#[]⟩,.string ⟨#[]⟩,.int .i64 0,.slice none 0 0,.string ⟨#[]⟩,.int .i64 0]) (w.heap.size + 3) #[.int .i64 0,.int .i64 0,.int .i64 0,.string ⟨#[]⟩,.string ⟨#[]⟩,.int .i64 0,.slice none 0 0,.string ⟨#[]⟩,.int .i64 0]).below (fun q e=>by omega) hbq.size)
 have hl4:=run_loadVar_mid (P:=Tryz.prog) _ (w.heap.size + 2) 0 24 [.int .i64 0,.int .i64 0,.int .i64 0,.string ⟨#[]⟩,.string ⟨#[]⟩,.int .i64 0,.slice none 0 0,.string ⟨#[]⟩,.int .i64 0] _ (row_rng hp4) Tryz.underlying24 rfl hsz9
 have hl5:=run_loadVar_mid (P:=Tryz.prog) _ (w.heap.size + 3) 0 24 [.int .i64 0,.int .i64 0,.int .i64 0,.string ⟨#[]⟩,.string ⟨#[]⟩,.int .i64 0,.slice none 0 0,.string ⟨#[]⟩,.int .i64 0] _ (row_rng hp5) Tryz.underlying24 rfl hsz9
 have HZ4':=Lib.hid hz6
 have HQ5:=Lib.hid hq5
 have HF:=Lib.hid (And.intro hl4 (And.intro hl5 hbp))
 clear hl4 hl5 hp4 hp5 hbp hbq hq4 hq5
 go_wp2_with (first
  | (refine wpList_store_row rfl 24 (.tmp 6) (.tmp 22) rfl (w.heap.size + 2) #[.int .i64 0,.int .i64 0,.int .i64 0,.string ⟨#[]⟩,.string ⟨#[]⟩,.int .i64 0,.slice none 0 0,.string ⟨#[]⟩,.int .i64 0] rfl rfl 24 _ HZ4'.out hsz9 rfl zoneA ?_)
  | (refine wpList_store_row rfl 24 (.tmp 7) (.tmp 23) rfl (w.heap.size + 3) #[.int .i64 0,.int .i64 0,.int .i64 0,.string ⟨#[]⟩,.string ⟨#[]⟩,.int .i64 0,.slice none 0 0,.string ⟨#[]⟩,.int .i64 0] rfl rfl 24 _ HQ5.out hsz9 rfl zoneA ?_))
 (try simp only [Exit.inBlock,Exit.then])
 obtain ⟨hl4,hl5,hbp⟩:=HF.out
 refine bodyPost_ret (v:=.tuple #[.agg #[.int .i64 0,.int .i64 0,.int .i64 0,.string ⟨#[]⟩,.string ⟨#[]⟩,.int .i64 0,.slice none 0 0,.string ⟨#[]⟩,.int .i64 0],.agg #[.int .i64 0,.int .i64 0,.int .i64 0,.string ⟨#[]⟩,.string ⟨#[]⟩,.int .i64 0,.slice none 0 0,.string ⟨#[]⟩,.int .i64 0],.bool false,.int .i64 1]) ?_ rfl ⟨rfl,hbp⟩
 have hA:∀ (a:Addr) (w:World),(asAddr (.pointer (some a))).run Tryz.prog w = .ok a w:=fun _ _=>rfl
 rw [results_cc rfl]
 simp [hA,hl4,hl5,Result.andThen]
theorem del22N (h:NilO w q) (fr:TF) (pr:Option Addr) (nr cr:Nat) (fk:TF) (pk:Option Addr) (nk ck:Nat):Calls Tryz.prog 22 #[.pointer q,aggV fr (.slice pr nr cr),aggV fk (.slice pk nk ck)] w (ErrP (.tuple #[.bool false,.int .i64 1]) w):=by
 have HKy:=Lib.hid (fun W (hW:Below w.heap.size w W)=>keyed55N (h.below hW) fr pr nr cr fk pk nk ck)
 have he:(1:Int) ≠ 0:=by decide
 clear h
 unfold ErrP at *
 obtain ⟨rk,ri,rg,rn,rf,ra,rb,rs⟩:=fr
 obtain ⟨kk,ki,kg,kn,kf,ka,kb,ks⟩:=fk
 unfold aggV at *
 dsimp only at *
 have hsz9:(Tryz.prog.info? 24).map (·.size) = some 9:=by kernel_rfl
 obtain ⟨hb0,hz4,hz5⟩:=two_boxes w (.cells #[.int .i64 rk,.int .i64 ri,.int .i64 rg,.string rn,.string rf,.int .i64 ra,.slice pr nr cr,.string rb,.int .i64 rs] 24) (.cells #[.int .i64 kk,.int .i64 ki,.int .i64 kg,.string kn,.string kf,.int .i64 ka,.slice pk nk ck,.string kb,.int .i64 ks] 24)
 go_enter Tryz.func22,Tryz.ntmps22
 go_upto_region 1 with (fail)
 generalize ((w.alloc (.cells #[.int .i64 rk,.int .i64 ri,.int .i64 rg,.string rn,.string rf,.int .i64 ra,.slice pr nr cr,.string rb,.int .i64 rs] 24)).alloc (.cells #[.int .i64 kk,.int .i64 ki,.int .i64 kg,.string kn,.string kf,.int .i64 ka,.slice pk nk ck,.string kb,.int .i64 ks] 24)) = W1 at *
 have HL4:=Lib.hid (row_rng hz4)
 have HL5:=Lib.hid (row_rng hz5)
 have HZ5:=Lib.hid hz5
 have hlt:=(Array.getElem?_eq_some_iff.1 hz5).1
 have HB0:=Lib.hid hb0
 clear hz4 hz5 hb0
 go_wp2_with (first
  | (refine wpList_load_mid rfl 24 (.tmp 4) rfl w.heap.size 0 rfl [.int .i64 rk,.int .i64 ri,.int .i64 rg,.string rn,.string rf,.int .i64 ra,.slice pr nr cr,.string rb,.int .i64 rs] _ HL4.out Tryz.underlying24 rfl hsz9 ?_)
  | (refine wpList_load_mid rfl 24 (.tmp 5) rfl (w.heap.size + 1) 0 rfl [.int .i64 kk,.int .i64 ki,.int .i64 kg,.string kn,.string kf,.int .i64 ka,.slice pk nk ck,.string kb,.int .i64 ks] _ HL5.out Tryz.underlying24 rfl hsz9 ?_))
 refine (HKy.out _ HB0.out).mono ?_
 rintro e w2 ⟨rfl,hb2⟩
 have HB2:=Lib.hid (HB0.out.trans (hb2.mono HB0.out.size))
 have HZ5':=Lib.hid ((hb2.block _ hlt).trans HZ5.out)
 have hlt2:=Nat.lt_of_lt_of_le hlt hb2.size
 clear HL4 HL5 hb2 HKy HB0 HZ5 hlt
 go_wp2_with fail
 go_ret2
 exact ⟨rfl,HB2.out⟩
end
structure TabA (N:Nat) where
 ref:Tm (N + 1)
 own:Tm (N + 1)
 hs:Bool
 rows:List (Tm (N + 1) × Tm (N + 1))
def absT {N:Nat} (t:TabE N):TabA N:=⟨t.ref,t.own,t.hs,absR t⟩
def StG {N:Nat} (B z:Nat) (A:List (TabA N)) (W:World):Prop:=∃ F vl tabs,TbAt W B F ⟨z,vl,tabs⟩∧tabs.map absT = A∧∀ t ∈ tabs,GoodT t
noncomputable def refA {N:Nat} (A:List (TabA N)) (r:Tm (N + 1)):Option Nat:=A.findIdx? (fun x=>eqB x.ref r)
noncomputable def tabA {N:Nat} (A:List (TabA N)) (r:Tm (N + 1)):Option (TabA N):=(refA A r).bind (fun i=>A[i]?)
structure SmA {N:Nat} (A:List (TabA N)):Prop where
 len:A.length ≤ 1000
 rows:∀ a ∈ A,a.rows.length ≤ 1000000
noncomputable def updA {N:Nat} (A:List (TabA N)) (r:Tm (N + 1)) (f:TabA N→List (Tm (N + 1) × Tm (N + 1))):List (TabA N):=match refA A r with
 | none=>A
 | some i=>match A[i]? with
  | none=>A
  | some a=>A.set i { a with rows:=f a }
noncomputable def putE {N:Nat} (A:List (TabA N)) (r k v:Tm (N + 1)):Int:=if validT v then (if validT k then (match refA A r with | none=>4 | some _=>0) else 2) else 2
noncomputable def putA {N:Nat} (A:List (TabA N)) (r k v:Tm (N + 1)):List (TabA N):=if validT v && validT k then updA A r (fun a=>putR (cmpH a.hs) a.rows k v) else A
noncomputable def getX {N:Nat} (A:List (TabA N)) (r k:Tm (N + 1)):Tm (N + 1) × Bool × Int:=if validT k then (match tabA A r with
 | none=>(zT,false,4)
 | some a=>match getR (cmpH a.hs) a.rows k with
  | none=>(zT,false,0)
  | some v=>(v,true,0)) else (zT,false,2)
noncomputable def makeE {N:Nat} (A:List (TabA N)) (r o:Tm (N + 1)):Int:=if decide (r.f.kind = 3) && decide (o.f.kind = 6) && validT r && validT o then (match refA A r with
 | some _=>8
 | none=>if 64 ≤ A.length then 5 else 0) else 2
noncomputable def makeA {N:Nat} (A:List (TabA N)) (r o:Tm (N + 1)) (hs:Bool):List (TabA N):=if makeE A r o = 0 then A ++ [⟨r,o,hs,[]⟩] else A
section
variable {N:Nat} {B z:Nat} {A:List (TabA N)} {W W':World}
theorem StG.below (h:StG B z A W) (hb:Below W.heap.size W W'):StG B z A W':=by
 obtain ⟨F,vl,tabs,h1,h2⟩:=h
 exact ⟨F,vl,tabs,h1.below hb,h2⟩
theorem StG.lt (h:StG B z A W):z < W.heap.size:=by
 obtain ⟨F,vl,tabs,h1,h2⟩:=h
 exact h1.zlt
theorem refA_map (tabs:List (TabE N)) (r:Tm (N + 1)):refA (tabs.map absT) r = refAt tabs r:=by
 unfold refA refAt
 rw [List.findIdx?_map]
 rfl
theorem refA_lt {r:Tm (N + 1)} {i:Nat} (h:refA A r = some i):∃ a,A[i]? = some a∧a.ref = r:=by
 unfold refA at h
 rw [List.findIdx?_eq_some_iff_getElem] at h
 obtain ⟨hi,hp,_⟩:=h
 exact ⟨_,List.getElem?_eq_getElem hi,of_eqB hp⟩
theorem NewI.nil (w w':World):NewI w w' (fun _=>False) N nilV (zT:Tm (N + 1)).items:=⟨ItemsIn.nil_any (by decide),fun g hg=>hg.elim,fun g hg=>hg.elim⟩
theorem open_at {tabs:List (TabE N)} (h2:tabs.map absT = A) (h3:∀ t ∈ tabs,GoodT t) (hs:SmA A) (r:Tm (N + 1)):tabs.length ≤ 1000 ∧
 ((refA A r = none∧refAt tabs r = none∧tabA A r = none)∨∃ i,∃ hi:i < tabs.length,refA A r = some i∧refAt tabs r = some i∧A[i]? = some (absT tabs[i])∧tabA A r = some (absT tabs[i])∧GoodT tabs[i]∧(tabs[i]).rows.length ≤ 1000000):=by
 subst h2
 refine ⟨by have:=hs.len;rwa [List.length_map] at this,?_⟩
 cases hr:refAt tabs r with
 | none =>
  have e:refA (tabs.map absT) r = none:=by rw [refA_map,hr]
  exact .inl ⟨e,rfl,by unfold tabA;rw [e];rfl⟩
 | some i =>
  have e:refA (tabs.map absT) r = some i:=by rw [refA_map,hr]
  obtain ⟨hi,_⟩:=refAt_lt hr
  have ea:(tabs.map absT)[i]? = some (absT tabs[i]):=by rw [List.getElem?_map,List.getElem?_eq_getElem hi];rfl
  have hl:=hs.rows (absT tabs[i]) (List.mem_map.2 ⟨_,List.getElem_mem hi,rfl⟩)
  refine .inr ⟨i,hi,e,rfl,ea,by unfold tabA;rw [e];exact ea,h3 _ (List.getElem_mem hi),?_⟩
  unfold absT absR at hl
  rwa [List.length_map] at hl
theorem StG.open (h:StG B z A W) (hs:SmA A) (r:Tm (N + 1)):∃ F vl tabs,TbAt W B F ⟨z,vl,tabs⟩∧tabs.map absT = A∧(∀ t ∈ tabs,GoodT t)∧tabs.length ≤ 1000 ∧
 ((refA A r = none∧refAt tabs r = none∧tabA A r = none)∨∃ i,∃ hi:i < tabs.length,refA A r = some i∧refAt tabs r = some i∧A[i]? = some (absT tabs[i])∧tabA A r = some (absT tabs[i])∧GoodT tabs[i]∧(tabs[i]).rows.length ≤ 1000000):=by
 obtain ⟨F,vl,tabs,h1,h2,h3⟩:=h
 exact ⟨F,vl,tabs,h1,h2,h3,open_at h2 h3 hs r⟩
def StX (G:Nat→Prop) (B z:Nat) (A:List (TabA N)) (W:World):Prop:=∃ F vl tabs,TbAt W B F ⟨z,vl,tabs⟩∧tabs.map absT = A∧(∀ t ∈ tabs,GoodT t)∧∀ g,F g→¬ G g
theorem StX.st {G:Nat→Prop} (h:StX G B z A W):StG B z A W:=by
 obtain ⟨F,vl,tabs,h1,h2,h3,_⟩:=h
 exact ⟨F,vl,tabs,h1,h2,h3⟩
theorem StG.x (h:StG B z A W) {G:Nat→Prop} (hG:∀ g,G g→W.heap.size ≤ g):StX G B z A W:=by
 obtain ⟨F,vl,tabs,h1,h2,h3⟩:=h
 exact ⟨F,vl,tabs,h1,h2,h3,fun g hg hGg=>by have:=h1.fl g hg;have:=hG g hGg;omega⟩
theorem StX.below {G:Nat→Prop} (h:StX G B z A W) (hb:Below W.heap.size W W'):StX G B z A W':=by
 obtain ⟨F,vl,tabs,h1,h2⟩:=h
 exact ⟨F,vl,tabs,h1.below hb,h2⟩
theorem StX.touch {G:Nat→Prop} (h:StX G B z A W) (ht:TouchB G W W') (hG:∀ g,G g→∀ t,tyOf W g = some t→¬ progT t):StX G B z A W':=by
 obtain ⟨F,vl,tabs,h1,h2,h3,h4⟩:=h
 refine ⟨F,vl,tabs,h1.same (fun k hk hc=>ht.block k hk (fun hg=>?_)) ht.size,h2,h3,h4⟩
 rcases hc with hc | ⟨t,e,hc⟩
 ·exact h4 k hc hg
 ·exact hG k hg t e hc
theorem StG.set {tabs:List (TabE N)} (hg:∀ t ∈ tabs,GoodT t) {i:Nat} {t':TabE N} (h':GoodT t'):∀ t ∈ tabs.set i t',GoodT t:=fun t ht=>by
 rcases List.mem_or_eq_of_mem_set ht with ht | rfl
 ·exact hg t ht
 ·exact h'
theorem set_abs {tabs:List (TabE N)} {i:Nat} {t':TabE N}:(tabs.set i t').map absT = (tabs.map absT).set i (absT t'):=by
 refine List.ext_getElem? fun j=>?_
 rw [List.getElem?_map,List.getElem?_set,List.getElem?_set,List.length_map,List.getElem?_map]
 split
 ·split <;> rfl
 ·rfl
variable {r k v o:Tm (N + 1)} {ur uk uv uo:Value} {B2:Nat}
theorem g_putG {G:Nat→Prop} (h:StX G B z A W) (hG:∀ g,G g→g < W.heap.size) (hs:SmA A) (hB:B ≤ W.heap.size) (hBw:B2 ≤ W.heap.size) (hI:ItemsAt W B2 N ur r.items) (hJ:ItemsAt W B2 N uk k.items) (hV:ItemsAt W B2 N uv v.items) (hnk:nodesT k ≤ 100000000) (hnv:nodesT v ≤ 100000000)
 (hVm:∀ Wm,W.heap.size ≤ Wm.heap.size→(∀ g,g < W.heap.size→(g < B∨∀ t,tyOf W g = some t→¬ progT t)→Wm.heap[g]? = W.heap[g]?)→ItemsAt Wm Wm.heap.size N uv v.items) :
 Calls Tryz.prog 24 #[.pointer (some ⟨z,0,none⟩),aggV r.f ur,aggV k.f uk,aggV v.f uv] W fun e w'=>e = .returned (.int .i64 (putE A r k v))∧StX G B z (putA A r k v) w'∧TT progT B W w':=by
 obtain ⟨F,vl,tabs,h1,h2,h3,hx⟩:=h
 obtain ⟨hl,hc⟩:=open_at h2 h3 hs r
 have old:∀ {e:Ending} {w':World},Below W.heap.size W w'→StX G B z A w'∧TT progT B W w':=fun hb=>⟨⟨F,vl,tabs,h1.below hb,h2,h3,hx⟩,TT.new hb⟩
 cases hv:validT v
 ·have e1:putE A r k v = 2:=by unfold putE;rw [hv,if_neg (by decide)]
  have e2:putA A r k v = A:=by unfold putA;rw [hv];rfl
  rw [e1,e2]
  refine (put24v h1 hl hBw hI hJ hV hnk hnv hv).mono ?_
  rintro e w' ⟨rfl,hb⟩
  exact ⟨rfl,old (e:=.returned (.int .i64 2)) hb⟩
 ·cases hk:validT k
  ·have e1:putE A r k v = 2:=by unfold putE;rw [hv,hk,if_pos rfl,if_neg (by decide)]
   have e2:putA A r k v = A:=by unfold putA;rw [hv,hk];rfl
   rw [e1,e2]
   refine (put24e h1 hl hBw hI hJ hV hnk hnv hv (er:=2) (by decide) (.inl ⟨hk,rfl,rfl⟩)).mono ?_
   rintro e w' ⟨rfl,hb⟩
   exact ⟨rfl,old (e:=.returned (.int .i64 2)) hb⟩
  ·rcases hc with ⟨c1,c2,c3⟩ | ⟨i,hi,c1,c2,c3,c4,c5,c6⟩
   ·have e1:putE A r k v = 4:=by unfold putE;rw [hv,hk,if_pos rfl,if_pos rfl,c1]
    have e2:putA A r k v = A:=by unfold putA updA;rw [hv,hk,c1];rfl
    rw [e1,e2]
    refine (put24e h1 hl hBw hI hJ hV hnk hnv hv (er:=4) (by decide) (.inr ⟨hk,.inl ⟨c2,rfl,rfl⟩⟩)).mono ?_
    rintro e w' ⟨rfl,hb⟩
    exact ⟨rfl,old (e:=.returned (.int .i64 4)) hb⟩
   ·have e1:putE A r k v = 0:=by unfold putE;rw [hv,hk,if_pos rfl,if_pos rfl,c1]
    have e2:putA A r k v = A.set i { absT tabs[i] with rows:=putR (cmpH (absT tabs[i]).hs) (absT tabs[i]).rows k v }:=by
     unfold putA updA
     rw [hv,hk,c1]
     dsimp only
     rw [c3]
     rfl
    rw [e1,e2]
    have ht:=h1.tabs _ (List.getElem_mem hi)
    refine (put24g h1 hB hl hBw hI hJ hV hnk hnv hk hv hi c2 (c5.find c6 k) (fun Wm hm=>?_)).mono ?_
    ·obtain ⟨F1,uk',vr,hq⟩:=hm
     refine hVm Wm hq.touch.size (fun g hg hn=>hq.touch.block g hg ?_)
     rintro (rfl | e)
     ·rcases hn with hn | hn
      ·exact absurd hn (Nat.not_lt.2 ht.low)
      ·exact hn 98 (tyOf_of ht.blk) (.inr (.inr (.inl rfl)))
     ·rcases hn with hn | hn
      ·exact absurd hn (Nat.not_lt.2 (ht.rows.lt e).1)
      ·exact hn 108 (ownTy ht.rows e) (.inr (.inr (.inr rfl)))
    rintro e w' ⟨rfl,F1,uk',uv',vr,hq⟩
    obtain ⟨h4,h5⟩:=hq.upd h1 hi
    refine ⟨rfl,⟨F1,vl,_,h4,?_,StG.set h3 (c5.put hk hnk hnv),fun g hg hGg=>by rcases hq.new g hg with e | e;exact hx g e hGg;have:=hG g hGg;omega⟩,h5⟩
    rw [set_abs,h2]
    show A.set i ⟨_,_,_,(putRows tabs[i] k v uk' uv').map (fun r=>(r.k,r.v))⟩ = _
    rw [put_rows_abs c5]
    rfl
def GetG {N:Nat} (x:Tm (N + 1) × Bool × Int) (W:World) (e:Ending) (w':World):Prop:=∃ F1 u,e = .returned (.tuple #[aggV x.1.f u,.bool x.2.1,.int .i64 x.2.2])∧Below W.heap.size W w'∧NewI W w' F1 N u x.1.items
theorem g_get (h:StG B z A W) (hs:SmA A) (hB2:B2 ≤ W.heap.size) (hI:ItemsAt W B2 N ur r.items) (hJ:ItemsAt W B2 N uk k.items) (hnk:nodesT k ≤ 100000000) :
 Calls Tryz.prog 32 #[.pointer (some ⟨z,0,none⟩),aggV r.f ur,aggV k.f uk] W (GetG (getX A r k) W):=by
 obtain ⟨F,vl,tabs,h1,h2,h3,hl,hc⟩:=h.open hs r
 cases hk:validT k
 ·have e1:getX A r k = (zT,false,2):=by unfold getX;rw [hk,if_neg (by decide)]
  rw [e1]
  refine (get32e h1 hl hB2 hI hJ hnk (er:=2) (by decide) (.inl ⟨hk,rfl,rfl⟩)).mono ?_
  rintro e w' ⟨rfl,hb⟩
  exact ⟨_,nilV,rfl,hb,NewI.nil W w'⟩
 ·rcases hc with ⟨c1,c2,c3⟩ | ⟨i,hi,c1,c2,c3,c4,c5,c6⟩
  ·have e1:getX A r k = (zT,false,4):=by unfold getX;rw [hk,if_pos rfl,c3]
   rw [e1]
   refine (get32e h1 hl hB2 hI hJ hnk (er:=4) (by decide) (.inr ⟨hk,.inl ⟨c2,rfl,rfl⟩⟩)).mono ?_
   rintro e w' ⟨rfl,hb⟩
   exact ⟨_,nilV,rfl,hb,NewI.nil W w'⟩
  ·have eh:=c5.has k
   cases hh:hasK tabs[i] k
   ·have e0:getR (cmpH (absT tabs[i]).hs) (absT tabs[i]).rows k = none:=by
     show getR (cmpH (tabs[i]).hs) (absR tabs[i]) k = none
     unfold getR
     rw [← eh,hh,if_neg (by decide)]
    have e1:getX A r k = (zT,false,0):=by unfold getX;rw [hk,if_pos rfl,c4];dsimp only;rw [e0]
    rw [e1]
    refine (get32n h1 hl hB2 hI hJ hnk hk hi c2 (c5.find c6 k) hh).mono ?_
    rintro e w' ⟨rfl,hb⟩
    exact ⟨_,nilV,rfl,hb,NewI.nil W w'⟩
   ·obtain ⟨hp,_⟩:=c5.hasp hh
    have e0:getR (cmpH (absT tabs[i]).hs) (absT tabs[i]).rows k = some ((tabs[i]).rows[posK tabs[i] k]).v:=by
     show getR (cmpH (tabs[i]).hs) (absR tabs[i]) k = _
     unfold getR
     rw [← eh,hh,if_pos rfl,← c5.pos k]
     unfold absR
     rw [List.getElem?_map,List.getElem?_eq_getElem hp]
     rfl
    have e1:getX A r k = (((tabs[i]).rows[posK tabs[i] k]).v,true,0):=by unfold getX;rw [hk,if_pos rfl,c4];dsimp only;rw [e0]
    rw [e1]
    refine (get32y h1 hl hB2 hI hJ hnk hk hi c2 (c5.find c6 k) hh hp (c5.nd _ (List.getElem_mem hp)).2).mono ?_
    rintro e w' ⟨F1,u,he,hb,hN⟩
    exact ⟨F1,u,he,hb,hN⟩
theorem g_make (h:StG B z A W) (hs:SmA A) (hB:B ≤ W.heap.size) (hB2:B2 ≤ B) (hI:ItemsAt W B2 N ur r.items) (hJ:ItemsAt W B2 N uo o.items) (hnr:nodesT r ≤ 100000000) (hno:nodesT o ≤ 100000000) (hf:Bool) :
 Calls Tryz.prog 17 #[.pointer (some ⟨z,0,none⟩),aggV r.f ur,aggV o.f uo,.bool hf] W fun e w'=>e = .returned (.int .i64 (makeE A r o))∧StG B z (makeA A r o hf) w'∧TT progT B W w':=by
 obtain ⟨F,vl,tabs,h1,h2,h3,hl,hc⟩:=h.open hs r
 have hBw:=Nat.le_trans hB2 hB
 obtain ⟨po,er,hTR⟩:=TabR.of tabs r
 have her:er ≠ 1:=by rcases hTR with ⟨_,_,rfl⟩ | ⟨_,_,_,_,rfl⟩ <;> decide
 have old:makeE A r o ≠ 0→∀ {n:Int},makeE A r o = n→∀ {e:Ending} {w':World},e = .returned (.int .i64 n)∧Below W.heap.size W w'→e = .returned (.int .i64 (makeE A r o))∧StG B z (makeA A r o hf) w'∧TT progT B W w':=fun hne n hn e w' ⟨he,hb⟩=>by
  have e2:makeA A r o hf = A:=by unfold makeA;rw [if_neg hne]
  rw [e2,hn]
  exact ⟨he,h.below hb,TT.new hb⟩
 have bad:(decide (r.f.kind = 3) && decide (o.f.kind = 6) && validT r && validT o) = false→makeE A r o = 2:=fun hq=>by unfold makeE;rw [hq,if_neg (by decide)]
 have good:(decide (r.f.kind = 3) && decide (o.f.kind = 6) && validT r && validT o) = true→makeE A r o = (match refA A r with | some _=>8 | none=>if 64 ≤ A.length then 5 else 0):=fun hq=>by unfold makeE;rw [hq,if_pos rfl]
 by_cases k1:r.f.kind = 3
 rotate_left
 ·have hm:=bad (by rw [decide_eq_false k1];rfl)
  exact (make17a h1 hl hBw hI hJ hnr hno hf her hTR k1).mono (fun e w' hp=>old (by omega) hm hp)
 by_cases k2:o.f.kind = 6
 rotate_left
 ·have hm:=bad (by rw [decide_eq_false k2];simp)
  exact (make17b h1 hl hBw hI hJ hnr hno hf her hTR k1 k2).mono (fun e w' hp=>old (by omega) hm hp)
 cases k3:validT r
 ·have hm:=bad (by rw [k3];simp)
  exact (make17c h1 hl hBw hI hJ hnr hno hf her hTR k1 k2 k3).mono (fun e w' hp=>old (by omega) hm hp)
 cases k4:validT o
 ·have hm:=bad (by rw [k4];simp)
  exact (make17d h1 hl hBw hI hJ hnr hno hf her hTR k1 k2 k3 k4).mono (fun e w' hp=>old (by omega) hm hp)
 have hg:=good (by rw [decide_eq_true k1,decide_eq_true k2,k3,k4];rfl)
 rcases hc with ⟨c1,c2,c3⟩ | ⟨i,hi,c1,c2,c3,c4,c5,c6⟩
 ·rw [c1] at hg
  dsimp only at hg
  have hle:A.length = tabs.length:=by rw [← h2,List.length_map]
  by_cases hfull:64 ≤ A.length
  ·rw [if_pos hfull] at hg
   have he0:er ≠ 0:=by
    rcases hTR with ⟨_,_,rfl⟩ | ⟨i,_,e,_,_⟩
    ·decide
    ·rw [c2] at e;cases e
   exact (make17f h1 hl hBw hI hJ hnr hno hf her hTR k1 k2 k3 k4 he0 (by show 64 ≤ tabs.length;omega)).mono (fun e w' hp=>old (by omega) hg hp)
  ·rw [if_neg hfull] at hg
   have e2:makeA A r o hf = A ++ [⟨r,o,hf,[]⟩]:=by unfold makeA;rw [if_pos hg]
   rw [hg,e2]
   refine (make17y h1 hB hl hB2 hI hJ hnr hno k3 k4 k1 k2 hf (by show tabs.length < 64;omega) c2).mono ?_
   rintro e w' ⟨rfl,F1,ur',uo',vl',b,h4,h5,_⟩
   refine ⟨rfl,⟨F1,vl',_,h4,?_,fun t ht=>?_⟩,h5⟩
   ·rw [List.map_append,h2];rfl
   ·rcases List.mem_append.1 ht with ht | ht
    ·exact h3 t ht
    ·obtain rfl:=List.mem_singleton.1 ht
     exact ⟨fun r hr=>(nomatch hr),fun r hr=>(nomatch hr),List.Pairwise.nil,fun r hr=>(nomatch hr)⟩
 ·rw [c1] at hg
  dsimp only at hg
  exact (make17t h1 hB hl hB2 hI hJ hnr hno k3 k4 k1 k2 hf hi c2).mono (fun e w' hp=>old (by omega) hg hp)
end
structure RRw (N:Nat) where
 k:Tm (N + 1)
 v:Tm (N + 1)
 uk:Value
 uv:Value
def rrL {N:Nat} (r:RRw N):List Value:=nineL r.k.f r.uk ++ nineL r.v.f r.uv
structure RTb (N:Nat) where
 ref:Tm (N + 1)
 own:Tm (N + 1)
 ur:Value
 uo:Value
 hs:Bool
 vr:Value
 rows:List (RRw N)
def rtL {N:Nat} (t:RTb N):List Value:=nineL t.ref.f t.ur ++ (nineL t.own.f t.uo ++ [.bool t.hs,t.vr])
structure RTbAt {N:Nat} (w:World) (B:Nat) (t:RTb N):Prop where
 rows:RecOwn rrL 55 18 w B t.vr t.rows
 iref:ItemsAt w B N t.ur t.ref.items
 iown:ItemsAt w B N t.uo t.own.items
 irow:∀ r ∈ t.rows,ItemsAt w B N r.uk r.k.items∧ItemsAt w B N r.uv r.v.items
structure RfAt {N:Nat} (w:World) (B y:Nat) (lv:Value) (T:List (RTb N)):Prop where
 obj:w.heap[y]? = some (.cells #[lv] 39)
 l:RecOwn rtL 53 20 w B lv T
 tabs:∀ t ∈ T,RTbAt w B t
 low:B ≤ y
def refT3 (t:TypeId):Prop:=t = 39∨t = 53∨t = 55
def absRT {N:Nat} (t:RTb N):TabA N:=⟨t.ref,t.own,t.hs,t.rows.map (fun r=>(r.k,r.v))⟩
section
variable {N:Nat} {w w':World} {B y:Nat} {lv:Value} {T:List (RTb N)} {t:RTb N}
theorem it_one {n:Nat} {v:Value} {l:List (Tm n)} (h:ItemsAt w B n v l):v.oneCell' = true:=by
 obtain ⟨p,c,rfl,_,_⟩:=h.shape
 rfl
theorem RTbAt.enc (h:RTbAt w B t):EncOK rrL 18 t.rows:=fun r hr=>⟨rfl,fun u hu=>by
 obtain ⟨h1,h2⟩:=h.irow r hr
 unfold rrL at hu
 rcases List.mem_append.1 hu with hu | hu
 ·exact nineL_one (it_one h1) u hu
 ·exact nineL_one (it_one h2) u hu⟩
theorem RfAt.enc (h:RfAt w B y lv T):EncOK rtL 20 T:=fun t ht=>⟨rfl,fun u hu=>by
 have ht:=h.tabs t ht
 obtain ⟨p,c,e,_,_⟩:=ht.rows.shape
 unfold rtL at hu
 rcases List.mem_append.1 hu with hu | hu
 ·exact nineL_one (it_one ht.iref) u hu
 rcases List.mem_append.1 hu with hu | hu
 ·exact nineL_one (it_one ht.iown) u hu
 ·simp at hu
  rcases hu with rfl | rfl
  ·rfl
  ·rw [e];rfl⟩
theorem RTbAt.keep (h:RTbAt w B t) (hl:∀ g,g < B→w'.heap[g]? = w.heap[g]?) (ho:∀ g,t.vr.ownBlock = some g→w'.heap[g]? = w.heap[g]?):RTbAt w' B t :=
 ⟨h.rows.same ho,h.iref.same hl,h.iown.same hl,fun r hr=>⟨(h.irow r hr).1.same hl,(h.irow r hr).2.same hl⟩⟩
theorem RfAt.keep (h:RfAt w B y lv T) (hl:∀ g,g < B→w'.heap[g]? = w.heap[g]?) (ho:∀ g t,tyOf w g = some t→refT3 t→w'.heap[g]? = w.heap[g]?):RfAt w' B y lv T :=
 ⟨(ho y 39 (tyOf_of h.obj) (.inl rfl)).trans h.obj,h.l.same (fun g hg=>ho g 53 (ownTy h.l hg) (.inr (.inl rfl))),fun t ht=>(h.tabs t ht).keep hl (fun g hg=>ho g 55 (ownTy (h.tabs t ht).rows hg) (.inr (.inr rfl))),h.low⟩
theorem RfAt.ylt (h:RfAt w B y lv T):y < w.heap.size:=(Array.getElem?_eq_some_iff.1 h.obj).1
theorem RfAt.blt (h:RfAt w B y lv T):B ≤ w.heap.size:=Nat.le_trans h.low (Nat.le_of_lt h.ylt)
theorem tyOf_lt {g:Nat} {t:TypeId} (h:tyOf w g = some t):g < w.heap.size:=by
 unfold tyOf at h
 by_cases hg:g < w.heap.size
 ·exact hg
 ·rw [Array.getElem?_eq_none (by omega)] at h
  cases h
theorem RfAt.below (h:RfAt w B y lv T) (hb:Below w.heap.size w w'):RfAt w' B y lv T:=h.keep (fun g hg=>hb.block g (by have:=h.blt;omega)) (fun g t ht _=>hb.block g (tyOf_lt ht))
theorem RfAt.prog (h:RfAt w B y lv T) (ht:TT progT B w w'):RfAt w' B y lv T :=
 h.keep (fun g hg=>(ht.below h.blt).block g hg) (fun g t hty hT=>ht.keep (tyOf_lt hty) (fun t' ht' hP=>by
  rw [hty] at ht'
  obtain rfl:=Option.some.inj ht'
  unfold refT3 at hT
  unfold progT at hP
  rcases hT with rfl | rfl | rfl <;> rcases hP with hP | hP | hP | hP <;> exact absurd hP (by decide)))
theorem StG.ref {z:Nat} {A:List (TabA N)} (h:StG B z A w) (ht:TT refT3 B w w'):StG B z A w':=by
 obtain ⟨F,vl,tabs,h1,h2⟩:=h
 refine ⟨F,vl,tabs,h1.same (fun k hk hq=>ht.keep hk (fun t' ht' hP=>?_)) ht.size,h2⟩
 unfold refT3 at hP
 rcases hq with hF | ⟨t,hty,hT⟩
 ·rw [F_ty h1 hF] at ht'
  obtain rfl:=Option.some.inj ht'
  rcases hP with hP | hP | hP <;> exact absurd hP (by decide)
 ·rw [hty] at ht'
  obtain rfl:=Option.some.inj ht'
  unfold progT at hT
  rcases hT with rfl | rfl | rfl | rfl <;> rcases hP with hP | hP | hP <;> exact absurd hP (by decide)
noncomputable def refR (T:List (RTb N)) (r:Tm (N + 1)):Option Nat:=T.findIdx? (fun t=>eqB t.ref r)
theorem refR_abs (T:List (RTb N)) (r:Tm (N + 1)):refA (T.map absRT) r = refR T r:=by
 unfold refA refR
 rw [List.findIdx?_map]
 rfl
end
end Go.Proofs.YtfbggmbmgohiiaaGreat.tb
