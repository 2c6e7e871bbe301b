/- Texts of this seat, one behind the other: TcG, TcL, TcM, TcN, TcO. No condition beyond theirs. -/
import Derived.Test.YtfbggmbmgohiiaaGreatK01
import Derived.Test.YtfbggmbmgohiiaaGreatK40
set_option linter.unusedSimpArgs false
set_option linter.unusedVariables false
set_option maxHeartbeats 4000000
set_option maxRecDepth 100000
namespace Go.Proofs.YtfbggmbmgohiiaaGreat.tb
open Go.RowKit mem rec tm names
theorem results_cc {fn:Func} {p q r s:Tmp} {ty ty2:TypeId} (h:fn.results = #[.cell p ty,.cell q ty2,.tmp r,.tmp s]) (tmps:Array Value) (P:Program) (w:World) :
 (results fn tmps).run P w = ((asAddr (tmps.getD p undef)).run P w).andThen fun a w₁=>((loadVar ty a).run P w₁).andThen fun x w₂=>((asAddr (tmps.getD q undef)).run P w₂).andThen fun b w₃=>((loadVar ty2 b).run P w₃).andThen fun y w₄=>.ok (.tuple #[x,y,tmps.getD r undef,tmps.getD s undef]) w₄:=by
 simp only [results,h]
 simp [Sem.run_bind,Result.andThen]
theorem touch_setRow (w:World) (g:Nat) (cs:Array Value):TouchB (fun q=>q = g) w (w.setRow g cs):=⟨rfl,rfl,rfl,by simp,fun k _ hn=>setRow_other _ g k _ hn⟩
theorem cells_rng {w:World} {g o:Nat} {f:TF} {u:Value} (h:Cells w g o f u):w.rangeAt g o (nineL f u):=fun j x hx=>by
 obtain ⟨h0,h1,h2,h3,h4,h5,h6,h7,h8⟩:=h
 have hj:=(List.getElem?_eq_some_iff.1 hx).1
 have:j = 0∨j = 1∨j = 2∨j = 3∨j = 4∨j = 5∨j = 6∨j = 7∨j = 8:=by simp [nineL] at hj;omega
 rcases this with rfl | rfl | rfl | rfl | rfl | rfl | rfl | rfl | rfl <;> (simp [nineL] at hx;subst hx;assumption)
theorem row_rng {w:World} {g:Nat} {x:List Value} {t:TypeId} (h:w.heap[g]? = some (.cells x.toArray t)):w.rangeAt g 0 x:=fun j u hu=>by
 rw [cell_of_row w g (0 + j) x.toArray t _ h]
 simpa using hu
theorem NewI.base {n:Nat} {w0 w1 w:World} {F:Nat→Prop} {u:Value} {l:List (Tm n)} (h:NewI w1 w F n u l) (hs:w0.heap.size ≤ w1.heap.size):NewI w0 w F n u l:=⟨h.items,h.typed,fun g hg=>⟨Nat.le_trans hs (h.inr g hg).1,(h.inr g hg).2⟩⟩
def RowP {N:Nat} (k v:Tm (N + 1)) (w:World) (e:Ending) (w':World):Prop:=∃ F1 F2 u1 u2,e = .returned (.tuple #[aggV k.f u1,aggV v.f u2,.bool true,.int .i64 0])∧Below w.heap.size w w'∧NewI w w' F1 N u1 k.items∧NewI w w' F2 N u2 v.items
section
variable {N:Nat} {w w':World} {B:Nat} {F:Nat→Prop} {s:TbSt N} {t:TabE N}
theorem row73y (h:TabAt w B F t) (hfl:∀ g,F g→g < w.heap.size) {i:Nat} (hi:i < t.rows.length) (hnk:nodesT (t.rows[i]).k ≤ 100000000) (hnv:nodesT (t.rows[i]).v ≤ 100000000) :
 Calls Tryz.prog 73 #[.pointer (some ⟨t.b,0,none⟩),.int .i64 i] w (RowP (t.rows[i]).k (t.rows[i]).v w):=by
 obtain ⟨hik,hiv⟩:=h.irow _ (List.getElem_mem hi)
 have HC1:=Lib.hid (fun (W:World) (hW:Below w.heap.size w W)=>copyAll N W w.heap.size (t.rows[i]).uk (t.rows[i]).k hW.size ((hik.toAt hfl).below hW (Nat.le_refl _)) hnk)
 have HC2:=Lib.hid (fun (W:World) (hW:Below w.heap.size w W)=>copyAll N W w.heap.size (t.rows[i]).uv (t.rows[i]).v hW.size ((hiv.toAt hfl).below hW (Nat.le_refl _)) hnv)
 obtain ⟨g,c,ev,hg,hck,hcv,hx18⟩:=h.rowc hi
 have htb:=h.lt
 have HRg:Hid (∀ W,Below w.heap.size w W→W.cell? ⟨t.b,19,none⟩ = some (.slice (some ⟨g,0,none⟩) t.rows.length c)∧W.rangeAt g (i * 19) (nineL (t.rows[i]).k.f (t.rows[i]).uk)∧W.rangeAt g (i * 19 + 9) (nineL (t.rows[i]).v.f (t.rows[i]).uv)) :=
  Lib.hid (fun W hW=>⟨by rw [← ev];exact cell_keep hW htb (tab_cells h.blk).2.2.2.1,rng_same (cells_rng hck) (hW.block g hg),rng_same (cells_rng hcv) (hW.block g hg)⟩)
 obtain ⟨pv0,cv0,ev0,hcc,hcm⟩:=h.rows.shape
 have hcl:c = cv0:=by rw [ev] at ev0;simp only [Value.slice.injEq] at ev0;exact ev0.2.2
 unfold maxLen at hcm
 obtain ⟨pk,ck,ek,_,_⟩:=ItemsIn.shape hik
 obtain ⟨pv,cv,e2,_,_⟩:=ItemsIn.shape hiv
 have hilt:(i:Int) < (t.rows.length:Int):=by omega
 rw [ek] at HC1 HRg
 rw [e2] at HC2 HRg
 unfold RowP
 clear h hfl hnk hnv hik hiv ev hck hcv ek e2 ev0 hx18
 generalize (t.rows[i]).k = kt at *
 generalize (t.rows[i]).v = vt at *
 clear hi
 generalize t.rows.length = n at *
 generalize t.b = tb at *
 generalize kt.items.length = nk at *
 generalize vt.items.length = nv at *
 generalize kt.items = kil at *
 generalize vt.items = vil at *
 generalize kt.f = fk at *
 generalize vt.f = fv at *
 obtain ⟨kk,ki,kg,kn,kf,ka,kb,ks⟩:=fk
 obtain ⟨vk,vi,vg,vn,vf,va,vb,vs⟩:=fv
 unfold aggV at *
 unfold nineL at HRg
 dsimp only at *
 have hsz9:(Tryz.prog.info? 24).map (·.size) = some 9:=by kernel_rfl
 obtain ⟨hb0,hz4,hz5⟩:=two_boxes w (.cells #[.int .i64 0,.int .i64 0,.int .i64 0,.string ⟨#[]⟩,.string ⟨#[]⟩,.int .i64 0,.slice none 0 0,.string ⟨#[]⟩,.int .i64 0] 24) (.cells #[.int .i64 0,.int .i64 0,.int .i64 0,.string ⟨#[]⟩,.string ⟨#[]⟩,.int .i64 0,.slice none 0 0,.string ⟨#[]⟩,.int .i64 0] 24)
 have hs1:((w.alloc (.cells #[.int .i64 0,.int .i64 0,.int .i64 0,.string ⟨#[]⟩,.string ⟨#[]⟩,.int .i64 0,.slice none 0 0,.string ⟨#[]⟩,.int .i64 0] 24)).alloc (.cells #[.int .i64 0,.int .i64 0,.int .i64 0,.string ⟨#[]⟩,.string ⟨#[]⟩,.int .i64 0,.slice none 0 0,.string ⟨#[]⟩,.int .i64 0] 24)).heap.size = w.heap.size + 2:=by rw [World.size_alloc,World.size_alloc]
 obtain ⟨c0,_,_⟩:=HRg.out _ hb0
 go_enter Tryz.func73,Tryz.ntmps73
 go_upto_region 1 with (fail)
 generalize ((w.alloc (.cells #[.int .i64 0,.int .i64 0,.int .i64 0,.string ⟨#[]⟩,.string ⟨#[]⟩,.int .i64 0,.slice none 0 0,.string ⟨#[]⟩,.int .i64 0] 24)).alloc (.cells #[.int .i64 0,.int .i64 0,.int .i64 0,.string ⟨#[]⟩,.string ⟨#[]⟩,.int .i64 0,.slice none 0 0,.string ⟨#[]⟩,.int .i64 0] 24)) = W1 at *
 have HZ4:=Lib.hid hz4
 have HZ5:=Lib.hid hz5
 clear hz4 hz5
 go_upto_region 3 with (fail)
 clear c0
 have hbd:=hb0.trans (belowD (Below.refl w.heap.size W1))
 have hbW:=belowD (Below.refl W1.heap.size W1)
 obtain ⟨l1,l2,l3⟩:=HRg.out _ hbd
 refine wp_region_held_drew (S:=(fun w'=>w'.cell? ⟨tb,19,none⟩ = some (.slice (some ⟨g,0,none⟩) n c)∧w'.rangeAt g (i * 19) [.int .i64 kk,.int .i64 ki,.int .i64 kg,.string kn,.string kf,.int .i64 ka,.slice pk nk ck,.string kb,.int .i64 ks]∧w'.rangeAt g (i * 19 + 9) [.int .i64 vk,.int .i64 vi,.int .i64 vg,.string vn,.string vf,.int .i64 va,.slice pv nv cv,.string vb,.int .i64 vs])) (by kernel_rfl) ?_ (fun hHeld=>?_)
 ·exact ⟨l1,l2,l3⟩
 refine run_in [0,1,2,3,4,5,6,7,9,10,11,12,13,14,15,16] ?_
 iterate 3 (refine run_e rfl (by kernel_rfl) (by rfl) (fun _ _ _ _ h=>h) (by assumption) ?_;apply Exists.intro;refine And.intro (fun w hSw=>?_) ?_;(focus (try dsimp only at hSw);go_simp;(try with_reducible rfl));(try simp only [Act.put,pA,pB,pC]))
 refine run_r rfl (by kernel_rfl) (fun _ _ _ _ h=>h) (by assumption) (yieldsB_cell (by rfl) 96 (.tmp 19) rfl tb 19 rfl _ ld96 (fun w hs=>hs.1)) ?_
 (try simp only [Act.put,pA,pB,pC])
 iterate 3 (refine run_e rfl (by kernel_rfl) (by rfl) (fun _ _ _ _ h=>h) (by assumption) ?_;apply Exists.intro;refine And.intro (fun w hSw=>?_) ?_;(focus (try dsimp only at hSw);go_simp;(try with_reducible rfl));(try simp only [Act.put,pA,pB,pC]))
 refine run_r rfl (by kernel_rfl) (fun _ _ _ _ h=>h) (by assumption) (yieldsIf_load_mid (by rfl) 24 (.tmp 23) rfl g (i * 19) rfl [.int .i64 kk,.int .i64 ki,.int .i64 kg,.string kn,.string kf,.int .i64 ka,.slice pk nk ck,.string kb,.int .i64 ks] _ (fun w hs=>hs.2.1) Tryz.underlying24 rfl hsz9) ?_
 (try simp only [Act.put,pA,pB,pC])
 iterate 3 (refine run_e rfl (by kernel_rfl) (by rfl) (fun _ _ _ _ h=>h) (by assumption) ?_;apply Exists.intro;refine And.intro (fun w hSw=>?_) ?_;(focus (try dsimp only at hSw);go_simp;(try with_reducible rfl));(try simp only [Act.put,pA,pB,pC]))
 refine run_r rfl (by kernel_rfl) (fun _ _ _ _ h=>h) (by assumption) (yieldsB_cell (by rfl) 96 (.tmp 28) rfl tb 19 rfl _ ld96 (fun w hs=>hs.1)) ?_
 (try simp only [Act.put,pA,pB,pC])
 iterate 3 (refine run_e rfl (by kernel_rfl) (by rfl) (fun _ _ _ _ h=>h) (by assumption) ?_;apply Exists.intro;refine And.intro (fun w hSw=>?_) ?_;(focus (try dsimp only at hSw);go_simp;(try with_reducible rfl));(try simp only [Act.put,pA,pB,pC]))
 refine run_r rfl (by kernel_rfl) (fun _ _ _ _ h=>h) (by assumption) (yieldsIf_load_mid (by rfl) 24 (.tmp 32) rfl g (i * 19 + 9) rfl [.int .i64 vk,.int .i64 vi,.int .i64 vg,.string vn,.string vf,.int .i64 va,.slice pv nv cv,.string vb,.int .i64 vs] _ (fun w hs=>hs.2.2) Tryz.underlying24 rfl hsz9) ?_
 (try simp only [Act.put,pA,pB,pC])
 refine run_out ?_
 refine wpAnyH_ready (rs:=[8]) (by kernel_rfl) (by simp) ?_
 refine readyR rfl (fun K hK=>?_) AllReadyH.nil
 go_simp
 refine (HC1.out _ hbd).mono ?_
 rintro e w8 ⟨F1,g1,rfl,hN,_⟩
 dsimp only [aggV]
 have hN1:=NewI.of (w0:=W1) hN hbW.size
 replace hbW:=hbW.trans (hN.below.mono hbW.size)
 replace hbd:=hbd.trans (hN.below.mono hbd.size)
 clear l1 l2 l3 hN
 obtain ⟨l1,l2,l3⟩:=HRg.out _ hbd
 go_wp2_with fail
 refine hK.out _ _ ?_ (fun hHeld=>?_)
 ·exact ⟨l1,l2,l3⟩
 clear hK K
 (try simp only [Act.put,pA,pB,pC])
 refine wpAnyH_ready (rs:=[17]) (by kernel_rfl) (by simp) ?_
 refine readyR rfl (fun K hK=>?_) AllReadyH.nil
 go_simp
 refine (HC2.out _ hbd).mono ?_
 rintro e w17 ⟨F2,g2,rfl,hN,_⟩
 dsimp only [aggV]
 have hN2:=NewI.of (w0:=W1) hN hbW.size
 replace hN1:=hN1.below hN.below
 replace hbW:=hbW.trans (hN.below.mono hbW.size)
 replace hbd:=hbd.trans (hN.below.mono hbd.size)
 clear l1 l2 l3 hN
 obtain ⟨l1,l2,l3⟩:=HRg.out _ hbd
 go_wp2_with fail
 refine hK.out _ _ ?_ (fun hHeld=>?_)
 ·exact ⟨l1,l2,l3⟩
 clear hK K
 (try simp only [Act.put,pA,pB,pC])
 refine wpAnyH_ready (rs:=[18]) (by kernel_rfl) (by simp) ?_
 refine readyR rfl (fun K hK=>?_) AllReadyH.nil
 have hz4:=(hbW.block w.heap.size (by omega)).trans HZ4.out
 have hz5:=(hbW.block (w.heap.size + 1) (by omega)).trans HZ5.out
 refine step_store_run (by rfl) 24 (.tmp 4) (.tmp 25) rfl (p:=⟨w.heap.size,0,none⟩) rfl rfl (run_storeVar_row _ _ 24 24 _ #[.int .i64 kk,.int .i64 ki,.int .i64 kg,.string kn,.string kf,.int .i64 ka,.slice (some ⟨g1,0,none⟩) kil.length kil.length,.string kb,.int .i64 ks] hz4 hsz9 rfl (all_oneCell_toArray (nineL_one (f:=⟨kk,ki,kg,kn,kf,ka,kb,ks⟩) (u:=.slice (some ⟨g1,0,none⟩) kil.length kil.length) rfl))) ?_
 have hq4:=setRow_heap w17 w.heap.size _ #[.int .i64 kk,.int .i64 ki,.int .i64 kg,.string kn,.string kf,.int .i64 ka,.slice (some ⟨g1,0,none⟩) kil.length kil.length,.string kb,.int .i64 ks] _ _ hz4
 have hq5:=(setRow_other w17 w.heap.size (w.heap.size + 1) #[.int .i64 kk,.int .i64 ki,.int .i64 kg,.string kn,.string kf,.int .i64 ka,.slice (some ⟨g1,0,none⟩) kil.length kil.length,.string kb,.int .i64 ks] (by omega)).trans hz5
 replace hN1:=hN1.touch (touch_setRow w17 w.heap.size #[.int .i64 kk,.int .i64 ki,.int .i64 kg,.string kn,.string kf,.int .i64 ka,.slice (some ⟨g1,0,none⟩) kil.length kil.length,.string kb,.int .i64 ks]) (fun q e=>by subst e;omega)
 replace hN2:=hN2.touch (touch_setRow w17 w.heap.size #[.int .i64 kk,.int .i64 ki,.int .i64 kg,.string kn,.string kf,.int .i64 ka,.slice (some ⟨g1,0,none⟩) kil.length kil.length,.string kb,.int .i64 ks]) (fun q e=>by subst e;omega)
 replace hbd:=hbd.trans ((touch_setRow w17 w.heap.size #[.int .i64 kk,.int .i64 ki,.int .i64 kg,.string kn,.string kf,.int .i64 ka,.slice (some ⟨g1,0,none⟩) kil.length kil.length,.string kb,.int .i64 ks]).below (fun q e=>Nat.le_of_eq e.symm) hbd.size)
 clear l1 l2 l3 hz4 hz5
 obtain ⟨l1,l2,l3⟩:=HRg.out _ hbd
 generalize w17.setRow w.heap.size #[.int .i64 kk,.int .i64 ki,.int .i64 kg,.string kn,.string kf,.int .i64 ka,.slice (some ⟨g1,0,none⟩) kil.length kil.length,.string kb,.int .i64 ks] = w18 at *
 refine hK.out _ _ ?_ (fun hHeld=>?_)
 ·exact ⟨l1,l2,l3⟩
 clear hK K
 (try simp only [Act.put,pA,pB,pC])
 refine wpAnyH_ready (rs:=[19]) (by kernel_rfl) (by simp) ?_
 refine readyR rfl (fun K hK=>?_) AllReadyH.nil
 refine step_store_run (by rfl) 24 (.tmp 5) (.tmp 34) rfl (p:=⟨w.heap.size + 1,0,none⟩) rfl rfl (run_storeVar_row _ _ 24 24 _ #[.int .i64 vk,.int .i64 vi,.int .i64 vg,.string vn,.string vf,.int .i64 va,.slice (some ⟨g2,0,none⟩) vil.length vil.length,.string vb,.int .i64 vs] hq5 hsz9 rfl (all_oneCell_toArray (nineL_one (f:=⟨vk,vi,vg,vn,vf,va,vb,vs⟩) (u:=.slice (some ⟨g2,0,none⟩) vil.length vil.length) rfl))) ?_
 have hp5:=setRow_heap w18 (w.heap.size + 1) _ #[.int .i64 vk,.int .i64 vi,.int .i64 vg,.string vn,.string vf,.int .i64 va,.slice (some ⟨g2,0,none⟩) vil.length vil.length,.string vb,.int .i64 vs] _ _ hq5
 have hp4:=(setRow_other w18 (w.heap.size + 1) w.heap.size #[.int .i64 vk,.int .i64 vi,.int .i64 vg,.string vn,.string vf,.int .i64 va,.slice (some ⟨g2,0,none⟩) vil.length vil.length,.string vb,.int .i64 vs] (by omega)).trans hq4
 replace hN1:=hN1.touch (touch_setRow w18 (w.heap.size + 1) #[.int .i64 vk,.int .i64 vi,.int .i64 vg,.string vn,.string vf,.int .i64 va,.slice (some ⟨g2,0,none⟩) vil.length vil.length,.string vb,.int .i64 vs]) (fun q e=>by subst e;omega)
 replace hN2:=hN2.touch (touch_setRow w18 (w.heap.size + 1) #[.int .i64 vk,.int .i64 vi,.int .i64 vg,.string vn,.string vf,.int .i64 va,.slice (some ⟨g2,0,none⟩) vil.length vil.length,.string vb,.int .i64 vs]) (fun q e=>by subst e;omega)
 replace hbd:=hbd.trans ((touch_setRow w18 (w.heap.size + 1) #[.int .i64 vk,.int .i64 vi,.int .i64 vg,.string vn,.string vf,.int .i64 va,.slice (some ⟨g2,0,none⟩) vil.length vil.length,.string vb,.int .i64 vs]).below (fun q e=>by omega) hbd.size)
 clear l1 l2 l3 hq4 hq5
 obtain ⟨l1,l2,l3⟩:=HRg.out _ hbd
 generalize w18.setRow (w.heap.size + 1) #[.int .i64 vk,.int .i64 vi,.int .i64 vg,.string vn,.string vf,.int .i64 va,.slice (some ⟨g2,0,none⟩) vil.length vil.length,.string vb,.int .i64 vs] = w19 at *
 refine hK.out _ _ ?_ (fun hHeld=>?_)
 ·exact ⟨l1,l2,l3⟩
 clear hK K
 (try simp only [Act.put,pA,pB,pC])
 refine run_in [20,21] ?_
 iterate 2 (refine run_e rfl (by kernel_rfl) (by rfl) (fun _ _ _ _ h=>h) (by assumption) ?_;apply Exists.intro;refine And.intro (fun w hSw=>?_) ?_;(focus (try dsimp only at hSw);go_simp;(try with_reducible rfl));(try simp only [Act.put,pA,pB,pC]))
 refine run_out ?_
 refine wpAnyH_done (by kernel_rfl) ?_ _
 go_wp2_with fail
 (try simp only [Exit.inBlock,Exit.then])
 have hl4:=run_loadVar_mid (P:=Tryz.prog) w19 w.heap.size 0 24 [.int .i64 kk,.int .i64 ki,.int .i64 kg,.string kn,.string kf,.int .i64 ka,.slice (some ⟨g1,0,none⟩) kil.length kil.length,.string kb,.int .i64 ks] _ (row_rng hp4) Tryz.underlying24 rfl hsz9
 have hl5:=run_loadVar_mid (P:=Tryz.prog) w19 (w.heap.size + 1) 0 24 [.int .i64 vk,.int .i64 vi,.int .i64 vg,.string vn,.string vf,.int .i64 va,.slice (some ⟨g2,0,none⟩) vil.length vil.length,.string vb,.int .i64 vs] _ (row_rng hp5) Tryz.underlying24 rfl hsz9
 refine bodyPost_ret (v:=.tuple #[.agg #[.int .i64 kk,.int .i64 ki,.int .i64 kg,.string kn,.string kf,.int .i64 ka,.slice (some ⟨g1,0,none⟩) kil.length kil.length,.string kb,.int .i64 ks],.agg #[.int .i64 vk,.int .i64 vi,.int .i64 vg,.string vn,.string vf,.int .i64 va,.slice (some ⟨g2,0,none⟩) vil.length vil.length,.string vb,.int .i64 vs],.bool true,.int .i64 0]) ?_ rfl ⟨F1,F2,_,_,rfl,hbd,hN1.base hb0.size,hN2.base hb0.size⟩
 have hA:∀ (a:Addr) (w:World),(asAddr (.pointer (some a))).run Tryz.prog w = .ok a w:=fun _ _=>rfl
 rw [results_cc rfl]
 simp [hA,hl4,hl5,Result.andThen]
theorem three_heap (w:World) (o1 o2 o3:Obj):Below w.heap.size w (((w.alloc o1).alloc o2).alloc o3)∧(((w.alloc o1).alloc o2).alloc o3).heap.size = w.heap.size + 3∧(((w.alloc o1).alloc o2).alloc o3).heap[w.heap.size]? = some o1∧(((w.alloc o1).alloc o2).alloc o3).heap[w.heap.size + 1]? = some o2∧(((w.alloc o1).alloc o2).alloc o3).heap[w.heap.size + 2]? = some o3:=by
 obtain ⟨h1,h2,h3⟩:=two_boxes w o1 o2
 have h4:=alloc_new ((w.alloc o1).alloc o2) o3
 have hs:((w.alloc o1).alloc o2).heap.size = w.heap.size + 2:=by rw [World.size_alloc,World.size_alloc]
 rw [hs] at h4
 exact ⟨belowA h1 o3 h1.size,by rw [World.size_alloc,hs],(Below.heap_alloc ((w.alloc o1).alloc o2) o3 w.heap.size (by omega)).trans h2,(Below.heap_alloc ((w.alloc o1).alloc o2) o3 (w.heap.size + 1) (by omega)).trans h3,h4⟩
theorem first39y (h:TbAt w B F s) (hlen:s.tabs.length ≤ 1000) {r:Tm (N + 1)} {ur:Value} {B2:Nat} (hB:B2 ≤ w.heap.size) (hI:ItemsAt w B2 N ur r.items) {i:Nat} (hi:i < s.tabs.length) (hr:refAt s.tabs r = some i) (h0:0 < (s.tabs[i]).rows.length)
 (hnk:nodesT ((s.tabs[i]).rows[0]).k ≤ 100000000) (hnv:nodesT ((s.tabs[i]).rows[0]).v ≤ 100000000) :
 Calls Tryz.prog 39 #[.pointer (some ⟨s.z,0,none⟩),aggV r.f ur] w (RowP ((s.tabs[i]).rows[0]).k ((s.tabs[i]).rows[0]).v w):=by
 have ht:=h.tabs _ (List.getElem_mem hi)
 have hTR:TabR s.tabs r (some ⟨(s.tabs[i]).b,0,none⟩) 0:=.inr ⟨i,hi,hr,rfl,rfl⟩
 have HTb:=Lib.hid (fun (W:World) (hW:Below w.heap.size w W)=>table49 (h.below hW) hlen (Nat.le_trans hB hW.size) (hI.below hW hB) hTR)
 have HRo:=Lib.hid (fun (W:World) (hW:Below w.heap.size w W)=>row73y (ht.below hW h.fl) (fun g hg=>Nat.lt_of_lt_of_le (h.fl g hg) hW.size) h0 hnk hnv)
 obtain ⟨pr,cr,er,_,_⟩:=hI.shape
 have HSh:Hid (∀ (W W':World) G u (k:Tm (N + 1)),NewI W W' G N u k.items→u.oneCell' = true):=Lib.hid (fun W W' G u k hN=>in_one hN.items)
 rw [er] at HTb ⊢
 unfold RowP at *
 generalize ((s.tabs[i]).rows[0]).k = kt at *
 generalize ((s.tabs[i]).rows[0]).v = vt at *
 generalize (s.tabs[i]).b = tb at *
 generalize s.z = z at *
 have HN1:=Lib.hid (fun W W' G u=>HSh.out W W' G u kt)
 have HN2:=Lib.hid (fun W W' G u=>HSh.out W W' G u vt)
 clear h ht hTR hlen hB hI hr h0 hnk hnv er HSh hi
 generalize r.items.length = nr at *
 generalize r.f = fr at *
 generalize kt.items = kil at *
 generalize vt.items = vil at *
 generalize kt.f = fk at *
 generalize vt.f = fv at *
 obtain ⟨rk,ri,rg,rn,rf,ra,rb,rs⟩:=fr
 obtain ⟨kk,ki,kg,kn,kf,ka,kb,ks⟩:=fk
 obtain ⟨vk,vi,vg,vn,vf,va,vb,vs⟩:=fv
 unfold aggV at *
 dsimp only at *
 have hsz9:(Tryz.prog.info? 24).map (·.size) = some 9:=by kernel_rfl
 obtain ⟨hb0,hs1,hz3,hz4,hz5⟩:=three_heap w (.cells #[.int .i64 rk,.int .i64 ri,.int .i64 rg,.string rn,.string rf,.int .i64 ra,.slice pr nr cr,.string rb,.int .i64 rs] 24) (.cells #[.int .i64 0,.int .i64 0,.int .i64 0,.string ⟨#[]⟩,.string ⟨#[]⟩,.int .i64 0,.slice none 0 0,.string ⟨#[]⟩,.int .i64 0] 24) (.cells #[.int .i64 0,.int .i64 0,.int .i64 0,.string ⟨#[]⟩,.string ⟨#[]⟩,.int .i64 0,.slice none 0 0,.string ⟨#[]⟩,.int .i64 0] 24)
 go_enter Tryz.func39,Tryz.ntmps39
 go_upto_region 1 with (fail)
 generalize (((w.alloc (.cells #[.int .i64 rk,.int .i64 ri,.int .i64 rg,.string rn,.string rf,.int .i64 ra,.slice pr nr cr,.string rb,.int .i64 rs] 24)).alloc (.cells #[.int .i64 0,.int .i64 0,.int .i64 0,.string ⟨#[]⟩,.string ⟨#[]⟩,.int .i64 0,.slice none 0 0,.string ⟨#[]⟩,.int .i64 0] 24)).alloc (.cells #[.int .i64 0,.int .i64 0,.int .i64 0,.string ⟨#[]⟩,.string ⟨#[]⟩,.int .i64 0,.slice none 0 0,.string ⟨#[]⟩,.int .i64 0] 24)) = W1 at *
 have HL3:=Lib.hid (row_rng hz3)
 have HZ4:=Lib.hid hz4
 have HZ5:=Lib.hid hz5
 have HB0:=Lib.hid hb0
 clear hz3 hz4 hz5 hb0
 go_wp2_with (first
  | (refine wpList_load_mid rfl 24 (.tmp 3) rfl w.heap.size 0 rfl [.int .i64 rk,.int .i64 ri,.int .i64 rg,.string rn,.string rf,.int .i64 ra,.slice pr nr cr,.string rb,.int .i64 rs] _ HL3.out Tryz.underlying24 rfl hsz9 ?_))
 refine (HTb.out _ HB0.out).mono ?_
 rintro e w2 ⟨rfl,hb2⟩
 have HB2:=Lib.hid (HB0.out.trans (hb2.mono HB0.out.size))
 have HW2:=Lib.hid hb2
 clear hb2 HL3 HTb
 go_wp2_with fail
 refine (HRo.out _ HB2.out).mono ?_
 rintro e w3 ⟨F1,F2,u1,u2,rfl,hb3,hN1,hN2⟩
 have HB3:=Lib.hid (HB2.out.trans (hb3.mono HB2.out.size))
 have hbW:=HW2.out.trans (hb3.mono HW2.out.size)
 have hW12:=HW2.out.size
 have hz4:=(hbW.block (w.heap.size + 1) (by omega)).trans HZ4.out
 have hz5:=(hbW.block (w.heap.size + 2) (by omega)).trans HZ5.out
 have ho1:#[.int .i64 kk,.int .i64 ki,.int .i64 kg,.string kn,.string kf,.int .i64 ka,u1,.string kb,.int .i64 ks].all (·.oneCell') = true:=all_oneCell_toArray (nineL_one (f:=⟨kk,ki,kg,kn,kf,ka,kb,ks⟩) (u:=u1) (HN1.out _ _ _ _ hN1))
 have ho2:#[.int .i64 vk,.int .i64 vi,.int .i64 vg,.string vn,.string vf,.int .i64 va,u2,.string vb,.int .i64 vs].all (·.oneCell') = true:=all_oneCell_toArray (nineL_one (f:=⟨vk,vi,vg,vn,vf,va,vb,vs⟩) (u:=u2) (HN2.out _ _ _ _ hN2))
 have hq4:=setRow_heap w3 (w.heap.size + 1) _ #[.int .i64 kk,.int .i64 ki,.int .i64 kg,.string kn,.string kf,.int .i64 ka,u1,.string kb,.int .i64 ks] _ _ hz4
 have hq5:=(setRow_other w3 (w.heap.size + 1) (w.heap.size + 2) #[.int .i64 kk,.int .i64 ki,.int .i64 kg,.string kn,.string kf,.int .i64 ka,u1,.string kb,.int .i64 ks] (by omega)).trans hz5
 have hM1:=hN1.touch (touch_setRow w3 (w.heap.size + 1) #[.int .i64 kk,.int .i64 ki,.int .i64 kg,.string kn,.string kf,.int .i64 ka,u1,.string kb,.int .i64 ks]) (fun q e=>by subst e;omega)
 have hM2:=hN2.touch (touch_setRow w3 (w.heap.size + 1) #[.int .i64 kk,.int .i64 ki,.int .i64 kg,.string kn,.string kf,.int .i64 ka,u1,.string kb,.int .i64 ks]) (fun q e=>by subst e;omega)
 have hbq:=HB3.out.trans ((touch_setRow w3 (w.heap.size + 1) #[.int .i64 kk,.int .i64 ki,.int .i64 kg,.string kn,.string kf,.int .i64 ka,u1,.string kb,.int .i64 ks]).below (fun q e=>by omega) HB3.out.size)
 have hp5:=setRow_heap (w3.setRow (w.heap.size + 1) #[.int .i64 kk,.int .i64 ki,.int .i64 kg,.string kn,.string kf,.int .i64 ka,u1,.string kb,.int .i64 ks]) (w.heap.size + 2) _ #[.int .i64 vk,.int .i64 vi,.int .i64 vg,.string vn,.string vf,.int .i64 va,u2,.string vb,.int .i64 vs] _ _ hq5
 have hp4:=(setRow_other (w3.setRow (w.heap.size + 1) #[.int .i64 kk,.int .i64 ki,.int .i64 kg,.string kn,.string kf,.int .i64 ka,u1,.string kb,.int .i64 ks]) (w.heap.size + 2) (w.heap.size + 1) #[.int .i64 vk,.int .i64 vi,.int .i64 vg,.string vn,.string vf,.int .i64 va,u2,.string vb,.int .i64 vs] (by omega)).trans hq4
 have hK1:=hM1.touch (touch_setRow (w3.setRow (w.heap.size + 1) #[.int .i64 kk,.int .i64 ki,.int .i64 kg,.string kn,.string kf,.int .i64 ka,u1,.string kb,.int .i64 ks]) (w.heap.size + 2) #[.int .i64 vk,.int .i64 vi,.int .i64 vg,.string vn,.string vf,.int .i64 va,u2,.string vb,.int .i64 vs]) (fun q e=>by subst e;omega)
 have hK2:=hM2.touch (touch_setRow (w3.setRow (w.heap.size + 1) #[.int .i64 kk,.int .i64 ki,.int .i64 kg,.string kn,.string kf,.int .i64 ka,u1,.string kb,.int .i64 ks]) (w.heap.size + 2) #[.int .i64 vk,.int .i64 vi,.int .i64 vg,.string vn,.string vf,.int .i64 va,u2,.string vb,.int .i64 vs]) (fun q e=>by subst e;omega)
 have hbp:=hbq.trans ((touch_setRow (w3.setRow (w.heap.size + 1) #[.int .i64 kk,.int .i64 ki,.int .i64 kg,.string kn,.string kf,.int .i64 ka,u1,.string kb,.int .i64 ks]) (w.heap.size + 2) #[.int .i64 vk,.int .i64 vi,.int .i64 vg,.string vn,.string vf,.int .i64 va,u2,.string vb,.int .i64 vs]).below (fun q e=>by omega) hbq.size)
 have hl4:=run_loadVar_mid (P:=Tryz.prog) _ (w.heap.size + 1) 0 24 [.int .i64 kk,.int .i64 ki,.int .i64 kg,.string kn,.string kf,.int .i64 ka,u1,.string kb,.int .i64 ks] _ (row_rng hp4) Tryz.underlying24 rfl hsz9
 have hl5:=run_loadVar_mid (P:=Tryz.prog) _ (w.heap.size + 2) 0 24 [.int .i64 vk,.int .i64 vi,.int .i64 vg,.string vn,.string vf,.int .i64 va,u2,.string vb,.int .i64 vs] _ (row_rng hp5) Tryz.underlying24 rfl hsz9
 have HZ4':=Lib.hid hz4
 have HQ5:=Lib.hid hq5
 have HF:=Lib.hid (And.intro hl4 (And.intro hl5 (And.intro hbp (And.intro (hK1.base (HB2.out.size)) (hK2.base (HB2.out.size))))))
 clear hl4 hl5 hp4 hp5 hK1 hK2 hbp hbq hM1 hM2 hq4 hq5 hz4 hz5 hbW hN1 hN2 hb3 HN1 HN2 HRo
 go_wp2_with (first
  | (refine wpList_store_row rfl 24 (.tmp 4) (.tmp 22) rfl (w.heap.size + 1) #[.int .i64 kk,.int .i64 ki,.int .i64 kg,.string kn,.string kf,.int .i64 ka,u1,.string kb,.int .i64 ks] rfl rfl 24 _ HZ4'.out hsz9 rfl ho1 ?_)
  | (refine wpList_store_row rfl 24 (.tmp 5) (.tmp 23) rfl (w.heap.size + 2) #[.int .i64 vk,.int .i64 vi,.int .i64 vg,.string vn,.string vf,.int .i64 va,u2,.string vb,.int .i64 vs] rfl rfl 24 _ HQ5.out hsz9 rfl ho2 ?_))
 (try simp only [Exit.inBlock,Exit.then])
 obtain ⟨hl4,hl5,hbp,hK1,hK2⟩:=HF.out
 refine bodyPost_ret (v:=.tuple #[.agg #[.int .i64 kk,.int .i64 ki,.int .i64 kg,.string kn,.string kf,.int .i64 ka,u1,.string kb,.int .i64 ks],.agg #[.int .i64 vk,.int .i64 vi,.int .i64 vg,.string vn,.string vf,.int .i64 va,u2,.string vb,.int .i64 vs],.bool true,.int .i64 0]) ?_ rfl ⟨F1,F2,u1,u2,rfl,hbp,hK1,hK2⟩
 have hA:∀ (a:Addr) (w:World),(asAddr (.pointer (some a))).run Tryz.prog w = .ok a w:=fun _ _=>rfl
 rw [results_cc rfl]
 simp [hA,hl4,hl5,Result.andThen]
end
theorem results_c2 {fn:Func} {p u v:Tmp} {ty:TypeId} (h:fn.results = #[.cell p ty,.tmp u,.tmp v]) (tmps:Array Value) (P:Program) (w:World) :
 (results fn tmps).run P w = ((asAddr (tmps.getD p undef)).run P w).andThen fun a w₁=>((loadVar ty a).run P w₁).andThen fun x w₂=>.ok (.tuple #[x,tmps.getD u undef,tmps.getD v undef]) w₂:=by
 simp only [results,h]
 simp [Sem.run_bind,Result.andThen]
theorem results_c1 {fn:Func} {p u:Tmp} {ty:TypeId} (h:fn.results = #[.cell p ty,.tmp u]) (tmps:Array Value) (P:Program) (w:World) :
 (results fn tmps).run P w = ((asAddr (tmps.getD p undef)).run P w).andThen fun a w₁=>((loadVar ty a).run P w₁).andThen fun x w₂=>.ok (.tuple #[x,tmps.getD u undef]) w₂:=by
 simp only [results,h]
 simp [Sem.run_bind,Result.andThen]
theorem zoneA:(#[.int .i64 0,.int .i64 0,.int .i64 0,.string ⟨#[]⟩,.string ⟨#[]⟩,.int .i64 0,.slice none 0 0,.string ⟨#[]⟩,.int .i64 0]:Array Value).all (·.oneCell') = true:=all_oneCell_toArray (nineL_one (f:=zeroF) (u:=nilV) rfl)
def GetP {N:Nat} (v:Tm (N + 1)) (w:World) (e:Ending) (w':World):Prop:=∃ F1 u,e = .returned (.tuple #[aggV v.f u,.bool true,.int .i64 0])∧Below w.heap.size w w'∧NewI w w' F1 N u v.items
section
variable {N:Nat} {w w':World} {B:Nat} {F:Nat→Prop} {s:TbSt N}
theorem get32e (h:TbAt w B F s) (hlen:s.tabs.length ≤ 1000) {r k:Tm (N + 1)} {ur uk:Value} {B2:Nat} (hB:B2 ≤ w.heap.size) (hI:ItemsAt w B2 N ur r.items) (hJ:ItemsAt w B2 N uk k.items) (hnk:nodesT k ≤ 100000000) {er:Int} (he:er ≠ 0) (hKR:KeyR s.tabs r k none er) :
 Calls Tryz.prog 32 #[.pointer (some ⟨s.z,0,none⟩),aggV r.f ur,aggV k.f uk] w fun e w'=>e = .returned (.tuple #[.agg #[.int .i64 0,.int .i64 0,.int .i64 0,.string ⟨#[]⟩,.string ⟨#[]⟩,.int .i64 0,.slice none 0 0,.string ⟨#[]⟩,.int .i64 0],.bool false,.int .i64 er])∧Below w.heap.size w w':=by
 have HKy:=Lib.hid (fun (W:World) (hW:Below w.heap.size w W)=>keyed55 (h.below hW) hlen (Nat.le_trans hB hW.size) (hI.below hW hB) (hJ.below hW hB) (by omega) (po:=none) (er:=er) hKR)
 obtain ⟨pr,cr,er1,_,_⟩:=hI.shape
 obtain ⟨pk,ck,ek,_,_⟩:=hJ.shape
 rw [er1] at HKy ⊢
 rw [ek] at HKy ⊢
 clear h hlen hB hI hJ hnk hKR er1 ek
 generalize s.z = z at *
 generalize r.items.length = nr at *
 generalize k.items.length = nk at *
 generalize r.f = fr at *
 generalize k.f = fk at *
 obtain ⟨rk,ri,rg,rn,rf,ra,rb,rs⟩:=fr
 obtain ⟨kk,ki,kg,kn,kf,ka,kb,ks⟩:=fk
 unfold aggV at *
 dsimp only at *
 have hsz9:(Tryz.prog.info? 24).map (·.size) = some 9:=by kernel_rfl
 obtain ⟨hb0,hs1,hz4,hz5,hz6⟩:=three_heap w (.cells #[.int .i64 rk,.int .i64 ri,.int .i64 rg,.string rn,.string rf,.int .i64 ra,.slice pr nr cr,.string rb,.int .i64 rs] 24) (.cells #[.int .i64 kk,.int .i64 ki,.int .i64 kg,.string kn,.string kf,.int .i64 ka,.slice pk nk ck,.string kb,.int .i64 ks] 24) (.cells #[.int .i64 0,.int .i64 0,.int .i64 0,.string ⟨#[]⟩,.string ⟨#[]⟩,.int .i64 0,.slice none 0 0,.string ⟨#[]⟩,.int .i64 0] 24)
 go_enter Tryz.func32,Tryz.ntmps32
 go_upto_region 1 with (fail)
 generalize (((w.alloc (.cells #[.int .i64 rk,.int .i64 ri,.int .i64 rg,.string rn,.string rf,.int .i64 ra,.slice pr nr cr,.string rb,.int .i64 rs] 24)).alloc (.cells #[.int .i64 kk,.int .i64 ki,.int .i64 kg,.string kn,.string kf,.int .i64 ka,.slice pk nk ck,.string kb,.int .i64 ks] 24)).alloc (.cells #[.int .i64 0,.int .i64 0,.int .i64 0,.string ⟨#[]⟩,.string ⟨#[]⟩,.int .i64 0,.slice none 0 0,.string ⟨#[]⟩,.int .i64 0] 24)) = W1 at *
 have HL4:=Lib.hid (row_rng hz4)
 have HL5:=Lib.hid (row_rng hz5)
 have HZ5:=Lib.hid hz5
 have HZ6:=Lib.hid hz6
 have HB0:=Lib.hid hb0
 clear hz4 hz5 hz6 hb0
 go_wp2_with (first
  | (refine wpList_load_mid rfl 24 (.tmp 4) rfl w.heap.size 0 rfl [.int .i64 rk,.int .i64 ri,.int .i64 rg,.string rn,.string rf,.int .i64 ra,.slice pr nr cr,.string rb,.int .i64 rs] _ HL4.out Tryz.underlying24 rfl hsz9 ?_)
  | (refine wpList_load_mid rfl 24 (.tmp 5) rfl (w.heap.size + 1) 0 rfl [.int .i64 kk,.int .i64 ki,.int .i64 kg,.string kn,.string kf,.int .i64 ka,.slice pk nk ck,.string kb,.int .i64 ks] _ HL5.out Tryz.underlying24 rfl hsz9 ?_))
 refine (HKy.out _ HB0.out).mono ?_
 rintro e w2 ⟨rfl,hb2⟩
 have HB2:=Lib.hid (HB0.out.trans (hb2.mono HB0.out.size))
 have HW2:=Lib.hid hb2
 clear HL4 HL5 hb2 HKy HB0
 have hz6:=(HW2.out.block (w.heap.size + 2) (by omega)).trans HZ6.out
 have hq6:=setRow_heap w2 (w.heap.size + 2) _ #[.int .i64 0,.int .i64 0,.int .i64 0,.string ⟨#[]⟩,.string ⟨#[]⟩,.int .i64 0,.slice none 0 0,.string ⟨#[]⟩,.int .i64 0] _ _ hz6
 have hbq:=HB2.out.trans ((touch_setRow w2 (w.heap.size + 2) #[.int .i64 0,.int .i64 0,.int .i64 0,.string ⟨#[]⟩,.string ⟨#[]⟩,.int .i64 0,.slice none 0 0,.string ⟨#[]⟩,.int .i64 0]).below (fun q e=>by omega) HB2.out.size)
 have HZ:=Lib.hid hz6
 have HF:=Lib.hid (And.intro (run_loadVar_mid (P:=Tryz.prog) _ (w.heap.size + 2) 0 24 [.int .i64 0,.int .i64 0,.int .i64 0,.string ⟨#[]⟩,.string ⟨#[]⟩,.int .i64 0,.slice none 0 0,.string ⟨#[]⟩,.int .i64 0] _ (row_rng hq6) Tryz.underlying24 rfl hsz9) hbq)
 clear hz6 hq6 hbq
 go_wp2_with (first
  | (refine wpList_store_row rfl 24 (.tmp 6) (.tmp 22) rfl (w.heap.size + 2) #[.int .i64 0,.int .i64 0,.int .i64 0,.string ⟨#[]⟩,.string ⟨#[]⟩,.int .i64 0,.slice none 0 0,.string ⟨#[]⟩,.int .i64 0] rfl rfl 24 _ HZ.out hsz9 rfl zoneA ?_))
 (try simp only [Exit.inBlock,Exit.then])
 obtain ⟨hl6,hbp⟩:=HF.out
 refine bodyPost_ret (v:=.tuple #[.agg #[.int .i64 0,.int .i64 0,.int .i64 0,.string ⟨#[]⟩,.string ⟨#[]⟩,.int .i64 0,.slice none 0 0,.string ⟨#[]⟩,.int .i64 0],.bool false,.int .i64 er]) ?_ rfl ⟨rfl,hbp⟩
 have hA:∀ (a:Addr) (w:World),(asAddr (.pointer (some a))).run Tryz.prog w = .ok a w:=fun _ _=>rfl
 rw [results_c2 rfl]
 simp [hA,hl6,Result.andThen]
theorem get32n (h:TbAt w B F s) (hlen:s.tabs.length ≤ 1000) {r k:Tm (N + 1)} {ur uk:Value} {B2:Nat} (hB:B2 ≤ w.heap.size) (hI:ItemsAt w B2 N ur r.items) (hJ:ItemsAt w B2 N uk k.items) (hnk:nodesT k ≤ 100000000) (hvk:validT k = true) {i:Nat} (hi:i < s.tabs.length) (hr:refAt s.tabs r = some i) (hok:FindOK s.tabs[i] k) (hno:hasK s.tabs[i] k = false) :
 Calls Tryz.prog 32 #[.pointer (some ⟨s.z,0,none⟩),aggV r.f ur,aggV k.f uk] w fun e w'=>e = .returned (.tuple #[.agg #[.int .i64 0,.int .i64 0,.int .i64 0,.string ⟨#[]⟩,.string ⟨#[]⟩,.int .i64 0,.slice none 0 0,.string ⟨#[]⟩,.int .i64 0],.bool false,.int .i64 0])∧Below w.heap.size w w':=by
 have ht:=h.tabs _ (List.getElem_mem hi)
 have hKR:KeyR s.tabs r k (some ⟨(s.tabs[i]).b,0,none⟩) 0:=.inr ⟨hvk,.inr ⟨i,hi,hr,rfl,rfl⟩⟩
 have HFi:=Lib.hid (fun (W:World) (hW:Below w.heap.size w W)=>find56 (ht.below hW h.fl) (fun g hg=>Nat.lt_of_lt_of_le (h.fl g hg) hW.size) (Nat.le_trans hB hW.size) (hJ.below hW hB) (by omega) hok)
 have HKy:=Lib.hid (fun (W:World) (hW:Below w.heap.size w W)=>keyed55 (h.below hW) hlen (Nat.le_trans hB hW.size) (hI.below hW hB) (hJ.below hW hB) (by omega) (po:=some ⟨(s.tabs[i]).b,0,none⟩) (er:=0) hKR)
 obtain ⟨pr,cr,er1,_,_⟩:=hI.shape
 obtain ⟨pk,ck,ek,_,_⟩:=hJ.shape
 rw [er1] at HKy ⊢
 rw [ek] at HKy HFi ⊢
 rw [hno] at HFi
 generalize posK s.tabs[i] k = pos at *
 generalize (s.tabs[i]).b = tb at *
 clear h hlen hB hI hJ hnk hKR er1 ek ht hok hno hr hi hvk
 generalize s.z = z at *
 generalize r.items.length = nr at *
 generalize k.items.length = nk at *
 generalize r.f = fr at *
 generalize k.f = fk at *
 obtain ⟨rk,ri,rg,rn,rf,ra,rb,rs⟩:=fr
 obtain ⟨kk,ki,kg,kn,kf,ka,kb,ks⟩:=fk
 unfold aggV at *
 dsimp only at *
 have hsz9:(Tryz.prog.info? 24).map (·.size) = some 9:=by kernel_rfl
 obtain ⟨hb0,hs1,hz4,hz5,hz6⟩:=three_heap w (.cells #[.int .i64 rk,.int .i64 ri,.int .i64 rg,.string rn,.string rf,.int .i64 ra,.slice pr nr cr,.string rb,.int .i64 rs] 24) (.cells #[.int .i64 kk,.int .i64 ki,.int .i64 kg,.string kn,.string kf,.int .i64 ka,.slice pk nk ck,.string kb,.int .i64 ks] 24) (.cells #[.int .i64 0,.int .i64 0,.int .i64 0,.string ⟨#[]⟩,.string ⟨#[]⟩,.int .i64 0,.slice none 0 0,.string ⟨#[]⟩,.int .i64 0] 24)
 go_enter Tryz.func32,Tryz.ntmps32
 go_upto_region 1 with (fail)
 generalize (((w.alloc (.cells #[.int .i64 rk,.int .i64 ri,.int .i64 rg,.string rn,.string rf,.int .i64 ra,.slice pr nr cr,.string rb,.int .i64 rs] 24)).alloc (.cells #[.int .i64 kk,.int .i64 ki,.int .i64 kg,.string kn,.string kf,.int .i64 ka,.slice pk nk ck,.string kb,.int .i64 ks] 24)).alloc (.cells #[.int .i64 0,.int .i64 0,.int .i64 0,.string ⟨#[]⟩,.string ⟨#[]⟩,.int .i64 0,.slice none 0 0,.string ⟨#[]⟩,.int .i64 0] 24)) = W1 at *
 have HL4:=Lib.hid (row_rng hz4)
 have HL5:=Lib.hid (row_rng hz5)
 have HZ5:=Lib.hid hz5
 have HZ6:=Lib.hid hz6
 have HB0:=Lib.hid hb0
 clear hz4 hz5 hz6 hb0
 go_wp2_with (first
  | (refine wpList_load_mid rfl 24 (.tmp 4) rfl w.heap.size 0 rfl [.int .i64 rk,.int .i64 ri,.int .i64 rg,.string rn,.string rf,.int .i64 ra,.slice pr nr cr,.string rb,.int .i64 rs] _ HL4.out Tryz.underlying24 rfl hsz9 ?_)
  | (refine wpList_load_mid rfl 24 (.tmp 5) rfl (w.heap.size + 1) 0 rfl [.int .i64 kk,.int .i64 ki,.int .i64 kg,.string kn,.string kf,.int .i64 ka,.slice pk nk ck,.string kb,.int .i64 ks] _ HL5.out Tryz.underlying24 rfl hsz9 ?_))
 refine (HKy.out _ HB0.out).mono ?_
 rintro e w2 ⟨rfl,hb2⟩
 have HB2:=Lib.hid (HB0.out.trans (hb2.mono HB0.out.size))
 have HW2:=Lib.hid hb2
 clear HL4 HL5 hb2 HKy HB0
 have hb5:=HB2.out
 have hz5:=(HW2.out.block (w.heap.size + 1) (by omega)).trans HZ5.out
 have HL5:=Lib.hid (row_rng hz5)
 clear hb5 hz5
 go_wp2_with (first
  | (refine wpList_load_mid rfl 24 (.tmp 5) rfl (w.heap.size + 1) 0 rfl [.int .i64 kk,.int .i64 ki,.int .i64 kg,.string kn,.string kf,.int .i64 ka,.slice pk nk ck,.string kb,.int .i64 ks] _ HL5.out Tryz.underlying24 rfl hsz9 ?_))
 refine (HFi.out _ HB2.out).mono ?_
 rintro e w3 ⟨rfl,hb3⟩
 have HB3:=Lib.hid (HB2.out.trans (hb3.mono HB2.out.size))
 have HW3:=Lib.hid (HW2.out.trans (hb3.mono HW2.out.size))
 clear hb3 HB2 HW2 HL5 HFi
 have hz6:=(HW3.out.block (w.heap.size + 2) (by omega)).trans HZ6.out
 have hq6:=setRow_heap w3 (w.heap.size + 2) _ #[.int .i64 0,.int .i64 0,.int .i64 0,.string ⟨#[]⟩,.string ⟨#[]⟩,.int .i64 0,.slice none 0 0,.string ⟨#[]⟩,.int .i64 0] _ _ hz6
 have hbq:=HB3.out.trans ((touch_setRow w3 (w.heap.size + 2) #[.int .i64 0,.int .i64 0,.int .i64 0,.string ⟨#[]⟩,.string ⟨#[]⟩,.int .i64 0,.slice none 0 0,.string ⟨#[]⟩,.int .i64 0]).below (fun q e=>by omega) HB3.out.size)
 have HZ:=Lib.hid hz6
 have HF:=Lib.hid (And.intro (run_loadVar_mid (P:=Tryz.prog) _ (w.heap.size + 2) 0 24 [.int .i64 0,.int .i64 0,.int .i64 0,.string ⟨#[]⟩,.string ⟨#[]⟩,.int .i64 0,.slice none 0 0,.string ⟨#[]⟩,.int .i64 0] _ (row_rng hq6) Tryz.underlying24 rfl hsz9) hbq)
 clear hz6 hq6 hbq
 go_wp2_with (first
  | (refine wpList_store_row rfl 24 (.tmp 6) (.tmp 32) rfl (w.heap.size + 2) #[.int .i64 0,.int .i64 0,.int .i64 0,.string ⟨#[]⟩,.string ⟨#[]⟩,.int .i64 0,.slice none 0 0,.string ⟨#[]⟩,.int .i64 0] rfl rfl 24 _ HZ.out hsz9 rfl zoneA ?_))
 (try simp only [Exit.inBlock,Exit.then])
 obtain ⟨hl6,hbp⟩:=HF.out
 refine bodyPost_ret (v:=.tuple #[.agg #[.int .i64 0,.int .i64 0,.int .i64 0,.string ⟨#[]⟩,.string ⟨#[]⟩,.int .i64 0,.slice none 0 0,.string ⟨#[]⟩,.int .i64 0],.bool false,.int .i64 0]) ?_ rfl ⟨rfl,hbp⟩
 have hA:∀ (a:Addr) (w:World),(asAddr (.pointer (some a))).run Tryz.prog w = .ok a w:=fun _ _=>rfl
 rw [results_c2 rfl]
 simp [hA,hl6,Result.andThen]
theorem get32y (h:TbAt w B F s) (hlen:s.tabs.length ≤ 1000) {r k:Tm (N + 1)} {ur uk:Value} {B2:Nat} (hB:B2 ≤ w.heap.size) (hI:ItemsAt w B2 N ur r.items) (hJ:ItemsAt w B2 N uk k.items) (hnk:nodesT k ≤ 100000000) (hvk:validT k = true) {i:Nat} (hi:i < s.tabs.length) (hr:refAt s.tabs r = some i) (hok:FindOK s.tabs[i] k) (hyes:hasK s.tabs[i] k = true) (hp:posK s.tabs[i] k < (s.tabs[i]).rows.length) (hnv:nodesT ((s.tabs[i]).rows[posK s.tabs[i] k]).v ≤ 100000000) :
 Calls Tryz.prog 32 #[.pointer (some ⟨s.z,0,none⟩),aggV r.f ur,aggV k.f uk] w (GetP ((s.tabs[i]).rows[posK s.tabs[i] k]).v w):=by
 have ht:=h.tabs _ (List.getElem_mem hi)
 have hKR:KeyR s.tabs r k (some ⟨(s.tabs[i]).b,0,none⟩) 0:=.inr ⟨hvk,.inr ⟨i,hi,hr,rfl,rfl⟩⟩
 have HFi:=Lib.hid (fun (W:World) (hW:Below w.heap.size w W)=>find56 (ht.below hW h.fl) (fun g hg=>Nat.lt_of_lt_of_le (h.fl g hg) hW.size) (Nat.le_trans hB hW.size) (hJ.below hW hB) (by omega) hok)
 have HKy:=Lib.hid (fun (W:World) (hW:Below w.heap.size w W)=>keyed55 (h.below hW) hlen (Nat.le_trans hB hW.size) (hI.below hW hB) (hJ.below hW hB) (by omega) (po:=some ⟨(s.tabs[i]).b,0,none⟩) (er:=0) hKR)
 obtain ⟨pr,cr,er1,_,_⟩:=hI.shape
 obtain ⟨pk,ck,ek,_,_⟩:=hJ.shape
 rw [er1] at HKy ⊢
 rw [ek] at HKy HFi ⊢
 rw [hyes] at HFi
 have hiv:=(ht.irow _ (List.getElem_mem hp)).2
 have HC:=Lib.hid (fun (W:World) (hW:Below w.heap.size w W)=>copyAll N W w.heap.size ((s.tabs[i]).rows[posK s.tabs[i] k]).uv ((s.tabs[i]).rows[posK s.tabs[i] k]).v hW.size ((hiv.toAt h.fl).below hW (Nat.le_refl _)) hnv)
 obtain ⟨g,c,ev,hg,hx3,hcv,hx4⟩:=ht.rowc hp
 have htb:=ht.lt
 have HRg:Hid (∀ W,Below w.heap.size w W→W.cell? ⟨(s.tabs[i]).b,19,none⟩ = some (.slice (some ⟨g,0,none⟩) (s.tabs[i]).rows.length c)∧W.rangeAt g (posK s.tabs[i] k * 19 + 9) (nineL ((s.tabs[i]).rows[posK s.tabs[i] k]).v.f ((s.tabs[i]).rows[posK s.tabs[i] k]).uv)) :=
  Lib.hid (fun W hW=>⟨by rw [← ev];exact cell_keep hW htb (tab_cells ht.blk).2.2.2.1,rng_same (cells_rng hcv) (hW.block g hg)⟩)
 obtain ⟨pv,cv,e2,hx1,hx2⟩:=ItemsIn.shape hiv
 have hpz:(posK s.tabs[i] k:Int) < ((s.tabs[i]).rows.length:Int):=by omega
 have hlr:=hok.len
 rw [e2] at HC HRg
 unfold GetP
 clear hcv e2 hiv hnv ev hok hx1 hx2 hx3 hx4
 generalize hvt:((s.tabs[i]).rows[posK s.tabs[i] k]).v = vt at *
 clear hvt hp hr hyes hKR
 generalize posK s.tabs[i] k = pos at *
 generalize (s.tabs[i]).rows.length = n at *
 clear ht
 generalize (s.tabs[i]).b = tb at *
 clear h hlen hB hI hJ hnk er1 ek hi hvk
 generalize s.z = z at *
 generalize r.items.length = nr at *
 generalize k.items.length = nk at *
 generalize r.f = fr at *
 generalize k.f = fk at *
 generalize vt.items.length = nv at *
 generalize vt.items = vil at *
 generalize vt.f = fv at *
 obtain ⟨rk,ri,rg,rn,rf,ra,rb,rs⟩:=fr
 obtain ⟨kk,ki,kg,kn,kf,ka,kb,ks⟩:=fk
 obtain ⟨vk,vi,vg,vn,vf,va,vb,vs⟩:=fv
 unfold aggV at *
 unfold nineL at HRg
 dsimp only at *
 have hsz9:(Tryz.prog.info? 24).map (·.size) = some 9:=by kernel_rfl
 obtain ⟨hb0,hs1,hz4,hz5,hz6⟩:=three_heap w (.cells #[.int .i64 rk,.int .i64 ri,.int .i64 rg,.string rn,.string rf,.int .i64 ra,.slice pr nr cr,.string rb,.int .i64 rs] 24) (.cells #[.int .i64 kk,.int .i64 ki,.int .i64 kg,.string kn,.string kf,.int .i64 ka,.slice pk nk ck,.string kb,.int .i64 ks] 24) (.cells #[.int .i64 0,.int .i64 0,.int .i64 0,.string ⟨#[]⟩,.string ⟨#[]⟩,.int .i64 0,.slice none 0 0,.string ⟨#[]⟩,.int .i64 0] 24)
 go_enter Tryz.func32,Tryz.ntmps32
 go_upto_region 1 with (fail)
 generalize (((w.alloc (.cells #[.int .i64 rk,.int .i64 ri,.int .i64 rg,.string rn,.string rf,.int .i64 ra,.slice pr nr cr,.string rb,.int .i64 rs] 24)).alloc (.cells #[.int .i64 kk,.int .i64 ki,.int .i64 kg,.string kn,.string kf,.int .i64 ka,.slice pk nk ck,.string kb,.int .i64 ks] 24)).alloc (.cells #[.int .i64 0,.int .i64 0,.int .i64 0,.string ⟨#[]⟩,.string ⟨#[]⟩,.int .i64 0,.slice none 0 0,.string ⟨#[]⟩,.int .i64 0] 24)) = W1 at *
 have HL4:=Lib.hid (row_rng hz4)
 have HL5:=Lib.hid (row_rng hz5)
 have HZ5:=Lib.hid hz5
 have HZ6:=Lib.hid hz6
 have HB0:=Lib.hid hb0
 clear hz4 hz5 hz6 hb0
 go_wp2_with (first
  | (refine wpList_load_mid rfl 24 (.tmp 4) rfl w.heap.size 0 rfl [.int .i64 rk,.int .i64 ri,.int .i64 rg,.string rn,.string rf,.int .i64 ra,.slice pr nr cr,.string rb,.int .i64 rs] _ HL4.out Tryz.underlying24 rfl hsz9 ?_)
  | (refine wpList_load_mid rfl 24 (.tmp 5) rfl (w.heap.size + 1) 0 rfl [.int .i64 kk,.int .i64 ki,.int .i64 kg,.string kn,.string kf,.int .i64 ka,.slice pk nk ck,.string kb,.int .i64 ks] _ HL5.out Tryz.underlying24 rfl hsz9 ?_))
 refine (HKy.out _ HB0.out).mono ?_
 rintro e w2 ⟨rfl,hb2⟩
 have HB2:=Lib.hid (HB0.out.trans (hb2.mono HB0.out.size))
 have HW2:=Lib.hid hb2
 clear HL4 HL5 hb2 HKy HB0
 have hb5:=HB2.out
 have hz5:=(HW2.out.block (w.heap.size + 1) (by omega)).trans HZ5.out
 have HL5:=Lib.hid (row_rng hz5)
 clear hb5 hz5
 go_wp2_with (first
  | (refine wpList_load_mid rfl 24 (.tmp 5) rfl (w.heap.size + 1) 0 rfl [.int .i64 kk,.int .i64 ki,.int .i64 kg,.string kn,.string kf,.int .i64 ka,.slice pk nk ck,.string kb,.int .i64 ks] _ HL5.out Tryz.underlying24 rfl hsz9 ?_))
 refine (HFi.out _ HB2.out).mono ?_
 rintro e w3 ⟨rfl,hb3⟩
 have HB3:=Lib.hid (HB2.out.trans (hb3.mono HB2.out.size))
 have HW3:=Lib.hid (HW2.out.trans (hb3.mono HW2.out.size))
 clear hb3 HB2 HW2 HL5 HFi
 obtain ⟨hc19,l7⟩:=HRg.out _ HB3.out
 have HL7:=Lib.hid l7
 clear l7
 go_wp2_with (first
  | (refine wpList_load_mid rfl 24 (.tmp 39) rfl g (pos * 19 + 9) rfl [.int .i64 vk,.int .i64 vi,.int .i64 vg,.string vn,.string vf,.int .i64 va,.slice pv nv cv,.string vb,.int .i64 vs] _ HL7.out Tryz.underlying24 rfl hsz9 ?_))
 refine (HC.out _ HB3.out).mono ?_
 rintro e w4 ⟨F1,g1,rfl,hN,_⟩
 dsimp only [aggV]
 have hN1:=NewI.of (w0:=W1) hN HW3.out.size
 have hbW:=HW3.out.trans (hN.below.mono HW3.out.size)
 have hbd:=HB3.out.trans (hN.below.mono HB3.out.size)
 have hz6:=(hbW.block (w.heap.size + 2) (by omega)).trans HZ6.out
 have hq6:=setRow_heap w4 (w.heap.size + 2) _ #[.int .i64 vk,.int .i64 vi,.int .i64 vg,.string vn,.string vf,.int .i64 va,.slice (some ⟨g1,0,none⟩) vil.length vil.length,.string vb,.int .i64 vs] _ _ hz6
 have hbq:=hbd.trans ((touch_setRow w4 (w.heap.size + 2) #[.int .i64 vk,.int .i64 vi,.int .i64 vg,.string vn,.string vf,.int .i64 va,.slice (some ⟨g1,0,none⟩) vil.length vil.length,.string vb,.int .i64 vs]).below (fun q e=>by omega) hbd.size)
 have hM1:=(hN1.touch (touch_setRow w4 (w.heap.size + 2) #[.int .i64 vk,.int .i64 vi,.int .i64 vg,.string vn,.string vf,.int .i64 va,.slice (some ⟨g1,0,none⟩) vil.length vil.length,.string vb,.int .i64 vs]) (fun q e=>by subst e;omega)).base (w0:=w) (by omega)
 have ho1:(#[.int .i64 vk,.int .i64 vi,.int .i64 vg,.string vn,.string vf,.int .i64 va,.slice (some ⟨g1,0,none⟩) vil.length vil.length,.string vb,.int .i64 vs]:Array Value).all (·.oneCell') = true:=all_oneCell_toArray (nineL_one (f:=⟨vk,vi,vg,vn,vf,va,vb,vs⟩) (u:=.slice (some ⟨g1,0,none⟩) vil.length vil.length) rfl)
 have HZ:=Lib.hid hz6
 have HF:=Lib.hid (And.intro (run_loadVar_mid (P:=Tryz.prog) _ (w.heap.size + 2) 0 24 [.int .i64 vk,.int .i64 vi,.int .i64 vg,.string vn,.string vf,.int .i64 va,.slice (some ⟨g1,0,none⟩) vil.length vil.length,.string vb,.int .i64 vs] _ (row_rng hq6) Tryz.underlying24 rfl hsz9) (And.intro hbq hM1))
 clear hz6 hq6 hbq hM1 hN1 hN hbW hbd
 go_wp2_with (first
  | (refine wpList_store_row rfl 24 (.tmp 6) (.tmp 41) rfl (w.heap.size + 2) #[.int .i64 vk,.int .i64 vi,.int .i64 vg,.string vn,.string vf,.int .i64 va,.slice (some ⟨g1,0,none⟩) vil.length vil.length,.string vb,.int .i64 vs] rfl rfl 24 _ HZ.out hsz9 rfl ho1 ?_))
 (try simp only [Exit.inBlock,Exit.then])
 obtain ⟨hl6,hbp,hM⟩:=HF.out
 refine bodyPost_ret (v:=.tuple #[.agg #[.int .i64 vk,.int .i64 vi,.int .i64 vg,.string vn,.string vf,.int .i64 va,.slice (some ⟨g1,0,none⟩) vil.length vil.length,.string vb,.int .i64 vs],.bool true,.int .i64 0]) ?_ rfl ⟨F1,_,rfl,hbp,hM⟩
 have hA:∀ (a:Addr) (w:World),(asAddr (.pointer (some a))).run Tryz.prog w = .ok a w:=fun _ _=>rfl
 rw [results_c2 rfl]
 simp [hA,hl6,Result.andThen]
end
section
variable {N:Nat} {w w':World} {B:Nat} {F:Nat→Prop} {s:TbSt N}
end
section
variable {N:Nat} {w w':World} {B:Nat} {F:Nat→Prop} {s:TbSt N}
theorem put24v (h:TbAt w B F s) (hlen:s.tabs.length ≤ 1000) {r k v:Tm (N + 1)} {ur uk uv:Value} {B2:Nat} (hBw:B2 ≤ w.heap.size) (hI:ItemsAt w B2 N ur r.items) (hJ:ItemsAt w B2 N uk k.items) (hV:ItemsAt w B2 N uv v.items) (hnk:nodesT k ≤ 100000000) (hnv:nodesT v ≤ 100000000) (hvv:validT v = false) :
 Calls Tryz.prog 24 #[.pointer (some ⟨s.z,0,none⟩),aggV r.f ur,aggV k.f uk,aggV v.f uv] w fun e w'=>e = .returned (.int .i64 2)∧Below w.heap.size w w':=by
 have HV:=Lib.hid (fun (W:World) (hW:Below w.heap.size w W)=>ValidTm (ofAll N) W B2 uv v (Nat.le_trans hBw hW.size) (hV.below hW hBw) (by omega))
 have HO:=Lib.hid (fun (W:World) (hW:Below w.heap.size w W)=>two_cells (h.below hW).obj)
 obtain ⟨pr,cr,er1,_,_⟩:=hI.shape
 obtain ⟨pk,ck,ek,_,_⟩:=hJ.shape
 obtain ⟨pv,cv,ev,_,_⟩:=hV.shape
 obtain ⟨pw,cw,ew,_,_⟩:=h.l.shape
 rw [ew] at HO
 clear h hlen hI hJ hV hnk hnv hBw 
 generalize s.z = z at *
 rw [hvv] at HV
 rw [er1] 
 rw [ek] 
 rw [ev] at HV ⊢
 generalize r.items.length = nr at *
 generalize k.items.length = nk at *
 generalize v.items.length = nv at *
 generalize r.f = fr at *
 generalize k.f = fk at *
 generalize v.f = fv at *
 clear er1 ek ev hvv ew
 obtain ⟨rk,ri,rg,rn,rf,ra,rb,rs⟩:=fr
 obtain ⟨kk,ki,kg,kn,kf,ka,kb,ks⟩:=fk
 obtain ⟨vk,vi,vg,vn,vf,va,vb,vs⟩:=fv
 unfold aggV at *
 unfold BPost at HV
 dsimp only at *
 have hsz9:(Tryz.prog.info? 24).map (·.size) = some 9:=by kernel_rfl
 obtain ⟨hb0,hX0⟩:=three_boxes w (.cells #[.int .i64 rk,.int .i64 ri,.int .i64 rg,.string rn,.string rf,.int .i64 ra,.slice pr nr cr,.string rb,.int .i64 rs] 24) (.cells #[.int .i64 kk,.int .i64 ki,.int .i64 kg,.string kn,.string kf,.int .i64 ka,.slice pk nk ck,.string kb,.int .i64 ks] 24) (.cells #[.int .i64 vk,.int .i64 vi,.int .i64 vg,.string vn,.string vf,.int .i64 va,.slice pv nv cv,.string vb,.int .i64 vs] 24) (x1:=[.int .i64 rk,.int .i64 ri,.int .i64 rg,.string rn,.string rf,.int .i64 ra,.slice pr nr cr,.string rb,.int .i64 rs]) (x2:=[.int .i64 kk,.int .i64 ki,.int .i64 kg,.string kn,.string kf,.int .i64 ka,.slice pk nk ck,.string kb,.int .i64 ks]) (x3:=[.int .i64 vk,.int .i64 vi,.int .i64 vg,.string vn,.string vf,.int .i64 va,.slice pv nv cv,.string vb,.int .i64 vs]) rfl rfl rfl (S:=fun q=>q < w.heap.size) (fun _ q=>q)
 go_enter Tryz.func24,Tryz.ntmps24
 go_upto_region 1 with (fail)
 generalize (((w.alloc (.cells #[.int .i64 rk,.int .i64 ri,.int .i64 rg,.string rn,.string rf,.int .i64 ra,.slice pr nr cr,.string rb,.int .i64 rs] 24)).alloc (.cells #[.int .i64 kk,.int .i64 ki,.int .i64 kg,.string kn,.string kf,.int .i64 ka,.slice pk nk ck,.string kb,.int .i64 ks] 24)).alloc (.cells #[.int .i64 vk,.int .i64 vi,.int .i64 vg,.string vn,.string vf,.int .i64 va,.slice pv nv cv,.string vb,.int .i64 vs] 24)) = W1 at *
 obtain ⟨_,_,l7⟩:=hX0 _ (TouchB.refl _ _)
 have HB0:=Lib.hid hb0
 have HX:=Lib.hid hX0
 obtain ⟨o0,o1,of⟩:=HO.out _ hb0
 have y0:=l7 0 _ rfl
 have y1:=l7 1 _ rfl
 have y2:=l7 2 _ rfl
 have y3:=l7 3 _ rfl
 have y4:=l7 4 _ rfl
 have y5:=l7 5 _ rfl
 have y6:=l7 6 _ rfl
 have y7:=l7 7 _ rfl
 have y8:=l7 8 _ rfl
 simp only [Nat.reduceAdd] at y0 y1 y2 y3 y4 y5 y6 y7 y8
 clear hb0 hX0 l7
 go_wp2_with fail
 refine (HV.out _ HB0.out).mono ?_
 rintro e w2 ⟨rfl,hb2⟩
 have HB2:=Lib.hid (HB0.out.trans (hb2.mono HB0.out.size))
 have HT2:=Lib.hid ((TouchB.refl (fun q=>q < w.heap.size) W1).ofBelow hb2 (Nat.le_refl _))
 obtain ⟨l5,l6,_⟩:=HX.out _ HT2.out
 clear y0 y1 y2 y3 y4 y5 y6 y7 y8 o0 o1 of hb2
 have HL5:=Lib.hid l5
 have HL6:=Lib.hid l6
 clear l5 l6
 go_wp2_with fail
 go_ret
 exact ⟨rfl,HB2.out⟩
theorem put24e (h:TbAt w B F s) (hlen:s.tabs.length ≤ 1000) {r k v:Tm (N + 1)} {ur uk uv:Value} {B2:Nat} (hBw:B2 ≤ w.heap.size) (hI:ItemsAt w B2 N ur r.items) (hJ:ItemsAt w B2 N uk k.items) (hV:ItemsAt w B2 N uv v.items) (hnk:nodesT k ≤ 100000000) (hnv:nodesT v ≤ 100000000) (hvv:validT v = true) {er:Int} (he:er ≠ 0) (hKR:KeyR s.tabs r k none er) :
 Calls Tryz.prog 24 #[.pointer (some ⟨s.z,0,none⟩),aggV r.f ur,aggV k.f uk,aggV v.f uv] w fun e w'=>e = .returned (.int .i64 er)∧Below w.heap.size w w':=by
 have HV:=Lib.hid (fun (W:World) (hW:Below w.heap.size w W)=>ValidTm (ofAll N) W B2 uv v (Nat.le_trans hBw hW.size) (hV.below hW hBw) (by omega))
 have HKy:=Lib.hid (fun (W:World) (hW:Below w.heap.size w W)=>keyed55 (h.below hW) hlen (Nat.le_trans hBw hW.size) (hI.below hW hBw) (hJ.below hW hBw) (by omega) hKR)
 have HO:=Lib.hid (fun (W:World) (hW:Below w.heap.size w W)=>two_cells (h.below hW).obj)
 obtain ⟨pr,cr,er1,_,_⟩:=hI.shape
 obtain ⟨pk,ck,ek,_,_⟩:=hJ.shape
 obtain ⟨pv,cv,ev,_,_⟩:=hV.shape
 obtain ⟨pw,cw,ew,_,_⟩:=h.l.shape
 rw [ew] at HO
 clear h hlen hI hJ hV hnk hnv hBw hKR
 generalize s.z = z at *
 rw [hvv] at HV
 rw [er1] at HKy ⊢
 rw [ek] at HKy ⊢
 rw [ev] at HV ⊢
 generalize r.items.length = nr at *
 generalize k.items.length = nk at *
 generalize v.items.length = nv at *
 generalize r.f = fr at *
 generalize k.f = fk at *
 generalize v.f = fv at *
 clear er1 ek ev hvv ew
 obtain ⟨rk,ri,rg,rn,rf,ra,rb,rs⟩:=fr
 obtain ⟨kk,ki,kg,kn,kf,ka,kb,ks⟩:=fk
 obtain ⟨vk,vi,vg,vn,vf,va,vb,vs⟩:=fv
 unfold aggV at *
 unfold BPost at HV
 dsimp only at *
 have hsz9:(Tryz.prog.info? 24).map (·.size) = some 9:=by kernel_rfl
 obtain ⟨hb0,hX0⟩:=three_boxes w (.cells #[.int .i64 rk,.int .i64 ri,.int .i64 rg,.string rn,.string rf,.int .i64 ra,.slice pr nr cr,.string rb,.int .i64 rs] 24) (.cells #[.int .i64 kk,.int .i64 ki,.int .i64 kg,.string kn,.string kf,.int .i64 ka,.slice pk nk ck,.string kb,.int .i64 ks] 24) (.cells #[.int .i64 vk,.int .i64 vi,.int .i64 vg,.string vn,.string vf,.int .i64 va,.slice pv nv cv,.string vb,.int .i64 vs] 24) (x1:=[.int .i64 rk,.int .i64 ri,.int .i64 rg,.string rn,.string rf,.int .i64 ra,.slice pr nr cr,.string rb,.int .i64 rs]) (x2:=[.int .i64 kk,.int .i64 ki,.int .i64 kg,.string kn,.string kf,.int .i64 ka,.slice pk nk ck,.string kb,.int .i64 ks]) (x3:=[.int .i64 vk,.int .i64 vi,.int .i64 vg,.string vn,.string vf,.int .i64 va,.slice pv nv cv,.string vb,.int .i64 vs]) rfl rfl rfl (S:=fun q=>q < w.heap.size) (fun _ q=>q)
 go_enter Tryz.func24,Tryz.ntmps24
 go_upto_region 1 with (fail)
 generalize (((w.alloc (.cells #[.int .i64 rk,.int .i64 ri,.int .i64 rg,.string rn,.string rf,.int .i64 ra,.slice pr nr cr,.string rb,.int .i64 rs] 24)).alloc (.cells #[.int .i64 kk,.int .i64 ki,.int .i64 kg,.string kn,.string kf,.int .i64 ka,.slice pk nk ck,.string kb,.int .i64 ks] 24)).alloc (.cells #[.int .i64 vk,.int .i64 vi,.int .i64 vg,.string vn,.string vf,.int .i64 va,.slice pv nv cv,.string vb,.int .i64 vs] 24)) = W1 at *
 obtain ⟨_,_,l7⟩:=hX0 _ (TouchB.refl _ _)
 have HB0:=Lib.hid hb0
 have HX:=Lib.hid hX0
 obtain ⟨o0,o1,of⟩:=HO.out _ hb0
 have y0:=l7 0 _ rfl
 have y1:=l7 1 _ rfl
 have y2:=l7 2 _ rfl
 have y3:=l7 3 _ rfl
 have y4:=l7 4 _ rfl
 have y5:=l7 5 _ rfl
 have y6:=l7 6 _ rfl
 have y7:=l7 7 _ rfl
 have y8:=l7 8 _ rfl
 simp only [Nat.reduceAdd] at y0 y1 y2 y3 y4 y5 y6 y7 y8
 clear hb0 hX0 l7
 go_wp2_with fail
 refine (HV.out _ HB0.out).mono ?_
 rintro e w2 ⟨rfl,hb2⟩
 have HB2:=Lib.hid (HB0.out.trans (hb2.mono HB0.out.size))
 have HT2:=Lib.hid ((TouchB.refl (fun q=>q < w.heap.size) W1).ofBelow hb2 (Nat.le_refl _))
 obtain ⟨l5,l6,_⟩:=HX.out _ HT2.out
 clear y0 y1 y2 y3 y4 y5 y6 y7 y8 o0 o1 of hb2
 have HL5:=Lib.hid l5
 have HL6:=Lib.hid l6
 clear l5 l6
 go_wp2_with (first
  | (refine wpList_load_mid rfl 24 (.tmp 5) rfl w.heap.size 0 rfl [.int .i64 rk,.int .i64 ri,.int .i64 rg,.string rn,.string rf,.int .i64 ra,.slice pr nr cr,.string rb,.int .i64 rs] _ HL5.out Tryz.underlying24 rfl hsz9 ?_)
  | (refine wpList_load_mid rfl 24 (.tmp 6) rfl (w.heap.size + 1) 0 rfl [.int .i64 kk,.int .i64 ki,.int .i64 kg,.string kn,.string kf,.int .i64 ka,.slice pk nk ck,.string kb,.int .i64 ks] _ HL6.out Tryz.underlying24 rfl hsz9 ?_))
 refine (HKy.out _ HB2.out).mono ?_
 rintro e w3 ⟨rfl,hb3⟩
 have HB3:=Lib.hid (HB2.out.trans (hb3.mono HB2.out.size))
 clear hb3
 go_wp2_with fail
 go_ret
 exact ⟨rfl,HB3.out⟩
end
section
variable {N:Nat} {w w':World} {B:Nat} {F:Nat→Prop} {s:TbSt N}
theorem make17a (h:TbAt w B F s) (hlen:s.tabs.length ≤ 1000) {r o:Tm (N + 1)} {ur uo:Value} {B2:Nat} (hBw:B2 ≤ w.heap.size) (hI:ItemsAt w B2 N ur r.items) (hJ:ItemsAt w B2 N uo o.items) (hnr:nodesT r ≤ 100000000) (hno:nodesT o ≤ 100000000) (hs:Bool) {po:Option Addr} {er:Int} (he:er ≠ 1) (hTR:TabR s.tabs r po er) (hk1:r.f.kind ≠ 3) :
 Calls Tryz.prog 17 #[.pointer (some ⟨s.z,0,none⟩),aggV r.f ur,aggV o.f uo,.bool hs] w fun e w'=>e = .returned (.int .i64 2)∧Below w.heap.size w w':=by
 have HTb:=Lib.hid (fun (W:World) (hW:Below w.heap.size w W)=>table49 (h.below hW) hlen (Nat.le_trans hBw hW.size) (hI.below hW hBw) hTR)
 obtain ⟨pr,cr,er1,_,_⟩:=hI.shape
 obtain ⟨po_,co,eo,_,_⟩:=hJ.shape
 obtain ⟨pw,cw,ew,hcw,hmw⟩:=h.l.shape
 generalize s.z = z at *
 generalize (s.tabs.map (·.b)).length = nT at *
 clear h hlen hI hJ hnr hno hBw hTR ew   
 rw [er1] at HTb ⊢
 rw [eo] 
 clear er1 eo
 generalize r.items.length = nr at *
 generalize o.items.length = no at *
 generalize hrf:r.f = fr at *
 generalize hof:o.f = fo at *
 clear hrf hof
 obtain ⟨rk,ri,rg,rn,rf,ra,rb,rs⟩:=fr
 obtain ⟨ok,oi,og,on,of,oa,ob,os⟩:=fo
 dsimp only at hk1
 unfold aggV at *
 dsimp only at *
 have hsz9:(Tryz.prog.info? 24).map (·.size) = some 9:=by kernel_rfl
 obtain ⟨hb0,hX0⟩:=two_boxesR w (.cells #[.int .i64 rk,.int .i64 ri,.int .i64 rg,.string rn,.string rf,.int .i64 ra,.slice pr nr cr,.string rb,.int .i64 rs] 24) (.cells #[.int .i64 ok,.int .i64 oi,.int .i64 og,.string on,.string of,.int .i64 oa,.slice po_ no co,.string ob,.int .i64 os] 24) (x1:=[.int .i64 rk,.int .i64 ri,.int .i64 rg,.string rn,.string rf,.int .i64 ra,.slice pr nr cr,.string rb,.int .i64 rs]) (x2:=[.int .i64 ok,.int .i64 oi,.int .i64 og,.string on,.string of,.int .i64 oa,.slice po_ no co,.string ob,.int .i64 os]) rfl rfl
 go_enter Tryz.func17,Tryz.ntmps17
 go_upto_region 1 with (fail)
 generalize ((w.alloc (.cells #[.int .i64 rk,.int .i64 ri,.int .i64 rg,.string rn,.string rf,.int .i64 ra,.slice pr nr cr,.string rb,.int .i64 rs] 24)).alloc (.cells #[.int .i64 ok,.int .i64 oi,.int .i64 og,.string on,.string of,.int .i64 oa,.slice po_ no co,.string ob,.int .i64 os] 24)) = W1 at *
 obtain ⟨l5,l6⟩:=hX0 _ (Below.refl _ _)
 have HL5:=Lib.hid l5
 have HB0:=Lib.hid hb0
 have HX:=Lib.hid hX0
 clear hb0 hX0 l5 l6
 go_wp2_with (first
  | (refine wpList_load_mid rfl 24 (.tmp 5) rfl w.heap.size 0 rfl [.int .i64 rk,.int .i64 ri,.int .i64 rg,.string rn,.string rf,.int .i64 ra,.slice pr nr cr,.string rb,.int .i64 rs] _ HL5.out Tryz.underlying24 rfl hsz9 ?_))
 refine (HTb.out _ HB0.out).mono ?_
 rintro e w2 ⟨rfl,hb2⟩
 have HB2:=Lib.hid (HB0.out.trans (hb2.mono HB0.out.size))
 obtain ⟨l5,l6⟩:=HX.out _ hb2
 have HW2:=Lib.hid hb2
 clear HL5 hb2 HTb
 have x0:=l5 0 _ rfl
 have x1:=l5 1 _ rfl
 have x2:=l5 2 _ rfl
 have x3:=l5 3 _ rfl
 have x4:=l5 4 _ rfl
 have x5:=l5 5 _ rfl
 have x6:=l5 6 _ rfl
 have x7:=l5 7 _ rfl
 have x8:=l5 8 _ rfl
 simp only [Nat.reduceAdd] at x0 x1 x2 x3 x4 x5 x6 x7 x8
 have y0:=l6 0 _ rfl
 simp only [Nat.reduceAdd] at y0
 clear l5 l6
 go_wp2_with fail
 go_ret
 exact ⟨rfl,HB2.out⟩
theorem make17b (h:TbAt w B F s) (hlen:s.tabs.length ≤ 1000) {r o:Tm (N + 1)} {ur uo:Value} {B2:Nat} (hBw:B2 ≤ w.heap.size) (hI:ItemsAt w B2 N ur r.items) (hJ:ItemsAt w B2 N uo o.items) (hnr:nodesT r ≤ 100000000) (hno:nodesT o ≤ 100000000) (hs:Bool) {po:Option Addr} {er:Int} (he:er ≠ 1) (hTR:TabR s.tabs r po er) (hk1:r.f.kind = 3) (hk2:o.f.kind ≠ 6) :
 Calls Tryz.prog 17 #[.pointer (some ⟨s.z,0,none⟩),aggV r.f ur,aggV o.f uo,.bool hs] w fun e w'=>e = .returned (.int .i64 2)∧Below w.heap.size w w':=by
 have HTb:=Lib.hid (fun (W:World) (hW:Below w.heap.size w W)=>table49 (h.below hW) hlen (Nat.le_trans hBw hW.size) (hI.below hW hBw) hTR)
 obtain ⟨pr,cr,er1,_,_⟩:=hI.shape
 obtain ⟨po_,co,eo,_,_⟩:=hJ.shape
 obtain ⟨pw,cw,ew,hcw,hmw⟩:=h.l.shape
 generalize s.z = z at *
 generalize (s.tabs.map (·.b)).length = nT at *
 clear h hlen hI hJ hnr hno hBw hTR ew   
 rw [er1] at HTb ⊢
 rw [eo] 
 clear er1 eo
 generalize r.items.length = nr at *
 generalize o.items.length = no at *
 generalize hrf:r.f = fr at *
 generalize hof:o.f = fo at *
 clear hrf hof
 obtain ⟨rk,ri,rg,rn,rf,ra,rb,rs⟩:=fr
 obtain ⟨ok,oi,og,on,of,oa,ob,os⟩:=fo
 dsimp only at hk1 hk2
 subst hk1
 unfold aggV at *
 dsimp only at *
 have hsz9:(Tryz.prog.info? 24).map (·.size) = some 9:=by kernel_rfl
 obtain ⟨hb0,hX0⟩:=two_boxesR w (.cells #[.int .i64 3,.int .i64 ri,.int .i64 rg,.string rn,.string rf,.int .i64 ra,.slice pr nr cr,.string rb,.int .i64 rs] 24) (.cells #[.int .i64 ok,.int .i64 oi,.int .i64 og,.string on,.string of,.int .i64 oa,.slice po_ no co,.string ob,.int .i64 os] 24) (x1:=[.int .i64 3,.int .i64 ri,.int .i64 rg,.string rn,.string rf,.int .i64 ra,.slice pr nr cr,.string rb,.int .i64 rs]) (x2:=[.int .i64 ok,.int .i64 oi,.int .i64 og,.string on,.string of,.int .i64 oa,.slice po_ no co,.string ob,.int .i64 os]) rfl rfl
 go_enter Tryz.func17,Tryz.ntmps17
 go_upto_region 1 with (fail)
 generalize ((w.alloc (.cells #[.int .i64 3,.int .i64 ri,.int .i64 rg,.string rn,.string rf,.int .i64 ra,.slice pr nr cr,.string rb,.int .i64 rs] 24)).alloc (.cells #[.int .i64 ok,.int .i64 oi,.int .i64 og,.string on,.string of,.int .i64 oa,.slice po_ no co,.string ob,.int .i64 os] 24)) = W1 at *
 obtain ⟨l5,l6⟩:=hX0 _ (Below.refl _ _)
 have HL5:=Lib.hid l5
 have HB0:=Lib.hid hb0
 have HX:=Lib.hid hX0
 clear hb0 hX0 l5 l6
 go_wp2_with (first
  | (refine wpList_load_mid rfl 24 (.tmp 5) rfl w.heap.size 0 rfl [.int .i64 3,.int .i64 ri,.int .i64 rg,.string rn,.string rf,.int .i64 ra,.slice pr nr cr,.string rb,.int .i64 rs] _ HL5.out Tryz.underlying24 rfl hsz9 ?_))
 refine (HTb.out _ HB0.out).mono ?_
 rintro e w2 ⟨rfl,hb2⟩
 have HB2:=Lib.hid (HB0.out.trans (hb2.mono HB0.out.size))
 obtain ⟨l5,l6⟩:=HX.out _ hb2
 have HW2:=Lib.hid hb2
 clear HL5 hb2 HTb
 have x0:=l5 0 _ rfl
 have x1:=l5 1 _ rfl
 have x2:=l5 2 _ rfl
 have x3:=l5 3 _ rfl
 have x4:=l5 4 _ rfl
 have x5:=l5 5 _ rfl
 have x6:=l5 6 _ rfl
 have x7:=l5 7 _ rfl
 have x8:=l5 8 _ rfl
 simp only [Nat.reduceAdd] at x0 x1 x2 x3 x4 x5 x6 x7 x8
 have y0:=l6 0 _ rfl
 simp only [Nat.reduceAdd] at y0
 clear l5 l6
 go_wp2_with fail
 go_ret
 exact ⟨rfl,HB2.out⟩
theorem make17c (h:TbAt w B F s) (hlen:s.tabs.length ≤ 1000) {r o:Tm (N + 1)} {ur uo:Value} {B2:Nat} (hBw:B2 ≤ w.heap.size) (hI:ItemsAt w B2 N ur r.items) (hJ:ItemsAt w B2 N uo o.items) (hnr:nodesT r ≤ 100000000) (hno:nodesT o ≤ 100000000) (hs:Bool) {po:Option Addr} {er:Int} (he:er ≠ 1) (hTR:TabR s.tabs r po er) (hk1:r.f.kind = 3) (hk2:o.f.kind = 6) (hvr:validT r = false) :
 Calls Tryz.prog 17 #[.pointer (some ⟨s.z,0,none⟩),aggV r.f ur,aggV o.f uo,.bool hs] w fun e w'=>e = .returned (.int .i64 2)∧Below w.heap.size w w':=by
 have HTb:=Lib.hid (fun (W:World) (hW:Below w.heap.size w W)=>table49 (h.below hW) hlen (Nat.le_trans hBw hW.size) (hI.below hW hBw) hTR)
 have HVr:=Lib.hid (fun (W:World) (hW:Below w.heap.size w W)=>ValidTm (ofAll N) W B2 ur r (Nat.le_trans hBw hW.size) (hI.below hW hBw) (by omega))
 obtain ⟨pr,cr,er1,_,_⟩:=hI.shape
 obtain ⟨po_,co,eo,_,_⟩:=hJ.shape
 obtain ⟨pw,cw,ew,hcw,hmw⟩:=h.l.shape
 rw [hvr] at HVr
 generalize s.z = z at *
 generalize (s.tabs.map (·.b)).length = nT at *
 clear h hlen hI hJ hnr hno hBw hTR ew hvr  
 rw [er1] at HTb HVr ⊢
 rw [eo] 
 clear er1 eo
 generalize r.items.length = nr at *
 generalize o.items.length = no at *
 generalize hrf:r.f = fr at *
 generalize hof:o.f = fo at *
 clear hrf hof
 obtain ⟨rk,ri,rg,rn,rf,ra,rb,rs⟩:=fr
 obtain ⟨ok,oi,og,on,of,oa,ob,os⟩:=fo
 dsimp only at hk1 hk2
 subst hk1
 subst hk2
 unfold aggV at *
 dsimp only at *
 unfold BPost at HVr
 have hsz9:(Tryz.prog.info? 24).map (·.size) = some 9:=by kernel_rfl
 obtain ⟨hb0,hX0⟩:=two_boxesR w (.cells #[.int .i64 3,.int .i64 ri,.int .i64 rg,.string rn,.string rf,.int .i64 ra,.slice pr nr cr,.string rb,.int .i64 rs] 24) (.cells #[.int .i64 6,.int .i64 oi,.int .i64 og,.string on,.string of,.int .i64 oa,.slice po_ no co,.string ob,.int .i64 os] 24) (x1:=[.int .i64 3,.int .i64 ri,.int .i64 rg,.string rn,.string rf,.int .i64 ra,.slice pr nr cr,.string rb,.int .i64 rs]) (x2:=[.int .i64 6,.int .i64 oi,.int .i64 og,.string on,.string of,.int .i64 oa,.slice po_ no co,.string ob,.int .i64 os]) rfl rfl
 go_enter Tryz.func17,Tryz.ntmps17
 go_upto_region 1 with (fail)
 generalize ((w.alloc (.cells #[.int .i64 3,.int .i64 ri,.int .i64 rg,.string rn,.string rf,.int .i64 ra,.slice pr nr cr,.string rb,.int .i64 rs] 24)).alloc (.cells #[.int .i64 6,.int .i64 oi,.int .i64 og,.string on,.string of,.int .i64 oa,.slice po_ no co,.string ob,.int .i64 os] 24)) = W1 at *
 obtain ⟨l5,l6⟩:=hX0 _ (Below.refl _ _)
 have HL5:=Lib.hid l5
 have HB0:=Lib.hid hb0
 have HX:=Lib.hid hX0
 clear hb0 hX0 l5 l6
 go_wp2_with (first
  | (refine wpList_load_mid rfl 24 (.tmp 5) rfl w.heap.size 0 rfl [.int .i64 3,.int .i64 ri,.int .i64 rg,.string rn,.string rf,.int .i64 ra,.slice pr nr cr,.string rb,.int .i64 rs] _ HL5.out Tryz.underlying24 rfl hsz9 ?_))
 refine (HTb.out _ HB0.out).mono ?_
 rintro e w2 ⟨rfl,hb2⟩
 have HB2:=Lib.hid (HB0.out.trans (hb2.mono HB0.out.size))
 obtain ⟨l5,l6⟩:=HX.out _ hb2
 have HW2:=Lib.hid hb2
 clear HL5 hb2 HTb
 have x0:=l5 0 _ rfl
 have x1:=l5 1 _ rfl
 have x2:=l5 2 _ rfl
 have x3:=l5 3 _ rfl
 have x4:=l5 4 _ rfl
 have x5:=l5 5 _ rfl
 have x6:=l5 6 _ rfl
 have x7:=l5 7 _ rfl
 have x8:=l5 8 _ rfl
 simp only [Nat.reduceAdd] at x0 x1 x2 x3 x4 x5 x6 x7 x8
 have y0:=l6 0 _ rfl
 simp only [Nat.reduceAdd] at y0
 clear l5 l6
 go_wp2_with fail
 refine (HVr.out _ HB2.out).mono ?_
 rintro e w3 ⟨rfl,hb3⟩
 have HB3:=Lib.hid (HB2.out.trans (hb3.mono HB2.out.size))
 have HW3:=Lib.hid (HW2.out.trans (hb3.mono HW2.out.size))
 obtain ⟨l5,l6⟩:=HX.out _ HW3.out
 clear x0 x1 x2 x3 x4 x5 x6 x7 x8 y0 hb3 HVr
 have y0:=l6 0 _ rfl
 have y1:=l6 1 _ rfl
 have y2:=l6 2 _ rfl
 have y3:=l6 3 _ rfl
 have y4:=l6 4 _ rfl
 have y5:=l6 5 _ rfl
 have y6:=l6 6 _ rfl
 have y7:=l6 7 _ rfl
 have y8:=l6 8 _ rfl
 simp only [Nat.reduceAdd] at y0 y1 y2 y3 y4 y5 y6 y7 y8
 clear l5 l6
 go_wp2_with fail
 go_ret
 exact ⟨rfl,HB3.out⟩
theorem make17d (h:TbAt w B F s) (hlen:s.tabs.length ≤ 1000) {r o:Tm (N + 1)} {ur uo:Value} {B2:Nat} (hBw:B2 ≤ w.heap.size) (hI:ItemsAt w B2 N ur r.items) (hJ:ItemsAt w B2 N uo o.items) (hnr:nodesT r ≤ 100000000) (hno:nodesT o ≤ 100000000) (hs:Bool) {po:Option Addr} {er:Int} (he:er ≠ 1) (hTR:TabR s.tabs r po er) (hk1:r.f.kind = 3) (hk2:o.f.kind = 6) (hvr:validT r = true) (hvo:validT o = false) :
 Calls Tryz.prog 17 #[.pointer (some ⟨s.z,0,none⟩),aggV r.f ur,aggV o.f uo,.bool hs] w fun e w'=>e = .returned (.int .i64 2)∧Below w.heap.size w w':=by
 have HTb:=Lib.hid (fun (W:World) (hW:Below w.heap.size w W)=>table49 (h.below hW) hlen (Nat.le_trans hBw hW.size) (hI.below hW hBw) hTR)
 have HVr:=Lib.hid (fun (W:World) (hW:Below w.heap.size w W)=>ValidTm (ofAll N) W B2 ur r (Nat.le_trans hBw hW.size) (hI.below hW hBw) (by omega))
 have HVo:=Lib.hid (fun (W:World) (hW:Below w.heap.size w W)=>ValidTm (ofAll N) W B2 uo o (Nat.le_trans hBw hW.size) (hJ.below hW hBw) (by omega))
 obtain ⟨pr,cr,er1,_,_⟩:=hI.shape
 obtain ⟨po_,co,eo,_,_⟩:=hJ.shape
 obtain ⟨pw,cw,ew,hcw,hmw⟩:=h.l.shape
 rw [hvr] at HVr
 rw [hvo] at HVo
 generalize s.z = z at *
 generalize (s.tabs.map (·.b)).length = nT at *
 clear h hlen hI hJ hnr hno hBw hTR ew hvr hvo 
 rw [er1] at HTb HVr ⊢
 rw [eo] at HVo ⊢
 clear er1 eo
 generalize r.items.length = nr at *
 generalize o.items.length = no at *
 generalize hrf:r.f = fr at *
 generalize hof:o.f = fo at *
 clear hrf hof
 obtain ⟨rk,ri,rg,rn,rf,ra,rb,rs⟩:=fr
 obtain ⟨ok,oi,og,on,of,oa,ob,os⟩:=fo
 dsimp only at hk1 hk2
 subst hk1
 subst hk2
 unfold aggV at *
 dsimp only at *
 unfold BPost at HVr
 unfold BPost at HVo
 have hsz9:(Tryz.prog.info? 24).map (·.size) = some 9:=by kernel_rfl
 obtain ⟨hb0,hX0⟩:=two_boxesR w (.cells #[.int .i64 3,.int .i64 ri,.int .i64 rg,.string rn,.string rf,.int .i64 ra,.slice pr nr cr,.string rb,.int .i64 rs] 24) (.cells #[.int .i64 6,.int .i64 oi,.int .i64 og,.string on,.string of,.int .i64 oa,.slice po_ no co,.string ob,.int .i64 os] 24) (x1:=[.int .i64 3,.int .i64 ri,.int .i64 rg,.string rn,.string rf,.int .i64 ra,.slice pr nr cr,.string rb,.int .i64 rs]) (x2:=[.int .i64 6,.int .i64 oi,.int .i64 og,.string on,.string of,.int .i64 oa,.slice po_ no co,.string ob,.int .i64 os]) rfl rfl
 go_enter Tryz.func17,Tryz.ntmps17
 go_upto_region 1 with (fail)
 generalize ((w.alloc (.cells #[.int .i64 3,.int .i64 ri,.int .i64 rg,.string rn,.string rf,.int .i64 ra,.slice pr nr cr,.string rb,.int .i64 rs] 24)).alloc (.cells #[.int .i64 6,.int .i64 oi,.int .i64 og,.string on,.string of,.int .i64 oa,.slice po_ no co,.string ob,.int .i64 os] 24)) = W1 at *
 obtain ⟨l5,l6⟩:=hX0 _ (Below.refl _ _)
 have HL5:=Lib.hid l5
 have HB0:=Lib.hid hb0
 have HX:=Lib.hid hX0
 clear hb0 hX0 l5 l6
 go_wp2_with (first
  | (refine wpList_load_mid rfl 24 (.tmp 5) rfl w.heap.size 0 rfl [.int .i64 3,.int .i64 ri,.int .i64 rg,.string rn,.string rf,.int .i64 ra,.slice pr nr cr,.string rb,.int .i64 rs] _ HL5.out Tryz.underlying24 rfl hsz9 ?_))
 refine (HTb.out _ HB0.out).mono ?_
 rintro e w2 ⟨rfl,hb2⟩
 have HB2:=Lib.hid (HB0.out.trans (hb2.mono HB0.out.size))
 obtain ⟨l5,l6⟩:=HX.out _ hb2
 have HW2:=Lib.hid hb2
 clear HL5 hb2 HTb
 have x0:=l5 0 _ rfl
 have x1:=l5 1 _ rfl
 have x2:=l5 2 _ rfl
 have x3:=l5 3 _ rfl
 have x4:=l5 4 _ rfl
 have x5:=l5 5 _ rfl
 have x6:=l5 6 _ rfl
 have x7:=l5 7 _ rfl
 have x8:=l5 8 _ rfl
 simp only [Nat.reduceAdd] at x0 x1 x2 x3 x4 x5 x6 x7 x8
 have y0:=l6 0 _ rfl
 simp only [Nat.reduceAdd] at y0
 clear l5 l6
 go_wp2_with fail
 refine (HVr.out _ HB2.out).mono ?_
 rintro e w3 ⟨rfl,hb3⟩
 have HB3:=Lib.hid (HB2.out.trans (hb3.mono HB2.out.size))
 have HW3:=Lib.hid (HW2.out.trans (hb3.mono HW2.out.size))
 obtain ⟨l5,l6⟩:=HX.out _ HW3.out
 clear x0 x1 x2 x3 x4 x5 x6 x7 x8 y0 hb3 HVr
 have y0:=l6 0 _ rfl
 have y1:=l6 1 _ rfl
 have y2:=l6 2 _ rfl
 have y3:=l6 3 _ rfl
 have y4:=l6 4 _ rfl
 have y5:=l6 5 _ rfl
 have y6:=l6 6 _ rfl
 have y7:=l6 7 _ rfl
 have y8:=l6 8 _ rfl
 simp only [Nat.reduceAdd] at y0 y1 y2 y3 y4 y5 y6 y7 y8
 clear l5 l6
 go_wp2_with fail
 refine (HVo.out _ HB3.out).mono ?_
 rintro e w4 ⟨rfl,hb4⟩
 have HB4:=Lib.hid (HB3.out.trans (hb4.mono HB3.out.size))
 clear y0 y1 y2 y3 y4 y5 y6 y7 y8 hb4 HVo
 go_wp2_with fail
 go_ret
 exact ⟨rfl,HB4.out⟩
theorem make17f (h:TbAt w B F s) (hlen:s.tabs.length ≤ 1000) {r o:Tm (N + 1)} {ur uo:Value} {B2:Nat} (hBw:B2 ≤ w.heap.size) (hI:ItemsAt w B2 N ur r.items) (hJ:ItemsAt w B2 N uo o.items) (hnr:nodesT r ≤ 100000000) (hno:nodesT o ≤ 100000000) (hs:Bool) {po:Option Addr} {er:Int} (he:er ≠ 1) (hTR:TabR s.tabs r po er) (hk1:r.f.kind = 3) (hk2:o.f.kind = 6) (hvr:validT r = true) (hvo:validT o = true) (he0:er ≠ 0) (hfull:64 ≤ s.tabs.length) :
 Calls Tryz.prog 17 #[.pointer (some ⟨s.z,0,none⟩),aggV r.f ur,aggV o.f uo,.bool hs] w fun e w'=>e = .returned (.int .i64 5)∧Below w.heap.size w w':=by
 have HTb:=Lib.hid (fun (W:World) (hW:Below w.heap.size w W)=>table49 (h.below hW) hlen (Nat.le_trans hBw hW.size) (hI.below hW hBw) hTR)
 have HVr:=Lib.hid (fun (W:World) (hW:Below w.heap.size w W)=>ValidTm (ofAll N) W B2 ur r (Nat.le_trans hBw hW.size) (hI.below hW hBw) (by omega))
 have HVo:=Lib.hid (fun (W:World) (hW:Below w.heap.size w W)=>ValidTm (ofAll N) W B2 uo o (Nat.le_trans hBw hW.size) (hJ.below hW hBw) (by omega))
 have HO:=Lib.hid (fun (W:World) (hW:Below w.heap.size w W)=>two_cells (h.below hW).obj)
 have h64:(64:Int) ≤ ((s.tabs.map (·.b)).length:Int):=by rw [List.length_map];omega
 obtain ⟨pr,cr,er1,_,_⟩:=hI.shape
 obtain ⟨po_,co,eo,_,_⟩:=hJ.shape
 obtain ⟨pw,cw,ew,hcw,hmw⟩:=h.l.shape
 rw [ew] at HO
 rw [hvr] at HVr
 rw [hvo] at HVo
 generalize s.z = z at *
 generalize (s.tabs.map (·.b)).length = nT at *
 clear h hlen hI hJ hnr hno hBw hTR ew hvr hvo hfull
 rw [er1] at HTb HVr ⊢
 rw [eo] at HVo ⊢
 clear er1 eo
 generalize r.items.length = nr at *
 generalize o.items.length = no at *
 generalize hrf:r.f = fr at *
 generalize hof:o.f = fo at *
 clear hrf hof
 obtain ⟨rk,ri,rg,rn,rf,ra,rb,rs⟩:=fr
 obtain ⟨ok,oi,og,on,of,oa,ob,os⟩:=fo
 dsimp only at hk1 hk2
 subst hk1
 subst hk2
 unfold aggV at *
 dsimp only at *
 unfold BPost at HVr
 unfold BPost at HVo
 have hsz9:(Tryz.prog.info? 24).map (·.size) = some 9:=by kernel_rfl
 obtain ⟨hb0,hX0⟩:=two_boxesR w (.cells #[.int .i64 3,.int .i64 ri,.int .i64 rg,.string rn,.string rf,.int .i64 ra,.slice pr nr cr,.string rb,.int .i64 rs] 24) (.cells #[.int .i64 6,.int .i64 oi,.int .i64 og,.string on,.string of,.int .i64 oa,.slice po_ no co,.string ob,.int .i64 os] 24) (x1:=[.int .i64 3,.int .i64 ri,.int .i64 rg,.string rn,.string rf,.int .i64 ra,.slice pr nr cr,.string rb,.int .i64 rs]) (x2:=[.int .i64 6,.int .i64 oi,.int .i64 og,.string on,.string of,.int .i64 oa,.slice po_ no co,.string ob,.int .i64 os]) rfl rfl
 go_enter Tryz.func17,Tryz.ntmps17
 go_upto_region 1 with (fail)
 generalize ((w.alloc (.cells #[.int .i64 3,.int .i64 ri,.int .i64 rg,.string rn,.string rf,.int .i64 ra,.slice pr nr cr,.string rb,.int .i64 rs] 24)).alloc (.cells #[.int .i64 6,.int .i64 oi,.int .i64 og,.string on,.string of,.int .i64 oa,.slice po_ no co,.string ob,.int .i64 os] 24)) = W1 at *
 obtain ⟨l5,l6⟩:=hX0 _ (Below.refl _ _)
 have HL5:=Lib.hid l5
 have HB0:=Lib.hid hb0
 have HX:=Lib.hid hX0
 clear hb0 hX0 l5 l6
 go_wp2_with (first
  | (refine wpList_load_mid rfl 24 (.tmp 5) rfl w.heap.size 0 rfl [.int .i64 3,.int .i64 ri,.int .i64 rg,.string rn,.string rf,.int .i64 ra,.slice pr nr cr,.string rb,.int .i64 rs] _ HL5.out Tryz.underlying24 rfl hsz9 ?_))
 refine (HTb.out _ HB0.out).mono ?_
 rintro e w2 ⟨rfl,hb2⟩
 have HB2:=Lib.hid (HB0.out.trans (hb2.mono HB0.out.size))
 obtain ⟨l5,l6⟩:=HX.out _ hb2
 have HW2:=Lib.hid hb2
 clear HL5 hb2 HTb
 have x0:=l5 0 _ rfl
 have x1:=l5 1 _ rfl
 have x2:=l5 2 _ rfl
 have x3:=l5 3 _ rfl
 have x4:=l5 4 _ rfl
 have x5:=l5 5 _ rfl
 have x6:=l5 6 _ rfl
 have x7:=l5 7 _ rfl
 have x8:=l5 8 _ rfl
 simp only [Nat.reduceAdd] at x0 x1 x2 x3 x4 x5 x6 x7 x8
 have y0:=l6 0 _ rfl
 simp only [Nat.reduceAdd] at y0
 clear l5 l6
 go_wp2_with fail
 refine (HVr.out _ HB2.out).mono ?_
 rintro e w3 ⟨rfl,hb3⟩
 have HB3:=Lib.hid (HB2.out.trans (hb3.mono HB2.out.size))
 have HW3:=Lib.hid (HW2.out.trans (hb3.mono HW2.out.size))
 obtain ⟨l5,l6⟩:=HX.out _ HW3.out
 clear x0 x1 x2 x3 x4 x5 x6 x7 x8 y0 hb3 HVr
 have y0:=l6 0 _ rfl
 have y1:=l6 1 _ rfl
 have y2:=l6 2 _ rfl
 have y3:=l6 3 _ rfl
 have y4:=l6 4 _ rfl
 have y5:=l6 5 _ rfl
 have y6:=l6 6 _ rfl
 have y7:=l6 7 _ rfl
 have y8:=l6 8 _ rfl
 simp only [Nat.reduceAdd] at y0 y1 y2 y3 y4 y5 y6 y7 y8
 clear l5 l6
 go_wp2_with fail
 refine (HVo.out _ HB3.out).mono ?_
 rintro e w4 ⟨rfl,hb4⟩
 have HB4:=Lib.hid (HB3.out.trans (hb4.mono HB3.out.size))
 clear y0 y1 y2 y3 y4 y5 y6 y7 y8 hb4 HVo
 obtain ⟨o0,o1,of⟩:=HO.out _ HB4.out
 go_wp2_with fail
 go_ret
 exact ⟨rfl,HB4.out⟩
end
end Go.Proofs.YtfbggmbmgohiiaaGreat.tb
