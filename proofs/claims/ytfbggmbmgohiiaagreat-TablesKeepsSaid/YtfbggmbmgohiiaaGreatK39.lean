/- Texts of this seat, one behind the other: TcD. No condition beyond theirs. -/
import Derived.Test.YtfbggmbmgohiiaaGreatK01
import Derived.Test.YtfbggmbmgohiiaaGreatK38
set_option linter.unusedSimpArgs false
set_option linter.unusedVariables false
set_option maxHeartbeats 4000000
set_option maxRecDepth 100000
namespace Go.Proofs.YtfbggmbmgohiiaaGreat.tb
open Go.RowKit mem rec tm names
theorem rng_same {w w':World} {b o:Nat} {x:List Value} (h:w.rangeAt b o x) (hb:w'.heap[b]? = w.heap[b]?):w'.rangeAt b o x:=fun j u hu=>(World.cell?_of_block (w:=w) (w':=w') (a:=⟨b,o + j,none⟩) hb).trans (h j u hu)
theorem box3_ty (w:World) (o1 o2:Obj) {x:Array Value} {ty:TypeId} {S:Nat→Prop} (hS:∀ k,S k→k < w.heap.size):∀ W,TouchB S (((w.alloc o1).alloc o2).alloc (.cells x ty)) W→tyOf W (w.heap.size + 2) = some ty:=fun W hW=>by
 have h4:=alloc_new ((w.alloc o1).alloc o2) (.cells x ty)
 have hs:((w.alloc o1).alloc o2).heap.size = w.heap.size + 2:=by rw [World.size_alloc,World.size_alloc]
 rw [hs] at h4
 exact tyOf_of ((hW.block _ (Array.getElem?_eq_some_iff.1 h4).1 (fun e=>by have:=hS _ e;omega)).trans h4)
section
variable {N:Nat} {w w':World} {B:Nat} {F:Nat→Prop} {s:TbSt N}
theorem put24g (h:TbAt w B F s) (hB:B ≤ w.heap.size) (hlen:s.tabs.length ≤ 1000) {r k v:Tm (N + 1)} {ur uk uv:Value} {B2:Nat} (hBw:B2 ≤ w.heap.size) (hI:ItemsAt w B2 N ur r.items) (hJ:ItemsAt w B2 N uk k.items) (hV:ItemsAt w B2 N uv v.items) (hnk:nodesT k ≤ 100000000) (hnv:nodesT v ≤ 100000000)
 (hvk:validT k = true) (hvv:validT v = true) {i:Nat} (hi:i < s.tabs.length) (hr:refAt s.tabs r = some i) (hok:FindOK s.tabs[i] k) (hVm:∀ Wm,MidQ w B F s.tabs[i] k Wm→ItemsAt Wm Wm.heap.size N uv v.items) :
 Calls Tryz.prog 24 #[.pointer (some ⟨s.z,0,none⟩),aggV r.f ur,aggV k.f uk,aggV v.f uv] w fun e w'=>e = .returned (.int .i64 0)∧PutQ w B F s.tabs[i] k v w':=by
 have ht:=h.tabs _ (List.getElem_mem hi)
 have hKR:KeyR s.tabs r k (some ⟨(s.tabs[i]).b,0,none⟩) 0:=.inr ⟨hvk,.inr ⟨i,hi,hr,rfl,rfl⟩⟩
 have HV:=Lib.hid (fun (W:World) (hW:Below w.heap.size w W)=>ValidTm (ofAll N) W B2 uv v (Nat.le_trans hBw hW.size) (hV.below hW hBw) (by omega))
 have HKy:=Lib.hid (fun (W:World) (hW:Below w.heap.size w W)=>keyed55 (h.below hW) hlen (Nat.le_trans hBw hW.size) (hI.below hW hBw) (hJ.below hW hBw) (by omega) hKR)
 have HFi:=Lib.hid (fun (W:World) (hW:Below w.heap.size w W)=>find56 (ht.below hW h.fl) (fun g hg=>Nat.lt_of_lt_of_le (h.fl g hg) hW.size) (Nat.le_trans hBw hW.size) (hJ.below hW hBw) (by omega) hok)
 have HC1:=Lib.hid (fun (W:World) (hW:Below w.heap.size w W)=>copyAll N W B2 uk k (Nat.le_trans hBw hW.size) (hJ.below hW hBw) hnk)
 have HH:=Lib.hid (fun (W:World) (hW:Below w.heap.size w W)=>Hash12 W B2 uk k (Nat.le_trans hBw hW.size) (hJ.below hW hBw) (by omega))
 have HIns:=Lib.hid (fun (hh:hasK s.tabs[i] k = false) (W:World) (hW:Below w.heap.size w W) (zv:Nat) (F1:Nat→Prop) (u:Value) hN hz0 hz=>ins_step ht h.ty h.fl hB hok.len hh hW (zv:=zv) (F1:=F1) (u:=u) hN hz0 hz)
 have HHas:=Lib.hid (fun (hh:hasK s.tabs[i] k = true) (W:World) (hW:Below w.heap.size w W)=>mid_has ht h.ty h.fl hh hW)
 have HVal:=Lib.hid (fun (Wm:World) (hm:MidQ w B F s.tabs[i] k Wm)=>val_step hB (fun q hq=>(ht.rows.lt hq).1) ht.low hm (hVm Wm hm) hnv)
 have HO:=Lib.hid (fun (W:World) (hW:Below w.heap.size w W)=>two_cells (h.below hW).obj)
 have HT19:=Lib.hid (fun (W:World) (hW:Below w.heap.size w W)=>(tab_cells (ht.below hW h.fl).blk).2.2.2.1)
 have hvl:∀ q,(s.tabs[i]).vr.ownBlock = some q→q < w.heap.size:=fun q hq=>(ht.rows.lt hq).2
 have hbl:=ht.lt
 have hpl:=posK_le s.tabs[i] k
 have hrl:=hok.len
 obtain ⟨pl,cl,hvr,hcc,hcm⟩:=ht.rows.shape
 obtain ⟨pr,cr,er,_,_⟩:=hI.shape
 obtain ⟨pk,ck,ek,_,_⟩:=hJ.shape
 obtain ⟨pv,cv,ev,_,_⟩:=hV.shape
 obtain ⟨pw,cw,ew,_,_⟩:=h.l.shape
 rw [ew] at HO
 unfold maxLen at hcm
 generalize hht:hasK s.tabs[i] k = hs at *
 generalize hpp:posK s.tabs[i] k = pos at *
 generalize s.tabs[i] = t at *
 clear h hB hlen hI hJ hV hnk hnv hvk hi hr hok ht hKR hBw hVm
 generalize s.z = z at *
 rw [hvv] at HV
 rw [hvr] at HT19 HIns
 rw [er] at HKy ⊢
 rw [ek] at HKy HFi HC1 HH ⊢
 rw [ev] at HV HVal ⊢
 have hzf:(zT:Tm (N + 1)).f = zeroF:=rfl
 unfold newRow rowL nineL at HIns
 dsimp only at HIns
 simp only [hzf,List.cons_append,List.nil_append] at HIns
 generalize hMd:MidQ w B F t k = Md at *
 generalize hPt:PutQ w B F t k v = Pt at *
 generalize hTb:t.b = tb at *
 generalize hTv:t.vr = tv at *
 generalize t.rows.length = nrw at *
 generalize hashT k = hk at *
 have HNi:Hid (∀ W W' F1 u,NewI W W' F1 N u k.items→u.oneCell' = true):=Lib.hid (fun W W' F1 u hN=>in_one hN.items)
 generalize r.items.length = nr at *
 generalize k.items.length = nk at *
 generalize v.items.length = nv at *
 obtain ⟨kil,hki⟩:∃ x,k.items = x:=⟨_,rfl⟩
 obtain ⟨vil,hvi⟩:∃ x,v.items = x:=⟨_,rfl⟩
 rw [hki] at HNi HC1 HIns
 rw [hvi] at HVal
 generalize r.f = fr at *
 generalize k.f = fk at *
 generalize v.f = fv at *
 clear hzf er ek ev hvv ew hht hpp hMd hPt hTb hki hvi
 obtain ⟨rk,ri,rg,rn,rf,ra,rb,rs⟩:=fr
 obtain ⟨kk,ki,kg,kn,kf,ka,kb,ks⟩:=fk
 obtain ⟨vk,vi,vg,vn,vf,va,vb,vs⟩:=fv
 unfold aggV at *
 unfold BPost at HV
 unfold zeroF nilV at HIns
 dsimp only at *
 have hsz9:(Tryz.prog.info? 24).map (·.size) = some 9:=by kernel_rfl
 obtain ⟨hb0,hX0⟩:=three_boxes w (.cells #[.int .i64 rk,.int .i64 ri,.int .i64 rg,.string rn,.string rf,.int .i64 ra,.slice pr nr cr,.string rb,.int .i64 rs] 24) (.cells #[.int .i64 kk,.int .i64 ki,.int .i64 kg,.string kn,.string kf,.int .i64 ka,.slice pk nk ck,.string kb,.int .i64 ks] 24) (.cells #[.int .i64 vk,.int .i64 vi,.int .i64 vg,.string vn,.string vf,.int .i64 va,.slice pv nv cv,.string vb,.int .i64 vs] 24) (x1:=[.int .i64 rk,.int .i64 ri,.int .i64 rg,.string rn,.string rf,.int .i64 ra,.slice pr nr cr,.string rb,.int .i64 rs]) (x2:=[.int .i64 kk,.int .i64 ki,.int .i64 kg,.string kn,.string kf,.int .i64 ka,.slice pk nk ck,.string kb,.int .i64 ks]) (x3:=[.int .i64 vk,.int .i64 vi,.int .i64 vg,.string vn,.string vf,.int .i64 va,.slice pv nv cv,.string vb,.int .i64 vs]) rfl rfl rfl (S:=fun q=>q < w.heap.size) (fun _ q=>q)
 have hY0:=box3_ty w (.cells #[.int .i64 rk,.int .i64 ri,.int .i64 rg,.string rn,.string rf,.int .i64 ra,.slice pr nr cr,.string rb,.int .i64 rs] 24) (.cells #[.int .i64 kk,.int .i64 ki,.int .i64 kg,.string kn,.string kf,.int .i64 ka,.slice pk nk ck,.string kb,.int .i64 ks] 24) (x:=#[.int .i64 vk,.int .i64 vi,.int .i64 vg,.string vn,.string vf,.int .i64 va,.slice pv nv cv,.string vb,.int .i64 vs]) (ty:=24) (S:=fun q=>q < w.heap.size) (fun _ q=>q)
 go_enter Tryz.func24,Tryz.ntmps24
 go_upto_region 1 with (fail)
 generalize (((w.alloc (.cells #[.int .i64 rk,.int .i64 ri,.int .i64 rg,.string rn,.string rf,.int .i64 ra,.slice pr nr cr,.string rb,.int .i64 rs] 24)).alloc (.cells #[.int .i64 kk,.int .i64 ki,.int .i64 kg,.string kn,.string kf,.int .i64 ka,.slice pk nk ck,.string kb,.int .i64 ks] 24)).alloc (.cells #[.int .i64 vk,.int .i64 vi,.int .i64 vg,.string vn,.string vf,.int .i64 va,.slice pv nv cv,.string vb,.int .i64 vs] 24)) = W1 at *
 obtain ⟨l5,l6,l7⟩:=hX0 _ (TouchB.refl _ _)
 have HL5:=Lib.hid l5
 have HL6:=Lib.hid l6
 have HL7:=Lib.hid l7
 have HB0:=Lib.hid hb0
 have HX:=Lib.hid hX0
 have HY:=Lib.hid hY0
 obtain ⟨o0,o1,of⟩:=HO.out _ hb0
 have y0:=l7 0 _ rfl
 have y1:=l7 1 _ rfl
 have y2:=l7 2 _ rfl
 have y3:=l7 3 _ rfl
 have y4:=l7 4 _ rfl
 have y5:=l7 5 _ rfl
 have y6:=l7 6 _ rfl
 have y7:=l7 7 _ rfl
 have y8:=l7 8 _ rfl
 simp only [Nat.reduceAdd] at y0 y1 y2 y3 y4 y5 y6 y7 y8
 clear hb0 hX0 hY0 l5 l6 l7
 go_wp2_with fail
 refine (HV.out _ HB0.out).mono ?_
 rintro e w2 ⟨rfl,hb2⟩
 have HB2:=Lib.hid (HB0.out.trans (hb2.mono HB0.out.size))
 have HT2:=Lib.hid ((TouchB.refl (fun q=>q < w.heap.size) W1).ofBelow hb2 (Nat.le_refl _))
 obtain ⟨l5,l6,l7⟩:=HX.out _ HT2.out
 clear HL5 HL6 HL7 y0 y1 y2 y3 y4 y5 y6 y7 y8 o0 o1 of hb2
 have HL5:=Lib.hid l5
 have HL6:=Lib.hid l6
 clear l5 l6 l7
 go_wp2_with (first
  | (refine wpList_load_mid rfl 24 (.tmp 5) rfl w.heap.size 0 rfl [.int .i64 rk,.int .i64 ri,.int .i64 rg,.string rn,.string rf,.int .i64 ra,.slice pr nr cr,.string rb,.int .i64 rs] _ HL5.out Tryz.underlying24 rfl hsz9 ?_)
  | (refine wpList_load_mid rfl 24 (.tmp 6) rfl (w.heap.size + 1) 0 rfl [.int .i64 kk,.int .i64 ki,.int .i64 kg,.string kn,.string kf,.int .i64 ka,.slice pk nk ck,.string kb,.int .i64 ks] _ HL6.out Tryz.underlying24 rfl hsz9 ?_))
 refine (HKy.out _ HB2.out).mono ?_
 rintro e w3 ⟨rfl,hb3⟩
 have HB3:=Lib.hid (HB2.out.trans (hb3.mono HB2.out.size))
 have HT3:=Lib.hid (HT2.out.ofBelow hb3 HT2.out.size)
 obtain ⟨l5,l6,l7⟩:=HX.out _ HT3.out
 clear HL5 HL6 hb3 HB2 HT2 HKy HV HO
 have HL6:=Lib.hid l6
 clear l5 l6 l7
 go_wp2_with (first
  | (refine wpList_load_mid rfl 24 (.tmp 6) rfl (w.heap.size + 1) 0 rfl [.int .i64 kk,.int .i64 ki,.int .i64 kg,.string kn,.string kf,.int .i64 ka,.slice pk nk ck,.string kb,.int .i64 ks] _ HL6.out Tryz.underlying24 rfl hsz9 ?_))
 refine (HFi.out _ HB3.out).mono ?_
 rintro e w4 ⟨rfl,hb4⟩
 have HB4:=Lib.hid (HB3.out.trans (hb4.mono HB3.out.size))
 have HT4:=Lib.hid (HT3.out.ofBelow hb4 HT3.out.size)
 clear HL6 hb4 HB3 HT3 HFi
 go_upto_if 43 with (fail)
 go_cut [9,11] from 44 to 58 (fun s9 s11 wc=>s9 = .pointer (some ⟨tb,0,none⟩)∧s11 = .int .i64 (pos:Int)∧wc.rangeAt (w.heap.size + 2) 0 [.int .i64 vk,.int .i64 vi,.int .i64 vg,.string vn,.string vf,.int .i64 va,.slice pv nv cv,.string vb,.int .i64 vs]∧tyOf wc (w.heap.size + 2) = some 24∧Md wc)
 case first =>
  cases hs
  ·have HIn:=Lib.hid (HIns.out (by trivial))
   clear HIns HHas HVal
   go_upto_region 8 with (fail)
   have hbd:=HB4.out.trans (belowD (Below.refl w.heap.size w4))
   have HTB:=HT4.out.drew
   obtain ⟨_,l6,_⟩:=HX.out _ HTB
   refine wp_region_held_drew (S:=(fun w'=>w'.rangeAt (w.heap.size + 1) 0 [.int .i64 kk,.int .i64 ki,.int .i64 kg,.string kn,.string kf,.int .i64 ka,.slice pk nk ck,.string kb,.int .i64 ks])) (by kernel_rfl) ?_ (fun hHeld=>?_)
   ·exact l6
   refine run_in [0,1,2,3,5,6,8] ?_
   iterate 5 (refine run_e rfl (by kernel_rfl) (by rfl) (fun _ _ _ _ h=>h) (by assumption) ?_;apply Exists.intro;refine And.intro (fun w hSw=>?_) ?_;(focus (try dsimp only at hSw);go_simp;(try with_reducible rfl));(try simp only [Act.put,pA,pB,pC]))
   refine run_r rfl (by kernel_rfl) (fun _ _ _ _ h=>h) (by assumption) (yieldsIf_load_mid (by rfl) 24 (.tmp 6) rfl (w.heap.size + 1) 0 rfl [.int .i64 kk,.int .i64 ki,.int .i64 kg,.string kn,.string kf,.int .i64 ka,.slice pk nk ck,.string kb,.int .i64 ks] _ (fun w hs=>hs) Tryz.underlying24 rfl hsz9) ?_
   (try simp only [Act.put,pA,pB,pC])
   refine run_r rfl (by kernel_rfl) (fun _ _ _ _ h=>h) (by assumption) (yieldsIf_load_mid (by rfl) 24 (.tmp 6) rfl (w.heap.size + 1) 0 rfl [.int .i64 kk,.int .i64 ki,.int .i64 kg,.string kn,.string kf,.int .i64 ka,.slice pk nk ck,.string kb,.int .i64 ks] _ (fun w hs=>hs) Tryz.underlying24 rfl hsz9) ?_
   (try simp only [Act.put,pA,pB,pC])
   refine run_out ?_
   refine wpAnyH_ready (rs:=[4,7]) (by kernel_rfl) (by simp) ?_
   refine (readyR rfl (fun K hK=>?_) (readyR rfl (fun K hK=>?_) AllReadyH.nil))
   ·have hc:=HT19.out _ hbd
    go_simp
    refine hK.out _ _ ?_ (fun hHeld=>?_)
    ·exact l6
    clear hK K
    (try simp only [Act.put,pA,pB,pC])
    refine wpAnyH_ready (rs:=[7]) (by kernel_rfl) (by simp) ?_
    refine readyR rfl (fun K hK=>?_) AllReadyH.nil
    go_simp
    refine (HC1.out _ hbd).mono ?_
    rintro e w57 ⟨F1,g1,rfl,hN,_⟩
    dsimp only [aggV]
    have hN1:=NewI.of (w0:=w) hN hbd.size
    replace HTB:=HTB.ofBelow hN.below HTB.size
    replace hbd:=hbd.trans (hN.below.mono hbd.size)
    clear l6 hN
    obtain ⟨_,l6,_⟩:=HX.out _ HTB
    go_wp2_with fail
    refine hK.out _ _ ?_ (fun hHeld=>?_)
    ·exact l6
    clear hK K
    (try simp only [Act.put,pA,pB,pC])
    refine wpAnyH_ready (rs:=[9]) (by kernel_rfl) (by simp) ?_
    refine readyR rfl (fun K hK=>?_) AllReadyH.nil
    go_simp
    refine (HH.out _ hbd).mono ?_
    rintro e w59 ⟨rfl,hb9⟩
    replace hN1:=hN1.below hb9
    replace HTB:=HTB.ofBelow hb9 HTB.size
    replace hbd:=hbd.trans (hb9.mono hbd.size)
    clear l6 hb9
    obtain ⟨_,l6,_⟩:=HX.out _ HTB
    go_wp2_with fail
    refine hK.out _ _ ?_ (fun hHeld=>?_)
    ·exact l6
    clear hK K
    (try simp only [Act.put,pA,pB,pC])
    refine run_in [10] ?_
    (refine run_e rfl (by kernel_rfl) (by rfl) (fun _ _ _ _ h=>h) (by assumption) ?_;apply Exists.intro;refine And.intro (fun w hSw=>?_) ?_;(focus (try dsimp only at hSw);go_simp;(try with_reducible rfl));(try simp only [Act.put,pA,pB,pC]))
    refine run_out ?_
    refine wpAnyH_ready (rs:=[11]) (by kernel_rfl) (by simp) ?_
    refine readyR rfl (fun K hK=>?_) AllReadyH.nil
    go_simp
    have hzv:=alloc_new w59 (.cells #[.int .i64 kk,.int .i64 ki,.int .i64 kg,.string kn,.string kf,.int .i64 ka,.slice (some ⟨g1,0,none⟩) kil.length kil.length,.string kb,.int .i64 ks,.int .i64 0,.int .i64 0,.int .i64 0,.string ⟨#[]⟩,.string ⟨#[]⟩,.int .i64 0,.slice none 0 0,.string ⟨#[]⟩,.int .i64 0,.int .u32 hk] 108)
    have hba:=belowA (Below.refl w59.heap.size w59) (.cells #[.int .i64 kk,.int .i64 ki,.int .i64 kg,.string kn,.string kf,.int .i64 ka,.slice (some ⟨g1,0,none⟩) kil.length kil.length,.string kb,.int .i64 ks,.int .i64 0,.int .i64 0,.int .i64 0,.string ⟨#[]⟩,.string ⟨#[]⟩,.int .i64 0,.slice none 0 0,.string ⟨#[]⟩,.int .i64 0,.int .u32 hk] 108) (Nat.le_refl _)
    replace hN1:=hN1.below hba
    replace HTB:=HTB.ofBelow hba HTB.size
    have hz0:=hbd.size
    replace hbd:=hbd.trans (hba.mono hbd.size)
    clear l6 hba
    obtain ⟨_,l6,_⟩:=HX.out _ HTB
    refine hK.out _ _ ?_ (fun hHeld=>?_)
    ·exact l6
    clear hK K
    (try simp only [Act.put,pA,pB,pC])
    refine wpAnyH_ready (rs:=[12]) (by kernel_rfl) (by simp) ?_
    refine readyR rfl (fun K hK=>?_) AllReadyH.nil
    go_simp
    refine (HIn.out _ hbd _ _ _ hN1 hz0 hzv).mono ?_
    rintro e w512 ⟨v',rfl,hone,hT12,hc19,hf19,hMd⟩
    replace HTB:=HTB.trans hT12 (fun q _ e=>hvl q (by rw [hvr];exact e))
    clear l6 hN1 hzv hz0 hbd
    obtain ⟨_,l6,_⟩:=HX.out _ HTB
    go_wp2_with fail
    refine hK.out _ _ ?_ (fun hHeld=>?_)
    ·exact l6
    clear hK K
    (try simp only [Act.put,pA,pB,pC])
    refine run_in [13,14] ?_
    iterate 2 (refine run_e rfl (by kernel_rfl) (by rfl) (fun _ _ _ _ h=>h) (by assumption) ?_;apply Exists.intro;refine And.intro (fun w hSw=>?_) ?_;(focus (try dsimp only at hSw);go_simp;(try with_reducible rfl));(try simp only [Act.put,pA,pB,pC]))
    refine run_out ?_
    refine wpAnyH_ready (rs:=[15]) (by kernel_rfl) (by simp) ?_
    refine readyR rfl (fun K hK=>?_) AllReadyH.nil
    refine step_store_run (by rfl) 96 (.tmp 58) (.tmp 56) rfl (p:=⟨tb,19,none⟩) (v:=v') rfl rfl (st96 _ _ _ _ hone hc19 hf19) ?_
    replace HTB:=HTB.setCell ⟨tb,19,none⟩ v' (fun _=>hbl)
    clear l6
    obtain ⟨_,l6,_⟩:=HX.out _ HTB
    refine hK.out _ _ ?_ (fun hHeld=>?_)
    ·exact l6
    clear hK K
    (try simp only [Act.put,pA,pB,pC])
    refine wpAnyH_done (by kernel_rfl) ?_ _
    go_wp2_with fail
    go_meet
    exact ⟨rfl,rfl,(HX.out _ HTB).2.2,HY.out _ HTB,hMd⟩
   ·go_simp
    refine (HC1.out _ hbd).mono ?_
    rintro e w57 ⟨F1,g1,rfl,hN,_⟩
    dsimp only [aggV]
    have hN1:=NewI.of (w0:=w) hN hbd.size
    replace HTB:=HTB.ofBelow hN.below HTB.size
    replace hbd:=hbd.trans (hN.below.mono hbd.size)
    clear l6 hN
    obtain ⟨_,l6,_⟩:=HX.out _ HTB
    go_wp2_with fail
    refine hK.out _ _ ?_ (fun hHeld=>?_)
    ·exact l6
    clear hK K
    (try simp only [Act.put,pA,pB,pC])
    refine wpAnyH_ready (rs:=[4,9]) (by kernel_rfl) (by simp) ?_
    refine (readyR rfl (fun K hK=>?_) (readyR rfl (fun K hK=>?_) AllReadyH.nil))
    ·have hc:=HT19.out _ hbd
     go_simp
     refine hK.out _ _ ?_ (fun hHeld=>?_)
     ·exact l6
     clear hK K
     (try simp only [Act.put,pA,pB,pC])
     refine wpAnyH_ready (rs:=[9]) (by kernel_rfl) (by simp) ?_
     refine readyR rfl (fun K hK=>?_) AllReadyH.nil
     go_simp
     refine (HH.out _ hbd).mono ?_
     rintro e w59 ⟨rfl,hb9⟩
     replace hN1:=hN1.below hb9
     replace HTB:=HTB.ofBelow hb9 HTB.size
     replace hbd:=hbd.trans (hb9.mono hbd.size)
     clear l6 hb9
     obtain ⟨_,l6,_⟩:=HX.out _ HTB
     go_wp2_with fail
     refine hK.out _ _ ?_ (fun hHeld=>?_)
     ·exact l6
     clear hK K
     (try simp only [Act.put,pA,pB,pC])
     refine run_in [10] ?_
     (refine run_e rfl (by kernel_rfl) (by rfl) (fun _ _ _ _ h=>h) (by assumption) ?_;apply Exists.intro;refine And.intro (fun w hSw=>?_) ?_;(focus (try dsimp only at hSw);go_simp;(try with_reducible rfl));(try simp only [Act.put,pA,pB,pC]))
     refine run_out ?_
     refine wpAnyH_ready (rs:=[11]) (by kernel_rfl) (by simp) ?_
     refine readyR rfl (fun K hK=>?_) AllReadyH.nil
     go_simp
     have hzv:=alloc_new w59 (.cells #[.int .i64 kk,.int .i64 ki,.int .i64 kg,.string kn,.string kf,.int .i64 ka,.slice (some ⟨g1,0,none⟩) kil.length kil.length,.string kb,.int .i64 ks,.int .i64 0,.int .i64 0,.int .i64 0,.string ⟨#[]⟩,.string ⟨#[]⟩,.int .i64 0,.slice none 0 0,.string ⟨#[]⟩,.int .i64 0,.int .u32 hk] 108)
     have hba:=belowA (Below.refl w59.heap.size w59) (.cells #[.int .i64 kk,.int .i64 ki,.int .i64 kg,.string kn,.string kf,.int .i64 ka,.slice (some ⟨g1,0,none⟩) kil.length kil.length,.string kb,.int .i64 ks,.int .i64 0,.int .i64 0,.int .i64 0,.string ⟨#[]⟩,.string ⟨#[]⟩,.int .i64 0,.slice none 0 0,.string ⟨#[]⟩,.int .i64 0,.int .u32 hk] 108) (Nat.le_refl _)
     replace hN1:=hN1.below hba
     replace HTB:=HTB.ofBelow hba HTB.size
     have hz0:=hbd.size
     replace hbd:=hbd.trans (hba.mono hbd.size)
     clear l6 hba
     obtain ⟨_,l6,_⟩:=HX.out _ HTB
     refine hK.out _ _ ?_ (fun hHeld=>?_)
     ·exact l6
     clear hK K
     (try simp only [Act.put,pA,pB,pC])
     refine wpAnyH_ready (rs:=[12]) (by kernel_rfl) (by simp) ?_
     refine readyR rfl (fun K hK=>?_) AllReadyH.nil
     go_simp
     refine (HIn.out _ hbd _ _ _ hN1 hz0 hzv).mono ?_
     rintro e w512 ⟨v',rfl,hone,hT12,hc19,hf19,hMd⟩
     replace HTB:=HTB.trans hT12 (fun q _ e=>hvl q (by rw [hvr];exact e))
     clear l6 hN1 hzv hz0 hbd
     obtain ⟨_,l6,_⟩:=HX.out _ HTB
     go_wp2_with fail
     refine hK.out _ _ ?_ (fun hHeld=>?_)
     ·exact l6
     clear hK K
     (try simp only [Act.put,pA,pB,pC])
     refine run_in [13,14] ?_
     iterate 2 (refine run_e rfl (by kernel_rfl) (by rfl) (fun _ _ _ _ h=>h) (by assumption) ?_;apply Exists.intro;refine And.intro (fun w hSw=>?_) ?_;(focus (try dsimp only at hSw);go_simp;(try with_reducible rfl));(try simp only [Act.put,pA,pB,pC]))
     refine run_out ?_
     refine wpAnyH_ready (rs:=[15]) (by kernel_rfl) (by simp) ?_
     refine readyR rfl (fun K hK=>?_) AllReadyH.nil
     refine step_store_run (by rfl) 96 (.tmp 58) (.tmp 56) rfl (p:=⟨tb,19,none⟩) (v:=v') rfl rfl (st96 _ _ _ _ hone hc19 hf19) ?_
     replace HTB:=HTB.setCell ⟨tb,19,none⟩ v' (fun _=>hbl)
     clear l6
     obtain ⟨_,l6,_⟩:=HX.out _ HTB
     refine hK.out _ _ ?_ (fun hHeld=>?_)
     ·exact l6
     clear hK K
     (try simp only [Act.put,pA,pB,pC])
     refine wpAnyH_done (by kernel_rfl) ?_ _
     go_wp2_with fail
     go_meet
     exact ⟨rfl,rfl,(HX.out _ HTB).2.2,HY.out _ HTB,hMd⟩
    ·go_simp
     refine (HH.out _ hbd).mono ?_
     rintro e w59 ⟨rfl,hb9⟩
     replace hN1:=hN1.below hb9
     replace HTB:=HTB.ofBelow hb9 HTB.size
     replace hbd:=hbd.trans (hb9.mono hbd.size)
     clear l6 hb9
     obtain ⟨_,l6,_⟩:=HX.out _ HTB
     go_wp2_with fail
     refine hK.out _ _ ?_ (fun hHeld=>?_)
     ·exact l6
     clear hK K
     (try simp only [Act.put,pA,pB,pC])
     refine run_in [10] ?_
     (refine run_e rfl (by kernel_rfl) (by rfl) (fun _ _ _ _ h=>h) (by assumption) ?_;apply Exists.intro;refine And.intro (fun w hSw=>?_) ?_;(focus (try dsimp only at hSw);go_simp;(try with_reducible rfl));(try simp only [Act.put,pA,pB,pC]))
     refine run_out ?_
     refine wpAnyH_ready (rs:=[4,11]) (by kernel_rfl) (by simp) ?_
     refine (readyR rfl (fun K hK=>?_) (readyR rfl (fun K hK=>?_) AllReadyH.nil))
     ·have hc:=HT19.out _ hbd
      go_simp
      refine hK.out _ _ ?_ (fun hHeld=>?_)
      ·exact l6
      clear hK K
      (try simp only [Act.put,pA,pB,pC])
      refine wpAnyH_ready (rs:=[11]) (by kernel_rfl) (by simp) ?_
      refine readyR rfl (fun K hK=>?_) AllReadyH.nil
      go_simp
      have hzv:=alloc_new w59 (.cells #[.int .i64 kk,.int .i64 ki,.int .i64 kg,.string kn,.string kf,.int .i64 ka,.slice (some ⟨g1,0,none⟩) kil.length kil.length,.string kb,.int .i64 ks,.int .i64 0,.int .i64 0,.int .i64 0,.string ⟨#[]⟩,.string ⟨#[]⟩,.int .i64 0,.slice none 0 0,.string ⟨#[]⟩,.int .i64 0,.int .u32 hk] 108)
      have hba:=belowA (Below.refl w59.heap.size w59) (.cells #[.int .i64 kk,.int .i64 ki,.int .i64 kg,.string kn,.string kf,.int .i64 ka,.slice (some ⟨g1,0,none⟩) kil.length kil.length,.string kb,.int .i64 ks,.int .i64 0,.int .i64 0,.int .i64 0,.string ⟨#[]⟩,.string ⟨#[]⟩,.int .i64 0,.slice none 0 0,.string ⟨#[]⟩,.int .i64 0,.int .u32 hk] 108) (Nat.le_refl _)
      replace hN1:=hN1.below hba
      replace HTB:=HTB.ofBelow hba HTB.size
      have hz0:=hbd.size
      replace hbd:=hbd.trans (hba.mono hbd.size)
      clear l6 hba
      obtain ⟨_,l6,_⟩:=HX.out _ HTB
      refine hK.out _ _ ?_ (fun hHeld=>?_)
      ·exact l6
      clear hK K
      (try simp only [Act.put,pA,pB,pC])
      refine wpAnyH_ready (rs:=[12]) (by kernel_rfl) (by simp) ?_
      refine readyR rfl (fun K hK=>?_) AllReadyH.nil
      go_simp
      refine (HIn.out _ hbd _ _ _ hN1 hz0 hzv).mono ?_
      rintro e w512 ⟨v',rfl,hone,hT12,hc19,hf19,hMd⟩
      replace HTB:=HTB.trans hT12 (fun q _ e=>hvl q (by rw [hvr];exact e))
      clear l6 hN1 hzv hz0 hbd
      obtain ⟨_,l6,_⟩:=HX.out _ HTB
      go_wp2_with fail
      refine hK.out _ _ ?_ (fun hHeld=>?_)
      ·exact l6
      clear hK K
      (try simp only [Act.put,pA,pB,pC])
      refine run_in [13,14] ?_
      iterate 2 (refine run_e rfl (by kernel_rfl) (by rfl) (fun _ _ _ _ h=>h) (by assumption) ?_;apply Exists.intro;refine And.intro (fun w hSw=>?_) ?_;(focus (try dsimp only at hSw);go_simp;(try with_reducible rfl));(try simp only [Act.put,pA,pB,pC]))
      refine run_out ?_
      refine wpAnyH_ready (rs:=[15]) (by kernel_rfl) (by simp) ?_
      refine readyR rfl (fun K hK=>?_) AllReadyH.nil
      refine step_store_run (by rfl) 96 (.tmp 58) (.tmp 56) rfl (p:=⟨tb,19,none⟩) (v:=v') rfl rfl (st96 _ _ _ _ hone hc19 hf19) ?_
      replace HTB:=HTB.setCell ⟨tb,19,none⟩ v' (fun _=>hbl)
      clear l6
      obtain ⟨_,l6,_⟩:=HX.out _ HTB
      refine hK.out _ _ ?_ (fun hHeld=>?_)
      ·exact l6
      clear hK K
      (try simp only [Act.put,pA,pB,pC])
      refine wpAnyH_done (by kernel_rfl) ?_ _
      go_wp2_with fail
      go_meet
      exact ⟨rfl,rfl,(HX.out _ HTB).2.2,HY.out _ HTB,hMd⟩
     ·go_simp
      have hzv:=alloc_new w59 (.cells #[.int .i64 kk,.int .i64 ki,.int .i64 kg,.string kn,.string kf,.int .i64 ka,.slice (some ⟨g1,0,none⟩) kil.length kil.length,.string kb,.int .i64 ks,.int .i64 0,.int .i64 0,.int .i64 0,.string ⟨#[]⟩,.string ⟨#[]⟩,.int .i64 0,.slice none 0 0,.string ⟨#[]⟩,.int .i64 0,.int .u32 hk] 108)
      have hba:=belowA (Below.refl w59.heap.size w59) (.cells #[.int .i64 kk,.int .i64 ki,.int .i64 kg,.string kn,.string kf,.int .i64 ka,.slice (some ⟨g1,0,none⟩) kil.length kil.length,.string kb,.int .i64 ks,.int .i64 0,.int .i64 0,.int .i64 0,.string ⟨#[]⟩,.string ⟨#[]⟩,.int .i64 0,.slice none 0 0,.string ⟨#[]⟩,.int .i64 0,.int .u32 hk] 108) (Nat.le_refl _)
      replace hN1:=hN1.below hba
      replace HTB:=HTB.ofBelow hba HTB.size
      have hz0:=hbd.size
      replace hbd:=hbd.trans (hba.mono hbd.size)
      clear l6 hba
      obtain ⟨_,l6,_⟩:=HX.out _ HTB
      refine hK.out _ _ ?_ (fun hHeld=>?_)
      ·exact l6
      clear hK K
      (try simp only [Act.put,pA,pB,pC])
      refine wpAnyH_ready (rs:=[4]) (by kernel_rfl) (by simp) ?_
      refine readyR rfl (fun K hK=>?_) AllReadyH.nil
      have hc:=HT19.out _ hbd
      go_simp
      refine hK.out _ _ ?_ (fun hHeld=>?_)
      ·exact l6
      clear hK K
      (try simp only [Act.put,pA,pB,pC])
      refine wpAnyH_ready (rs:=[12]) (by kernel_rfl) (by simp) ?_
      refine readyR rfl (fun K hK=>?_) AllReadyH.nil
      go_simp
      refine (HIn.out _ hbd _ _ _ hN1 hz0 hzv).mono ?_
      rintro e w512 ⟨v',rfl,hone,hT12,hc19,hf19,hMd⟩
      replace HTB:=HTB.trans hT12 (fun q _ e=>hvl q (by rw [hvr];exact e))
      clear l6 hN1 hzv hz0 hbd
      obtain ⟨_,l6,_⟩:=HX.out _ HTB
      go_wp2_with fail
      refine hK.out _ _ ?_ (fun hHeld=>?_)
      ·exact l6
      clear hK K
      (try simp only [Act.put,pA,pB,pC])
      refine run_in [13,14] ?_
      iterate 2 (refine run_e rfl (by kernel_rfl) (by rfl) (fun _ _ _ _ h=>h) (by assumption) ?_;apply Exists.intro;refine And.intro (fun w hSw=>?_) ?_;(focus (try dsimp only at hSw);go_simp;(try with_reducible rfl));(try simp only [Act.put,pA,pB,pC]))
      refine run_out ?_
      refine wpAnyH_ready (rs:=[15]) (by kernel_rfl) (by simp) ?_
      refine readyR rfl (fun K hK=>?_) AllReadyH.nil
      refine step_store_run (by rfl) 96 (.tmp 58) (.tmp 56) rfl (p:=⟨tb,19,none⟩) (v:=v') rfl rfl (st96 _ _ _ _ hone hc19 hf19) ?_
      replace HTB:=HTB.setCell ⟨tb,19,none⟩ v' (fun _=>hbl)
      clear l6
      obtain ⟨_,l6,_⟩:=HX.out _ HTB
      refine hK.out _ _ ?_ (fun hHeld=>?_)
      ·exact l6
      clear hK K
      (try simp only [Act.put,pA,pB,pC])
      refine wpAnyH_done (by kernel_rfl) ?_ _
      go_wp2_with fail
      go_meet
      exact ⟨rfl,rfl,(HX.out _ HTB).2.2,HY.out _ HTB,hMd⟩
  ·go_wp2_with fail
   go_meet
   exact ⟨rfl,rfl,(HX.out _ HT4.out).2.2,HY.out _ HT4.out,HHas.out trivial _ HB4.out⟩
 case rest =>
  clear HX HY HHas HIns HT4 HB4 HC1 HH HT19
  obtain ⟨rfl,rfl,l7,hy7,hmd⟩:=hcut
  obtain ⟨g,n,c,hc19,hpn,hnm,htl,hgt,hg8,HW⟩:=HVal.out _ hmd
  unfold maxLen at hnm
  have hl7:(w.heap.size + 2) < wc.heap.size:=World.block_lt_of_cell? wc _ (l7 0 _ rfl)
  have hne7:(w.heap.size + 2) ≠ g:=ty_ne hy7 hg8 (by decide)
  have HW2:=Lib.hid HW
  clear HVal HW hmd
  go_upto_region 9 with (fail)
  have hbd:=belowD (Below.refl wc.heap.size wc)
  refine wp_region_held_drew (S:=(fun w'=>w'.rangeAt (w.heap.size + 2) 0 [.int .i64 vk,.int .i64 vi,.int .i64 vg,.string vn,.string vf,.int .i64 va,.slice pv nv cv,.string vb,.int .i64 vs]∧w'.cell? ⟨tb,19,none⟩ = some (.slice (some ⟨g,0,none⟩) n c))) (by kernel_rfl) ?_ (fun hHeld=>?_)
  ·exact ⟨l7,hc19⟩
  refine run_in [0,1,2,3,4,5] ?_
  iterate 3 (refine run_e rfl (by kernel_rfl) (by rfl) (fun _ _ _ _ h=>h) (by assumption) ?_;apply Exists.intro;refine And.intro (fun w hSw=>?_) ?_;(focus (try dsimp only at hSw);go_simp;(try with_reducible rfl));(try simp only [Act.put,pA,pB,pC]))
  refine run_r rfl (by kernel_rfl) (fun _ _ _ _ h=>h) (by assumption) (yieldsB_cell (by rfl) 96 (.tmp 61) rfl tb 19 rfl _ ld96 (fun w hs=>hs.2)) ?_
  (try simp only [Act.put,pA,pB,pC])
  (refine run_e rfl (by kernel_rfl) (by rfl) (fun _ _ _ _ h=>h) (by assumption) ?_;apply Exists.intro;refine And.intro (fun w hSw=>?_) ?_;(focus (try dsimp only at hSw);go_simp;(try with_reducible rfl));(try simp only [Act.put,pA,pB,pC]))
  refine run_r rfl (by kernel_rfl) (fun _ _ _ _ h=>h) (by assumption) (yieldsIf_load_mid (by rfl) 24 (.tmp 7) rfl (w.heap.size + 2) 0 rfl [.int .i64 vk,.int .i64 vi,.int .i64 vg,.string vn,.string vf,.int .i64 va,.slice pv nv cv,.string vb,.int .i64 vs] _ (fun w hs=>hs.1) Tryz.underlying24 rfl hsz9) ?_
  (try simp only [Act.put,pA,pB,pC])
  refine run_out ?_
  refine wpAnyH_ready (rs:=[6]) (by kernel_rfl) (by simp) ?_
  refine readyR rfl (fun K hK=>?_) AllReadyH.nil
  go_simp
  refine ((HW2.out _ hbd).1).mono ?_
  rintro e w6 ⟨F2,g2,rfl,hN,_⟩
  dsimp only [aggV]
  have hN2:=NewI.of (w0:=wc) hN hbd.size
  replace hbd:=hbd.trans (hN.below.mono hbd.size)
  clear hN
  replace l7:=rng_same l7 (hbd.block _ hl7)
  replace hc19:=cell_keep hbd htl hc19
  go_wp2_with fail
  refine hK.out _ _ ?_ (fun hHeld=>?_)
  ·exact ⟨l7,hc19⟩
  clear hK K
  (try simp only [Act.put,pA,pB,pC])
  refine run_in [7,8] ?_
  iterate 2 (refine run_e rfl (by kernel_rfl) (by rfl) (fun _ _ _ _ h=>h) (by assumption) ?_;apply Exists.intro;refine And.intro (fun w hSw=>?_) ?_;(focus (try dsimp only at hSw);go_simp;(try with_reducible rfl));(try simp only [Act.put,pA,pB,pC]))
  refine run_out ?_
  refine wpAnyH_ready (rs:=[9]) (by kernel_rfl) (by simp) ?_
  refine readyR rfl (fun K hK=>?_) AllReadyH.nil
  obtain ⟨w9,hst,hPt,hT9⟩:=(HW2.out _ hbd).2 F2 _ hN2
  refine step_store_run (by rfl) 24 (.tmp 67) (.tmp 65) rfl (p:=⟨g,pos * 19 + 9,none⟩) rfl rfl hst ?_
  have hz1:=Nat.lt_of_lt_of_le hl7 hbd.size
  have hz2:=Nat.lt_of_lt_of_le htl hbd.size
  replace l7:=rng_same l7 (hT9.block _ hz1 hne7)
  replace hc19:=(hT9.cell (p:=⟨tb,19,none⟩) hz2 (fun e=>hgt e.symm)).trans hc19
  refine hK.out _ _ ?_ (fun hHeld=>?_)
  ·exact ⟨l7,hc19⟩
  clear hK K
  (try simp only [Act.put,pA,pB,pC])
  refine wpAnyH_done (by kernel_rfl) ?_ _
  go_wp2_with fail
  go_ret
  exact ⟨rfl,hPt⟩
theorem put24y (h:TbAt w B F s) (hB:B ≤ w.heap.size) (hlen:s.tabs.length ≤ 1000) {r k v:Tm (N + 1)} {ur uk uv:Value} {B2:Nat} (hB2:B2 ≤ B) (hI:ItemsAt w B2 N ur r.items) (hJ:ItemsAt w B2 N uk k.items) (hV:ItemsAt w B2 N uv v.items) (hnk:nodesT k ≤ 100000000) (hnv:nodesT v ≤ 100000000)
 (hvk:validT k = true) (hvv:validT v = true) {i:Nat} (hi:i < s.tabs.length) (hr:refAt s.tabs r = some i) (hok:FindOK s.tabs[i] k) :
 Calls Tryz.prog 24 #[.pointer (some ⟨s.z,0,none⟩),aggV r.f ur,aggV k.f uk,aggV v.f uv] w fun e w'=>e = .returned (.int .i64 0)∧PutQ w B F s.tabs[i] k v w' :=
 put24g h hB hlen (Nat.le_trans hB2 hB) hI hJ hV hnk hnv hvk hvv hi hr hok (fun Wm hm=>by
  obtain ⟨F1,uk',vr,hq⟩:=hm
  have ht:=h.tabs _ (List.getElem_mem hi)
  have hbB:Below B w Wm:=hq.touch.below (fun q hq=>by rcases hq with rfl | e;exact ht.low;exact (ht.rows.lt e).1) hB
  exact (hV.below hbB hB2).more (Nat.le_trans hB2 (Nat.le_trans hB hbB.size)))
end
end Go.Proofs.YtfbggmbmgohiiaaGreat.tb
