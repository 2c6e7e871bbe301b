/- Texts of this seat, one behind the other: TcE, TcF. No condition beyond theirs. -/
import Derived.Test.YtfbggmbmgohiiaaGreatK39
import Derived.Test.YtfbggmbmgohiiaaGreatK01
set_option linter.unusedSimpArgs false
set_option linter.unusedVariables false
set_option maxHeartbeats 4000000
set_option maxRecDepth 100000
namespace Go.Proofs.YtfbggmbmgohiiaaGreat.tb
open Go.RowKit mem rec tm names
theorem info89:(Tryz.prog.info? 89).map (fun i=>(i.zero,i.size,i.bytes)) = some (some (.pointer none),1,8):=by kernel_rfl
theorem elP:ElTy 72 89 1:=elty_of Tryz.underlying72 info89 rfl (by decide) (by decide)
theorem NewI.drewN {n:Nat} {w0 w:World} {F:Nat→Prop} {u:Value} {l:List (Tm n)} (h:NewI w0 w F n u l):NewI w0 w.drew F n u l:=h.below (belowD (Below.refl _ _))
section
variable {N:Nat} {w:World} {B:Nat} {F:Nat→Prop} {s:TbSt N}
theorem make_end (h:TbAt w B F s) (hB:B ≤ w.heap.size) {W:World} (hb:Below w.heap.size w W) {t:TabE N} (hvr:t.vr = nilV) (hrows:t.rows = []) (hb0:w.heap.size ≤ t.b) (hblk:W.heap[t.b]? = some (.cells (tabL t).toArray 98)) {F1 F2:Nat→Prop}
 (hN1:NewI w W F1 N t.ur t.ref.items) (hN2:NewI w W F2 N t.uo t.own.items) {v':Value} {W2:World} (hA:AppR ptrL 89 1 W B s.vl (s.tabs.map (·.b)) [t.b] v' W2) :
 TbAt (W2.setCell ⟨s.z,1,none⟩ v') B (fun g=>F g∨F1 g∨F2 g) ⟨s.z,v',s.tabs ++ [t]⟩∧TT progT B w (W2.setCell ⟨s.z,1,none⟩ v'):=by
 have hz:=h.zlt
 have hvlk:∀ q,s.vl.ownBlock = some q→q < w.heap.size∧B ≤ q∧tyOf w q = some 89:=fun q hq=>⟨(h.l.lt hq).2,(h.l.lt hq).1,ownTy h.l hq⟩
 have htz:tyOf w s.z = some 74:=tyOf_of h.obj
 have hzvl:s.vl.ownBlock ≠ some s.z:=fun e=>ty_ne htz (hvlk _ e).2.2 (by decide) rfl
 have hzW:s.z < W.heap.size:=Nat.lt_of_lt_of_le hz hb.size
 have hset:∀ g,g ≠ s.z→(W2.setCell ⟨s.z,1,none⟩ v').heap[g]? = W2.heap[g]?:=fun g hg=>Below.heap_setCell _ _ _ _ hg
 have hsz:(W2.setCell ⟨s.z,1,none⟩ v').heap.size = W2.heap.size:=by simp
 have hgr:=hA.grown.size
 have hW:∀ g,g < W.heap.size→g ≠ s.z→s.vl.ownBlock ≠ some g→(W2.setCell ⟨s.z,1,none⟩ v').heap[g]? = W.heap[g]?:=fun g h1 h2 h3=>(hset g h2).trans (hA.other h1 h3)
 have hold:∀ g a,g < w.heap.size→tyOf w g = some a→a ≠ 74→a ≠ 89→(W2.setCell ⟨s.z,1,none⟩ v').heap[g]? = w.heap[g]?:=fun g a hg ha h1 h2 =>
  (hW g (Nat.lt_of_lt_of_le hg hb.size) (ty_ne ha htz h1) (fun e=>ty_ne ha (hvlk g e).2.2 h2 rfl)).trans (hb.block g hg)
 have hnew:∀ g,w.heap.size ≤ g→g < W.heap.size→(W2.setCell ⟨s.z,1,none⟩ v').heap[g]? = W.heap[g]?:=fun g h1 h2=>hW g h2 (by omega) (fun e=>by have:=(hvlk g e).1;omega)
 have hFs:∀ g,F g→(W2.setCell ⟨s.z,1,none⟩ v').heap[g]? = w.heap[g]?:=fun g hg=>hold g 24 (h.fl g hg) (F_ty h hg) (by decide) (by decide)
 have hF1s:∀ g,F1 g→(W2.setCell ⟨s.z,1,none⟩ v').heap[g]? = W.heap[g]?:=fun g hg=>hnew g (hN1.inr g hg).1 (hN1.inr g hg).2
 have hF2s:∀ g,F2 g→(W2.setCell ⟨s.z,1,none⟩ v').heap[g]? = W.heap[g]?:=fun g hg=>hnew g (hN2.inr g hg).1 (hN2.inr g hg).2
 have htbl:t.b < W.heap.size:=(Array.getElem?_eq_some_iff.1 hblk).1
 have hv'z:v'.ownBlock ≠ some s.z:=hA.place hzW hzvl
 have hobjW:W2.heap[s.z]? = some (.cells #[.bool true,s.vl] 74):=(hA.other hzW hzvl).trans ((hb.block _ hz).trans h.obj)
 have hgt:∀ (j k:Nat) (tj:TabE N),(s.tabs ++ [t])[j]? = some tj→(s.tabs[j]? = some tj)∨(j = s.tabs.length∧tj = t):=fun j _ tj hj=>by
  by_cases hjl:j < s.tabs.length
  ·rw [List.getElem?_append_left hjl] at hj;exact .inl hj
  ·rw [List.getElem?_append_right (by omega)] at hj
   have:j - s.tabs.length = 0:=by
    have:=(List.getElem?_eq_some_iff.1 hj).1
    simp at this;omega
   rw [this] at hj
   exact .inr ⟨by omega,by simpa using hj.symm⟩
 refine ⟨⟨?_,?_,fun u hu=>?_,?_,?_,h.low,(h.ty.same hFs).union ((hN1.typed.same hF1s).union (hN2.typed.same hF2s)),?_⟩,?_⟩
 ·exact set_block hobjW v'
 ·show RecOwn ptrL 89 1 _ B v' ((s.tabs ++ [t]).map (·.b))
  rw [List.map_append]
  exact hA.own.same (fun q hq=>hset q (fun e=>hv'z (by rw [← e];exact hq)))
 ·rcases List.mem_append.1 hu with hu | hu
  ·have hu:=h.tabs u hu
   exact hu.same (hold _ 98 hu.lt (tyOf_of hu.blk) (by decide) (by decide)) (fun q hq=>hold q 108 (hu.rows.lt hq).2 (ownTy hu.rows hq) (by decide) (by decide)) hFs (fun _ e=>.inl e)
  ·obtain rfl:u = t:=by simpa using hu
   refine ⟨(hnew _ hb0 htbl).trans hblk,?_,hN1.items.mono hF1s (fun _ e=>.inr (.inl e)),hN2.items.mono hF2s (fun _ e=>.inr (.inr e)),?_,Nat.le_trans hB hb0⟩
   ·rw [hvr,hrows];exact RecOwn.nil _ _ _
   ·rw [hrows];intro r hr;cases hr
 ·show ((s.tabs ++ [t]).map (·.b)).Nodup
  rw [List.map_append,List.nodup_append]
  refine ⟨h.nd,by simp,fun a ha c hc=>?_⟩
  obtain ⟨u,hu,rfl⟩:=List.mem_map.1 ha
  simp at hc
  have:=(h.tabs u hu).lt
  omega
 ·intro i j ti tj hi hj hne q hq
  rcases hgt i 0 ti hi with hi | ⟨rfl,rfl⟩
  ·rcases hgt j 0 tj hj with hj | ⟨rfl,rfl⟩
   ·exact h.rnd i j ti tj hi hj hne q hq
   ·rw [hvr];intro e;cases e
  ·rw [hvr] at hq;cases hq
 ·rintro g (hg | hg | hg)
  ·rw [hsz];exact Nat.lt_of_lt_of_le (h.fl g hg) (Nat.le_trans hb.size hgr)
  ·rw [hsz];exact Nat.lt_of_lt_of_le (hN1.inr g hg).2 hgr
  ·rw [hsz];exact Nat.lt_of_lt_of_le (hN2.inr g hg).2 hgr
 ·refine TouchB.setCell (hA.touch ((TouchB.refl _ _).ofBelow hb (Nat.le_refl _)) (fun q hq _=>⟨(hvlk q hq).2.1,89,(hvlk q hq).2.2,.inr (.inl rfl)⟩)) _ _ (fun _=>⟨h.low,74,htz,.inl rfl⟩)
end
theorem two_boxesR (w:World) (o1 o2:Obj) {x1 x2:List Value} {t1 t2:TypeId} (e1:o1 = .cells x1.toArray t1) (e2:o2 = .cells x2.toArray t2) :
 Below w.heap.size w ((w.alloc o1).alloc o2)∧∀ W,Below ((w.alloc o1).alloc o2).heap.size ((w.alloc o1).alloc o2) W→W.rangeAt w.heap.size 0 x1∧W.rangeAt (w.heap.size + 1) 0 x2:=by
 obtain ⟨h1,h2,h3⟩:=two_boxes w o1 o2
 refine ⟨h1,fun W hW=>?_⟩
 have hr:∀ g (x:List Value) t,((w.alloc o1).alloc o2).heap[g]? = some (.cells x.toArray t)→W.rangeAt g 0 x:=fun g x t hx j u hu=>by
  have hb:=(hW.block g (Array.getElem?_eq_some_iff.1 hx).1).trans hx
  rw [cell_of_row W g (0 + j) x.toArray t _ hb]
  simpa using hu
 exact ⟨hr _ _ _ (by rw [h2,e1]),hr _ _ _ (by rw [h3,e2])⟩
def MakeQ {N:Nat} (w:World) (B:Nat) (F:Nat→Prop) (s:TbSt N) (ref own:Tm (N + 1)) (hs:Bool) (W:World):Prop:=∃ F1 ur uo vl b,TbAt W B F1 ⟨s.z,vl,s.tabs ++ [⟨ref,own,ur,uo,hs,nilV,[],b⟩]⟩∧TT progT B w W∧∀ g,F g→F1 g
section
variable {N:Nat} {w w':World} {B:Nat} {F:Nat→Prop} {s:TbSt N}
theorem make17t (h:TbAt w B F s) (hB:B ≤ w.heap.size) (hlen:s.tabs.length ≤ 1000) {r o:Tm (N + 1)} {ur uo:Value} {B2:Nat} (hB2:B2 ≤ B) (hI:ItemsAt w B2 N ur r.items) (hJ:ItemsAt w B2 N uo o.items) (hnr:nodesT r ≤ 100000000) (hno:nodesT o ≤ 100000000)
 (hvr:validT r = true) (hvo:validT o = true) (hkr:r.f.kind = 3) (hko:o.f.kind = 6) (hs:Bool) {i:Nat} (hi:i < s.tabs.length) (hr:refAt s.tabs r = some i) :
 Calls Tryz.prog 17 #[.pointer (some ⟨s.z,0,none⟩),aggV r.f ur,aggV o.f uo,.bool hs] w fun e w'=>e = .returned (.int .i64 8)∧Below w.heap.size w w':=by
 have hBw:B2 ≤ w.heap.size:=Nat.le_trans hB2 hB
 have hTR:TabR s.tabs r (some ⟨(s.tabs[i]).b,0,none⟩) 0:=.inr ⟨i,hi,hr,rfl,rfl⟩
 have HTb:=Lib.hid (fun (W:World) (hW:Below w.heap.size w W)=>table49 (h.below hW) hlen (Nat.le_trans hBw hW.size) (hI.below hW hBw) (po:=some ⟨(s.tabs[i]).b,0,none⟩) (er:=0) hTR)
 have HVr:=Lib.hid (fun (W:World) (hW:Below w.heap.size w W)=>ValidTm (ofAll N) W B2 ur r (Nat.le_trans hBw hW.size) (hI.below hW hBw) (by omega))
 have HVo:=Lib.hid (fun (W:World) (hW:Below w.heap.size w W)=>ValidTm (ofAll N) W B2 uo o (Nat.le_trans hBw hW.size) (hJ.below hW hBw) (by omega))
 have HC1:=Lib.hid (fun (W:World) (hW:Below w.heap.size w W)=>copyAll N W B2 ur r (Nat.le_trans hBw hW.size) (hI.below hW hBw) hnr)
 have HC2:=Lib.hid (fun (W:World) (hW:Below w.heap.size w W)=>copyAll N W B2 uo o (Nat.le_trans hBw hW.size) (hJ.below hW hBw) hno)
 have HO:=Lib.hid (fun (W:World) (hW:Below w.heap.size w W)=>two_cells (h.below hW).obj)
 obtain ⟨pr,cr,er,_,_⟩:=hI.shape
 obtain ⟨po,co,eo,_,_⟩:=hJ.shape
 obtain ⟨pw,cw,ew,hcw,hmw⟩:=h.l.shape
 rw [hvr] at HVr
 rw [hvo] at HVo
 generalize (s.tabs[i]).b = tb at *
 generalize s.z = z at *
 rw [ew] at HO
 rw [er] at HTb HVr HC1 ⊢
 rw [eo] at HVo HC2 ⊢
 generalize (s.tabs.map (·.b)).length = nT at *
 clear h hB hlen hI hJ hnr hno hvr hvo hi hr hTR hBw hB2 er eo ew
 generalize r.items.length = nr at *
 generalize o.items.length = no at *
 generalize hri:r.items = ri_ at *
 generalize hoi:o.items = oi_ at *
 generalize hrf:r.f = fr at *
 generalize hof:o.f = fo at *
 obtain ⟨rk,ri,rg,rn,rf,ra,rb,rs⟩:=fr
 obtain ⟨ok,oi,og,on,of,oa,ob,os⟩:=fo
 dsimp only at hkr hko
 subst hkr hko
 unfold aggV at *
 dsimp only at *
 clear HC1 HC2 hri hoi hrf hof
 unfold BPost at HVr HVo
 have hsz9:(Tryz.prog.info? 24).map (·.size) = some 9:=by kernel_rfl
 obtain ⟨hb0,hX0⟩:=two_boxesR w (.cells #[.int .i64 3,.int .i64 ri,.int .i64 rg,.string rn,.string rf,.int .i64 ra,.slice pr nr cr,.string rb,.int .i64 rs] 24) (.cells #[.int .i64 6,.int .i64 oi,.int .i64 og,.string on,.string of,.int .i64 oa,.slice po no co,.string ob,.int .i64 os] 24) (x1:=[.int .i64 3,.int .i64 ri,.int .i64 rg,.string rn,.string rf,.int .i64 ra,.slice pr nr cr,.string rb,.int .i64 rs]) (x2:=[.int .i64 6,.int .i64 oi,.int .i64 og,.string on,.string of,.int .i64 oa,.slice po no co,.string ob,.int .i64 os]) rfl rfl
 go_enter Tryz.func17,Tryz.ntmps17
 go_upto_region 1 with (fail)
 generalize ((w.alloc (.cells #[.int .i64 3,.int .i64 ri,.int .i64 rg,.string rn,.string rf,.int .i64 ra,.slice pr nr cr,.string rb,.int .i64 rs] 24)).alloc (.cells #[.int .i64 6,.int .i64 oi,.int .i64 og,.string on,.string of,.int .i64 oa,.slice po no co,.string ob,.int .i64 os] 24)) = W1 at *
 obtain ⟨l5,l6⟩:=hX0 _ (Below.refl _ _)
 have HL5:=Lib.hid l5
 have HB0:=Lib.hid hb0
 have HX:=Lib.hid hX0
 clear hb0 hX0 l5 l6
 go_wp2_with (first
  | (refine wpList_load_mid rfl 24 (.tmp 5) rfl w.heap.size 0 rfl [.int .i64 3,.int .i64 ri,.int .i64 rg,.string rn,.string rf,.int .i64 ra,.slice pr nr cr,.string rb,.int .i64 rs] _ HL5.out Tryz.underlying24 rfl hsz9 ?_))
 refine (HTb.out _ HB0.out).mono ?_
 rintro e w2 ⟨rfl,hb2⟩
 have HB2:=Lib.hid (HB0.out.trans (hb2.mono HB0.out.size))
 obtain ⟨l5,l6⟩:=HX.out _ hb2
 have HW2:=Lib.hid hb2
 clear HL5 hb2 HTb
 have x0:=l5 0 _ rfl
 have x1:=l5 1 _ rfl
 have x2:=l5 2 _ rfl
 have x3:=l5 3 _ rfl
 have x4:=l5 4 _ rfl
 have x5:=l5 5 _ rfl
 have x6:=l5 6 _ rfl
 have x7:=l5 7 _ rfl
 have x8:=l5 8 _ rfl
 simp only [Nat.reduceAdd] at x0 x1 x2 x3 x4 x5 x6 x7 x8
 have y0:=l6 0 _ rfl
 simp only [Nat.reduceAdd] at y0
 clear l5 l6
 go_wp2_with fail
 refine (HVr.out _ HB2.out).mono ?_
 rintro e w3 ⟨rfl,hb3⟩
 have HB3:=Lib.hid (HB2.out.trans (hb3.mono HB2.out.size))
 have HW3:=Lib.hid (HW2.out.trans (hb3.mono HW2.out.size))
 obtain ⟨l5,l6⟩:=HX.out _ HW3.out
 clear x0 x1 x2 x3 x4 x5 x6 x7 x8 y0 hb3 HB2 HW2 HVr
 have y0:=l6 0 _ rfl
 have y1:=l6 1 _ rfl
 have y2:=l6 2 _ rfl
 have y3:=l6 3 _ rfl
 have y4:=l6 4 _ rfl
 have y5:=l6 5 _ rfl
 have y6:=l6 6 _ rfl
 have y7:=l6 7 _ rfl
 have y8:=l6 8 _ rfl
 simp only [Nat.reduceAdd] at y0 y1 y2 y3 y4 y5 y6 y7 y8
 clear l5 l6
 go_wp2_with fail
 refine (HVo.out _ HB3.out).mono ?_
 rintro e w4 ⟨rfl,hb4⟩
 have HB4:=Lib.hid (HB3.out.trans (hb4.mono HB3.out.size))
 have HW4:=Lib.hid (HW3.out.trans (hb4.mono HW3.out.size))
 clear y0 y1 y2 y3 y4 y5 y6 y7 y8 hb4 HB3 HW3 HVo
 obtain ⟨o0,o1,of⟩:=HO.out _ HB4.out
 go_wp2_with fail
 go_ret
 exact ⟨rfl,HB4.out⟩
theorem make17y (h:TbAt w B F s) (hB:B ≤ w.heap.size) (hlen:s.tabs.length ≤ 1000) {r o:Tm (N + 1)} {ur uo:Value} {B2:Nat} (hB2:B2 ≤ B) (hI:ItemsAt w B2 N ur r.items) (hJ:ItemsAt w B2 N uo o.items) (hnr:nodesT r ≤ 100000000) (hno:nodesT o ≤ 100000000)
 (hvr:validT r = true) (hvo:validT o = true) (hkr:r.f.kind = 3) (hko:o.f.kind = 6) (hs:Bool) (h64:s.tabs.length < 64) (hr:refAt s.tabs r = none) :
 Calls Tryz.prog 17 #[.pointer (some ⟨s.z,0,none⟩),aggV r.f ur,aggV o.f uo,.bool hs] w fun e w'=>e = .returned (.int .i64 0)∧MakeQ w B F s r o hs w':=by
 have hBw:B2 ≤ w.heap.size:=Nat.le_trans hB2 hB
 have hTR:TabR s.tabs r none 4:=.inl ⟨hr,rfl,rfl⟩
 have HTb:=Lib.hid (fun (W:World) (hW:Below w.heap.size w W)=>table49 (h.below hW) hlen (Nat.le_trans hBw hW.size) (hI.below hW hBw) (po:=none) (er:=4) hTR)
 have HVr:=Lib.hid (fun (W:World) (hW:Below w.heap.size w W)=>ValidTm (ofAll N) W B2 ur r (Nat.le_trans hBw hW.size) (hI.below hW hBw) (by omega))
 have HVo:=Lib.hid (fun (W:World) (hW:Below w.heap.size w W)=>ValidTm (ofAll N) W B2 uo o (Nat.le_trans hBw hW.size) (hJ.below hW hBw) (by omega))
 have HC1:=Lib.hid (fun (W:World) (hW:Below w.heap.size w W)=>copyAll N W B2 ur r (Nat.le_trans hBw hW.size) (hI.below hW hBw) hnr)
 have HC2:=Lib.hid (fun (W:World) (hW:Below w.heap.size w W)=>copyAll N W B2 uo o (Nat.le_trans hBw hW.size) (hJ.below hW hBw) hno)
 have HO:=Lib.hid (fun (W:World) (hW:Below w.heap.size w W)=>two_cells (h.below hW).obj)
 obtain ⟨pr,cr,er,_,_⟩:=hI.shape
 obtain ⟨po,co,eo,_,_⟩:=hJ.shape
 obtain ⟨pw,cw,ew,hcw,hmw⟩:=h.l.shape
 rw [hvr] at HVr
 rw [hvo] at HVo
 have HEnd:=Lib.hid (fun (W:World) (hb:Below w.heap.size w W) (b:Nat) (vr vo:Value) hb0 hblk (F1 F2:Nat→Prop) hN1 hN2 (v':Value) (W2:World) hA=>make_end h hB hb (t:=⟨r,o,vr,vo,hs,nilV,[],b⟩) rfl rfl hb0 hblk (F1:=F1) (F2:=F2) hN1 hN2 (v':=v') (W2:=W2) hA)
 have HEn2:Hid (∀ (W:World),Below w.heap.size w W→∀ (b:Nat) (vr vo:Value),w.heap.size ≤ b→W.heap[b]? = some (.cells (nineL r.f vr ++ (nineL o.f vo ++ [kindV hs,nilV])).toArray 98)→∀ F1 F2,NewI w W F1 N vr r.items→NewI w W F2 N vo o.items→∀ v' W2,AppR ptrL 89 1 W B s.vl (s.tabs.map (·.b)) [b] v' W2→MakeQ w B F s r o hs (W2.setCell ⟨s.z,1,none⟩ v')) :=
  Lib.hid (fun W hb b vr vo hb0 hblk F1 F2 hN1 hN2 v' W2 hA=>⟨_,vr,vo,v',b,(HEnd.out W hb b vr vo hb0 hblk F1 F2 hN1 hN2 v' W2 hA).1,(HEnd.out W hb b vr vo hb0 hblk F1 F2 hN1 hN2 v' W2 hA).2,fun _ q=>.inl q⟩)
 have HOw:=Lib.hid (fun (W:World) (hW:Below w.heap.size w W)=>h.l.below hW)
 have HZ:Hid (∀ W,Below w.heap.size w W→∀ b v' W2,AppR ptrL 89 1 W B s.vl (s.tabs.map (·.b)) [b] v' W2→W2.heap[s.z]? = some (.cells #[.bool true,s.vl] 74)):=Lib.hid (fun W hW b v' W2 hA=>(hA.other (Nat.lt_of_lt_of_le h.zlt hW.size) (fun e=>ty_ne (tyOf_of h.obj) (ownTy h.l e) (by decide) rfl)).trans ((hW.block _ h.zlt).trans h.obj))
 clear HEnd
 have h64':((s.tabs.map (·.b)).length:Int) < 64:=by rw [List.length_map];omega
 have hBs:=hB
 generalize hMq:MakeQ w B F s r o hs = Mq at *
 clear hMq
 generalize s.z = z at *
 generalize s.tabs.map (·.b) = lb at *
 rw [ew] at HO HOw HZ HEn2
 rw [er] at HTb HVr HC1 ⊢
 rw [eo] at HVo HC2 ⊢
 generalize hnT:lb.length = nT at *
 clear h hB hlen hI hJ hnr hno hvr hvo hr hTR hBw hB2 er eo ew h64
 unfold nineL at HEn2
 simp only [List.cons_append,List.nil_append] at HEn2
 generalize r.items.length = nr at *
 generalize o.items.length = no at *
 generalize hri:r.items = ri_ at *
 generalize hoi:o.items = oi_ at *
 generalize hrf:r.f = fr at *
 generalize hof:o.f = fo at *
 obtain ⟨rk,ri,rg,rn,rf,ra,rb,rs⟩:=fr
 obtain ⟨ok,oi,og,on,of,oa,ob,os⟩:=fo
 dsimp only at hkr hko
 subst hkr hko
 unfold aggV at *
 dsimp only at *
 unfold nilV at HEn2
 unfold BPost at HVr HVo
 clear hri hoi hrf hof
 have hsz9:(Tryz.prog.info? 24).map (·.size) = some 9:=by kernel_rfl
 obtain ⟨hb0,hX0⟩:=two_boxesR w (.cells #[.int .i64 3,.int .i64 ri,.int .i64 rg,.string rn,.string rf,.int .i64 ra,.slice pr nr cr,.string rb,.int .i64 rs] 24) (.cells #[.int .i64 6,.int .i64 oi,.int .i64 og,.string on,.string of,.int .i64 oa,.slice po no co,.string ob,.int .i64 os] 24) (x1:=[.int .i64 3,.int .i64 ri,.int .i64 rg,.string rn,.string rf,.int .i64 ra,.slice pr nr cr,.string rb,.int .i64 rs]) (x2:=[.int .i64 6,.int .i64 oi,.int .i64 og,.string on,.string of,.int .i64 oa,.slice po no co,.string ob,.int .i64 os]) rfl rfl
 go_enter Tryz.func17,Tryz.ntmps17
 go_upto_region 1 with (fail)
 generalize ((w.alloc (.cells #[.int .i64 3,.int .i64 ri,.int .i64 rg,.string rn,.string rf,.int .i64 ra,.slice pr nr cr,.string rb,.int .i64 rs] 24)).alloc (.cells #[.int .i64 6,.int .i64 oi,.int .i64 og,.string on,.string of,.int .i64 oa,.slice po no co,.string ob,.int .i64 os] 24)) = W1 at *
 obtain ⟨l5,l6⟩:=hX0 _ (Below.refl _ _)
 have HL5:=Lib.hid l5
 have HB0:=Lib.hid hb0
 have HX:=Lib.hid hX0
 clear hb0 hX0 l5 l6
 go_wp2_with (first
  | (refine wpList_load_mid rfl 24 (.tmp 5) rfl w.heap.size 0 rfl [.int .i64 3,.int .i64 ri,.int .i64 rg,.string rn,.string rf,.int .i64 ra,.slice pr nr cr,.string rb,.int .i64 rs] _ HL5.out Tryz.underlying24 rfl hsz9 ?_))
 refine (HTb.out _ HB0.out).mono ?_
 rintro e w2 ⟨rfl,hb2⟩
 have HB2:=Lib.hid (HB0.out.trans (hb2.mono HB0.out.size))
 obtain ⟨l5,l6⟩:=HX.out _ hb2
 have HW2:=Lib.hid hb2
 clear HL5 hb2 HTb
 have x0:=l5 0 _ rfl
 have x1:=l5 1 _ rfl
 have x2:=l5 2 _ rfl
 have x3:=l5 3 _ rfl
 have x4:=l5 4 _ rfl
 have x5:=l5 5 _ rfl
 have x6:=l5 6 _ rfl
 have x7:=l5 7 _ rfl
 have x8:=l5 8 _ rfl
 simp only [Nat.reduceAdd] at x0 x1 x2 x3 x4 x5 x6 x7 x8
 have y0:=l6 0 _ rfl
 simp only [Nat.reduceAdd] at y0
 clear l5 l6
 go_wp2_with fail
 refine (HVr.out _ HB2.out).mono ?_
 rintro e w3 ⟨rfl,hb3⟩
 have HB3:=Lib.hid (HB2.out.trans (hb3.mono HB2.out.size))
 have HW3:=Lib.hid (HW2.out.trans (hb3.mono HW2.out.size))
 obtain ⟨l5,l6⟩:=HX.out _ HW3.out
 clear x0 x1 x2 x3 x4 x5 x6 x7 x8 y0 hb3 HB2 HW2 HVr
 have y0:=l6 0 _ rfl
 have y1:=l6 1 _ rfl
 have y2:=l6 2 _ rfl
 have y3:=l6 3 _ rfl
 have y4:=l6 4 _ rfl
 have y5:=l6 5 _ rfl
 have y6:=l6 6 _ rfl
 have y7:=l6 7 _ rfl
 have y8:=l6 8 _ rfl
 simp only [Nat.reduceAdd] at y0 y1 y2 y3 y4 y5 y6 y7 y8
 clear l5 l6
 go_wp2_with fail
 refine (HVo.out _ HB3.out).mono ?_
 rintro e w4 ⟨rfl,hb4⟩
 have HB4:=Lib.hid (HB3.out.trans (hb4.mono HB3.out.size))
 have HW4:=Lib.hid (HW3.out.trans (hb4.mono HW3.out.size))
 clear y0 y1 y2 y3 y4 y5 y6 y7 y8 hb4 HB3 HW3 HVo
 obtain ⟨o0,o1,of⟩:=HO.out _ HB4.out
 go_upto_region 10 with (fail)
 clear o0 o1 of
 have hbd:=HB4.out.trans (belowD (Below.refl w.heap.size w4))
 have hbW:=HW4.out.trans (belowD (Below.refl W1.heap.size w4))
 obtain ⟨l5,l6⟩:=HX.out _ hbW
 refine wp_region_held_drew (S:=(fun w'=>w'.rangeAt w.heap.size 0 [.int .i64 3,.int .i64 ri,.int .i64 rg,.string rn,.string rf,.int .i64 ra,.slice pr nr cr,.string rb,.int .i64 rs]∧w'.rangeAt (w.heap.size + 1) 0 [.int .i64 6,.int .i64 oi,.int .i64 og,.string on,.string of,.int .i64 oa,.slice po no co,.string ob,.int .i64 os])) (by kernel_rfl) ?_ (fun hHeld=>?_)
 ·exact ⟨l5,l6⟩
 refine run_in [0,2,4,5] ?_
 refine run_r rfl (by kernel_rfl) (fun _ _ _ _ h=>h) (by assumption) (yieldsIf_load_mid (by rfl) 24 (.tmp 5) rfl w.heap.size 0 rfl [.int .i64 3,.int .i64 ri,.int .i64 rg,.string rn,.string rf,.int .i64 ra,.slice pr nr cr,.string rb,.int .i64 rs] _ (fun w hs=>hs.1) Tryz.underlying24 rfl hsz9) ?_
 (try simp only [Act.put,pA,pB,pC])
 refine run_r rfl (by kernel_rfl) (fun _ _ _ _ h=>h) (by assumption) (yieldsIf_load_mid (by rfl) 24 (.tmp 6) rfl (w.heap.size + 1) 0 rfl [.int .i64 6,.int .i64 oi,.int .i64 og,.string on,.string of,.int .i64 oa,.slice po no co,.string ob,.int .i64 os] _ (fun w hs=>hs.2) Tryz.underlying24 rfl hsz9) ?_
 (try simp only [Act.put,pA,pB,pC])
 iterate 2 (refine run_e rfl (by kernel_rfl) (by rfl) (fun _ _ _ _ h=>h) (by assumption) ?_;apply Exists.intro;refine And.intro (fun w hSw=>?_) ?_;(focus (try dsimp only at hSw);go_simp;(try with_reducible rfl));(try simp only [Act.put,pA,pB,pC]))
 refine run_out ?_
 refine wpAnyH_ready (rs:=[1]) (by kernel_rfl) (by simp) ?_
 refine readyR rfl (fun K hK=>?_) AllReadyH.nil
 go_simp
 refine (HC1.out _ hbd).mono ?_
 rintro e w101 ⟨F1,g1,rfl,hN,_⟩
 dsimp only [aggV]
 have hN1:=NewI.of (w0:=w) hN hbd.size
 replace hbW:=hbW.trans (hN.below.mono hbW.size)
 replace hbd:=hbd.trans (hN.below.mono hbd.size)
 clear l5 l6 hN
 obtain ⟨l5,l6⟩:=HX.out _ hbW
 go_wp2_with fail
 refine hK.out _ _ ?_ (fun hHeld=>?_)
 ·exact ⟨l5,l6⟩
 clear hK K
 (try simp only [Act.put,pA,pB,pC])
 refine wpAnyH_ready (rs:=[3]) (by kernel_rfl) (by simp) ?_
 refine readyR rfl (fun K hK=>?_) AllReadyH.nil
 go_simp
 refine (HC2.out _ hbd).mono ?_
 rintro e w103 ⟨F2,g2,rfl,hN,_⟩
 dsimp only [aggV]
 have hN2:=NewI.of (w0:=w) hN hbd.size
 replace hN1:=hN1.below hN.below
 replace hbW:=hbW.trans (hN.below.mono hbW.size)
 replace hbd:=hbd.trans (hN.below.mono hbd.size)
 clear l5 l6 hN
 obtain ⟨l5,l6⟩:=HX.out _ hbW
 go_wp2_with fail
 refine hK.out _ _ ?_ (fun hHeld=>?_)
 ·exact ⟨l5,l6⟩
 clear hK K
 (try simp only [Act.put,pA,pB,pC])
 refine run_in [6] ?_
 (refine run_e rfl (by kernel_rfl) (by rfl) (fun _ _ _ _ h=>h) (by assumption) ?_;apply Exists.intro;refine And.intro (fun w hSw=>?_) ?_;(focus (try dsimp only at hSw);go_simp;(try with_reducible rfl));(try simp only [Act.put,pA,pB,pC]))
 refine run_out ?_
 refine wpAnyH_ready (rs:=[7]) (by kernel_rfl) (by simp) ?_
 refine readyR rfl (fun K hK=>?_) AllReadyH.nil
 have HF1:Hid (∀ g,F1 g→g ≠ w103.heap.size):=Lib.hid (fun g hg e=>by have:=(hN1.inr g hg).2;omega)
 have HF2:Hid (∀ g,F2 g→g ≠ w103.heap.size):=Lib.hid (fun g hg e=>by have:=(hN2.inr g hg).2;omega)
 go_simp
 have hblk:=alloc_new w103 (.cells #[.int .i64 3,.int .i64 ri,.int .i64 rg,.string rn,.string rf,.int .i64 ra,.slice (some ⟨g1,0,none⟩) ri_.length ri_.length,.string rb,.int .i64 rs,.int .i64 6,.int .i64 oi,.int .i64 og,.string on,.string of,.int .i64 oa,.slice (some ⟨g2,0,none⟩) oi_.length oi_.length,.string ob,.int .i64 os,.iface 93 (.agg #[]),.slice none 0 0] 98)
 have hba:=belowA (Below.refl w103.heap.size w103) (.cells #[.int .i64 3,.int .i64 ri,.int .i64 rg,.string rn,.string rf,.int .i64 ra,.slice (some ⟨g1,0,none⟩) ri_.length ri_.length,.string rb,.int .i64 rs,.int .i64 6,.int .i64 oi,.int .i64 og,.string on,.string of,.int .i64 oa,.slice (some ⟨g2,0,none⟩) oi_.length oi_.length,.string ob,.int .i64 os,.iface 93 (.agg #[]),.slice none 0 0] 98) (Nat.le_refl _)
 replace hN1:=hN1.below hba
 replace hN2:=hN2.below hba
 have hb0:=hbd.size
 replace hbW:=hbW.trans (hba.mono hbW.size)
 replace hbd:=hbd.trans (hba.mono hbd.size)
 clear l5 l6 hba
 obtain ⟨l5,l6⟩:=HX.out _ hbW
 refine hK.out _ _ ?_ (fun hHeld=>?_)
 ·exact ⟨l5,l6⟩
 clear hK K
 (try simp only [Act.put,pA,pB,pC])
 refine run_in [8] ?_
 (refine run_e rfl (by kernel_rfl) (by rfl) (fun _ _ _ _ h=>h) (by assumption) ?_;apply Exists.intro;refine And.intro (fun w hSw=>?_) ?_;(focus (try dsimp only at hSw);go_simp;(try with_reducible rfl));(try simp only [Act.put,pA,pB,pC]))
 refine run_out ?_
 refine wpAnyH_done (by kernel_rfl) ?_ _
 have HF1:Hid (∀ g,F1 g→g ≠ w103.heap.size):=HF1
 have HF2:Hid (∀ g,F2 g→g ≠ w103.heap.size):=HF2
 generalize w103.alloc (.cells #[.int .i64 3,.int .i64 ri,.int .i64 rg,.string rn,.string rf,.int .i64 ra,.slice (some ⟨g1,0,none⟩) ri_.length ri_.length,.string rb,.int .i64 rs,.int .i64 6,.int .i64 oi,.int .i64 og,.string on,.string of,.int .i64 oa,.slice (some ⟨g2,0,none⟩) oi_.length oi_.length,.string ob,.int .i64 os,.iface 93 (.agg #[]),.slice none 0 0] 98) = W10 at *
 generalize w103.heap.size = b at *
 cases hs
 ·have hkv:kindV false = .iface 93 (.agg #[]):=rfl
  rw [hkv] at HEn2
  clear hkv l5 l6
  go_upto_region 13 with (fail)
  have hba:=belowA (Below.refl W10.heap.size W10) (.cells #[.pointer (some ⟨b,0,none⟩)] 89) (Nat.le_refl _)
  have hz:=alloc_new W10 (.cells #[.pointer (some ⟨b,0,none⟩)] 89)
  have HR13:Hid (RecAt ptrL 1 (W10.alloc (.cells #[.pointer (some ⟨b,0,none⟩)] 89)) (W10.heap.size + 1) (.slice (some ⟨W10.heap.size,0,none⟩) 1 1) [b]):=Lib.hid (RecAt.fresh (l:=[b]) (ptrL_ok _) (by decide) hz (Nat.le_refl _) (by decide))
  have hb13:=hbd.trans (hba.mono hbd.size)
  have HN1z:=Lib.hid (hN1.below hba)
  have HN2z:=Lib.hid (hN2.below hba)
  have HBk:=Lib.hid ((hba.block b (Array.getElem?_eq_some_iff.1 hblk).1).trans hblk)
  have HB13:=Lib.hid hb13
  obtain ⟨o0,o1,of⟩:=HO.out _ hbd
  obtain ⟨m0,m1,mf⟩:=HO.out _ hb13
  have hlb:lb.length + [b].length ≤ 1000000000:=by rw [hnT];simp;omega
  clear hba hz hb13 hblk hN1 hN2
  go_wp2_with (first | (refine wpList_append_rec elP rfl (.tmp 69) (.tmp 71) rfl rfl (HOw.out _ HB13.out) (Nat.le_trans hBs HB13.out.size) rfl HR13.out (ptrL_ok _) hlb ?_;intro v' w2 hA;obtain ⟨ao',cap',hv,_,_⟩:=hA.own.shape;generalize (lb ++ [b]).length = q at hv;subst hv;have HA:=Lib.hid hA;obtain ⟨p0,p1,pf⟩:=two_cells (HZ.out _ HB13.out _ _ _ hA);clear hA m0 m1 mf o0 o1 of))
  go_ret
  exact ⟨rfl,HEn2.out _ HB13.out b _ _ hb0 HBk.out F1 F2 HN1z.out HN2z.out _ _ HA.out⟩
 ·have hkv:kindV true = .iface 99 (.agg #[]):=rfl
  rw [hkv] at HEn2
  clear hkv l5 l6
  have q18:W10.cell? ⟨b,18,none⟩ = some (.iface 93 (.agg #[])):=cell_of_row _ _ _ _ _ _ hblk
  have q18f:W10.frozen? ⟨b,18,none⟩ = false:=by simp only [World.frozen?,hblk];simp
  go_upto_region 13 with (fail)
  have hsb:Below w.heap.size W10 (W10.setCell ⟨b,18,none⟩ (.iface 99 (.agg #[]))):=((TouchB.refl (fun q=>q = b) W10).setCell ⟨b,18,none⟩ (.iface 99 (.agg #[])) (fun _=>rfl)).below (fun q e=>by rw [e];exact hb0) hbd.size
  have hblk2:(W10.setCell ⟨b,18,none⟩ (.iface 99 (.agg #[]))).heap[b]? = some (.cells #[.int .i64 3,.int .i64 ri,.int .i64 rg,.string rn,.string rf,.int .i64 ra,.slice (some ⟨g1,0,none⟩) ri_.length ri_.length,.string rb,.int .i64 rs,.int .i64 6,.int .i64 oi,.int .i64 og,.string on,.string of,.int .i64 oa,.slice (some ⟨g2,0,none⟩) oi_.length oi_.length,.string ob,.int .i64 os,.iface 99 (.agg #[]),.slice none 0 0] 98):=set_block hblk _
  have hsT:=(TouchB.refl (fun q=>q = b) W10).setCell ⟨b,18,none⟩ (.iface 99 (.agg #[])) (fun _=>rfl)
  have hN1s:NewI w (W10.setCell ⟨b,18,none⟩ (.iface 99 (.agg #[]))) F1 N (.slice (some ⟨g1,0,none⟩) ri_.length ri_.length) ri_:=⟨hN1.items.mono (fun g hg=>hsT.block g (hN1.inr g hg).2 (fun e=>HF1.out g hg e)) (fun _ e=>e),hN1.typed.same (fun g hg=>hsT.block g (hN1.inr g hg).2 (fun e=>HF1.out g hg e)),fun g hg=>⟨(hN1.inr g hg).1,Nat.lt_of_lt_of_le (hN1.inr g hg).2 hsT.size⟩⟩
  have hN2s:NewI w (W10.setCell ⟨b,18,none⟩ (.iface 99 (.agg #[]))) F2 N (.slice (some ⟨g2,0,none⟩) oi_.length oi_.length) oi_:=⟨hN2.items.mono (fun g hg=>hsT.block g (hN2.inr g hg).2 (fun e=>HF2.out g hg e)) (fun _ e=>e),hN2.typed.same (fun g hg=>hsT.block g (hN2.inr g hg).2 (fun e=>HF2.out g hg e)),fun g hg=>⟨(hN2.inr g hg).1,Nat.lt_of_lt_of_le (hN2.inr g hg).2 hsT.size⟩⟩
  replace hbd:=hbd.trans hsb
  clear hsT hsb hblk hN1 hN2 q18 q18f
  generalize W10.setCell ⟨b,18,none⟩ (.iface 99 (.agg #[])) = W11 at *
  have hba:=belowA (Below.refl W11.heap.size W11) (.cells #[.pointer (some ⟨b,0,none⟩)] 89) (Nat.le_refl _)
  have hz:=alloc_new W11 (.cells #[.pointer (some ⟨b,0,none⟩)] 89)
  have HR13:Hid (RecAt ptrL 1 (W11.alloc (.cells #[.pointer (some ⟨b,0,none⟩)] 89)) (W11.heap.size + 1) (.slice (some ⟨W11.heap.size,0,none⟩) 1 1) [b]):=Lib.hid (RecAt.fresh (l:=[b]) (ptrL_ok _) (by decide) hz (Nat.le_refl _) (by decide))
  have hb13:=hbd.trans (hba.mono hbd.size)
  have HN1z:=Lib.hid (hN1s.below hba)
  have HN2z:=Lib.hid (hN2s.below hba)
  have HBk:=Lib.hid ((hba.block b (Array.getElem?_eq_some_iff.1 hblk2).1).trans hblk2)
  have HB13:=Lib.hid hb13
  obtain ⟨o0,o1,of⟩:=HO.out _ hbd
  obtain ⟨m0,m1,mf⟩:=HO.out _ hb13
  have hlb:lb.length + [b].length ≤ 1000000000:=by rw [hnT];simp;omega
  clear hba hz hb13 hblk2 hN1s hN2s
  go_wp2_with (first | (refine wpList_append_rec elP rfl (.tmp 69) (.tmp 71) rfl rfl (HOw.out _ HB13.out) (Nat.le_trans hBs HB13.out.size) rfl HR13.out (ptrL_ok _) hlb ?_;intro v' w2 hA;obtain ⟨ao',cap',hv,_,_⟩:=hA.own.shape;generalize (lb ++ [b]).length = q at hv;subst hv;have HA:=Lib.hid hA;obtain ⟨p0,p1,pf⟩:=two_cells (HZ.out _ HB13.out _ _ _ hA);clear hA m0 m1 mf o0 o1 of))
  go_ret
  exact ⟨rfl,HEn2.out _ HB13.out b _ _ hb0 HBk.out F1 F2 HN1z.out HN2z.out _ _ HA.out⟩
end
end Go.Proofs.YtfbggmbmgohiiaaGreat.tb
