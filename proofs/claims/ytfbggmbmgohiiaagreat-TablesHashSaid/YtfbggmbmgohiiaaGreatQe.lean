/- Several texts in one, one behind the other: TcE, TcF, TcG, TcH, TcI. No condition beyond theirs. -/
import Derived.Test.YtfbggmbmgohiiaaGreatQd
/- Make: the table is laid at the end of the row. Conditions: the object lies in memory. -/
namespace Go.Proofs.YtfbggmbmgohiiaaGreat.tb
open Go.RowKit mem rec tm names
set_option linter.unusedVariables false
set_option linter.unusedSimpArgs false
set_option maxHeartbeats 1000000
set_option maxRecDepth 100000
theorem info89 : (Tryz.prog.info? 89).map (fun i => (i.zero, i.size, i.bytes)) = some (some (.pointer none), 1, 8) := by kernel_rfl
theorem elP : ElTy 72 89 1 := elty_of Tryz.underlying72 info89 rfl (by decide) (by decide)
theorem NewI.drewN {n : Nat} {w0 w : World} {F : Nat → Prop} {u : Value} {l : List (Tm n)} (h : NewI w0 w F n u l) : NewI w0 w.drew F n u l := h.below (belowD (Below.refl _ _))
section
variable {N : Nat} {w : World} {B : Nat} {F : Nat → Prop} {s : TbSt N}
theorem make_end (h : TbAt w B F s) (hB : B ≤ w.heap.size) {W : World} (hb : Below w.heap.size w W) {t : TabE N} (hvr : t.vr = nilV) (hrows : t.rows = []) (hb0 : w.heap.size ≤ t.b) (hblk : W.heap[t.b]? = some (.cells (tabL t).toArray 98)) {F1 F2 : Nat → Prop}
    (hN1 : NewI w W F1 N t.ur t.ref.items) (hN2 : NewI w W F2 N t.uo t.own.items) {v' : Value} {W2 : World} (hA : AppR ptrL 89 1 W B s.vl (s.tabs.map (·.b)) [t.b] v' W2) :
    TbAt (W2.setCell ⟨s.z, 1, none⟩ v') B (fun g => F g ∨ F1 g ∨ F2 g) ⟨s.z, v', s.tabs ++ [t]⟩ ∧ TT progT B w (W2.setCell ⟨s.z, 1, none⟩ v') := by
  have hz := h.zlt
  have hvlk : ∀ q, s.vl.ownBlock = some q → q < w.heap.size ∧ B ≤ q ∧ tyOf w q = some 89 := fun q hq => ⟨(h.l.lt hq).2, (h.l.lt hq).1, ownTy h.l hq⟩
  have htz : tyOf w s.z = some 74 := tyOf_of h.obj
  have hzvl : s.vl.ownBlock ≠ some s.z := fun e => ty_ne htz (hvlk _ e).2.2 (by decide) rfl
  have hzW : s.z < W.heap.size := Nat.lt_of_lt_of_le hz hb.size
  have hset : ∀ g, g ≠ s.z → (W2.setCell ⟨s.z, 1, none⟩ v').heap[g]? = W2.heap[g]? := fun g hg => Below.heap_setCell _ _ _ _ hg
  have hsz : (W2.setCell ⟨s.z, 1, none⟩ v').heap.size = W2.heap.size := by simp
  have hgr := hA.grown.size
  have hW : ∀ g, g < W.heap.size → g ≠ s.z → s.vl.ownBlock ≠ some g → (W2.setCell ⟨s.z, 1, none⟩ v').heap[g]? = W.heap[g]? := fun g h1 h2 h3 => (hset g h2).trans (hA.other h1 h3)
  have hold : ∀ g a, g < w.heap.size → tyOf w g = some a → a ≠ 74 → a ≠ 89 → (W2.setCell ⟨s.z, 1, none⟩ v').heap[g]? = w.heap[g]? := fun g a hg ha h1 h2 =>
    (hW g (Nat.lt_of_lt_of_le hg hb.size) (ty_ne ha htz h1) (fun e => ty_ne ha (hvlk g e).2.2 h2 rfl)).trans (hb.block g hg)
  have hnew : ∀ g, w.heap.size ≤ g → g < W.heap.size → (W2.setCell ⟨s.z, 1, none⟩ v').heap[g]? = W.heap[g]? := fun g h1 h2 => hW g h2 (by omega) (fun e => by have := (hvlk g e).1; omega)
  have hFs : ∀ g, F g → (W2.setCell ⟨s.z, 1, none⟩ v').heap[g]? = w.heap[g]? := fun g hg => hold g 24 (h.fl g hg) (F_ty h hg) (by decide) (by decide)
  have hF1s : ∀ g, F1 g → (W2.setCell ⟨s.z, 1, none⟩ v').heap[g]? = W.heap[g]? := fun g hg => hnew g (hN1.inr g hg).1 (hN1.inr g hg).2
  have hF2s : ∀ g, F2 g → (W2.setCell ⟨s.z, 1, none⟩ v').heap[g]? = W.heap[g]? := fun g hg => hnew g (hN2.inr g hg).1 (hN2.inr g hg).2
  have htbl : t.b < W.heap.size := (Array.getElem?_eq_some_iff.1 hblk).1
  have hv'z : v'.ownBlock ≠ some s.z := hA.place hzW hzvl
  have hobjW : W2.heap[s.z]? = some (.cells #[.bool true, s.vl] 74) := (hA.other hzW hzvl).trans ((hb.block _ hz).trans h.obj)
  have hgt : ∀ (j k : Nat) (tj : TabE N), (s.tabs ++ [t])[j]? = some tj → (s.tabs[j]? = some tj) ∨ (j = s.tabs.length ∧ tj = t) := fun j _ tj hj => by
    by_cases hjl : j < s.tabs.length
    · rw [List.getElem?_append_left hjl] at hj; exact .inl hj
    · rw [List.getElem?_append_right (by omega)] at hj
      have : j - s.tabs.length = 0 := by
        have := (List.getElem?_eq_some_iff.1 hj).1
        simp at this; omega
      rw [this] at hj
      exact .inr ⟨by omega, by simpa using hj.symm⟩
  refine ⟨⟨?_, ?_, fun u hu => ?_, ?_, ?_, h.low, (h.ty.same hFs).union ((hN1.typed.same hF1s).union (hN2.typed.same hF2s)), ?_⟩, ?_⟩
  · exact set_block hobjW v'
  · show RecOwn ptrL 89 1 _ B v' ((s.tabs ++ [t]).map (·.b))
    rw [List.map_append]
    exact hA.own.same (fun q hq => hset q (fun e => hv'z (by rw [← e]; exact hq)))
  · rcases List.mem_append.1 hu with hu | hu
    · have hu := h.tabs u hu
      exact hu.same (hold _ 98 hu.lt (tyOf_of hu.blk) (by decide) (by decide)) (fun q hq => hold q 108 (hu.rows.lt hq).2 (ownTy hu.rows hq) (by decide) (by decide)) hFs (fun _ e => .inl e)
    · obtain rfl : u = t := by simpa using hu
      refine ⟨(hnew _ hb0 htbl).trans hblk, ?_, hN1.items.mono hF1s (fun _ e => .inr (.inl e)), hN2.items.mono hF2s (fun _ e => .inr (.inr e)), ?_, Nat.le_trans hB hb0⟩
      · rw [hvr, hrows]; exact RecOwn.nil _ _ _
      · rw [hrows]; intro r hr; cases hr
  · show ((s.tabs ++ [t]).map (·.b)).Nodup
    rw [List.map_append, List.nodup_append]
    refine ⟨h.nd, by simp, fun a ha c hc => ?_⟩
    obtain ⟨u, hu, rfl⟩ := List.mem_map.1 ha
    simp at hc
    have := (h.tabs u hu).lt
    omega
  · intro i j ti tj hi hj hne q hq
    rcases hgt i 0 ti hi with hi | ⟨rfl, rfl⟩
    · rcases hgt j 0 tj hj with hj | ⟨rfl, rfl⟩
      · exact h.rnd i j ti tj hi hj hne q hq
      · rw [hvr]; intro e; cases e
    · rw [hvr] at hq; cases hq
  · rintro g (hg | hg | hg)
    · rw [hsz]; exact Nat.lt_of_lt_of_le (h.fl g hg) (Nat.le_trans hb.size hgr)
    · rw [hsz]; exact Nat.lt_of_lt_of_le (hN1.inr g hg).2 hgr
    · rw [hsz]; exact Nat.lt_of_lt_of_le (hN2.inr g hg).2 hgr
  · refine TouchB.setCell (hA.touch ((TouchB.refl _ _).ofBelow hb (Nat.le_refl _)) (fun q hq _ => ⟨(hvlk q hq).2.1, 89, (hvlk q hq).2.2, .inr (.inl rfl)⟩)) _ _ (fun _ => ⟨h.low, 74, htz, .inl rfl⟩)
end
end Go.Proofs.YtfbggmbmgohiiaaGreat.tb
/- Make, where it succeeds, and where the name is taken. Conditions: the object and the terms lie in memory. -/
namespace Go.Proofs.YtfbggmbmgohiiaaGreat.tb
open Go.RowKit mem rec tm names
set_option linter.unusedVariables false
set_option linter.unusedSimpArgs false
set_option maxHeartbeats 4000000
set_option maxRecDepth 100000
theorem two_boxesR (w : World) (o1 o2 : Obj) {x1 x2 : List Value} {t1 t2 : TypeId} (e1 : o1 = .cells x1.toArray t1) (e2 : o2 = .cells x2.toArray t2) :
    Below w.heap.size w ((w.alloc o1).alloc o2) ∧ ∀ W, Below ((w.alloc o1).alloc o2).heap.size ((w.alloc o1).alloc o2) W → W.rangeAt w.heap.size 0 x1 ∧ W.rangeAt (w.heap.size + 1) 0 x2 := by
  obtain ⟨h1, h2, h3⟩ := two_boxes w o1 o2
  refine ⟨h1, fun W hW => ?_⟩
  have hr : ∀ g (x : List Value) t, ((w.alloc o1).alloc o2).heap[g]? = some (.cells x.toArray t) → W.rangeAt g 0 x := fun g x t hx j u hu => by
    have hb := (hW.block g (Array.getElem?_eq_some_iff.1 hx).1).trans hx
    rw [cell_of_row W g (0 + j) x.toArray t _ hb]
    simpa using hu
  exact ⟨hr _ _ _ (by rw [h2, e1]), hr _ _ _ (by rw [h3, e2])⟩
def MakeQ {N : Nat} (w : World) (B : Nat) (F : Nat → Prop) (s : TbSt N) (ref own : Tm (N + 1)) (hs : Bool) (W : World) : Prop := ∃ F1 ur uo vl b, TbAt W B F1 ⟨s.z, vl, s.tabs ++ [⟨ref, own, ur, uo, hs, nilV, [], b⟩]⟩ ∧ TT progT B w W ∧ ∀ g, F g → F1 g
section
variable {N : Nat} {w w' : World} {B : Nat} {F : Nat → Prop} {s : TbSt N}
theorem make17t (h : TbAt w B F s) (hB : B ≤ w.heap.size) (hlen : s.tabs.length ≤ 1000) {r o : Tm (N + 1)} {ur uo : Value} {B2 : Nat} (hB2 : B2 ≤ B) (hI : ItemsAt w B2 N ur r.items) (hJ : ItemsAt w B2 N uo o.items) (hnr : nodesT r ≤ 100000000) (hno : nodesT o ≤ 100000000)
    (hvr : validT r = true) (hvo : validT o = true) (hkr : r.f.kind = 3) (hko : o.f.kind = 6) (hs : Bool) {i : Nat} (hi : i < s.tabs.length) (hr : refAt s.tabs r = some i) :
    Calls Tryz.prog 17 #[.pointer (some ⟨s.z, 0, none⟩), aggV r.f ur, aggV o.f uo, .bool hs] w fun e w' => e = .returned (.int .i64 8) ∧ Below w.heap.size w w' := by
  have hBw : B2 ≤ w.heap.size := Nat.le_trans hB2 hB
  have hTR : TabR s.tabs r (some ⟨(s.tabs[i]).b, 0, none⟩) 0 := .inr ⟨i, hi, hr, rfl, rfl⟩
  have HTb := Lib.hid (fun (W : World) (hW : Below w.heap.size w W) => table49 (h.below hW) hlen (Nat.le_trans hBw hW.size) (hI.below hW hBw) (po := some ⟨(s.tabs[i]).b, 0, none⟩) (er := 0) hTR)
  have HVr := Lib.hid (fun (W : World) (hW : Below w.heap.size w W) => ValidTm (ofAll N) W B2 ur r (Nat.le_trans hBw hW.size) (hI.below hW hBw) (by omega))
  have HVo := Lib.hid (fun (W : World) (hW : Below w.heap.size w W) => ValidTm (ofAll N) W B2 uo o (Nat.le_trans hBw hW.size) (hJ.below hW hBw) (by omega))
  have HC1 := Lib.hid (fun (W : World) (hW : Below w.heap.size w W) => copyAll N W B2 ur r (Nat.le_trans hBw hW.size) (hI.below hW hBw) hnr)
  have HC2 := Lib.hid (fun (W : World) (hW : Below w.heap.size w W) => copyAll N W B2 uo o (Nat.le_trans hBw hW.size) (hJ.below hW hBw) hno)
  have HO := Lib.hid (fun (W : World) (hW : Below w.heap.size w W) => two_cells (h.below hW).obj)
  obtain ⟨pr, cr, er, _, _⟩ := hI.shape
  obtain ⟨po, co, eo, _, _⟩ := hJ.shape
  obtain ⟨pw, cw, ew, hcw, hmw⟩ := h.l.shape
  rw [hvr] at HVr
  rw [hvo] at HVo
  generalize (s.tabs[i]).b = tb at *
  generalize s.z = z at *
  rw [ew] at HO
  rw [er] at HTb HVr HC1 ⊢
  rw [eo] at HVo HC2 ⊢
  generalize (s.tabs.map (·.b)).length = nT at *
  clear h hB hlen hI hJ hnr hno hvr hvo hi hr hTR hBw hB2 er eo ew
  generalize r.items.length = nr at *
  generalize o.items.length = no at *
  generalize hri : r.items = ri_ at *
  generalize hoi : o.items = oi_ at *
  generalize hrf : r.f = fr at *
  generalize hof : o.f = fo at *
  obtain ⟨rk, ri, rg, rn, rf, ra, rb, rs⟩ := fr
  obtain ⟨ok, oi, og, on, of, oa, ob, os⟩ := fo
  dsimp only at hkr hko
  subst hkr hko
  unfold aggV at *
  dsimp only at *
  clear HC1 HC2 hri hoi hrf hof
  unfold BPost at HVr HVo
  have hsz9 : (Tryz.prog.info? 24).map (·.size) = some 9 := by kernel_rfl
  obtain ⟨hb0, hX0⟩ := two_boxesR w (.cells #[.int .i64 3, .int .i64 ri, .int .i64 rg, .string rn, .string rf, .int .i64 ra, .slice pr nr cr, .string rb, .int .i64 rs] 24) (.cells #[.int .i64 6, .int .i64 oi, .int .i64 og, .string on, .string of, .int .i64 oa, .slice po no co, .string ob, .int .i64 os] 24) (x1 := [.int .i64 3, .int .i64 ri, .int .i64 rg, .string rn, .string rf, .int .i64 ra, .slice pr nr cr, .string rb, .int .i64 rs]) (x2 := [.int .i64 6, .int .i64 oi, .int .i64 og, .string on, .string of, .int .i64 oa, .slice po no co, .string ob, .int .i64 os]) rfl rfl
  go_enter Tryz.func17, Tryz.ntmps17
  go_upto_region 1 with (fail)
  generalize ((w.alloc (.cells #[.int .i64 3, .int .i64 ri, .int .i64 rg, .string rn, .string rf, .int .i64 ra, .slice pr nr cr, .string rb, .int .i64 rs] 24)).alloc (.cells #[.int .i64 6, .int .i64 oi, .int .i64 og, .string on, .string of, .int .i64 oa, .slice po no co, .string ob, .int .i64 os] 24)) = W1 at *
  obtain ⟨l5, l6⟩ := hX0 _ (Below.refl _ _)
  have HL5 := Lib.hid l5
  have HB0 := Lib.hid hb0
  have HX := Lib.hid hX0
  clear hb0 hX0 l5 l6
  go_wp2_with (first
    | (refine wpList_load_mid rfl 24 (.tmp 5) rfl w.heap.size 0 rfl [.int .i64 3, .int .i64 ri, .int .i64 rg, .string rn, .string rf, .int .i64 ra, .slice pr nr cr, .string rb, .int .i64 rs] _ HL5.out Tryz.underlying24 rfl hsz9 ?_))
  refine (HTb.out _ HB0.out).mono ?_
  rintro e w2 ⟨rfl, hb2⟩
  have HB2 := Lib.hid (HB0.out.trans (hb2.mono HB0.out.size))
  obtain ⟨l5, l6⟩ := HX.out _ hb2
  have HW2 := Lib.hid hb2
  clear HL5 hb2 HTb
  have x0 := l5 0 _ rfl
  have x1 := l5 1 _ rfl
  have x2 := l5 2 _ rfl
  have x3 := l5 3 _ rfl
  have x4 := l5 4 _ rfl
  have x5 := l5 5 _ rfl
  have x6 := l5 6 _ rfl
  have x7 := l5 7 _ rfl
  have x8 := l5 8 _ rfl
  simp only [Nat.reduceAdd] at x0 x1 x2 x3 x4 x5 x6 x7 x8
  have y0 := l6 0 _ rfl
  simp only [Nat.reduceAdd] at y0
  clear l5 l6
  go_wp2_with fail
  refine (HVr.out _ HB2.out).mono ?_
  rintro e w3 ⟨rfl, hb3⟩
  have HB3 := Lib.hid (HB2.out.trans (hb3.mono HB2.out.size))
  have HW3 := Lib.hid (HW2.out.trans (hb3.mono HW2.out.size))
  obtain ⟨l5, l6⟩ := HX.out _ HW3.out
  clear x0 x1 x2 x3 x4 x5 x6 x7 x8 y0 hb3 HB2 HW2 HVr
  have y0 := l6 0 _ rfl
  have y1 := l6 1 _ rfl
  have y2 := l6 2 _ rfl
  have y3 := l6 3 _ rfl
  have y4 := l6 4 _ rfl
  have y5 := l6 5 _ rfl
  have y6 := l6 6 _ rfl
  have y7 := l6 7 _ rfl
  have y8 := l6 8 _ rfl
  simp only [Nat.reduceAdd] at y0 y1 y2 y3 y4 y5 y6 y7 y8
  clear l5 l6
  go_wp2_with fail
  refine (HVo.out _ HB3.out).mono ?_
  rintro e w4 ⟨rfl, hb4⟩
  have HB4 := Lib.hid (HB3.out.trans (hb4.mono HB3.out.size))
  have HW4 := Lib.hid (HW3.out.trans (hb4.mono HW3.out.size))
  clear y0 y1 y2 y3 y4 y5 y6 y7 y8 hb4 HB3 HW3 HVo
  obtain ⟨o0, o1, of⟩ := HO.out _ HB4.out
  go_wp2_with fail
  go_ret
  exact ⟨rfl, HB4.out⟩
theorem make17y (h : TbAt w B F s) (hB : B ≤ w.heap.size) (hlen : s.tabs.length ≤ 1000) {r o : Tm (N + 1)} {ur uo : Value} {B2 : Nat} (hB2 : B2 ≤ B) (hI : ItemsAt w B2 N ur r.items) (hJ : ItemsAt w B2 N uo o.items) (hnr : nodesT r ≤ 100000000) (hno : nodesT o ≤ 100000000)
    (hvr : validT r = true) (hvo : validT o = true) (hkr : r.f.kind = 3) (hko : o.f.kind = 6) (hs : Bool) (h64 : s.tabs.length < 64) (hr : refAt s.tabs r = none) :
    Calls Tryz.prog 17 #[.pointer (some ⟨s.z, 0, none⟩), aggV r.f ur, aggV o.f uo, .bool hs] w fun e w' => e = .returned (.int .i64 0) ∧ MakeQ w B F s r o hs w' := by
  have hBw : B2 ≤ w.heap.size := Nat.le_trans hB2 hB
  have hTR : TabR s.tabs r none 4 := .inl ⟨hr, rfl, rfl⟩
  have HTb := Lib.hid (fun (W : World) (hW : Below w.heap.size w W) => table49 (h.below hW) hlen (Nat.le_trans hBw hW.size) (hI.below hW hBw) (po := none) (er := 4) hTR)
  have HVr := Lib.hid (fun (W : World) (hW : Below w.heap.size w W) => ValidTm (ofAll N) W B2 ur r (Nat.le_trans hBw hW.size) (hI.below hW hBw) (by omega))
  have HVo := Lib.hid (fun (W : World) (hW : Below w.heap.size w W) => ValidTm (ofAll N) W B2 uo o (Nat.le_trans hBw hW.size) (hJ.below hW hBw) (by omega))
  have HC1 := Lib.hid (fun (W : World) (hW : Below w.heap.size w W) => copyAll N W B2 ur r (Nat.le_trans hBw hW.size) (hI.below hW hBw) hnr)
  have HC2 := Lib.hid (fun (W : World) (hW : Below w.heap.size w W) => copyAll N W B2 uo o (Nat.le_trans hBw hW.size) (hJ.below hW hBw) hno)
  have HO := Lib.hid (fun (W : World) (hW : Below w.heap.size w W) => two_cells (h.below hW).obj)
  obtain ⟨pr, cr, er, _, _⟩ := hI.shape
  obtain ⟨po, co, eo, _, _⟩ := hJ.shape
  obtain ⟨pw, cw, ew, hcw, hmw⟩ := h.l.shape
  rw [hvr] at HVr
  rw [hvo] at HVo
  have HEnd := Lib.hid (fun (W : World) (hb : Below w.heap.size w W) (b : Nat) (vr vo : Value) hb0 hblk (F1 F2 : Nat → Prop) hN1 hN2 (v' : Value) (W2 : World) hA => make_end h hB hb (t := ⟨r, o, vr, vo, hs, nilV, [], b⟩) rfl rfl hb0 hblk (F1 := F1) (F2 := F2) hN1 hN2 (v' := v') (W2 := W2) hA)
  have HEn2 : Hid (∀ (W : World), Below w.heap.size w W → ∀ (b : Nat) (vr vo : Value), w.heap.size ≤ b → W.heap[b]? = some (.cells (nineL r.f vr ++ (nineL o.f vo ++ [kindV hs, nilV])).toArray 98) → ∀ F1 F2, NewI w W F1 N vr r.items → NewI w W F2 N vo o.items → ∀ v' W2, AppR ptrL 89 1 W B s.vl (s.tabs.map (·.b)) [b] v' W2 → MakeQ w B F s r o hs (W2.setCell ⟨s.z, 1, none⟩ v')) :=
    Lib.hid (fun W hb b vr vo hb0 hblk F1 F2 hN1 hN2 v' W2 hA => ⟨_, vr, vo, v', b, (HEnd.out W hb b vr vo hb0 hblk F1 F2 hN1 hN2 v' W2 hA).1, (HEnd.out W hb b vr vo hb0 hblk F1 F2 hN1 hN2 v' W2 hA).2, fun _ q => .inl q⟩)
  have HOw := Lib.hid (fun (W : World) (hW : Below w.heap.size w W) => h.l.below hW)
  have HZ : Hid (∀ W, Below w.heap.size w W → ∀ b v' W2, AppR ptrL 89 1 W B s.vl (s.tabs.map (·.b)) [b] v' W2 → W2.heap[s.z]? = some (.cells #[.bool true, s.vl] 74)) := Lib.hid (fun W hW b v' W2 hA => (hA.other (Nat.lt_of_lt_of_le h.zlt hW.size) (fun e => ty_ne (tyOf_of h.obj) (ownTy h.l e) (by decide) rfl)).trans ((hW.block _ h.zlt).trans h.obj))
  clear HEnd
  have h64' : ((s.tabs.map (·.b)).length : Int) < 64 := by rw [List.length_map]; omega
  have hBs := hB
  generalize hMq : MakeQ w B F s r o hs = Mq at *
  clear hMq
  generalize s.z = z at *
  generalize s.tabs.map (·.b) = lb at *
  rw [ew] at HO HOw HZ HEn2
  rw [er] at HTb HVr HC1 ⊢
  rw [eo] at HVo HC2 ⊢
  generalize hnT : lb.length = nT at *
  clear h hB hlen hI hJ hnr hno hvr hvo hr hTR hBw hB2 er eo ew h64
  unfold nineL at HEn2
  simp only [List.cons_append, List.nil_append] at HEn2
  generalize r.items.length = nr at *
  generalize o.items.length = no at *
  generalize hri : r.items = ri_ at *
  generalize hoi : o.items = oi_ at *
  generalize hrf : r.f = fr at *
  generalize hof : o.f = fo at *
  obtain ⟨rk, ri, rg, rn, rf, ra, rb, rs⟩ := fr
  obtain ⟨ok, oi, og, on, of, oa, ob, os⟩ := fo
  dsimp only at hkr hko
  subst hkr hko
  unfold aggV at *
  dsimp only at *
  unfold nilV at HEn2
  unfold BPost at HVr HVo
  clear hri hoi hrf hof
  have hsz9 : (Tryz.prog.info? 24).map (·.size) = some 9 := by kernel_rfl
  obtain ⟨hb0, hX0⟩ := two_boxesR w (.cells #[.int .i64 3, .int .i64 ri, .int .i64 rg, .string rn, .string rf, .int .i64 ra, .slice pr nr cr, .string rb, .int .i64 rs] 24) (.cells #[.int .i64 6, .int .i64 oi, .int .i64 og, .string on, .string of, .int .i64 oa, .slice po no co, .string ob, .int .i64 os] 24) (x1 := [.int .i64 3, .int .i64 ri, .int .i64 rg, .string rn, .string rf, .int .i64 ra, .slice pr nr cr, .string rb, .int .i64 rs]) (x2 := [.int .i64 6, .int .i64 oi, .int .i64 og, .string on, .string of, .int .i64 oa, .slice po no co, .string ob, .int .i64 os]) rfl rfl
  go_enter Tryz.func17, Tryz.ntmps17
  go_upto_region 1 with (fail)
  generalize ((w.alloc (.cells #[.int .i64 3, .int .i64 ri, .int .i64 rg, .string rn, .string rf, .int .i64 ra, .slice pr nr cr, .string rb, .int .i64 rs] 24)).alloc (.cells #[.int .i64 6, .int .i64 oi, .int .i64 og, .string on, .string of, .int .i64 oa, .slice po no co, .string ob, .int .i64 os] 24)) = W1 at *
  obtain ⟨l5, l6⟩ := hX0 _ (Below.refl _ _)
  have HL5 := Lib.hid l5
  have HB0 := Lib.hid hb0
  have HX := Lib.hid hX0
  clear hb0 hX0 l5 l6
  go_wp2_with (first
    | (refine wpList_load_mid rfl 24 (.tmp 5) rfl w.heap.size 0 rfl [.int .i64 3, .int .i64 ri, .int .i64 rg, .string rn, .string rf, .int .i64 ra, .slice pr nr cr, .string rb, .int .i64 rs] _ HL5.out Tryz.underlying24 rfl hsz9 ?_))
  refine (HTb.out _ HB0.out).mono ?_
  rintro e w2 ⟨rfl, hb2⟩
  have HB2 := Lib.hid (HB0.out.trans (hb2.mono HB0.out.size))
  obtain ⟨l5, l6⟩ := HX.out _ hb2
  have HW2 := Lib.hid hb2
  clear HL5 hb2 HTb
  have x0 := l5 0 _ rfl
  have x1 := l5 1 _ rfl
  have x2 := l5 2 _ rfl
  have x3 := l5 3 _ rfl
  have x4 := l5 4 _ rfl
  have x5 := l5 5 _ rfl
  have x6 := l5 6 _ rfl
  have x7 := l5 7 _ rfl
  have x8 := l5 8 _ rfl
  simp only [Nat.reduceAdd] at x0 x1 x2 x3 x4 x5 x6 x7 x8
  have y0 := l6 0 _ rfl
  simp only [Nat.reduceAdd] at y0
  clear l5 l6
  go_wp2_with fail
  refine (HVr.out _ HB2.out).mono ?_
  rintro e w3 ⟨rfl, hb3⟩
  have HB3 := Lib.hid (HB2.out.trans (hb3.mono HB2.out.size))
  have HW3 := Lib.hid (HW2.out.trans (hb3.mono HW2.out.size))
  obtain ⟨l5, l6⟩ := HX.out _ HW3.out
  clear x0 x1 x2 x3 x4 x5 x6 x7 x8 y0 hb3 HB2 HW2 HVr
  have y0 := l6 0 _ rfl
  have y1 := l6 1 _ rfl
  have y2 := l6 2 _ rfl
  have y3 := l6 3 _ rfl
  have y4 := l6 4 _ rfl
  have y5 := l6 5 _ rfl
  have y6 := l6 6 _ rfl
  have y7 := l6 7 _ rfl
  have y8 := l6 8 _ rfl
  simp only [Nat.reduceAdd] at y0 y1 y2 y3 y4 y5 y6 y7 y8
  clear l5 l6
  go_wp2_with fail
  refine (HVo.out _ HB3.out).mono ?_
  rintro e w4 ⟨rfl, hb4⟩
  have HB4 := Lib.hid (HB3.out.trans (hb4.mono HB3.out.size))
  have HW4 := Lib.hid (HW3.out.trans (hb4.mono HW3.out.size))
  clear y0 y1 y2 y3 y4 y5 y6 y7 y8 hb4 HB3 HW3 HVo
  obtain ⟨o0, o1, of⟩ := HO.out _ HB4.out
  go_upto_region 10 with (fail)
  clear o0 o1 of
  have hbd := HB4.out.trans (belowD (Below.refl w.heap.size w4))
  have hbW := HW4.out.trans (belowD (Below.refl W1.heap.size w4))
  obtain ⟨l5, l6⟩ := HX.out _ hbW
  refine wp_region_held_drew (S := (fun w' => w'.rangeAt w.heap.size 0 [.int .i64 3, .int .i64 ri, .int .i64 rg, .string rn, .string rf, .int .i64 ra, .slice pr nr cr, .string rb, .int .i64 rs] ∧ w'.rangeAt (w.heap.size + 1) 0 [.int .i64 6, .int .i64 oi, .int .i64 og, .string on, .string of, .int .i64 oa, .slice po no co, .string ob, .int .i64 os])) (by kernel_rfl) ?_ (fun hHeld => ?_)
  · exact ⟨l5, l6⟩
  refine wpAnyH_take (i := 0) (oi := { dst := some 51, op := Op.load 24 (Operand.tmp 5), type := 24, pos := "tables.go:96", after := #[], guard := none }) rfl (by kernel_rfl) (by kernel_rfl) (by kernel_rfl) (fun _ _ _ h => h) (yieldsIf_load_mid (by rfl) 24 (.tmp 5) rfl w.heap.size 0 rfl [.int .i64 3, .int .i64 ri, .int .i64 rg, .string rn, .string rf, .int .i64 ra, .slice pr nr cr, .string rb, .int .i64 rs] _ (fun w hs => hs.1) Tryz.underlying24 rfl hsz9) (by assumption) ?_
  (try simp only [Act.put, List.setIfInBounds_toArray, List.set_cons_zero, List.set_cons_succ])
  refine wpAnyH_take (i := 2) (oi := { dst := some 53, op := Op.load 24 (Operand.tmp 6), type := 24, pos := "tables.go:96", after := #[], guard := none }) rfl (by kernel_rfl) (by kernel_rfl) (by kernel_rfl) (fun _ _ _ h => h) (yieldsIf_load_mid (by rfl) 24 (.tmp 6) rfl (w.heap.size + 1) 0 rfl [.int .i64 6, .int .i64 oi, .int .i64 og, .string on, .string of, .int .i64 oa, .slice po no co, .string ob, .int .i64 os] _ (fun w hs => hs.2) Tryz.underlying24 rfl hsz9) (by assumption) ?_
  (try simp only [Act.put, List.setIfInBounds_toArray, List.set_cons_zero, List.set_cons_succ])
  refine wpAnyH_take (i := 4) (oi := { dst := some 55, op := Op.build 93 #[], type := 93, pos := "tables.go:96", after := #[], guard := none }) (v := ?vvA4) rfl (by kernel_rfl) (by kernel_rfl) (by kernel_rfl) (fun _ _ _ h => h) (Or.inl ⟨by rfl, ?hyA4⟩) (by assumption) ?rsA4
  case hyA4 =>
    intro w hSw
    (try dsimp only at hSw)
    go_simp
    (try with_reducible rfl)
  (try simp only [Act.put, List.setIfInBounds_toArray, List.set_cons_zero, List.set_cons_succ])
  refine wpAnyH_take (i := 5) (oi := { dst := some 56, op := Op.makeInterface 93 (Operand.tmp 55), type := 95, pos := "tables.go:96", after := #[{ on := 4, ground := Ground.data }], guard := none }) (v := ?vvA5) rfl (by kernel_rfl) (by kernel_rfl) (by kernel_rfl) (fun _ _ _ h => h) (Or.inl ⟨by rfl, ?hyA5⟩) (by assumption) ?rsA5
  case hyA5 =>
    intro w hSw
    (try dsimp only at hSw)
    go_simp
    (try with_reducible rfl)
  (try simp only [Act.put, List.setIfInBounds_toArray, List.set_cons_zero, List.set_cons_succ])
  refine wpAnyH_ready (rs := [1]) (by kernel_rfl) (by simp) ?_
  refine AllReadyH.cons (o := { dst := some 52, op := Op.call { callee := Callee.value (Operand.func 51), args := #[Operand.tmp 51], argTypes := #[24] }, type := 24, pos := "tables.go:96", after := #[{ on := 0, ground := Ground.data }], guard := none }) rfl (fun K hK => ?_) AllReadyH.nil
  go_simp
  refine (HC1.out _ hbd).mono ?_
  rintro e w101 ⟨F1, g1, rfl, hN, _⟩
  dsimp only [aggV]
  have hN1 := NewI.of (w0 := w) hN hbd.size
  replace hbW := hbW.trans (hN.below.mono hbW.size)
  replace hbd := hbd.trans (hN.below.mono hbd.size)
  clear l5 l6 hN
  obtain ⟨l5, l6⟩ := HX.out _ hbW
  go_wp2_with fail
  refine hK.out _ _ ?_ (fun hHeld => ?_)
  · exact ⟨l5, l6⟩
  clear hK K
  (try simp only [Act.put, List.setIfInBounds_toArray, List.set_cons_zero, List.set_cons_succ])
  refine wpAnyH_ready (rs := [3]) (by kernel_rfl) (by simp) ?_
  refine AllReadyH.cons (o := { dst := some 54, op := Op.call { callee := Callee.value (Operand.func 51), args := #[Operand.tmp 53], argTypes := #[24] }, type := 24, pos := "tables.go:96", after := #[{ on := 2, ground := Ground.data }, { on := 1, ground := Ground.chain }], guard := none }) rfl (fun K hK => ?_) AllReadyH.nil
  go_simp
  refine (HC2.out _ hbd).mono ?_
  rintro e w103 ⟨F2, g2, rfl, hN, _⟩
  dsimp only [aggV]
  have hN2 := NewI.of (w0 := w) hN hbd.size
  replace hN1 := hN1.below hN.below
  replace hbW := hbW.trans (hN.below.mono hbW.size)
  replace hbd := hbd.trans (hN.below.mono hbd.size)
  clear l5 l6 hN
  obtain ⟨l5, l6⟩ := HX.out _ hbW
  go_wp2_with fail
  refine hK.out _ _ ?_ (fun hHeld => ?_)
  · exact ⟨l5, l6⟩
  clear hK K
  (try simp only [Act.put, List.setIfInBounds_toArray, List.set_cons_zero, List.set_cons_succ])
  refine wpAnyH_take (i := 6) (oi := { dst := some 57, op := Op.build 98 #[(0, Operand.tmp 52), (1, Operand.tmp 54), (2, Operand.tmp 56)], type := 98, pos := "tables.go:96", after := #[{ on := 1, ground := Ground.data }, { on := 3, ground := Ground.data }, { on := 5, ground := Ground.data }], guard := none }) (v := ?vvA6) rfl (by kernel_rfl) (by kernel_rfl) (by kernel_rfl) (fun _ _ _ h => h) (Or.inl ⟨by rfl, ?hyA6⟩) (by assumption) ?rsA6
  case hyA6 =>
    intro w hSw
    (try dsimp only at hSw)
    go_simp
    (try with_reducible rfl)
  (try simp only [Act.put, List.setIfInBounds_toArray, List.set_cons_zero, List.set_cons_succ])
  refine wpAnyH_ready (rs := [7]) (by kernel_rfl) (by simp) ?_
  refine AllReadyH.cons (o := { dst := some 58, op := Op.box 98 (Operand.tmp 57), type := 89, pos := "tables.go:96", after := #[{ on := 6, ground := Ground.data }], guard := none }) rfl (fun K hK => ?_) AllReadyH.nil
  have HF1 : Hid (∀ g, F1 g → g ≠ w103.heap.size) := Lib.hid (fun g hg e => by have := (hN1.inr g hg).2; omega)
  have HF2 : Hid (∀ g, F2 g → g ≠ w103.heap.size) := Lib.hid (fun g hg e => by have := (hN2.inr g hg).2; omega)
  go_simp
  have hblk := alloc_new w103 (.cells #[.int .i64 3, .int .i64 ri, .int .i64 rg, .string rn, .string rf, .int .i64 ra, .slice (some ⟨g1, 0, none⟩) ri_.length ri_.length, .string rb, .int .i64 rs, .int .i64 6, .int .i64 oi, .int .i64 og, .string on, .string of, .int .i64 oa, .slice (some ⟨g2, 0, none⟩) oi_.length oi_.length, .string ob, .int .i64 os, .iface 93 (.agg #[]), .slice none 0 0] 98)
  have hba := belowA (Below.refl w103.heap.size w103) (.cells #[.int .i64 3, .int .i64 ri, .int .i64 rg, .string rn, .string rf, .int .i64 ra, .slice (some ⟨g1, 0, none⟩) ri_.length ri_.length, .string rb, .int .i64 rs, .int .i64 6, .int .i64 oi, .int .i64 og, .string on, .string of, .int .i64 oa, .slice (some ⟨g2, 0, none⟩) oi_.length oi_.length, .string ob, .int .i64 os, .iface 93 (.agg #[]), .slice none 0 0] 98) (Nat.le_refl _)
  replace hN1 := hN1.below hba
  replace hN2 := hN2.below hba
  have hb0 := hbd.size
  replace hbW := hbW.trans (hba.mono hbW.size)
  replace hbd := hbd.trans (hba.mono hbd.size)
  clear l5 l6 hba
  obtain ⟨l5, l6⟩ := HX.out _ hbW
  refine hK.out _ _ ?_ (fun hHeld => ?_)
  · exact ⟨l5, l6⟩
  clear hK K
  (try simp only [Act.put, List.setIfInBounds_toArray, List.set_cons_zero, List.set_cons_succ])
  refine wpAnyH_take (i := 8) (oi := { dst := some 11, op := Op.assign (Operand.tmp 58), type := 89, pos := "tables.go:96", after := #[{ on := 7, ground := Ground.data }, { on := 3, ground := Ground.chain }, { on := 0, ground := Ground.phase }, { on := 1, ground := Ground.phase }, { on := 2, ground := Ground.phase }, { on := 3, ground := Ground.phase }, { on := 4, ground := Ground.phase }, { on := 5, ground := Ground.phase }, { on := 6, ground := Ground.phase }, { on := 7, ground := Ground.phase }], guard := none }) (v := ?vvA8) rfl (by kernel_rfl) (by kernel_rfl) (by kernel_rfl) (fun _ _ _ h => h) (Or.inl ⟨by rfl, ?hyA8⟩) (by assumption) ?rsA8
  case hyA8 =>
    intro w hSw
    (try dsimp only at hSw)
    go_simp
    (try with_reducible rfl)
  (try simp only [Act.put, List.setIfInBounds_toArray, List.set_cons_zero, List.set_cons_succ])
  refine wpAnyH_done (by kernel_rfl) ?_ _
  have HF1 : Hid (∀ g, F1 g → g ≠ w103.heap.size) := HF1
  have HF2 : Hid (∀ g, F2 g → g ≠ w103.heap.size) := HF2
  generalize w103.alloc (.cells #[.int .i64 3, .int .i64 ri, .int .i64 rg, .string rn, .string rf, .int .i64 ra, .slice (some ⟨g1, 0, none⟩) ri_.length ri_.length, .string rb, .int .i64 rs, .int .i64 6, .int .i64 oi, .int .i64 og, .string on, .string of, .int .i64 oa, .slice (some ⟨g2, 0, none⟩) oi_.length oi_.length, .string ob, .int .i64 os, .iface 93 (.agg #[]), .slice none 0 0] 98) = W10 at *
  generalize w103.heap.size = b at *
  cases hs
  · have hkv : kindV false = .iface 93 (.agg #[]) := rfl
    rw [hkv] at HEn2
    clear hkv l5 l6
    go_upto_region 13 with (fail)
    have hba := belowA (Below.refl W10.heap.size W10) (.cells #[.pointer (some ⟨b, 0, none⟩)] 89) (Nat.le_refl _)
    have hz := alloc_new W10 (.cells #[.pointer (some ⟨b, 0, none⟩)] 89)
    have HR13 : Hid (RecAt ptrL 1 (W10.alloc (.cells #[.pointer (some ⟨b, 0, none⟩)] 89)) (W10.heap.size + 1) (.slice (some ⟨W10.heap.size, 0, none⟩) 1 1) [b]) := Lib.hid (RecAt.fresh (l := [b]) (ptrL_ok _) (by decide) hz (Nat.le_refl _) (by decide))
    have hb13 := hbd.trans (hba.mono hbd.size)
    have HN1z := Lib.hid (hN1.below hba)
    have HN2z := Lib.hid (hN2.below hba)
    have HBk := Lib.hid ((hba.block b (Array.getElem?_eq_some_iff.1 hblk).1).trans hblk)
    have HB13 := Lib.hid hb13
    obtain ⟨o0, o1, of⟩ := HO.out _ hbd
    obtain ⟨m0, m1, mf⟩ := HO.out _ hb13
    have hlb : lb.length + [b].length ≤ 1000000000 := by rw [hnT]; simp; omega
    clear hba hz hb13 hblk hN1 hN2
    go_wp2_with (first | (refine wpList_append_rec elP rfl (.tmp 69) (.tmp 71) rfl rfl (HOw.out _ HB13.out) (Nat.le_trans hBs HB13.out.size) rfl HR13.out (ptrL_ok _) hlb ?_; intro v' w2 hA; obtain ⟨ao', cap', hv, _, _⟩ := hA.own.shape; generalize (lb ++ [b]).length = q at hv; subst hv; have HA := Lib.hid hA; obtain ⟨p0, p1, pf⟩ := two_cells (HZ.out _ HB13.out _ _ _ hA); clear hA m0 m1 mf o0 o1 of))
    go_ret
    exact ⟨rfl, HEn2.out _ HB13.out b _ _ hb0 HBk.out F1 F2 HN1z.out HN2z.out _ _ HA.out⟩
  · have hkv : kindV true = .iface 99 (.agg #[]) := rfl
    rw [hkv] at HEn2
    clear hkv l5 l6
    have q18 : W10.cell? ⟨b, 18, none⟩ = some (.iface 93 (.agg #[])) := cell_of_row _ _ _ _ _ _ hblk
    have q18f : W10.frozen? ⟨b, 18, none⟩ = false := by simp only [World.frozen?, hblk]; simp
    go_upto_region 13 with (fail)
    have hsb : Below w.heap.size W10 (W10.setCell ⟨b, 18, none⟩ (.iface 99 (.agg #[]))) := ((TouchB.refl (fun q => q = b) W10).setCell ⟨b, 18, none⟩ (.iface 99 (.agg #[])) (fun _ => rfl)).below (fun q e => by rw [e]; exact hb0) hbd.size
    have hblk2 : (W10.setCell ⟨b, 18, none⟩ (.iface 99 (.agg #[]))).heap[b]? = some (.cells #[.int .i64 3, .int .i64 ri, .int .i64 rg, .string rn, .string rf, .int .i64 ra, .slice (some ⟨g1, 0, none⟩) ri_.length ri_.length, .string rb, .int .i64 rs, .int .i64 6, .int .i64 oi, .int .i64 og, .string on, .string of, .int .i64 oa, .slice (some ⟨g2, 0, none⟩) oi_.length oi_.length, .string ob, .int .i64 os, .iface 99 (.agg #[]), .slice none 0 0] 98) := set_block hblk _
    have hsT := (TouchB.refl (fun q => q = b) W10).setCell ⟨b, 18, none⟩ (.iface 99 (.agg #[])) (fun _ => rfl)
    have hN1s : NewI w (W10.setCell ⟨b, 18, none⟩ (.iface 99 (.agg #[]))) F1 N (.slice (some ⟨g1, 0, none⟩) ri_.length ri_.length) ri_ := ⟨hN1.items.mono (fun g hg => hsT.block g (hN1.inr g hg).2 (fun e => HF1.out g hg e)) (fun _ e => e), hN1.typed.same (fun g hg => hsT.block g (hN1.inr g hg).2 (fun e => HF1.out g hg e)), fun g hg => ⟨(hN1.inr g hg).1, Nat.lt_of_lt_of_le (hN1.inr g hg).2 hsT.size⟩⟩
    have hN2s : NewI w (W10.setCell ⟨b, 18, none⟩ (.iface 99 (.agg #[]))) F2 N (.slice (some ⟨g2, 0, none⟩) oi_.length oi_.length) oi_ := ⟨hN2.items.mono (fun g hg => hsT.block g (hN2.inr g hg).2 (fun e => HF2.out g hg e)) (fun _ e => e), hN2.typed.same (fun g hg => hsT.block g (hN2.inr g hg).2 (fun e => HF2.out g hg e)), fun g hg => ⟨(hN2.inr g hg).1, Nat.lt_of_lt_of_le (hN2.inr g hg).2 hsT.size⟩⟩
    replace hbd := hbd.trans hsb
    clear hsT hsb hblk hN1 hN2 q18 q18f
    generalize W10.setCell ⟨b, 18, none⟩ (.iface 99 (.agg #[])) = W11 at *
    have hba := belowA (Below.refl W11.heap.size W11) (.cells #[.pointer (some ⟨b, 0, none⟩)] 89) (Nat.le_refl _)
    have hz := alloc_new W11 (.cells #[.pointer (some ⟨b, 0, none⟩)] 89)
    have HR13 : Hid (RecAt ptrL 1 (W11.alloc (.cells #[.pointer (some ⟨b, 0, none⟩)] 89)) (W11.heap.size + 1) (.slice (some ⟨W11.heap.size, 0, none⟩) 1 1) [b]) := Lib.hid (RecAt.fresh (l := [b]) (ptrL_ok _) (by decide) hz (Nat.le_refl _) (by decide))
    have hb13 := hbd.trans (hba.mono hbd.size)
    have HN1z := Lib.hid (hN1s.below hba)
    have HN2z := Lib.hid (hN2s.below hba)
    have HBk := Lib.hid ((hba.block b (Array.getElem?_eq_some_iff.1 hblk2).1).trans hblk2)
    have HB13 := Lib.hid hb13
    obtain ⟨o0, o1, of⟩ := HO.out _ hbd
    obtain ⟨m0, m1, mf⟩ := HO.out _ hb13
    have hlb : lb.length + [b].length ≤ 1000000000 := by rw [hnT]; simp; omega
    clear hba hz hb13 hblk2 hN1s hN2s
    go_wp2_with (first | (refine wpList_append_rec elP rfl (.tmp 69) (.tmp 71) rfl rfl (HOw.out _ HB13.out) (Nat.le_trans hBs HB13.out.size) rfl HR13.out (ptrL_ok _) hlb ?_; intro v' w2 hA; obtain ⟨ao', cap', hv, _, _⟩ := hA.own.shape; generalize (lb ++ [b]).length = q at hv; subst hv; have HA := Lib.hid hA; obtain ⟨p0, p1, pf⟩ := two_cells (HZ.out _ HB13.out _ _ _ hA); clear hA m0 m1 mf o0 o1 of))
    go_ret
    exact ⟨rfl, HEn2.out _ HB13.out b _ _ hb0 HBk.out F1 F2 HN1z.out HN2z.out _ _ HA.out⟩
end
end Go.Proofs.YtfbggmbmgohiiaaGreat.tb
/- row and First, where there is a row. Conditions: the object and the terms lie in memory. -/
namespace Go.Proofs.YtfbggmbmgohiiaaGreat.tb
open Go.RowKit mem rec tm names
set_option linter.unusedVariables false
set_option linter.unusedSimpArgs false
set_option maxHeartbeats 4000000
set_option maxRecDepth 100000
theorem results_cc {fn : Func} {p q r s : Tmp} {ty ty2 : TypeId} (h : fn.results = #[.cell p ty, .cell q ty2, .tmp r, .tmp s]) (tmps : Array Value) (P : Program) (w : World) :
    (results fn tmps).run P w = ((asAddr (tmps.getD p undef)).run P w).andThen fun a w₁ => ((loadVar ty a).run P w₁).andThen fun x w₂ => ((asAddr (tmps.getD q undef)).run P w₂).andThen fun b w₃ => ((loadVar ty2 b).run P w₃).andThen fun y w₄ => .ok (.tuple #[x, y, tmps.getD r undef, tmps.getD s undef]) w₄ := by
  simp only [results, h]
  simp [Sem.run_bind, Result.andThen]
theorem touch_setRow (w : World) (g : Nat) (cs : Array Value) : TouchB (fun q => q = g) w (w.setRow g cs) := ⟨rfl, rfl, rfl, by simp, fun k _ hn => setRow_other _ g k _ hn⟩
theorem cells_rng {w : World} {g o : Nat} {f : TF} {u : Value} (h : Cells w g o f u) : w.rangeAt g o (nineL f u) := fun j x hx => by
  obtain ⟨h0, h1, h2, h3, h4, h5, h6, h7, h8⟩ := h
  have hj := (List.getElem?_eq_some_iff.1 hx).1
  have : j = 0 ∨ j = 1 ∨ j = 2 ∨ j = 3 ∨ j = 4 ∨ j = 5 ∨ j = 6 ∨ j = 7 ∨ j = 8 := by simp [nineL] at hj; omega
  rcases this with rfl | rfl | rfl | rfl | rfl | rfl | rfl | rfl | rfl <;> (simp [nineL] at hx; subst hx; assumption)
theorem row_rng {w : World} {g : Nat} {x : List Value} {t : TypeId} (h : w.heap[g]? = some (.cells x.toArray t)) : w.rangeAt g 0 x := fun j u hu => by
  rw [cell_of_row w g (0 + j) x.toArray t _ h]
  simpa using hu
theorem NewI.base {n : Nat} {w0 w1 w : World} {F : Nat → Prop} {u : Value} {l : List (Tm n)} (h : NewI w1 w F n u l) (hs : w0.heap.size ≤ w1.heap.size) : NewI w0 w F n u l := ⟨h.items, h.typed, fun g hg => ⟨Nat.le_trans hs (h.inr g hg).1, (h.inr g hg).2⟩⟩
def RowP {N : Nat} (k v : Tm (N + 1)) (w : World) (e : Ending) (w' : World) : Prop := ∃ F1 F2 u1 u2, e = .returned (.tuple #[aggV k.f u1, aggV v.f u2, .bool true, .int .i64 0]) ∧ Below w.heap.size w w' ∧ NewI w w' F1 N u1 k.items ∧ NewI w w' F2 N u2 v.items
section
variable {N : Nat} {w w' : World} {B : Nat} {F : Nat → Prop} {s : TbSt N} {t : TabE N}
theorem row73y (h : TabAt w B F t) (hfl : ∀ g, F g → g < w.heap.size) {i : Nat} (hi : i < t.rows.length) (hnk : nodesT (t.rows[i]).k ≤ 100000000) (hnv : nodesT (t.rows[i]).v ≤ 100000000) :
    Calls Tryz.prog 73 #[.pointer (some ⟨t.b, 0, none⟩), .int .i64 i] w (RowP (t.rows[i]).k (t.rows[i]).v w) := by
  obtain ⟨hik, hiv⟩ := h.irow _ (List.getElem_mem hi)
  have HC1 := Lib.hid (fun (W : World) (hW : Below w.heap.size w W) => copyAll N W w.heap.size (t.rows[i]).uk (t.rows[i]).k hW.size ((hik.toAt hfl).below hW (Nat.le_refl _)) hnk)
  have HC2 := Lib.hid (fun (W : World) (hW : Below w.heap.size w W) => copyAll N W w.heap.size (t.rows[i]).uv (t.rows[i]).v hW.size ((hiv.toAt hfl).below hW (Nat.le_refl _)) hnv)
  obtain ⟨g, c, ev, hg, hck, hcv, hx18⟩ := h.rowc hi
  have htb := h.lt
  have HRg : Hid (∀ W, Below w.heap.size w W → W.cell? ⟨t.b, 19, none⟩ = some (.slice (some ⟨g, 0, none⟩) t.rows.length c) ∧ W.rangeAt g (i * 19) (nineL (t.rows[i]).k.f (t.rows[i]).uk) ∧ W.rangeAt g (i * 19 + 9) (nineL (t.rows[i]).v.f (t.rows[i]).uv)) :=
    Lib.hid (fun W hW => ⟨by rw [← ev]; exact cell_keep hW htb (tab_cells h.blk).2.2.2.1, rng_same (cells_rng hck) (hW.block g hg), rng_same (cells_rng hcv) (hW.block g hg)⟩)
  obtain ⟨pv0, cv0, ev0, hcc, hcm⟩ := h.rows.shape
  have hcl : c = cv0 := by rw [ev] at ev0; simp only [Value.slice.injEq] at ev0; exact ev0.2.2
  unfold maxLen at hcm
  obtain ⟨pk, ck, ek, _, _⟩ := ItemsIn.shape hik
  obtain ⟨pv, cv, e2, _, _⟩ := ItemsIn.shape hiv
  have hilt : (i : Int) < (t.rows.length : Int) := by omega
  rw [ek] at HC1 HRg
  rw [e2] at HC2 HRg
  unfold RowP
  clear h hfl hnk hnv hik hiv ev hck hcv ek e2 ev0 hx18
  generalize (t.rows[i]).k = kt at *
  generalize (t.rows[i]).v = vt at *
  clear hi
  generalize t.rows.length = n at *
  generalize t.b = tb at *
  generalize kt.items.length = nk at *
  generalize vt.items.length = nv at *
  generalize kt.items = kil at *
  generalize vt.items = vil at *
  generalize kt.f = fk at *
  generalize vt.f = fv at *
  obtain ⟨kk, ki, kg, kn, kf, ka, kb, ks⟩ := fk
  obtain ⟨vk, vi, vg, vn, vf, va, vb, vs⟩ := fv
  unfold aggV at *
  unfold nineL at HRg
  dsimp only at *
  have hsz9 : (Tryz.prog.info? 24).map (·.size) = some 9 := by kernel_rfl
  obtain ⟨hb0, hz4, hz5⟩ := two_boxes w (.cells #[.int .i64 0, .int .i64 0, .int .i64 0, .string ⟨#[]⟩, .string ⟨#[]⟩, .int .i64 0, .slice none 0 0, .string ⟨#[]⟩, .int .i64 0] 24) (.cells #[.int .i64 0, .int .i64 0, .int .i64 0, .string ⟨#[]⟩, .string ⟨#[]⟩, .int .i64 0, .slice none 0 0, .string ⟨#[]⟩, .int .i64 0] 24)
  have hs1 : ((w.alloc (.cells #[.int .i64 0, .int .i64 0, .int .i64 0, .string ⟨#[]⟩, .string ⟨#[]⟩, .int .i64 0, .slice none 0 0, .string ⟨#[]⟩, .int .i64 0] 24)).alloc (.cells #[.int .i64 0, .int .i64 0, .int .i64 0, .string ⟨#[]⟩, .string ⟨#[]⟩, .int .i64 0, .slice none 0 0, .string ⟨#[]⟩, .int .i64 0] 24)).heap.size = w.heap.size + 2 := by rw [World.size_alloc, World.size_alloc]
  obtain ⟨c0, _, _⟩ := HRg.out _ hb0
  go_enter Tryz.func73, Tryz.ntmps73
  go_upto_region 1 with (fail)
  generalize ((w.alloc (.cells #[.int .i64 0, .int .i64 0, .int .i64 0, .string ⟨#[]⟩, .string ⟨#[]⟩, .int .i64 0, .slice none 0 0, .string ⟨#[]⟩, .int .i64 0] 24)).alloc (.cells #[.int .i64 0, .int .i64 0, .int .i64 0, .string ⟨#[]⟩, .string ⟨#[]⟩, .int .i64 0, .slice none 0 0, .string ⟨#[]⟩, .int .i64 0] 24)) = W1 at *
  have HZ4 := Lib.hid hz4
  have HZ5 := Lib.hid hz5
  clear hz4 hz5
  go_upto_region 3 with (fail)
  clear c0
  have hbd := hb0.trans (belowD (Below.refl w.heap.size W1))
  have hbW := belowD (Below.refl W1.heap.size W1)
  obtain ⟨l1, l2, l3⟩ := HRg.out _ hbd
  refine wp_region_held_drew (S := (fun w' => w'.cell? ⟨tb, 19, none⟩ = some (.slice (some ⟨g, 0, none⟩) n c) ∧ w'.rangeAt g (i * 19) [.int .i64 kk, .int .i64 ki, .int .i64 kg, .string kn, .string kf, .int .i64 ka, .slice pk nk ck, .string kb, .int .i64 ks] ∧ w'.rangeAt g (i * 19 + 9) [.int .i64 vk, .int .i64 vi, .int .i64 vg, .string vn, .string vf, .int .i64 va, .slice pv nv cv, .string vb, .int .i64 vs])) (by kernel_rfl) ?_ (fun hHeld => ?_)
  · exact ⟨l1, l2, l3⟩
  refine wpAnyH_take (i := 0) (oi := { dst := some 17, op := Op.move (Operand.tmp 0), type := 89, pos := "tables.go:152", after := #[], guard := none }) (v := ?vvA0) rfl (by kernel_rfl) (by kernel_rfl) (by kernel_rfl) (fun _ _ _ h => h) (Or.inl ⟨by rfl, ?hyA0⟩) (by assumption) ?rsA0
  case hyA0 =>
    intro w hSw
    (try dsimp only at hSw)
    go_simp
    (try with_reducible rfl)
  (try simp only [Act.put, List.setIfInBounds_toArray, List.set_cons_zero, List.set_cons_succ])
  refine wpAnyH_take (i := 1) (oi := { dst := some 18, op := Op.nilCheck (Operand.tmp 17), type := 0, pos := "tables.go:152", after := #[{ on := 0, ground := Ground.data }], guard := none }) (v := ?vvA1) rfl (by kernel_rfl) (by kernel_rfl) (by kernel_rfl) (fun _ _ _ h => h) (Or.inl ⟨by rfl, ?hyA1⟩) (by assumption) ?rsA1
  case hyA1 =>
    intro w hSw
    (try dsimp only at hSw)
    go_simp
    (try with_reducible rfl)
  (try simp only [Act.put, List.setIfInBounds_toArray, List.set_cons_zero, List.set_cons_succ])
  refine wpAnyH_take (i := 2) (oi := { dst := some 19, op := Op.fieldAddr 98 (Operand.tmp 18) 3, type := 0, pos := "tables.go:152", after := #[{ on := 1, ground := Ground.data }], guard := none }) (v := ?vvA2) rfl (by kernel_rfl) (by kernel_rfl) (by kernel_rfl) (fun _ _ _ h => h) (Or.inl ⟨by rfl, ?hyA2⟩) (by assumption) ?rsA2
  case hyA2 =>
    intro w hSw
    (try dsimp only at hSw)
    go_simp
    (try with_reducible rfl)
  (try simp only [Act.put, List.setIfInBounds_toArray, List.set_cons_zero, List.set_cons_succ])
  refine wpAnyH_take (i := 3) (oi := { dst := some 20, op := Op.load 96 (Operand.tmp 19), type := 96, pos := "tables.go:152", after := #[{ on := 2, ground := Ground.data }], guard := none }) rfl (by kernel_rfl) (by kernel_rfl) (by kernel_rfl) (fun _ _ _ h => h) (yieldsB_cell (by rfl) 96 (.tmp 19) rfl tb 19 rfl _ ld96 (fun w hs => hs.1)) (by assumption) ?_
  (try simp only [Act.put, List.setIfInBounds_toArray, List.set_cons_zero, List.set_cons_succ])
  refine wpAnyH_take (i := 4) (oi := { dst := some 21, op := Op.move (Operand.tmp 1), type := 3, pos := "tables.go:152", after := #[], guard := none }) (v := ?vvA4) rfl (by kernel_rfl) (by kernel_rfl) (by kernel_rfl) (fun _ _ _ h => h) (Or.inl ⟨by rfl, ?hyA4⟩) (by assumption) ?rsA4
  case hyA4 =>
    intro w hSw
    (try dsimp only at hSw)
    go_simp
    (try with_reducible rfl)
  (try simp only [Act.put, List.setIfInBounds_toArray, List.set_cons_zero, List.set_cons_succ])
  refine wpAnyH_take (i := 5) (oi := { dst := some 22, op := Op.indexAddr 96 (Operand.tmp 20) (Operand.tmp 21), type := 0, pos := "tables.go:152", after := #[{ on := 3, ground := Ground.data }, { on := 4, ground := Ground.data }], guard := none }) (v := ?vvA5) rfl (by kernel_rfl) (by kernel_rfl) (by kernel_rfl) (fun _ _ _ h => h) (Or.inl ⟨by rfl, ?hyA5⟩) (by assumption) ?rsA5
  case hyA5 =>
    intro w hSw
    (try dsimp only at hSw)
    go_simp
    (try with_reducible rfl)
  (try simp only [Act.put, List.setIfInBounds_toArray, List.set_cons_zero, List.set_cons_succ])
  refine wpAnyH_take (i := 6) (oi := { dst := some 23, op := Op.fieldAddr 108 (Operand.tmp 22) 0, type := 0, pos := "tables.go:152", after := #[{ on := 5, ground := Ground.data }], guard := none }) (v := ?vvA6) rfl (by kernel_rfl) (by kernel_rfl) (by kernel_rfl) (fun _ _ _ h => h) (Or.inl ⟨by rfl, ?hyA6⟩) (by assumption) ?rsA6
  case hyA6 =>
    intro w hSw
    (try dsimp only at hSw)
    go_simp
    (try with_reducible rfl)
  (try simp only [Act.put, List.setIfInBounds_toArray, List.set_cons_zero, List.set_cons_succ])
  refine wpAnyH_take (i := 7) (oi := { dst := some 24, op := Op.load 24 (Operand.tmp 23), type := 24, pos := "tables.go:152", after := #[{ on := 6, ground := Ground.data }], guard := none }) rfl (by kernel_rfl) (by kernel_rfl) (by kernel_rfl) (fun _ _ _ h => h) (yieldsIf_load_mid (by rfl) 24 (.tmp 23) rfl g (i * 19) rfl [.int .i64 kk, .int .i64 ki, .int .i64 kg, .string kn, .string kf, .int .i64 ka, .slice pk nk ck, .string kb, .int .i64 ks] _ (fun w hs => hs.2.1) Tryz.underlying24 rfl hsz9) (by assumption) ?_
  (try simp only [Act.put, List.setIfInBounds_toArray, List.set_cons_zero, List.set_cons_succ])
  refine wpAnyH_take (i := 9) (oi := { dst := some 26, op := Op.move (Operand.tmp 0), type := 89, pos := "tables.go:152", after := #[], guard := none }) (v := ?vvA9) rfl (by kernel_rfl) (by kernel_rfl) (by kernel_rfl) (fun _ _ _ h => h) (Or.inl ⟨by rfl, ?hyA9⟩) (by assumption) ?rsA9
  case hyA9 =>
    intro w hSw
    (try dsimp only at hSw)
    go_simp
    (try with_reducible rfl)
  (try simp only [Act.put, List.setIfInBounds_toArray, List.set_cons_zero, List.set_cons_succ])
  refine wpAnyH_take (i := 10) (oi := { dst := some 27, op := Op.nilCheck (Operand.tmp 26), type := 0, pos := "tables.go:152", after := #[{ on := 9, ground := Ground.data }], guard := none }) (v := ?vvA10) rfl (by kernel_rfl) (by kernel_rfl) (by kernel_rfl) (fun _ _ _ h => h) (Or.inl ⟨by rfl, ?hyA10⟩) (by assumption) ?rsA10
  case hyA10 =>
    intro w hSw
    (try dsimp only at hSw)
    go_simp
    (try with_reducible rfl)
  (try simp only [Act.put, List.setIfInBounds_toArray, List.set_cons_zero, List.set_cons_succ])
  refine wpAnyH_take (i := 11) (oi := { dst := some 28, op := Op.fieldAddr 98 (Operand.tmp 27) 3, type := 0, pos := "tables.go:152", after := #[{ on := 10, ground := Ground.data }], guard := none }) (v := ?vvA11) rfl (by kernel_rfl) (by kernel_rfl) (by kernel_rfl) (fun _ _ _ h => h) (Or.inl ⟨by rfl, ?hyA11⟩) (by assumption) ?rsA11
  case hyA11 =>
    intro w hSw
    (try dsimp only at hSw)
    go_simp
    (try with_reducible rfl)
  (try simp only [Act.put, List.setIfInBounds_toArray, List.set_cons_zero, List.set_cons_succ])
  refine wpAnyH_take (i := 12) (oi := { dst := some 29, op := Op.load 96 (Operand.tmp 28), type := 96, pos := "tables.go:152", after := #[{ on := 11, ground := Ground.data }], guard := none }) rfl (by kernel_rfl) (by kernel_rfl) (by kernel_rfl) (fun _ _ _ h => h) (yieldsB_cell (by rfl) 96 (.tmp 28) rfl tb 19 rfl _ ld96 (fun w hs => hs.1)) (by assumption) ?_
  (try simp only [Act.put, List.setIfInBounds_toArray, List.set_cons_zero, List.set_cons_succ])
  refine wpAnyH_take (i := 13) (oi := { dst := some 30, op := Op.move (Operand.tmp 1), type := 3, pos := "tables.go:152", after := #[], guard := none }) (v := ?vvA13) rfl (by kernel_rfl) (by kernel_rfl) (by kernel_rfl) (fun _ _ _ h => h) (Or.inl ⟨by rfl, ?hyA13⟩) (by assumption) ?rsA13
  case hyA13 =>
    intro w hSw
    (try dsimp only at hSw)
    go_simp
    (try with_reducible rfl)
  (try simp only [Act.put, List.setIfInBounds_toArray, List.set_cons_zero, List.set_cons_succ])
  refine wpAnyH_take (i := 14) (oi := { dst := some 31, op := Op.indexAddr 96 (Operand.tmp 29) (Operand.tmp 30), type := 0, pos := "tables.go:152", after := #[{ on := 12, ground := Ground.data }, { on := 13, ground := Ground.data }], guard := none }) (v := ?vvA14) rfl (by kernel_rfl) (by kernel_rfl) (by kernel_rfl) (fun _ _ _ h => h) (Or.inl ⟨by rfl, ?hyA14⟩) (by assumption) ?rsA14
  case hyA14 =>
    intro w hSw
    (try dsimp only at hSw)
    go_simp
    (try with_reducible rfl)
  (try simp only [Act.put, List.setIfInBounds_toArray, List.set_cons_zero, List.set_cons_succ])
  refine wpAnyH_take (i := 15) (oi := { dst := some 32, op := Op.fieldAddr 108 (Operand.tmp 31) 1, type := 0, pos := "tables.go:152", after := #[{ on := 14, ground := Ground.data }], guard := none }) (v := ?vvA15) rfl (by kernel_rfl) (by kernel_rfl) (by kernel_rfl) (fun _ _ _ h => h) (Or.inl ⟨by rfl, ?hyA15⟩) (by assumption) ?rsA15
  case hyA15 =>
    intro w hSw
    (try dsimp only at hSw)
    go_simp
    (try with_reducible rfl)
  (try simp only [Act.put, List.setIfInBounds_toArray, List.set_cons_zero, List.set_cons_succ])
  refine wpAnyH_take (i := 16) (oi := { dst := some 33, op := Op.load 24 (Operand.tmp 32), type := 24, pos := "tables.go:152", after := #[{ on := 15, ground := Ground.data }], guard := none }) rfl (by kernel_rfl) (by kernel_rfl) (by kernel_rfl) (fun _ _ _ h => h) (yieldsIf_load_mid (by rfl) 24 (.tmp 32) rfl g (i * 19 + 9) rfl [.int .i64 vk, .int .i64 vi, .int .i64 vg, .string vn, .string vf, .int .i64 va, .slice pv nv cv, .string vb, .int .i64 vs] _ (fun w hs => hs.2.2) Tryz.underlying24 rfl hsz9) (by assumption) ?_
  (try simp only [Act.put, List.setIfInBounds_toArray, List.set_cons_zero, List.set_cons_succ])
  refine wpAnyH_ready (rs := [8]) (by kernel_rfl) (by simp) ?_
  refine AllReadyH.cons (o := { dst := some 25, op := Op.call { callee := Callee.value (Operand.func 51), args := #[Operand.tmp 24], argTypes := #[24] }, type := 24, pos := "tables.go:152", after := #[{ on := 7, ground := Ground.data }], guard := none }) rfl (fun K hK => ?_) AllReadyH.nil
  go_simp
  refine (HC1.out _ hbd).mono ?_
  rintro e w8 ⟨F1, g1, rfl, hN, _⟩
  dsimp only [aggV]
  have hN1 := NewI.of (w0 := W1) hN hbW.size
  replace hbW := hbW.trans (hN.below.mono hbW.size)
  replace hbd := hbd.trans (hN.below.mono hbd.size)
  clear l1 l2 l3 hN
  obtain ⟨l1, l2, l3⟩ := HRg.out _ hbd
  go_wp2_with fail
  refine hK.out _ _ ?_ (fun hHeld => ?_)
  · exact ⟨l1, l2, l3⟩
  clear hK K
  (try simp only [Act.put, List.setIfInBounds_toArray, List.set_cons_zero, List.set_cons_succ])
  refine wpAnyH_ready (rs := [17]) (by kernel_rfl) (by simp) ?_
  refine AllReadyH.cons (o := { dst := some 34, op := Op.call { callee := Callee.value (Operand.func 51), args := #[Operand.tmp 33], argTypes := #[24] }, type := 24, pos := "tables.go:152", after := #[{ on := 16, ground := Ground.data }, { on := 8, ground := Ground.chain }], guard := none }) rfl (fun K hK => ?_) AllReadyH.nil
  go_simp
  refine (HC2.out _ hbd).mono ?_
  rintro e w17 ⟨F2, g2, rfl, hN, _⟩
  dsimp only [aggV]
  have hN2 := NewI.of (w0 := W1) hN hbW.size
  replace hN1 := hN1.below hN.below
  replace hbW := hbW.trans (hN.below.mono hbW.size)
  replace hbd := hbd.trans (hN.below.mono hbd.size)
  clear l1 l2 l3 hN
  obtain ⟨l1, l2, l3⟩ := HRg.out _ hbd
  go_wp2_with fail
  refine hK.out _ _ ?_ (fun hHeld => ?_)
  · exact ⟨l1, l2, l3⟩
  clear hK K
  (try simp only [Act.put, List.setIfInBounds_toArray, List.set_cons_zero, List.set_cons_succ])
  refine wpAnyH_ready (rs := [18]) (by kernel_rfl) (by simp) ?_
  refine AllReadyH.cons (o := { dst := none, op := Op.store 24 (Operand.tmp 4) (Operand.tmp 25), type := 0, pos := "tables.go:152", after := #[{ on := 8, ground := Ground.data }, { on := 17, ground := Ground.chain }, { on := 0, ground := Ground.phase }, { on := 1, ground := Ground.phase }, { on := 2, ground := Ground.phase }, { on := 3, ground := Ground.phase }, { on := 4, ground := Ground.phase }, { on := 5, ground := Ground.phase }, { on := 6, ground := Ground.phase }, { on := 7, ground := Ground.phase }, { on := 8, ground := Ground.phase }, { on := 9, ground := Ground.textOnly Departure.lateStores }, { on := 10, ground := Ground.textOnly Departure.lateStores }, { on := 11, ground := Ground.textOnly Departure.lateStores }, { on := 12, ground := Ground.textOnly Departure.lateStores }, { on := 13, ground := Ground.textOnly Departure.lateStores }, { on := 14, ground := Ground.textOnly Departure.lateStores }, { on := 15, ground := Ground.textOnly Departure.lateStores }, { on := 16, ground := Ground.textOnly Departure.lateStores }, { on := 17, ground := Ground.textOnly Departure.lateStoresUnsure }], guard := none }) rfl (fun K hK => ?_) AllReadyH.nil
  have hz4 := (hbW.block w.heap.size (by omega)).trans HZ4.out
  have hz5 := (hbW.block (w.heap.size + 1) (by omega)).trans HZ5.out
  refine step_store_run (by rfl) 24 (.tmp 4) (.tmp 25) rfl (p := ⟨w.heap.size, 0, none⟩) rfl rfl (run_storeVar_row _ _ 24 24 _ #[.int .i64 kk, .int .i64 ki, .int .i64 kg, .string kn, .string kf, .int .i64 ka, .slice (some ⟨g1, 0, none⟩) kil.length kil.length, .string kb, .int .i64 ks] hz4 hsz9 rfl (all_oneCell_toArray (nineL_one (f := ⟨kk, ki, kg, kn, kf, ka, kb, ks⟩) (u := .slice (some ⟨g1, 0, none⟩) kil.length kil.length) rfl))) ?_
  have hq4 := setRow_heap w17 w.heap.size _ #[.int .i64 kk, .int .i64 ki, .int .i64 kg, .string kn, .string kf, .int .i64 ka, .slice (some ⟨g1, 0, none⟩) kil.length kil.length, .string kb, .int .i64 ks] _ _ hz4
  have hq5 := (setRow_other w17 w.heap.size (w.heap.size + 1) #[.int .i64 kk, .int .i64 ki, .int .i64 kg, .string kn, .string kf, .int .i64 ka, .slice (some ⟨g1, 0, none⟩) kil.length kil.length, .string kb, .int .i64 ks] (by omega)).trans hz5
  replace hN1 := hN1.touch (touch_setRow w17 w.heap.size #[.int .i64 kk, .int .i64 ki, .int .i64 kg, .string kn, .string kf, .int .i64 ka, .slice (some ⟨g1, 0, none⟩) kil.length kil.length, .string kb, .int .i64 ks]) (fun q e => by subst e; omega)
  replace hN2 := hN2.touch (touch_setRow w17 w.heap.size #[.int .i64 kk, .int .i64 ki, .int .i64 kg, .string kn, .string kf, .int .i64 ka, .slice (some ⟨g1, 0, none⟩) kil.length kil.length, .string kb, .int .i64 ks]) (fun q e => by subst e; omega)
  replace hbd := hbd.trans ((touch_setRow w17 w.heap.size #[.int .i64 kk, .int .i64 ki, .int .i64 kg, .string kn, .string kf, .int .i64 ka, .slice (some ⟨g1, 0, none⟩) kil.length kil.length, .string kb, .int .i64 ks]).below (fun q e => Nat.le_of_eq e.symm) hbd.size)
  clear l1 l2 l3 hz4 hz5
  obtain ⟨l1, l2, l3⟩ := HRg.out _ hbd
  generalize w17.setRow w.heap.size #[.int .i64 kk, .int .i64 ki, .int .i64 kg, .string kn, .string kf, .int .i64 ka, .slice (some ⟨g1, 0, none⟩) kil.length kil.length, .string kb, .int .i64 ks] = w18 at *
  refine hK.out _ _ ?_ (fun hHeld => ?_)
  · exact ⟨l1, l2, l3⟩
  clear hK K
  (try simp only [Act.put, List.setIfInBounds_toArray, List.set_cons_zero, List.set_cons_succ])
  refine wpAnyH_ready (rs := [19]) (by kernel_rfl) (by simp) ?_
  refine AllReadyH.cons (o := { dst := none, op := Op.store 24 (Operand.tmp 5) (Operand.tmp 34), type := 0, pos := "tables.go:152", after := #[{ on := 17, ground := Ground.data }, { on := 18, ground := Ground.chain }, { on := 0, ground := Ground.phase }, { on := 1, ground := Ground.phase }, { on := 2, ground := Ground.phase }, { on := 3, ground := Ground.phase }, { on := 4, ground := Ground.phase }, { on := 5, ground := Ground.phase }, { on := 6, ground := Ground.phase }, { on := 7, ground := Ground.phase }, { on := 8, ground := Ground.phase }, { on := 9, ground := Ground.phase }, { on := 10, ground := Ground.phase }, { on := 11, ground := Ground.phase }, { on := 12, ground := Ground.phase }, { on := 13, ground := Ground.phase }, { on := 14, ground := Ground.phase }, { on := 15, ground := Ground.phase }, { on := 16, ground := Ground.phase }, { on := 17, ground := Ground.phase }, { on := 18, ground := Ground.phase }], guard := none }) rfl (fun K hK => ?_) AllReadyH.nil
  refine step_store_run (by rfl) 24 (.tmp 5) (.tmp 34) rfl (p := ⟨w.heap.size + 1, 0, none⟩) rfl rfl (run_storeVar_row _ _ 24 24 _ #[.int .i64 vk, .int .i64 vi, .int .i64 vg, .string vn, .string vf, .int .i64 va, .slice (some ⟨g2, 0, none⟩) vil.length vil.length, .string vb, .int .i64 vs] hq5 hsz9 rfl (all_oneCell_toArray (nineL_one (f := ⟨vk, vi, vg, vn, vf, va, vb, vs⟩) (u := .slice (some ⟨g2, 0, none⟩) vil.length vil.length) rfl))) ?_
  have hp5 := setRow_heap w18 (w.heap.size + 1) _ #[.int .i64 vk, .int .i64 vi, .int .i64 vg, .string vn, .string vf, .int .i64 va, .slice (some ⟨g2, 0, none⟩) vil.length vil.length, .string vb, .int .i64 vs] _ _ hq5
  have hp4 := (setRow_other w18 (w.heap.size + 1) w.heap.size #[.int .i64 vk, .int .i64 vi, .int .i64 vg, .string vn, .string vf, .int .i64 va, .slice (some ⟨g2, 0, none⟩) vil.length vil.length, .string vb, .int .i64 vs] (by omega)).trans hq4
  replace hN1 := hN1.touch (touch_setRow w18 (w.heap.size + 1) #[.int .i64 vk, .int .i64 vi, .int .i64 vg, .string vn, .string vf, .int .i64 va, .slice (some ⟨g2, 0, none⟩) vil.length vil.length, .string vb, .int .i64 vs]) (fun q e => by subst e; omega)
  replace hN2 := hN2.touch (touch_setRow w18 (w.heap.size + 1) #[.int .i64 vk, .int .i64 vi, .int .i64 vg, .string vn, .string vf, .int .i64 va, .slice (some ⟨g2, 0, none⟩) vil.length vil.length, .string vb, .int .i64 vs]) (fun q e => by subst e; omega)
  replace hbd := hbd.trans ((touch_setRow w18 (w.heap.size + 1) #[.int .i64 vk, .int .i64 vi, .int .i64 vg, .string vn, .string vf, .int .i64 va, .slice (some ⟨g2, 0, none⟩) vil.length vil.length, .string vb, .int .i64 vs]).below (fun q e => by omega) hbd.size)
  clear l1 l2 l3 hq4 hq5
  obtain ⟨l1, l2, l3⟩ := HRg.out _ hbd
  generalize w18.setRow (w.heap.size + 1) #[.int .i64 vk, .int .i64 vi, .int .i64 vg, .string vn, .string vf, .int .i64 va, .slice (some ⟨g2, 0, none⟩) vil.length vil.length, .string vb, .int .i64 vs] = w19 at *
  refine hK.out _ _ ?_ (fun hHeld => ?_)
  · exact ⟨l1, l2, l3⟩
  clear hK K
  (try simp only [Act.put, List.setIfInBounds_toArray, List.set_cons_zero, List.set_cons_succ])
  refine wpAnyH_take (i := 20) (oi := { dst := some 6, op := Op.assign (Operand.const (Value.bool true)), type := 4, pos := "tables.go:152", after := #[{ on := 19, ground := Ground.chain }, { on := 0, ground := Ground.phase }, { on := 1, ground := Ground.phase }, { on := 2, ground := Ground.phase }, { on := 3, ground := Ground.phase }, { on := 4, ground := Ground.phase }, { on := 5, ground := Ground.phase }, { on := 6, ground := Ground.phase }, { on := 7, ground := Ground.phase }, { on := 8, ground := Ground.phase }, { on := 9, ground := Ground.phase }, { on := 10, ground := Ground.phase }, { on := 11, ground := Ground.phase }, { on := 12, ground := Ground.phase }, { on := 13, ground := Ground.phase }, { on := 14, ground := Ground.phase }, { on := 15, ground := Ground.phase }, { on := 16, ground := Ground.phase }, { on := 17, ground := Ground.phase }, { on := 18, ground := Ground.phase }, { on := 19, ground := Ground.phase }], guard := none }) (v := ?vvA20) rfl (by kernel_rfl) (by kernel_rfl) (by kernel_rfl) (fun _ _ _ h => h) (Or.inl ⟨by rfl, ?hyA20⟩) (by assumption) ?rsA20
  case hyA20 =>
    intro w hSw
    (try dsimp only at hSw)
    go_simp
    (try with_reducible rfl)
  (try simp only [Act.put, List.setIfInBounds_toArray, List.set_cons_zero, List.set_cons_succ])
  refine wpAnyH_take (i := 21) (oi := { dst := some 7, op := Op.assign (Operand.const (Value.int IntKind.i64 0)), type := 40, pos := "tables.go:152", after := #[{ on := 20, ground := Ground.chain }, { on := 0, ground := Ground.phase }, { on := 1, ground := Ground.phase }, { on := 2, ground := Ground.phase }, { on := 3, ground := Ground.phase }, { on := 4, ground := Ground.phase }, { on := 5, ground := Ground.phase }, { on := 6, ground := Ground.phase }, { on := 7, ground := Ground.phase }, { on := 8, ground := Ground.phase }, { on := 9, ground := Ground.phase }, { on := 10, ground := Ground.phase }, { on := 11, ground := Ground.phase }, { on := 12, ground := Ground.phase }, { on := 13, ground := Ground.phase }, { on := 14, ground := Ground.phase }, { on := 15, ground := Ground.phase }, { on := 16, ground := Ground.phase }, { on := 17, ground := Ground.phase }, { on := 18, ground := Ground.phase }, { on := 19, ground := Ground.phase }, { on := 20, ground := Ground.phase }], guard := none }) (v := ?vvA21) rfl (by kernel_rfl) (by kernel_rfl) (by kernel_rfl) (fun _ _ _ h => h) (Or.inl ⟨by rfl, ?hyA21⟩) (by assumption) ?rsA21
  case hyA21 =>
    intro w hSw
    (try dsimp only at hSw)
    go_simp
    (try with_reducible rfl)
  (try simp only [Act.put, List.setIfInBounds_toArray, List.set_cons_zero, List.set_cons_succ])
  refine wpAnyH_done (by kernel_rfl) ?_ _
  go_wp2_with fail
  (try simp only [Exit.inBlock, Exit.then])
  have hl4 := run_loadVar_mid (P := Tryz.prog) w19 w.heap.size 0 24 [.int .i64 kk, .int .i64 ki, .int .i64 kg, .string kn, .string kf, .int .i64 ka, .slice (some ⟨g1, 0, none⟩) kil.length kil.length, .string kb, .int .i64 ks] _ (row_rng hp4) Tryz.underlying24 rfl hsz9
  have hl5 := run_loadVar_mid (P := Tryz.prog) w19 (w.heap.size + 1) 0 24 [.int .i64 vk, .int .i64 vi, .int .i64 vg, .string vn, .string vf, .int .i64 va, .slice (some ⟨g2, 0, none⟩) vil.length vil.length, .string vb, .int .i64 vs] _ (row_rng hp5) Tryz.underlying24 rfl hsz9
  refine bodyPost_ret (v := .tuple #[.agg #[.int .i64 kk, .int .i64 ki, .int .i64 kg, .string kn, .string kf, .int .i64 ka, .slice (some ⟨g1, 0, none⟩) kil.length kil.length, .string kb, .int .i64 ks], .agg #[.int .i64 vk, .int .i64 vi, .int .i64 vg, .string vn, .string vf, .int .i64 va, .slice (some ⟨g2, 0, none⟩) vil.length vil.length, .string vb, .int .i64 vs], .bool true, .int .i64 0]) ?_ rfl ⟨F1, F2, _, _, rfl, hbd, hN1.base hb0.size, hN2.base hb0.size⟩
  have hA : ∀ (a : Addr) (w : World), (asAddr (.pointer (some a))).run Tryz.prog w = .ok a w := fun _ _ => rfl
  rw [results_cc rfl]
  simp [hA, hl4, hl5, Result.andThen]
theorem three_heap (w : World) (o1 o2 o3 : Obj) : Below w.heap.size w (((w.alloc o1).alloc o2).alloc o3) ∧ (((w.alloc o1).alloc o2).alloc o3).heap.size = w.heap.size + 3 ∧ (((w.alloc o1).alloc o2).alloc o3).heap[w.heap.size]? = some o1 ∧ (((w.alloc o1).alloc o2).alloc o3).heap[w.heap.size + 1]? = some o2 ∧ (((w.alloc o1).alloc o2).alloc o3).heap[w.heap.size + 2]? = some o3 := by
  obtain ⟨h1, h2, h3⟩ := two_boxes w o1 o2
  have h4 := alloc_new ((w.alloc o1).alloc o2) o3
  have hs : ((w.alloc o1).alloc o2).heap.size = w.heap.size + 2 := by rw [World.size_alloc, World.size_alloc]
  rw [hs] at h4
  exact ⟨belowA h1 o3 h1.size, by rw [World.size_alloc, hs], (Below.heap_alloc ((w.alloc o1).alloc o2) o3 w.heap.size (by omega)).trans h2, (Below.heap_alloc ((w.alloc o1).alloc o2) o3 (w.heap.size + 1) (by omega)).trans h3, h4⟩
theorem first39y (h : TbAt w B F s) (hlen : s.tabs.length ≤ 1000) {r : Tm (N + 1)} {ur : Value} {B2 : Nat} (hB : B2 ≤ w.heap.size) (hI : ItemsAt w B2 N ur r.items) {i : Nat} (hi : i < s.tabs.length) (hr : refAt s.tabs r = some i) (h0 : 0 < (s.tabs[i]).rows.length)
    (hnk : nodesT ((s.tabs[i]).rows[0]).k ≤ 100000000) (hnv : nodesT ((s.tabs[i]).rows[0]).v ≤ 100000000) :
    Calls Tryz.prog 39 #[.pointer (some ⟨s.z, 0, none⟩), aggV r.f ur] w (RowP ((s.tabs[i]).rows[0]).k ((s.tabs[i]).rows[0]).v w) := by
  have ht := h.tabs _ (List.getElem_mem hi)
  have hTR : TabR s.tabs r (some ⟨(s.tabs[i]).b, 0, none⟩) 0 := .inr ⟨i, hi, hr, rfl, rfl⟩
  have HTb := Lib.hid (fun (W : World) (hW : Below w.heap.size w W) => table49 (h.below hW) hlen (Nat.le_trans hB hW.size) (hI.below hW hB) hTR)
  have HRo := Lib.hid (fun (W : World) (hW : Below w.heap.size w W) => row73y (ht.below hW h.fl) (fun g hg => Nat.lt_of_lt_of_le (h.fl g hg) hW.size) h0 hnk hnv)
  obtain ⟨pr, cr, er, _, _⟩ := hI.shape
  have HSh : Hid (∀ (W W' : World) G u (k : Tm (N + 1)), NewI W W' G N u k.items → u.oneCell' = true) := Lib.hid (fun W W' G u k hN => in_one hN.items)
  rw [er] at HTb ⊢
  unfold RowP at *
  generalize ((s.tabs[i]).rows[0]).k = kt at *
  generalize ((s.tabs[i]).rows[0]).v = vt at *
  generalize (s.tabs[i]).b = tb at *
  generalize s.z = z at *
  have HN1 := Lib.hid (fun W W' G u => HSh.out W W' G u kt)
  have HN2 := Lib.hid (fun W W' G u => HSh.out W W' G u vt)
  clear h ht hTR hlen hB hI hr h0 hnk hnv er HSh hi
  generalize r.items.length = nr at *
  generalize r.f = fr at *
  generalize kt.items = kil at *
  generalize vt.items = vil at *
  generalize kt.f = fk at *
  generalize vt.f = fv at *
  obtain ⟨rk, ri, rg, rn, rf, ra, rb, rs⟩ := fr
  obtain ⟨kk, ki, kg, kn, kf, ka, kb, ks⟩ := fk
  obtain ⟨vk, vi, vg, vn, vf, va, vb, vs⟩ := fv
  unfold aggV at *
  dsimp only at *
  have hsz9 : (Tryz.prog.info? 24).map (·.size) = some 9 := by kernel_rfl
  obtain ⟨hb0, hs1, hz3, hz4, hz5⟩ := three_heap w (.cells #[.int .i64 rk, .int .i64 ri, .int .i64 rg, .string rn, .string rf, .int .i64 ra, .slice pr nr cr, .string rb, .int .i64 rs] 24) (.cells #[.int .i64 0, .int .i64 0, .int .i64 0, .string ⟨#[]⟩, .string ⟨#[]⟩, .int .i64 0, .slice none 0 0, .string ⟨#[]⟩, .int .i64 0] 24) (.cells #[.int .i64 0, .int .i64 0, .int .i64 0, .string ⟨#[]⟩, .string ⟨#[]⟩, .int .i64 0, .slice none 0 0, .string ⟨#[]⟩, .int .i64 0] 24)
  go_enter Tryz.func39, Tryz.ntmps39
  go_upto_region 1 with (fail)
  generalize (((w.alloc (.cells #[.int .i64 rk, .int .i64 ri, .int .i64 rg, .string rn, .string rf, .int .i64 ra, .slice pr nr cr, .string rb, .int .i64 rs] 24)).alloc (.cells #[.int .i64 0, .int .i64 0, .int .i64 0, .string ⟨#[]⟩, .string ⟨#[]⟩, .int .i64 0, .slice none 0 0, .string ⟨#[]⟩, .int .i64 0] 24)).alloc (.cells #[.int .i64 0, .int .i64 0, .int .i64 0, .string ⟨#[]⟩, .string ⟨#[]⟩, .int .i64 0, .slice none 0 0, .string ⟨#[]⟩, .int .i64 0] 24)) = W1 at *
  have HL3 := Lib.hid (row_rng hz3)
  have HZ4 := Lib.hid hz4
  have HZ5 := Lib.hid hz5
  have HB0 := Lib.hid hb0
  clear hz3 hz4 hz5 hb0
  go_wp2_with (first
    | (refine wpList_load_mid rfl 24 (.tmp 3) rfl w.heap.size 0 rfl [.int .i64 rk, .int .i64 ri, .int .i64 rg, .string rn, .string rf, .int .i64 ra, .slice pr nr cr, .string rb, .int .i64 rs] _ HL3.out Tryz.underlying24 rfl hsz9 ?_))
  refine (HTb.out _ HB0.out).mono ?_
  rintro e w2 ⟨rfl, hb2⟩
  have HB2 := Lib.hid (HB0.out.trans (hb2.mono HB0.out.size))
  have HW2 := Lib.hid hb2
  clear hb2 HL3 HTb
  go_wp2_with fail
  refine (HRo.out _ HB2.out).mono ?_
  rintro e w3 ⟨F1, F2, u1, u2, rfl, hb3, hN1, hN2⟩
  have HB3 := Lib.hid (HB2.out.trans (hb3.mono HB2.out.size))
  have hbW := HW2.out.trans (hb3.mono HW2.out.size)
  have hW12 := HW2.out.size
  have hz4 := (hbW.block (w.heap.size + 1) (by omega)).trans HZ4.out
  have hz5 := (hbW.block (w.heap.size + 2) (by omega)).trans HZ5.out
  have ho1 : #[.int .i64 kk, .int .i64 ki, .int .i64 kg, .string kn, .string kf, .int .i64 ka, u1, .string kb, .int .i64 ks].all (·.oneCell') = true := all_oneCell_toArray (nineL_one (f := ⟨kk, ki, kg, kn, kf, ka, kb, ks⟩) (u := u1) (HN1.out _ _ _ _ hN1))
  have ho2 : #[.int .i64 vk, .int .i64 vi, .int .i64 vg, .string vn, .string vf, .int .i64 va, u2, .string vb, .int .i64 vs].all (·.oneCell') = true := all_oneCell_toArray (nineL_one (f := ⟨vk, vi, vg, vn, vf, va, vb, vs⟩) (u := u2) (HN2.out _ _ _ _ hN2))
  have hq4 := setRow_heap w3 (w.heap.size + 1) _ #[.int .i64 kk, .int .i64 ki, .int .i64 kg, .string kn, .string kf, .int .i64 ka, u1, .string kb, .int .i64 ks] _ _ hz4
  have hq5 := (setRow_other w3 (w.heap.size + 1) (w.heap.size + 2) #[.int .i64 kk, .int .i64 ki, .int .i64 kg, .string kn, .string kf, .int .i64 ka, u1, .string kb, .int .i64 ks] (by omega)).trans hz5
  have hM1 := hN1.touch (touch_setRow w3 (w.heap.size + 1) #[.int .i64 kk, .int .i64 ki, .int .i64 kg, .string kn, .string kf, .int .i64 ka, u1, .string kb, .int .i64 ks]) (fun q e => by subst e; omega)
  have hM2 := hN2.touch (touch_setRow w3 (w.heap.size + 1) #[.int .i64 kk, .int .i64 ki, .int .i64 kg, .string kn, .string kf, .int .i64 ka, u1, .string kb, .int .i64 ks]) (fun q e => by subst e; omega)
  have hbq := HB3.out.trans ((touch_setRow w3 (w.heap.size + 1) #[.int .i64 kk, .int .i64 ki, .int .i64 kg, .string kn, .string kf, .int .i64 ka, u1, .string kb, .int .i64 ks]).below (fun q e => by omega) HB3.out.size)
  have hp5 := setRow_heap (w3.setRow (w.heap.size + 1) #[.int .i64 kk, .int .i64 ki, .int .i64 kg, .string kn, .string kf, .int .i64 ka, u1, .string kb, .int .i64 ks]) (w.heap.size + 2) _ #[.int .i64 vk, .int .i64 vi, .int .i64 vg, .string vn, .string vf, .int .i64 va, u2, .string vb, .int .i64 vs] _ _ hq5
  have hp4 := (setRow_other (w3.setRow (w.heap.size + 1) #[.int .i64 kk, .int .i64 ki, .int .i64 kg, .string kn, .string kf, .int .i64 ka, u1, .string kb, .int .i64 ks]) (w.heap.size + 2) (w.heap.size + 1) #[.int .i64 vk, .int .i64 vi, .int .i64 vg, .string vn, .string vf, .int .i64 va, u2, .string vb, .int .i64 vs] (by omega)).trans hq4
  have hK1 := hM1.touch (touch_setRow (w3.setRow (w.heap.size + 1) #[.int .i64 kk, .int .i64 ki, .int .i64 kg, .string kn, .string kf, .int .i64 ka, u1, .string kb, .int .i64 ks]) (w.heap.size + 2) #[.int .i64 vk, .int .i64 vi, .int .i64 vg, .string vn, .string vf, .int .i64 va, u2, .string vb, .int .i64 vs]) (fun q e => by subst e; omega)
  have hK2 := hM2.touch (touch_setRow (w3.setRow (w.heap.size + 1) #[.int .i64 kk, .int .i64 ki, .int .i64 kg, .string kn, .string kf, .int .i64 ka, u1, .string kb, .int .i64 ks]) (w.heap.size + 2) #[.int .i64 vk, .int .i64 vi, .int .i64 vg, .string vn, .string vf, .int .i64 va, u2, .string vb, .int .i64 vs]) (fun q e => by subst e; omega)
  have hbp := hbq.trans ((touch_setRow (w3.setRow (w.heap.size + 1) #[.int .i64 kk, .int .i64 ki, .int .i64 kg, .string kn, .string kf, .int .i64 ka, u1, .string kb, .int .i64 ks]) (w.heap.size + 2) #[.int .i64 vk, .int .i64 vi, .int .i64 vg, .string vn, .string vf, .int .i64 va, u2, .string vb, .int .i64 vs]).below (fun q e => by omega) hbq.size)
  have hl4 := run_loadVar_mid (P := Tryz.prog) _ (w.heap.size + 1) 0 24 [.int .i64 kk, .int .i64 ki, .int .i64 kg, .string kn, .string kf, .int .i64 ka, u1, .string kb, .int .i64 ks] _ (row_rng hp4) Tryz.underlying24 rfl hsz9
  have hl5 := run_loadVar_mid (P := Tryz.prog) _ (w.heap.size + 2) 0 24 [.int .i64 vk, .int .i64 vi, .int .i64 vg, .string vn, .string vf, .int .i64 va, u2, .string vb, .int .i64 vs] _ (row_rng hp5) Tryz.underlying24 rfl hsz9
  have HZ4' := Lib.hid hz4
  have HQ5 := Lib.hid hq5
  have HF := Lib.hid (And.intro hl4 (And.intro hl5 (And.intro hbp (And.intro (hK1.base (HB2.out.size)) (hK2.base (HB2.out.size))))))
  clear hl4 hl5 hp4 hp5 hK1 hK2 hbp hbq hM1 hM2 hq4 hq5 hz4 hz5 hbW hN1 hN2 hb3 HN1 HN2 HRo
  go_wp2_with (first
    | (refine wpList_store_row rfl 24 (.tmp 4) (.tmp 22) rfl (w.heap.size + 1) #[.int .i64 kk, .int .i64 ki, .int .i64 kg, .string kn, .string kf, .int .i64 ka, u1, .string kb, .int .i64 ks] rfl rfl 24 _ HZ4'.out hsz9 rfl ho1 ?_)
    | (refine wpList_store_row rfl 24 (.tmp 5) (.tmp 23) rfl (w.heap.size + 2) #[.int .i64 vk, .int .i64 vi, .int .i64 vg, .string vn, .string vf, .int .i64 va, u2, .string vb, .int .i64 vs] rfl rfl 24 _ HQ5.out hsz9 rfl ho2 ?_))
  (try simp only [Exit.inBlock, Exit.then])
  obtain ⟨hl4, hl5, hbp, hK1, hK2⟩ := HF.out
  refine bodyPost_ret (v := .tuple #[.agg #[.int .i64 kk, .int .i64 ki, .int .i64 kg, .string kn, .string kf, .int .i64 ka, u1, .string kb, .int .i64 ks], .agg #[.int .i64 vk, .int .i64 vi, .int .i64 vg, .string vn, .string vf, .int .i64 va, u2, .string vb, .int .i64 vs], .bool true, .int .i64 0]) ?_ rfl ⟨F1, F2, u1, u2, rfl, hbp, hK1, hK2⟩
  have hA : ∀ (a : Addr) (w : World), (asAddr (.pointer (some a))).run Tryz.prog w = .ok a w := fun _ _ => rfl
  rw [results_cc rfl]
  simp [hA, hl4, hl5, Result.andThen]
end
end Go.Proofs.YtfbggmbmgohiiaaGreat.tb
/- The closed terms of shown. No condition. -/
namespace Go.Proofs.YtfbggmbmgohiiaaGreat.tb
open Go.RowKit mem rec tm names
set_option linter.unusedVariables false
set_option linter.unusedSimpArgs false
set_option maxHeartbeats 1000000
set_option maxRecDepth 100000
theorem valid_flat {f : TF} (h1 : inB f.kind 0 10 = true) (h2 : okF f 0 (lastK 0 ([] : List (Tm 0))) = true) (h3 : { bareF f with kind := 0 } = zeroF) (h4 : sizeF f 0 ≤ 2000) : validT (Tm.mk (n := 0) f []) = true := by
  have e1 : (Tm.mk (n := 0) f []).f = f := rfl
  have e2 : (Tm.mk (n := 0) f []).items = [] := rfl
  have h3' : bareOK f 0 = true := by
    unfold bareOK
    rw [eqB_t h3]
    simp
  unfold validT formedT okT wholeT formedL wholeL
  rw [e1, e2]
  simp only [List.length_nil, h1, h2, h3', Bool.and_self, Bool.true_and, decide_eq_true_eq]
  omega
def aN : ByteArray := ⟨#[97]⟩
theorem vName_n : vName nmN = true := by kernel_rfl
theorem vName_a : vName aN = true := by kernel_rfl
theorem ref_valid : validT (refT (N := 0) 1) = true := valid_flat (by kernel_rfl) (by kernel_rfl) rfl (by show (1 : Int) ≤ 2000; decide)
theorem pid_valid : validT (pidT (N := 0) 1) = true := valid_flat (by kernel_rfl) (by kernel_rfl) rfl (by show (1 : Int) ≤ 2000; decide)
theorem int_valid (k : Int) : validT (intT (N := 0) k) = true := valid_flat (by kernel_rfl) (by kernel_rfl) rfl (by show (1 : Int) ≤ 2000; decide)
theorem atom_valid : validT (atomT (N := 0) aN) = true := valid_flat (by kernel_rfl) (by kernel_rfl) rfl (by show (1 : Int) ≤ 2000; decide)
theorem flat_nodes (f : TF) : nodesT (Tm.mk (n := 0) f []) = 1 := rfl
theorem cmp_a3 : cmpV (atomT (N := 0) aN) (intT 3) = 1 := by
  unfold cmpV
  rw [atom_valid, int_valid]
  kernel_rfl
theorem ne_a3 : atomT (N := 0) aN ≠ intT 3 := fun e => by
  have := congrArg (fun t => t.f.kind) e
  exact absurd this (by decide)
end Go.Proofs.YtfbggmbmgohiiaaGreat.tb
/- The calls of shown. Conditions: the object lies in memory. -/
namespace Go.Proofs.YtfbggmbmgohiiaaGreat.tb
open Go.RowKit mem rec tm names
set_option linter.unusedVariables false
set_option linter.unusedSimpArgs false
set_option maxHeartbeats 1000000
set_option maxRecDepth 100000
abbrev R1 : Tm (0 + 1) := refT 1
abbrev P1 : Tm (0 + 1) := pidT 1
abbrev A1 : Tm (0 + 1) := atomT aN
abbrev I1 : Tm (0 + 1) := intT 1
abbrev I3 : Tm (0 + 1) := intT 3
/-- the object holds one table with these rows -/
def StR (B z : Nat) (l : List (Tm (0 + 1) × Tm (0 + 1))) (W : World) : Prop := ∃ F vl t, TbAt W B F ⟨z, vl, [t]⟩ ∧ t.ref = R1 ∧ t.hs = false ∧ t.rows.map (fun r => (r.k, r.v)) = l
section
variable {B z : Nat} {l : List (Tm (0 + 1) × Tm (0 + 1))} {W W' : World}
theorem StR.below (h : StR B z l W) (hb : Below W.heap.size W W') : StR B z l W' := by
  obtain ⟨F, vl, t, h1, h2⟩ := h
  exact ⟨F, vl, t, h1.below hb, h2⟩
theorem ref_one {t : TabE 0} (h : t.ref = R1) : refAt [t] R1 = some 0 := by
  unfold refAt
  rw [List.findIdx?_cons, eqB_t h]
  rfl
theorem items0 {w : World} (f : TF) : ItemsAt w 0 0 nilV (Tm.mk (n := 0) f []).items := flat_items w 0
theorem c_make {F : Nat → Prop} (h : TbAt W B F ⟨z, nilV, ([] : List (TabE 0))⟩) (hB : B ≤ W.heap.size) : Calls Tryz.prog 17 #[.pointer (some ⟨z, 0, none⟩), aggV R1.f nilV, aggV P1.f nilV, .bool false] W fun e w' => e = .returned (.int .i64 0) ∧ StR B z [] w' ∧ TT progT B W w' := by
  refine (make17y h hB (by simp) (Nat.zero_le B) (flat_items W 0) (flat_items W 0) (by decide) (by decide) ref_valid pid_valid rfl rfl false (by simp) rfl).mono ?_
  rintro e w' ⟨rfl, F1, ur, uo, vl, b, h1, h2, _⟩
  exact ⟨rfl, ⟨F1, vl, _, h1, rfl, rfl, rfl⟩, h2⟩
theorem c_twice (h : StR B z l W) (hB : B ≤ W.heap.size) (hs : Bool) : Calls Tryz.prog 17 #[.pointer (some ⟨z, 0, none⟩), aggV R1.f nilV, aggV P1.f nilV, .bool hs] W fun e w' => e = .returned (.int .i64 8) ∧ Below W.heap.size W w' := by
  obtain ⟨F, vl, t, h1, h2, _, _⟩ := h
  exact make17t h1 hB (by simp) (Nat.zero_le B) (flat_items W 0) (flat_items W 0) (by decide) (by decide) ref_valid pid_valid rfl rfl hs (i := 0) (by simp) (ref_one h2)
theorem c_put (h : StR B z l W) (hB : B ≤ W.heap.size) {k v : Tm (0 + 1)} (hk : nodesT k ≤ 100000000) (hv : nodesT v ≤ 100000000) (hki : k.items = []) (hvi : v.items = []) (h1 : validT k = true) (h2 : validT v = true) (hno : ∀ x ∈ l, x.1 ≠ k ∧ ¬ cmpV x.1 k < 0 ∧ nodesT x.1 ≤ 100000000) (hl : l.length ≤ 1) :
    Calls Tryz.prog 24 #[.pointer (some ⟨z, 0, none⟩), aggV R1.f nilV, aggV k.f nilV, aggV v.f nilV] W fun e w' => e = .returned (.int .i64 0) ∧ StR B z ((k, v) :: l) w' ∧ TT progT B W w' := by
  obtain ⟨F, vl, t, hT, hr, hs, hrows⟩ := h
  have hlen : t.rows.length = l.length := by rw [← hrows, List.length_map]
  have hmem : ∀ x ∈ t.rows, x.k ≠ k ∧ ¬ cmpV x.k k < 0 ∧ nodesT x.k ≤ 100000000 := fun x hx => hno (x.k, x.v) (by rw [← hrows]; exact List.mem_map.2 ⟨x, hx, rfl⟩)
  have hok : FindOK t k := ⟨fun x hx => by have := (hmem x hx).2.2; omega, by omega, fun i j hj hi => by omega⟩
  have hpos : posK t k = 0 := by
    unfold posK keyAt
    cases hq : t.rows with
    | nil => rfl
    | cons x xs =>
      have hx := hmem x (by rw [hq]; exact List.mem_cons_self)
      have : befB t.hs x.k k x.h (hK t.hs k) = false := by
        unfold befB
        rw [hs, if_neg (by decide), decide_eq_false hx.2.1]
      rw [List.findIdx_cons, this]
      rfl
  have hhas : hasK t k = false := by
    unfold hasK
    rw [hpos]
    cases hq : t.rows with
    | nil => rfl
    | cons x xs =>
      have hx := hmem x (by rw [hq]; exact List.mem_cons_self)
      exact eqB_f hx.1
  have hIk : ItemsAt W 0 0 nilV k.items := by rw [hki]; exact flat_items W 0
  have hIv : ItemsAt W 0 0 nilV v.items := by rw [hvi]; exact flat_items W 0
  refine (put24y hT hB (by simp) (Nat.zero_le B) (flat_items W 0 : ItemsAt W 0 0 nilV R1.items) hIk hIv hk hv h1 h2 (i := 0) (by simp) (ref_one hr) hok).mono ?_
  rintro e w' ⟨rfl, F1, uk, uv, vr, hq⟩
  obtain ⟨h3, h4⟩ := hq.upd hT (i := 0) (by simp)
  refine ⟨rfl, ⟨F1, vl, _, h3, hr, hs, ?_⟩, h4⟩
  show (setV (midRows t k uk) (posK t k) v uv).map (fun r => (r.k, r.v)) = (k, v) :: l
  unfold midRows
  rw [hhas, if_neg (by decide), hpos]
  unfold insK setV
  simp only [List.take_zero, List.nil_append, List.singleton_append, List.drop_zero, List.getElem?_cons_zero, List.set_cons_zero, List.map_cons, hrows, newRow]
theorem c_first {k v : Tm (0 + 1)} (h : StR B z ((k, v) :: l) W) (hk : nodesT k ≤ 100000000) (hv : nodesT v ≤ 100000000) : Calls Tryz.prog 39 #[.pointer (some ⟨z, 0, none⟩), aggV R1.f nilV] W (RowP k v W) := by
  obtain ⟨F, vl, t, hT, hr, hs, hrows⟩ := h
  have h0 : 0 < t.rows.length := by
    have := congrArg List.length hrows
    simp at this
    omega
  have hrow : ((t.rows[0]).k, (t.rows[0]).v) = (k, v) := by
    have := congrArg (fun x => x[0]?) hrows
    simp only [List.getElem?_map, List.getElem?_cons_zero, List.getElem?_eq_getElem h0, Option.map_some] at this
    exact Option.some.inj this
  simp only [Prod.mk.injEq] at hrow
  obtain ⟨e1, e2⟩ := hrow
  have := first39y hT (by simp) (Nat.zero_le W.heap.size) (flat_items W 0 : ItemsAt W 0 0 nilV R1.items) (i := 0) (by simp) (ref_one hr) h0 (e1.symm ▸ hk : nodesT (t.rows[0]).k ≤ 100000000) (e2.symm ▸ hv : nodesT (t.rows[0]).v ≤ 100000000)
  simp only [List.getElem_cons_zero, e1, e2] at this
  exact this
theorem c_size (h : StR B z l W) : Calls Tryz.prog 31 #[.pointer (some ⟨z, 0, none⟩), aggV R1.f nilV] W fun e w' => e = .returned (.tuple #[.int .i64 l.length, .int .i64 0]) ∧ Below W.heap.size W w' := by
  obtain ⟨F, vl, t, hT, hr, hs, hrows⟩ := h
  have hlen : t.rows.length = l.length := by rw [← hrows, List.length_map]
  refine size31 hT (by simp) (Nat.zero_le W.heap.size) (flat_items W 0 : ItemsAt W 0 0 nilV R1.items) (n := l.length) (er := 0) (.inr ⟨0, by simp, ref_one hr, ?_, rfl⟩)
  show (l.length : Int) = (t.rows.length : Int)
  rw [hlen]
end
end Go.Proofs.YtfbggmbmgohiiaaGreat.tb
