/- Texts of this seat, one behind the other: TcO, TcP. No condition beyond theirs. -/
import Derived.Test.YtfbggmbmgohiiaaGreatM35
set_option linter.unusedSimpArgs false
set_option linter.unusedVariables false
set_option maxHeartbeats 4000000
set_option maxRecDepth 100000
namespace Go.Proofs.YtfbggmbmgohiiaaGreat.tb
open Go.RowKit mem rec tm names
section
variable {N : Nat} {w w' : World} {B : Nat} {F : Nat → Prop} {s : TbSt N}
theorem make17a (h : TbAt w B F s) (hlen : s.tabs.length ≤ 1000) {r o : Tm (N + 1)} {ur uo : Value} {B2 : Nat} (hBw : B2 ≤ w.heap.size) (hI : ItemsAt w B2 N ur r.items) (hJ : ItemsAt w B2 N uo o.items) (hnr : nodesT r ≤ 100000000) (hno : nodesT o ≤ 100000000) (hs : Bool) {po : Option Addr} {er : Int} (he : er ≠ 1) (hTR : TabR s.tabs r po er) (hk1 : r.f.kind ≠ 3) :
    Calls Tryz.prog 17 #[.pointer (some ⟨s.z, 0, none⟩), aggV r.f ur, aggV o.f uo, .bool hs] w fun e w' => e = .returned (.int .i64 2) ∧ Below w.heap.size w w' := by
  have HTb := Lib.hid (fun (W : World) (hW : Below w.heap.size w W) => table49 (h.below hW) hlen (Nat.le_trans hBw hW.size) (hI.below hW hBw) hTR)
  obtain ⟨pr, cr, er1, _, _⟩ := hI.shape
  obtain ⟨po_, co, eo, _, _⟩ := hJ.shape
  obtain ⟨pw, cw, ew, hcw, hmw⟩ := h.l.shape
  generalize s.z = z at *
  generalize (s.tabs.map (·.b)).length = nT at *
  clear h hlen hI hJ hnr hno hBw hTR ew   
  rw [er1] at HTb ⊢
  rw [eo] 
  clear er1 eo
  generalize r.items.length = nr at *
  generalize o.items.length = no at *
  generalize hrf : r.f = fr at *
  generalize hof : o.f = fo at *
  clear hrf hof
  obtain ⟨rk, ri, rg, rn, rf, ra, rb, rs⟩ := fr
  obtain ⟨ok, oi, og, on, of, oa, ob, os⟩ := fo
  dsimp only at hk1
  unfold aggV at *
  dsimp only at *
  have hsz9 : (Tryz.prog.info? 24).map (·.size) = some 9 := by kernel_rfl
  obtain ⟨hb0, hX0⟩ := two_boxesR w (.cells #[.int .i64 rk, .int .i64 ri, .int .i64 rg, .string rn, .string rf, .int .i64 ra, .slice pr nr cr, .string rb, .int .i64 rs] 24) (.cells #[.int .i64 ok, .int .i64 oi, .int .i64 og, .string on, .string of, .int .i64 oa, .slice po_ no co, .string ob, .int .i64 os] 24) (x1 := [.int .i64 rk, .int .i64 ri, .int .i64 rg, .string rn, .string rf, .int .i64 ra, .slice pr nr cr, .string rb, .int .i64 rs]) (x2 := [.int .i64 ok, .int .i64 oi, .int .i64 og, .string on, .string of, .int .i64 oa, .slice po_ no co, .string ob, .int .i64 os]) rfl rfl
  go_enter Tryz.func17, Tryz.ntmps17
  go_upto_region 1 with (fail)
  generalize ((w.alloc (.cells #[.int .i64 rk, .int .i64 ri, .int .i64 rg, .string rn, .string rf, .int .i64 ra, .slice pr nr cr, .string rb, .int .i64 rs] 24)).alloc (.cells #[.int .i64 ok, .int .i64 oi, .int .i64 og, .string on, .string of, .int .i64 oa, .slice po_ no co, .string ob, .int .i64 os] 24)) = W1 at *
  obtain ⟨l5, l6⟩ := hX0 _ (Below.refl _ _)
  have HL5 := Lib.hid l5
  have HB0 := Lib.hid hb0
  have HX := Lib.hid hX0
  clear hb0 hX0 l5 l6
  go_wp2_with (first
    | (refine wpList_load_mid rfl 24 (.tmp 5) rfl w.heap.size 0 rfl [.int .i64 rk, .int .i64 ri, .int .i64 rg, .string rn, .string rf, .int .i64 ra, .slice pr nr cr, .string rb, .int .i64 rs] _ HL5.out Tryz.underlying24 rfl hsz9 ?_))
  refine (HTb.out _ HB0.out).mono ?_
  rintro e w2 ⟨rfl, hb2⟩
  have HB2 := Lib.hid (HB0.out.trans (hb2.mono HB0.out.size))
  obtain ⟨l5, l6⟩ := HX.out _ hb2
  have HW2 := Lib.hid hb2
  clear HL5 hb2 HTb
  have x0 := l5 0 _ rfl
  have x1 := l5 1 _ rfl
  have x2 := l5 2 _ rfl
  have x3 := l5 3 _ rfl
  have x4 := l5 4 _ rfl
  have x5 := l5 5 _ rfl
  have x6 := l5 6 _ rfl
  have x7 := l5 7 _ rfl
  have x8 := l5 8 _ rfl
  simp only [Nat.reduceAdd] at x0 x1 x2 x3 x4 x5 x6 x7 x8
  have y0 := l6 0 _ rfl
  simp only [Nat.reduceAdd] at y0
  clear l5 l6
  go_wp2_with fail
  go_ret
  exact ⟨rfl, HB2.out⟩
theorem make17b (h : TbAt w B F s) (hlen : s.tabs.length ≤ 1000) {r o : Tm (N + 1)} {ur uo : Value} {B2 : Nat} (hBw : B2 ≤ w.heap.size) (hI : ItemsAt w B2 N ur r.items) (hJ : ItemsAt w B2 N uo o.items) (hnr : nodesT r ≤ 100000000) (hno : nodesT o ≤ 100000000) (hs : Bool) {po : Option Addr} {er : Int} (he : er ≠ 1) (hTR : TabR s.tabs r po er) (hk1 : r.f.kind = 3) (hk2 : o.f.kind ≠ 6) :
    Calls Tryz.prog 17 #[.pointer (some ⟨s.z, 0, none⟩), aggV r.f ur, aggV o.f uo, .bool hs] w fun e w' => e = .returned (.int .i64 2) ∧ Below w.heap.size w w' := by
  have HTb := Lib.hid (fun (W : World) (hW : Below w.heap.size w W) => table49 (h.below hW) hlen (Nat.le_trans hBw hW.size) (hI.below hW hBw) hTR)
  obtain ⟨pr, cr, er1, _, _⟩ := hI.shape
  obtain ⟨po_, co, eo, _, _⟩ := hJ.shape
  obtain ⟨pw, cw, ew, hcw, hmw⟩ := h.l.shape
  generalize s.z = z at *
  generalize (s.tabs.map (·.b)).length = nT at *
  clear h hlen hI hJ hnr hno hBw hTR ew   
  rw [er1] at HTb ⊢
  rw [eo] 
  clear er1 eo
  generalize r.items.length = nr at *
  generalize o.items.length = no at *
  generalize hrf : r.f = fr at *
  generalize hof : o.f = fo at *
  clear hrf hof
  obtain ⟨rk, ri, rg, rn, rf, ra, rb, rs⟩ := fr
  obtain ⟨ok, oi, og, on, of, oa, ob, os⟩ := fo
  dsimp only at hk1 hk2
  subst hk1
  unfold aggV at *
  dsimp only at *
  have hsz9 : (Tryz.prog.info? 24).map (·.size) = some 9 := by kernel_rfl
  obtain ⟨hb0, hX0⟩ := two_boxesR w (.cells #[.int .i64 3, .int .i64 ri, .int .i64 rg, .string rn, .string rf, .int .i64 ra, .slice pr nr cr, .string rb, .int .i64 rs] 24) (.cells #[.int .i64 ok, .int .i64 oi, .int .i64 og, .string on, .string of, .int .i64 oa, .slice po_ no co, .string ob, .int .i64 os] 24) (x1 := [.int .i64 3, .int .i64 ri, .int .i64 rg, .string rn, .string rf, .int .i64 ra, .slice pr nr cr, .string rb, .int .i64 rs]) (x2 := [.int .i64 ok, .int .i64 oi, .int .i64 og, .string on, .string of, .int .i64 oa, .slice po_ no co, .string ob, .int .i64 os]) rfl rfl
  go_enter Tryz.func17, Tryz.ntmps17
  go_upto_region 1 with (fail)
  generalize ((w.alloc (.cells #[.int .i64 3, .int .i64 ri, .int .i64 rg, .string rn, .string rf, .int .i64 ra, .slice pr nr cr, .string rb, .int .i64 rs] 24)).alloc (.cells #[.int .i64 ok, .int .i64 oi, .int .i64 og, .string on, .string of, .int .i64 oa, .slice po_ no co, .string ob, .int .i64 os] 24)) = W1 at *
  obtain ⟨l5, l6⟩ := hX0 _ (Below.refl _ _)
  have HL5 := Lib.hid l5
  have HB0 := Lib.hid hb0
  have HX := Lib.hid hX0
  clear hb0 hX0 l5 l6
  go_wp2_with (first
    | (refine wpList_load_mid rfl 24 (.tmp 5) rfl w.heap.size 0 rfl [.int .i64 3, .int .i64 ri, .int .i64 rg, .string rn, .string rf, .int .i64 ra, .slice pr nr cr, .string rb, .int .i64 rs] _ HL5.out Tryz.underlying24 rfl hsz9 ?_))
  refine (HTb.out _ HB0.out).mono ?_
  rintro e w2 ⟨rfl, hb2⟩
  have HB2 := Lib.hid (HB0.out.trans (hb2.mono HB0.out.size))
  obtain ⟨l5, l6⟩ := HX.out _ hb2
  have HW2 := Lib.hid hb2
  clear HL5 hb2 HTb
  have x0 := l5 0 _ rfl
  have x1 := l5 1 _ rfl
  have x2 := l5 2 _ rfl
  have x3 := l5 3 _ rfl
  have x4 := l5 4 _ rfl
  have x5 := l5 5 _ rfl
  have x6 := l5 6 _ rfl
  have x7 := l5 7 _ rfl
  have x8 := l5 8 _ rfl
  simp only [Nat.reduceAdd] at x0 x1 x2 x3 x4 x5 x6 x7 x8
  have y0 := l6 0 _ rfl
  simp only [Nat.reduceAdd] at y0
  clear l5 l6
  go_wp2_with fail
  go_ret
  exact ⟨rfl, HB2.out⟩
theorem make17c (h : TbAt w B F s) (hlen : s.tabs.length ≤ 1000) {r o : Tm (N + 1)} {ur uo : Value} {B2 : Nat} (hBw : B2 ≤ w.heap.size) (hI : ItemsAt w B2 N ur r.items) (hJ : ItemsAt w B2 N uo o.items) (hnr : nodesT r ≤ 100000000) (hno : nodesT o ≤ 100000000) (hs : Bool) {po : Option Addr} {er : Int} (he : er ≠ 1) (hTR : TabR s.tabs r po er) (hk1 : r.f.kind = 3) (hk2 : o.f.kind = 6) (hvr : validT r = false) :
    Calls Tryz.prog 17 #[.pointer (some ⟨s.z, 0, none⟩), aggV r.f ur, aggV o.f uo, .bool hs] w fun e w' => e = .returned (.int .i64 2) ∧ Below w.heap.size w w' := by
  have HTb := Lib.hid (fun (W : World) (hW : Below w.heap.size w W) => table49 (h.below hW) hlen (Nat.le_trans hBw hW.size) (hI.below hW hBw) hTR)
  have HVr := Lib.hid (fun (W : World) (hW : Below w.heap.size w W) => ValidTm (ofAll N) W B2 ur r (Nat.le_trans hBw hW.size) (hI.below hW hBw) (by omega))
  obtain ⟨pr, cr, er1, _, _⟩ := hI.shape
  obtain ⟨po_, co, eo, _, _⟩ := hJ.shape
  obtain ⟨pw, cw, ew, hcw, hmw⟩ := h.l.shape
  rw [hvr] at HVr
  generalize s.z = z at *
  generalize (s.tabs.map (·.b)).length = nT at *
  clear h hlen hI hJ hnr hno hBw hTR ew hvr  
  rw [er1] at HTb HVr ⊢
  rw [eo] 
  clear er1 eo
  generalize r.items.length = nr at *
  generalize o.items.length = no at *
  generalize hrf : r.f = fr at *
  generalize hof : o.f = fo at *
  clear hrf hof
  obtain ⟨rk, ri, rg, rn, rf, ra, rb, rs⟩ := fr
  obtain ⟨ok, oi, og, on, of, oa, ob, os⟩ := fo
  dsimp only at hk1 hk2
  subst hk1
  subst hk2
  unfold aggV at *
  dsimp only at *
  unfold BPost at HVr
  have hsz9 : (Tryz.prog.info? 24).map (·.size) = some 9 := by kernel_rfl
  obtain ⟨hb0, hX0⟩ := two_boxesR w (.cells #[.int .i64 3, .int .i64 ri, .int .i64 rg, .string rn, .string rf, .int .i64 ra, .slice pr nr cr, .string rb, .int .i64 rs] 24) (.cells #[.int .i64 6, .int .i64 oi, .int .i64 og, .string on, .string of, .int .i64 oa, .slice po_ no co, .string ob, .int .i64 os] 24) (x1 := [.int .i64 3, .int .i64 ri, .int .i64 rg, .string rn, .string rf, .int .i64 ra, .slice pr nr cr, .string rb, .int .i64 rs]) (x2 := [.int .i64 6, .int .i64 oi, .int .i64 og, .string on, .string of, .int .i64 oa, .slice po_ no co, .string ob, .int .i64 os]) rfl rfl
  go_enter Tryz.func17, Tryz.ntmps17
  go_upto_region 1 with (fail)
  generalize ((w.alloc (.cells #[.int .i64 3, .int .i64 ri, .int .i64 rg, .string rn, .string rf, .int .i64 ra, .slice pr nr cr, .string rb, .int .i64 rs] 24)).alloc (.cells #[.int .i64 6, .int .i64 oi, .int .i64 og, .string on, .string of, .int .i64 oa, .slice po_ no co, .string ob, .int .i64 os] 24)) = W1 at *
  obtain ⟨l5, l6⟩ := hX0 _ (Below.refl _ _)
  have HL5 := Lib.hid l5
  have HB0 := Lib.hid hb0
  have HX := Lib.hid hX0
  clear hb0 hX0 l5 l6
  go_wp2_with (first
    | (refine wpList_load_mid rfl 24 (.tmp 5) rfl w.heap.size 0 rfl [.int .i64 3, .int .i64 ri, .int .i64 rg, .string rn, .string rf, .int .i64 ra, .slice pr nr cr, .string rb, .int .i64 rs] _ HL5.out Tryz.underlying24 rfl hsz9 ?_))
  refine (HTb.out _ HB0.out).mono ?_
  rintro e w2 ⟨rfl, hb2⟩
  have HB2 := Lib.hid (HB0.out.trans (hb2.mono HB0.out.size))
  obtain ⟨l5, l6⟩ := HX.out _ hb2
  have HW2 := Lib.hid hb2
  clear HL5 hb2 HTb
  have x0 := l5 0 _ rfl
  have x1 := l5 1 _ rfl
  have x2 := l5 2 _ rfl
  have x3 := l5 3 _ rfl
  have x4 := l5 4 _ rfl
  have x5 := l5 5 _ rfl
  have x6 := l5 6 _ rfl
  have x7 := l5 7 _ rfl
  have x8 := l5 8 _ rfl
  simp only [Nat.reduceAdd] at x0 x1 x2 x3 x4 x5 x6 x7 x8
  have y0 := l6 0 _ rfl
  simp only [Nat.reduceAdd] at y0
  clear l5 l6
  go_wp2_with fail
  refine (HVr.out _ HB2.out).mono ?_
  rintro e w3 ⟨rfl, hb3⟩
  have HB3 := Lib.hid (HB2.out.trans (hb3.mono HB2.out.size))
  have HW3 := Lib.hid (HW2.out.trans (hb3.mono HW2.out.size))
  obtain ⟨l5, l6⟩ := HX.out _ HW3.out
  clear x0 x1 x2 x3 x4 x5 x6 x7 x8 y0 hb3 HVr
  have y0 := l6 0 _ rfl
  have y1 := l6 1 _ rfl
  have y2 := l6 2 _ rfl
  have y3 := l6 3 _ rfl
  have y4 := l6 4 _ rfl
  have y5 := l6 5 _ rfl
  have y6 := l6 6 _ rfl
  have y7 := l6 7 _ rfl
  have y8 := l6 8 _ rfl
  simp only [Nat.reduceAdd] at y0 y1 y2 y3 y4 y5 y6 y7 y8
  clear l5 l6
  go_wp2_with fail
  go_ret
  exact ⟨rfl, HB3.out⟩
theorem make17d (h : TbAt w B F s) (hlen : s.tabs.length ≤ 1000) {r o : Tm (N + 1)} {ur uo : Value} {B2 : Nat} (hBw : B2 ≤ w.heap.size) (hI : ItemsAt w B2 N ur r.items) (hJ : ItemsAt w B2 N uo o.items) (hnr : nodesT r ≤ 100000000) (hno : nodesT o ≤ 100000000) (hs : Bool) {po : Option Addr} {er : Int} (he : er ≠ 1) (hTR : TabR s.tabs r po er) (hk1 : r.f.kind = 3) (hk2 : o.f.kind = 6) (hvr : validT r = true) (hvo : validT o = false) :
    Calls Tryz.prog 17 #[.pointer (some ⟨s.z, 0, none⟩), aggV r.f ur, aggV o.f uo, .bool hs] w fun e w' => e = .returned (.int .i64 2) ∧ Below w.heap.size w w' := by
  have HTb := Lib.hid (fun (W : World) (hW : Below w.heap.size w W) => table49 (h.below hW) hlen (Nat.le_trans hBw hW.size) (hI.below hW hBw) hTR)
  have HVr := Lib.hid (fun (W : World) (hW : Below w.heap.size w W) => ValidTm (ofAll N) W B2 ur r (Nat.le_trans hBw hW.size) (hI.below hW hBw) (by omega))
  have HVo := Lib.hid (fun (W : World) (hW : Below w.heap.size w W) => ValidTm (ofAll N) W B2 uo o (Nat.le_trans hBw hW.size) (hJ.below hW hBw) (by omega))
  obtain ⟨pr, cr, er1, _, _⟩ := hI.shape
  obtain ⟨po_, co, eo, _, _⟩ := hJ.shape
  obtain ⟨pw, cw, ew, hcw, hmw⟩ := h.l.shape
  rw [hvr] at HVr
  rw [hvo] at HVo
  generalize s.z = z at *
  generalize (s.tabs.map (·.b)).length = nT at *
  clear h hlen hI hJ hnr hno hBw hTR ew hvr hvo 
  rw [er1] at HTb HVr ⊢
  rw [eo] at HVo ⊢
  clear er1 eo
  generalize r.items.length = nr at *
  generalize o.items.length = no at *
  generalize hrf : r.f = fr at *
  generalize hof : o.f = fo at *
  clear hrf hof
  obtain ⟨rk, ri, rg, rn, rf, ra, rb, rs⟩ := fr
  obtain ⟨ok, oi, og, on, of, oa, ob, os⟩ := fo
  dsimp only at hk1 hk2
  subst hk1
  subst hk2
  unfold aggV at *
  dsimp only at *
  unfold BPost at HVr
  unfold BPost at HVo
  have hsz9 : (Tryz.prog.info? 24).map (·.size) = some 9 := by kernel_rfl
  obtain ⟨hb0, hX0⟩ := two_boxesR w (.cells #[.int .i64 3, .int .i64 ri, .int .i64 rg, .string rn, .string rf, .int .i64 ra, .slice pr nr cr, .string rb, .int .i64 rs] 24) (.cells #[.int .i64 6, .int .i64 oi, .int .i64 og, .string on, .string of, .int .i64 oa, .slice po_ no co, .string ob, .int .i64 os] 24) (x1 := [.int .i64 3, .int .i64 ri, .int .i64 rg, .string rn, .string rf, .int .i64 ra, .slice pr nr cr, .string rb, .int .i64 rs]) (x2 := [.int .i64 6, .int .i64 oi, .int .i64 og, .string on, .string of, .int .i64 oa, .slice po_ no co, .string ob, .int .i64 os]) rfl rfl
  go_enter Tryz.func17, Tryz.ntmps17
  go_upto_region 1 with (fail)
  generalize ((w.alloc (.cells #[.int .i64 3, .int .i64 ri, .int .i64 rg, .string rn, .string rf, .int .i64 ra, .slice pr nr cr, .string rb, .int .i64 rs] 24)).alloc (.cells #[.int .i64 6, .int .i64 oi, .int .i64 og, .string on, .string of, .int .i64 oa, .slice po_ no co, .string ob, .int .i64 os] 24)) = W1 at *
  obtain ⟨l5, l6⟩ := hX0 _ (Below.refl _ _)
  have HL5 := Lib.hid l5
  have HB0 := Lib.hid hb0
  have HX := Lib.hid hX0
  clear hb0 hX0 l5 l6
  go_wp2_with (first
    | (refine wpList_load_mid rfl 24 (.tmp 5) rfl w.heap.size 0 rfl [.int .i64 3, .int .i64 ri, .int .i64 rg, .string rn, .string rf, .int .i64 ra, .slice pr nr cr, .string rb, .int .i64 rs] _ HL5.out Tryz.underlying24 rfl hsz9 ?_))
  refine (HTb.out _ HB0.out).mono ?_
  rintro e w2 ⟨rfl, hb2⟩
  have HB2 := Lib.hid (HB0.out.trans (hb2.mono HB0.out.size))
  obtain ⟨l5, l6⟩ := HX.out _ hb2
  have HW2 := Lib.hid hb2
  clear HL5 hb2 HTb
  have x0 := l5 0 _ rfl
  have x1 := l5 1 _ rfl
  have x2 := l5 2 _ rfl
  have x3 := l5 3 _ rfl
  have x4 := l5 4 _ rfl
  have x5 := l5 5 _ rfl
  have x6 := l5 6 _ rfl
  have x7 := l5 7 _ rfl
  have x8 := l5 8 _ rfl
  simp only [Nat.reduceAdd] at x0 x1 x2 x3 x4 x5 x6 x7 x8
  have y0 := l6 0 _ rfl
  simp only [Nat.reduceAdd] at y0
  clear l5 l6
  go_wp2_with fail
  refine (HVr.out _ HB2.out).mono ?_
  rintro e w3 ⟨rfl, hb3⟩
  have HB3 := Lib.hid (HB2.out.trans (hb3.mono HB2.out.size))
  have HW3 := Lib.hid (HW2.out.trans (hb3.mono HW2.out.size))
  obtain ⟨l5, l6⟩ := HX.out _ HW3.out
  clear x0 x1 x2 x3 x4 x5 x6 x7 x8 y0 hb3 HVr
  have y0 := l6 0 _ rfl
  have y1 := l6 1 _ rfl
  have y2 := l6 2 _ rfl
  have y3 := l6 3 _ rfl
  have y4 := l6 4 _ rfl
  have y5 := l6 5 _ rfl
  have y6 := l6 6 _ rfl
  have y7 := l6 7 _ rfl
  have y8 := l6 8 _ rfl
  simp only [Nat.reduceAdd] at y0 y1 y2 y3 y4 y5 y6 y7 y8
  clear l5 l6
  go_wp2_with fail
  refine (HVo.out _ HB3.out).mono ?_
  rintro e w4 ⟨rfl, hb4⟩
  have HB4 := Lib.hid (HB3.out.trans (hb4.mono HB3.out.size))
  clear y0 y1 y2 y3 y4 y5 y6 y7 y8 hb4 HVo
  go_wp2_with fail
  go_ret
  exact ⟨rfl, HB4.out⟩
theorem make17f (h : TbAt w B F s) (hlen : s.tabs.length ≤ 1000) {r o : Tm (N + 1)} {ur uo : Value} {B2 : Nat} (hBw : B2 ≤ w.heap.size) (hI : ItemsAt w B2 N ur r.items) (hJ : ItemsAt w B2 N uo o.items) (hnr : nodesT r ≤ 100000000) (hno : nodesT o ≤ 100000000) (hs : Bool) {po : Option Addr} {er : Int} (he : er ≠ 1) (hTR : TabR s.tabs r po er) (hk1 : r.f.kind = 3) (hk2 : o.f.kind = 6) (hvr : validT r = true) (hvo : validT o = true) (he0 : er ≠ 0) (hfull : 64 ≤ s.tabs.length) :
    Calls Tryz.prog 17 #[.pointer (some ⟨s.z, 0, none⟩), aggV r.f ur, aggV o.f uo, .bool hs] w fun e w' => e = .returned (.int .i64 5) ∧ Below w.heap.size w w' := by
  have HTb := Lib.hid (fun (W : World) (hW : Below w.heap.size w W) => table49 (h.below hW) hlen (Nat.le_trans hBw hW.size) (hI.below hW hBw) hTR)
  have HVr := Lib.hid (fun (W : World) (hW : Below w.heap.size w W) => ValidTm (ofAll N) W B2 ur r (Nat.le_trans hBw hW.size) (hI.below hW hBw) (by omega))
  have HVo := Lib.hid (fun (W : World) (hW : Below w.heap.size w W) => ValidTm (ofAll N) W B2 uo o (Nat.le_trans hBw hW.size) (hJ.below hW hBw) (by omega))
  have HO := Lib.hid (fun (W : World) (hW : Below w.heap.size w W) => two_cells (h.below hW).obj)
  have h64 : (64 : Int) ≤ ((s.tabs.map (·.b)).length : Int) := by rw [List.length_map]; omega
  obtain ⟨pr, cr, er1, _, _⟩ := hI.shape
  obtain ⟨po_, co, eo, _, _⟩ := hJ.shape
  obtain ⟨pw, cw, ew, hcw, hmw⟩ := h.l.shape
  rw [ew] at HO
  rw [hvr] at HVr
  rw [hvo] at HVo
  generalize s.z = z at *
  generalize (s.tabs.map (·.b)).length = nT at *
  clear h hlen hI hJ hnr hno hBw hTR ew hvr hvo hfull
  rw [er1] at HTb HVr ⊢
  rw [eo] at HVo ⊢
  clear er1 eo
  generalize r.items.length = nr at *
  generalize o.items.length = no at *
  generalize hrf : r.f = fr at *
  generalize hof : o.f = fo at *
  clear hrf hof
  obtain ⟨rk, ri, rg, rn, rf, ra, rb, rs⟩ := fr
  obtain ⟨ok, oi, og, on, of, oa, ob, os⟩ := fo
  dsimp only at hk1 hk2
  subst hk1
  subst hk2
  unfold aggV at *
  dsimp only at *
  unfold BPost at HVr
  unfold BPost at HVo
  have hsz9 : (Tryz.prog.info? 24).map (·.size) = some 9 := by kernel_rfl
  obtain ⟨hb0, hX0⟩ := two_boxesR w (.cells #[.int .i64 3, .int .i64 ri, .int .i64 rg, .string rn, .string rf, .int .i64 ra, .slice pr nr cr, .string rb, .int .i64 rs] 24) (.cells #[.int .i64 6, .int .i64 oi, .int .i64 og, .string on, .string of, .int .i64 oa, .slice po_ no co, .string ob, .int .i64 os] 24) (x1 := [.int .i64 3, .int .i64 ri, .int .i64 rg, .string rn, .string rf, .int .i64 ra, .slice pr nr cr, .string rb, .int .i64 rs]) (x2 := [.int .i64 6, .int .i64 oi, .int .i64 og, .string on, .string of, .int .i64 oa, .slice po_ no co, .string ob, .int .i64 os]) rfl rfl
  go_enter Tryz.func17, Tryz.ntmps17
  go_upto_region 1 with (fail)
  generalize ((w.alloc (.cells #[.int .i64 3, .int .i64 ri, .int .i64 rg, .string rn, .string rf, .int .i64 ra, .slice pr nr cr, .string rb, .int .i64 rs] 24)).alloc (.cells #[.int .i64 6, .int .i64 oi, .int .i64 og, .string on, .string of, .int .i64 oa, .slice po_ no co, .string ob, .int .i64 os] 24)) = W1 at *
  obtain ⟨l5, l6⟩ := hX0 _ (Below.refl _ _)
  have HL5 := Lib.hid l5
  have HB0 := Lib.hid hb0
  have HX := Lib.hid hX0
  clear hb0 hX0 l5 l6
  go_wp2_with (first
    | (refine wpList_load_mid rfl 24 (.tmp 5) rfl w.heap.size 0 rfl [.int .i64 3, .int .i64 ri, .int .i64 rg, .string rn, .string rf, .int .i64 ra, .slice pr nr cr, .string rb, .int .i64 rs] _ HL5.out Tryz.underlying24 rfl hsz9 ?_))
  refine (HTb.out _ HB0.out).mono ?_
  rintro e w2 ⟨rfl, hb2⟩
  have HB2 := Lib.hid (HB0.out.trans (hb2.mono HB0.out.size))
  obtain ⟨l5, l6⟩ := HX.out _ hb2
  have HW2 := Lib.hid hb2
  clear HL5 hb2 HTb
  have x0 := l5 0 _ rfl
  have x1 := l5 1 _ rfl
  have x2 := l5 2 _ rfl
  have x3 := l5 3 _ rfl
  have x4 := l5 4 _ rfl
  have x5 := l5 5 _ rfl
  have x6 := l5 6 _ rfl
  have x7 := l5 7 _ rfl
  have x8 := l5 8 _ rfl
  simp only [Nat.reduceAdd] at x0 x1 x2 x3 x4 x5 x6 x7 x8
  have y0 := l6 0 _ rfl
  simp only [Nat.reduceAdd] at y0
  clear l5 l6
  go_wp2_with fail
  refine (HVr.out _ HB2.out).mono ?_
  rintro e w3 ⟨rfl, hb3⟩
  have HB3 := Lib.hid (HB2.out.trans (hb3.mono HB2.out.size))
  have HW3 := Lib.hid (HW2.out.trans (hb3.mono HW2.out.size))
  obtain ⟨l5, l6⟩ := HX.out _ HW3.out
  clear x0 x1 x2 x3 x4 x5 x6 x7 x8 y0 hb3 HVr
  have y0 := l6 0 _ rfl
  have y1 := l6 1 _ rfl
  have y2 := l6 2 _ rfl
  have y3 := l6 3 _ rfl
  have y4 := l6 4 _ rfl
  have y5 := l6 5 _ rfl
  have y6 := l6 6 _ rfl
  have y7 := l6 7 _ rfl
  have y8 := l6 8 _ rfl
  simp only [Nat.reduceAdd] at y0 y1 y2 y3 y4 y5 y6 y7 y8
  clear l5 l6
  go_wp2_with fail
  refine (HVo.out _ HB3.out).mono ?_
  rintro e w4 ⟨rfl, hb4⟩
  have HB4 := Lib.hid (HB3.out.trans (hb4.mono HB3.out.size))
  clear y0 y1 y2 y3 y4 y5 y6 y7 y8 hb4 HVo
  obtain ⟨o0, o1, of⟩ := HO.out _ HB4.out
  go_wp2_with fail
  go_ret
  exact ⟨rfl, HB4.out⟩
end
section
variable {N : Nat} {w w' : World} {B : Nat} {F : Nat → Prop} {s : TbSt N} {t : TabE N}
end
end Go.Proofs.YtfbggmbmgohiiaaGreat.tb
