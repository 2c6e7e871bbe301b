/- Several texts in one, one behind the other: LkH, LkI, LkJ, LkL, LkN. No condition beyond theirs. -/
import Derived.Test.YtnakbepcalciiaaGreatGp
import Derived.StillTailTactics
import Derived.Test.YtnakbepcalciiaaGreatGo
import Derived.Deep.LoopGhost
/- Fell, Left, Came, Acked. Conditions: the object was made by New; the terms lie in memory. -/
namespace Go.Proofs.YtnakbepcalciiaaGreat.lk
open Go.RowKit mem rec tm names pm
set_option linter.unusedVariables false
set_option linter.unusedSimpArgs false
set_option maxHeartbeats 4000000
set_option maxRecDepth 100000
def fellS (s : LkSt) (x y : Id) : LkSt := if actB s (x, y) then { s with H := pDel s.H (x, y) } else s
def FellP (ok act : Bool) (s s' : LkSt) (z mh mm : Nat) (w : World) (e : Ending) (w' : World) : Prop := e = .returned (.tuple #[.bool (ok && act), .int .i64 (if ok then 0 else 2)]) ∧ LkAt w' z mh mm (if ok then s' else s) ∧ TouchB (LkS z mh mm) w w'
theorem fell48 {n m : Nat} {w : World} {z mh mm : Nat} {s : LkSt} (h : LkAt w z mh mm s) (B : Nat) (va vb : Value) (ta : Tm (n + 1)) (tb : Tm (m + 1)) (hB : B ≤ w.heap.size) (ha : ItemsAt w B n va ta.items) (hb : ItemsAt w B m vb tb.items) (sa : 300 * (nodesT ta : Int) ≤ 1000000000000) (sb : 300 * (nodesT tb : Int) ≤ 1000000000000) :
    Calls Tryz.prog 48 #[.pointer (some ⟨z, 0, none⟩), aggV ta.f va, aggV tb.f vb] w (FellP (pairB s.node s.gen true (decide (ta.f.kind = 6) && validT ta) (decide (tb.f.kind = 6) && validT tb) (idOf ta.f) (idOf tb.f)) (actB s (idOf ta.f, idOf tb.f)) s (fellS s (idOf ta.f) (idOf tb.f)) z mh mm w) := by
  have HP := Lib.hid (fun W (hW : Below w.heap.size w W) => pair79 W ((hW.block z h.zlt).trans h.obj) B va vb ta tb true (Nat.le_trans hB hW.size) (ha.below hW hB) (hb.below hW hB) sa sb)
  have H0 := Lib.hid h
  obtain ⟨pa, ca, rfl, _, _⟩ := ha.shape
  obtain ⟨pb, cb, rfl, _, _⟩ := hb.shape
  clear ha hb sa sb hB h
  have hbx := boxes2 w ta.f tb.f (.slice pa ta.items.length ca) (.slice pb tb.items.length cb)
  generalize pairB s.node s.gen true (decide (ta.f.kind = 6) && validT ta) (decide (tb.f.kind = 6) && validT tb) (idOf ta.f) (idOf tb.f) = ok at *
  generalize hx : idOf ta.f = x at *
  generalize hy : idOf tb.f = y at *
  clear hx hy
  generalize ta.items.length = na at *
  generalize tb.items.length = nb at *
  generalize ta.f = fa at *
  generalize tb.f = fb at *
  obtain ⟨hA, hBx, hb2, hs2⟩ := hbx
  obtain ⟨ak, ai, ag, an, af, aa, ab, az⟩ := fa
  obtain ⟨bk, bi, bg, bn, bf, ba, bb, bz⟩ := fb
  unfold PairP at HP
  unfold prV at HP
  unfold aggV at *
  unfold cells9 at *
  dsimp only at HP hA hBx hb2 hs2 ⊢
  have HA := Lib.hid hA
  have HBx := Lib.hid hBx
  have HB2 := Lib.hid hb2
  have HS2 := Lib.hid hs2
  clear hA hBx hb2 hs2
  unfold FellP
  go_enter Tryz.func48, Tryz.ntmps48
  go_upto_region 1 with (fail)
  generalize ((w.alloc (.cells #[.int .i64 ak, .int .i64 ai, .int .i64 ag, .string an, .string af, .int .i64 aa, .slice pa na ca, .string ab, .int .i64 az] 30)).alloc (.cells #[.int .i64 bk, .int .i64 bi, .int .i64 bg, .string bn, .string bf, .int .i64 ba, .slice pb nb cb, .string bb, .int .i64 bz] 30)) = W1 at *
  obtain ⟨x0, x1', x2', x3', x4', x5', x6', x7', x8', xf⟩ := HA.out
  obtain ⟨y0, y1', y2', y3', y4', y5', y6', y7', y8', yf⟩ := HBx.out
  dsimp only at x0 x1' x2' x3' x4' x5' x6' x7' x8' y0 y1' y2' y3' y4' y5' y6' y7' y8'
  go_wp2_with fail
  refine (HP.out _ HB2.out).mono ?_
  rintro e W2 ⟨rfl, hb3⟩
  clear x0 x1' x2' x3' x4' x5' x6' x7' x8' xf y0 y1' y2' y3' y4' y5' y6' y7' y8' yf HP HA HBx
  have hbw := HB2.out.trans (hb3.mono HB2.out.size)
  clear hb3
  obtain ⟨x1, x2, x3, x4⟩ := x
  obtain ⟨y1, y2, y3, y4⟩ := y
  dsimp only
  cases ok
  · go_wp2_with fail
    go_ret2
    exact ⟨rfl, H0.out.below (belowA hbw _ hbw.size), ((TouchB.refl _ _).ofBelow hbw (Nat.le_refl _)).alloc _⟩
  go_upto_region 2 with (fail)
  have hP := alloc_new W2 (.cells #[.int .i64 x1, .string x2, .int .i64 x3, .int .i64 x4, .int .i64 y1, .string y2, .int .i64 y3, .int .i64 y4] 149)
  have hb3 := belowA hbw (.cells #[.int .i64 x1, .string x2, .int .i64 x3, .int .i64 x4, .int .i64 y1, .string y2, .int .i64 y3, .int .i64 y4] 149) hbw.size
  have hzl : W2.heap.size < (W2.alloc (.cells #[.int .i64 x1, .string x2, .int .i64 x3, .int .i64 x4, .int .i64 y1, .string y2, .int .i64 y3, .int .i64 y4] 149)).heap.size := by rw [World.size_alloc]; omega
  have hzp := hbw.size
  clear hbw
  generalize (W2.alloc (.cells #[.int .i64 x1, .string x2, .int .i64 x3, .int .i64 x4, .int .i64 y1, .string y2, .int .i64 y3, .int .i64 y4] 149)) = W3 at *
  generalize W2.heap.size = zp at *
  have hne := mh_ne H0.out hzp
  have HS3 := Lib.hid (H0.out.below hb3)
  have HT3 : Hid (TouchB (LkS z mh mm) w W3) := Lib.hid (touch_of hb3)
  have HP3 := Lib.hid hP
  clear hb3 hP
  have HAc := Lib.hid (active81 HS3.out ((x1, x2, x3, x4), (y1, y2, y3, y4)))
  have HPa := Lib.hid (fun W (hW : Below W3.heap.size W3 W) => eight_cells ((hW.block _ hzl).trans HP3.out))
  obtain ⟨r0, r1, r2, r3, r4, r5, r6, r7, rf⟩ := HPa.out _ (Below.refl _ _)
  (try unfold prV at *)
  (try dsimp only at *)
  have HJ0 : Hid (actB s ((x1, x2, x3, x4), (y1, y2, y3, y4)) = false → fellS s (x1, x2, x3, x4) (y1, y2, y3, y4) = s) := Lib.hid (fun h => by unfold fellS; rw [h]; rfl)
  have HJ1 : Hid (actB s ((x1, x2, x3, x4), (y1, y2, y3, y4)) = true → fellS s (x1, x2, x3, x4) (y1, y2, y3, y4) = { s with H := pDel s.H ((x1, x2, x3, x4), (y1, y2, y3, y4)) }) := Lib.hid (fun h => by unfold fellS; rw [h]; rfl)
  generalize hact : actB s ((x1, x2, x3, x4), (y1, y2, y3, y4)) = act at *
  have HAe := Lib.hid hact
  clear hact
  go_wp2_with fail
  refine HAc.out.mono ?_
  rintro e W4 ⟨rfl, hb4⟩
  clear r0 r1 r2 r3 r4 r5 r6 r7 rf
  cases act
  · go_wp2_with fail
    go_ret2
    exact ⟨by rw [HAe.out]; rfl, by rw [HJ0.out (by simp)]; exact HS3.out.below hb4, touch_trans HT3.out (touch_of hb4)⟩
  · go_upto_region 4 with (fail)
    have hb5 := belowD hb4
    obtain ⟨r0, r1, r2, r3, r4, r5, r6, r7, rf⟩ := HPa.out _ hb4
    have HS4 := Lib.hid (HS3.out.below hb4)
    have HS5 := Lib.hid (HS3.out.below hb5)
    obtain ⟨W6, hrun6, h6, ht6, hs6⟩ := delH_run HS5.out ((x1, x2, x3, x4), (y1, y2, y3, y4))
    obtain ⟨c0, c1, c2, c3, c4, cf⟩ := five_cells HS4.out.obj
    unfold prV at hrun6
    dsimp only at hrun6
    have HS6 := Lib.hid h6
    have HT6 : Hid (TouchB (LkS z mh mm) w W6) := Lib.hid (touch_trans HT3.out (touch_trans (touch_of hb5) (touch_mh ht6)))
    clear h6 ht6 hs6 hb4 hb5 HAc
    go_still_tail 5, (by kernel_rfl)
    go_wp2_with fail
    go_ret2
    exact ⟨by rw [HAe.out]; rfl, by rw [HJ1.out (by simp)]; exact HS6.out, HT6.out⟩
def LeftP (ok : Bool) (s s' : LkSt) (z mh mm : Nat) (w : World) (e : Ending) (w' : World) : Prop := e = .returned (.int .i64 (if ok then 0 else 2)) ∧ LkAt w' z mh mm (if ok then s' else s) ∧ TouchB (LkS z mh mm) w w'
theorem left49 {n m : Nat} {w : World} {z mh mm : Nat} {s : LkSt} (h : LkAt w z mh mm s) (B : Nat) (va vb : Value) (ta : Tm (n + 1)) (tb : Tm (m + 1)) (hB : B ≤ w.heap.size) (ha : ItemsAt w B n va ta.items) (hb : ItemsAt w B m vb tb.items) (sa : 300 * (nodesT ta : Int) ≤ 1000000000000) (sb : 300 * (nodesT tb : Int) ≤ 1000000000000) :
    Calls Tryz.prog 49 #[.pointer (some ⟨z, 0, none⟩), aggV ta.f va, aggV tb.f vb] w (LeftP (pairB s.node s.gen true (decide (ta.f.kind = 6) && validT ta) (decide (tb.f.kind = 6) && validT tb) (idOf ta.f) (idOf tb.f)) s (fellS s (idOf ta.f) (idOf tb.f)) z mh mm w) := by
  have HP := Lib.hid (fun W (hW : Below w.heap.size w W) => fell48 (h.below hW) B va vb ta tb (Nat.le_trans hB hW.size) (ha.below hW hB) (hb.below hW hB) sa sb)
  have H0 := Lib.hid h
  obtain ⟨pa, ca, rfl, _, _⟩ := ha.shape
  obtain ⟨pb, cb, rfl, _, _⟩ := hb.shape
  clear ha hb sa sb hB h
  have hbx := boxes2 w ta.f tb.f (.slice pa ta.items.length ca) (.slice pb tb.items.length cb)
  generalize pairB s.node s.gen true (decide (ta.f.kind = 6) && validT ta) (decide (tb.f.kind = 6) && validT tb) (idOf ta.f) (idOf tb.f) = ok at *
  generalize actB s (idOf ta.f, idOf tb.f) = act at *
  generalize fellS s (idOf ta.f) (idOf tb.f) = s' at *
  generalize hx : idOf ta.f = x at *
  generalize hy : idOf tb.f = y at *
  clear hx hy
  generalize ta.items.length = na at *
  generalize tb.items.length = nb at *
  generalize ta.f = fa at *
  generalize tb.f = fb at *
  obtain ⟨hA, hBx, hb2, hs2⟩ := hbx
  obtain ⟨ak, ai, ag, an, af, aa, ab, az⟩ := fa
  obtain ⟨bk, bi, bg, bn, bf, ba, bb, bz⟩ := fb
  unfold FellP at HP
  unfold aggV at *
  unfold cells9 at *
  dsimp only at HP hA hBx hb2 hs2 ⊢
  have HA := Lib.hid hA
  have HBx := Lib.hid hBx
  have HB2 := Lib.hid hb2
  have HS2 := Lib.hid hs2
  clear hA hBx hb2 hs2
  unfold LeftP
  go_enter Tryz.func49, Tryz.ntmps49
  go_upto_region 1 with (fail)
  generalize ((w.alloc (.cells #[.int .i64 ak, .int .i64 ai, .int .i64 ag, .string an, .string af, .int .i64 aa, .slice pa na ca, .string ab, .int .i64 az] 30)).alloc (.cells #[.int .i64 bk, .int .i64 bi, .int .i64 bg, .string bn, .string bf, .int .i64 ba, .slice pb nb cb, .string bb, .int .i64 bz] 30)) = W1 at *
  obtain ⟨x0, x1', x2', x3', x4', x5', x6', x7', x8', xf⟩ := HA.out
  obtain ⟨y0, y1', y2', y3', y4', y5', y6', y7', y8', yf⟩ := HBx.out
  dsimp only at x0 x1' x2' x3' x4' x5' x6' x7' x8' y0 y1' y2' y3' y4' y5' y6' y7' y8'
  go_wp2_with fail
  refine (HP.out _ HB2.out).mono ?_
  rintro e W2 ⟨rfl, hs3, ht3⟩
  clear x0 x1' x2' x3' x4' x5' x6' x7' x8' xf y0 y1' y2' y3' y4' y5' y6' y7' y8' yf HP HA HBx
  have HS3 := Lib.hid hs3
  have HT3 : Hid (TouchB (LkS z mh mm) w W2) := Lib.hid (touch_trans (touch_of HB2.out) ht3)
  clear hs3 ht3
  cases ok
  · go_wp2_with fail
    go_ret
    exact ⟨rfl, HS3.out, HT3.out⟩
  · go_wp2_with fail
    go_ret
    exact ⟨rfl, HS3.out, HT3.out⟩
def cameS (s : LkSt) (x y : Id) : LkSt := if (pFind s.H (x, y)).isSome then s else { s with H := pPut s.H (x, y) 0 }
theorem came41 {n m : Nat} {w : World} {z mh mm : Nat} {s : LkSt} (h : LkAt w z mh mm s) (B : Nat) (va vb : Value) (ta : Tm (n + 1)) (tb : Tm (m + 1)) (hB : B ≤ w.heap.size) (ha : ItemsAt w B n va ta.items) (hb : ItemsAt w B m vb tb.items) (sa : 300 * (nodesT ta : Int) ≤ 1000000000000) (sb : 300 * (nodesT tb : Int) ≤ 1000000000000) :
    Calls Tryz.prog 41 #[.pointer (some ⟨z, 0, none⟩), aggV ta.f va, aggV tb.f vb] w (LeftP (pairB s.node s.gen true (decide (ta.f.kind = 6) && validT ta) (decide (tb.f.kind = 6) && validT tb) (idOf ta.f) (idOf tb.f)) s (cameS s (idOf ta.f) (idOf tb.f)) z mh mm w) := by
  have HP := Lib.hid (fun W (hW : Below w.heap.size w W) => pair79 W ((hW.block z h.zlt).trans h.obj) B va vb ta tb true (Nat.le_trans hB hW.size) (ha.below hW hB) (hb.below hW hB) sa sb)
  have H0 := Lib.hid h
  obtain ⟨pa, ca, rfl, _, _⟩ := ha.shape
  obtain ⟨pb, cb, rfl, _, _⟩ := hb.shape
  clear ha hb sa sb hB h
  have hbx := boxes2 w ta.f tb.f (.slice pa ta.items.length ca) (.slice pb tb.items.length cb)
  generalize pairB s.node s.gen true (decide (ta.f.kind = 6) && validT ta) (decide (tb.f.kind = 6) && validT tb) (idOf ta.f) (idOf tb.f) = ok at *
  generalize hx : idOf ta.f = x at *
  generalize hy : idOf tb.f = y at *
  clear hx hy
  generalize ta.items.length = na at *
  generalize tb.items.length = nb at *
  generalize ta.f = fa at *
  generalize tb.f = fb at *
  obtain ⟨hA, hBx, hb2, hs2⟩ := hbx
  obtain ⟨ak, ai, ag, an, af, aa, ab, az⟩ := fa
  obtain ⟨bk, bi, bg, bn, bf, ba, bb, bz⟩ := fb
  unfold PairP at HP
  unfold prV at HP
  unfold aggV at *
  unfold cells9 at *
  dsimp only at HP hA hBx hb2 hs2 ⊢
  have HA := Lib.hid hA
  have HBx := Lib.hid hBx
  have HB2 := Lib.hid hb2
  have HS2 := Lib.hid hs2
  clear hA hBx hb2 hs2
  unfold LeftP
  go_enter Tryz.func41, Tryz.ntmps41
  go_upto_region 1 with (fail)
  generalize ((w.alloc (.cells #[.int .i64 ak, .int .i64 ai, .int .i64 ag, .string an, .string af, .int .i64 aa, .slice pa na ca, .string ab, .int .i64 az] 30)).alloc (.cells #[.int .i64 bk, .int .i64 bi, .int .i64 bg, .string bn, .string bf, .int .i64 ba, .slice pb nb cb, .string bb, .int .i64 bz] 30)) = W1 at *
  obtain ⟨x0, x1', x2', x3', x4', x5', x6', x7', x8', xf⟩ := HA.out
  obtain ⟨y0, y1', y2', y3', y4', y5', y6', y7', y8', yf⟩ := HBx.out
  dsimp only at x0 x1' x2' x3' x4' x5' x6' x7' x8' y0 y1' y2' y3' y4' y5' y6' y7' y8'
  go_wp2_with fail
  refine (HP.out _ HB2.out).mono ?_
  rintro e W2 ⟨rfl, hb3⟩
  clear x0 x1' x2' x3' x4' x5' x6' x7' x8' xf y0 y1' y2' y3' y4' y5' y6' y7' y8' yf HP HA HBx
  have hbw := HB2.out.trans (hb3.mono HB2.out.size)
  clear hb3
  obtain ⟨x1, x2, x3, x4⟩ := x
  obtain ⟨y1, y2, y3, y4⟩ := y
  dsimp only
  cases ok
  · go_wp2_with fail
    go_ret
    exact ⟨rfl, H0.out.below (belowA hbw _ hbw.size), ((TouchB.refl _ _).ofBelow hbw (Nat.le_refl _)).alloc _⟩
  go_upto_region 4 with (fail)
  have hP := alloc_new W2 (.cells #[.int .i64 x1, .string x2, .int .i64 x3, .int .i64 x4, .int .i64 y1, .string y2, .int .i64 y3, .int .i64 y4] 149)
  have hb3 := belowA hbw (.cells #[.int .i64 x1, .string x2, .int .i64 x3, .int .i64 x4, .int .i64 y1, .string y2, .int .i64 y3, .int .i64 y4] 149) hbw.size
  have hzl : W2.heap.size < (W2.alloc (.cells #[.int .i64 x1, .string x2, .int .i64 x3, .int .i64 x4, .int .i64 y1, .string y2, .int .i64 y3, .int .i64 y4] 149)).heap.size := by rw [World.size_alloc]; omega
  have hzp := hbw.size
  clear hbw
  generalize (W2.alloc (.cells #[.int .i64 x1, .string x2, .int .i64 x3, .int .i64 x4, .int .i64 y1, .string y2, .int .i64 y3, .int .i64 y4] 149)) = W3 at *
  generalize W2.heap.size = zp at *
  have hne := mh_ne H0.out hzp
  have HS3 := Lib.hid (H0.out.below hb3)
  have HT3 : Hid (TouchB (LkS z mh mm) w W3) := Lib.hid (touch_of hb3)
  have HP3 := Lib.hid hP
  clear hb3 hP
  have HPa := Lib.hid (fun W (hW : Below W3.heap.size W3 W) => eight_cells ((hW.block _ hzl).trans HP3.out))
  obtain ⟨r0, r1, r2, r3, r4, r5, r6, r7, rf⟩ := HPa.out _ (Below.refl _ _)
  (try unfold prV at *)
  (try dsimp only at *)
  have HJ0 : Hid ((pFind s.H ((x1, x2, x3, x4), (y1, y2, y3, y4))).isSome = true → cameS s (x1, x2, x3, x4) (y1, y2, y3, y4) = s) := Lib.hid (fun h => by unfold cameS; rw [h]; rfl)
  have HJ1 : Hid ((pFind s.H ((x1, x2, x3, x4), (y1, y2, y3, y4))).isSome = false → cameS s (x1, x2, x3, x4) (y1, y2, y3, y4) = { s with H := pPut s.H ((x1, x2, x3, x4), (y1, y2, y3, y4)) 0 }) := Lib.hid (fun h => by unfold cameS; rw [h]; rfl)
  have hl := fun n => map82 (HS3.out.drewN n) ((x1, x2, x3, x4), (y1, y2, y3, y4))
  unfold prV at hl
  dsimp only at hl
  generalize (pFind s.H ((x1, x2, x3, x4), (y1, y2, y3, y4))).isSome = act at *
  generalize (pFind s.H ((x1, x2, x3, x4), (y1, y2, y3, y4))).getD 0 = q2 at *
  obtain ⟨c0, c1, c2, c3, c4, cf⟩ := five_cells HS3.out.obj
  go_quiet (fail)
  rename_i nq
  have hb4 := belowN (Below.refl W3.heap.size W3) nq
  clear hl r0 r1 r2 r3 r4 r5 r6 r7 rf c0 c1 c2 c3 c4 cf
  generalize W3.drewN nq = W4 at *
  cases act
  · go_upto_region 6 with (fail)
    obtain ⟨r0, r1, r2, r3, r4, r5, r6, r7, rf⟩ := HPa.out _ hb4
    obtain ⟨c0, c1, c2, c3, c4, cf⟩ := five_cells (HS3.out.below hb4).obj
    have hb5 := belowD hb4
    have HS4 := Lib.hid (HS3.out.below hb4)
    have HS5 := Lib.hid (HS3.out.below hb5)
    obtain ⟨W6, hrun6, h6, ht6, hs6⟩ := putH_run HS5.out ((x1, x2, x3, x4), (y1, y2, y3, y4)) 0
    unfold prV at hrun6
    dsimp only at hrun6
    have HS6 := Lib.hid h6
    have HT6 : Hid (TouchB (LkS z mh mm) w W6) := Lib.hid (touch_trans HT3.out (touch_trans (touch_of hb5) (touch_mh ht6)))
    clear h6 ht6 hs6 hb5
    go_still_tail 5, (by kernel_rfl)
    go_wp2_with fail
    go_ret
    exact ⟨rfl, by rw [HJ1.out (by simp)]; exact HS6.out, HT6.out⟩
  · go_wp2_with fail
    go_ret
    exact ⟨rfl, by rw [HJ0.out (by simp)]; exact HS3.out.below hb4, touch_trans HT3.out (touch_of hb4)⟩
end Go.Proofs.YtnakbepcalciiaaGreat.lk
/- Acked. Conditions: the object was made by New; the terms lie in memory. -/
namespace Go.Proofs.YtnakbepcalciiaaGreat.lk
open Go.RowKit mem rec tm names pm
set_option linter.unusedVariables false
set_option linter.unusedSimpArgs false
set_option maxHeartbeats 4000000
set_option maxRecDepth 100000
def ackB (s : LkSt) (p : Pr) (k : Int) : Bool := decide (0 < k) && ((pFind s.H p).getD 0 == k)
def ackS (s : LkSt) (x y : Id) (k : Int) : LkSt := if ackB s (x, y) k then { s with H := pDel s.H (x, y) } else s
theorem acked50 {n m : Nat} {w : World} {z mh mm : Nat} {s : LkSt} (h : LkAt w z mh mm s) (B : Nat) (va vb : Value) (ta : Tm (n + 1)) (tb : Tm (m + 1)) (hB : B ≤ w.heap.size) (ha : ItemsAt w B n va ta.items) (hb : ItemsAt w B m vb tb.items) (sa : 300 * (nodesT ta : Int) ≤ 1000000000000) (sb : 300 * (nodesT tb : Int) ≤ 1000000000000) (k : Int) :
    Calls Tryz.prog 50 #[.pointer (some ⟨z, 0, none⟩), aggV ta.f va, aggV tb.f vb, .int .i64 k] w (LeftP (pairB s.node s.gen true (decide (ta.f.kind = 6) && validT ta) (decide (tb.f.kind = 6) && validT tb) (idOf ta.f) (idOf tb.f)) s (ackS s (idOf ta.f) (idOf tb.f) k) z mh mm w) := by
  have HP := Lib.hid (fun W (hW : Below w.heap.size w W) => pair79 W ((hW.block z h.zlt).trans h.obj) B va vb ta tb true (Nat.le_trans hB hW.size) (ha.below hW hB) (hb.below hW hB) sa sb)
  have H0 := Lib.hid h
  obtain ⟨pa, ca, rfl, _, _⟩ := ha.shape
  obtain ⟨pb, cb, rfl, _, _⟩ := hb.shape
  clear ha hb sa sb hB h
  have hbx := boxes2 w ta.f tb.f (.slice pa ta.items.length ca) (.slice pb tb.items.length cb)
  generalize pairB s.node s.gen true (decide (ta.f.kind = 6) && validT ta) (decide (tb.f.kind = 6) && validT tb) (idOf ta.f) (idOf tb.f) = ok at *
  generalize hx : idOf ta.f = x at *
  generalize hy : idOf tb.f = y at *
  clear hx hy
  generalize ta.items.length = na at *
  generalize tb.items.length = nb at *
  generalize ta.f = fa at *
  generalize tb.f = fb at *
  obtain ⟨hA, hBx, hb2, hs2⟩ := hbx
  obtain ⟨ak, ai, ag, an, af, aa, ab, az⟩ := fa
  obtain ⟨bk, bi, bg, bn, bf, ba, bb, bz⟩ := fb
  unfold PairP at HP
  unfold prV at HP
  unfold aggV at *
  unfold cells9 at *
  dsimp only at HP hA hBx hb2 hs2 ⊢
  have HA := Lib.hid hA
  have HBx := Lib.hid hBx
  have HB2 := Lib.hid hb2
  have HS2 := Lib.hid hs2
  clear hA hBx hb2 hs2
  unfold LeftP
  go_enter Tryz.func50, Tryz.ntmps50
  go_upto_region 1 with (fail)
  generalize ((w.alloc (.cells #[.int .i64 ak, .int .i64 ai, .int .i64 ag, .string an, .string af, .int .i64 aa, .slice pa na ca, .string ab, .int .i64 az] 30)).alloc (.cells #[.int .i64 bk, .int .i64 bi, .int .i64 bg, .string bn, .string bf, .int .i64 ba, .slice pb nb cb, .string bb, .int .i64 bz] 30)) = W1 at *
  obtain ⟨x0, x1', x2', x3', x4', x5', x6', x7', x8', xf⟩ := HA.out
  obtain ⟨y0, y1', y2', y3', y4', y5', y6', y7', y8', yf⟩ := HBx.out
  dsimp only at x0 x1' x2' x3' x4' x5' x6' x7' x8' y0 y1' y2' y3' y4' y5' y6' y7' y8'
  go_wp2_with fail
  refine (HP.out _ HB2.out).mono ?_
  rintro e W2 ⟨rfl, hb3⟩
  clear x0 x1' x2' x3' x4' x5' x6' x7' x8' xf y0 y1' y2' y3' y4' y5' y6' y7' y8' yf HP HA HBx
  have hbw := HB2.out.trans (hb3.mono HB2.out.size)
  clear hb3
  obtain ⟨x1, x2, x3, x4⟩ := x
  obtain ⟨y1, y2, y3, y4⟩ := y
  dsimp only
  cases ok
  · go_wp2_with fail
    go_quiet (fail)
    go_wp2_with fail
    go_ret
    exact ⟨rfl, H0.out.below (belowN (belowA hbw _ hbw.size) _), (((TouchB.refl _ _).ofBelow hbw (Nat.le_refl _)).alloc _).drewN _⟩
  go_upto_region 2 with (fail)
  have hP := alloc_new W2 (.cells #[.int .i64 x1, .string x2, .int .i64 x3, .int .i64 x4, .int .i64 y1, .string y2, .int .i64 y3, .int .i64 y4] 149)
  have hb3 := belowA hbw (.cells #[.int .i64 x1, .string x2, .int .i64 x3, .int .i64 x4, .int .i64 y1, .string y2, .int .i64 y3, .int .i64 y4] 149) hbw.size
  have hzl : W2.heap.size < (W2.alloc (.cells #[.int .i64 x1, .string x2, .int .i64 x3, .int .i64 x4, .int .i64 y1, .string y2, .int .i64 y3, .int .i64 y4] 149)).heap.size := by rw [World.size_alloc]; omega
  have hzp := hbw.size
  clear hbw
  generalize (W2.alloc (.cells #[.int .i64 x1, .string x2, .int .i64 x3, .int .i64 x4, .int .i64 y1, .string y2, .int .i64 y3, .int .i64 y4] 149)) = W3 at *
  generalize W2.heap.size = zp at *
  have hne := mh_ne H0.out hzp
  have HS3 := Lib.hid (H0.out.below hb3)
  have HT3 : Hid (TouchB (LkS z mh mm) w W3) := Lib.hid (touch_of hb3)
  have HP3 := Lib.hid hP
  clear hb3 hP
  have HPa := Lib.hid (fun W (hW : Below W3.heap.size W3 W) => eight_cells ((hW.block _ hzl).trans HP3.out))
  obtain ⟨r0, r1, r2, r3, r4, r5, r6, r7, rf⟩ := HPa.out _ (Below.refl _ _)
  (try unfold prV at *)
  (try dsimp only at *)
  have HJ0 : Hid (ackB s ((x1, x2, x3, x4), (y1, y2, y3, y4)) k = false → ackS s (x1, x2, x3, x4) (y1, y2, y3, y4) k = s) := Lib.hid (fun h => by unfold ackS; rw [h]; rfl)
  have HJ1 : Hid (ackB s ((x1, x2, x3, x4), (y1, y2, y3, y4)) k = true → ackS s (x1, x2, x3, x4) (y1, y2, y3, y4) k = { s with H := pDel s.H ((x1, x2, x3, x4), (y1, y2, y3, y4)) }) := Lib.hid (fun h => by unfold ackS; rw [h]; rfl)
  have HAe : Hid (ackB s ((x1, x2, x3, x4), (y1, y2, y3, y4)) k = (decide (0 < k) && ((pFind s.H ((x1, x2, x3, x4), (y1, y2, y3, y4))).getD 0 == k))) := Lib.hid rfl
  have hl := fun n => map82n (HS3.out.drewN n) ((x1, x2, x3, x4), (y1, y2, y3, y4))
  unfold prV at hl
  dsimp only at hl
  generalize (pFind s.H ((x1, x2, x3, x4), (y1, y2, y3, y4))).getD 0 = q2 at *
  obtain ⟨c0, c1, c2, c3, c4, cf⟩ := five_cells HS3.out.obj
  by_cases h0 : 0 < k
  · have hd := decide_eq_true h0
    have HD := Lib.hid hd
    by_cases h1 : q2 = k
    · have he : (q2 == k) = true := by simp [h1]
      have HE := Lib.hid he
      clear h1
      go_quiet (fail)
      rename_i nq
      have hb4 := belowN (Below.refl W3.heap.size W3) nq
      clear hl r0 r1 r2 r3 r4 r5 r6 r7 rf c0 c1 c2 c3 c4 cf
      generalize W3.drewN nq = W4 at *
      go_upto_region 3 with (fail)
      obtain ⟨r0, r1, r2, r3, r4, r5, r6, r7, rf⟩ := HPa.out _ hb4
      obtain ⟨c0, c1, c2, c3, c4, cf⟩ := five_cells (HS3.out.below hb4).obj
      have hb5 := belowD hb4
      have HS5 := Lib.hid (HS3.out.below hb5)
      obtain ⟨W6, hrun6, h6, ht6, hs6⟩ := delH_run HS5.out ((x1, x2, x3, x4), (y1, y2, y3, y4))
      unfold prV at hrun6
      dsimp only at hrun6
      have HS6 := Lib.hid h6
      have HT6 : Hid (TouchB (LkS z mh mm) w W6) := Lib.hid (touch_trans HT3.out (touch_trans (touch_of hb5) (touch_mh ht6)))
      clear h6 ht6 hs6 hb5
      go_still_tail 5, (by kernel_rfl)
      go_wp2_with fail
      go_ret
      exact ⟨rfl, by rw [HJ1.out (by rw [HAe.out, HD.out, HE.out]; rfl)]; exact HS6.out, HT6.out⟩
    · have he : (q2 == k) = false := by simp [h1]
      have HE := Lib.hid he
      clear h1
      go_quiet (fail)
      rename_i nq
      have hb4 := belowN (Below.refl W3.heap.size W3) nq
      go_wp2_with fail
      go_ret
      exact ⟨rfl, by rw [HJ0.out (by rw [HAe.out, HD.out, HE.out]; rfl)]; exact HS3.out.below hb4, touch_trans HT3.out (touch_of hb4)⟩
  · have hd := decide_eq_false h0
    have HD := Lib.hid hd
    go_quiet (fail)
    rename_i nq
    have hb4 := belowN (Below.refl W3.heap.size W3) nq
    go_wp2_with fail
    go_ret
    exact ⟨rfl, by rw [HJ0.out (by rw [HAe.out, HD.out]; rfl)]; exact HS3.out.below hb4, touch_trans HT3.out (touch_of hb4)⟩
end Go.Proofs.YtnakbepcalciiaaGreat.lk
/- Part. Conditions: the object was made by New; the terms lie in memory. -/
namespace Go.Proofs.YtnakbepcalciiaaGreat.lk
open Go.RowKit mem rec tm names pm
set_option linter.unusedVariables false
set_option linter.unusedSimpArgs false
set_option maxHeartbeats 4000000
set_option maxRecDepth 100000
def partS (s : LkSt) (x y : Id) : LkSt := if locB s.node s.gen y then { s with H := pDel (pDel s.H (x, y)) (y, x) } else if actB s (x, y) then { s with last := s.last + 1, H := pPut s.H (x, y) (s.last + 1) } else s
def partN (s : LkSt) (x y : Id) : Int := if locB s.node s.gen y then 0 else if actB s (x, y) then s.last + 1 else 0
def partB (s : LkSt) (x y : Id) : Bool := !locB s.node s.gen y && actB s (x, y)
def PartP (ok : Bool) (k : Int) (snd : Bool) (s s' : LkSt) (z mh mm : Nat) (w : World) (e : Ending) (w' : World) : Prop := e = .returned (.tuple #[.int .i64 (if ok then k else 0), .bool (ok && snd), .int .i64 (if ok then 0 else 2)]) ∧ LkAt w' z mh mm (if ok then s' else s) ∧ TouchB (LkS z mh mm) w w'
theorem LkAt.setLast {w : World} {z mh mm : Nat} {s : LkSt} (h : LkAt w z mh mm s) (k : Int) : LkAt (w.setCell ⟨z, 2, none⟩ (.int .i64 k)) z mh mm { s with last := k } ∧ TouchB (fun i => i = z) w (w.setCell ⟨z, 2, none⟩ (.int .i64 k)) := by
  refine ⟨⟨?_, h.hm.same (Below.heap_setCell _ _ _ _ (fun e => h.zh e.symm)), h.mo.same (Below.heap_setCell _ _ _ _ (fun e => h.zm e.symm)), h.ne⟩, (TouchB.refl _ _).setCell _ _ (fun _ => rfl)⟩
  have := heap_setCell_same w z 2 _ 85 (.int .i64 k) h.obj
  exact this
theorem part18 {n m : Nat} {w : World} {z mh mm : Nat} {s : LkSt} (h : LkAt w z mh mm s) (B : Nat) (va vb : Value) (ta : Tm (n + 1)) (tb : Tm (m + 1)) (hB : B ≤ w.heap.size) (ha : ItemsAt w B n va ta.items) (hb : ItemsAt w B m vb tb.items) (sa : 300 * (nodesT ta : Int) ≤ 1000000000000) (sb : 300 * (nodesT tb : Int) ≤ 1000000000000) (hl0 : 0 ≤ s.last) (hl1 : s.last ≤ 1000000000000) :
    Calls Tryz.prog 18 #[.pointer (some ⟨z, 0, none⟩), aggV ta.f va, aggV tb.f vb] w (PartP (pairB s.node s.gen false (decide (ta.f.kind = 6) && validT ta) (decide (tb.f.kind = 6) && validT tb) (idOf ta.f) (idOf tb.f)) (partN s (idOf ta.f) (idOf tb.f)) (partB s (idOf ta.f) (idOf tb.f)) s (partS s (idOf ta.f) (idOf tb.f)) z mh mm w) := by
  have HP := Lib.hid (fun W (hW : Below w.heap.size w W) => pair79 W ((hW.block z h.zlt).trans h.obj) B va vb ta tb false (Nat.le_trans hB hW.size) (ha.below hW hB) (hb.below hW hB) sa sb)
  have H0 := Lib.hid h
  obtain ⟨pa, ca, rfl, _, _⟩ := ha.shape
  obtain ⟨pb, cb, rfl, _, _⟩ := hb.shape
  clear ha hb sa sb hB h
  have hbx := boxes2 w ta.f tb.f (.slice pa ta.items.length ca) (.slice pb tb.items.length cb)
  generalize pairB s.node s.gen false (decide (ta.f.kind = 6) && validT ta) (decide (tb.f.kind = 6) && validT tb) (idOf ta.f) (idOf tb.f) = ok at *
  generalize hx : idOf ta.f = x at *
  generalize hy : idOf tb.f = y at *
  clear hx hy
  generalize ta.items.length = na at *
  generalize tb.items.length = nb at *
  generalize ta.f = fa at *
  generalize tb.f = fb at *
  obtain ⟨hA, hBx, hb2, hs2⟩ := hbx
  obtain ⟨ak, ai, ag, an, af, aa, ab, az⟩ := fa
  obtain ⟨bk, bi, bg, bn, bf, ba, bb, bz⟩ := fb
  unfold PairP at HP
  unfold prV at HP
  unfold aggV at *
  unfold cells9 at *
  dsimp only at HP hA hBx hb2 hs2 ⊢
  have HA := Lib.hid hA
  have HBx := Lib.hid hBx
  have HB2 := Lib.hid hb2
  have HS2 := Lib.hid hs2
  clear hA hBx hb2 hs2
  unfold PartP
  go_enter Tryz.func18, Tryz.ntmps18
  go_upto_region 1 with (fail)
  generalize ((w.alloc (.cells #[.int .i64 ak, .int .i64 ai, .int .i64 ag, .string an, .string af, .int .i64 aa, .slice pa na ca, .string ab, .int .i64 az] 30)).alloc (.cells #[.int .i64 bk, .int .i64 bi, .int .i64 bg, .string bn, .string bf, .int .i64 ba, .slice pb nb cb, .string bb, .int .i64 bz] 30)) = W1 at *
  obtain ⟨x0, x1', x2', x3', x4', x5', x6', x7', x8', xf⟩ := HA.out
  obtain ⟨y0, y1', y2', y3', y4', y5', y6', y7', y8', yf⟩ := HBx.out
  dsimp only at x0 x1' x2' x3' x4' x5' x6' x7' x8' y0 y1' y2' y3' y4' y5' y6' y7' y8'
  go_wp2_with fail
  refine (HP.out _ HB2.out).mono ?_
  rintro e W2 ⟨rfl, hb3⟩
  clear x0 x1' x2' x3' x4' x5' x6' x7' x8' xf y0 y1' y2' y3' y4' y5' y6' y7' y8' yf HP HA HBx
  have hbw := HB2.out.trans (hb3.mono HB2.out.size)
  clear hb3
  obtain ⟨x1, x2, x3, x4⟩ := x
  obtain ⟨y1, y2, y3, y4⟩ := y
  dsimp only
  cases ok
  · go_wp2_with fail
    go_ret3
    exact ⟨rfl, H0.out.below (belowA hbw _ hbw.size), ((TouchB.refl _ _).ofBelow hbw (Nat.le_refl _)).alloc _⟩
  go_upto_region 4 with (fail)
  have hP := alloc_new W2 (.cells #[.int .i64 x1, .string x2, .int .i64 x3, .int .i64 x4, .int .i64 y1, .string y2, .int .i64 y3, .int .i64 y4] 149)
  have hb3 := belowA hbw (.cells #[.int .i64 x1, .string x2, .int .i64 x3, .int .i64 x4, .int .i64 y1, .string y2, .int .i64 y3, .int .i64 y4] 149) hbw.size
  have hzl : W2.heap.size < (W2.alloc (.cells #[.int .i64 x1, .string x2, .int .i64 x3, .int .i64 x4, .int .i64 y1, .string y2, .int .i64 y3, .int .i64 y4] 149)).heap.size := by rw [World.size_alloc]; omega
  have hzp := hbw.size
  clear hbw
  generalize (W2.alloc (.cells #[.int .i64 x1, .string x2, .int .i64 x3, .int .i64 x4, .int .i64 y1, .string y2, .int .i64 y3, .int .i64 y4] 149)) = W3 at *
  generalize W2.heap.size = zp at *
  have hne := mh_ne H0.out hzp
  have HS3 := Lib.hid (H0.out.below hb3)
  have HT3 : Hid (TouchB (LkS z mh mm) w W3) := Lib.hid (touch_of hb3)
  have HP3 := Lib.hid hP
  clear hb3 hP
  have HAc := Lib.hid (active81 HS3.out ((x1, x2, x3, x4), (y1, y2, y3, y4)))
  have HPa := Lib.hid (fun W (hW : Below W3.heap.size W3 W) => eight_cells ((hW.block _ hzl).trans HP3.out))
  obtain ⟨r0, r1, r2, r3, r4, r5, r6, r7, rf⟩ := HPa.out _ (Below.refl _ _)
  (try unfold prV at *)
  (try dsimp only at *)
  have HLo := Lib.hid (fun W (hW : Below W3.heap.size W3 W) => local80 ((hW.block z HS3.out.zlt).trans HS3.out.obj) (y1, y2, y3, y4))
  have HAcg := Lib.hid (fun W (hW : LkAt W z mh mm s) => active81 hW ((x1, x2, x3, x4), (y1, y2, y3, y4)))
  unfold idV at HLo
  unfold prV at HAcg
  dsimp only at HLo HAcg
  have HJ0 : Hid (locB s.node s.gen (y1, y2, y3, y4) = true → partS s (x1, x2, x3, x4) (y1, y2, y3, y4) = { s with H := pDel (pDel s.H ((x1, x2, x3, x4), (y1, y2, y3, y4))) ((y1, y2, y3, y4), (x1, x2, x3, x4)) } ∧ partN s (x1, x2, x3, x4) (y1, y2, y3, y4) = 0 ∧ partB s (x1, x2, x3, x4) (y1, y2, y3, y4) = false) := Lib.hid (fun h => by unfold partS partN partB; rw [h]; exact ⟨rfl, rfl, rfl⟩)
  have HJ1 : Hid (locB s.node s.gen (y1, y2, y3, y4) = false → actB s ((x1, x2, x3, x4), (y1, y2, y3, y4)) = false → partS s (x1, x2, x3, x4) (y1, y2, y3, y4) = s ∧ partN s (x1, x2, x3, x4) (y1, y2, y3, y4) = 0 ∧ partB s (x1, x2, x3, x4) (y1, y2, y3, y4) = false) := Lib.hid (fun h h' => by unfold partS partN partB; rw [h, h']; exact ⟨rfl, rfl, rfl⟩)
  have HJ2 : Hid (locB s.node s.gen (y1, y2, y3, y4) = false → actB s ((x1, x2, x3, x4), (y1, y2, y3, y4)) = true → partS s (x1, x2, x3, x4) (y1, y2, y3, y4) = { s with last := s.last + 1, H := pPut s.H ((x1, x2, x3, x4), (y1, y2, y3, y4)) (s.last + 1) } ∧ partN s (x1, x2, x3, x4) (y1, y2, y3, y4) = s.last + 1 ∧ partB s (x1, x2, x3, x4) (y1, y2, y3, y4) = true) := Lib.hid (fun h h' => by unfold partS partN partB; rw [h, h']; exact ⟨rfl, rfl, rfl⟩)
  generalize actB s ((x1, x2, x3, x4), (y1, y2, y3, y4)) = act at *
  generalize locB s.node s.gen (y1, y2, y3, y4) = ly at *
  go_wp2_with fail
  refine (HLo.out _ (Below.refl _ _)).mono ?_
  rintro e W4 ⟨rfl, hb4⟩
  clear r0 r1 r2 r3 r4 r5 r6 r7 rf HLo
  cases ly
  · go_upto_region 8 with (fail)
    obtain ⟨r0, r1, r2, r3, r4, r5, r6, r7, rf⟩ := HPa.out _ hb4
    have HS4 := Lib.hid (HS3.out.below hb4)
    go_wp2_with fail
    refine (HAcg.out _ HS4.out).mono ?_
    rintro e W5 ⟨rfl, hb5⟩
    clear r0 r1 r2 r3 r4 r5 r6 r7 rf
    have HS5 := Lib.hid (HS4.out.below hb5)
    have hb6 := hb4.trans (hb5.mono hb4.size)
    clear hb4 hb5
    cases act
    · go_wp2_with fail
      go_ret3
      exact ⟨by rw [(HJ1.out (by simp) (by simp)).2.1, (HJ1.out (by simp) (by simp)).2.2]; rfl, by rw [(HJ1.out (by simp) (by simp)).1]; exact HS5.out, touch_trans HT3.out (touch_of hb6)⟩
    · obtain ⟨c0, c1, c2, c3, c4, cf⟩ := five_cells HS5.out.obj
      go_upto_region 11 with (fail)
      obtain ⟨h7, ht7⟩ := HS5.out.setLast (s.last + 1)
      have HP7 := Lib.hid ((ht7.block zp (Nat.lt_of_lt_of_le hzl hb6.size) (z_ne H0.out hzp)).trans ((hb6.block _ hzl).trans HP3.out))
      have HT7 := Lib.hid (touch_trans HT3.out (touch_trans (touch_of hb6) (touch_z ht7)))
      have HS7 := Lib.hid h7
      have HS8 := Lib.hid (h7.below (belowD (Below.refl _ _)))
      clear hb6 h7 ht7 HS5 c0 c1 c2 c3 c4 cf HPa
      generalize (W5.setCell ⟨z, 2, none⟩ (.int .i64 (s.last + 1))) = W7 at *
      obtain ⟨W9, hrun9, h9, ht9, hs9⟩ := putH_run HS8.out ((x1, x2, x3, x4), (y1, y2, y3, y4)) (s.last + 1)
      obtain ⟨c0, c1, c2, c3, c4, cf⟩ := five_cells HS7.out.obj
      obtain ⟨r0, r1, r2, r3, r4, r5, r6, r7, rf⟩ := eight_cells HP7.out
      unfold prV at hrun9
      dsimp only at hrun9 c2
      have HS9 := Lib.hid h9
      have HT9 : Hid (TouchB (LkS z mh mm) w W9) := Lib.hid (touch_trans HT7.out (touch_trans (touch_of (belowD (Below.refl _ _))) (touch_mh ht9)))
      clear h9 ht9 hs9
      go_still_tail 9, (by kernel_rfl)
      go_upto_region 12 with (fail)
      obtain ⟨d0, d1, d2, d3, d4, df⟩ := five_cells HS9.out.obj
      dsimp only at d2
      go_wp2_with fail
      go_ret3
      exact ⟨by rw [(HJ2.out (by simp) (by simp)).2.1, (HJ2.out (by simp) (by simp)).2.2]; rfl, by rw [(HJ2.out (by simp) (by simp)).1]; exact HS9.out, HT9.out⟩
  · go_upto_region 5 with (fail)
    have HS4 := Lib.hid (HS3.out.below hb4)
    have HP4 := Lib.hid ((hb4.block _ hzl).trans HP3.out)
    have HT4 : Hid (TouchB (LkS z mh mm) w W4) := Lib.hid (touch_trans HT3.out (touch_of hb4))
    have hl4 := hb4.size
    clear hb4 HPa
    have HS5 := Lib.hid (HS4.out.below (belowD (Below.refl _ _)))
    obtain ⟨W6, hrun6, h6, ht6, hs6⟩ := delH_run HS5.out ((x1, x2, x3, x4), (y1, y2, y3, y4))
    obtain ⟨c0, c1, c2, c3, c4, cf⟩ := five_cells HS4.out.obj
    obtain ⟨r0, r1, r2, r3, r4, r5, r6, r7, rf⟩ := eight_cells HP4.out
    unfold prV at hrun6
    dsimp only at hrun6
    have HP6 := Lib.hid ((ht6.block zp (Nat.lt_of_lt_of_le hzl hl4) hne).trans HP4.out)
    have HS6 := Lib.hid h6
    have HT6 : Hid (TouchB (LkS z mh mm) w W6) := Lib.hid (touch_trans HT4.out (touch_trans (touch_of (belowD (Below.refl _ _))) (touch_mh ht6)))
    clear h6 ht6 hs6
    go_still_tail 5, (by kernel_rfl)
    go_upto_region 6 with (fail)
    clear hrun6 c0 c1 c2 c3 c4 cf r0 r1 r2 r3 r4 r5 r6 r7 rf HS4 HS5 HP4
    have HS7 := Lib.hid (HS6.out.below (belowD (Below.refl _ _)))
    obtain ⟨W8, hrun8, h8, ht8, hs8⟩ := delH_run HS7.out ((y1, y2, y3, y4), (x1, x2, x3, x4))
    obtain ⟨c0, c1, c2, c3, c4, cf⟩ := five_cells HS6.out.obj
    obtain ⟨r0, r1, r2, r3, r4, r5, r6, r7, rf⟩ := eight_cells HP6.out
    unfold prV at hrun8
    dsimp only at hrun8
    have HS8 := Lib.hid h8
    have HT8 : Hid (TouchB (LkS z mh mm) w W8) := Lib.hid (touch_trans HT6.out (touch_trans (touch_of (belowD (Below.refl _ _))) (touch_mh ht8)))
    clear h8 ht8 hs8
    go_still_tail 9, (by kernel_rfl)
    go_wp2_with fail
    go_ret3
    exact ⟨by rw [(HJ0.out (by simp)).2.1, (HJ0.out (by simp)).2.2]; rfl, by rw [(HJ0.out (by simp)).1]; exact HS8.out, HT8.out⟩
end Go.Proofs.YtnakbepcalciiaaGreat.lk
/- sorted: the pairs that a test selects, in order. Conditions: the object was made by New; the test only makes memory. -/
namespace Go.Proofs.YtnakbepcalciiaaGreat.lk
open Go.RowKit mem rec tm names pm
set_option linter.unusedVariables false
set_option linter.unusedSimpArgs false
set_option maxHeartbeats 4000000
set_option maxRecDepth 100000
theorem cmp154 (p q : Pr) (w : World) : Calls Tryz.prog 154 #[.agg (prL p).toArray, .agg (prL q).toArray] w fun e w' => e = .returned (.int .i64 (cmP p q)) ∧ Below w.heap.size w w' := by
  obtain ⟨⟨x1, x2, x3, x4⟩, ⟨y1, y2, y3, y4⟩⟩ := p
  obtain ⟨⟨u1, u2, u3, u4⟩, ⟨v1, v2, v3, v4⟩⟩ := q
  have H1 := Lib.hid (fun W => byTerm150 (x1, x2, x3, x4) (u1, u2, u3, u4) W)
  have H2 := Lib.hid (fun W => byTerm150 (y1, y2, y3, y4) (v1, v2, v3, v4) W)
  have hx := alloc_new w (.cells #[.int .i64 x1, .string x2, .int .i64 x3, .int .i64 x4, .int .i64 y1, .string y2, .int .i64 y3, .int .i64 y4] 149)
  have hb := belowA (Below.refl w.heap.size w) (.cells #[.int .i64 x1, .string x2, .int .i64 x3, .int .i64 x4, .int .i64 y1, .string y2, .int .i64 y3, .int .i64 y4] 149) (Nat.le_refl _)
  have hl : w.heap.size < (w.alloc (.cells #[.int .i64 x1, .string x2, .int .i64 x3, .int .i64 x4, .int .i64 y1, .string y2, .int .i64 y3, .int .i64 y4] 149)).heap.size := by rw [World.size_alloc]; omega
  obtain ⟨r, hr⟩ : ∃ r, cmP ((x1, x2, x3, x4), (y1, y2, y3, y4)) ((u1, u2, u3, u4), (v1, v2, v3, v4)) = r := ⟨_, rfl⟩
  have HR0 : Hid (cmI (x1, x2, x3, x4) (u1, u2, u3, u4) = 0 → cmI (y1, y2, y3, y4) (v1, v2, v3, v4) = r) := Lib.hid (fun h => by rw [← hr]; unfold cmP thenC; rw [if_pos h])
  have HR1 : Hid (¬ cmI (x1, x2, x3, x4) (u1, u2, u3, u4) = 0 → cmI (x1, x2, x3, x4) (u1, u2, u3, u4) = r) := Lib.hid (fun h => by rw [← hr]; unfold cmP thenC; rw [if_neg h])
  rw [hr]
  clear hr
  unfold IPostC idV at H1 H2
  dsimp only at H1 H2
  change Calls Tryz.prog 154 #[.agg #[.int .i64 x1, .string x2, .int .i64 x3, .int .i64 x4, .int .i64 y1, .string y2, .int .i64 y3, .int .i64 y4], .agg #[.int .i64 u1, .string u2, .int .i64 u3, .int .i64 u4, .int .i64 v1, .string v2, .int .i64 v3, .int .i64 v4]] w _
  generalize cmI (x1, x2, x3, x4) (u1, u2, u3, u4) = c1 at *
  generalize cmI (y1, y2, y3, y4) (v1, v2, v3, v4) = c2 at *
  have hb2 := belowA hb (.cells #[.int .i64 u1, .string u2, .int .i64 u3, .int .i64 u4, .int .i64 v1, .string v2, .int .i64 v3, .int .i64 v4] 149) hb.size
  have hy := alloc_new (w.alloc (.cells #[.int .i64 x1, .string x2, .int .i64 x3, .int .i64 x4, .int .i64 y1, .string y2, .int .i64 y3, .int .i64 y4] 149)) (.cells #[.int .i64 u1, .string u2, .int .i64 u3, .int .i64 u4, .int .i64 v1, .string v2, .int .i64 v3, .int .i64 v4] 149)
  rw [World.size_alloc] at hy
  have hx2 := (Below.heap_alloc (w.alloc (.cells #[.int .i64 x1, .string x2, .int .i64 x3, .int .i64 x4, .int .i64 y1, .string y2, .int .i64 y3, .int .i64 y4] 149)) (.cells #[.int .i64 u1, .string u2, .int .i64 u3, .int .i64 u4, .int .i64 v1, .string v2, .int .i64 v3, .int .i64 v4] 149) w.heap.size hl).trans hx
  have hs2 : ((w.alloc (.cells #[.int .i64 x1, .string x2, .int .i64 x3, .int .i64 x4, .int .i64 y1, .string y2, .int .i64 y3, .int .i64 y4] 149)).alloc (.cells #[.int .i64 u1, .string u2, .int .i64 u3, .int .i64 u4, .int .i64 v1, .string v2, .int .i64 v3, .int .i64 v4] 149)).heap.size = w.heap.size + 2 := by rw [World.size_alloc, World.size_alloc]
  have HX := Lib.hid hx2
  have HY := Lib.hid hy
  have HB := Lib.hid hb2
  have HS := Lib.hid hs2
  clear hx hx2 hy hb hb2 hl hs2
  go_enter Tryz.func154, Tryz.ntmps154
  go_upto_region 1 with (fail)
  generalize ((w.alloc (.cells #[.int .i64 x1, .string x2, .int .i64 x3, .int .i64 x4, .int .i64 y1, .string y2, .int .i64 y3, .int .i64 y4] 149)).alloc (.cells #[.int .i64 u1, .string u2, .int .i64 u3, .int .i64 u4, .int .i64 v1, .string v2, .int .i64 v3, .int .i64 v4] 149)) = W2 at *
  have HXa := Lib.hid (fun W (hW : Below W2.heap.size W2 W) => eight_cells ((hW.block _ (show w.heap.size < W2.heap.size by rw [HS.out]; omega)).trans HX.out))
  have HYa := Lib.hid (fun W (hW : Below W2.heap.size W2 W) => eight_cells ((hW.block _ (show w.heap.size + 1 < W2.heap.size by rw [HS.out]; omega)).trans HY.out))
  obtain ⟨a0, a1, a2, a3, a4, a5, a6, a7, af⟩ := HXa.out _ (Below.refl _ _)
  obtain ⟨b0, b1, b2, b3, b4, b5, b6, b7, bf⟩ := HYa.out _ (Below.refl _ _)
  go_wp2_with fail
  refine (H1.out _).mono ?_
  rintro e W3 ⟨rfl, hb3⟩
  clear a0 a1 a2 a3 a4 a5 a6 a7 af b0 b1 b2 b3 b4 b5 b6 b7 bf
  by_cases hc : c1 = 0
  · have hq : (c1 != 0) = false := by simp [hc]
    have HR := Lib.hid (HR0.out hc)
    clear hc HR0 HR1
    obtain ⟨a0, a1, a2, a3, a4, a5, a6, a7, af⟩ := HXa.out _ hb3
    obtain ⟨b0, b1, b2, b3, b4, b5, b6, b7, bf⟩ := HYa.out _ hb3
    go_wp2_with fail
    refine (H2.out _).mono ?_
    rintro e W4 ⟨rfl, hb4⟩
    go_wp2_with fail
    go_ret
    exact ⟨by rw [← HR.out]; rfl, HB.out.trans ((hb3.trans (hb4.mono hb3.size)).mono HB.out.size)⟩
  · have hq : (c1 != 0) = true := by simp [hc]
    have HR := Lib.hid (HR1.out hc)
    clear hc HR0 HR1
    go_wp2_with fail
    go_ret
    exact ⟨by rw [← HR.out]; rfl, HB.out.trans (hb3.mono HB.out.size)⟩
end Go.Proofs.YtnakbepcalciiaaGreat.lk
/- sorted: the pairs that a test selects, in order. Conditions: the object was made by New; the test only makes memory. -/
namespace Go.Proofs.YtnakbepcalciiaaGreat.lk
open Go.RowKit mem rec tm names pm
set_option linter.unusedVariables false
set_option linter.unusedSimpArgs false
set_option maxHeartbeats 4000000
set_option maxRecDepth 100000
theorem elty_of {sl e s b : Nat} {z : Value} (hu : Tryz.prog.underlying sl = some (.slice e)) (hi : (Tryz.prog.info? e).map (fun i => (i.zero, i.size, i.bytes)) = some (some z, s, b)) (hz : z.cells.size = s) (hb : b ≤ 10000) (hs : 0 < s) : ElTy sl e s := by
  cases hx : Tryz.prog.info? e with
  | none => rw [hx] at hi; simp at hi
  | some i =>
    rw [hx] at hi
    simp only [Option.map_some, Option.some.injEq, Prod.mk.injEq] at hi
    obtain ⟨h1, h2, h3⟩ := hi
    exact ⟨hu, ⟨i, z, hx, h1, h2, hz, by omega⟩, hs⟩
theorem info149 : (Tryz.prog.info? 149).map (fun i => (i.zero, i.size, i.bytes)) = some (some (.agg #[.int .i64 0, .string ⟨#[]⟩, .int .i64 0, .int .i64 0, .int .i64 0, .string ⟨#[]⟩, .int .i64 0, .int .i64 0]), 8, 80) := by kernel_rfl
theorem el149 : ElTy 154 149 8 := elty_of Tryz.underlying154 info149 rfl (by decide) (by decide)
theorem keys_vals {κ β : Type} (f : β → Value) (l : List (κ × β)) : (vals f l).map (·.1) = keys l := by simp [vals, keys, Function.comp_def]
def SrtI (w : World) (mh r : Nat) (H : List (Pr × Int)) (T : Pr → Bool) (n : Nat) (out : Value) (wr : World) : Prop :=
  ∃ (left : List (Pr × Value)) (L : List Pr), left.length = n ∧ RangeR prV wr mh r (vals (Value.int .i64) H) left ∧ RecOwn prL 149 8 wr (w.heap.size + 1) out L ∧ (L ++ (left.map (·.1)).filter T).Perm ((keys H).filter T) ∧ Below w.heap.size w wr ∧ L.length + n ≤ H.length
def SortedP (T : Pr → Bool) (H : List (Pr × Int)) (w : World) (e : Ending) (w' : World) : Prop :=
  ∃ v L, e = .returned v ∧ L.Perm ((keys H).filter T) ∧ L.Pairwise (fun x y => cmP x y ≤ 0) ∧ RecAt prL 8 w' w'.heap.size v L ∧ (∀ i, v.ownBlock = some i → w.heap.size ≤ i) ∧ Below w.heap.size w w'
theorem sorted94 {w : World} {z mh mm : Nat} {s : LkSt} (h : LkAt w z mh mm s) (hlen : s.H.length ≤ 100000000) {g : Nat} {cb : Array Value} {T : Pr → Bool} (eg : ∀ args w, (callFunc g args).run Tryz.prog w = .ok (.enter g args) w) (HT : ∀ W p, Below w.heap.size w W → Calls Tryz.prog g (#[prV p] ++ cb) W fun e w' => e = .returned (.bool (T p)) ∧ Below W.heap.size W w') :
    Calls Tryz.prog 94 #[.pointer (some ⟨z, 0, none⟩), .func (.func g) #[] cb] w (SortedP T s.H w) := by
  have HT := Lib.hid HT
  have H0 := Lib.hid h
  have HM := Lib.hid h.hm
  have hmr : w.heap.size ≠ mh := fun e => by have := h.hlt; omega
  have HLn := Lib.hid hlen
  obtain ⟨c0, c1, c2, c3, c4, cf⟩ := five_cells h.obj
  have hml := h.hlt
  clear h hlen
  go_enter Tryz.func94, Tryz.ntmps94
  go_wp2_with (refine wpList_range_r _ rfl _ 82 rfl Tryz.underlying82 mh (vals (Value.int .i64) s.H) rfl HM.out ?_)
  intro w1 hr1 hg1 hs1
  have hb1 : Below w.heap.size w w1 := (Below.refl _ _).grown hg1 (Nat.le_refl _) (by simp)
  have HST : Hid (SrtI w mh w.heap.size s.H T s.H.length (.slice none 0 0) w1) := Lib.hid ⟨vals (Value.int .i64) s.H, [], by simp [vals], hr1, RecOwn.nil _ _ _, by rw [keys_vals]; exact List.Perm.refl _, hb1, by simp⟩
  clear hr1 hg1 hs1 hb1 c0 c1 c2 c3 c4 cf
  go_wp2_with fail
  go_loopg [5] s.H.length (fun n out wr => Hid (SrtI w mh w.heap.size s.H T n out wr))
  case atStart => exact HST
  case round =>
    obtain ⟨left, L, hn, hrg, hown, hpm, hbw, hll⟩ := hrel.out
    clear hrel HST
    go_wp2_with (refine wpList_next_r _ rfl _ rfl mh w.heap.size hmr _ left rfl hrg ?_ ?_)
    · intro hl0
      subst hl0
      have hb2 : Below w.heap.size w wr := hbw
      have hP2 : L.Perm ((keys s.H).filter T) := by simpa using hpm
      have hlen : L.length ≤ 1000000000 := by have := HLn.out; omega
      have HB2 := Lib.hid hb2
      have HP2 := Lib.hid hP2
      have hE : EncOK prL 8 L := fun a _ => ⟨prL_len a, prL_one a⟩
      clear hpm hrg hbw hb2 hP2 hll
      by_cases hv : u5 = .slice none 0 0
      · subst hv
        obtain ⟨p', c', e', _⟩ := hown.shape
        simp only [Value.slice.injEq] at e'
        obtain rfl := List.eq_nil_of_length_eq_zero e'.2.1.symm
        clear hown e' hE hn hlen
        go_wp2_with fail
        refine (sort0P _ _ _ _).mono ?_
        rintro e w2 ⟨rfl, rfl⟩
        go_wp2_with fail
        go_ret
        exact ⟨_, [], rfl, HP2.out, List.Pairwise.nil, RecAt.nil _ _ _ _ (Nat.zero_le _), fun i hi => by simp [Value.ownBlock] at hi, HB2.out⟩
      · have HO : Hid (∀ i, u5.ownBlock = some i → w.heap.size ≤ i) := Lib.hid (fun i hi => by have := (hown.lt hi).1; omega)
        have HS := Lib.hid (sortRec (ρ := Tryz.srtP_ren) Tryz.srtP (by decide) (fun w => Tryz.isAgg149 w) (fun w => Tryz.sizeOf149 w) prL_len prL_one tpPr (enters_of Tryz.func154 (by kernel_rfl) rfl) (fun W x y => cmp154 x y W) hown hv hlen)
        have hS := HS.out
        change Calls Tryz.prog 153 _ _ _ at hS
        have HS2 := Lib.hid hS
        clear hS HS hown hv hE hn hlen
        go_wp2_with fail
        refine HS2.out.mono ?_
        rintro e w2 ⟨rfl, l', hp, hs, hr, ht⟩
        have HR := Lib.hid hr
        have HQ := Lib.hid hs
        have HP := Lib.hid (hp.trans HP2.out)
        have HBf : Hid (Below w.heap.size w w2) := Lib.hid (HB2.out.trans (ht.below (fun k hk => HO.out k hk) HB2.out.size))
        clear hp hs hr ht HS2
        go_wp2_with fail
        go_ret
        exact ⟨_, l', rfl, HP.out, HQ.out, HR.out, HO.out, HBf.out⟩
    · intro L1 x1 x2 x3 x4 y1 y2 y3 y4 v L2 w2 hl hrg2 hgr hsz hen
      subst hl
      unfold prV at hen
      dsimp only at hen
      have hb2 : Below w.heap.size w w2 := hbw.grown hgr hbw.size (by intro k hk; simp at hk; omega)
      have hown2 : RecOwn prL 149 8 w2 (w.heap.size + 1) u5 L := hown.same (fun k hk => hgr.block k (by have := (hown.lt hk).2; exact this) (fun e => by have := (hown.lt hk).1; simp at e; omega))
      have HSz := Lib.hid hsz
      clear hsz hown hgr hbw hrg
      go_upto_region 5 with (fail)
      clear hen
      have hX := alloc_new w2 (.cells #[.int .i64 x1, .string x2, .int .i64 x3, .int .i64 x4, .int .i64 y1, .string y2, .int .i64 y3, .int .i64 y4] 149)
      have hbA := belowA (Below.refl w2.heap.size w2) (.cells #[.int .i64 x1, .string x2, .int .i64 x3, .int .i64 x4, .int .i64 y1, .string y2, .int .i64 y3, .int .i64 y4] 149) (Nat.le_refl _)
      have hlA : w2.heap.size < (w2.alloc (.cells #[.int .i64 x1, .string x2, .int .i64 x3, .int .i64 x4, .int .i64 y1, .string y2, .int .i64 y3, .int .i64 y4] 149)).heap.size := by rw [World.size_alloc]; omega
      generalize (w2.alloc (.cells #[.int .i64 x1, .string x2, .int .i64 x3, .int .i64 x4, .int .i64 y1, .string y2, .int .i64 y3, .int .i64 y4] 149)) = W3 at *
      have hown3 := hown2.below hbA
      have hrg3 := hrg2.same (hbA.block _ hrg2.map.lt) (hbA.block _ hrg2.lt)
      have hb3 := hb2.trans (hbA.mono hb2.size)
      have hT := HT.out W3 ((x1, x2, x3, x4), (y1, y2, y3, y4)) hb3
      obtain ⟨tk, htk⟩ : ∃ b, T ((x1, x2, x3, x4), (y1, y2, y3, y4)) = b := ⟨_, rfl⟩
      rw [htk] at hT
      unfold prV at hT
      dsimp only at hT
      have hT3 := Lib.hid hT
      have HTk := Lib.hid htk
      clear hT htk
      have HXa := Lib.hid (fun W (hW : Below W3.heap.size W3 W) => eight_cells ((hW.block _ hlA).trans hX))
      clear hown2 hrg2 hbA hX hb2
      generalize w2.heap.size = zb at *
      obtain ⟨r0, r1, r2, r3, r4, r5, r6, r7, rf⟩ := HXa.out _ (Below.refl _ _)
      have HN := Lib.hid hn
      have HPm := Lib.hid hpm
      have HLl := Lib.hid hll
      clear hn hpm hll
      go_wp2_with fail
      refine hT3.out.mono ?_
      rintro e W4 ⟨rfl, hb4⟩
      clear r0 r1 r2 r3 r4 r5 r6 r7 rf hT3
      have hown4 := hown3.below hb4
      have hrg4 := hrg3.same (hb4.block _ hrg3.map.lt) (hb4.block _ hrg3.lt)
      have hbw4 := hb3.trans (hb4.mono hb3.size)
      cases tk
      · go_wp2_with fail
        go_roundg (L1 ++ L2).length
        case measure => have := HN.out; simp at this ⊢; omega
        case rel =>
          refine Lib.hid ⟨L1 ++ L2, L, rfl, hrg4, hown4, ?_, hbw4, ?_⟩
          · have := HPm.out
            simpa [HTk.out] using this
          · have := HLl.out; have := HN.out; simp at this ⊢; omega
      · obtain ⟨r0, r1, r2, r3, r4, r5, r6, r7, rf⟩ := HXa.out _ hb4
        have hX5 := alloc_new W4 (.cells #[.int .i64 x1, .string x2, .int .i64 x3, .int .i64 x4, .int .i64 y1, .string y2, .int .i64 y3, .int .i64 y4] 149)
        have hb5 := belowA (Below.refl W4.heap.size W4) (.cells #[.int .i64 x1, .string x2, .int .i64 x3, .int .i64 x4, .int .i64 y1, .string y2, .int .i64 y3, .int .i64 y4] 149) (Nat.le_refl _)
        have hE : EncOK prL 8 [((x1, x2, x3, x4), (y1, y2, y3, y4))] := fun a _ => ⟨prL_len a, prL_one a⟩
        have HR5 := Lib.hid (RecAt.fresh (l := [((x1, x2, x3, x4), (y1, y2, y3, y4))]) (c := 1) hE (by decide) hX5 (Nat.le_refl _) (by decide))
        have HO5 := Lib.hid (hown4.below hb5)
        have HG5 := Lib.hid (hrg4.same (hb5.block _ hrg4.map.lt) (hb5.block _ hrg4.lt))
        have HB5 := Lib.hid (hbw4.trans (hb5.mono hbw4.size))
        have HLe : Hid (L.length + 1 ≤ 1000000000) := Lib.hid (by have := HLl.out; have := HLn.out; omega)
        have HSw : Hid (w.heap.size + 1 ≤ (W4.alloc (.cells #[.int .i64 x1, .string x2, .int .i64 x3, .int .i64 x4, .int .i64 y1, .string y2, .int .i64 y3, .int .i64 y4] 149)).heap.size) := Lib.hid (by have := hrg4.lt; have := hb5.size; omega)
        clear hX5 hown4 hrg4 hb5 hown3 hrg3 hbw4
        go_wp2_with (refine wpList_append_rec el149 rfl (.tmp 19) (.tmp 21) rfl rfl HO5.out HSw.out rfl HR5.out hE HLe.out ?_)
        intro v' W6 hA
        have hno : ∀ k, k ≤ w.heap.size → u5.ownBlock ≠ some k := fun k hk e => by have := (HO5.out.lt e).1; omega
        have hG6 := HG5.out.same (hA.other HG5.out.map.lt (hno mh (Nat.le_of_lt hml))) (hA.other HG5.out.lt (hno _ (Nat.le_refl _)))
        have hB6 := HB5.out.grown hA.grown HB5.out.size (fun k hk => by have := (HO5.out.lt hk).1; omega)
        have HG6 := Lib.hid hG6
        have HB6 := Lib.hid hB6
        have HO6 := Lib.hid hA.own
        clear hA hno hG6 hB6 HR5 HO5 HG5 HB5
        go_wp2_with fail
        go_roundg (L1 ++ L2).length
        case measure => have := HN.out; simp at this ⊢; omega
        case rel =>
          refine Lib.hid ⟨L1 ++ L2, L ++ [((x1, x2, x3, x4), (y1, y2, y3, y4))], rfl, HG6.out, HO6.out, ?_, HB6.out, ?_⟩
          · have hp := HPm.out
            rw [List.map_append, List.map_cons, List.filter_append, List.filter_cons, if_pos (by exact HTk.out)] at hp
            rw [List.map_append, List.filter_append]
            refine List.Perm.trans ?_ hp
            rw [List.append_assoc]
            refine List.Perm.append_left L ?_
            exact (List.perm_middle (l₁ := (L1.map (·.1)).filter T)).symm
          · have := HLl.out; have := HN.out; simp at this ⊢; omega
end Go.Proofs.YtnakbepcalciiaaGreat.lk
