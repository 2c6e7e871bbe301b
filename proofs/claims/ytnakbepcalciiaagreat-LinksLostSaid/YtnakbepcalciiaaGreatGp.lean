/- Several texts in one, one behind the other: LkG. No condition beyond theirs. -/
import Derived.Test.YtnakbepcalciiaaGreatGo
import Derived.StillTailTactics
/- Join. Conditions: the object was made by New; the terms lie in memory. -/
namespace Go.Proofs.YtnakbepcalciiaaGreat.lk
open Go.RowKit mem rec tm names pm
set_option linter.unusedVariables false
set_option linter.unusedSimpArgs false
set_option maxHeartbeats 4000000
set_option maxRecDepth 100000
def joinS (s : LkSt) (x y : Id) : LkSt := if locB s.node s.gen y then { s with H := pPut (pPut s.H (x, y) 0) (y, x) 0 } else { s with H := pPut s.H (x, y) 0 }
def sendB (s : LkSt) (x y : Id) : Bool := !actB s (x, y) && !locB s.node s.gen y
def JoinP (ok : Bool) (s s' : LkSt) (snd : Bool) (z mh mm : Nat) (w : World) (e : Ending) (w' : World) : Prop := e = .returned (.tuple #[.bool (ok && snd), .int .i64 (if ok then 0 else 2)]) ∧ LkAt w' z mh mm (if ok then s' else s) ∧ TouchB (LkS z mh mm) w w'
theorem touch_of {S : Nat → Prop} {w w' : World} (h : Below w.heap.size w w') : TouchB S w w' := (TouchB.refl _ _).ofBelow h (Nat.le_refl _)
theorem touch_trans {S : Nat → Prop} {a b c : World} (h : TouchB S a b) (k : TouchB S b c) : TouchB S a c := h.trans k (fun _ _ q => q)
theorem touch_mh {z mh mm : Nat} {a b : World} (h : TouchB (fun i => i = mh) a b) : TouchB (LkS z mh mm) a b := h.mono (fun _ _ e => .inr (.inl e))
theorem touch_mm {z mh mm : Nat} {a b : World} (h : TouchB (fun i => i = mm) a b) : TouchB (LkS z mh mm) a b := h.mono (fun _ _ e => .inr (.inr e))
theorem touch_z {z mh mm : Nat} {a b : World} (h : TouchB (fun i => i = z) a b) : TouchB (LkS z mh mm) a b := h.mono (fun _ _ e => .inl e)
theorem putH_run {w : World} {z mh mm : Nat} {s : LkSt} (h : LkAt w z mh mm s) (p : Pr) (n : Int) : ∃ w', (Instr.mapUpdate 82 (.map (some mh)) (prV p) (.int .i64 n)).run Tryz.prog w = .ok () w' ∧ LkAt w' z mh mm { s with H := pPut s.H p n } ∧ TouchB (fun i => i = mh) w w' ∧ w'.heap.size = w.heap.size := by
  obtain ⟨w', h1, h2, h3, h4⟩ := run_mapUpdate_any (P := Tryz.prog) key_pr Tryz.underlying82 h.hm p (.int .i64 n)
  exact ⟨w', h1, h.putH h2 h3, h3, h4⟩
theorem delH_run {w : World} {z mh mm : Nat} {s : LkSt} (h : LkAt w z mh mm s) (p : Pr) : ∃ w', (Builtin.delete_ #[82, 149] 0 #[.map (some mh), prV p]).run Tryz.prog w = .ok (.tuple #[]) w' ∧ LkAt w' z mh mm { s with H := pDel s.H p } ∧ TouchB (fun i => i = mh) w w' ∧ w'.heap.size = w.heap.size := by
  obtain ⟨w', h1, h2, h3, h4⟩ := run_delete_any (P := Tryz.prog) (ty := 0) (at1 := 149) key_pr Tryz.underlying82 h.hm p
  exact ⟨w', h1, h.delH h2 h3, h3, h4⟩
theorem mh_ne {w : World} {z mh mm zp : Nat} {s : LkSt} (h : LkAt w z mh mm s) (hz : w.heap.size ≤ zp) : zp ≠ mh := by have := h.hlt; omega
theorem mm_ne {w : World} {z mh mm zp : Nat} {s : LkSt} (h : LkAt w z mh mm s) (hz : w.heap.size ≤ zp) : zp ≠ mm := by have := h.mlt; omega
theorem z_ne {w : World} {z mh mm zp : Nat} {s : LkSt} (h : LkAt w z mh mm s) (hz : w.heap.size ≤ zp) : zp ≠ z := by have := h.zlt; omega
theorem join20 {n m : Nat} {w : World} {z mh mm : Nat} {s : LkSt} (h : LkAt w z mh mm s) (B : Nat) (va vb : Value) (ta : Tm (n + 1)) (tb : Tm (m + 1)) (hB : B ≤ w.heap.size) (ha : ItemsAt w B n va ta.items) (hb : ItemsAt w B m vb tb.items) (sa : 300 * (nodesT ta : Int) ≤ 1000000000000) (sb : 300 * (nodesT tb : Int) ≤ 1000000000000) :
    Calls Tryz.prog 20 #[.pointer (some ⟨z, 0, none⟩), aggV ta.f va, aggV tb.f vb] w (JoinP (pairB s.node s.gen false (decide (ta.f.kind = 6) && validT ta) (decide (tb.f.kind = 6) && validT tb) (idOf ta.f) (idOf tb.f)) s (joinS s (idOf ta.f) (idOf tb.f)) (sendB s (idOf ta.f) (idOf tb.f)) z mh mm w) := by
  have HP := Lib.hid (fun W (hW : Below w.heap.size w W) => pair79 W ((hW.block z h.zlt).trans h.obj) B va vb ta tb false (Nat.le_trans hB hW.size) (ha.below hW hB) (hb.below hW hB) sa sb)
  have H0 := Lib.hid h
  obtain ⟨pa, ca, rfl, _, _⟩ := ha.shape
  obtain ⟨pb, cb, rfl, _, _⟩ := hb.shape
  clear ha hb sa sb hB h
  have hbx := boxes2 w ta.f tb.f (.slice pa ta.items.length ca) (.slice pb tb.items.length cb)
  generalize pairB s.node s.gen false (decide (ta.f.kind = 6) && validT ta) (decide (tb.f.kind = 6) && validT tb) (idOf ta.f) (idOf tb.f) = ok at *
  generalize hx : idOf ta.f = x at *
  generalize hy : idOf tb.f = y at *
  clear hx hy
  generalize ta.items.length = na at *
  generalize tb.items.length = nb at *
  generalize ta.f = fa at *
  generalize tb.f = fb at *
  obtain ⟨hA, hBx, hb2, hs2⟩ := hbx
  obtain ⟨ak, ai, ag, an, af, aa, ab, az⟩ := fa
  obtain ⟨bk, bi, bg, bn, bf, ba, bb, bz⟩ := fb
  unfold PairP at HP
  unfold prV at HP
  unfold aggV at *
  unfold cells9 at *
  dsimp only at HP hA hBx hb2 hs2 ⊢
  have HA := Lib.hid hA
  have HBx := Lib.hid hBx
  have HB2 := Lib.hid hb2
  have HS2 := Lib.hid hs2
  clear hA hBx hb2 hs2
  unfold JoinP
  have hne := z_ne (w := w) (zp := w.heap.size) H0.out (Nat.le_refl _)
  go_enter Tryz.func20, Tryz.ntmps20
  go_upto_region 1 with (fail)
  generalize ((w.alloc (.cells #[.int .i64 ak, .int .i64 ai, .int .i64 ag, .string an, .string af, .int .i64 aa, .slice pa na ca, .string ab, .int .i64 az] 30)).alloc (.cells #[.int .i64 bk, .int .i64 bi, .int .i64 bg, .string bn, .string bf, .int .i64 ba, .slice pb nb cb, .string bb, .int .i64 bz] 30)) = W1 at *
  obtain ⟨x0, x1', x2', x3', x4', x5', x6', x7', x8', xf⟩ := HA.out
  obtain ⟨y0, y1', y2', y3', y4', y5', y6', y7', y8', yf⟩ := HBx.out
  dsimp only at x0 x1' x2' x3' x4' x5' x6' x7' x8' y0 y1' y2' y3' y4' y5' y6' y7' y8'
  go_wp2_with fail
  refine (HP.out _ HB2.out).mono ?_
  rintro e W2 ⟨rfl, hb3⟩
  clear x0 x1' x2' x3' x4' x5' x6' x7' x8' xf y0 y1' y2' y3' y4' y5' y6' y7' y8' yf HP HA HBx
  have hbw := HB2.out.trans (hb3.mono HB2.out.size)
  clear hb3
  obtain ⟨x1, x2, x3, x4⟩ := x
  obtain ⟨y1, y2, y3, y4⟩ := y
  dsimp only
  cases ok
  · go_wp2_with fail
    go_ret2
    exact ⟨rfl, H0.out.below (belowA hbw _ hbw.size), ((TouchB.refl _ _).ofBelow hbw (Nat.le_refl _)).alloc _⟩
  go_upto_region 4 with (fail)
  have hP := alloc_new W2 (.cells #[.int .i64 x1, .string x2, .int .i64 x3, .int .i64 x4, .int .i64 y1, .string y2, .int .i64 y3, .int .i64 y4] 149)
  have hb3 := belowA hbw (.cells #[.int .i64 x1, .string x2, .int .i64 x3, .int .i64 x4, .int .i64 y1, .string y2, .int .i64 y3, .int .i64 y4] 149) hbw.size
  have hzl : W2.heap.size < (W2.alloc (.cells #[.int .i64 x1, .string x2, .int .i64 x3, .int .i64 x4, .int .i64 y1, .string y2, .int .i64 y3, .int .i64 y4] 149)).heap.size := by rw [World.size_alloc]; omega
  have hzp := hbw.size
  clear hbw
  generalize (W2.alloc (.cells #[.int .i64 x1, .string x2, .int .i64 x3, .int .i64 x4, .int .i64 y1, .string y2, .int .i64 y3, .int .i64 y4] 149)) = W3 at *
  generalize W2.heap.size = zp at *
  have hne := mh_ne H0.out hzp
  have HS3 := Lib.hid (H0.out.below hb3)
  have HT3 : Hid (TouchB (LkS z mh mm) w W3) := Lib.hid (touch_of hb3)
  have HP3 := Lib.hid hP
  clear hb3 hP
  have HAc := Lib.hid (active81 HS3.out ((x1, x2, x3, x4), (y1, y2, y3, y4)))
  have HLo := Lib.hid (fun W (hW : Below W3.heap.size W3 W) => local80 ((hW.block z HS3.out.zlt).trans HS3.out.obj) (y1, y2, y3, y4))
  have HLg := Lib.hid (fun (W : World) (hW : W.heap[z]? = some (linkC s.node s.gen s.last mh mm)) => local80 hW (y1, y2, y3, y4))
  have HPa := Lib.hid (fun W (hW : Below W3.heap.size W3 W) => eight_cells ((hW.block _ hzl).trans HP3.out))
  obtain ⟨r0, r1, r2, r3, r4, r5, r6, r7, rf⟩ := HPa.out _ (Below.refl _ _)
  unfold prV idV at *
  dsimp only at *
  have HSd : Hid (sendB s (x1, x2, x3, x4) (y1, y2, y3, y4) = (!actB s ((x1, x2, x3, x4), (y1, y2, y3, y4)) && !locB s.node s.gen (y1, y2, y3, y4))) := Lib.hid rfl
  have HJ0 : Hid (locB s.node s.gen (y1, y2, y3, y4) = false → joinS s (x1, x2, x3, x4) (y1, y2, y3, y4) = { s with H := pPut s.H ((x1, x2, x3, x4), (y1, y2, y3, y4)) 0 }) := Lib.hid (fun h => by unfold joinS; rw [h]; rfl)
  have HJ1 : Hid (locB s.node s.gen (y1, y2, y3, y4) = true → joinS s (x1, x2, x3, x4) (y1, y2, y3, y4) = { s with H := pPut (pPut s.H ((x1, x2, x3, x4), (y1, y2, y3, y4)) 0) ((y1, y2, y3, y4), (x1, x2, x3, x4)) 0 }) := Lib.hid (fun h => by unfold joinS; rw [h]; rfl)
  generalize actB s ((x1, x2, x3, x4), (y1, y2, y3, y4)) = act at *
  generalize locB s.node s.gen (y1, y2, y3, y4) = ly at *
  go_cut [6] from 19 to 29 (fun v wc => v = .bool (!act && !ly) ∧ Below W3.heap.size W3 wc)
  case first =>
    go_wp2_with fail
    refine HAc.out.mono ?_
    rintro e W4 ⟨rfl, hb4⟩
    clear r0 r1 r2 r3 r4 r5 r6 r7 rf
    obtain ⟨r0, r1, r2, r3, r4, r5, r6, r7, rf⟩ := HPa.out _ hb4
    cases act
    · go_wp2_with fail
      refine (HLo.out _ hb4).mono ?_
      rintro e W5 ⟨rfl, hb5⟩
      go_wp2_with fail
      go_meet
      exact ⟨rfl, hb4.trans (hb5.mono hb4.size)⟩
    · go_wp2_with fail
      go_meet
      exact ⟨rfl, hb4⟩
  case rest =>
    obtain ⟨rfl, hb4⟩ := hcut
    have hb5 := belowD hb4
    clear r0 r1 r2 r3 r4 r5 r6 r7 rf
    obtain ⟨r0, r1, r2, r3, r4, r5, r6, r7, rf⟩ := HPa.out _ hb4
    have HS4 := Lib.hid (HS3.out.below hb4)
    have HS5 := Lib.hid (HS3.out.below hb5)
    obtain ⟨W6, hrun6, h6, ht6, hs6⟩ := putH_run HS5.out ((x1, x2, x3, x4), (y1, y2, y3, y4)) 0
    obtain ⟨c0, c1, c2, c3, c4, cf⟩ := five_cells HS4.out.obj
    unfold prV at hrun6
    dsimp only at hrun6
    have HP6 := Lib.hid ((ht6.block zp (Nat.lt_of_lt_of_le hzl hb5.size) hne).trans ((hb5.block _ hzl).trans HP3.out))
    have HS6 := Lib.hid h6
    have HT6 : Hid (TouchB (LkS z mh mm) w W6) := Lib.hid (touch_trans HT3.out (touch_trans (touch_of hb5) (touch_mh ht6)))
    clear h6 ht6 hs6 hb4 hb5 HAc HLo
    go_upto_region 5 with (fail)
    go_still_tail 5, (by kernel_rfl)
    go_upto_region 6 with (fail)
    clear r0 r1 r2 r3 r4 r5 r6 r7 rf c0 c1 c2 c3 c4 cf
    obtain ⟨r0, r1, r2, r3, r4, r5, r6, r7, rf⟩ := eight_cells HP6.out
    have hzl6 := (Array.getElem?_eq_some_iff.1 HP6.out).1
    go_wp2_with fail
    refine (HLg.out _ HS6.out.obj).mono ?_
    rintro e W7 ⟨rfl, hb7⟩
    clear hrun6 r0 r1 r2 r3 r4 r5 r6 r7 rf
    cases ly
    · go_wp2_with fail
      go_ret2
      exact ⟨by rw [HSd.out]; cases act <;> rfl, by rw [HJ0.out (by simp)]; exact HS6.out.below hb7, touch_trans HT6.out (touch_of hb7)⟩
    · go_upto_region 7 with (fail)
      have hb8 := belowD hb7
      have HP7 := Lib.hid ((hb7.block zp hzl6).trans HP6.out)
      have HS7 := Lib.hid (HS6.out.below hb7)
      have HS8 := Lib.hid (HS6.out.below hb8)
      obtain ⟨W9, hrun9, h9, ht9, hs9⟩ := putH_run HS8.out ((y1, y2, y3, y4), (x1, x2, x3, x4)) 0
      obtain ⟨c0, c1, c2, c3, c4, cf⟩ := five_cells HS7.out.obj
      obtain ⟨r0, r1, r2, r3, r4, r5, r6, r7, rf⟩ := eight_cells HP7.out
      unfold prV at hrun9
      dsimp only at hrun9
      have HS9 := Lib.hid h9
      have HT9 : Hid (TouchB (LkS z mh mm) w W9) := Lib.hid (touch_trans HT6.out (touch_trans (touch_of hb8) (touch_mh ht9)))
      clear h9 ht9 hs9 hb7 hb8
      go_still_tail 9, (by kernel_rfl)
      go_wp2_with fail
      go_ret2
      exact ⟨by rw [HSd.out]; cases act <;> rfl, by rw [HJ1.out (by simp)]; exact HS9.out, HT9.out⟩
end Go.Proofs.YtnakbepcalciiaaGreat.lk
