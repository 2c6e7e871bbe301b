
/- The reference's formed. Conditions: as said. -/
import Derived.Test.YtpnlnbolhkcnjaaGreatCoO
import Derived.BigRegion
import Derived.Deep.RegionHeld3
namespace Go.Proofs.YtpnlnbolhkcnjaaGreat.cl
open Go.RowKit mem words
set_option linter.unusedVariables false
set_option linter.unusedSimpArgs false
set_option maxHeartbeats 4000000
set_option maxRecDepth 100000

def okW (m : Mm) (K : Bk) (b : Bool) (i : Nat) (v : Int) : Prop := Tm K v ∧ (pOk v = true → pOld v = false → b = false ∧ ((i : Int) < m.at_ → pIx v < m.at_))
def okAt (m : Mm) (K : Bk) (b : Bool) (i : Nat) (x : List Int) : Prop := okO x = true ∧ ∀ v ∈ fol x, okW m K b i v
theorem ptrW_max {t : Int} (ht : t = 1 ∨ t = 2) (b : Bool) {n : Nat} (hn : n < 2147483648) : ptrW t b n ≤ 18446744073709551615 := by
  have h1 : idxOk (n : Int) = true := by unfold idxOk; exact decide_eq_true ⟨by omega, by omega⟩
  unfold ptrW
  rw [if_pos h1]
  cases b <;> simp <;> omega
theorem ptr_at {K : Bk} {b : Bool} {i : Nat} {x : List Int} (h : At (K.s b) i x) (hi : i < 2147483648) {t : Int} (ht : t = 1 ∨ t = 2) (hx : x.headD 0 % 4 = 0 ↔ t = 2) : Pt K (ptrW t b i) x := by
  obtain ⟨_, h2, h3, h4, h5⟩ := ptrW_val ht b hi
  exact ⟨h2, by rw [h3, h4]; exact h, by rw [h5]; exact hx⟩
theorem objForm {K : Bk} {v : Int} {W : World} {args : Array Value} (h : Calls Tryz.prog 136 args W fun e w' => Below W.heap.size W w' ∧ ((∃ x p n c, Pt K v x ∧ e = .returned (.tuple #[.int .i64 (knd x), .slice p n c, .bool (pOld v), .int .i64 (pIx v), .bool true]) ∧ WAt w' w'.heap.size (.slice p n c) (wds x)) ∨ ((¬ ∃ x, Pt K v x) ∧ e = .returned (.tuple #[.int .i64 0, .slice none 0 0, .bool false, .int .i64 0, .bool false])))) :
    Calls Tryz.prog 136 args W fun e w' => ∃ k p n c o ix f, e = .returned (.tuple #[.int .i64 k, .slice p n c, .bool o, .int .i64 ix, .bool f]) ∧ Below W.heap.size W w' ∧ ((f = true ∧ o = pOld v ∧ ix = pIx v ∧ ∃ x, Pt K v x) ∨ (f = false ∧ ¬ ∃ x, Pt K v x)) := by
  refine h.mono ?_
  rintro e w' ⟨hb, ⟨x, p, n, c, hx, rfl, _⟩ | ⟨hn, rfl⟩⟩
  · exact ⟨_, _, _, _, _, _, _, rfl, hb, .inl ⟨rfl, rfl, rfl, x, hx⟩⟩
  · exact ⟨_, _, _, _, _, _, _, rfl, hb, .inr ⟨rfl, hn⟩⟩
theorem blk_same {w w' : World} {z : Nat} {o : Obj} (h : w.heap[z]? = some o) (hb : Below w.heap.size w w') : w'.heap[z]? = some o := (hb.block z (Array.getElem?_eq_some_iff.1 h).1).trans h
theorem fxd_le (k : Int) (n : Nat) : fxd k n ≤ n := by
  unfold fxd
  split
  · omega
  · split
    · omega
    · omega
theorem formed58 (w : World) (B : Nat) (v1 v2 v3 v4 : Value) (m : Mm) (K : Bk) (hB : B ≤ w.heap.size) (h : BookAt w B v1 v2 v3 v4 m K) (b : Bool) (i : Nat) (x : List Int) (hx : At (K.s b) i x) :
    Calls Tryz.prog 63 #[bookV v1 v2 m.at_ v3 v4, .bool b, .int .i64 i] w fun e w' => ∃ r, e = .returned (.bool r) ∧ (r = true ↔ okAt m K b i x) ∧ Below w.heap.size w w' := by
  have HPos : Hid K.pos := Lib.hid ⟨h.oy.pos, h.oo.pos⟩
  have HBk := Lib.hid h
  obtain ⟨p1, c1, p2, c2, p3, c3, p4, c4, rfl, rfl, rfl, rfl⟩ := h.form
  unfold bookV at *
  have hos : Objs (m.s b) (K.s b) := by cases b; exact h.oy; exact h.oo
  have hws : Wds (m.s b) := by cases b; exact h.wy; exact h.wo
  have hls : (m.s b).length ≤ 100000 := by cases b; exact h.ly; exact h.lo
  obtain ⟨ps, cs, hse, hsw⟩ : ∃ p c, (if b then (.slice p2 m.o.length c2 : Value) else .slice p1 m.y.length c1) = .slice p (m.s b).length c ∧ WAt w B (.slice p (m.s b).length c) (m.s b) := by
    cases b
    · exact ⟨p1, c1, rfl, h.y⟩
    · exact ⟨p2, c2, rfl, h.o⟩
  have hobj := hos.2 x hx.mem
  have HObj := Lib.hid hobj
  have hbd := hx.bound
  rw [hos.1] at hbd
  have hxp := hobj.pos
  have hil : i < (m.s b).length := by omega
  have hi31 : i < 2147483648 := by omega
  have hhead : (m.s b)[i]? = some (x.headD 0) := by
    have := hx.get 0 hxp
    rw [hos.1, Nat.add_zero, headD_get hxp] at this
    exact this
  obtain ⟨gs, os, rfl, _, hgs, hcs⟩ := RowAt.nth hsw (by omega)
  have hcl := hcs i hil
  rw [List.getD_eq_getElem?_getD, hhead, Option.getD_some] at hcl
  have hur : 0 ≤ x.headD 0 ∧ x.headD 0 ≤ 18446744073709551615 := hws _ (List.mem_of_getElem? hhead)
  have HWd : Hid (Wds (wds x)) := Lib.hid (fun v hv => hws v (by rw [← hos.1]; exact List.mem_flatten.2 ⟨x, hx.mem, wds_mem hv⟩))
  have HWl : Hid ((wds x).length ≤ 100000) := Lib.hid (by have := wds_len hobj; omega)
  have HK := Lib.hid (knd_rng hobj)
  have HAr : Hid (Calls Tryz.prog 62 #[.agg #[.slice p1 m.y.length c1, .slice p2 m.o.length c2, .int .i64 m.at_], .bool b] (w.alloc (.cells #[.slice p1 m.y.length c1, .slice p2 m.o.length c2, .int .i64 m.at_, .slice p3 m.y.length c3, .slice p4 m.o.length c4] 101)) fun e w' => e = .returned (.slice (some ⟨gs, os, none⟩) (m.s b).length cs) ∧ Below (w.alloc (.cells #[.slice p1 m.y.length c1, .slice p2 m.o.length c2, .int .i64 m.at_, .slice p3 m.y.length c3, .slice p4 m.o.length c4] 101)).heap.size (w.alloc (.cells #[.slice p1 m.y.length c1, .slice p2 m.o.length c2, .int .i64 m.at_, .slice p3 m.y.length c3, .slice p4 m.o.length c4] 101)) w') := Lib.hid (by
    have := area57 (w.alloc (.cells #[.slice p1 m.y.length c1, .slice p2 m.o.length c2, .int .i64 m.at_, .slice p3 m.y.length c3, .slice p4 m.o.length c4] 101)) p1 p2 m.y.length c1 m.o.length c2 m.at_ b
    rwa [hse] at this)
  have hb0 : Below w.heap.size w (w.alloc (.cells #[.slice p1 m.y.length c1, .slice p2 m.o.length c2, .int .i64 m.at_, .slice p3 m.y.length c3, .slice p4 m.o.length c4] 101)) := (Below.refl _ _).alloc (Nat.le_refl _) _
  have hz0 := (MapKept.heap_alloc w (.cells #[.slice p1 m.y.length c1, .slice p2 m.o.length c2, .int .i64 m.at_, .slice p3 m.y.length c3, .slice p4 m.o.length c4] 101)).1
  have HB0 := Lib.hid hb0
  have HZ0 := Lib.hid hz0
  have HRL := Lib.hid (fun W => RList b (i : Int) W)
  have HRB := Lib.hid (fun W => RBox b (i : Int) W)
  have HTg := Lib.hid (fun W => RTag _ hur.1 hur.2 W)
  have HCl := Lib.hid (fun W2 (hb : Below w.heap.size w W2) => (hb.cell (p := ⟨gs, os + i, none⟩) (show gs < w.heap.size by omega)).trans hcl)
  have ri : (0 : Int) ≤ (i : Int) := by omega
  have rl : (i : Int) < ((m.s b).length : Int) := by omega
  clear h hos hws hse hsw hbd hhead hcs hcl hb0 hz0 hobj hxp
  generalize hu0 : x.headD 0 = u0 at *
  have HU0 := Lib.hid hu0
  clear hu0
  by_cases h4 : u0 % 4 = 0
  · have q4 : (u0 % 4 == 0) = true := by simpa using h4
    have hpv := ptrW_val (t := 2) (.inr rfl) b hi31
    have hpm := ptrW_max (t := 2) (.inr rfl) b hi31
    go_enter Tryz.func63, Tryz.ntmps63
    go_wp2_with fail
    refine HAr.out.mono ?_
    rintro e W2 ⟨rfl, hb2⟩
    have HB2 : Hid (Below w.heap.size w W2) := Lib.hid (HB0.out.trans (hb2.mono HB0.out.size))
    have HZ2 := Lib.hid (blk_same HZ0.out hb2)
    have hcl := HCl.out W2 HB2.out
    obtain ⟨z0, z1, z2, z3, z4, zf⟩ := five_cells HZ2.out
    clear hb2 HAr HB0 HZ0
    go_wp2_with fail
    refine (HRL.out _).mono ?_
    rintro e w' ⟨rfl, rfl⟩
    go_wp2_with fail
    refine (HTg.out _).mono ?_
    rintro e w' ⟨rfl, rfl⟩
    go_wp2_with fail
    refine (HRB.out _).mono ?_
    rintro e w' ⟨rfl, rfl⟩
    clear hcl
    have HOp := Lib.hid (fun W (hb : Below w.heap.size w W) => object62 W B _ _ _ _ m K (Nat.le_trans hB hb.size) (HBk.out.below hb hB) (ptrW 2 b i) hpv.1 hpm)
    have HPx := Lib.hid (fun y (hy : Pt K (ptrW 2 b i) y) => Pt.uniq (B := K) HPos.out hy (ptr_at hx hi31 (.inr rfl) (⟨fun _ => rfl, fun _ => by rw [HU0.out]; exact h4⟩)))
    have HPy : Hid (Pt K (ptrW 2 b i) x) := Lib.hid (ptr_at hx hi31 (.inr rfl) (⟨fun _ => rfl, fun _ => by rw [HU0.out]; exact h4⟩))
    unfold ObR bookV at HOp
    try dsimp only at HOp
    clear hpv hpm
    generalize ptrW 2 b i = pp at *
    go_wp2_with fail
    refine (HOp.out _ HB2.out).mono ?_
    rintro e W3 ⟨hb3, hob⟩
    have HB3 := Lib.hid (HB2.out.trans (hb3.mono HB2.out.size))
    have HZ3 := Lib.hid (blk_same HZ2.out hb3)
    clear hb3
    rcases hob with ⟨y, p9, n9, c9, hy, rfl, hu⟩ | ⟨hn, rfl⟩
    case inr => exact absurd ⟨x, HPy.out⟩ hn
    obtain rfl := HPx.out y hy
    have hn9 : n9 = (wds y).length := by
      obtain ⟨_, _, e, _⟩ := hu
      simp only [Value.slice.injEq] at e
      exact e.2.1
    subst hn9
    have HU := Lib.hid hu
    have HSp := Lib.hid (split92 W3 W3.heap.size p9 c9 (knd y) (wds y) (Nat.le_refl _) hu HWd.out HWl.out HK.out.1 HK.out.2)
    unfold SplitR at HSp
    clear hu hy HPx HPy HOp HB2 HZ2
    go_wp2_with fail
    refine HSp.out.mono ?_
    rintro e W4 ⟨n, rfl, hn, hb4⟩
    have HB4 := Lib.hid (HB3.out.trans (hb4.mono HB3.out.size))
    have HZ4 := Lib.hid (blk_same HZ3.out hb4)
    have HU4 := Lib.hid (HU.out.below hb4 (Nat.le_refl _))
    have HN := Lib.hid hn
    have HL34 : Hid (W3.heap.size ≤ W4.heap.size) := Lib.hid hb4.size
    clear hn hb4 HSp HZ3 HU HB3
    cases hfm : fmd (knd y) (wds y)
    · have HNo : Hid (¬ okAt m K b i y) := Lib.hid (fun h => by have := h.1; unfold okO at this; rw [hfm] at this; exact Bool.noConfusion this)
      clear hfm HN HU4
      go_wp2_with fail
      go_ret
      exact ⟨false, rfl, by simp [HNo.out], HB4.out⟩
    obtain rfl := HN.out hfm
    have HFm : Hid (okO y = true) := Lib.hid hfm
    have HFo : Hid (∀ v, v ∈ fol y ↔ ∃ q, fxd (knd y) (wds y).length ≤ q ∧ (wds y)[q]? = some v) := Lib.hid (fun v => by
      rw [← fol_eq HObj.out, List.mem_iff_getElem?]
      constructor
      · rintro ⟨q, hq⟩
        rw [List.getElem?_drop] at hq
        exact ⟨_, Nat.le_add_right _ _, hq⟩
      · rintro ⟨q, h1, h2⟩
        exact ⟨q - fxd (knd y) (wds y).length, by rw [List.getElem?_drop, Nat.add_sub_cancel' h1]; exact h2⟩)
    have hfl : fxd (knd y) (wds y).length ≤ (wds y).length := fxd_le _ _
    clear hfm HN
    generalize fxd (knd y) (wds y).length = fx at *
    go_wp2_with fail
    go_loopw [17, 18, 19, 20, 21, 22] (fun a _ _ _ _ _ wr => ∃ j : Nat, a = .int .i64 j ∧ fx ≤ j ∧ j ≤ (wds y).length ∧ Hid (∀ q v, fx ≤ q → q < j → (wds y)[q]? = some v → okW m K b i v) ∧ Hid (Below W4.heap.size W4 wr)) (fun a _ _ _ _ _ _ => (wds y).length - (intOf a).toNat)
    case atStart => exact ⟨fx, rfl, Nat.le_refl _, hfl, Lib.hid (fun q v h1 h2 => by omega), Lib.hid (Below.refl _ _)⟩
    case round =>
      obtain ⟨j, rfl, hj0, hj1, HQ, HBr⟩ := hrel
      have hwl := HWl.out
      by_cases hlt : j < (wds y).length
      · obtain ⟨g9, o9, rfl, _, hg9, hc9⟩ := RowAt.nth (HU4.out) (by omega)
        have hv := hc9 j hlt
        have hvr := wds_getD HWd.out j
        have hve : (wds y)[j]? = some ((wds y).getD j 0) := by rw [List.getD_eq_getElem?_getD, List.getElem?_eq_getElem hlt]; rfl
        generalize (wds y).getD j 0 = v at hv hvr hve
        have HV := Lib.hid hve
        have hv := (HBr.out.cell (p := ⟨g9, o9 + j, none⟩) (show g9 < W4.heap.size by have := HL34.out; omega)).trans hv
        have HVc : Hid (∀ W5, Below wr.heap.size wr W5 → W5.cell? ⟨g9, o9 + j, none⟩ = some (.int .u64 v)) := Lib.hid (fun W5 hb => (hb.cell (p := ⟨g9, o9 + j, none⟩) (World.block_lt_of_cell? wr _ hv)).trans hv)
        have HBw := Lib.hid (HB4.out.trans (HBr.out.mono HB4.out.size))
        have HZw := Lib.hid (blk_same HZ4.out HBr.out)
        have HTm := Lib.hid (fun W (hb : Below w.heap.size w W) => isTerm33 W B _ _ _ _ m K (Nat.le_trans hB hb.size) (HBk.out.below hb hB) v hvr.1 hvr.2)
        have HOb := Lib.hid (fun W (hb : Below w.heap.size w W) => object62 W B _ _ _ _ m K (Nat.le_trans hB hb.size) (HBk.out.below hb hB) v hvr.1 hvr.2)
        unfold bookV at HTm
        unfold ObR bookV at HOb
        try dsimp only at HTm HOb
        obtain ⟨z0, z1, z2, z3, z4, zf⟩ := five_cells HZw.out
        have rj : (0 : Int) ≤ (j : Int) := by omega
        have rl : (j : Int) < ((wds y).length : Int) := by omega
        clear hc9 hve
        go_wp2_with fail
        go_still_tail 5, (by kernel_rfl)
        change wpList _ _ _ _ _ wr.drew
        have HBd : Hid (Below wr.heap.size wr wr.drew) := Lib.hid (below_drewN (Below.refl _ _) 1)
        have HBwd : Hid (Below w.heap.size w wr.drew) := Lib.hid (below_drewN HBw.out 1)
        clear z0 z1 z2 z3 z4 zf hv
        generalize wr.drew = wd at *
        go_wp2_with fail
        refine (HTm.out wd HBwd.out).mono ?_
        rintro e W5 ⟨bt, rfl, hbt, hb5⟩
        have HBt := Lib.hid hbt
        have HB5 := Lib.hid (HBwd.out.trans (hb5.mono HBwd.out.size))
        have HB5r := Lib.hid (HBd.out.trans (hb5.mono HBd.out.size))
        have HZ5 := Lib.hid (blk_same HZw.out HB5r.out)
        clear hb5 hbt HTm HBwd HBd
        cases bt
        · have HNo : Hid (¬ okAt m K b i y) := Lib.hid (fun h => by
            have h1 := (h.2 v ((HFo.out v).2 ⟨j, hj0, HV.out⟩)).1
            have := HBt.out.2 h1
            exact Bool.noConfusion this)
          clear HBt HOb HVc HZ5
          go_wp2_with fail
          go_ret
          exact ⟨false, rfl, by simp [HNo.out], HB5.out⟩
        have HTv : Hid (Tm K v) := Lib.hid (HBt.out.1 rfl)
        have hbd6 : Below w.heap.size w (W5.drewN 1) := below_drewN HB5.out 1
        have HZ5d : Hid ((W5.drewN 1).heap[w.heap.size]? = _) := HZ5
        have HBr5 : Hid (Below wr.heap.size wr (W5.drewN 1)) := Lib.hid (below_drewN HB5r.out 1)
        have HO6 := Lib.hid (fun W (hb : Below w.heap.size w W) => objForm (HOb.out W hb))
        have hv := HVc.out W5 HB5r.out
        obtain ⟨z0, z1, z2, z3, z4, zf⟩ := five_cells HZ5.out
        clear HBt HOb
        go_wp2_with fail
        go_region_held3 (fun w' => w'.cell? ⟨w.heap.size, 0, none⟩ = some (.slice p1 m.y.length c1) ∧ w'.cell? ⟨w.heap.size, 1, none⟩ = some (.slice p2 m.o.length c2) ∧ w'.cell? ⟨w.heap.size, 2, none⟩ = some (.int .i64 m.at_) ∧ w'.cell? ⟨w.heap.size, 3, none⟩ = some (.slice p3 m.y.length c3) ∧ w'.cell? ⟨w.heap.size, 4, none⟩ = some (.slice p4 m.o.length c4) ∧ w'.cell? ⟨g9, o9 + j, none⟩ = some (.int .u64 v)) (go_keep)
          ((go_at_call 136; refine (HO6.out _ hbd6).mono ?_; rintro e W6 ⟨k6, p6, n6, c6, o6, x6, f6, rfl, hb6, hf6⟩; have HF6 := Lib.hid hf6; have HB6 := Lib.hid (hbd6.trans (hb6.mono hbd6.size)); have HB6r := Lib.hid (HBr5.out.trans (hb6.mono HBr5.out.size)); have HZ6 := Lib.hid (blk_same HZ5d.out hb6); have hv6 := HVc.out W6 HB6r.out; obtain ⟨y0, y1, y2, y3, y4, yf⟩ := five_cells HZ6.out; clear hb6 hf6))
        have HB46 := Lib.hid (HBr.out.trans (HB6r.out.mono HBr.out.size))
        clear hv6 hv z0 z1 z2 z3 z4 zf HZ5 HZ5d HBr5 HB5 HB5r HVc HO6 hbd6
        have HGo : Hid (okW m K b i v → ∀ q u, fx ≤ q → q < j + 1 → (wds y)[q]? = some u → okW m K b i u) := Lib.hid (fun hw q u h1 h2 h3 => by
          by_cases hq : q = j
          · subst hq
            rw [HV.out] at h3
            obtain rfl := Option.some.inj h3
            exact hw
          · exact HQ.out q u h1 (by omega) h3)
        have HBad : Hid (¬ okW m K b i v → ¬ okAt m K b i y) := Lib.hid (fun hn h => hn (h.2 v ((HFo.out v).2 ⟨j, hj0, HV.out⟩)))
        rcases HF6.out with ⟨rfl, rfl, rfl, hx6⟩ | ⟨rfl, hn6⟩
        · have hp6 : pOk v = true := by
            obtain ⟨_, h6⟩ := hx6
            exact h6.1
          clear hx6 HF6
          cases ho6 : pOld v
          · cases b
            · by_cases him : (i : Int) < m.at_
              · have q6 : decide ((i : Int) < m.at_) = true := decide_eq_true him
                by_cases hpm6 : m.at_ ≤ pIx v
                · have q7 : decide (m.at_ ≤ pIx v) = true := decide_eq_true hpm6
                  have HNo := Lib.hid (HBad.out (fun h => by have := (h.2 hp6 ho6).2 him; omega))
                  clear hp6 ho6 HGo HBad
                  go_wp2_with fail
                  go_ret
                  exact ⟨false, rfl, by simp [HNo.out], HB6.out⟩
                · have q7 : decide (m.at_ ≤ pIx v) = false := decide_eq_false hpm6
                  have HYe := Lib.hid (HGo.out ⟨HTv.out, fun _ _ => ⟨rfl, fun _ => by omega⟩⟩)
                  clear hp6 ho6 HGo HBad
                  go_wp2_with fail
                  go_roundw
                  case rel => exact ⟨j + 1, by go_num, by omega, by omega, HYe, HB46⟩
                  case measure => simp [intOf]; omega
              · have q6 : decide ((i : Int) < m.at_) = false := decide_eq_false him
                have HYe := Lib.hid (HGo.out ⟨HTv.out, fun _ _ => ⟨rfl, fun h => absurd h him⟩⟩)
                clear hp6 ho6 HGo HBad
                go_wp2_with fail
                go_roundw
                case rel => exact ⟨j + 1, by go_num, by omega, by omega, HYe, HB46⟩
                case measure => simp [intOf]; omega
            · have HNo := Lib.hid (HBad.out (fun h => Bool.noConfusion (h.2 hp6 ho6).1))
              clear hp6 ho6 HGo HBad
              go_wp2_with fail
              go_ret
              exact ⟨false, rfl, by simp [HNo.out], HB6.out⟩
          · have HYe := Lib.hid (HGo.out ⟨HTv.out, fun _ h => by rw [ho6] at h; exact Bool.noConfusion h⟩)
            clear hp6 ho6 HGo HBad
            go_wp2_with fail
            go_roundw
            case rel => exact ⟨j + 1, by go_num, by omega, by omega, HYe, HB46⟩
            case measure => simp [intOf]; omega
        · have HYe := Lib.hid (HGo.out ⟨HTv.out, fun hp _ => absurd (tm_ptr HTv.out hp) hn6⟩)
          clear hn6 HGo HBad
          go_wp2_with fail
          go_roundw
          case rel => exact ⟨j + 1, by go_num, by omega, by omega, HYe, HB46⟩
          case measure => simp [intOf]; omega
      · have HYes : Hid (okAt m K b i y) := Lib.hid ⟨HFm.out, fun v hv => by
          obtain ⟨q, h1, h2⟩ := (HFo.out v).1 hv
          exact HQ.out q v h1 (by have := (List.getElem?_eq_some_iff.1 h2).1; omega) h2⟩
        have HBe := Lib.hid (HB4.out.trans (HBr.out.mono HB4.out.size))
        go_wp2_with fail
        go_ret
        exact ⟨true, rfl, by simp [HYes.out], HBe.out⟩
  · have q4 : (u0 % 4 == 0) = false := by simpa using h4
    have hpv := ptrW_val (t := 1) (.inl rfl) b hi31
    have hpm := ptrW_max (t := 1) (.inl rfl) b hi31
    go_enter Tryz.func63, Tryz.ntmps63
    go_wp2_with fail
    refine HAr.out.mono ?_
    rintro e W2 ⟨rfl, hb2⟩
    have HB2 : Hid (Below w.heap.size w W2) := Lib.hid (HB0.out.trans (hb2.mono HB0.out.size))
    have HZ2 := Lib.hid (blk_same HZ0.out hb2)
    have hcl := HCl.out W2 HB2.out
    obtain ⟨z0, z1, z2, z3, z4, zf⟩ := five_cells HZ2.out
    clear hb2 HAr HB0 HZ0
    go_wp2_with fail
    refine (HRL.out _).mono ?_
    rintro e w' ⟨rfl, rfl⟩
    go_wp2_with fail
    refine (HTg.out _).mono ?_
    rintro e w' ⟨rfl, rfl⟩
    clear hcl
    have HOp := Lib.hid (fun W (hb : Below w.heap.size w W) => object62 W B _ _ _ _ m K (Nat.le_trans hB hb.size) (HBk.out.below hb hB) (ptrW 1 b i) hpv.1 hpm)
    have HPx := Lib.hid (fun y (hy : Pt K (ptrW 1 b i) y) => Pt.uniq (B := K) HPos.out hy (ptr_at hx hi31 (.inl rfl) (⟨fun h => absurd (HU0.out ▸ h) h4, fun h => by omega⟩)))
    have HPy : Hid (Pt K (ptrW 1 b i) x) := Lib.hid (ptr_at hx hi31 (.inl rfl) (⟨fun h => absurd (HU0.out ▸ h) h4, fun h => by omega⟩))
    unfold ObR bookV at HOp
    try dsimp only at HOp
    clear hpv hpm
    generalize ptrW 1 b i = pp at *
    go_wp2_with fail
    refine (HOp.out _ HB2.out).mono ?_
    rintro e W3 ⟨hb3, hob⟩
    have HB3 := Lib.hid (HB2.out.trans (hb3.mono HB2.out.size))
    have HZ3 := Lib.hid (blk_same HZ2.out hb3)
    clear hb3
    rcases hob with ⟨y, p9, n9, c9, hy, rfl, hu⟩ | ⟨hn, rfl⟩
    case inr => exact absurd ⟨x, HPy.out⟩ hn
    obtain rfl := HPx.out y hy
    have hn9 : n9 = (wds y).length := by
      obtain ⟨_, _, e, _⟩ := hu
      simp only [Value.slice.injEq] at e
      exact e.2.1
    subst hn9
    have HU := Lib.hid hu
    have HSp := Lib.hid (split92 W3 W3.heap.size p9 c9 (knd y) (wds y) (Nat.le_refl _) hu HWd.out HWl.out HK.out.1 HK.out.2)
    unfold SplitR at HSp
    clear hu hy HPx HPy HOp HB2 HZ2
    go_wp2_with fail
    refine HSp.out.mono ?_
    rintro e W4 ⟨n, rfl, hn, hb4⟩
    have HB4 := Lib.hid (HB3.out.trans (hb4.mono HB3.out.size))
    have HZ4 := Lib.hid (blk_same HZ3.out hb4)
    have HU4 := Lib.hid (HU.out.below hb4 (Nat.le_refl _))
    have HN := Lib.hid hn
    have HL34 : Hid (W3.heap.size ≤ W4.heap.size) := Lib.hid hb4.size
    clear hn hb4 HSp HZ3 HU HB3
    cases hfm : fmd (knd y) (wds y)
    · have HNo : Hid (¬ okAt m K b i y) := Lib.hid (fun h => by have := h.1; unfold okO at this; rw [hfm] at this; exact Bool.noConfusion this)
      clear hfm HN HU4
      go_wp2_with fail
      go_ret
      exact ⟨false, rfl, by simp [HNo.out], HB4.out⟩
    obtain rfl := HN.out hfm
    have HFm : Hid (okO y = true) := Lib.hid hfm
    have HFo : Hid (∀ v, v ∈ fol y ↔ ∃ q, fxd (knd y) (wds y).length ≤ q ∧ (wds y)[q]? = some v) := Lib.hid (fun v => by
      rw [← fol_eq HObj.out, List.mem_iff_getElem?]
      constructor
      · rintro ⟨q, hq⟩
        rw [List.getElem?_drop] at hq
        exact ⟨_, Nat.le_add_right _ _, hq⟩
      · rintro ⟨q, h1, h2⟩
        exact ⟨q - fxd (knd y) (wds y).length, by rw [List.getElem?_drop, Nat.add_sub_cancel' h1]; exact h2⟩)
    have hfl : fxd (knd y) (wds y).length ≤ (wds y).length := fxd_le _ _
    clear hfm HN
    generalize fxd (knd y) (wds y).length = fx at *
    go_wp2_with fail
    go_loopw [17, 18, 19, 20, 21, 22] (fun a _ _ _ _ _ wr => ∃ j : Nat, a = .int .i64 j ∧ fx ≤ j ∧ j ≤ (wds y).length ∧ Hid (∀ q v, fx ≤ q → q < j → (wds y)[q]? = some v → okW m K b i v) ∧ Hid (Below W4.heap.size W4 wr)) (fun a _ _ _ _ _ _ => (wds y).length - (intOf a).toNat)
    case atStart => exact ⟨fx, rfl, Nat.le_refl _, hfl, Lib.hid (fun q v h1 h2 => by omega), Lib.hid (Below.refl _ _)⟩
    case round =>
      obtain ⟨j, rfl, hj0, hj1, HQ, HBr⟩ := hrel
      have hwl := HWl.out
      by_cases hlt : j < (wds y).length
      · obtain ⟨g9, o9, rfl, _, hg9, hc9⟩ := RowAt.nth (HU4.out) (by omega)
        have hv := hc9 j hlt
        have hvr := wds_getD HWd.out j
        have hve : (wds y)[j]? = some ((wds y).getD j 0) := by rw [List.getD_eq_getElem?_getD, List.getElem?_eq_getElem hlt]; rfl
        generalize (wds y).getD j 0 = v at hv hvr hve
        have HV := Lib.hid hve
        have hv := (HBr.out.cell (p := ⟨g9, o9 + j, none⟩) (show g9 < W4.heap.size by have := HL34.out; omega)).trans hv
        have HVc : Hid (∀ W5, Below wr.heap.size wr W5 → W5.cell? ⟨g9, o9 + j, none⟩ = some (.int .u64 v)) := Lib.hid (fun W5 hb => (hb.cell (p := ⟨g9, o9 + j, none⟩) (World.block_lt_of_cell? wr _ hv)).trans hv)
        have HBw := Lib.hid (HB4.out.trans (HBr.out.mono HB4.out.size))
        have HZw := Lib.hid (blk_same HZ4.out HBr.out)
        have HTm := Lib.hid (fun W (hb : Below w.heap.size w W) => isTerm33 W B _ _ _ _ m K (Nat.le_trans hB hb.size) (HBk.out.below hb hB) v hvr.1 hvr.2)
        have HOb := Lib.hid (fun W (hb : Below w.heap.size w W) => object62 W B _ _ _ _ m K (Nat.le_trans hB hb.size) (HBk.out.below hb hB) v hvr.1 hvr.2)
        unfold bookV at HTm
        unfold ObR bookV at HOb
        try dsimp only at HTm HOb
        obtain ⟨z0, z1, z2, z3, z4, zf⟩ := five_cells HZw.out
        have rj : (0 : Int) ≤ (j : Int) := by omega
        have rl : (j : Int) < ((wds y).length : Int) := by omega
        clear hc9 hve
        go_wp2_with fail
        go_still_tail 5, (by kernel_rfl)
        change wpList _ _ _ _ _ wr.drew
        have HBd : Hid (Below wr.heap.size wr wr.drew) := Lib.hid (below_drewN (Below.refl _ _) 1)
        have HBwd : Hid (Below w.heap.size w wr.drew) := Lib.hid (below_drewN HBw.out 1)
        clear z0 z1 z2 z3 z4 zf hv
        generalize wr.drew = wd at *
        go_wp2_with fail
        refine (HTm.out wd HBwd.out).mono ?_
        rintro e W5 ⟨bt, rfl, hbt, hb5⟩
        have HBt := Lib.hid hbt
        have HB5 := Lib.hid (HBwd.out.trans (hb5.mono HBwd.out.size))
        have HB5r := Lib.hid (HBd.out.trans (hb5.mono HBd.out.size))
        have HZ5 := Lib.hid (blk_same HZw.out HB5r.out)
        clear hb5 hbt HTm HBwd HBd
        cases bt
        · have HNo : Hid (¬ okAt m K b i y) := Lib.hid (fun h => by
            have h1 := (h.2 v ((HFo.out v).2 ⟨j, hj0, HV.out⟩)).1
            have := HBt.out.2 h1
            exact Bool.noConfusion this)
          clear HBt HOb HVc HZ5
          go_wp2_with fail
          go_ret
          exact ⟨false, rfl, by simp [HNo.out], HB5.out⟩
        have HTv : Hid (Tm K v) := Lib.hid (HBt.out.1 rfl)
        have hbd6 : Below w.heap.size w (W5.drewN 1) := below_drewN HB5.out 1
        have HZ5d : Hid ((W5.drewN 1).heap[w.heap.size]? = _) := HZ5
        have HBr5 : Hid (Below wr.heap.size wr (W5.drewN 1)) := Lib.hid (below_drewN HB5r.out 1)
        have HO6 := Lib.hid (fun W (hb : Below w.heap.size w W) => objForm (HOb.out W hb))
        have hv := HVc.out W5 HB5r.out
        obtain ⟨z0, z1, z2, z3, z4, zf⟩ := five_cells HZ5.out
        clear HBt HOb
        go_wp2_with fail
        go_region_held3 (fun w' => w'.cell? ⟨w.heap.size, 0, none⟩ = some (.slice p1 m.y.length c1) ∧ w'.cell? ⟨w.heap.size, 1, none⟩ = some (.slice p2 m.o.length c2) ∧ w'.cell? ⟨w.heap.size, 2, none⟩ = some (.int .i64 m.at_) ∧ w'.cell? ⟨w.heap.size, 3, none⟩ = some (.slice p3 m.y.length c3) ∧ w'.cell? ⟨w.heap.size, 4, none⟩ = some (.slice p4 m.o.length c4) ∧ w'.cell? ⟨g9, o9 + j, none⟩ = some (.int .u64 v)) (go_keep)
          ((go_at_call 136; refine (HO6.out _ hbd6).mono ?_; rintro e W6 ⟨k6, p6, n6, c6, o6, x6, f6, rfl, hb6, hf6⟩; have HF6 := Lib.hid hf6; have HB6 := Lib.hid (hbd6.trans (hb6.mono hbd6.size)); have HB6r := Lib.hid (HBr5.out.trans (hb6.mono HBr5.out.size)); have HZ6 := Lib.hid (blk_same HZ5d.out hb6); have hv6 := HVc.out W6 HB6r.out; obtain ⟨y0, y1, y2, y3, y4, yf⟩ := five_cells HZ6.out; clear hb6 hf6))
        have HB46 := Lib.hid (HBr.out.trans (HB6r.out.mono HBr.out.size))
        clear hv6 hv z0 z1 z2 z3 z4 zf HZ5 HZ5d HBr5 HB5 HB5r HVc HO6 hbd6
        have HGo : Hid (okW m K b i v → ∀ q u, fx ≤ q → q < j + 1 → (wds y)[q]? = some u → okW m K b i u) := Lib.hid (fun hw q u h1 h2 h3 => by
          by_cases hq : q = j
          · subst hq
            rw [HV.out] at h3
            obtain rfl := Option.some.inj h3
            exact hw
          · exact HQ.out q u h1 (by omega) h3)
        have HBad : Hid (¬ okW m K b i v → ¬ okAt m K b i y) := Lib.hid (fun hn h => hn (h.2 v ((HFo.out v).2 ⟨j, hj0, HV.out⟩)))
        rcases HF6.out with ⟨rfl, rfl, rfl, hx6⟩ | ⟨rfl, hn6⟩
        · have hp6 : pOk v = true := by
            obtain ⟨_, h6⟩ := hx6
            exact h6.1
          clear hx6 HF6
          cases ho6 : pOld v
          · cases b
            · by_cases him : (i : Int) < m.at_
              · have q6 : decide ((i : Int) < m.at_) = true := decide_eq_true him
                by_cases hpm6 : m.at_ ≤ pIx v
                · have q7 : decide (m.at_ ≤ pIx v) = true := decide_eq_true hpm6
                  have HNo := Lib.hid (HBad.out (fun h => by have := (h.2 hp6 ho6).2 him; omega))
                  clear hp6 ho6 HGo HBad
                  go_wp2_with fail
                  go_ret
                  exact ⟨false, rfl, by simp [HNo.out], HB6.out⟩
                · have q7 : decide (m.at_ ≤ pIx v) = false := decide_eq_false hpm6
                  have HYe := Lib.hid (HGo.out ⟨HTv.out, fun _ _ => ⟨rfl, fun _ => by omega⟩⟩)
                  clear hp6 ho6 HGo HBad
                  go_wp2_with fail
                  go_roundw
                  case rel => exact ⟨j + 1, by go_num, by omega, by omega, HYe, HB46⟩
                  case measure => simp [intOf]; omega
              · have q6 : decide ((i : Int) < m.at_) = false := decide_eq_false him
                have HYe := Lib.hid (HGo.out ⟨HTv.out, fun _ _ => ⟨rfl, fun h => absurd h him⟩⟩)
                clear hp6 ho6 HGo HBad
                go_wp2_with fail
                go_roundw
                case rel => exact ⟨j + 1, by go_num, by omega, by omega, HYe, HB46⟩
                case measure => simp [intOf]; omega
            · have HNo := Lib.hid (HBad.out (fun h => Bool.noConfusion (h.2 hp6 ho6).1))
              clear hp6 ho6 HGo HBad
              go_wp2_with fail
              go_ret
              exact ⟨false, rfl, by simp [HNo.out], HB6.out⟩
          · have HYe := Lib.hid (HGo.out ⟨HTv.out, fun _ h => by rw [ho6] at h; exact Bool.noConfusion h⟩)
            clear hp6 ho6 HGo HBad
            go_wp2_with fail
            go_roundw
            case rel => exact ⟨j + 1, by go_num, by omega, by omega, HYe, HB46⟩
            case measure => simp [intOf]; omega
        · have HYe := Lib.hid (HGo.out ⟨HTv.out, fun hp _ => absurd (tm_ptr HTv.out hp) hn6⟩)
          clear hn6 HGo HBad
          go_wp2_with fail
          go_roundw
          case rel => exact ⟨j + 1, by go_num, by omega, by omega, HYe, HB46⟩
          case measure => simp [intOf]; omega
      · have HYes : Hid (okAt m K b i y) := Lib.hid ⟨HFm.out, fun v hv => by
          obtain ⟨q, h1, h2⟩ := (HFo.out v).1 hv
          exact HQ.out q v h1 (by have := (List.getElem?_eq_some_iff.1 h2).1; omega) h2⟩
        have HBe := Lib.hid (HB4.out.trans (HBr.out.mono HB4.out.size))
        go_wp2_with fail
        go_ret
        exact ⟨true, rfl, by simp [HYes.out], HBe.out⟩
end Go.Proofs.YtpnlnbolhkcnjaaGreat.cl
