/- Several texts in one, one behind the other: LkNc. No condition beyond theirs. -/
import Derived.Test.YtnakbepcalciiaaGreatHf
import Derived.Test.YtnakbepcalciiaaGreatHg
import Derived.Deep.RegionHeld3
/- LinksNone. Conditions: the terms lie in memory. -/
namespace Go.Proofs.YtnakbepcalciiaaGreat.lk
open Go.RowKit mem rec tm names pm
set_option linter.unusedVariables false
set_option linter.unusedSimpArgs false
set_option maxHeartbeats 4000000
set_option maxRecDepth 100000
def NnI (W : World) (n : Nat) (iv : Value) (wr : World) : Prop := ∃ i : Nat, iv = .int .i64 (i : Int) ∧ i ≤ 2 ∧ n = 2 - i ∧ Below W.heap.size W wr
theorem lawNone (W : World) {n m B : Nat} (va vb : Value) (ta : Tm (n + 1)) (tb : Tm (m + 1)) (nd : ByteArray) (hB : B ≤ W.heap.size) (ha : ItemsAt W B n va ta.items) (hb : ItemsAt W B m vb tb.items) : Calls Tryz.prog 8 #[aggV ta.f va, aggV tb.f vb, .string nd] W (fun e w' => e = .returned (.bool true) ∧ Below W.heap.size W w') := by
  have HSh := Lib.hid (fun w => shown14 w)
  obtain ⟨ppa, cca, rfl, _, _⟩ := ha.shape
  obtain ⟨ppb, ccb, rfl, _, _⟩ := hb.shape
  have HU := Lib.hid (fun W' v (h : NoneAt W' v) (hW : Below W.heap.size W W') => unwatch31N h B _ ta (Nat.le_trans hB hW.size) (ha.below hW hB))
  have HO := Lib.hid (fun W' v (h : NoneAt W' v) (hW : Below W.heap.size W W') => of22N h B _ ta (Nat.le_trans hB hW.size) (ha.below hW hB))
  have HE := Lib.hid (fun W' v (h : NoneAt W' v) (hW : Below W.heap.size W W') => end19N h B _ ta (Nat.le_trans hB hW.size) (ha.below hW hB))
  have HWd := Lib.hid (fun W' v (h : NoneAt W' v) (hW : Below W.heap.size W W') => watched30N h B _ ta (Nat.le_trans hB hW.size) (ha.below hW hB))
  have HH := Lib.hid (fun W' v (h : NoneAt W' v) (hW : Below W.heap.size W W') => held29N h B _ ta (Nat.le_trans hB hW.size) (ha.below hW hB))
  have HLo := Lib.hid (fun W' v (h : NoneAt W' v) => lost37N h nd)
  have HCu := Lib.hid (fun W' v (h : NoneAt W' v) => cut38N h nd)
  have HSm : Hid (∀ W' : World, Calls Tryz.prog 32 #[.agg #[.int .i64 0, .int .i64 0, .int .i64 0, .string ⟨#[]⟩, .string ⟨#[]⟩, .int .i64 0, .slice none 0 0, .string ⟨#[]⟩, .int .i64 0, .int .i64 0, .int .i64 0, .int .i64 0, .string ⟨#[]⟩, .string ⟨#[]⟩, .int .i64 0, .slice none 0 0, .string ⟨#[]⟩, .int .i64 0, .int .i64 0, .int .i64 0, .int .i64 0, .string ⟨#[]⟩, .string ⟨#[]⟩, .int .i64 0, .slice none 0 0, .string ⟨#[]⟩, .int .i64 0], .agg #[.int .i64 0, .int .i64 0, .int .i64 0, .string ⟨#[]⟩, .string ⟨#[]⟩, .int .i64 0, .slice none 0 0, .string ⟨#[]⟩, .int .i64 0, .int .i64 0, .int .i64 0, .int .i64 0, .string ⟨#[]⟩, .string ⟨#[]⟩, .int .i64 0, .slice none 0 0, .string ⟨#[]⟩, .int .i64 0, .int .i64 0, .int .i64 0, .int .i64 0, .string ⟨#[]⟩, .string ⟨#[]⟩, .int .i64 0, .slice none 0 0, .string ⟨#[]⟩, .int .i64 0]] W' (fun e w' => e = .returned (.bool true) ∧ Below W'.heap.size W' w')) := Lib.hid (fun W' => by
    have h := same32 W' 0 nilV nilV nilV nilV nilV nilV (tmI zId) (tmI zId) (tmI zId) (tmI zId) (tmI zId) (tmI zId) (Nat.zero_le _) (nilI W' zId) (nilI W' zId) (nilI W' zId) (nilI W' zId) (nilI W' zId) (nilI W' zId)
    rw [eqB_t rfl] at h
    exact h)
  clear ha hb hB
  generalize ta.items.length = nna at *
  generalize tb.items.length = nnb at *
  generalize ta.f = Fa at *
  generalize tb.f = Fb at *
  have HWt := Lib.hid (fun W' v (h : NoneAt W' v) => watch27N h Fa zeroF zeroF (pr := ppa) (nr := nna) (cr := cca) (pw := none) (nw := 0) (cw := 0) (pt := none) (nt := 0) (ct := 0))
  obtain ⟨ak, ai, ag, an, af, aa, ab, az⟩ := Fa
  obtain ⟨bk, bi, bg, bn, bf, ba, bb, bz⟩ := Fb
  unfold monV zeroF at HWt
  unfold aggV at *
  dsimp only at *
  have HJ : Hid (∀ W' v, NoneAt W' v → Calls Tryz.prog 20 #[v, .agg #[.int .i64 ak, .int .i64 ai, .int .i64 ag, .string an, .string af, .int .i64 aa, .slice ppa nna cca, .string ab, .int .i64 az], .agg #[.int .i64 bk, .int .i64 bi, .int .i64 bg, .string bn, .string bf, .int .i64 ba, .slice ppb nnb ccb, .string bb, .int .i64 bz]] W' (fun e w' => e = .returned (.tuple #[.bool false, .int .i64 1]) ∧ Below W'.heap.size W' w')) := Lib.hid (fun W' v h => join20N h)
  have HPt : Hid (∀ W' v, NoneAt W' v → Calls Tryz.prog 18 #[v, .agg #[.int .i64 ak, .int .i64 ai, .int .i64 ag, .string an, .string af, .int .i64 aa, .slice ppa nna cca, .string ab, .int .i64 az], .agg #[.int .i64 bk, .int .i64 bi, .int .i64 bg, .string bn, .string bf, .int .i64 ba, .slice ppb nnb ccb, .string bb, .int .i64 bz]] W' (fun e w' => e = .returned (.tuple #[.int .i64 0, .bool false, .int .i64 1]) ∧ Below W'.heap.size W' w')) := Lib.hid (fun W' v h => part18N h)
  have HF : Hid (∀ W' v, NoneAt W' v → Calls Tryz.prog 48 #[v, .agg #[.int .i64 ak, .int .i64 ai, .int .i64 ag, .string an, .string af, .int .i64 aa, .slice ppa nna cca, .string ab, .int .i64 az], .agg #[.int .i64 bk, .int .i64 bi, .int .i64 bg, .string bn, .string bf, .int .i64 ba, .slice ppb nnb ccb, .string bb, .int .i64 bz]] W' (fun e w' => e = .returned (.tuple #[.bool false, .int .i64 1]) ∧ Below W'.heap.size W' w')) := Lib.hid (fun W' v h => fell48N h)
  have HC : Hid (∀ W' v, NoneAt W' v → Calls Tryz.prog 41 #[v, .agg #[.int .i64 ak, .int .i64 ai, .int .i64 ag, .string an, .string af, .int .i64 aa, .slice ppa nna cca, .string ab, .int .i64 az], .agg #[.int .i64 bk, .int .i64 bi, .int .i64 bg, .string bn, .string bf, .int .i64 ba, .slice ppb nnb ccb, .string bb, .int .i64 bz]] W' (fun e w' => e = .returned (.int .i64 1) ∧ Below W'.heap.size W' w')) := Lib.hid (fun W' v h => came41N h)
  have HL : Hid (∀ W' v, NoneAt W' v → Calls Tryz.prog 49 #[v, .agg #[.int .i64 ak, .int .i64 ai, .int .i64 ag, .string an, .string af, .int .i64 aa, .slice ppa nna cca, .string ab, .int .i64 az], .agg #[.int .i64 bk, .int .i64 bi, .int .i64 bg, .string bn, .string bf, .int .i64 ba, .slice ppb nnb ccb, .string bb, .int .i64 bz]] W' (fun e w' => e = .returned (.int .i64 1) ∧ Below W'.heap.size W' w')) := Lib.hid (fun W' v h => left49N h)
  have HAk : Hid (∀ W' v, NoneAt W' v → Calls Tryz.prog 50 #[v, .agg #[.int .i64 ak, .int .i64 ai, .int .i64 ag, .string an, .string af, .int .i64 aa, .slice ppa nna cca, .string ab, .int .i64 az], .agg #[.int .i64 bk, .int .i64 bi, .int .i64 bg, .string bn, .string bf, .int .i64 ba, .slice ppb nnb ccb, .string bb, .int .i64 bz], .int .i64 1] W' (fun e w' => e = .returned (.int .i64 1) ∧ Below W'.heap.size W' w')) := Lib.hid (fun W' v h => acked50N 1 h)
  have hx0 := alloc_new W (.cells #[.int .i64 ak, .int .i64 ai, .int .i64 ag, .string an, .string af, .int .i64 aa, .slice ppa nna cca, .string ab, .int .i64 az] 30)
  have hs0 : (W.alloc (.cells #[.int .i64 ak, .int .i64 ai, .int .i64 ag, .string an, .string af, .int .i64 aa, .slice ppa nna cca, .string ab, .int .i64 az] 30)).heap.size = W.heap.size + 1 := World.size_alloc _ _
  have hb2 := two_boxes W (.cells #[.int .i64 ak, .int .i64 ai, .int .i64 ag, .string an, .string af, .int .i64 aa, .slice ppa nna cca, .string ab, .int .i64 az] 30) (.cells #[.int .i64 bk, .int .i64 bi, .int .i64 bg, .string bn, .string bf, .int .i64 ba, .slice ppb nnb ccb, .string bb, .int .i64 bz] 30)
  have hx := (belowA (Below.refl (W.alloc (.cells #[.int .i64 ak, .int .i64 ai, .int .i64 ag, .string an, .string af, .int .i64 aa, .slice ppa nna cca, .string ab, .int .i64 az] 30)).heap.size _) (.cells #[.int .i64 bk, .int .i64 bi, .int .i64 bg, .string bn, .string bf, .int .i64 ba, .slice ppb nnb ccb, .string bb, .int .i64 bz] 30) (Nat.le_refl _)).block W.heap.size (by rw [hs0]; omega) |>.trans hx0
  have hy := alloc_new (W.alloc (.cells #[.int .i64 ak, .int .i64 ai, .int .i64 ag, .string an, .string af, .int .i64 aa, .slice ppa nna cca, .string ab, .int .i64 az] 30)) (.cells #[.int .i64 bk, .int .i64 bi, .int .i64 bg, .string bn, .string bf, .int .i64 ba, .slice ppb nnb ccb, .string bb, .int .i64 bz] 30)
  rw [hs0] at hy
  have hs2 : ((W.alloc (.cells #[.int .i64 ak, .int .i64 ai, .int .i64 ag, .string an, .string af, .int .i64 aa, .slice ppa nna cca, .string ab, .int .i64 az] 30)).alloc (.cells #[.int .i64 bk, .int .i64 bi, .int .i64 bg, .string bn, .string bf, .int .i64 ba, .slice ppb nnb ccb, .string bb, .int .i64 bz] 30)).heap.size = W.heap.size + 2 := by rw [World.size_alloc, hs0]
  have HX := Lib.hid hx
  have HY := Lib.hid hy
  have HB2 := Lib.hid hb2
  have HS2 := Lib.hid hs2
  clear hx0 hs0 hb2 hx hy hs2
  go_enter Tryz.func8, Tryz.ntmps8
  go_upto_region 1 with (fail)
  generalize ((W.alloc (.cells #[.int .i64 ak, .int .i64 ai, .int .i64 ag, .string an, .string af, .int .i64 aa, .slice ppa nna cca, .string ab, .int .i64 az] 30)).alloc (.cells #[.int .i64 bk, .int .i64 bi, .int .i64 bg, .string bn, .string bf, .int .i64 ba, .slice ppb nnb ccb, .string bb, .int .i64 bz] 30)) = W1 at *
  go_wp2_with fail
  refine (HSh.out _).mono ?_
  rintro e w2 ⟨rfl, hb⟩
  have HB3 := Lib.hid (HB2.out.trans (hb.mono HB2.out.size))
  have HX3 := Lib.hid ((hb.block W.heap.size (by have := HS2.out; omega)).trans HX.out)
  have HY3 := Lib.hid ((hb.block (W.heap.size + 1) (by have := HS2.out; omega)).trans HY.out)
  have HS3 : Hid (W.heap.size + 2 ≤ w2.heap.size) := Lib.hid (by have := HS2.out; have := hb.size; omega)
  clear hb HX HY HB2 HS2
  go_upto_region 4 with (fail)
  have hO := alloc_new w2 (.cells #[.string ⟨#[]⟩, .int .i64 0, .int .i64 0, .map none, .map none] 85)
  have hO2 := (belowA (Below.refl (w2.alloc (.cells #[.string ⟨#[]⟩, .int .i64 0, .int .i64 0, .map none, .map none] 85)).heap.size _) (.cells #[.pointer none, .pointer (some ⟨w2.heap.size, 0, none⟩)] 24) (Nat.le_refl _)).block w2.heap.size (by rw [World.size_alloc]; omega) |>.trans hO
  have hL := alloc_new (w2.alloc (.cells #[.string ⟨#[]⟩, .int .i64 0, .int .i64 0, .map none, .map none] 85)) (.cells #[.pointer none, .pointer (some ⟨w2.heap.size, 0, none⟩)] 24)
  rw [World.size_alloc] at hL
  have hbx := two_boxes w2 (.cells #[.string ⟨#[]⟩, .int .i64 0, .int .i64 0, .map none, .map none] 85) (.cells #[.pointer none, .pointer (some ⟨w2.heap.size, 0, none⟩)] 24)
  clear hO
  generalize ((w2.alloc (.cells #[.string ⟨#[]⟩, .int .i64 0, .int .i64 0, .map none, .map none] 85)).alloc (.cells #[.pointer none, .pointer (some ⟨w2.heap.size, 0, none⟩)] 24)) = W3 at *
  have hlO := (Array.getElem?_eq_some_iff.1 hO2).1
  have hlL := (Array.getElem?_eq_some_iff.1 hL).1
  generalize w2.heap.size = zz at *
  have HNn : Hid (∀ wr : World, Below W3.heap.size W3 wr → ∀ i : Nat, i < 2 → ∃ v, wr.cell? ⟨zz + 1, i, none⟩ = some v ∧ NoneAt wr v) := Lib.hid (fun wr hW i hi => by
    have h1 := (hW.block _ hlO).trans hO2
    have h2 := (hW.block _ hlL).trans hL
    rcases (show i = 0 ∨ i = 1 by omega) with rfl | rfl
    · exact ⟨.pointer none, by simp only [World.cell?, h2]; rfl, .inl rfl⟩
    · exact ⟨.pointer (some ⟨zz, 0, none⟩), by simp only [World.cell?, h2]; rfl, .inr ⟨zz, rfl, h1⟩⟩)
  have HB4 := Lib.hid (HB3.out.trans (hbx.mono (by have := HS3.out; omega)))
  have HXa := Lib.hid (fun wr (hW : Below W3.heap.size W3 wr) => nineC ((hW.block W.heap.size (by have := HS3.out; omega)).trans ((hbx.block _ (by have := HS3.out; omega)).trans HX3.out)))
  have HYa := Lib.hid (fun wr (hW : Below W3.heap.size W3 wr) => nineC ((hW.block (W.heap.size + 1) (by have := HS3.out; omega)).trans ((hbx.block _ (by have := HS3.out; omega)).trans HY3.out)))
  have H00 : Hid (NnI W3 2 (.int .i64 0) W3) := Lib.hid ⟨0, rfl, by omega, rfl, Below.refl _ _⟩
  have hsz27 : (Tryz.prog.info? 47).map (·.size) = some 27 := by kernel_rfl
  clear hO2 hL hbx hlO hlL HX3 HY3 HB3 HSh
  go_wp2_with fail
  go_loopg [8] 2 (fun n iv wr => Hid (NnI W3 n iv wr))
  case atStart => exact H00
  case round =>
    obtain ⟨i, rfl, hi, hn, hbw⟩ := hrel.out
    clear hrel H00
    by_cases hlt : i < 2
    · have r1 : (i : Int) < 2 := by omega
      obtain ⟨v, hcv, hnv⟩ := HNn.out _ hbw i hlt
      have HV := Lib.hid (fun W' (hW : Below wr.heap.size wr W') => hnv.below hW)
      have HN := Lib.hid hn
      have HW := Lib.hid (fun W' (hW : Below wr.heap.size wr W') => HB4.out.trans ((belowCC hbw hW).mono HB4.out.size))
      have HXb := Lib.hid (fun W' (hW : Below wr.heap.size wr W') => HXa.out W' (belowCC hbw hW))
      have HYb := Lib.hid (fun W' (hW : Below wr.heap.size wr W') => HYa.out W' (belowCC hbw hW))
      have HBw := Lib.hid hbw
      clear hn hnv hbw HNn HXa HYa
      have h0 := Below.refl wr.heap.size wr
      obtain ⟨x0, x1, x2, x3, x4, x5, x6, x7, x8, xf⟩ := HXb.out _ h0
      obtain ⟨y0, y1, y2, y3, y4, y5, y6, y7, y8, yf⟩ := HYb.out _ h0
      go_wp2_with fail
      refine (HJ.out _ _ (HV.out _ h0)).mono ?_
      rintro e w3 ⟨rfl, hb⟩
      have h1 := belowCC h0 hb
      clear hb
      clear x0 x1 x2 x3 x4 x5 x6 x7 x8 y0 y1 y2 y3 y4 y5 y6 y7 y8 xf yf
      obtain ⟨x0, x1, x2, x3, x4, x5, x6, x7, x8, xf⟩ := HXb.out _ h1
      obtain ⟨y0, y1, y2, y3, y4, y5, y6, y7, y8, yf⟩ := HYb.out _ h1
      go_wp2_with fail
      refine (HPt.out _ _ (HV.out _ h1)).mono ?_
      rintro e w4 ⟨rfl, hb⟩
      have h2 := belowCC h1 hb
      clear hb
      clear x0 x1 x2 x3 x4 x5 x6 x7 x8 y0 y1 y2 y3 y4 y5 y6 y7 y8 xf yf
      obtain ⟨x0, x1, x2, x3, x4, x5, x6, x7, x8, xf⟩ := HXb.out _ h2
      obtain ⟨y0, y1, y2, y3, y4, y5, y6, y7, y8, yf⟩ := HYb.out _ h2
      go_wp2_with fail
      refine (HF.out _ _ (HV.out _ h2)).mono ?_
      rintro e w5 ⟨rfl, hb⟩
      have h3 := belowCC h2 hb
      clear hb
      clear x0 x1 x2 x3 x4 x5 x6 x7 x8 y0 y1 y2 y3 y4 y5 y6 y7 y8 xf yf
      obtain ⟨x0, x1, x2, x3, x4, x5, x6, x7, x8, xf⟩ := HXb.out _ h3
      obtain ⟨y0, y1, y2, y3, y4, y5, y6, y7, y8, yf⟩ := HYb.out _ h3
      go_wp2_with fail
      refine (HU.out _ _ (HV.out _ h3) (HW.out _ h3)).mono ?_
      rintro e w6 ⟨rfl, hb⟩
      have h4 := belowCC h3 hb
      clear hb
      clear x0 x1 x2 x3 x4 x5 x6 x7 x8 y0 y1 y2 y3 y4 y5 y6 y7 y8 xf yf
      go_upto_region 12 with (refine wpList_store_row rfl 47 (.tmp 17) (.tmp 60) rfl w6.heap.size #[.int .i64 0, .int .i64 0, .int .i64 0, .string ⟨#[]⟩, .string ⟨#[]⟩, .int .i64 0, .slice none 0 0, .string ⟨#[]⟩, .int .i64 0, .int .i64 0, .int .i64 0, .int .i64 0, .string ⟨#[]⟩, .string ⟨#[]⟩, .int .i64 0, .slice none 0 0, .string ⟨#[]⟩, .int .i64 0, .int .i64 0, .int .i64 0, .int .i64 0, .string ⟨#[]⟩, .string ⟨#[]⟩, .int .i64 0, .slice none 0 0, .string ⟨#[]⟩, .int .i64 0] rfl rfl 47 _ (alloc_new w6 (.cells #[.int .i64 0, .int .i64 0, .int .i64 0, .string ⟨#[]⟩, .string ⟨#[]⟩, .int .i64 0, .slice none 0 0, .string ⟨#[]⟩, .int .i64 0, .int .i64 0, .int .i64 0, .int .i64 0, .string ⟨#[]⟩, .string ⟨#[]⟩, .int .i64 0, .slice none 0 0, .string ⟨#[]⟩, .int .i64 0, .int .i64 0, .int .i64 0, .int .i64 0, .string ⟨#[]⟩, .string ⟨#[]⟩, .int .i64 0, .slice none 0 0, .string ⟨#[]⟩, .int .i64 0] 47)) hsz27 rfl (by decide +kernel) ?_)
      have hr4 := setRow_heap (w6.alloc (.cells #[.int .i64 0, .int .i64 0, .int .i64 0, .string ⟨#[]⟩, .string ⟨#[]⟩, .int .i64 0, .slice none 0 0, .string ⟨#[]⟩, .int .i64 0, .int .i64 0, .int .i64 0, .int .i64 0, .string ⟨#[]⟩, .string ⟨#[]⟩, .int .i64 0, .slice none 0 0, .string ⟨#[]⟩, .int .i64 0, .int .i64 0, .int .i64 0, .int .i64 0, .string ⟨#[]⟩, .string ⟨#[]⟩, .int .i64 0, .slice none 0 0, .string ⟨#[]⟩, .int .i64 0] 47)) w6.heap.size _ #[.int .i64 0, .int .i64 0, .int .i64 0, .string ⟨#[]⟩, .string ⟨#[]⟩, .int .i64 0, .slice none 0 0, .string ⟨#[]⟩, .int .i64 0, .int .i64 0, .int .i64 0, .int .i64 0, .string ⟨#[]⟩, .string ⟨#[]⟩, .int .i64 0, .slice none 0 0, .string ⟨#[]⟩, .int .i64 0, .int .i64 0, .int .i64 0, .int .i64 0, .string ⟨#[]⟩, .string ⟨#[]⟩, .int .i64 0, .slice none 0 0, .string ⟨#[]⟩, .int .i64 0] 47 (0, 0) (alloc_new w6 (.cells #[.int .i64 0, .int .i64 0, .int .i64 0, .string ⟨#[]⟩, .string ⟨#[]⟩, .int .i64 0, .slice none 0 0, .string ⟨#[]⟩, .int .i64 0, .int .i64 0, .int .i64 0, .int .i64 0, .string ⟨#[]⟩, .string ⟨#[]⟩, .int .i64 0, .slice none 0 0, .string ⟨#[]⟩, .int .i64 0, .int .i64 0, .int .i64 0, .int .i64 0, .string ⟨#[]⟩, .string ⟨#[]⟩, .int .i64 0, .slice none 0 0, .string ⟨#[]⟩, .int .i64 0] 47))
      have ht4 : TouchB (fun i => i = w6.heap.size) (w6.alloc (.cells #[.int .i64 0, .int .i64 0, .int .i64 0, .string ⟨#[]⟩, .string ⟨#[]⟩, .int .i64 0, .slice none 0 0, .string ⟨#[]⟩, .int .i64 0, .int .i64 0, .int .i64 0, .int .i64 0, .string ⟨#[]⟩, .string ⟨#[]⟩, .int .i64 0, .slice none 0 0, .string ⟨#[]⟩, .int .i64 0, .int .i64 0, .int .i64 0, .int .i64 0, .string ⟨#[]⟩, .string ⟨#[]⟩, .int .i64 0, .slice none 0 0, .string ⟨#[]⟩, .int .i64 0] 47)) ((w6.alloc (.cells #[.int .i64 0, .int .i64 0, .int .i64 0, .string ⟨#[]⟩, .string ⟨#[]⟩, .int .i64 0, .slice none 0 0, .string ⟨#[]⟩, .int .i64 0, .int .i64 0, .int .i64 0, .int .i64 0, .string ⟨#[]⟩, .string ⟨#[]⟩, .int .i64 0, .slice none 0 0, .string ⟨#[]⟩, .int .i64 0, .int .i64 0, .int .i64 0, .int .i64 0, .string ⟨#[]⟩, .string ⟨#[]⟩, .int .i64 0, .slice none 0 0, .string ⟨#[]⟩, .int .i64 0] 47)).setRow w6.heap.size #[.int .i64 0, .int .i64 0, .int .i64 0, .string ⟨#[]⟩, .string ⟨#[]⟩, .int .i64 0, .slice none 0 0, .string ⟨#[]⟩, .int .i64 0, .int .i64 0, .int .i64 0, .int .i64 0, .string ⟨#[]⟩, .string ⟨#[]⟩, .int .i64 0, .slice none 0 0, .string ⟨#[]⟩, .int .i64 0, .int .i64 0, .int .i64 0, .int .i64 0, .string ⟨#[]⟩, .string ⟨#[]⟩, .int .i64 0, .slice none 0 0, .string ⟨#[]⟩, .int .i64 0]) := ⟨rfl, rfl, rfl, by simp, fun k hk hn => by simp [World.setRow, Array.getElem?_modify, show ¬ w6.heap.size = k from fun e => hn e.symm]⟩
      have h5 : Below wr.heap.size wr ((w6.alloc (.cells #[.int .i64 0, .int .i64 0, .int .i64 0, .string ⟨#[]⟩, .string ⟨#[]⟩, .int .i64 0, .slice none 0 0, .string ⟨#[]⟩, .int .i64 0, .int .i64 0, .int .i64 0, .int .i64 0, .string ⟨#[]⟩, .string ⟨#[]⟩, .int .i64 0, .slice none 0 0, .string ⟨#[]⟩, .int .i64 0, .int .i64 0, .int .i64 0, .int .i64 0, .string ⟨#[]⟩, .string ⟨#[]⟩, .int .i64 0, .slice none 0 0, .string ⟨#[]⟩, .int .i64 0] 47)).setRow w6.heap.size #[.int .i64 0, .int .i64 0, .int .i64 0, .string ⟨#[]⟩, .string ⟨#[]⟩, .int .i64 0, .slice none 0 0, .string ⟨#[]⟩, .int .i64 0, .int .i64 0, .int .i64 0, .int .i64 0, .string ⟨#[]⟩, .string ⟨#[]⟩, .int .i64 0, .slice none 0 0, .string ⟨#[]⟩, .int .i64 0, .int .i64 0, .int .i64 0, .int .i64 0, .string ⟨#[]⟩, .string ⟨#[]⟩, .int .i64 0, .slice none 0 0, .string ⟨#[]⟩, .int .i64 0]) := (belowAA h4 _).trans (ht4.below (fun k hk => by rw [hk]; exact h4.size) (belowAA h4 _).size)
      have hl6 := (Array.getElem?_eq_some_iff.1 hr4).1
      generalize ((w6.alloc (.cells #[.int .i64 0, .int .i64 0, .int .i64 0, .string ⟨#[]⟩, .string ⟨#[]⟩, .int .i64 0, .slice none 0 0, .string ⟨#[]⟩, .int .i64 0, .int .i64 0, .int .i64 0, .int .i64 0, .string ⟨#[]⟩, .string ⟨#[]⟩, .int .i64 0, .slice none 0 0, .string ⟨#[]⟩, .int .i64 0, .int .i64 0, .int .i64 0, .int .i64 0, .string ⟨#[]⟩, .string ⟨#[]⟩, .int .i64 0, .slice none 0 0, .string ⟨#[]⟩, .int .i64 0] 47)).setRow w6.heap.size #[.int .i64 0, .int .i64 0, .int .i64 0, .string ⟨#[]⟩, .string ⟨#[]⟩, .int .i64 0, .slice none 0 0, .string ⟨#[]⟩, .int .i64 0, .int .i64 0, .int .i64 0, .int .i64 0, .string ⟨#[]⟩, .string ⟨#[]⟩, .int .i64 0, .slice none 0 0, .string ⟨#[]⟩, .int .i64 0, .int .i64 0, .int .i64 0, .int .i64 0, .string ⟨#[]⟩, .string ⟨#[]⟩, .int .i64 0, .slice none 0 0, .string ⟨#[]⟩, .int .i64 0]) = w7 at *
      generalize w6.heap.size = zm at *
      clear ht4
      have HM := Lib.hid (fun W' (hW : Below w7.heap.size w7 W') => (hW.block _ hl6).trans hr4)
      clear hr4 hl6
      have q5 := Below.refl w7.heap.size w7
      obtain ⟨x0, x1, x2, x3, x4, x5, x6, x7, x8, xf⟩ := HXb.out _ h5
      obtain ⟨y0, y1, y2, y3, y4, y5, y6, y7, y8, yf⟩ := HYb.out _ h5
      go_wp2_with fail
      refine (HC.out _ _ (HV.out _ h5)).mono ?_
      rintro e w8 ⟨rfl, hb⟩
      have h6 := belowCC h5 hb
      have q6 := belowCC q5 hb
      clear hb
      clear x0 x1 x2 x3 x4 x5 x6 x7 x8 y0 y1 y2 y3 y4 y5 y6 y7 y8 xf yf
      obtain ⟨x0, x1, x2, x3, x4, x5, x6, x7, x8, xf⟩ := HXb.out _ h6
      obtain ⟨y0, y1, y2, y3, y4, y5, y6, y7, y8, yf⟩ := HYb.out _ h6
      go_wp2_with fail
      refine (HL.out _ _ (HV.out _ h6)).mono ?_
      rintro e w9 ⟨rfl, hb⟩
      have h7 := belowCC h6 hb
      have q7 := belowCC q6 hb
      clear hb
      clear x0 x1 x2 x3 x4 x5 x6 x7 x8 y0 y1 y2 y3 y4 y5 y6 y7 y8 xf yf
      obtain ⟨x0, x1, x2, x3, x4, x5, x6, x7, x8, xf⟩ := HXb.out _ h7
      obtain ⟨y0, y1, y2, y3, y4, y5, y6, y7, y8, yf⟩ := HYb.out _ h7
      go_wp2_with fail
      refine (HAk.out _ _ (HV.out _ h7)).mono ?_
      rintro e w10 ⟨rfl, hb⟩
      have h8 := belowCC h7 hb
      have q8 := belowCC q7 hb
      clear hb
      clear x0 x1 x2 x3 x4 x5 x6 x7 x8 y0 y1 y2 y3 y4 y5 y6 y7 y8 xf yf
      obtain ⟨x0, x1, x2, x3, x4, x5, x6, x7, x8, xf⟩ := HXb.out _ h8
      obtain ⟨y0, y1, y2, y3, y4, y5, y6, y7, y8, yf⟩ := HYb.out _ h8
      go_wp2_with fail
      refine (HWt.out _ _ (HV.out _ h8)).mono ?_
      rintro e w11 ⟨rfl, hb⟩
      have h9 := belowCC h8 hb
      have q9 := belowCC q8 hb
      clear hb
      clear x0 x1 x2 x3 x4 x5 x6 x7 x8 y0 y1 y2 y3 y4 y5 y6 y7 y8 xf yf
      go_upto_region 14 with (fail)
      have HVx := Lib.hid (fun W' (hW : Below w11.heap.size w11 W') => HV.out W' (belowCC h9 hW))
      have HWx := Lib.hid (fun W' (hW : Below w11.heap.size w11 W') => HW.out W' (belowCC h9 hW))
      have HXx := Lib.hid (fun W' (hW : Below w11.heap.size w11 W') => HXb.out W' (belowCC h9 hW))
      have HMx := Lib.hid (fun W' (hW : Below w11.heap.size w11 W') => HM.out W' (belowCC q9 hW))
      have H9 := Lib.hid h9
      clear h0 h1 h2 h3 h4 h5 h6 h7 h8 h9 q5 q6 q7 q8 q9 HXb HYb HM HJ HPt HF HC HL HAk HWt HU HV HW hcv
      have hbd : Below w11.heap.size w11 w11.drew := belowD (Below.refl _ _)
      obtain ⟨x0, x1, x2, x3, x4, x5, x6, x7, x8, xf⟩ := HXx.out _ hbd
      have mh := HMx.out _ hbd
      refine wp_region_held_drew (S := (fun w' => w'.cell? ⟨W.heap.size, 0, none⟩ = some (.int .i64 ak) ∧ w'.cell? ⟨W.heap.size, 1, none⟩ = some (.int .i64 ai) ∧ w'.cell? ⟨W.heap.size, 2, none⟩ = some (.int .i64 ag) ∧ w'.cell? ⟨W.heap.size, 3, none⟩ = some (.string an) ∧ w'.cell? ⟨W.heap.size, 4, none⟩ = some (.string af) ∧ w'.cell? ⟨W.heap.size, 5, none⟩ = some (.int .i64 aa) ∧ w'.cell? ⟨W.heap.size, 6, none⟩ = some (.slice ppa nna cca) ∧ w'.cell? ⟨W.heap.size, 7, none⟩ = some (.string ab) ∧ w'.cell? ⟨W.heap.size, 8, none⟩ = some (.int .i64 az) ∧ w'.heap[zm]? = some (.cells #[.int .i64 0, .int .i64 0, .int .i64 0, .string ⟨#[]⟩, .string ⟨#[]⟩, .int .i64 0, .slice none 0 0, .string ⟨#[]⟩, .int .i64 0, .int .i64 0, .int .i64 0, .int .i64 0, .string ⟨#[]⟩, .string ⟨#[]⟩, .int .i64 0, .slice none 0 0, .string ⟨#[]⟩, .int .i64 0, .int .i64 0, .int .i64 0, .int .i64 0, .string ⟨#[]⟩, .string ⟨#[]⟩, .int .i64 0, .slice none 0 0, .string ⟨#[]⟩, .int .i64 0] 47))) (by kernel_rfl) ?_ (fun hHeld => ?_)
      · exact ⟨x0, x1, x2, x3, x4, x5, x6, x7, x8, mh⟩
      refine wpAnyH_take (i := 0) (oi := { dst := some 100, op := Op.move (Operand.tmp 10), type := 4, pos := "law.go:171", after := #[], guard := none }) (v := ?vv0) rfl (by kernel_rfl) (by kernel_rfl) (by kernel_rfl) (fun _ _ _ h => h) (Or.inl ⟨by rfl, ?hy0⟩) (by assumption) ?rs0
      case hy0 =>
        intro w hSw
        (try dsimp only at hSw)
        go_simp
        (try with_reducible rfl)
      (try simp only [Act.put, List.setIfInBounds_toArray, List.set_cons_zero, List.set_cons_succ])
      refine wpAnyH_take (i := 1) (oi := { dst := some 101, op := Op.move (Operand.tmp 100), type := 4, pos := "law.go:171", after := #[{ on := 0, ground := Ground.data }], guard := none }) (v := ?vv1) rfl (by kernel_rfl) (by kernel_rfl) (by kernel_rfl) (fun _ _ _ h => h) (Or.inl ⟨by rfl, ?hy1⟩) (by assumption) ?rs1
      case hy1 =>
        intro w hSw
        (try dsimp only at hSw)
        go_simp
        (try with_reducible rfl)
      (try simp only [Act.put, List.setIfInBounds_toArray, List.set_cons_zero, List.set_cons_succ])
      refine wpAnyH_take (i := 2) (oi := { dst := some 102, op := Op.move (Operand.tmp 12), type := 2, pos := "law.go:171", after := #[{ on := 1, ground := Ground.guard }], guard := some (1, false) }) (v := ?vv2) rfl (by kernel_rfl) (by kernel_rfl) (by kernel_rfl) (fun _ _ _ h => h) (Or.inl ⟨by rfl, ?hy2⟩) (by assumption) ?rs2
      case hy2 =>
        intro w hSw
        (try dsimp only at hSw)
        go_simp
        (try with_reducible rfl)
      (try simp only [Act.put, List.setIfInBounds_toArray, List.set_cons_zero, List.set_cons_succ])
      refine wpAnyH_take (i := 3) (oi := { dst := some 103, op := Op.binOp BinOp.neq 2 (Operand.tmp 102) (Operand.const (Value.int IntKind.i64 0)) 2, type := 4, pos := "law.go:171", after := #[{ on := 2, ground := Ground.data }, { on := 1, ground := Ground.guard }], guard := some (1, false) }) (v := ?vv3) rfl (by kernel_rfl) (by kernel_rfl) (by kernel_rfl) (fun _ _ _ h => h) (Or.inl ⟨by rfl, ?hy3⟩) (by assumption) ?rs3
      case hy3 =>
        intro w hSw
        (try dsimp only at hSw)
        go_simp
        (try with_reducible rfl)
      (try simp only [Act.put, List.setIfInBounds_toArray, List.set_cons_zero, List.set_cons_succ])
      refine wpAnyH_take (i := 4) (oi := { dst := some 104, op := Op.pick (Operand.tmp 101) (Operand.const (Value.bool true)) (Operand.tmp 103), type := 4, pos := "law.go:171", after := #[{ on := 1, ground := Ground.data }, { on := 3, ground := Ground.data }], guard := none }) (v := ?vv4) rfl (by kernel_rfl) (by kernel_rfl) (by kernel_rfl) (fun _ _ _ h => h) (Or.inl ⟨by rfl, ?hy4⟩) (by assumption) ?rs4
      case hy4 =>
        intro w hSw
        (try dsimp only at hSw)
        go_simp
        (try with_reducible rfl)
      (try simp only [Act.put, List.setIfInBounds_toArray, List.set_cons_zero, List.set_cons_succ])
      refine wpAnyH_take (i := 5) (oi := { dst := some 105, op := Op.move (Operand.tmp 104), type := 4, pos := "law.go:171", after := #[{ on := 4, ground := Ground.data }, { on := 1, ground := Ground.chain }], guard := none }) (v := ?vv5) rfl (by kernel_rfl) (by kernel_rfl) (by kernel_rfl) (fun _ _ _ h => h) (Or.inl ⟨by rfl, ?hy5⟩) (by assumption) ?rs5
      case hy5 =>
        intro w hSw
        (try dsimp only at hSw)
        go_simp
        (try with_reducible rfl)
      (try simp only [Act.put, List.setIfInBounds_toArray, List.set_cons_zero, List.set_cons_succ])
      refine wpAnyH_take (i := 6) (oi := { dst := some 106, op := Op.move (Operand.tmp 13), type := 4, pos := "law.go:171", after := #[{ on := 5, ground := Ground.guard }], guard := some (5, false) }) (v := ?vv6) rfl (by kernel_rfl) (by kernel_rfl) (by kernel_rfl) (fun _ _ _ h => h) (Or.inl ⟨by rfl, ?hy6⟩) (by assumption) ?rs6
      case hy6 =>
        intro w hSw
        (try dsimp only at hSw)
        go_simp
        (try with_reducible rfl)
      (try simp only [Act.put, List.setIfInBounds_toArray, List.set_cons_zero, List.set_cons_succ])
      refine wpAnyH_take (i := 7) (oi := { dst := some 107, op := Op.pick (Operand.tmp 105) (Operand.const (Value.bool true)) (Operand.tmp 106), type := 4, pos := "law.go:171", after := #[{ on := 5, ground := Ground.data }, { on := 6, ground := Ground.data }], guard := none }) (v := ?vv7) rfl (by kernel_rfl) (by kernel_rfl) (by kernel_rfl) (fun _ _ _ h => h) (Or.inl ⟨by rfl, ?hy7⟩) (by assumption) ?rs7
      case hy7 =>
        intro w hSw
        (try dsimp only at hSw)
        go_simp
        (try with_reducible rfl)
      (try simp only [Act.put, List.setIfInBounds_toArray, List.set_cons_zero, List.set_cons_succ])
      refine wpAnyH_take (i := 8) (oi := { dst := some 108, op := Op.move (Operand.tmp 107), type := 4, pos := "law.go:171", after := #[{ on := 7, ground := Ground.data }, { on := 5, ground := Ground.chain }], guard := none }) (v := ?vv8) rfl (by kernel_rfl) (by kernel_rfl) (by kernel_rfl) (fun _ _ _ h => h) (Or.inl ⟨by rfl, ?hy8⟩) (by assumption) ?rs8
      case hy8 =>
        intro w hSw
        (try dsimp only at hSw)
        go_simp
        (try with_reducible rfl)
      (try simp only [Act.put, List.setIfInBounds_toArray, List.set_cons_zero, List.set_cons_succ])
      refine wpAnyH_take (i := 9) (oi := { dst := some 109, op := Op.move (Operand.tmp 15), type := 4, pos := "law.go:171", after := #[{ on := 8, ground := Ground.guard }], guard := some (8, false) }) (v := ?vv9) rfl (by kernel_rfl) (by kernel_rfl) (by kernel_rfl) (fun _ _ _ h => h) (Or.inl ⟨by rfl, ?hy9⟩) (by assumption) ?rs9
      case hy9 =>
        intro w hSw
        (try dsimp only at hSw)
        go_simp
        (try with_reducible rfl)
      (try simp only [Act.put, List.setIfInBounds_toArray, List.set_cons_zero, List.set_cons_succ])
      refine wpAnyH_take (i := 10) (oi := { dst := some 110, op := Op.pick (Operand.tmp 108) (Operand.const (Value.bool true)) (Operand.tmp 109), type := 4, pos := "law.go:171", after := #[{ on := 8, ground := Ground.data }, { on := 9, ground := Ground.data }], guard := none }) (v := ?vv10) rfl (by kernel_rfl) (by kernel_rfl) (by kernel_rfl) (fun _ _ _ h => h) (Or.inl ⟨by rfl, ?hy10⟩) (by assumption) ?rs10
      case hy10 =>
        intro w hSw
        (try dsimp only at hSw)
        go_simp
        (try with_reducible rfl)
      (try simp only [Act.put, List.setIfInBounds_toArray, List.set_cons_zero, List.set_cons_succ])
      refine wpAnyH_take (i := 11) (oi := { dst := some 111, op := Op.move (Operand.tmp 110), type := 4, pos := "law.go:171", after := #[{ on := 10, ground := Ground.data }, { on := 8, ground := Ground.chain }], guard := none }) (v := ?vv11) rfl (by kernel_rfl) (by kernel_rfl) (by kernel_rfl) (fun _ _ _ h => h) (Or.inl ⟨by rfl, ?hy11⟩) (by assumption) ?rs11
      case hy11 =>
        intro w hSw
        (try dsimp only at hSw)
        go_simp
        (try with_reducible rfl)
      (try simp only [Act.put, List.setIfInBounds_toArray, List.set_cons_zero, List.set_cons_succ])
      refine wpAnyH_take (i := 12) (oi := { dst := some 112, op := Op.move (Operand.tmp 18), type := 4, pos := "law.go:171", after := #[{ on := 11, ground := Ground.guard }], guard := some (11, false) }) (v := ?vv12) rfl (by kernel_rfl) (by kernel_rfl) (by kernel_rfl) (fun _ _ _ h => h) (Or.inl ⟨by rfl, ?hy12⟩) (by assumption) ?rs12
      case hy12 =>
        intro w hSw
        (try dsimp only at hSw)
        go_simp
        (try with_reducible rfl)
      (try simp only [Act.put, List.setIfInBounds_toArray, List.set_cons_zero, List.set_cons_succ])
      refine wpAnyH_take (i := 13) (oi := { dst := some 113, op := Op.pick (Operand.tmp 111) (Operand.const (Value.bool true)) (Operand.tmp 112), type := 4, pos := "law.go:171", after := #[{ on := 11, ground := Ground.data }, { on := 12, ground := Ground.data }], guard := none }) (v := ?vv13) rfl (by kernel_rfl) (by kernel_rfl) (by kernel_rfl) (fun _ _ _ h => h) (Or.inl ⟨by rfl, ?hy13⟩) (by assumption) ?rs13
      case hy13 =>
        intro w hSw
        (try dsimp only at hSw)
        go_simp
        (try with_reducible rfl)
      (try simp only [Act.put, List.setIfInBounds_toArray, List.set_cons_zero, List.set_cons_succ])
      refine wpAnyH_take (i := 14) (oi := { dst := some 114, op := Op.move (Operand.tmp 113), type := 4, pos := "law.go:171", after := #[{ on := 13, ground := Ground.data }, { on := 11, ground := Ground.chain }], guard := none }) (v := ?vv14) rfl (by kernel_rfl) (by kernel_rfl) (by kernel_rfl) (fun _ _ _ h => h) (Or.inl ⟨by rfl, ?hy14⟩) (by assumption) ?rs14
      case hy14 =>
        intro w hSw
        (try dsimp only at hSw)
        go_simp
        (try with_reducible rfl)
      (try simp only [Act.put, List.setIfInBounds_toArray, List.set_cons_zero, List.set_cons_succ])
      refine wpAnyH_take (i := 15) (oi := { dst := some 115, op := Op.load 47 (Operand.tmp 17), type := 47, pos := "law.go:171", after := #[{ on := 14, ground := Ground.guard }], guard := some (14, false) }) rfl (by kernel_rfl) (by kernel_rfl) (by kernel_rfl) (fun _ _ _ h => h) (yields_row (by rfl) 47 (.tmp 17) rfl zm rfl _ (fun w hs => run_loadVar_row w zm 47 47 _ (0, 0) _ hs.2.2.2.2.2.2.2.2.2 Tryz.underlying47 rfl hsz27)) (by assumption) ?_
      (try simp only [Act.put, List.setIfInBounds_toArray, List.set_cons_zero, List.set_cons_succ])
      refine wpAnyH_take (i := 16) (oi := { dst := some 116, op := Op.build 47 #[], type := 47, pos := "law.go:171", after := #[{ on := 14, ground := Ground.guard }], guard := some (14, false) }) (v := ?vv16) rfl (by kernel_rfl) (by kernel_rfl) (by kernel_rfl) (fun _ _ _ h => h) (Or.inl ⟨by rfl, ?hy16⟩) (by assumption) ?rs16
      case hy16 =>
        intro w hSw
        (try dsimp only at hSw)
        go_simp
        (try with_reducible rfl)
      (try simp only [Act.put, List.setIfInBounds_toArray, List.set_cons_zero, List.set_cons_succ])
      refine wpAnyH_ready (rs := [17]) (by kernel_rfl) (by simp) ?_
      refine AllReadyH.cons (o := { dst := some 117, op := Op.call { callee := Callee.value (Operand.func 32), args := #[Operand.tmp 115, Operand.tmp 116], argTypes := #[47, 47] }, type := 4, pos := "law.go:171", after := #[{ on := 15, ground := Ground.data }, { on := 16, ground := Ground.data }, { on := 14, ground := Ground.chain }, { on := 14, ground := Ground.guard }], guard := some (14, false) }) rfl (fun K hK => ?_) AllReadyH.nil
      go_simp
      refine (HSm.out _).mono ?_
      rintro e w32 ⟨rfl, hb⟩
      replace hbd := hbd.trans (hb.mono hbd.size)
      clear x0 x1 x2 x3 x4 x5 x6 x7 x8 xf mh
      obtain ⟨x0, x1, x2, x3, x4, x5, x6, x7, x8, xf⟩ := HXx.out _ hbd
      have mh := HMx.out _ hbd
      clear hb
      go_wp2_with fail
      refine hK.out _ _ ?_ (fun hHeld => ?_)
      · exact ⟨x0, x1, x2, x3, x4, x5, x6, x7, x8, mh⟩
      clear hK K
      (try simp only [Act.put, List.setIfInBounds_toArray, List.set_cons_zero, List.set_cons_succ])
      refine wpAnyH_take (i := 18) (oi := { dst := some 118, op := Op.unOp UnOp.not 4 (Operand.tmp 117), type := 4, pos := "law.go:171", after := #[{ on := 17, ground := Ground.data }, { on := 14, ground := Ground.guard }], guard := some (14, false) }) (v := ?vv18) rfl (by kernel_rfl) (by kernel_rfl) (by kernel_rfl) (fun _ _ _ h => h) (Or.inl ⟨by rfl, ?hy18⟩) (by assumption) ?rs18
      case hy18 =>
        intro w hSw
        (try dsimp only at hSw)
        go_simp
        (try with_reducible rfl)
      (try simp only [Act.put, List.setIfInBounds_toArray, List.set_cons_zero, List.set_cons_succ])
      refine wpAnyH_take (i := 19) (oi := { dst := some 119, op := Op.pick (Operand.tmp 114) (Operand.const (Value.bool true)) (Operand.tmp 118), type := 4, pos := "law.go:171", after := #[{ on := 14, ground := Ground.data }, { on := 18, ground := Ground.data }], guard := none }) (v := ?vv19) rfl (by kernel_rfl) (by kernel_rfl) (by kernel_rfl) (fun _ _ _ h => h) (Or.inl ⟨by rfl, ?hy19⟩) (by assumption) ?rs19
      case hy19 =>
        intro w hSw
        (try dsimp only at hSw)
        go_simp
        (try with_reducible rfl)
      (try simp only [Act.put, List.setIfInBounds_toArray, List.set_cons_zero, List.set_cons_succ])
      refine wpAnyH_take (i := 20) (oi := { dst := some 120, op := Op.move (Operand.tmp 119), type := 4, pos := "law.go:171", after := #[{ on := 19, ground := Ground.data }, { on := 17, ground := Ground.chain }], guard := none }) (v := ?vv20) rfl (by kernel_rfl) (by kernel_rfl) (by kernel_rfl) (fun _ _ _ h => h) (Or.inl ⟨by rfl, ?hy20⟩) (by assumption) ?rs20
      case hy20 =>
        intro w hSw
        (try dsimp only at hSw)
        go_simp
        (try with_reducible rfl)
      (try simp only [Act.put, List.setIfInBounds_toArray, List.set_cons_zero, List.set_cons_succ])
      refine wpAnyH_take (i := 21) (oi := { dst := some 121, op := Op.move (Operand.tmp 9), type := 24, pos := "law.go:171", after := #[{ on := 20, ground := Ground.guard }], guard := some (20, false) }) (v := ?vv21) rfl (by kernel_rfl) (by kernel_rfl) (by kernel_rfl) (fun _ _ _ h => h) (Or.inl ⟨by rfl, ?hy21⟩) (by assumption) ?rs21
      case hy21 =>
        intro w hSw
        (try dsimp only at hSw)
        go_simp
        (try with_reducible rfl)
      (try simp only [Act.put, List.setIfInBounds_toArray, List.set_cons_zero, List.set_cons_succ])
      refine wpAnyH_take (i := 22) (oi := { dst := some 122, op := Op.load 30 (Operand.tmp 3), type := 30, pos := "law.go:171", after := #[{ on := 20, ground := Ground.guard }], guard := some (20, false) }) (v := ?vv22) rfl (by kernel_rfl) (by kernel_rfl) (by kernel_rfl) (fun _ _ _ h => h) (Or.inl ⟨by rfl, ?hy22⟩) (by assumption) ?rs22
      case hy22 =>
        intro w hSw
        (try dsimp only at hSw)
        go_simp
        (try with_reducible rfl)
      (try simp only [Act.put, List.setIfInBounds_toArray, List.set_cons_zero, List.set_cons_succ])
      refine wpAnyH_take (i := 25) (oi := { dst := some 125, op := Op.move (Operand.tmp 9), type := 24, pos := "law.go:171", after := #[{ on := 20, ground := Ground.guard }], guard := some (20, false) }) (v := ?vv25) rfl (by kernel_rfl) (by kernel_rfl) (by kernel_rfl) (fun _ _ _ h => h) (Or.inl ⟨by rfl, ?hy25⟩) (by assumption) ?rs25
      case hy25 =>
        intro w hSw
        (try dsimp only at hSw)
        go_simp
        (try with_reducible rfl)
      (try simp only [Act.put, List.setIfInBounds_toArray, List.set_cons_zero, List.set_cons_succ])
      refine wpAnyH_take (i := 26) (oi := { dst := some 126, op := Op.load 30 (Operand.tmp 3), type := 30, pos := "law.go:171", after := #[{ on := 20, ground := Ground.guard }], guard := some (20, false) }) (v := ?vv26) rfl (by kernel_rfl) (by kernel_rfl) (by kernel_rfl) (fun _ _ _ h => h) (Or.inl ⟨by rfl, ?hy26⟩) (by assumption) ?rs26
      case hy26 =>
        intro w hSw
        (try dsimp only at hSw)
        go_simp
        (try with_reducible rfl)
      (try simp only [Act.put, List.setIfInBounds_toArray, List.set_cons_zero, List.set_cons_succ])
      refine wpAnyH_take (i := 30) (oi := { dst := some 130, op := Op.move (Operand.tmp 9), type := 24, pos := "law.go:171", after := #[{ on := 20, ground := Ground.guard }], guard := some (20, false) }) (v := ?vv30) rfl (by kernel_rfl) (by kernel_rfl) (by kernel_rfl) (fun _ _ _ h => h) (Or.inl ⟨by rfl, ?hy30⟩) (by assumption) ?rs30
      case hy30 =>
        intro w hSw
        (try dsimp only at hSw)
        go_simp
        (try with_reducible rfl)
      (try simp only [Act.put, List.setIfInBounds_toArray, List.set_cons_zero, List.set_cons_succ])
      refine wpAnyH_take (i := 31) (oi := { dst := some 131, op := Op.move (Operand.tmp 2), type := 9, pos := "law.go:171", after := #[{ on := 20, ground := Ground.guard }], guard := some (20, false) }) (v := ?vv31) rfl (by kernel_rfl) (by kernel_rfl) (by kernel_rfl) (fun _ _ _ h => h) (Or.inl ⟨by rfl, ?hy31⟩) (by assumption) ?rs31
      case hy31 =>
        intro w hSw
        (try dsimp only at hSw)
        go_simp
        (try with_reducible rfl)
      (try simp only [Act.put, List.setIfInBounds_toArray, List.set_cons_zero, List.set_cons_succ])
      refine wpAnyH_take (i := 35) (oi := { dst := some 135, op := Op.move (Operand.tmp 9), type := 24, pos := "law.go:171", after := #[{ on := 20, ground := Ground.guard }], guard := some (20, false) }) (v := ?vv35) rfl (by kernel_rfl) (by kernel_rfl) (by kernel_rfl) (fun _ _ _ h => h) (Or.inl ⟨by rfl, ?hy35⟩) (by assumption) ?rs35
      case hy35 =>
        intro w hSw
        (try dsimp only at hSw)
        go_simp
        (try with_reducible rfl)
      (try simp only [Act.put, List.setIfInBounds_toArray, List.set_cons_zero, List.set_cons_succ])
      refine wpAnyH_take (i := 36) (oi := { dst := some 136, op := Op.load 30 (Operand.tmp 3), type := 30, pos := "law.go:171", after := #[{ on := 20, ground := Ground.guard }], guard := some (20, false) }) (v := ?vv36) rfl (by kernel_rfl) (by kernel_rfl) (by kernel_rfl) (fun _ _ _ h => h) (Or.inl ⟨by rfl, ?hy36⟩) (by assumption) ?rs36
      case hy36 =>
        intro w hSw
        (try dsimp only at hSw)
        go_simp
        (try with_reducible rfl)
      (try simp only [Act.put, List.setIfInBounds_toArray, List.set_cons_zero, List.set_cons_succ])
      refine wpAnyH_take (i := 40) (oi := { dst := some 140, op := Op.move (Operand.tmp 9), type := 24, pos := "law.go:171", after := #[{ on := 20, ground := Ground.guard }], guard := some (20, false) }) (v := ?vv40) rfl (by kernel_rfl) (by kernel_rfl) (by kernel_rfl) (fun _ _ _ h => h) (Or.inl ⟨by rfl, ?hy40⟩) (by assumption) ?rs40
      case hy40 =>
        intro w hSw
        (try dsimp only at hSw)
        go_simp
        (try with_reducible rfl)
      (try simp only [Act.put, List.setIfInBounds_toArray, List.set_cons_zero, List.set_cons_succ])
      refine wpAnyH_take (i := 41) (oi := { dst := some 141, op := Op.load 30 (Operand.tmp 3), type := 30, pos := "law.go:171", after := #[{ on := 20, ground := Ground.guard }], guard := some (20, false) }) (v := ?vv41) rfl (by kernel_rfl) (by kernel_rfl) (by kernel_rfl) (fun _ _ _ h => h) (Or.inl ⟨by rfl, ?hy41⟩) (by assumption) ?rs41
      case hy41 =>
        intro w hSw
        (try dsimp only at hSw)
        go_simp
        (try with_reducible rfl)
      (try simp only [Act.put, List.setIfInBounds_toArray, List.set_cons_zero, List.set_cons_succ])
      refine wpAnyH_take (i := 45) (oi := { dst := some 145, op := Op.move (Operand.tmp 9), type := 24, pos := "law.go:171", after := #[{ on := 20, ground := Ground.guard }], guard := some (20, false) }) (v := ?vv45) rfl (by kernel_rfl) (by kernel_rfl) (by kernel_rfl) (fun _ _ _ h => h) (Or.inl ⟨by rfl, ?hy45⟩) (by assumption) ?rs45
      case hy45 =>
        intro w hSw
        (try dsimp only at hSw)
        go_simp
        (try with_reducible rfl)
      (try simp only [Act.put, List.setIfInBounds_toArray, List.set_cons_zero, List.set_cons_succ])
      refine wpAnyH_take (i := 46) (oi := { dst := some 146, op := Op.move (Operand.tmp 2), type := 9, pos := "law.go:171", after := #[{ on := 20, ground := Ground.guard }], guard := some (20, false) }) (v := ?vv46) rfl (by kernel_rfl) (by kernel_rfl) (by kernel_rfl) (fun _ _ _ h => h) (Or.inl ⟨by rfl, ?hy46⟩) (by assumption) ?rs46
      case hy46 =>
        intro w hSw
        (try dsimp only at hSw)
        go_simp
        (try with_reducible rfl)
      (try simp only [Act.put, List.setIfInBounds_toArray, List.set_cons_zero, List.set_cons_succ])
      refine wpAnyH_ready (rs := [23]) (by kernel_rfl) (by simp) ?_
      refine AllReadyH.cons (o := { dst := some 123, op := Op.call { callee := Callee.value (Operand.func 22), args := #[Operand.tmp 121, Operand.tmp 122], argTypes := #[24, 30] }, type := 28, pos := "law.go:171", after := #[{ on := 21, ground := Ground.data }, { on := 22, ground := Ground.data }, { on := 20, ground := Ground.chain }, { on := 20, ground := Ground.guard }], guard := some (20, false) }) rfl (fun K hK => ?_) AllReadyH.nil
      go_simp
      refine (HO.out _ _ (HVx.out _ hbd) (HWx.out _ hbd)).mono ?_
      rintro e w22 ⟨rfl, hb⟩
      replace hbd := hbd.trans (hb.mono hbd.size)
      clear x0 x1 x2 x3 x4 x5 x6 x7 x8 xf mh
      obtain ⟨x0, x1, x2, x3, x4, x5, x6, x7, x8, xf⟩ := HXx.out _ hbd
      have mh := HMx.out _ hbd
      clear hb
      go_wp2_with fail
      refine hK.out _ _ ?_ (fun hHeld => ?_)
      · exact ⟨x0, x1, x2, x3, x4, x5, x6, x7, x8, mh⟩
      clear hK K
      (try simp only [Act.put, List.setIfInBounds_toArray, List.set_cons_zero, List.set_cons_succ])
      refine wpAnyH_take (i := 24) (oi := { dst := some 124, op := Op.call { callee := Callee.builtin Builtin.len, args := #[Operand.tmp 123], argTypes := #[28] }, type := 3, pos := "law.go:171", after := #[{ on := 23, ground := Ground.data }, { on := 20, ground := Ground.guard }], guard := some (20, false) }) (v := ?vv24) rfl (by kernel_rfl) (by kernel_rfl) (by kernel_rfl) (fun _ _ _ h => h) (Or.inl ⟨by rfl, ?hy24⟩) (by assumption) ?rs24
      case hy24 =>
        intro w hSw
        (try dsimp only at hSw)
        go_simp
        (try with_reducible rfl)
      (try simp only [Act.put, List.setIfInBounds_toArray, List.set_cons_zero, List.set_cons_succ])
      refine wpAnyH_ready (rs := [27]) (by kernel_rfl) (by simp) ?_
      refine AllReadyH.cons (o := { dst := some 127, op := Op.call { callee := Callee.value (Operand.func 19), args := #[Operand.tmp 125, Operand.tmp 126], argTypes := #[24, 30] }, type := 28, pos := "law.go:171", after := #[{ on := 25, ground := Ground.data }, { on := 26, ground := Ground.data }, { on := 23, ground := Ground.chain }, { on := 20, ground := Ground.guard }], guard := some (20, false) }) rfl (fun K hK => ?_) AllReadyH.nil
      go_simp
      refine (HE.out _ _ (HVx.out _ hbd) (HWx.out _ hbd)).mono ?_
      rintro e w19 ⟨rfl, hb⟩
      replace hbd := hbd.trans (hb.mono hbd.size)
      clear x0 x1 x2 x3 x4 x5 x6 x7 x8 xf mh
      obtain ⟨x0, x1, x2, x3, x4, x5, x6, x7, x8, xf⟩ := HXx.out _ hbd
      have mh := HMx.out _ hbd
      clear hb
      go_wp2_with fail
      refine hK.out _ _ ?_ (fun hHeld => ?_)
      · exact ⟨x0, x1, x2, x3, x4, x5, x6, x7, x8, mh⟩
      clear hK K
      (try simp only [Act.put, List.setIfInBounds_toArray, List.set_cons_zero, List.set_cons_succ])
      refine wpAnyH_take (i := 28) (oi := { dst := some 128, op := Op.call { callee := Callee.builtin Builtin.len, args := #[Operand.tmp 127], argTypes := #[28] }, type := 3, pos := "law.go:171", after := #[{ on := 27, ground := Ground.data }, { on := 20, ground := Ground.guard }], guard := some (20, false) }) (v := ?vv28) rfl (by kernel_rfl) (by kernel_rfl) (by kernel_rfl) (fun _ _ _ h => h) (Or.inl ⟨by rfl, ?hy28⟩) (by assumption) ?rs28
      case hy28 =>
        intro w hSw
        (try dsimp only at hSw)
        go_simp
        (try with_reducible rfl)
      (try simp only [Act.put, List.setIfInBounds_toArray, List.set_cons_zero, List.set_cons_succ])
      refine wpAnyH_take (i := 29) (oi := { dst := some 129, op := Op.binOp BinOp.add 3 (Operand.tmp 124) (Operand.tmp 128) 3, type := 3, pos := "law.go:171", after := #[{ on := 24, ground := Ground.data }, { on := 28, ground := Ground.data }, { on := 20, ground := Ground.guard }], guard := some (20, false) }) (v := ?vv29) rfl (by kernel_rfl) (by kernel_rfl) (by kernel_rfl) (fun _ _ _ h => h) (Or.inl ⟨by rfl, ?hy29⟩) (by assumption) ?rs29
      case hy29 =>
        intro w hSw
        (try dsimp only at hSw)
        go_simp
        (try with_reducible rfl)
      (try simp only [Act.put, List.setIfInBounds_toArray, List.set_cons_zero, List.set_cons_succ])
      refine wpAnyH_ready (rs := [32]) (by kernel_rfl) (by simp) ?_
      refine AllReadyH.cons (o := { dst := some 132, op := Op.call { callee := Callee.value (Operand.func 37), args := #[Operand.tmp 130, Operand.tmp 131], argTypes := #[24, 9] }, type := 59, pos := "law.go:171", after := #[{ on := 30, ground := Ground.data }, { on := 31, ground := Ground.data }, { on := 27, ground := Ground.chain }, { on := 20, ground := Ground.guard }], guard := some (20, false) }) rfl (fun K hK => ?_) AllReadyH.nil
      go_simp
      refine (HLo.out _ _ (HVx.out _ hbd)).mono ?_
      rintro e w37 ⟨rfl, hb⟩
      replace hbd := hbd.trans (hb.mono hbd.size)
      clear x0 x1 x2 x3 x4 x5 x6 x7 x8 xf mh
      obtain ⟨x0, x1, x2, x3, x4, x5, x6, x7, x8, xf⟩ := HXx.out _ hbd
      have mh := HMx.out _ hbd
      clear hb
      go_wp2_with fail
      refine hK.out _ _ ?_ (fun hHeld => ?_)
      · exact ⟨x0, x1, x2, x3, x4, x5, x6, x7, x8, mh⟩
      clear hK K
      (try simp only [Act.put, List.setIfInBounds_toArray, List.set_cons_zero, List.set_cons_succ])
      refine wpAnyH_take (i := 33) (oi := { dst := some 133, op := Op.call { callee := Callee.builtin Builtin.len, args := #[Operand.tmp 132], argTypes := #[59] }, type := 3, pos := "law.go:171", after := #[{ on := 32, ground := Ground.data }, { on := 20, ground := Ground.guard }], guard := some (20, false) }) (v := ?vv33) rfl (by kernel_rfl) (by kernel_rfl) (by kernel_rfl) (fun _ _ _ h => h) (Or.inl ⟨by rfl, ?hy33⟩) (by assumption) ?rs33
      case hy33 =>
        intro w hSw
        (try dsimp only at hSw)
        go_simp
        (try with_reducible rfl)
      (try simp only [Act.put, List.setIfInBounds_toArray, List.set_cons_zero, List.set_cons_succ])
      refine wpAnyH_take (i := 34) (oi := { dst := some 134, op := Op.binOp BinOp.add 3 (Operand.tmp 129) (Operand.tmp 133) 3, type := 3, pos := "law.go:171", after := #[{ on := 29, ground := Ground.data }, { on := 33, ground := Ground.data }, { on := 20, ground := Ground.guard }], guard := some (20, false) }) (v := ?vv34) rfl (by kernel_rfl) (by kernel_rfl) (by kernel_rfl) (fun _ _ _ h => h) (Or.inl ⟨by rfl, ?hy34⟩) (by assumption) ?rs34
      case hy34 =>
        intro w hSw
        (try dsimp only at hSw)
        go_simp
        (try with_reducible rfl)
      (try simp only [Act.put, List.setIfInBounds_toArray, List.set_cons_zero, List.set_cons_succ])
      refine wpAnyH_ready (rs := [37]) (by kernel_rfl) (by simp) ?_
      refine AllReadyH.cons (o := { dst := some 137, op := Op.call { callee := Callee.value (Operand.func 30), args := #[Operand.tmp 135, Operand.tmp 136], argTypes := #[24, 30] }, type := 45, pos := "law.go:171", after := #[{ on := 35, ground := Ground.data }, { on := 36, ground := Ground.data }, { on := 32, ground := Ground.chain }, { on := 20, ground := Ground.guard }], guard := some (20, false) }) rfl (fun K hK => ?_) AllReadyH.nil
      go_simp
      refine (HWd.out _ _ (HVx.out _ hbd) (HWx.out _ hbd)).mono ?_
      rintro e w30 ⟨⟨p30, c30, rfl⟩, hb⟩
      replace hbd := hbd.trans (hb.mono hbd.size)
      clear x0 x1 x2 x3 x4 x5 x6 x7 x8 xf mh
      obtain ⟨x0, x1, x2, x3, x4, x5, x6, x7, x8, xf⟩ := HXx.out _ hbd
      have mh := HMx.out _ hbd
      clear hb
      go_wp2_with fail
      refine hK.out _ _ ?_ (fun hHeld => ?_)
      · exact ⟨x0, x1, x2, x3, x4, x5, x6, x7, x8, mh⟩
      clear hK K
      (try simp only [Act.put, List.setIfInBounds_toArray, List.set_cons_zero, List.set_cons_succ])
      refine wpAnyH_take (i := 38) (oi := { dst := some 138, op := Op.call { callee := Callee.builtin Builtin.len, args := #[Operand.tmp 137], argTypes := #[45] }, type := 3, pos := "law.go:171", after := #[{ on := 37, ground := Ground.data }, { on := 20, ground := Ground.guard }], guard := some (20, false) }) (v := ?vv38) rfl (by kernel_rfl) (by kernel_rfl) (by kernel_rfl) (fun _ _ _ h => h) (Or.inl ⟨by rfl, ?hy38⟩) (by assumption) ?rs38
      case hy38 =>
        intro w hSw
        (try dsimp only at hSw)
        go_simp
        (try with_reducible rfl)
      (try simp only [Act.put, List.setIfInBounds_toArray, List.set_cons_zero, List.set_cons_succ])
      refine wpAnyH_take (i := 39) (oi := { dst := some 139, op := Op.binOp BinOp.add 3 (Operand.tmp 134) (Operand.tmp 138) 3, type := 3, pos := "law.go:171", after := #[{ on := 34, ground := Ground.data }, { on := 38, ground := Ground.data }, { on := 20, ground := Ground.guard }], guard := some (20, false) }) (v := ?vv39) rfl (by kernel_rfl) (by kernel_rfl) (by kernel_rfl) (fun _ _ _ h => h) (Or.inl ⟨by rfl, ?hy39⟩) (by assumption) ?rs39
      case hy39 =>
        intro w hSw
        (try dsimp only at hSw)
        go_simp
        (try with_reducible rfl)
      (try simp only [Act.put, List.setIfInBounds_toArray, List.set_cons_zero, List.set_cons_succ])
      refine wpAnyH_ready (rs := [42]) (by kernel_rfl) (by simp) ?_
      refine AllReadyH.cons (o := { dst := some 142, op := Op.call { callee := Callee.value (Operand.func 29), args := #[Operand.tmp 140, Operand.tmp 141], argTypes := #[24, 30] }, type := 45, pos := "law.go:171", after := #[{ on := 40, ground := Ground.data }, { on := 41, ground := Ground.data }, { on := 37, ground := Ground.chain }, { on := 20, ground := Ground.guard }], guard := some (20, false) }) rfl (fun K hK => ?_) AllReadyH.nil
      go_simp
      refine (HH.out _ _ (HVx.out _ hbd) (HWx.out _ hbd)).mono ?_
      rintro e w29 ⟨⟨p29, c29, rfl⟩, hb⟩
      replace hbd := hbd.trans (hb.mono hbd.size)
      clear x0 x1 x2 x3 x4 x5 x6 x7 x8 xf mh
      obtain ⟨x0, x1, x2, x3, x4, x5, x6, x7, x8, xf⟩ := HXx.out _ hbd
      have mh := HMx.out _ hbd
      clear hb
      go_wp2_with fail
      refine hK.out _ _ ?_ (fun hHeld => ?_)
      · exact ⟨x0, x1, x2, x3, x4, x5, x6, x7, x8, mh⟩
      clear hK K
      (try simp only [Act.put, List.setIfInBounds_toArray, List.set_cons_zero, List.set_cons_succ])
      refine wpAnyH_take (i := 43) (oi := { dst := some 143, op := Op.call { callee := Callee.builtin Builtin.len, args := #[Operand.tmp 142], argTypes := #[45] }, type := 3, pos := "law.go:171", after := #[{ on := 42, ground := Ground.data }, { on := 20, ground := Ground.guard }], guard := some (20, false) }) (v := ?vv43) rfl (by kernel_rfl) (by kernel_rfl) (by kernel_rfl) (fun _ _ _ h => h) (Or.inl ⟨by rfl, ?hy43⟩) (by assumption) ?rs43
      case hy43 =>
        intro w hSw
        (try dsimp only at hSw)
        go_simp
        (try with_reducible rfl)
      (try simp only [Act.put, List.setIfInBounds_toArray, List.set_cons_zero, List.set_cons_succ])
      refine wpAnyH_take (i := 44) (oi := { dst := some 144, op := Op.binOp BinOp.add 3 (Operand.tmp 139) (Operand.tmp 143) 3, type := 3, pos := "law.go:171", after := #[{ on := 39, ground := Ground.data }, { on := 43, ground := Ground.data }, { on := 20, ground := Ground.guard }], guard := some (20, false) }) (v := ?vv44) rfl (by kernel_rfl) (by kernel_rfl) (by kernel_rfl) (fun _ _ _ h => h) (Or.inl ⟨by rfl, ?hy44⟩) (by assumption) ?rs44
      case hy44 =>
        intro w hSw
        (try dsimp only at hSw)
        go_simp
        (try with_reducible rfl)
      (try simp only [Act.put, List.setIfInBounds_toArray, List.set_cons_zero, List.set_cons_succ])
      refine wpAnyH_ready (rs := [47]) (by kernel_rfl) (by simp) ?_
      refine AllReadyH.cons (o := { dst := some 147, op := Op.call { callee := Callee.value (Operand.func 38), args := #[Operand.tmp 145, Operand.tmp 146], argTypes := #[24, 9] }, type := 45, pos := "law.go:171", after := #[{ on := 45, ground := Ground.data }, { on := 46, ground := Ground.data }, { on := 42, ground := Ground.chain }, { on := 20, ground := Ground.guard }], guard := some (20, false) }) rfl (fun K hK => ?_) AllReadyH.nil
      go_simp
      refine (HCu.out _ _ (HVx.out _ hbd)).mono ?_
      rintro e w38 ⟨⟨p38, c38, rfl⟩, hb⟩
      replace hbd := hbd.trans (hb.mono hbd.size)
      clear x0 x1 x2 x3 x4 x5 x6 x7 x8 xf mh
      obtain ⟨x0, x1, x2, x3, x4, x5, x6, x7, x8, xf⟩ := HXx.out _ hbd
      have mh := HMx.out _ hbd
      clear hb
      go_wp2_with fail
      refine hK.out _ _ ?_ (fun hHeld => ?_)
      · exact ⟨x0, x1, x2, x3, x4, x5, x6, x7, x8, mh⟩
      clear hK K
      (try simp only [Act.put, List.setIfInBounds_toArray, List.set_cons_zero, List.set_cons_succ])
      refine wpAnyH_take (i := 48) (oi := { dst := some 148, op := Op.call { callee := Callee.builtin Builtin.len, args := #[Operand.tmp 147], argTypes := #[45] }, type := 3, pos := "law.go:171", after := #[{ on := 47, ground := Ground.data }, { on := 20, ground := Ground.guard }], guard := some (20, false) }) (v := ?vv48) rfl (by kernel_rfl) (by kernel_rfl) (by kernel_rfl) (fun _ _ _ h => h) (Or.inl ⟨by rfl, ?hy48⟩) (by assumption) ?rs48
      case hy48 =>
        intro w hSw
        (try dsimp only at hSw)
        go_simp
        (try with_reducible rfl)
      (try simp only [Act.put, List.setIfInBounds_toArray, List.set_cons_zero, List.set_cons_succ])
      refine wpAnyH_take (i := 49) (oi := { dst := some 149, op := Op.binOp BinOp.add 3 (Operand.tmp 144) (Operand.tmp 148) 3, type := 3, pos := "law.go:171", after := #[{ on := 44, ground := Ground.data }, { on := 48, ground := Ground.data }, { on := 20, ground := Ground.guard }], guard := some (20, false) }) (v := ?vv49) rfl (by kernel_rfl) (by kernel_rfl) (by kernel_rfl) (fun _ _ _ h => h) (Or.inl ⟨by rfl, ?hy49⟩) (by assumption) ?rs49
      case hy49 =>
        intro w hSw
        (try dsimp only at hSw)
        go_simp
        (try with_reducible rfl)
      (try simp only [Act.put, List.setIfInBounds_toArray, List.set_cons_zero, List.set_cons_succ])
      refine wpAnyH_take (i := 50) (oi := { dst := some 150, op := Op.binOp BinOp.neq 3 (Operand.tmp 149) (Operand.const (Value.int IntKind.i64 0)) 3, type := 4, pos := "law.go:171", after := #[{ on := 49, ground := Ground.data }, { on := 20, ground := Ground.guard }], guard := some (20, false) }) (v := ?vv50) rfl (by kernel_rfl) (by kernel_rfl) (by kernel_rfl) (fun _ _ _ h => h) (Or.inl ⟨by rfl, ?hy50⟩) (by assumption) ?rs50
      case hy50 =>
        intro w hSw
        (try dsimp only at hSw)
        go_simp
        (try with_reducible rfl)
      (try simp only [Act.put, List.setIfInBounds_toArray, List.set_cons_zero, List.set_cons_succ])
      refine wpAnyH_take (i := 51) (oi := { dst := some 151, op := Op.pick (Operand.tmp 120) (Operand.const (Value.bool true)) (Operand.tmp 150), type := 4, pos := "law.go:171", after := #[{ on := 20, ground := Ground.data }, { on := 50, ground := Ground.data }], guard := none }) (v := ?vv51) rfl (by kernel_rfl) (by kernel_rfl) (by kernel_rfl) (fun _ _ _ h => h) (Or.inl ⟨by rfl, ?hy51⟩) (by assumption) ?rs51
      case hy51 =>
        intro w hSw
        (try dsimp only at hSw)
        go_simp
        (try with_reducible rfl)
      (try simp only [Act.put, List.setIfInBounds_toArray, List.set_cons_zero, List.set_cons_succ])
      refine wpAnyH_done (by kernel_rfl) ?_ _
      all_goals
        have HBd := Lib.hid (belowCC HBw.out (belowCC H9.out hbd))
        clear hbd x0 x1 x2 x3 x4 x5 x6 x7 x8 xf mh HXx HMx HVx HWx
        go_wp2_with fail
        go_roundg (2 - (i + 1))
        case measure => have := HN.out; omega
        case rel => exact Lib.hid ⟨i + 1, by go_num, by omega, rfl, HBd.out⟩
    · have r1 : ¬ ((i : Int) < 2) := by omega
      have HBe := Lib.hid (HB4.out.trans (hbw.mono HB4.out.size))
      clear hbw hn
      go_wp2_with fail
      go_ret
      exact ⟨rfl, HBe.out⟩
end Go.Proofs.YtnakbepcalciiaaGreat.lk
