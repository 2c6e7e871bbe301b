/- Several texts in one, one behind the other: LkVb. No condition beyond theirs. -/
import Derived.Test.YtnakbepcalciiaaGreatGj
import Derived.Test.YtnakbepcalciiaaGreatGn
import Derived.Test.YtnakbepcalciiaaGreatGg
import Derived.Test.YtnakbepcalciiaaGreatGh
/- Valid at a term that is not well formed itself: no bound on its parts. Conditions: the term lies in memory. -/
namespace Go.Proofs.YtnakbepcalciiaaGreat.tm
open Go.RowKit mem names
set_option linter.unusedVariables false
set_option linter.unusedSimpArgs false
set_option maxHeartbeats 1000000
set_option maxRecDepth 100000

set_option maxHeartbeats 40000000 in
theorem ofBad {n : Nat} (w : World) (B g : Nat) (v : Value) (t : Tm (n + 1)) (s : Int) (hB : B ≤ w.heap.size) (hI : ItemsAt w B n v t.items) (hM : Meas w g s) (hg : B ≤ g) (hs : 0 ≤ s) (hbad0 : okT t = false) (h0 : 0 ≤ t.f.kind) (h1 : t.f.kind ≤ 10) :
    Calls Tryz.prog 227 #[.pointer (some ⟨g, 0, none⟩), aggV t.f v] w (MPost g s (formedT t) (nodesT t) (wholeT t) w) := by
  obtain ⟨p, c, rfl, hn, hc⟩ := hI.shape
  unfold maxLen at hc
  have hK := fun (W : World) (hb : Below w.heap.size w W) => kindAll t.f _ t.items W B (Nat.le_trans hB hb.size) (hI.below hb hB) h0 h1
  have hgl := hM.lt
  unfold KPost at hK
  have HM := Lib.hid hM
  have HB0 := Lib.hid hbad0
  clear hbad0
  have HI := Lib.hid hI
  clear hM hI
  generalize hbf : bareF t.f = bf at *
  generalize hbv : bareV t.f (.slice p t.items.length c) = bv at *
  generalize hok : okF t.f t.items.length (lastK n t.items) = ok at *
  obtain ⟨k2, i2, g2, nm2, fn2, ar2, by2, bt2⟩ := bf
  obtain ⟨p3, n3, c3, rfl⟩ : ∃ p3 n3 c3, bv = .slice p3 n3 c3 := by
    unfold bareV nilV at hbv; split at hbv
    · exact ⟨_, _, _, hbv.symm⟩
    · exact ⟨_, _, _, hbv.symm⟩
  unfold aggV at *
  have HBF := Lib.hid hbf; clear hbf
  have HBV := Lib.hid hbv; clear hbv
  have HOK := Lib.hid hok; clear hok
  obtain ⟨m, hm⟩ : ∃ m : Nat, t.f.kind = (m : Int) := ⟨t.f.kind.toNat, by omega⟩
  have hm10 : m ≤ 10 := by omega
  have hfn := HM.out.fn m hm10
  generalize hf : t.f = f at *
  generalize t.items.length = len at *
  obtain ⟨k, i, gg, nm, fn, ar, by_, bt⟩ := f
  dsimp only at hm hK h0 h1 ⊢
  rw [← hm] at hfn
  generalize hfk : fnum k = fk at *
  have HFK := Lib.hid hfk; clear hfk
  have Hm := Lib.hid hm; clear hm
  have q1 : decide (k < 0) = false := decide_eq_false (by omega)
  have q2 : decide (11 ≤ k) = false := decide_eq_false (by omega)
  have HF := Lib.hid hf; clear hf

  go_enter Tryz.func227, Tryz.ntmps227
  go_upto_region 3 with fail
  obtain ⟨W0, hW⟩ : ∃ x, x = (w.alloc (.cells #[.pointer (some ⟨g, 0, none⟩)] 283)).alloc (.cells #[.int .i64 k, .int .i64 i, .int .i64 gg, .string nm, .string fn, .int .i64 ar, .slice p len c, .string by_, .int .i64 bt] 30) := ⟨_, rfl⟩
  rw [← hW]
  have hw0 : Below w.heap.size w W0 := by rw [hW]; exact ((Below.refl _ _).alloc (Nat.le_refl _) _).alloc (by simp) _
  have hsz : W0.heap.size = w.heap.size + 2 := by rw [hW]; simp
  obtain ⟨hb0, hb1⟩ := box_two (w := w) (g := g) (f := ⟨k, i, gg, nm, fn, ar, by_, bt⟩) (v := .slice p len c)
  unfold cells9 at hb0 hb1
  dsimp only at hb0 hb1
  rw [← hW] at hb0 hb1
  clear hW
  have hN : Nine W0 (w.heap.size + 1) ⟨k, i, gg, nm, fn, ar, by_, bt⟩ (.slice p len c) := nine_of hb1
  have HN := Lib.hid hN
  obtain ⟨a0, a1, a2, a3, a4, a5, a6, a7, a8, az⟩ := hN
  dsimp only at a0 a1 a2 a3 a4 a5 a6 a7 a8
  have hc0 : W0.cell? ⟨w.heap.size, 0, none⟩ = some (.pointer (some ⟨g, 0, none⟩)) := by simp only [World.cell?, hb0]; rfl
  have hfn0 : W0.cell? ⟨g, m, none⟩ = some (.func (.func fk) #[] #[]) := (hw0.cell (p := ⟨g, m, none⟩) hgl).trans hfn
  have hS : ∀ W1, Below W0.heap.size W0 W1 → W1.cell? ⟨w.heap.size, 0, none⟩ = some (.pointer (some ⟨g, 0, none⟩)) ∧ W1.cell? ⟨g, m, none⟩ = some (.func (.func fk) #[] #[]) ∧ W1.cell? ⟨w.heap.size + 1, 0, none⟩ = some (.int .i64 k) ∧ W1.cell? ⟨w.heap.size + 1, 1, none⟩ = some (.int .i64 i) ∧ W1.cell? ⟨w.heap.size + 1, 2, none⟩ = some (.int .i64 gg) ∧ W1.cell? ⟨w.heap.size + 1, 3, none⟩ = some (.string nm) ∧ W1.cell? ⟨w.heap.size + 1, 4, none⟩ = some (.string fn) ∧ W1.cell? ⟨w.heap.size + 1, 5, none⟩ = some (.int .i64 ar) ∧ W1.cell? ⟨w.heap.size + 1, 6, none⟩ = some (.slice p len c) ∧ W1.cell? ⟨w.heap.size + 1, 7, none⟩ = some (.string by_) ∧ W1.cell? ⟨w.heap.size + 1, 8, none⟩ = some (.int .i64 bt) := fun W1 hb => by
    have e := fun o => hb.cell (p := ⟨w.heap.size + 1, o, none⟩) (by simp; omega)
    exact ⟨(hb.cell (by simp; omega)).trans hc0, (hb.cell (by simp; omega)).trans hfn0, (e _).trans a0, (e _).trans a1, (e _).trans a2, (e _).trans a3, (e _).trans a4, (e _).trans a5, (e _).trans a6, (e _).trans a7, (e _).trans a8⟩
  have HS := Lib.hid hS
  clear hS
  clear hb0 hb1 hfn
  have HSZ := Lib.hid hsz
  have j1 : W0.heap.size ≠ w.heap.size := by omega
  have j2 : W0.heap.size ≠ w.heap.size + 1 := by omega
  have j3 : W0.heap.size ≠ g := by omega
  have j4 : g < W0.heap.size := by omega
  clear hsz
  have HK := Lib.hid hK
  clear hK
  go_cut [5, 6] from 15 to 26 (fun x5 x6 wc => ∃ z, x5 = .pointer (some ⟨z, 0, none⟩) ∧ x6 = .bool ok ∧ W0.heap.size ≤ z ∧ z < wc.heap.size ∧ Nine wc z ⟨k2, i2, g2, nm2, fn2, ar2, by2, bt2⟩ (.slice p3 n3 c3) ∧ Below W0.heap.size W0 wc)
  case first =>
    rcases (show m = 0 ∨ m = 1 ∨ m = 2 ∨ m = 3 ∨ m = 4 ∨ m = 5 ∨ m = 6 ∨ m = 7 ∨ m = 8 ∨ m = 9 ∨ m = 10 by omega) with rfl | rfl | rfl | rfl | rfl | rfl | rfl | rfl | rfl | rfl | rfl
    · obtain rfl : k = 0 := by have := Hm.out; omega
      obtain rfl : 256 = fk := HFK.out
      clear q1 q2 Hm
      go_region_held3 (fun w' => w'.cell? ⟨w.heap.size, 0, none⟩ = some (.pointer (some ⟨g, 0, none⟩)) ∧ w'.cell? ⟨g, 0, none⟩ = some (.func (.func 256) #[] #[]) ∧ w'.cell? ⟨w.heap.size + 1, 0, none⟩ = some (.int .i64 0) ∧ w'.cell? ⟨w.heap.size + 1, 1, none⟩ = some (.int .i64 i) ∧ w'.cell? ⟨w.heap.size + 1, 2, none⟩ = some (.int .i64 gg) ∧ w'.cell? ⟨w.heap.size + 1, 3, none⟩ = some (.string nm) ∧ w'.cell? ⟨w.heap.size + 1, 4, none⟩ = some (.string fn) ∧ w'.cell? ⟨w.heap.size + 1, 5, none⟩ = some (.int .i64 ar) ∧ w'.cell? ⟨w.heap.size + 1, 6, none⟩ = some (.slice p len c) ∧ w'.cell? ⟨w.heap.size + 1, 7, none⟩ = some (.string by_) ∧ w'.cell? ⟨w.heap.size + 1, 8, none⟩ = some (.int .i64 bt)) (go_keep) (first
        | (go_at_call 256; refine (HK.out _ (hw0.drewN 1)).mono ?_; rintro e w1 ⟨rfl, hb⟩; have hbw := ((Below.refl W0.heap.size W0).drewN 1).trans hb; clear hb; obtain ⟨s0, s1, s2, s3, s4, s5, s6, s7, s8, s9, s10⟩ := HS.out w1 hbw; have hl := hbw.size; have hn1 := World.new_ne w1 _ s0; have hn2 := World.new_ne w1 _ s2; have hn3 := World.new_ne w1 _ s1)
        | (go_at_call 256; refine (HK.out _ ((hw0.drewN 1).alloc hw0.size _)).mono ?_; rintro e w1 ⟨rfl, hb⟩; have hbw := (((Below.refl W0.heap.size W0).drewN 1).alloc (by simp) _).trans (hb.mono (by simp)); have HB := Lib.hid (one_blk W0 w1 hb); have hzz : W0.heap.size < w1.heap.size := (by have := hb.size; simp at this; omega); obtain ⟨s0, s1, s2, s3, s4, s5, s6, s7, s8, s9, s10⟩ := HS.out w1 hbw; obtain ⟨y0, y1, y2, y3, y4, y5, y6, y7, y8, yz⟩ := one_box W0 w1 hb; dsimp only [zeroF, nilV] at y0 y1 y2 y3 y4 y5 y6 y7 y8))
      · go_wp2_with fail
        go_meet
        exact ⟨_, rfl, rfl, hbw.size, by simp, nine_of (MapKept.heap_alloc w1 (cells9 ⟨k2, i2, g2, nm2, fn2, ar2, by2, bt2⟩ (.slice p3 n3 c3))).1, hbw.alloc hbw.size _⟩
      · go_wp2_with fail
        go_meet
        exact ⟨_, rfl, rfl, Nat.le_refl _, by simpa using hzz, nine_sets ⟨k2, i2, g2, nm2, fn2, ar2, by2, bt2⟩ _ HB.out, by (repeat' (first | with_reducible exact hbw | with_reducible exact Nat.le_refl _ | with_reducible refine Below.setCell ?_ ?_ _))⟩
    · obtain rfl : k = 1 := by have := Hm.out; omega
      obtain rfl : 257 = fk := HFK.out
      clear q1 q2 Hm
      go_region_held3 (fun w' => w'.cell? ⟨w.heap.size, 0, none⟩ = some (.pointer (some ⟨g, 0, none⟩)) ∧ w'.cell? ⟨g, 1, none⟩ = some (.func (.func 257) #[] #[]) ∧ w'.cell? ⟨w.heap.size + 1, 0, none⟩ = some (.int .i64 1) ∧ w'.cell? ⟨w.heap.size + 1, 1, none⟩ = some (.int .i64 i) ∧ w'.cell? ⟨w.heap.size + 1, 2, none⟩ = some (.int .i64 gg) ∧ w'.cell? ⟨w.heap.size + 1, 3, none⟩ = some (.string nm) ∧ w'.cell? ⟨w.heap.size + 1, 4, none⟩ = some (.string fn) ∧ w'.cell? ⟨w.heap.size + 1, 5, none⟩ = some (.int .i64 ar) ∧ w'.cell? ⟨w.heap.size + 1, 6, none⟩ = some (.slice p len c) ∧ w'.cell? ⟨w.heap.size + 1, 7, none⟩ = some (.string by_) ∧ w'.cell? ⟨w.heap.size + 1, 8, none⟩ = some (.int .i64 bt)) (go_keep) (first
        | (go_at_call 257; refine (HK.out _ (hw0.drewN 1)).mono ?_; rintro e w1 ⟨rfl, hb⟩; have hbw := ((Below.refl W0.heap.size W0).drewN 1).trans hb; clear hb; obtain ⟨s0, s1, s2, s3, s4, s5, s6, s7, s8, s9, s10⟩ := HS.out w1 hbw; have hl := hbw.size; have hn1 := World.new_ne w1 _ s0; have hn2 := World.new_ne w1 _ s2; have hn3 := World.new_ne w1 _ s1)
        | (go_at_call 257; refine (HK.out _ ((hw0.drewN 1).alloc hw0.size _)).mono ?_; rintro e w1 ⟨rfl, hb⟩; have hbw := (((Below.refl W0.heap.size W0).drewN 1).alloc (by simp) _).trans (hb.mono (by simp)); have HB := Lib.hid (one_blk W0 w1 hb); have hzz : W0.heap.size < w1.heap.size := (by have := hb.size; simp at this; omega); obtain ⟨s0, s1, s2, s3, s4, s5, s6, s7, s8, s9, s10⟩ := HS.out w1 hbw; obtain ⟨y0, y1, y2, y3, y4, y5, y6, y7, y8, yz⟩ := one_box W0 w1 hb; dsimp only [zeroF, nilV] at y0 y1 y2 y3 y4 y5 y6 y7 y8))
      · go_wp2_with fail
        go_meet
        exact ⟨_, rfl, rfl, hbw.size, by simp, nine_of (MapKept.heap_alloc w1 (cells9 ⟨k2, i2, g2, nm2, fn2, ar2, by2, bt2⟩ (.slice p3 n3 c3))).1, hbw.alloc hbw.size _⟩
      · go_wp2_with fail
        go_meet
        exact ⟨_, rfl, rfl, Nat.le_refl _, by simpa using hzz, nine_sets ⟨k2, i2, g2, nm2, fn2, ar2, by2, bt2⟩ _ HB.out, by (repeat' (first | with_reducible exact hbw | with_reducible exact Nat.le_refl _ | with_reducible refine Below.setCell ?_ ?_ _))⟩
    · obtain rfl : k = 2 := by have := Hm.out; omega
      obtain rfl : 258 = fk := HFK.out
      clear q1 q2 Hm
      go_region_held3 (fun w' => w'.cell? ⟨w.heap.size, 0, none⟩ = some (.pointer (some ⟨g, 0, none⟩)) ∧ w'.cell? ⟨g, 2, none⟩ = some (.func (.func 258) #[] #[]) ∧ w'.cell? ⟨w.heap.size + 1, 0, none⟩ = some (.int .i64 2) ∧ w'.cell? ⟨w.heap.size + 1, 1, none⟩ = some (.int .i64 i) ∧ w'.cell? ⟨w.heap.size + 1, 2, none⟩ = some (.int .i64 gg) ∧ w'.cell? ⟨w.heap.size + 1, 3, none⟩ = some (.string nm) ∧ w'.cell? ⟨w.heap.size + 1, 4, none⟩ = some (.string fn) ∧ w'.cell? ⟨w.heap.size + 1, 5, none⟩ = some (.int .i64 ar) ∧ w'.cell? ⟨w.heap.size + 1, 6, none⟩ = some (.slice p len c) ∧ w'.cell? ⟨w.heap.size + 1, 7, none⟩ = some (.string by_) ∧ w'.cell? ⟨w.heap.size + 1, 8, none⟩ = some (.int .i64 bt)) (go_keep) (first
        | (go_at_call 258; refine (HK.out _ (hw0.drewN 1)).mono ?_; rintro e w1 ⟨rfl, hb⟩; have hbw := ((Below.refl W0.heap.size W0).drewN 1).trans hb; clear hb; obtain ⟨s0, s1, s2, s3, s4, s5, s6, s7, s8, s9, s10⟩ := HS.out w1 hbw; have hl := hbw.size; have hn1 := World.new_ne w1 _ s0; have hn2 := World.new_ne w1 _ s2; have hn3 := World.new_ne w1 _ s1)
        | (go_at_call 258; refine (HK.out _ ((hw0.drewN 1).alloc hw0.size _)).mono ?_; rintro e w1 ⟨rfl, hb⟩; have hbw := (((Below.refl W0.heap.size W0).drewN 1).alloc (by simp) _).trans (hb.mono (by simp)); have HB := Lib.hid (one_blk W0 w1 hb); have hzz : W0.heap.size < w1.heap.size := (by have := hb.size; simp at this; omega); obtain ⟨s0, s1, s2, s3, s4, s5, s6, s7, s8, s9, s10⟩ := HS.out w1 hbw; obtain ⟨y0, y1, y2, y3, y4, y5, y6, y7, y8, yz⟩ := one_box W0 w1 hb; dsimp only [zeroF, nilV] at y0 y1 y2 y3 y4 y5 y6 y7 y8))
      · go_wp2_with fail
        go_meet
        exact ⟨_, rfl, rfl, hbw.size, by simp, nine_of (MapKept.heap_alloc w1 (cells9 ⟨k2, i2, g2, nm2, fn2, ar2, by2, bt2⟩ (.slice p3 n3 c3))).1, hbw.alloc hbw.size _⟩
      · go_wp2_with fail
        go_meet
        exact ⟨_, rfl, rfl, Nat.le_refl _, by simpa using hzz, nine_sets ⟨k2, i2, g2, nm2, fn2, ar2, by2, bt2⟩ _ HB.out, by (repeat' (first | with_reducible exact hbw | with_reducible exact Nat.le_refl _ | with_reducible refine Below.setCell ?_ ?_ _))⟩
    · obtain rfl : k = 3 := by have := Hm.out; omega
      obtain rfl : 254 = fk := HFK.out
      clear q1 q2 Hm
      go_region_held3 (fun w' => w'.cell? ⟨w.heap.size, 0, none⟩ = some (.pointer (some ⟨g, 0, none⟩)) ∧ w'.cell? ⟨g, 3, none⟩ = some (.func (.func 254) #[] #[]) ∧ w'.cell? ⟨w.heap.size + 1, 0, none⟩ = some (.int .i64 3) ∧ w'.cell? ⟨w.heap.size + 1, 1, none⟩ = some (.int .i64 i) ∧ w'.cell? ⟨w.heap.size + 1, 2, none⟩ = some (.int .i64 gg) ∧ w'.cell? ⟨w.heap.size + 1, 3, none⟩ = some (.string nm) ∧ w'.cell? ⟨w.heap.size + 1, 4, none⟩ = some (.string fn) ∧ w'.cell? ⟨w.heap.size + 1, 5, none⟩ = some (.int .i64 ar) ∧ w'.cell? ⟨w.heap.size + 1, 6, none⟩ = some (.slice p len c) ∧ w'.cell? ⟨w.heap.size + 1, 7, none⟩ = some (.string by_) ∧ w'.cell? ⟨w.heap.size + 1, 8, none⟩ = some (.int .i64 bt)) (go_keep) (first
        | (go_at_call 254; refine (HK.out _ (hw0.drewN 1)).mono ?_; rintro e w1 ⟨rfl, hb⟩; have hbw := ((Below.refl W0.heap.size W0).drewN 1).trans hb; clear hb; obtain ⟨s0, s1, s2, s3, s4, s5, s6, s7, s8, s9, s10⟩ := HS.out w1 hbw; have hl := hbw.size; have hn1 := World.new_ne w1 _ s0; have hn2 := World.new_ne w1 _ s2; have hn3 := World.new_ne w1 _ s1)
        | (go_at_call 254; refine (HK.out _ ((hw0.drewN 1).alloc hw0.size _)).mono ?_; rintro e w1 ⟨rfl, hb⟩; have hbw := (((Below.refl W0.heap.size W0).drewN 1).alloc (by simp) _).trans (hb.mono (by simp)); have HB := Lib.hid (one_blk W0 w1 hb); have hzz : W0.heap.size < w1.heap.size := (by have := hb.size; simp at this; omega); obtain ⟨s0, s1, s2, s3, s4, s5, s6, s7, s8, s9, s10⟩ := HS.out w1 hbw; obtain ⟨y0, y1, y2, y3, y4, y5, y6, y7, y8, yz⟩ := one_box W0 w1 hb; dsimp only [zeroF, nilV] at y0 y1 y2 y3 y4 y5 y6 y7 y8))
      · go_wp2_with fail
        go_meet
        exact ⟨_, rfl, rfl, hbw.size, by simp, nine_of (MapKept.heap_alloc w1 (cells9 ⟨k2, i2, g2, nm2, fn2, ar2, by2, bt2⟩ (.slice p3 n3 c3))).1, hbw.alloc hbw.size _⟩
      · go_wp2_with fail
        go_meet
        exact ⟨_, rfl, rfl, Nat.le_refl _, by simpa using hzz, nine_sets ⟨k2, i2, g2, nm2, fn2, ar2, by2, bt2⟩ _ HB.out, by (repeat' (first | with_reducible exact hbw | with_reducible exact Nat.le_refl _ | with_reducible refine Below.setCell ?_ ?_ _))⟩
    · obtain rfl : k = 4 := by have := Hm.out; omega
      obtain rfl : 259 = fk := HFK.out
      clear q1 q2 Hm
      go_region_held3 (fun w' => w'.cell? ⟨w.heap.size, 0, none⟩ = some (.pointer (some ⟨g, 0, none⟩)) ∧ w'.cell? ⟨g, 4, none⟩ = some (.func (.func 259) #[] #[]) ∧ w'.cell? ⟨w.heap.size + 1, 0, none⟩ = some (.int .i64 4) ∧ w'.cell? ⟨w.heap.size + 1, 1, none⟩ = some (.int .i64 i) ∧ w'.cell? ⟨w.heap.size + 1, 2, none⟩ = some (.int .i64 gg) ∧ w'.cell? ⟨w.heap.size + 1, 3, none⟩ = some (.string nm) ∧ w'.cell? ⟨w.heap.size + 1, 4, none⟩ = some (.string fn) ∧ w'.cell? ⟨w.heap.size + 1, 5, none⟩ = some (.int .i64 ar) ∧ w'.cell? ⟨w.heap.size + 1, 6, none⟩ = some (.slice p len c) ∧ w'.cell? ⟨w.heap.size + 1, 7, none⟩ = some (.string by_) ∧ w'.cell? ⟨w.heap.size + 1, 8, none⟩ = some (.int .i64 bt)) (go_keep) (first
        | (go_at_call 259; refine (HK.out _ (hw0.drewN 1)).mono ?_; rintro e w1 ⟨rfl, hb⟩; have hbw := ((Below.refl W0.heap.size W0).drewN 1).trans hb; clear hb; obtain ⟨s0, s1, s2, s3, s4, s5, s6, s7, s8, s9, s10⟩ := HS.out w1 hbw; have hl := hbw.size; have hn1 := World.new_ne w1 _ s0; have hn2 := World.new_ne w1 _ s2; have hn3 := World.new_ne w1 _ s1)
        | (go_at_call 259; refine (HK.out _ ((hw0.drewN 1).alloc hw0.size _)).mono ?_; rintro e w1 ⟨rfl, hb⟩; have hbw := (((Below.refl W0.heap.size W0).drewN 1).alloc (by simp) _).trans (hb.mono (by simp)); have HB := Lib.hid (one_blk W0 w1 hb); have hzz : W0.heap.size < w1.heap.size := (by have := hb.size; simp at this; omega); obtain ⟨s0, s1, s2, s3, s4, s5, s6, s7, s8, s9, s10⟩ := HS.out w1 hbw; obtain ⟨y0, y1, y2, y3, y4, y5, y6, y7, y8, yz⟩ := one_box W0 w1 hb; dsimp only [zeroF, nilV] at y0 y1 y2 y3 y4 y5 y6 y7 y8))
      · go_wp2_with fail
        go_meet
        exact ⟨_, rfl, rfl, hbw.size, by simp, nine_of (MapKept.heap_alloc w1 (cells9 ⟨k2, i2, g2, nm2, fn2, ar2, by2, bt2⟩ (.slice p3 n3 c3))).1, hbw.alloc hbw.size _⟩
      · go_wp2_with fail
        go_meet
        exact ⟨_, rfl, rfl, Nat.le_refl _, by simpa using hzz, nine_sets ⟨k2, i2, g2, nm2, fn2, ar2, by2, bt2⟩ _ HB.out, by (repeat' (first | with_reducible exact hbw | with_reducible exact Nat.le_refl _ | with_reducible refine Below.setCell ?_ ?_ _))⟩
    · obtain rfl : k = 5 := by have := Hm.out; omega
      obtain rfl : 260 = fk := HFK.out
      clear q1 q2 Hm
      go_region_held3 (fun w' => w'.cell? ⟨w.heap.size, 0, none⟩ = some (.pointer (some ⟨g, 0, none⟩)) ∧ w'.cell? ⟨g, 5, none⟩ = some (.func (.func 260) #[] #[]) ∧ w'.cell? ⟨w.heap.size + 1, 0, none⟩ = some (.int .i64 5) ∧ w'.cell? ⟨w.heap.size + 1, 1, none⟩ = some (.int .i64 i) ∧ w'.cell? ⟨w.heap.size + 1, 2, none⟩ = some (.int .i64 gg) ∧ w'.cell? ⟨w.heap.size + 1, 3, none⟩ = some (.string nm) ∧ w'.cell? ⟨w.heap.size + 1, 4, none⟩ = some (.string fn) ∧ w'.cell? ⟨w.heap.size + 1, 5, none⟩ = some (.int .i64 ar) ∧ w'.cell? ⟨w.heap.size + 1, 6, none⟩ = some (.slice p len c) ∧ w'.cell? ⟨w.heap.size + 1, 7, none⟩ = some (.string by_) ∧ w'.cell? ⟨w.heap.size + 1, 8, none⟩ = some (.int .i64 bt)) (go_keep) (first
        | (go_at_call 260; refine (HK.out _ (hw0.drewN 1)).mono ?_; rintro e w1 ⟨rfl, hb⟩; have hbw := ((Below.refl W0.heap.size W0).drewN 1).trans hb; clear hb; obtain ⟨s0, s1, s2, s3, s4, s5, s6, s7, s8, s9, s10⟩ := HS.out w1 hbw; have hl := hbw.size; have hn1 := World.new_ne w1 _ s0; have hn2 := World.new_ne w1 _ s2; have hn3 := World.new_ne w1 _ s1)
        | (go_at_call 260; refine (HK.out _ ((hw0.drewN 1).alloc hw0.size _)).mono ?_; rintro e w1 ⟨rfl, hb⟩; have hbw := (((Below.refl W0.heap.size W0).drewN 1).alloc (by simp) _).trans (hb.mono (by simp)); have HB := Lib.hid (one_blk W0 w1 hb); have hzz : W0.heap.size < w1.heap.size := (by have := hb.size; simp at this; omega); obtain ⟨s0, s1, s2, s3, s4, s5, s6, s7, s8, s9, s10⟩ := HS.out w1 hbw; obtain ⟨y0, y1, y2, y3, y4, y5, y6, y7, y8, yz⟩ := one_box W0 w1 hb; dsimp only [zeroF, nilV] at y0 y1 y2 y3 y4 y5 y6 y7 y8))
      · go_wp2_with fail
        go_meet
        exact ⟨_, rfl, rfl, hbw.size, by simp, nine_of (MapKept.heap_alloc w1 (cells9 ⟨k2, i2, g2, nm2, fn2, ar2, by2, bt2⟩ (.slice p3 n3 c3))).1, hbw.alloc hbw.size _⟩
      · go_wp2_with fail
        go_meet
        exact ⟨_, rfl, rfl, Nat.le_refl _, by simpa using hzz, nine_sets ⟨k2, i2, g2, nm2, fn2, ar2, by2, bt2⟩ _ HB.out, by (repeat' (first | with_reducible exact hbw | with_reducible exact Nat.le_refl _ | with_reducible refine Below.setCell ?_ ?_ _))⟩
    · obtain rfl : k = 6 := by have := Hm.out; omega
      obtain rfl : 254 = fk := HFK.out
      clear q1 q2 Hm
      go_region_held3 (fun w' => w'.cell? ⟨w.heap.size, 0, none⟩ = some (.pointer (some ⟨g, 0, none⟩)) ∧ w'.cell? ⟨g, 6, none⟩ = some (.func (.func 254) #[] #[]) ∧ w'.cell? ⟨w.heap.size + 1, 0, none⟩ = some (.int .i64 6) ∧ w'.cell? ⟨w.heap.size + 1, 1, none⟩ = some (.int .i64 i) ∧ w'.cell? ⟨w.heap.size + 1, 2, none⟩ = some (.int .i64 gg) ∧ w'.cell? ⟨w.heap.size + 1, 3, none⟩ = some (.string nm) ∧ w'.cell? ⟨w.heap.size + 1, 4, none⟩ = some (.string fn) ∧ w'.cell? ⟨w.heap.size + 1, 5, none⟩ = some (.int .i64 ar) ∧ w'.cell? ⟨w.heap.size + 1, 6, none⟩ = some (.slice p len c) ∧ w'.cell? ⟨w.heap.size + 1, 7, none⟩ = some (.string by_) ∧ w'.cell? ⟨w.heap.size + 1, 8, none⟩ = some (.int .i64 bt)) (go_keep) (first
        | (go_at_call 254; refine (HK.out _ (hw0.drewN 1)).mono ?_; rintro e w1 ⟨rfl, hb⟩; have hbw := ((Below.refl W0.heap.size W0).drewN 1).trans hb; clear hb; obtain ⟨s0, s1, s2, s3, s4, s5, s6, s7, s8, s9, s10⟩ := HS.out w1 hbw; have hl := hbw.size; have hn1 := World.new_ne w1 _ s0; have hn2 := World.new_ne w1 _ s2; have hn3 := World.new_ne w1 _ s1)
        | (go_at_call 254; refine (HK.out _ ((hw0.drewN 1).alloc hw0.size _)).mono ?_; rintro e w1 ⟨rfl, hb⟩; have hbw := (((Below.refl W0.heap.size W0).drewN 1).alloc (by simp) _).trans (hb.mono (by simp)); have HB := Lib.hid (one_blk W0 w1 hb); have hzz : W0.heap.size < w1.heap.size := (by have := hb.size; simp at this; omega); obtain ⟨s0, s1, s2, s3, s4, s5, s6, s7, s8, s9, s10⟩ := HS.out w1 hbw; obtain ⟨y0, y1, y2, y3, y4, y5, y6, y7, y8, yz⟩ := one_box W0 w1 hb; dsimp only [zeroF, nilV] at y0 y1 y2 y3 y4 y5 y6 y7 y8))
      · go_wp2_with fail
        go_meet
        exact ⟨_, rfl, rfl, hbw.size, by simp, nine_of (MapKept.heap_alloc w1 (cells9 ⟨k2, i2, g2, nm2, fn2, ar2, by2, bt2⟩ (.slice p3 n3 c3))).1, hbw.alloc hbw.size _⟩
      · go_wp2_with fail
        go_meet
        exact ⟨_, rfl, rfl, Nat.le_refl _, by simpa using hzz, nine_sets ⟨k2, i2, g2, nm2, fn2, ar2, by2, bt2⟩ _ HB.out, by (repeat' (first | with_reducible exact hbw | with_reducible exact Nat.le_refl _ | with_reducible refine Below.setCell ?_ ?_ _))⟩
    · obtain rfl : k = 7 := by have := Hm.out; omega
      obtain rfl : 261 = fk := HFK.out
      clear q1 q2 Hm
      go_region_held3 (fun w' => w'.cell? ⟨w.heap.size, 0, none⟩ = some (.pointer (some ⟨g, 0, none⟩)) ∧ w'.cell? ⟨g, 7, none⟩ = some (.func (.func 261) #[] #[]) ∧ w'.cell? ⟨w.heap.size + 1, 0, none⟩ = some (.int .i64 7) ∧ w'.cell? ⟨w.heap.size + 1, 1, none⟩ = some (.int .i64 i) ∧ w'.cell? ⟨w.heap.size + 1, 2, none⟩ = some (.int .i64 gg) ∧ w'.cell? ⟨w.heap.size + 1, 3, none⟩ = some (.string nm) ∧ w'.cell? ⟨w.heap.size + 1, 4, none⟩ = some (.string fn) ∧ w'.cell? ⟨w.heap.size + 1, 5, none⟩ = some (.int .i64 ar) ∧ w'.cell? ⟨w.heap.size + 1, 6, none⟩ = some (.slice p len c) ∧ w'.cell? ⟨w.heap.size + 1, 7, none⟩ = some (.string by_) ∧ w'.cell? ⟨w.heap.size + 1, 8, none⟩ = some (.int .i64 bt)) (go_keep) (first
        | (go_at_call 261; refine (HK.out _ (hw0.drewN 1)).mono ?_; rintro e w1 ⟨rfl, hb⟩; have hbw := ((Below.refl W0.heap.size W0).drewN 1).trans hb; clear hb; obtain ⟨s0, s1, s2, s3, s4, s5, s6, s7, s8, s9, s10⟩ := HS.out w1 hbw; have hl := hbw.size; have hn1 := World.new_ne w1 _ s0; have hn2 := World.new_ne w1 _ s2; have hn3 := World.new_ne w1 _ s1)
        | (go_at_call 261; refine (HK.out _ ((hw0.drewN 1).alloc hw0.size _)).mono ?_; rintro e w1 ⟨rfl, hb⟩; have hbw := (((Below.refl W0.heap.size W0).drewN 1).alloc (by simp) _).trans (hb.mono (by simp)); have HB := Lib.hid (one_blk W0 w1 hb); have hzz : W0.heap.size < w1.heap.size := (by have := hb.size; simp at this; omega); obtain ⟨s0, s1, s2, s3, s4, s5, s6, s7, s8, s9, s10⟩ := HS.out w1 hbw; obtain ⟨y0, y1, y2, y3, y4, y5, y6, y7, y8, yz⟩ := one_box W0 w1 hb; dsimp only [zeroF, nilV] at y0 y1 y2 y3 y4 y5 y6 y7 y8))
      · go_wp2_with fail
        go_meet
        exact ⟨_, rfl, rfl, hbw.size, by simp, nine_of (MapKept.heap_alloc w1 (cells9 ⟨k2, i2, g2, nm2, fn2, ar2, by2, bt2⟩ (.slice p3 n3 c3))).1, hbw.alloc hbw.size _⟩
      · go_wp2_with fail
        go_meet
        exact ⟨_, rfl, rfl, Nat.le_refl _, by simpa using hzz, nine_sets ⟨k2, i2, g2, nm2, fn2, ar2, by2, bt2⟩ _ HB.out, by (repeat' (first | with_reducible exact hbw | with_reducible exact Nat.le_refl _ | with_reducible refine Below.setCell ?_ ?_ _))⟩
    · obtain rfl : k = 8 := by have := Hm.out; omega
      obtain rfl : 262 = fk := HFK.out
      clear q1 q2 Hm
      go_region_held3 (fun w' => w'.cell? ⟨w.heap.size, 0, none⟩ = some (.pointer (some ⟨g, 0, none⟩)) ∧ w'.cell? ⟨g, 8, none⟩ = some (.func (.func 262) #[] #[]) ∧ w'.cell? ⟨w.heap.size + 1, 0, none⟩ = some (.int .i64 8) ∧ w'.cell? ⟨w.heap.size + 1, 1, none⟩ = some (.int .i64 i) ∧ w'.cell? ⟨w.heap.size + 1, 2, none⟩ = some (.int .i64 gg) ∧ w'.cell? ⟨w.heap.size + 1, 3, none⟩ = some (.string nm) ∧ w'.cell? ⟨w.heap.size + 1, 4, none⟩ = some (.string fn) ∧ w'.cell? ⟨w.heap.size + 1, 5, none⟩ = some (.int .i64 ar) ∧ w'.cell? ⟨w.heap.size + 1, 6, none⟩ = some (.slice p len c) ∧ w'.cell? ⟨w.heap.size + 1, 7, none⟩ = some (.string by_) ∧ w'.cell? ⟨w.heap.size + 1, 8, none⟩ = some (.int .i64 bt)) (go_keep) (first
        | (go_at_call 262; refine (HK.out _ (hw0.drewN 1)).mono ?_; rintro e w1 ⟨rfl, hb⟩; have hbw := ((Below.refl W0.heap.size W0).drewN 1).trans hb; clear hb; obtain ⟨s0, s1, s2, s3, s4, s5, s6, s7, s8, s9, s10⟩ := HS.out w1 hbw; have hl := hbw.size; have hn1 := World.new_ne w1 _ s0; have hn2 := World.new_ne w1 _ s2; have hn3 := World.new_ne w1 _ s1)
        | (go_at_call 262; refine (HK.out _ ((hw0.drewN 1).alloc hw0.size _)).mono ?_; rintro e w1 ⟨rfl, hb⟩; have hbw := (((Below.refl W0.heap.size W0).drewN 1).alloc (by simp) _).trans (hb.mono (by simp)); have HB := Lib.hid (one_blk W0 w1 hb); have hzz : W0.heap.size < w1.heap.size := (by have := hb.size; simp at this; omega); obtain ⟨s0, s1, s2, s3, s4, s5, s6, s7, s8, s9, s10⟩ := HS.out w1 hbw; obtain ⟨y0, y1, y2, y3, y4, y5, y6, y7, y8, yz⟩ := one_box W0 w1 hb; dsimp only [zeroF, nilV] at y0 y1 y2 y3 y4 y5 y6 y7 y8))
      · go_wp2_with fail
        go_meet
        exact ⟨_, rfl, rfl, hbw.size, by simp, nine_of (MapKept.heap_alloc w1 (cells9 ⟨k2, i2, g2, nm2, fn2, ar2, by2, bt2⟩ (.slice p3 n3 c3))).1, hbw.alloc hbw.size _⟩
      · go_wp2_with fail
        go_meet
        exact ⟨_, rfl, rfl, Nat.le_refl _, by simpa using hzz, nine_sets ⟨k2, i2, g2, nm2, fn2, ar2, by2, bt2⟩ _ HB.out, by (repeat' (first | with_reducible exact hbw | with_reducible exact Nat.le_refl _ | with_reducible refine Below.setCell ?_ ?_ _))⟩
    · obtain rfl : k = 9 := by have := Hm.out; omega
      obtain rfl : 263 = fk := HFK.out
      clear q1 q2 Hm
      go_region_held3 (fun w' => w'.cell? ⟨w.heap.size, 0, none⟩ = some (.pointer (some ⟨g, 0, none⟩)) ∧ w'.cell? ⟨g, 9, none⟩ = some (.func (.func 263) #[] #[]) ∧ w'.cell? ⟨w.heap.size + 1, 0, none⟩ = some (.int .i64 9) ∧ w'.cell? ⟨w.heap.size + 1, 1, none⟩ = some (.int .i64 i) ∧ w'.cell? ⟨w.heap.size + 1, 2, none⟩ = some (.int .i64 gg) ∧ w'.cell? ⟨w.heap.size + 1, 3, none⟩ = some (.string nm) ∧ w'.cell? ⟨w.heap.size + 1, 4, none⟩ = some (.string fn) ∧ w'.cell? ⟨w.heap.size + 1, 5, none⟩ = some (.int .i64 ar) ∧ w'.cell? ⟨w.heap.size + 1, 6, none⟩ = some (.slice p len c) ∧ w'.cell? ⟨w.heap.size + 1, 7, none⟩ = some (.string by_) ∧ w'.cell? ⟨w.heap.size + 1, 8, none⟩ = some (.int .i64 bt)) (go_keep) (first
        | (go_at_call 263; refine (HK.out _ (hw0.drewN 1)).mono ?_; rintro e w1 ⟨rfl, hb⟩; have hbw := ((Below.refl W0.heap.size W0).drewN 1).trans hb; clear hb; obtain ⟨s0, s1, s2, s3, s4, s5, s6, s7, s8, s9, s10⟩ := HS.out w1 hbw; have hl := hbw.size; have hn1 := World.new_ne w1 _ s0; have hn2 := World.new_ne w1 _ s2; have hn3 := World.new_ne w1 _ s1)
        | (go_at_call 263; refine (HK.out _ ((hw0.drewN 1).alloc hw0.size _)).mono ?_; rintro e w1 ⟨rfl, hb⟩; have hbw := (((Below.refl W0.heap.size W0).drewN 1).alloc (by simp) _).trans (hb.mono (by simp)); have HB := Lib.hid (one_blk W0 w1 hb); have hzz : W0.heap.size < w1.heap.size := (by have := hb.size; simp at this; omega); obtain ⟨s0, s1, s2, s3, s4, s5, s6, s7, s8, s9, s10⟩ := HS.out w1 hbw; obtain ⟨y0, y1, y2, y3, y4, y5, y6, y7, y8, yz⟩ := one_box W0 w1 hb; dsimp only [zeroF, nilV] at y0 y1 y2 y3 y4 y5 y6 y7 y8))
      · go_wp2_with fail
        go_meet
        exact ⟨_, rfl, rfl, hbw.size, by simp, nine_of (MapKept.heap_alloc w1 (cells9 ⟨k2, i2, g2, nm2, fn2, ar2, by2, bt2⟩ (.slice p3 n3 c3))).1, hbw.alloc hbw.size _⟩
      · go_wp2_with fail
        go_meet
        exact ⟨_, rfl, rfl, Nat.le_refl _, by simpa using hzz, nine_sets ⟨k2, i2, g2, nm2, fn2, ar2, by2, bt2⟩ _ HB.out, by (repeat' (first | with_reducible exact hbw | with_reducible exact Nat.le_refl _ | with_reducible refine Below.setCell ?_ ?_ _))⟩
    · obtain rfl : k = 10 := by have := Hm.out; omega
      obtain rfl : 264 = fk := HFK.out
      clear q1 q2 Hm
      go_region_held3 (fun w' => w'.cell? ⟨w.heap.size, 0, none⟩ = some (.pointer (some ⟨g, 0, none⟩)) ∧ w'.cell? ⟨g, 10, none⟩ = some (.func (.func 264) #[] #[]) ∧ w'.cell? ⟨w.heap.size + 1, 0, none⟩ = some (.int .i64 10) ∧ w'.cell? ⟨w.heap.size + 1, 1, none⟩ = some (.int .i64 i) ∧ w'.cell? ⟨w.heap.size + 1, 2, none⟩ = some (.int .i64 gg) ∧ w'.cell? ⟨w.heap.size + 1, 3, none⟩ = some (.string nm) ∧ w'.cell? ⟨w.heap.size + 1, 4, none⟩ = some (.string fn) ∧ w'.cell? ⟨w.heap.size + 1, 5, none⟩ = some (.int .i64 ar) ∧ w'.cell? ⟨w.heap.size + 1, 6, none⟩ = some (.slice p len c) ∧ w'.cell? ⟨w.heap.size + 1, 7, none⟩ = some (.string by_) ∧ w'.cell? ⟨w.heap.size + 1, 8, none⟩ = some (.int .i64 bt)) (go_keep) (first
        | (go_at_call 264; refine (HK.out _ (hw0.drewN 1)).mono ?_; rintro e w1 ⟨rfl, hb⟩; have hbw := ((Below.refl W0.heap.size W0).drewN 1).trans hb; clear hb; obtain ⟨s0, s1, s2, s3, s4, s5, s6, s7, s8, s9, s10⟩ := HS.out w1 hbw; have hl := hbw.size; have hn1 := World.new_ne w1 _ s0; have hn2 := World.new_ne w1 _ s2; have hn3 := World.new_ne w1 _ s1)
        | (go_at_call 264; refine (HK.out _ ((hw0.drewN 1).alloc hw0.size _)).mono ?_; rintro e w1 ⟨rfl, hb⟩; have hbw := (((Below.refl W0.heap.size W0).drewN 1).alloc (by simp) _).trans (hb.mono (by simp)); have HB := Lib.hid (one_blk W0 w1 hb); have hzz : W0.heap.size < w1.heap.size := (by have := hb.size; simp at this; omega); obtain ⟨s0, s1, s2, s3, s4, s5, s6, s7, s8, s9, s10⟩ := HS.out w1 hbw; obtain ⟨y0, y1, y2, y3, y4, y5, y6, y7, y8, yz⟩ := one_box W0 w1 hb; dsimp only [zeroF, nilV] at y0 y1 y2 y3 y4 y5 y6 y7 y8))
      · go_wp2_with fail
        go_meet
        exact ⟨_, rfl, rfl, hbw.size, by simp, nine_of (MapKept.heap_alloc w1 (cells9 ⟨k2, i2, g2, nm2, fn2, ar2, by2, bt2⟩ (.slice p3 n3 c3))).1, hbw.alloc hbw.size _⟩
      · go_wp2_with fail
        go_meet
        exact ⟨_, rfl, rfl, Nat.le_refl _, by simpa using hzz, nine_sets ⟨k2, i2, g2, nm2, fn2, ar2, by2, bt2⟩ _ HB.out, by (repeat' (first | with_reducible exact hbw | with_reducible exact Nat.le_refl _ | with_reducible refine Below.setCell ?_ ?_ _))⟩
  case rest =>
  obtain ⟨z, rfl, rfl, hzl, hzs, hZ, hbc⟩ := hcut
  have hlen : t.items.length = len := by
    obtain ⟨p9, c9, e, _⟩ := HI.out.shape
    simp only [Value.slice.injEq] at e
    exact e.2.1.symm
  have hokT := okT_eq t h0 h1 HF.out HBF.out HBV.out hlen HOK.out
  have hform := formedT_eq t hokT
  rw [HB0.out] at hokT
  have HOT := Lib.hid hokT
  dsimp only at hform
  have HFm := Lib.hid hform
  have HBC := Lib.hid hbc
  clear hform hbc hfn0 hc0 a0 a1 a2 a3 a4 a5 a6 a7 a8 az HK hokT
  obtain ⟨y0, y1, y2, y3, y4, y5, y6, y7, y8, yz⟩ := hZ
  dsimp only at y0 y1 y2 y3 y4 y5 y6 y7 y8
  have hS := fun W => sameZ (⟨0, i2, g2, nm2, fn2, ar2, by2, bt2⟩ : TF) p3 n3 c3 W
  generalize (eqB (⟨0, i2, g2, nm2, fn2, ar2, by2, bt2⟩ : TF) zeroF && decide (n3 = 0)) = sm at *
  unfold aggV zeroF at hS
  dsimp only at hS
  have HSm := Lib.hid hS
  clear hS
  -- the end when the term is not well formed
  have hbad : ∀ wx, Below W0.heap.size W0 wx → formedT t = false → MPost g s (formedT t) (nodesT t) (wholeT t) w (.returned (.bool false)) wx := fun wx hb he => by
    rw [he]
    have hN1 : 1 ≤ nodesT t := by unfold nodesT; omega
    have hb' := hw0.trans (hb.mono (by have := HSZ.out; omega))
    exact ⟨rfl, s, HM.out.block (hb'.block g hgl), (TouchB.refl _ _).ofBelow hb' (Nat.le_refl _), hs, by omega, fun h => by cases h⟩
  have HBAD := Lib.hid hbad
  clear hbad
  by_cases hok : ok = true
  · subst hok
    by_cases hsm : sm = true
    · subst hsm
      have hform := HFm.out
      simp only [Bool.true_and] at hform
      have HFL := Lib.hid hform
      clear hform
      exact absurd HOT.out (by simp)
    · have hsm : sm = false := by simpa using hsm
      subst hsm
      have HN0 := Lib.hid HFm.out
      go_wp2_with fail
      refine (HSm.out _).mono ?_
      rintro e w2 ⟨rfl, hb2⟩
      have hb3 : Below W0.heap.size W0 w2 := (Below.setCell HBC.out (by simpa using hzl) _).trans (hb2.mono (by simp; omega))
      go_wp2_with fail
      go_ret
      exact HBAD.out _ hb3 HN0.out
  · have hok : ok = false := by simpa using hok
    subst hok
    have HN0 := Lib.hid HFm.out
    clear HSm
    go_wp2_with fail
    go_ret
    exact HBAD.out _ (Below.setCell HBC.out (by simpa using hzl) _) HN0.out
theorem sumB {n : Nat} (w : World) (B : Nat) (v : Value) (l : List (Tm (n + 1))) (ho : ∀ x ∈ l, ∀ (w : World) (B g : Nat) (v : Value) (s : Int), B ≤ w.heap.size → ItemsAt w B n v x.items → Meas w g s → B ≤ g → 0 ≤ s → Calls Tryz.prog 227 #[.pointer (some ⟨g, 0, none⟩), aggV x.f v] w (MPost g s (formedT x) (nodesT x) (wholeT x) w)) (hB : B ≤ w.heap.size) (hI : ItemsAt w B (n + 1) v l) :
    Calls Tryz.prog 201 #[v] w (SPost l w) := by
  obtain ⟨p, c, rfl, hlc, hcm⟩ := hI.shape
  have HI := Lib.hid hI
  clear hI
  unfold maxLen at hcm
  go_enter Tryz.func201, Tryz.ntmps201
  go_wp2_with fail
  refine (kinds _).mono ?_
  rintro e w1 ⟨rfl, hb1⟩
  unfold fnsV
  go_wp2_with fail
  obtain ⟨W, hW⟩ : ∃ x, x = w1.alloc (measC 0) := ⟨_, rfl⟩
  have hMW : Meas W w1.heap.size 0 := by rw [hW]; exact (MapKept.heap_alloc w1 (measC 0)).1
  have hbW : Below w.heap.size w W := by rw [hW]; exact hb1.alloc hb1.size _
  have hgB : w.heap.size ≤ w1.heap.size := hb1.size
  unfold measC at hW
  rw [← hW]
  clear hW hb1
  generalize w1.heap.size = g at *
  have HMW := Lib.hid hMW
  clear hMW
  go_loopw [15] (fun s8 wr => ∃ (k : Nat) (sk : Int), s8 = .int .i64 k ∧ k ≤ l.length ∧ Hid (Meas wr g sk) ∧ TouchB (fun k => k = g) W wr ∧ 0 ≤ sk ∧ Hid (sk = wholeL (n + 1) (l.take k)) ∧ Hid (∀ j, (h : j < l.length) → j < k → formedT l[j] = true) ∧ Hid (sk ≤ 300 * nodesL (n + 1) (l.take k) - k)) (fun s8 _ => l.length - (intOf s8).toNat)
  case atStart =>
    refine ⟨0, 0, rfl, by omega, HMW, TouchB.refl _ _, by omega, Lib.hid ?_, Lib.hid (fun j _ h => by omega), Lib.hid ?_⟩
    · simp [wholeL]
    · simp [nodesL]
  case round =>
    obtain ⟨k, sk, rfl, hk, hMk, hT, hsk, hw, hall, hbd⟩ := hrel
    have hgr : g < wr.heap.size := hMk.out.lt
    have hTb : Below w.heap.size w wr := hbW.trans (hT.below (fun k e => by subst e; exact hgB) hbW.size)
    by_cases hlt : k < l.length
    · have hI2 := HI.out.below hTb hB
      obtain ⟨g1, o1, c1, e1, _, _, hg1, hx1⟩ := hI2.at_ (by intro e; subst e; simp at hlt)
      simp only [Value.slice.injEq] at e1
      obtain ⟨rfl, _, rfl⟩ := e1
      obtain ⟨u1, hC1, hI1⟩ := hx1 k hlt
      clear hx1 hI2
      obtain ⟨p1, c1, rfl, _, _⟩ := hI1.shape
      have hnm := nodes_mem hlt
      have hnd := nodes_len (n + 1) (l.drop (k + 1))
      simp only [List.length_drop] at hnd
      have hCl := fun (W' : World) (h : Below wr.heap.size wr W') => ho l[k] (List.getElem_mem hlt) W' B g _ sk (Nat.le_trans hB (hTb.trans (h.mono hTb.size)).size) (hI1.below h (Nat.le_trans hB hTb.size)) (hMk.out.block (h.block g hgr)) (Nat.le_trans hB hgB) hsk
      have hsnoc := whole_snoc l k hlt
      have HSN := Lib.hid hsnoc
      have hnb : ∀ s' : Int, s' ≤ sk + 300 * nodesT l[k] - 1 → s' ≤ 300 * nodesL (n + 1) (l.take (k + 1)) - ((k : Int) + 1) := fun s' h => by
        have := hbd.out
        have e : nodesL (n + 1) (l.take (k + 1)) = nodesL (n + 1) (l.take k) + nodesT l[k] := by
          rw [List.take_succ_eq_append_getElem hlt]
          unfold nodesL nodesT
          simp only [List.map_append, List.map_cons, List.map_nil, List.sum_append, List.sum_cons, List.sum_nil]; omega
        rw [e]; omega
      have HNB := Lib.hid hnb
      clear hnb hsnoc hnm hnd hMk
      obtain ⟨x0, x1, x2, x3, x4, x5, x6, x7, x8⟩ := hC1
      have HNO := Lib.hid (formed_no hlt)
      have HYES : Hid (formedT l[k] = true → ∀ j, (h : j < l.length) → j < k + 1 → formedT l[j] = true) := Lib.hid (fun h j hj hjk => by
        by_cases e : j = k
        · subst e; exact h
        · exact hall.out j hj (by omega))
      have HCl := Lib.hid hCl
      clear hCl hI1
      unfold aggV MPost at HCl
      generalize l[k] = x at *
      generalize x.items.length = xl at *
      generalize x.f = xf at *
      go_wp2_with fail
      refine (HCl.out _ ((Below.refl _ _).alloc (Nat.le_refl _) _)).mono ?_
      rintro e w2 ⟨rfl, s2, m1, m2, m3, m4, m5⟩
      have HM2 := Lib.hid m1
      have hT2 : TouchB (fun k => k = g) W w2 := (hT.alloc _).trans m2 (fun _ _ e => e)
      have b2 := HNB.out s2 m4
      by_cases hf : formedT x = true
      · have h5 := Lib.hid (m5 hf)
        have hY := HYES.out hf
        have HY := Lib.hid hY
        have B2 := Lib.hid b2
        clear hY b2 m1 m4 m5 HNB
        rw [hf]
        go_wp2_with fail
        go_roundw
        case rel =>
          refine ⟨k + 1, s2, by go_num, by omega, HM2, hT2, m3, Lib.hid ?_, HY, Lib.hid ?_⟩
          · rw [HSN.out, h5.out, hw.out]
          · have := B2.out; push_cast; omega
        case measure => simp [intOf]; omega
      · have hf : formedT x = false := by simpa using hf
        have hN := Lib.hid (HNO.out hf)
        rw [hf]
        clear b2 m1 m4 m5 HNB
        go_wp2_with fail
        go_ret2
        exact ⟨0, (by rw [hN.out]; try rfl), (fun h => by rw [hN.out] at h; cases h), by omega, hbW.trans (hT2.below (fun k e => by subst e; exact hgB) hbW.size)⟩
    · have hfin : formedL (n + 1) l = true := formed_yes (fun j hj => hall.out j hj (by omega))
      have HF := Lib.hid hfin
      have e : k = l.length := by omega
      have hw' : sk = wholeL (n + 1) l := by have := hw.out; rwa [List.take_of_length_le (by omega)] at this
      have HW := Lib.hid hw'
      have hms := hMk.out.size
      clear hfin e hw'
      go_wp2_with fail
      go_ret2
      exact ⟨sk, (by rw [HF.out]; try rfl), fun _ => HW.out, hsk, hTb⟩
theorem CheckB {n : Nat} (w : World) (B : Nat) (v : Value) (t : Tm (n + 1)) (ho : ∀ (w : World) (B g : Nat) (v : Value) (s : Int), B ≤ w.heap.size → ItemsAt w B n v t.items → Meas w g s → B ≤ g → 0 ≤ s → Calls Tryz.prog 227 #[.pointer (some ⟨g, 0, none⟩), aggV t.f v] w (MPost g s (formedT t) (nodesT t) (wholeT t) w)) (hB : B ≤ w.heap.size) (hI : ItemsAt w B n v t.items) :
    Calls Tryz.prog 170 #[aggV t.f v] w fun e w' => e = .returned (.int .i64 (checkT t)) ∧ Below w.heap.size w w' := by
  obtain ⟨p, c, rfl, _, hc⟩ := hI.shape
  obtain ⟨e1, e2, e3⟩ := oneL t
  have hrow : ∀ W : World, Below w.heap.size w W → ∀ g, W.heap[g]? = some (cells9 t.f (.slice p t.items.length c)) → g < W.heap.size → ItemsAt W W.heap.size (n + 1) (.slice (some ⟨g, 0, none⟩) 1 1) [t] := fun W hb g hg hgl => by
    refine ⟨_, 1, rfl, Nat.le_refl _, by unfold maxLen; omega, fun _ => ⟨g, 0, rfl, hgl, fun j hj => ?_⟩⟩
    obtain rfl : j = 0 := by simp at hj; omega
    have hN := nine_of hg
    exact ⟨_, ⟨hN.c0, hN.c1, hN.c2, hN.c3, hN.c4, hN.c5, hN.c6, hN.c7, hN.c8⟩, (hI.below hb hB).more (Nat.le_trans hB hb.size)⟩
  have hS := fun (W : World) (hb : Below w.heap.size w W) (g : Nat) (hg : W.heap[g]? = some (cells9 t.f (.slice p t.items.length c))) (hgl : g < W.heap.size) => sumB W W.heap.size _ [t] (fun x hx => by obtain rfl := List.mem_singleton.1 hx; exact ho) (Nat.le_refl _) (hrow W hb g hg hgl)
  unfold SPost at hS
  rw [e1, e2] at hS
  unfold checkT
  have HSS := Lib.hid hS
  clear hS hrow hI e1 e2 e3 ho
  generalize formedT t = ok at *
  generalize wholeT t = W at *
  generalize t.f = f at *
  generalize t.items.length = len at *
  obtain ⟨k, i, gg, nm, fn, ar, by_, bt⟩ := f
  unfold aggV cells9 at *
  dsimp only at *
  generalize hck : (if ok = true then (if W ≤ 2000 then (0 : Int) else 3) else 2) = ck at *
  have HCK := Lib.hid hck
  clear hck
  go_enter Tryz.func170, Tryz.ntmps170
  go_wp2_with fail
  have hA := (MapKept.heap_alloc (w.alloc (.cells #[.int .i64 k, .int .i64 i, .int .i64 gg, .string nm, .string fn, .int .i64 ar, .slice p len c, .string by_, .int .i64 bt] 30)) (.cells #[.int .i64 k, .int .i64 i, .int .i64 gg, .string nm, .string fn, .int .i64 ar, .slice p len c, .string by_, .int .i64 bt] 30)).1
  have hbA := ((Below.refl w.heap.size w).alloc (Nat.le_refl _) (.cells #[.int .i64 k, .int .i64 i, .int .i64 gg, .string nm, .string fn, .int .i64 ar, .slice p len c, .string by_, .int .i64 bt] 30)).alloc (by simp) (.cells #[.int .i64 k, .int .i64 i, .int .i64 gg, .string nm, .string fn, .int .i64 ar, .slice p len c, .string by_, .int .i64 bt] 30)
  refine (HSS.out _ hbA (w.heap.size + 1) (by simpa using hA) (by simp)).mono ?_
  clear hA HSS
  rintro e w1 ⟨r, rfl, h1, h2, h3⟩
  have hb := hbA.trans (h3.mono (by simp; omega))
  clear h3 hbA
  by_cases hok : ok = true
  · subst hok
    obtain rfl := h1 rfl
    by_cases hw : r ≤ 2000
    · have q : decide (2000 < r) = false := decide_eq_false (by omega)
      obtain rfl : 0 = ck := by have := HCK.out; rwa [if_pos rfl, if_pos hw] at this
      clear hw h1
      go_wp2_with fail
      go_ret
      exact ⟨rfl, hb⟩
    · have q : decide (2000 < r) = true := decide_eq_true (by omega)
      obtain rfl : 3 = ck := by have := HCK.out; rwa [if_pos rfl, if_neg hw] at this
      clear hw h1
      go_wp2_with fail
      go_ret
      exact ⟨rfl, hb⟩
  · have hok : ok = false := by simpa using hok
    subst hok
    obtain rfl : 2 = ck := by have := HCK.out; rwa [if_neg (by decide)] at this
    clear h1
    go_wp2_with fail
    go_ret
    exact ⟨rfl, hb⟩
theorem ValidB {n : Nat} (w : World) (B : Nat) (v : Value) (t : Tm (n + 1)) (ho : ∀ (w : World) (B g : Nat) (v : Value) (s : Int), B ≤ w.heap.size → ItemsAt w B n v t.items → Meas w g s → B ≤ g → 0 ≤ s → Calls Tryz.prog 227 #[.pointer (some ⟨g, 0, none⟩), aggV t.f v] w (MPost g s (formedT t) (nodesT t) (wholeT t) w)) (hB : B ≤ w.heap.size) (hI : ItemsAt w B n v t.items) :
    Calls Tryz.prog 121 #[aggV t.f v] w (BPost (validT t) w) := by
  obtain ⟨p, c, rfl, _, hc⟩ := hI.shape
  have hC := fun (W : World) (hb : Below w.heap.size w W) => CheckB W B _ t ho (Nat.le_trans hB hb.size) (hI.below hb hB)
  have hv := checkT_0 t
  have HC := Lib.hid hC
  clear hC hI ho
  generalize checkT t = ck at *
  generalize validT t = vt at *
  generalize t.f = f at *
  generalize t.items.length = len at *
  obtain ⟨k, i, gg, nm, fn, ar, by_, bt⟩ := f
  unfold aggV at *
  dsimp only at *
  go_enter Tryz.func121, Tryz.ntmps121
  go_wp2_with fail
  refine (HC.out _ ((Below.refl _ _).alloc (Nat.le_refl _) _)).mono ?_
  rintro e w1 ⟨rfl, hb⟩
  go_wp2_with fail
  go_ret
  exact ⟨rfl, ((Below.refl w.heap.size w).alloc (Nat.le_refl _) _).trans (hb.mono (by simp))⟩
theorem okT_bad {n : Nat} {t : Tm (n + 1)} (hk : t.f.kind = 3 ∨ t.f.kind = 6) (hi : t.items ≠ []) : okT t = false := by
  have h0 : bareOK t.f t.items.length = false := by
    have hl : t.items.length ≠ 0 := fun e => hi (List.length_eq_zero_iff.1 e)
    unfold bareOK
    rcases hk with hk | hk
    all_goals
      simp only [hk]
      simp [hl]
  unfold okT
  rw [h0]
  simp
theorem ValidAny {n : Nat} (w : World) (B : Nat) (v : Value) (t : Tm (n + 1)) (hk : t.f.kind = 3 ∨ t.f.kind = 6) (hB : B ≤ w.heap.size) (hI : ItemsAt w B n v t.items) : Calls Tryz.prog 121 #[aggV t.f v] w (BPost (validT t) w) := by
  by_cases hi : t.items = []
  · refine ValidTm (ofAll n) w B v t hB hI ?_
    have : nodesT t = 1 := by
      unfold nodesT
      rw [hi]
      cases n <;> simp [nodesL]
    rw [this]
    decide
  · exact ValidB w B v t (fun w B g v s h1 h2 h3 h4 h5 => ofBad w B g v t s h1 h2 h3 h4 h5 (okT_bad hk hi) (by omega) (by omega)) hB hI
end Go.Proofs.YtnakbepcalciiaaGreat.tm
namespace Go.Proofs.YtnakbepcalciiaaGreat.lk
open Go.RowKit mem rec tm names
set_option linter.unusedVariables false
set_option linter.unusedSimpArgs false
set_option maxHeartbeats 4000000
set_option maxRecDepth 100000
theorem of86N {n : Nat} (w : World) (B : Nat) (v : Value) (t : Tm (n + 1)) (k : Int) (hB : B ≤ w.heap.size) (hI : ItemsAt w B n v t.items) (hk36 : k = 3 ∨ k = 6) :
    Calls Tryz.prog 86 #[aggV t.f v, .int .i64 k] w fun e w' => e = .returned (.tuple #[idV (idOf t.f), .bool (decide (t.f.kind = k) && validT t)]) ∧ Below w.heap.size w w' := by
  have HV := Lib.hid (fun W (hb : Below w.heap.size w W) => fun (hkk : t.f.kind = k) => ValidAny W B v t (by rcases hk36 with h | h <;> omega) (Nat.le_trans hB hb.size) (hI.below hb hB))
  obtain ⟨p, c, rfl, _, hc⟩ := hI.shape
  generalize hr : validT t = r at *
  generalize t.items.length = m at *
  generalize t.f = f at *
  clear hI hr hk36
  obtain ⟨fk, fi, fg, fn, ff, fa, fb, fs⟩ := f
  unfold aggV idV idOf
  dsimp only
  have hb1 : Below w.heap.size w ((w.alloc (cells9 ⟨fk, fi, fg, fn, ff, fa, fb, fs⟩ (.slice p m c))).alloc (.cells #[.int .i64 0, .string ⟨#[]⟩, .int .i64 0, .int .i64 0] 147)) := belowA (belowA (Below.refl _ _) _) _ (by rw [World.size_alloc]; omega)
  have hN : Nine ((w.alloc (cells9 ⟨fk, fi, fg, fn, ff, fa, fb, fs⟩ (.slice p m c))).alloc (.cells #[.int .i64 0, .string ⟨#[]⟩, .int .i64 0, .int .i64 0] 147)) w.heap.size ⟨fk, fi, fg, fn, ff, fa, fb, fs⟩ (.slice p m c) := nine_of ((Below.heap_alloc _ _ _ (by rw [World.size_alloc]; omega)).trans (alloc_new _ _))
  have hz : ((w.alloc (cells9 ⟨fk, fi, fg, fn, ff, fa, fb, fs⟩ (.slice p m c))).alloc (.cells #[.int .i64 0, .string ⟨#[]⟩, .int .i64 0, .int .i64 0] 147)).heap[w.heap.size + 1]? = some (.cells #[.int .i64 0, .string ⟨#[]⟩, .int .i64 0, .int .i64 0] 147) := by
    have := alloc_new (w.alloc (cells9 ⟨fk, fi, fg, fn, ff, fa, fb, fs⟩ (.slice p m c))) (.cells #[.int .i64 0, .string ⟨#[]⟩, .int .i64 0, .int .i64 0] 147)
    rwa [World.size_alloc] at this
  unfold cells9 at hb1 hN hz
  dsimp only at hb1 hN hz
  have HB1 := Lib.hid hb1
  have HN := Lib.hid hN
  have HZ := Lib.hid hz
  clear hb1 hN hz
  by_cases hk : fk = k
  · have q : (fk == k) = true := by simp [hk]
    rw [decide_eq_true hk]
    have HK := Lib.hid hk
    clear hk
    go_enter Tryz.func86, Tryz.ntmps86
    go_wp2_with fail
    generalize ((w.alloc (.cells #[.int .i64 fk, .int .i64 fi, .int .i64 fg, .string fn, .string ff, .int .i64 fa, .slice p m c, .string fb, .int .i64 fs] 30)).alloc (.cells #[.int .i64 0, .string ⟨#[]⟩, .int .i64 0, .int .i64 0] 147)) = W1 at *
    obtain ⟨x0, x1, x2, x3, x4, x5, x6, x7, x8, xf⟩ := HN.out
    dsimp only at x0 x1 x2 x3 x4 x5 x6 x7 x8
    obtain ⟨z0, z1, z2, z3, zf⟩ := four_cells HZ.out
    have hbd := belowD HB1.out
    have hs2 := (Array.getElem?_eq_some_iff.1 HZ.out).1
    have HS1 : Hid (w.heap.size < W1.drew.heap.size) := Lib.hid (Nat.lt_of_succ_lt hs2)
    have HS2 : Hid (w.heap.size + 1 < W1.drew.heap.size) := Lib.hid hs2
    have HN' : Hid (Nine W1.drew w.heap.size ⟨fk, fi, fg, fn, ff, fa, fb, fs⟩ (.slice p m c)) := Lib.hid (nine_drew HN.out)
    have HZ' : Hid (W1.drew.heap[w.heap.size + 1]? = some (.cells #[.int .i64 0, .string ⟨#[]⟩, .int .i64 0, .int .i64 0] 147)) := Lib.hid HZ.out
    clear hs2
    go_region_held3 (fun w' => (w'.cell? ⟨w.heap.size, 0, none⟩ = some (.int .i64 fk) ∧ w'.cell? ⟨w.heap.size, 1, none⟩ = some (.int .i64 fi) ∧ w'.cell? ⟨w.heap.size, 2, none⟩ = some (.int .i64 fg) ∧ w'.cell? ⟨w.heap.size, 3, none⟩ = some (.string fn) ∧ w'.cell? ⟨w.heap.size, 4, none⟩ = some (.string ff) ∧ w'.cell? ⟨w.heap.size, 5, none⟩ = some (.int .i64 fa) ∧ w'.cell? ⟨w.heap.size, 6, none⟩ = some (.slice p m c) ∧ w'.cell? ⟨w.heap.size, 7, none⟩ = some (.string fb) ∧ w'.cell? ⟨w.heap.size, 8, none⟩ = some (.int .i64 fs))) (go_keep)
      (first
        | (go_at_call 121; refine (HV.out _ hbd HK.out).mono ?_; rintro e w1 ⟨rfl, hb⟩; have hbe := hbd.trans (hb.mono hbd.size); have HM := Lib.hid (HN'.out.below hb HS1.out); obtain ⟨y0, y1, y2, y3, y4, y5, y6, y7, y8, yf⟩ := HM.out; dsimp only at y0 y1 y2 y3 y4 y5 y6 y7 y8; obtain ⟨t0, t1, t2, t3, tf⟩ := four_cells (blk_below HZ'.out hb HS2.out)))
    all_goals
      clear HN HZ HN' HZ' HV x0 x1 x2 x3 x4 x5 x6 x7 x8 xf z0 z1 z2 z3 zf
      go_wp2_with fail
      (try simp only [Exit.inBlock, Exit.then])
      refine bodyPost_ret (v := .tuple #[.agg #[.int .i64 fk, .string fn, .int .i64 fg, .int .i64 fi], .bool r]) ?_ rfl ⟨rfl, ?_⟩
      · rw [results_cell_tmp rfl]
        go_simp
      · exact (((hbe.setCell (Nat.le_succ _) _).setCell (Nat.le_succ _) _).setCell (Nat.le_succ _) _).setCell (Nat.le_succ _) _
  · have q : (fk == k) = false := by simp [hk]
    rw [decide_eq_false hk]
    have HK := Lib.hid hk
    clear hk
    go_enter Tryz.func86, Tryz.ntmps86
    go_wp2_with fail
    generalize ((w.alloc (.cells #[.int .i64 fk, .int .i64 fi, .int .i64 fg, .string fn, .string ff, .int .i64 fa, .slice p m c, .string fb, .int .i64 fs] 30)).alloc (.cells #[.int .i64 0, .string ⟨#[]⟩, .int .i64 0, .int .i64 0] 147)) = W1 at *
    obtain ⟨x0, x1, x2, x3, x4, x5, x6, x7, x8, xf⟩ := HN.out
    dsimp only at x0 x1 x2 x3 x4 x5 x6 x7 x8
    obtain ⟨z0, z1, z2, z3, zf⟩ := four_cells HZ.out
    go_big_region
    go_wp2_with fail
    (try simp only [Exit.inBlock, Exit.then])
    refine bodyPost_ret (v := .tuple #[.agg #[.int .i64 fk, .string fn, .int .i64 fg, .int .i64 fi], .bool false]) ?_ rfl ⟨rfl, ?_⟩
    · rw [results_cell_tmp rfl]
      go_simp
    · exact belowD ((((HB1.out.setCell (Nat.le_succ _) _).setCell (Nat.le_succ _) _).setCell (Nat.le_succ _) _).setCell (Nat.le_succ _) _)
end Go.Proofs.YtnakbepcalciiaaGreat.lk
