/- Several texts in one, one behind the other: LwB. No condition beyond theirs. -/
import Derived.Test.YthgfdpamnepnfaaGr
import Derived.Test.YthgfdpamnepnfaaGa
/- OrderTotal: the walk. Conditions: the terms lie in memory. -/
namespace Go.Proofs.Ythgfdpamnepnfaa.tm
open Go.RowKit mem names
set_option linter.unusedVariables false
set_option linter.unusedSimpArgs false
set_option maxHeartbeats 2000000
set_option maxRecDepth 100000

theorem items_row {n : Nat} {w : World} {B : Nat} (g : Nat) (rs : List (Tm (n + 1) × Value)) (cs : Array Value) (h : w.heap[g]? = some (.cells cs 24 (0, 0))) (hcs : cs.toList = flatR (rs.map (fun r => (r.1.f, r.2)))) (hg : g < B) (hI : ∀ r ∈ rs, ItemsAt w B n r.2 r.1.items) (hl : rs.length ≤ maxLen) :
    ItemsAt w B (n + 1) (.slice (some ⟨g, 0, none⟩) (rs.map (fun r => r.1)).length (rs.map (fun r => r.1)).length) (rs.map (fun r => r.1)) := by
  refine ⟨_, _, rfl, Nat.le_refl _, by simpa using hl, fun _ => ⟨g, 0, rfl, hg, fun j hj => ?_⟩⟩
  have hj' : j < rs.length := by simpa using hj
  refine ⟨rs[j].2, Cells.of fun i hi => ?_, ?_⟩
  · rw [cell_of_row _ _ _ _ _ _ h, ← Array.getElem?_toList, hcs]
    have := flatR_get (rs.map (fun r => (r.1.f, r.2))) j (by simpa using hj') i hi
    simpa using this
  · simpa using hI rs[j] (List.getElem_mem hj')
theorem boxes3 (w : World) (f1 f2 f3 : TF) (v1 v2 v3 : Value) : Nine (((w.alloc (cells9 f1 v1)).alloc (cells9 f2 v2)).alloc (cells9 f3 v3)) w.heap.size f1 v1 ∧ Nine (((w.alloc (cells9 f1 v1)).alloc (cells9 f2 v2)).alloc (cells9 f3 v3)) (w.heap.size + 1) f2 v2 ∧ Nine (((w.alloc (cells9 f1 v1)).alloc (cells9 f2 v2)).alloc (cells9 f3 v3)) (w.heap.size + 2) f3 v3 ∧ Below w.heap.size w (((w.alloc (cells9 f1 v1)).alloc (cells9 f2 v2)).alloc (cells9 f3 v3)) ∧ (((w.alloc (cells9 f1 v1)).alloc (cells9 f2 v2)).alloc (cells9 f3 v3)).heap.size = w.heap.size + 3 := by
  obtain ⟨h1, h2, h3, h4⟩ := boxes2 w f1 f2 v1 v2
  have hb : Below ((w.alloc (cells9 f1 v1)).alloc (cells9 f2 v2)).heap.size ((w.alloc (cells9 f1 v1)).alloc (cells9 f2 v2)) (((w.alloc (cells9 f1 v1)).alloc (cells9 f2 v2)).alloc (cells9 f3 v3)) := (Below.refl _ _).alloc (Nat.le_refl _) _
  have h5 := (MapKept.heap_alloc ((w.alloc (cells9 f1 v1)).alloc (cells9 f2 v2)) (cells9 f3 v3)).1
  rw [h4] at h5
  exact ⟨h1.below hb (by omega), h2.below hb (by omega), nine_of h5, h3.trans (hb.mono (by omega)), by simp⟩
theorem nine_drew3 {w : World} {z : Nat} {f : TF} {v : Value} (h : Nine w z f v) : Nine w.drew z f v := nine_drew h
theorem valid_zero {n : Nat} {a b : Tm (n + 1)} (ha : validT a = true) (hb : validT b = true) : decide (cmpV a b = 0) = eqB a b := by
  unfold cmpV
  rw [if_pos ha, if_pos hb]
  by_cases h : cmpTm (n + 1) a b = 0
  · rw [decide_eq_true h, eqB_t ((ordT (n + 1)).eq a b (valid_formed ha) (valid_formed hb) h)]
  · rw [decide_eq_false h, eqB_f]
    intro e
    subst e
    exact h ((ordT (n + 1)).tp.refl a)
theorem totalF (x y t : TF) (p1 p2 p3 : Option Addr) (m1 c1 m2 c2 m3 c3 : Nat) (G va vb E : Bool) (r1 r2 r3 : Int) (w : World)
    (hG : ∀ W, Below w.heap.size w W → Calls Try.prog 11 #[.slice (some ⟨W.heap.size, 0, none⟩) 3 3, .int .i64 8000] (W.alloc (.cells (nineL x (.slice p1 m1 c1) ++ (nineL y (.slice p2 m2 c2) ++ nineL t (.slice p3 m3 c3))).toArray 24)) (BPost G (W.alloc (.cells (nineL x (.slice p1 m1 c1) ++ (nineL y (.slice p2 m2 c2) ++ nineL t (.slice p3 m3 c3))).toArray 24))))
    (hxy : G = false → ∀ W, Below w.heap.size w W → Calls Try.prog 14 #[aggV x (.slice p1 m1 c1), aggV y (.slice p2 m2 c2)] W (IPostC r1 W))
    (hyz : G = false → ∀ W, Below w.heap.size w W → Calls Try.prog 14 #[aggV y (.slice p2 m2 c2), aggV t (.slice p3 m3 c3)] W (IPostC r2 W))
    (hxz : G = false → ∀ W, Below w.heap.size w W → Calls Try.prog 14 #[aggV x (.slice p1 m1 c1), aggV t (.slice p3 m3 c3)] W (IPostC r3 W))
    (hyx : G = false → ∀ W, Below w.heap.size w W → Calls Try.prog 14 #[aggV y (.slice p2 m2 c2), aggV x (.slice p1 m1 c1)] W (IPostC (-r1) W))
    (hxx : G = false → ∀ W, Below w.heap.size w W → Calls Try.prog 14 #[aggV x (.slice p1 m1 c1), aggV x (.slice p1 m1 c1)] W (IPostC 0 W))
    (hva : G = false → ∀ W, Below w.heap.size w W → Calls Try.prog 29 #[aggV x (.slice p1 m1 c1)] W (BPost va W))
    (hvb : G = false → ∀ W, Below w.heap.size w W → Calls Try.prog 29 #[aggV y (.slice p2 m2 c2)] W (BPost vb W))
    (hE : G = false → ∀ W, Below w.heap.size w W → Calls Try.prog 30 #[aggV x (.slice p1 m1 c1), aggV y (.slice p2 m2 c2)] W (BPost E W))
    (k1' : r1 = -1 ∨ r1 = 0 ∨ r1 = 1) (k2' : r2 = -1 ∨ r2 = 0 ∨ r2 = 1) (k3' : r3 = -1 ∨ r3 = 0 ∨ r3 = 1) (htr : r1 ≤ 0 → r2 ≤ 0 → r3 ≤ 0 ∧ (r3 = 0 → r1 = 0 ∧ r2 = 0)) (hEq : va = true → vb = true → decide (r1 = 0) = E) :
    Calls Try.prog 7 #[aggV x (.slice p1 m1 c1), aggV y (.slice p2 m2 c2), aggV t (.slice p3 m3 c3)] w fun e w' => e = .returned (.bool true) ∧ Below w.heap.size w w' := by
  have HG := Lib.hid hG
  have HXY := Lib.hid hxy
  have HYZ := Lib.hid hyz
  have HXZ := Lib.hid hxz
  have HYX := Lib.hid hyx
  have HXX := Lib.hid hxx
  have HVA := Lib.hid hva
  have HVB := Lib.hid hvb
  have HE := Lib.hid hE
  have HTr := Lib.hid htr
  have HEq := Lib.hid hEq
  have HK1 := Lib.hid k1'
  have HK2 := Lib.hid k2'
  have HK3 := Lib.hid k3'
  have HSh := Lib.hid (fun W => shownW W)
  clear hG hxy hyz hxz hyx hxx hva hvb hE htr hEq k1' k2' k3'
  obtain ⟨k1, i1, g1, n1, fn1, a1, by1, s1⟩ := x
  obtain ⟨k2, i2, g2, n2, fn2, a2, by2, s2⟩ := y
  obtain ⟨k3, i3, g3, n3, fn3, a3, by3, s3⟩ := t
  unfold aggV BPost IPostC at *
  unfold nineL at HG
  dsimp only [List.cons_append, List.nil_append] at *
  go_enter Try.func7, Try.ntmps7
  go_wp2_with fail
  obtain ⟨hN1, hN2, hN3, hbw, hsz⟩ := boxes3 w ⟨k1, i1, g1, n1, fn1, a1, by1, s1⟩ ⟨k2, i2, g2, n2, fn2, a2, by2, s2⟩ ⟨k3, i3, g3, n3, fn3, a3, by3, s3⟩ (.slice p1 m1 c1) (.slice p2 m2 c2) (.slice p3 m3 c3)
  unfold cells9 at hN1 hN2 hN3 hbw hsz
  dsimp only at hN1 hN2 hN3 hbw hsz
  generalize (((w.alloc (.cells #[.int .i64 k1, .int .i64 i1, .int .i64 g1, .string n1, .string fn1, .int .i64 a1, .slice p1 m1 c1, .string by1, .int .i64 s1] 24)).alloc (.cells #[.int .i64 k2, .int .i64 i2, .int .i64 g2, .string n2, .string fn2, .int .i64 a2, .slice p2 m2 c2, .string by2, .int .i64 s2] 24)).alloc (.cells #[.int .i64 k3, .int .i64 i3, .int .i64 g3, .string n3, .string fn3, .int .i64 a3, .slice p3 m3 c3, .string by3, .int .i64 s3] 24)) = W0 at *
  have l01 : w.heap.size < W0.heap.size := by omega
  have l02 : w.heap.size + 1 < W0.heap.size := by omega
  have l03 : w.heap.size + 2 < W0.heap.size := by omega
  refine (HSh.out _).mono ?_
  rintro e w1 ⟨rfl, hb1⟩
  have HP1 := Lib.hid (hN1.below hb1 l01)
  have HP2 := Lib.hid (hN2.below hb1 l02)
  have HP3 := Lib.hid (hN3.below hb1 l03)
  have hbb1 := hbw.trans (hb1.mono hbw.size)
  have l11 := Nat.lt_of_lt_of_le l01 hb1.size
  have l12 := Nat.lt_of_lt_of_le l02 hb1.size
  have l13 := Nat.lt_of_lt_of_le l03 hb1.size
  obtain ⟨x0, x1, x2, x3, x4, x5, x6, x7, x8, xz⟩ := HP1.out
  obtain ⟨y0, y1, y2, y3, y4, y5, y6, y7, y8, yz⟩ := HP2.out
  obtain ⟨t0, t1, t2, t3, t4, t5, t6, t7, t8, tz⟩ := HP3.out
  dsimp only at x0 x1 x2 x3 x4 x5 x6 x7 x8 y0 y1 y2 y3 y4 y5 y6 y7 y8 t0 t1 t2 t3 t4 t5 t6 t7 t8
  have HGW := Lib.hid (HG.out w1 hbb1)
  have HB1 := Lib.hid hbb1
  clear hN1 hN2 hN3 l01 l02 l03 hbw hb1 hbb1 HG HSh hsz
  go_wp2_with fail
  refine HGW.out.mono ?_
  rintro e w2 ⟨rfl, hb2⟩
  have hq : Below w1.heap.size w1 w2 := ((Below.refl _ _).alloc (Nat.le_refl _) _).trans (hb2.mono (by simp))
  have hB0 : Below w.heap.size w w2.drew := (HB1.out.trans (hq.mono HB1.out.size)).drewN 1
  have HBw2 : Hid (Below w.heap.size w w2) := Lib.hid (HB1.out.trans (hq.mono HB1.out.size))
  have H01 := Lib.hid (nine_drew (HP1.out.below hq l11))
  have H02 := Lib.hid (nine_drew (HP2.out.below hq l12))
  have H03 := Lib.hid (nine_drew (HP3.out.below hq l13))
  have HM1 := Lib.hid (HP1.out.below hq l11)
  have HM2 := Lib.hid (HP2.out.below hq l12)
  have HM3 := Lib.hid (HP3.out.below hq l13)
  have l01 : w.heap.size < w2.drew.heap.size := Nat.lt_of_lt_of_le l11 hq.size
  have l02 : w.heap.size + 1 < w2.drew.heap.size := Nat.lt_of_lt_of_le l12 hq.size
  have l03 : w.heap.size + 2 < w2.drew.heap.size := Nat.lt_of_lt_of_le l13 hq.size
  clear x0 x1 x2 x3 x4 x5 x6 x7 x8 xz y0 y1 y2 y3 y4 y5 y6 y7 y8 yz t0 t1 t2 t3 t4 t5 t6 t7 t8 tz
  clear HP1 HP2 HP3 HB1 HGW l11 l12 l13 hb2 hq
  cases G
  · have HXY1 := Lib.hid (HXY.out rfl)
    have HYZ1 := Lib.hid (HYZ.out rfl)
    have HXZ1 := Lib.hid (HXZ.out rfl)
    have HYX1 := Lib.hid (HYX.out rfl)
    have HXX1 := Lib.hid (HXX.out rfl)
    have HVA1 := Lib.hid (HVA.out rfl)
    have HVB1 := Lib.hid (HVB.out rfl)
    have HE1 := Lib.hid (HE.out rfl)
    clear HXY HYZ HXZ HYX HXX HVA HVB HE HBw2
    obtain ⟨x0, x1, x2, x3, x4, x5, x6, x7, x8, xz⟩ := HM1.out
    obtain ⟨y0, y1, y2, y3, y4, y5, y6, y7, y8, yz⟩ := HM2.out
    obtain ⟨t0, t1, t2, t3, t4, t5, t6, t7, t8, tz⟩ := HM3.out
    dsimp only at x0 x1 x2 x3 x4 x5 x6 x7 x8 y0 y1 y2 y3 y4 y5 y6 y7 y8 t0 t1 t2 t3 t4 t5 t6 t7 t8
    clear HM1 HM2 HM3
    go_wp2_with fail
    go_region_held3 (fun w' => (w'.cell? ⟨w.heap.size, 0, none⟩ = some (.int .i64 k1) ∧ w'.cell? ⟨w.heap.size, 1, none⟩ = some (.int .i64 i1) ∧ w'.cell? ⟨w.heap.size, 2, none⟩ = some (.int .i64 g1) ∧ w'.cell? ⟨w.heap.size, 3, none⟩ = some (.string n1) ∧ w'.cell? ⟨w.heap.size, 4, none⟩ = some (.string fn1) ∧ w'.cell? ⟨w.heap.size, 5, none⟩ = some (.int .i64 a1) ∧ w'.cell? ⟨w.heap.size, 6, none⟩ = some (.slice p1 m1 c1) ∧ w'.cell? ⟨w.heap.size, 7, none⟩ = some (.string by1) ∧ w'.cell? ⟨w.heap.size, 8, none⟩ = some (.int .i64 s1)) ∧ (w'.cell? ⟨w.heap.size + 1, 0, none⟩ = some (.int .i64 k2) ∧ w'.cell? ⟨w.heap.size + 1, 1, none⟩ = some (.int .i64 i2) ∧ w'.cell? ⟨w.heap.size + 1, 2, none⟩ = some (.int .i64 g2) ∧ w'.cell? ⟨w.heap.size + 1, 3, none⟩ = some (.string n2) ∧ w'.cell? ⟨w.heap.size + 1, 4, none⟩ = some (.string fn2) ∧ w'.cell? ⟨w.heap.size + 1, 5, none⟩ = some (.int .i64 a2) ∧ w'.cell? ⟨w.heap.size + 1, 6, none⟩ = some (.slice p2 m2 c2) ∧ w'.cell? ⟨w.heap.size + 1, 7, none⟩ = some (.string by2) ∧ w'.cell? ⟨w.heap.size + 1, 8, none⟩ = some (.int .i64 s2)) ∧ w'.cell? ⟨w.heap.size + 2, 0, none⟩ = some (.int .i64 k3) ∧ w'.cell? ⟨w.heap.size + 2, 1, none⟩ = some (.int .i64 i3) ∧ w'.cell? ⟨w.heap.size + 2, 2, none⟩ = some (.int .i64 g3) ∧ w'.cell? ⟨w.heap.size + 2, 3, none⟩ = some (.string n3) ∧ w'.cell? ⟨w.heap.size + 2, 4, none⟩ = some (.string fn3) ∧ w'.cell? ⟨w.heap.size + 2, 5, none⟩ = some (.int .i64 a3) ∧ w'.cell? ⟨w.heap.size + 2, 6, none⟩ = some (.slice p3 m3 c3) ∧ w'.cell? ⟨w.heap.size + 2, 7, none⟩ = some (.string by3) ∧ w'.cell? ⟨w.heap.size + 2, 8, none⟩ = some (.int .i64 s3)) (go_keep)
      (first
        | (go_at_call 14; (with_reducible refine (HXY1.out w2.drew hB0).mono ?_); rintro e w3 ⟨rfl, hb3⟩; have hBq := hB0.trans (hb3.mono hB0.size); have lq1 := Nat.lt_of_lt_of_le l01 hb3.size; have lq2 := Nat.lt_of_lt_of_le l02 hb3.size; have lq3 := Nat.lt_of_lt_of_le l03 hb3.size; have Hq1 := Lib.hid (H01.out.below hb3 l01); have Hq2 := Lib.hid (H02.out.below hb3 l02); have Hq3 := Lib.hid (H03.out.below hb3 l03); obtain ⟨aq0, aq1, aq2, aq3, aq4, aq5, aq6, aq7, aq8, aqz⟩ := Hq1.out; obtain ⟨bq0, bq1, bq2, bq3, bq4, bq5, bq6, bq7, bq8, bqz⟩ := Hq2.out; obtain ⟨cq0, cq1, cq2, cq3, cq4, cq5, cq6, cq7, cq8, cqz⟩ := Hq3.out; dsimp only at aq0 aq1 aq2 aq3 aq4 aq5 aq6 aq7 aq8 bq0 bq1 bq2 bq3 bq4 bq5 bq6 bq7 bq8 cq0 cq1 cq2 cq3 cq4 cq5 cq6 cq7 cq8)
        | (go_at_call 14; (with_reducible refine (HYZ1.out w3 hBq).mono ?_); rintro e w4 ⟨rfl, hb4⟩; have hBr := hBq.trans (hb4.mono hBq.size); have lr1 := Nat.lt_of_lt_of_le lq1 hb4.size; have lr2 := Nat.lt_of_lt_of_le lq2 hb4.size; have lr3 := Nat.lt_of_lt_of_le lq3 hb4.size; have Hr1 := Lib.hid (Hq1.out.below hb4 lq1); have Hr2 := Lib.hid (Hq2.out.below hb4 lq2); have Hr3 := Lib.hid (Hq3.out.below hb4 lq3); obtain ⟨ar0, ar1, ar2, ar3, ar4, ar5, ar6, ar7, ar8, arz⟩ := Hr1.out; obtain ⟨br0, br1, br2, br3, br4, br5, br6, br7, br8, brz⟩ := Hr2.out; obtain ⟨cr0, cr1, cr2, cr3, cr4, cr5, cr6, cr7, cr8, crz⟩ := Hr3.out; dsimp only at ar0 ar1 ar2 ar3 ar4 ar5 ar6 ar7 ar8 br0 br1 br2 br3 br4 br5 br6 br7 br8 cr0 cr1 cr2 cr3 cr4 cr5 cr6 cr7 cr8)
        | (go_at_call 14; (with_reducible refine (HXZ1.out w4 hBr).mono ?_); rintro e w5 ⟨rfl, hb5⟩; have hBu := hBr.trans (hb5.mono hBr.size); have lu1 := Nat.lt_of_lt_of_le lr1 hb5.size; have lu2 := Nat.lt_of_lt_of_le lr2 hb5.size; have lu3 := Nat.lt_of_lt_of_le lr3 hb5.size; have Hu1 := Lib.hid (Hr1.out.below hb5 lr1); have Hu2 := Lib.hid (Hr2.out.below hb5 lr2); have Hu3 := Lib.hid (Hr3.out.below hb5 lr3); obtain ⟨au0, au1, au2, au3, au4, au5, au6, au7, au8, auz⟩ := Hu1.out; obtain ⟨bu0, bu1, bu2, bu3, bu4, bu5, bu6, bu7, bu8, buz⟩ := Hu2.out; obtain ⟨cu0, cu1, cu2, cu3, cu4, cu5, cu6, cu7, cu8, cuz⟩ := Hu3.out; dsimp only at au0 au1 au2 au3 au4 au5 au6 au7 au8 bu0 bu1 bu2 bu3 bu4 bu5 bu6 bu7 bu8 cu0 cu1 cu2 cu3 cu4 cu5 cu6 cu7 cu8))
    clear hB0 hBq hBr hb3 hb4 hb5 H01 H02 H03 Hq1 Hq2 Hq3 Hr1 Hr2 Hr3 l01 l02 l03 lq1 lq2 lq3 lr1 lr2 lr3 HXY1 HYZ1 HXZ1
    clear x0 x1 x2 x3 x4 x5 x6 x7 x8 xz y0 y1 y2 y3 y4 y5 y6 y7 y8 yz t0 t1 t2 t3 t4 t5 t6 t7 t8 tz aq0 aq1 aq2 aq3 aq4 aq5 aq6 aq7 aq8 aqz bq0 bq1 bq2 bq3 bq4 bq5 bq6 bq7 bq8 bqz cq0 cq1 cq2 cq3 cq4 cq5 cq6 cq7 cq8 cqz ar0 ar1 ar2 ar3 ar4 ar5 ar6 ar7 ar8 arz br0 br1 br2 br3 br4 br5 br6 br7 br8 brz cr0 cr1 cr2 cr3 cr4 cr5 cr6 cr7 cr8 crz
    have e1 : ¬ r1 < -1 := by have := HK1.out; omega
    have e2 : decide (r1 < -1) = false := decide_eq_false e1
    have e3 : ¬ (1 : Int) < r1 := by have := HK1.out; omega
    have e4 : decide ((1 : Int) < r1) = false := decide_eq_false e3
    have e5 : IntKind.i64.wrap (-r1) = -r1 := IntWalk.i64_in _ (by have := HK1.out; omega)
    have e6 : (-r1 != -r1) = false := by simp
    have HYXw := Lib.hid (HYX1.out w5 hBu)
    have HRes : Hid (∀ v : Bool, v = true → Ending.returned (.bool v) = .returned (.bool true)) := Lib.hid (fun v h => by rw [h])
    go_wp2_with fail
    refine (HYXw.out).mono ?_
    rintro e w6 ⟨rfl, hbv⟩
    have hBv := hBu.trans (hbv.mono hBu.size)
    have lv1 := Nat.lt_of_lt_of_le lu1 hbv.size
    have lv2 := Nat.lt_of_lt_of_le lu2 hbv.size
    have lv3 := Nat.lt_of_lt_of_le lu3 hbv.size
    have Hv1 := Lib.hid (Hu1.out.below hbv lu1)
    have Hv2 := Lib.hid (Hu2.out.below hbv lu2)
    have Hv3 := Lib.hid (Hu3.out.below hbv lu3)
    clear au0 au1 au2 au3 au4 au5 au6 au7 au8 auz bu0 bu1 bu2 bu3 bu4 bu5 bu6 bu7 bu8 buz cu0 cu1 cu2 cu3 cu4 cu5 cu6 cu7 cu8 cuz
    clear hbv hBu Hu1 Hu2 Hu3 lu1 lu2 lu3
    obtain ⟨av0, av1, av2, av3, av4, av5, av6, av7, av8, avz⟩ := Hv1.out
    obtain ⟨bv0, bv1, bv2, bv3, bv4, bv5, bv6, bv7, bv8, bvz⟩ := Hv2.out
    obtain ⟨cv0, cv1, cv2, cv3, cv4, cv5, cv6, cv7, cv8, cvz⟩ := Hv3.out
    dsimp only at av0 av1 av2 av3 av4 av5 av6 av7 av8 bv0 bv1 bv2 bv3 bv4 bv5 bv6 bv7 bv8 cv0 cv1 cv2 cv3 cv4 cv5 cv6 cv7 cv8
    have HXXw := Lib.hid (HXX1.out w6 hBv)
    clear HYXw HYX1 HXX1
    go_wp2_with fail
    refine (HXXw.out).mono ?_
    rintro e w7 ⟨rfl, hbz⟩
    have hBz := hBv.trans (hbz.mono hBv.size)
    have lz1 := Nat.lt_of_lt_of_le lv1 hbz.size
    have lz2 := Nat.lt_of_lt_of_le lv2 hbz.size
    have lz3 := Nat.lt_of_lt_of_le lv3 hbz.size
    have Hz1 := Lib.hid (Hv1.out.below hbz lv1)
    have Hz2 := Lib.hid (Hv2.out.below hbz lv2)
    have Hz3 := Lib.hid (Hv3.out.below hbz lv3)
    clear av0 av1 av2 av3 av4 av5 av6 av7 av8 avz bv0 bv1 bv2 bv3 bv4 bv5 bv6 bv7 bv8 bvz cv0 cv1 cv2 cv3 cv4 cv5 cv6 cv7 cv8 cvz
    clear hbz hBv Hv1 Hv2 Hv3 lv1 lv2 lv3
    obtain ⟨az0, az1, az2, az3, az4, az5, az6, az7, az8, azz⟩ := Hz1.out
    obtain ⟨bz0, bz1, bz2, bz3, bz4, bz5, bz6, bz7, bz8, bzz⟩ := Hz2.out
    obtain ⟨cz0, cz1, cz2, cz3, cz4, cz5, cz6, cz7, cz8, czz⟩ := Hz3.out
    dsimp only at az0 az1 az2 az3 az4 az5 az6 az7 az8 bz0 bz1 bz2 bz3 bz4 bz5 bz6 bz7 bz8 cz0 cz1 cz2 cz3 cz4 cz5 cz6 cz7 cz8
    clear HXXw e5 e6
    have HVAw := Lib.hid (HVA1.out w7 hBz)
    have HEnd : Hid (∀ W : World, True) := Lib.hid (fun _ => trivial)
    by_cases d1 : r1 ≤ 0
    case neg =>
      have e7 : decide (r1 ≤ 0) = false := decide_eq_false d1
      go_wp2_with fail
      refine (HVAw.out).mono ?_
      rintro e w8 ⟨rfl, hbf⟩
      have hBf := hBz.trans (hbf.mono hBz.size)
      have lf1 := Nat.lt_of_lt_of_le lz1 hbf.size
      have lf2 := Nat.lt_of_lt_of_le lz2 hbf.size
      have lf3 := Nat.lt_of_lt_of_le lz3 hbf.size
      have Hf1 := Lib.hid (Hz1.out.below hbf lz1)
      have Hf2 := Lib.hid (Hz2.out.below hbf lz2)
      have Hf3 := Lib.hid (Hz3.out.below hbf lz3)
      clear az0 az1 az2 az3 az4 az5 az6 az7 az8 azz bz0 bz1 bz2 bz3 bz4 bz5 bz6 bz7 bz8 bzz cz0 cz1 cz2 cz3 cz4 cz5 cz6 cz7 cz8 czz
      clear hbf hBz Hz1 Hz2 Hz3 lz1 lz2 lz3
      obtain ⟨af0, af1, af2, af3, af4, af5, af6, af7, af8, afz⟩ := Hf1.out
      obtain ⟨bf0, bf1, bf2, bf3, bf4, bf5, bf6, bf7, bf8, bfz⟩ := Hf2.out
      obtain ⟨cf0, cf1, cf2, cf3, cf4, cf5, cf6, cf7, cf8, cfz⟩ := Hf3.out
      dsimp only at af0 af1 af2 af3 af4 af5 af6 af7 af8 bf0 bf1 bf2 bf3 bf4 bf5 bf6 bf7 bf8 cf0 cf1 cf2 cf3 cf4 cf5 cf6 cf7 cf8
      cases va
      · go_wp2_with fail
        go_ret
        exact ⟨rfl, hBf⟩
      · have HVBw := Lib.hid (HVB1.out w8 hBf)
        clear HVAw HVA1 HVB1
        go_wp2_with fail
        refine (HVBw.out).mono ?_
        rintro e w9 ⟨rfl, hbh⟩
        have hBh := hBf.trans (hbh.mono hBf.size)
        have lh1 := Nat.lt_of_lt_of_le lf1 hbh.size
        have lh2 := Nat.lt_of_lt_of_le lf2 hbh.size
        have lh3 := Nat.lt_of_lt_of_le lf3 hbh.size
        have Hh1 := Lib.hid (Hf1.out.below hbh lf1)
        have Hh2 := Lib.hid (Hf2.out.below hbh lf2)
        have Hh3 := Lib.hid (Hf3.out.below hbh lf3)
        clear af0 af1 af2 af3 af4 af5 af6 af7 af8 afz bf0 bf1 bf2 bf3 bf4 bf5 bf6 bf7 bf8 bfz cf0 cf1 cf2 cf3 cf4 cf5 cf6 cf7 cf8 cfz
        clear hbh hBf Hf1 Hf2 Hf3 lf1 lf2 lf3
        obtain ⟨ah0, ah1, ah2, ah3, ah4, ah5, ah6, ah7, ah8, ahz⟩ := Hh1.out
        obtain ⟨bh0, bh1, bh2, bh3, bh4, bh5, bh6, bh7, bh8, bhz⟩ := Hh2.out
        obtain ⟨ch0, ch1, ch2, ch3, ch4, ch5, ch6, ch7, ch8, chz⟩ := Hh3.out
        dsimp only at ah0 ah1 ah2 ah3 ah4 ah5 ah6 ah7 ah8 bh0 bh1 bh2 bh3 bh4 bh5 bh6 bh7 bh8 ch0 ch1 ch2 ch3 ch4 ch5 ch6 ch7 ch8
        cases vb
        · go_wp2_with fail
          go_ret
          exact ⟨rfl, hBh⟩
        · have HEw := Lib.hid (HE1.out w9 hBh)
          have HEQ := Lib.hid (HEq.out (by trivial) (by trivial))
          clear HVBw HE1
          go_wp2_with fail
          refine (HEw.out).mono ?_
          rintro e w10 ⟨rfl, hbj⟩
          have hBj := hBh.trans (hbj.mono hBh.size)
          have lj1 := Nat.lt_of_lt_of_le lh1 hbj.size
          have lj2 := Nat.lt_of_lt_of_le lh2 hbj.size
          have lj3 := Nat.lt_of_lt_of_le lh3 hbj.size
          have Hj1 := Lib.hid (Hh1.out.below hbj lh1)
          have Hj2 := Lib.hid (Hh2.out.below hbj lh2)
          have Hj3 := Lib.hid (Hh3.out.below hbj lh3)
          clear ah0 ah1 ah2 ah3 ah4 ah5 ah6 ah7 ah8 ahz bh0 bh1 bh2 bh3 bh4 bh5 bh6 bh7 bh8 bhz ch0 ch1 ch2 ch3 ch4 ch5 ch6 ch7 ch8 chz
          clear hbj hBh Hh1 Hh2 Hh3 lh1 lh2 lh3
          obtain ⟨aj0, aj1, aj2, aj3, aj4, aj5, aj6, aj7, aj8, ajz⟩ := Hj1.out
          obtain ⟨bj0, bj1, bj2, bj3, bj4, bj5, bj6, bj7, bj8, bjz⟩ := Hj2.out
          obtain ⟨cj0, cj1, cj2, cj3, cj4, cj5, cj6, cj7, cj8, cjz⟩ := Hj3.out
          dsimp only at aj0 aj1 aj2 aj3 aj4 aj5 aj6 aj7 aj8 bj0 bj1 bj2 bj3 bj4 bj5 bj6 bj7 bj8 cj0 cj1 cj2 cj3 cj4 cj5 cj6 cj7 cj8
          go_wp2_with fail
          go_ret
          refine ⟨?_, hBj⟩
          have hq := HEQ.out
          refine ret1b ?_
          rw [← hq]
          first | (by_cases hz : r1 = 0 <;> simp [hz]; done) | (simp; done) | rfl
    have e7 : decide (r1 ≤ 0) = true := decide_eq_true d1
    by_cases d2 : r2 ≤ 0
    case neg =>
      have e8 : decide (r2 ≤ 0) = false := decide_eq_false d2
      go_wp2_with fail
      refine (HVAw.out).mono ?_
      rintro e w8 ⟨rfl, hbf⟩
      have hBf := hBz.trans (hbf.mono hBz.size)
      have lf1 := Nat.lt_of_lt_of_le lz1 hbf.size
      have lf2 := Nat.lt_of_lt_of_le lz2 hbf.size
      have lf3 := Nat.lt_of_lt_of_le lz3 hbf.size
      have Hf1 := Lib.hid (Hz1.out.below hbf lz1)
      have Hf2 := Lib.hid (Hz2.out.below hbf lz2)
      have Hf3 := Lib.hid (Hz3.out.below hbf lz3)
      clear az0 az1 az2 az3 az4 az5 az6 az7 az8 azz bz0 bz1 bz2 bz3 bz4 bz5 bz6 bz7 bz8 bzz cz0 cz1 cz2 cz3 cz4 cz5 cz6 cz7 cz8 czz
      clear hbf hBz Hz1 Hz2 Hz3 lz1 lz2 lz3
      obtain ⟨af0, af1, af2, af3, af4, af5, af6, af7, af8, afz⟩ := Hf1.out
      obtain ⟨bf0, bf1, bf2, bf3, bf4, bf5, bf6, bf7, bf8, bfz⟩ := Hf2.out
      obtain ⟨cf0, cf1, cf2, cf3, cf4, cf5, cf6, cf7, cf8, cfz⟩ := Hf3.out
      dsimp only at af0 af1 af2 af3 af4 af5 af6 af7 af8 bf0 bf1 bf2 bf3 bf4 bf5 bf6 bf7 bf8 cf0 cf1 cf2 cf3 cf4 cf5 cf6 cf7 cf8
      cases va
      · go_wp2_with fail
        go_ret
        exact ⟨rfl, hBf⟩
      · have HVBw := Lib.hid (HVB1.out w8 hBf)
        clear HVAw HVA1 HVB1
        go_wp2_with fail
        refine (HVBw.out).mono ?_
        rintro e w9 ⟨rfl, hbh⟩
        have hBh := hBf.trans (hbh.mono hBf.size)
        have lh1 := Nat.lt_of_lt_of_le lf1 hbh.size
        have lh2 := Nat.lt_of_lt_of_le lf2 hbh.size
        have lh3 := Nat.lt_of_lt_of_le lf3 hbh.size
        have Hh1 := Lib.hid (Hf1.out.below hbh lf1)
        have Hh2 := Lib.hid (Hf2.out.below hbh lf2)
        have Hh3 := Lib.hid (Hf3.out.below hbh lf3)
        clear af0 af1 af2 af3 af4 af5 af6 af7 af8 afz bf0 bf1 bf2 bf3 bf4 bf5 bf6 bf7 bf8 bfz cf0 cf1 cf2 cf3 cf4 cf5 cf6 cf7 cf8 cfz
        clear hbh hBf Hf1 Hf2 Hf3 lf1 lf2 lf3
        obtain ⟨ah0, ah1, ah2, ah3, ah4, ah5, ah6, ah7, ah8, ahz⟩ := Hh1.out
        obtain ⟨bh0, bh1, bh2, bh3, bh4, bh5, bh6, bh7, bh8, bhz⟩ := Hh2.out
        obtain ⟨ch0, ch1, ch2, ch3, ch4, ch5, ch6, ch7, ch8, chz⟩ := Hh3.out
        dsimp only at ah0 ah1 ah2 ah3 ah4 ah5 ah6 ah7 ah8 bh0 bh1 bh2 bh3 bh4 bh5 bh6 bh7 bh8 ch0 ch1 ch2 ch3 ch4 ch5 ch6 ch7 ch8
        cases vb
        · go_wp2_with fail
          go_ret
          exact ⟨rfl, hBh⟩
        · have HEw := Lib.hid (HE1.out w9 hBh)
          have HEQ := Lib.hid (HEq.out (by trivial) (by trivial))
          clear HVBw HE1
          go_wp2_with fail
          refine (HEw.out).mono ?_
          rintro e w10 ⟨rfl, hbj⟩
          have hBj := hBh.trans (hbj.mono hBh.size)
          have lj1 := Nat.lt_of_lt_of_le lh1 hbj.size
          have lj2 := Nat.lt_of_lt_of_le lh2 hbj.size
          have lj3 := Nat.lt_of_lt_of_le lh3 hbj.size
          have Hj1 := Lib.hid (Hh1.out.below hbj lh1)
          have Hj2 := Lib.hid (Hh2.out.below hbj lh2)
          have Hj3 := Lib.hid (Hh3.out.below hbj lh3)
          clear ah0 ah1 ah2 ah3 ah4 ah5 ah6 ah7 ah8 ahz bh0 bh1 bh2 bh3 bh4 bh5 bh6 bh7 bh8 bhz ch0 ch1 ch2 ch3 ch4 ch5 ch6 ch7 ch8 chz
          clear hbj hBh Hh1 Hh2 Hh3 lh1 lh2 lh3
          obtain ⟨aj0, aj1, aj2, aj3, aj4, aj5, aj6, aj7, aj8, ajz⟩ := Hj1.out
          obtain ⟨bj0, bj1, bj2, bj3, bj4, bj5, bj6, bj7, bj8, bjz⟩ := Hj2.out
          obtain ⟨cj0, cj1, cj2, cj3, cj4, cj5, cj6, cj7, cj8, cjz⟩ := Hj3.out
          dsimp only at aj0 aj1 aj2 aj3 aj4 aj5 aj6 aj7 aj8 bj0 bj1 bj2 bj3 bj4 bj5 bj6 bj7 bj8 cj0 cj1 cj2 cj3 cj4 cj5 cj6 cj7 cj8
          go_wp2_with fail
          go_ret
          refine ⟨?_, hBj⟩
          have hq := HEQ.out
          refine ret1b ?_
          rw [← hq]
          first | (by_cases hz : r1 = 0 <;> simp [hz]; done) | (simp; done) | rfl
    have e8 : decide (r2 ≤ 0) = true := decide_eq_true d2
    obtain ⟨d3, d4⟩ := HTr.out d1 d2
    have e9 : ¬ (0 : Int) < r3 := by omega
    have e10 : decide ((0 : Int) < r3) = false := decide_eq_false e9
    by_cases d5 : r3 = 0
    case neg =>
      have e11 : (r3 == 0) = false := by simp [d5]
      clear d4
      go_wp2_with fail
      refine (HVAw.out).mono ?_
      rintro e w8 ⟨rfl, hbf⟩
      have hBf := hBz.trans (hbf.mono hBz.size)
      have lf1 := Nat.lt_of_lt_of_le lz1 hbf.size
      have lf2 := Nat.lt_of_lt_of_le lz2 hbf.size
      have lf3 := Nat.lt_of_lt_of_le lz3 hbf.size
      have Hf1 := Lib.hid (Hz1.out.below hbf lz1)
      have Hf2 := Lib.hid (Hz2.out.below hbf lz2)
      have Hf3 := Lib.hid (Hz3.out.below hbf lz3)
      clear az0 az1 az2 az3 az4 az5 az6 az7 az8 azz bz0 bz1 bz2 bz3 bz4 bz5 bz6 bz7 bz8 bzz cz0 cz1 cz2 cz3 cz4 cz5 cz6 cz7 cz8 czz
      clear hbf hBz Hz1 Hz2 Hz3 lz1 lz2 lz3
      obtain ⟨af0, af1, af2, af3, af4, af5, af6, af7, af8, afz⟩ := Hf1.out
      obtain ⟨bf0, bf1, bf2, bf3, bf4, bf5, bf6, bf7, bf8, bfz⟩ := Hf2.out
      obtain ⟨cf0, cf1, cf2, cf3, cf4, cf5, cf6, cf7, cf8, cfz⟩ := Hf3.out
      dsimp only at af0 af1 af2 af3 af4 af5 af6 af7 af8 bf0 bf1 bf2 bf3 bf4 bf5 bf6 bf7 bf8 cf0 cf1 cf2 cf3 cf4 cf5 cf6 cf7 cf8
      cases va
      · go_wp2_with fail
        go_ret
        exact ⟨rfl, hBf⟩
      · have HVBw := Lib.hid (HVB1.out w8 hBf)
        clear HVAw HVA1 HVB1
        go_wp2_with fail
        refine (HVBw.out).mono ?_
        rintro e w9 ⟨rfl, hbh⟩
        have hBh := hBf.trans (hbh.mono hBf.size)
        have lh1 := Nat.lt_of_lt_of_le lf1 hbh.size
        have lh2 := Nat.lt_of_lt_of_le lf2 hbh.size
        have lh3 := Nat.lt_of_lt_of_le lf3 hbh.size
        have Hh1 := Lib.hid (Hf1.out.below hbh lf1)
        have Hh2 := Lib.hid (Hf2.out.below hbh lf2)
        have Hh3 := Lib.hid (Hf3.out.below hbh lf3)
        clear af0 af1 af2 af3 af4 af5 af6 af7 af8 afz bf0 bf1 bf2 bf3 bf4 bf5 bf6 bf7 bf8 bfz cf0 cf1 cf2 cf3 cf4 cf5 cf6 cf7 cf8 cfz
        clear hbh hBf Hf1 Hf2 Hf3 lf1 lf2 lf3
        obtain ⟨ah0, ah1, ah2, ah3, ah4, ah5, ah6, ah7, ah8, ahz⟩ := Hh1.out
        obtain ⟨bh0, bh1, bh2, bh3, bh4, bh5, bh6, bh7, bh8, bhz⟩ := Hh2.out
        obtain ⟨ch0, ch1, ch2, ch3, ch4, ch5, ch6, ch7, ch8, chz⟩ := Hh3.out
        dsimp only at ah0 ah1 ah2 ah3 ah4 ah5 ah6 ah7 ah8 bh0 bh1 bh2 bh3 bh4 bh5 bh6 bh7 bh8 ch0 ch1 ch2 ch3 ch4 ch5 ch6 ch7 ch8
        cases vb
        · go_wp2_with fail
          go_ret
          exact ⟨rfl, hBh⟩
        · have HEw := Lib.hid (HE1.out w9 hBh)
          have HEQ := Lib.hid (HEq.out (by trivial) (by trivial))
          clear HVBw HE1
          go_wp2_with fail
          refine (HEw.out).mono ?_
          rintro e w10 ⟨rfl, hbj⟩
          have hBj := hBh.trans (hbj.mono hBh.size)
          have lj1 := Nat.lt_of_lt_of_le lh1 hbj.size
          have lj2 := Nat.lt_of_lt_of_le lh2 hbj.size
          have lj3 := Nat.lt_of_lt_of_le lh3 hbj.size
          have Hj1 := Lib.hid (Hh1.out.below hbj lh1)
          have Hj2 := Lib.hid (Hh2.out.below hbj lh2)
          have Hj3 := Lib.hid (Hh3.out.below hbj lh3)
          clear ah0 ah1 ah2 ah3 ah4 ah5 ah6 ah7 ah8 ahz bh0 bh1 bh2 bh3 bh4 bh5 bh6 bh7 bh8 bhz ch0 ch1 ch2 ch3 ch4 ch5 ch6 ch7 ch8 chz
          clear hbj hBh Hh1 Hh2 Hh3 lh1 lh2 lh3
          obtain ⟨aj0, aj1, aj2, aj3, aj4, aj5, aj6, aj7, aj8, ajz⟩ := Hj1.out
          obtain ⟨bj0, bj1, bj2, bj3, bj4, bj5, bj6, bj7, bj8, bjz⟩ := Hj2.out
          obtain ⟨cj0, cj1, cj2, cj3, cj4, cj5, cj6, cj7, cj8, cjz⟩ := Hj3.out
          dsimp only at aj0 aj1 aj2 aj3 aj4 aj5 aj6 aj7 aj8 bj0 bj1 bj2 bj3 bj4 bj5 bj6 bj7 bj8 cj0 cj1 cj2 cj3 cj4 cj5 cj6 cj7 cj8
          go_wp2_with fail
          go_ret
          refine ⟨?_, hBj⟩
          have hq := HEQ.out
          refine ret1b ?_
          rw [← hq]
          first | (by_cases hz : r1 = 0 <;> simp [hz]; done) | (simp; done) | rfl
    obtain ⟨d6, d7⟩ := d4 d5
    subst d5
    subst d6
    subst d7
    clear d1 d2 d3 d4 e1 e2 e3 e4 e7 e8 e9 e10
    go_wp2_with fail
    refine (HVAw.out).mono ?_
    rintro e w8 ⟨rfl, hbf⟩
    have hBf := hBz.trans (hbf.mono hBz.size)
    have lf1 := Nat.lt_of_lt_of_le lz1 hbf.size
    have lf2 := Nat.lt_of_lt_of_le lz2 hbf.size
    have lf3 := Nat.lt_of_lt_of_le lz3 hbf.size
    have Hf1 := Lib.hid (Hz1.out.below hbf lz1)
    have Hf2 := Lib.hid (Hz2.out.below hbf lz2)
    have Hf3 := Lib.hid (Hz3.out.below hbf lz3)
    clear az0 az1 az2 az3 az4 az5 az6 az7 az8 azz bz0 bz1 bz2 bz3 bz4 bz5 bz6 bz7 bz8 bzz cz0 cz1 cz2 cz3 cz4 cz5 cz6 cz7 cz8 czz
    clear hbf hBz Hz1 Hz2 Hz3 lz1 lz2 lz3
    obtain ⟨af0, af1, af2, af3, af4, af5, af6, af7, af8, afz⟩ := Hf1.out
    obtain ⟨bf0, bf1, bf2, bf3, bf4, bf5, bf6, bf7, bf8, bfz⟩ := Hf2.out
    obtain ⟨cf0, cf1, cf2, cf3, cf4, cf5, cf6, cf7, cf8, cfz⟩ := Hf3.out
    dsimp only at af0 af1 af2 af3 af4 af5 af6 af7 af8 bf0 bf1 bf2 bf3 bf4 bf5 bf6 bf7 bf8 cf0 cf1 cf2 cf3 cf4 cf5 cf6 cf7 cf8
    cases va
    · go_wp2_with fail
      go_ret
      exact ⟨rfl, hBf⟩
    · have HVBw := Lib.hid (HVB1.out w8 hBf)
      clear HVAw HVA1 HVB1
      go_wp2_with fail
      refine (HVBw.out).mono ?_
      rintro e w9 ⟨rfl, hbh⟩
      have hBh := hBf.trans (hbh.mono hBf.size)
      have lh1 := Nat.lt_of_lt_of_le lf1 hbh.size
      have lh2 := Nat.lt_of_lt_of_le lf2 hbh.size
      have lh3 := Nat.lt_of_lt_of_le lf3 hbh.size
      have Hh1 := Lib.hid (Hf1.out.below hbh lf1)
      have Hh2 := Lib.hid (Hf2.out.below hbh lf2)
      have Hh3 := Lib.hid (Hf3.out.below hbh lf3)
      clear af0 af1 af2 af3 af4 af5 af6 af7 af8 afz bf0 bf1 bf2 bf3 bf4 bf5 bf6 bf7 bf8 bfz cf0 cf1 cf2 cf3 cf4 cf5 cf6 cf7 cf8 cfz
      clear hbh hBf Hf1 Hf2 Hf3 lf1 lf2 lf3
      obtain ⟨ah0, ah1, ah2, ah3, ah4, ah5, ah6, ah7, ah8, ahz⟩ := Hh1.out
      obtain ⟨bh0, bh1, bh2, bh3, bh4, bh5, bh6, bh7, bh8, bhz⟩ := Hh2.out
      obtain ⟨ch0, ch1, ch2, ch3, ch4, ch5, ch6, ch7, ch8, chz⟩ := Hh3.out
      dsimp only at ah0 ah1 ah2 ah3 ah4 ah5 ah6 ah7 ah8 bh0 bh1 bh2 bh3 bh4 bh5 bh6 bh7 bh8 ch0 ch1 ch2 ch3 ch4 ch5 ch6 ch7 ch8
      cases vb
      · go_wp2_with fail
        go_ret
        exact ⟨rfl, hBh⟩
      · have HEw := Lib.hid (HE1.out w9 hBh)
        have HEQ := Lib.hid (HEq.out (by trivial) (by trivial))
        clear HVBw HE1
        go_wp2_with fail
        refine (HEw.out).mono ?_
        rintro e w10 ⟨rfl, hbj⟩
        have hBj := hBh.trans (hbj.mono hBh.size)
        have lj1 := Nat.lt_of_lt_of_le lh1 hbj.size
        have lj2 := Nat.lt_of_lt_of_le lh2 hbj.size
        have lj3 := Nat.lt_of_lt_of_le lh3 hbj.size
        have Hj1 := Lib.hid (Hh1.out.below hbj lh1)
        have Hj2 := Lib.hid (Hh2.out.below hbj lh2)
        have Hj3 := Lib.hid (Hh3.out.below hbj lh3)
        clear ah0 ah1 ah2 ah3 ah4 ah5 ah6 ah7 ah8 ahz bh0 bh1 bh2 bh3 bh4 bh5 bh6 bh7 bh8 bhz ch0 ch1 ch2 ch3 ch4 ch5 ch6 ch7 ch8 chz
        clear hbj hBh Hh1 Hh2 Hh3 lh1 lh2 lh3
        obtain ⟨aj0, aj1, aj2, aj3, aj4, aj5, aj6, aj7, aj8, ajz⟩ := Hj1.out
        obtain ⟨bj0, bj1, bj2, bj3, bj4, bj5, bj6, bj7, bj8, bjz⟩ := Hj2.out
        obtain ⟨cj0, cj1, cj2, cj3, cj4, cj5, cj6, cj7, cj8, cjz⟩ := Hj3.out
        dsimp only at aj0 aj1 aj2 aj3 aj4 aj5 aj6 aj7 aj8 bj0 bj1 bj2 bj3 bj4 bj5 bj6 bj7 bj8 cj0 cj1 cj2 cj3 cj4 cj5 cj6 cj7 cj8
        go_wp2_with fail
        go_ret
        refine ⟨?_, hBj⟩
        have hq := HEQ.out
        refine ret1b ?_
        rw [← hq]
        first | (simp; done) | rfl
  · go_wp2_with fail
    go_ret
    exact ⟨rfl, HBw2.out⟩
theorem lawTotal {n : Nat} (w : World) (t1 t2 t3 : Tm (n + 1)) (u1 u2 u3 : Value) (I1 : ItemsAt w w.heap.size n u1 t1.items) (I2 : ItemsAt w w.heap.size n u2 t2.items) (I3 : ItemsAt w w.heap.size n u3 t3.items) :
    Calls Try.prog 7 #[aggV t1.f u1, aggV t2.f u2, aggV t3.f u3] w fun e w' => e = .returned (.bool true) ∧ Below w.heap.size w w' := by
  have hN : greatS (n + 1) [t1, t2, t3] 8000 = false → nodesT t1 ≤ 8000 ∧ nodesT t2 ≤ 8000 ∧ nodesT t3 ≤ 8000 := fun h => by
    have := great_nodes h
    rw [nodesL_cons, nodesL_cons, nodesL_cons] at this
    omega
  have hC : ∀ (a b : Tm (n + 1)) (u v : Value), ItemsAt w w.heap.size n u a.items → ItemsAt w w.heap.size n v b.items → nodesT a ≤ 8000 → nodesT b ≤ 8000 → ∀ W, Below w.heap.size w W → Calls Try.prog 14 #[aggV a.f u, aggV b.f v] W (IPostC (cmpV a b) W) := fun a b u v i1 i2 h1 h2 W hb => Compare W w.heap.size u v a b hb.size (i1.below hb (Nat.le_refl _)) (i2.below hb (Nat.le_refl _)) (by omega) (by omega)
  have tp := tpV (n := n)
  have hG := fun W (hb : Below w.heap.size w W) => Great (n := n + 1) (W.alloc (.cells (nineL t1.f u1 ++ (nineL t2.f u2 ++ nineL t3.f u3)).toArray 24)) (W.heap.size + 1) _ [t1, t2, t3] 8000 (by simp) (by omega) (by omega)
    (items_row (n := n) (w := W.alloc (.cells (nineL t1.f u1 ++ (nineL t2.f u2 ++ nineL t3.f u3)).toArray 24)) (B := W.heap.size + 1) W.heap.size [(t1, u1), (t2, u2), (t3, u3)] _ (MapKept.heap_alloc W _).1 (by simp [flatR]) (by omega) (fun r hr => by
      have hbw : Below W.heap.size W (W.alloc (.cells (nineL t1.f u1 ++ (nineL t2.f u2 ++ nineL t3.f u3)).toArray 24)) := (Below.refl _ _).alloc (Nat.le_refl _) _
      have hm := hb.size
      simp only [List.mem_cons, List.mem_nil_iff, or_false] at hr
      rcases hr with rfl | rfl | rfl
      · exact ((I1.below hb (Nat.le_refl _)).below hbw hm).more (by omega)
      · exact ((I2.below hb (Nat.le_refl _)).below hbw hm).more (by omega)
      · exact ((I3.below hb (Nat.le_refl _)).below hbw hm).more (by omega)) (by unfold maxLen; simp))
  have hV := fun (a : Tm (n + 1)) u (i1 : ItemsAt w w.heap.size n u a.items) (h1 : nodesT a ≤ 8000) W (hb : Below w.heap.size w W) => RValid W w.heap.size u a hb.size (i1.below hb (Nat.le_refl _)) (by omega)
  have hS := fun W (hb : Below w.heap.size w W) => sameOne W w.heap.size u1 u2 t1 t2 hb.size (I1.below hb (Nat.le_refl _)) (I2.below hb (Nat.le_refl _))
  have h12 := fun h => hC t1 t2 u1 u2 I1 I2 (hN h).1 (hN h).2.1
  have h23 := fun h => hC t2 t3 u2 u3 I2 I3 (hN h).2.1 (hN h).2.2
  have h13 := fun h => hC t1 t3 u1 u3 I1 I3 (hN h).1 (hN h).2.2
  have h21 := fun h => hC t2 t1 u2 u1 I2 I1 (hN h).2.1 (hN h).1
  have h11 := fun h => hC t1 t1 u1 u1 I1 I1 (hN h).1 (hN h).1
  rw [tp.anti t1 t2] at h21
  rw [tp.refl t1] at h11
  have hva := fun h => hV t1 u1 I1 (hN h).1
  have hvb := fun h => hV t2 u2 I2 (hN h).2.1
  obtain ⟨p1, c1, rfl, _, _⟩ := I1.shape
  obtain ⟨p2, c2, rfl, _, _⟩ := I2.shape
  obtain ⟨p3, c3, rfl, _, _⟩ := I3.shape
  refine totalF t1.f t2.f t3.f p1 p2 p3 _ c1 _ c2 _ c3 (greatS (n + 1) [t1, t2, t3] 8000) (validT t1) (validT t2) (eqB t1 t2) (cmpV t1 t2) (cmpV t2 t3) (cmpV t1 t3) w hG h12 h23 h13 h21 h11 hva hvb (fun _ => hS) (tp.range _ _) (tp.range _ _) (tp.range _ _) (fun a b => ?_) (fun ha hb => valid_zero ha hb)
  exact ⟨tp.trans _ _ _ trivial trivial trivial a b, fun h => tp.zero trivial trivial trivial a b h⟩
theorem lawTotalR {n1 n2 n3 : Nat} (w : World) (t1 : Tm (n1 + 1)) (t2 : Tm (n2 + 1)) (t3 : Tm (n3 + 1)) (u1 u2 u3 : Value) (I1 : ItemsAt w w.heap.size n1 u1 t1.items) (I2 : ItemsAt w w.heap.size n2 u2 t2.items) (I3 : ItemsAt w w.heap.size n3 u3 t3.items) :
    Calls Try.prog 7 #[aggV t1.f u1, aggV t2.f u2, aggV t3.f u3] w fun e w' => e = .returned (.bool true) ∧ Below w.heap.size w w' := by
  obtain ⟨l1, J1⟩ := I1.to (m := n1 + n2 + n3) (by omega)
  obtain ⟨l2, J2⟩ := I2.to (m := n1 + n2 + n3) (by omega)
  obtain ⟨l3, J3⟩ := I3.to (m := n1 + n2 + n3) (by omega)
  exact lawTotal w (Tm.mk t1.f l1) (Tm.mk t2.f l2) (Tm.mk t3.f l3) u1 u2 u3 J1 J2 J3
end Go.Proofs.Ythgfdpamnepnfaa.tm
