/- Several texts in one, one behind the other: CtK. No condition beyond theirs. -/
import Derived.Test.YtegffanlehaloaaItB
/- The walk of the law CollectKnown. No condition. -/
namespace Go.Proofs.Ytegffanlehaloaa.cl
open Go.RowKit mem words
set_option linter.unusedVariables false
set_option linter.unusedSimpArgs false
set_option maxHeartbeats 8000000
set_option maxRecDepth 100000
theorem lawCollectKnownR (w : World) : Calls Try.prog 5 #[] w fun e w' => e = .returned (.bool true) ∧ Below w.heap.size w w' := by
  have hb : Below w.heap.size w (((w.alloc (.cells #[.int .u64 19, .int .u64 11, .int .u64 35, .int .u64 1, .int .u64 51, .int .u64 11] 34)).alloc (.cells #[.slice (some ⟨w.heap.size, 0, none⟩) 6 6, .slice none 0 0, .int .i64 0] 24)).alloc (.cells #[.int .u64 17] 34)) := belowA (belowA (belowA (Below.refl _ _) _) _) _
  have hh : Has [(w.heap.size + 1 + 1, (.cells #[.int .u64 17] 34)), (w.heap.size + 1, (.cells #[.slice (some ⟨w.heap.size, 0, none⟩) 6 6, .slice none 0 0, .int .i64 0] 24)), (w.heap.size, (.cells #[.int .u64 19, .int .u64 11, .int .u64 35, .int .u64 1, .int .u64 51, .int .u64 11] 34))] (((w.alloc (.cells #[.int .u64 19, .int .u64 11, .int .u64 35, .int .u64 1, .int .u64 51, .int .u64 11] 34)).alloc (.cells #[.slice (some ⟨w.heap.size, 0, none⟩) 6 6, .slice none 0 0, .int .i64 0] 24)).alloc (.cells #[.int .u64 17] 34)) := (((Has.alloc (bs := []) ⟨fun p hp => by simp at hp⟩ _ rfl).alloc _ (by rw [World.size_alloc])).alloc _ (by rw [World.size_alloc, World.size_alloc]))
  have hF : Calls Try.prog 16 #[.agg #[.slice (some ⟨w.heap.size, 0, none⟩) 6 6, .slice none 0 0, .int .i64 0], .slice (some ⟨w.heap.size + 1 + 1, 0, none⟩) 1 1] (((w.alloc (.cells #[.int .u64 19, .int .u64 11, .int .u64 35, .int .u64 1, .int .u64 51, .int .u64 11] 34)).alloc (.cells #[.slice (some ⟨w.heap.size, 0, none⟩) 6 6, .slice none 0 0, .int .i64 0] 24)).alloc (.cells #[.int .u64 17] 34)) (KnP 4 0 4 1 (((w.alloc (.cells #[.int .u64 19, .int .u64 11, .int .u64 35, .int .u64 1, .int .u64 51, .int .u64 11] 34)).alloc (.cells #[.slice (some ⟨w.heap.size, 0, none⟩) 6 6, .slice none 0 0, .int .i64 0] 24)).alloc (.cells #[.int .u64 17] 34))) := known_minor (y := [19, 11, 35, 1, 51, 11]) (mk := 0) (K := ⟨[[19, 11], [35, 1], [51, 11]], []⟩) (roots := [17]) (pr := (some ⟨w.heap.size + 1 + 1, 0, none⟩)) (cr := 1) (hh.h _ (.tail _ (.tail _ (.head _)))) (lit_row (l := [17]) (hh.h _ (.head _)) (by decide)) (by decide +kernel) (by decide +kernel) (by decide) (by decide) (by decide) (by decide) (by decide +kernel) (by decide +kernel)
  have HF := Lib.hid hF
  have HB := Lib.hid hb
  have HH := Lib.hid hh
  clear hb hh hF
  go_enter Try.func5, Try.ntmps5
  go_wp2_with fail
  refine HF.out.mono ?_
  generalize (((w.alloc (.cells #[.int .u64 19, .int .u64 11, .int .u64 35, .int .u64 1, .int .u64 51, .int .u64 11] 34)).alloc (.cells #[.slice (some ⟨w.heap.size, 0, none⟩) 6 6, .slice none 0 0, .int .i64 0] 24)).alloc (.cells #[.int .u64 17] 34)) = A at *
  rintro e B1 ⟨q1, c1, p1, d1, t1, f1, rfl, hb⟩
  have hh := HH.out.below hb
  have hb := HB.out.trans (hb.mono HB.out.size)
  clear HF HH HB
  have hh := hh.alloc (.cells #[.slice q1 4 c1, .slice p1 0 d1, .int .i64 4] 24) (z := B1.heap.size) rfl
  have hc := hh
  have hh := hh.alloc (.cells #[.int .u64 17] 34) (z := B1.heap.size + 1) (by rw [World.size_alloc])
  have hb : Below w.heap.size w ((B1.alloc (.cells #[.slice q1 4 c1, .slice p1 0 d1, .int .i64 4] 24)).alloc (.cells #[.int .u64 17] 34)) := by repeat' (first | exact hb | refine belowA ?_ _)
  obtain ⟨m0, m1, m2, mf⟩ := three_cells (hc.h _ (.tail _ (.tail _ (.head _))))
  have hF : Calls Try.prog 10 #[.agg #[.slice (some ⟨w.heap.size, 0, none⟩) 6 6, .slice none 0 0, .int .i64 0], .slice (some ⟨B1.heap.size + 1, 0, none⟩) 1 1] ((B1.alloc (.cells #[.slice q1 4 c1, .slice p1 0 d1, .int .i64 4] 24)).alloc (.cells #[.int .u64 17] 34)) (KnP 0 4 0 1 ((B1.alloc (.cells #[.slice q1 4 c1, .slice p1 0 d1, .int .i64 4] 24)).alloc (.cells #[.int .u64 17] 34))) := known_full (y := [19, 11, 35, 1, 51, 11]) (mk := 0) (K := ⟨[[19, 11], [35, 1], [51, 11]], []⟩) (roots := [17]) (pr := (some ⟨B1.heap.size + 1, 0, none⟩)) (cr := 1) (hh.h _ (.tail _ (.tail _ (.tail _ (.tail _ (.head _)))))) (lit_row (l := [17]) (hh.h _ (.head _)) (by decide)) (by decide +kernel) (by decide +kernel) (by decide) (by decide) (by decide) (by decide) (by decide +kernel)
  have HF := Lib.hid hF
  have HB := Lib.hid hb
  have HH := Lib.hid hh
  clear hb hh hF hc
  go_wp2_with fail
  refine HF.out.mono ?_
  generalize ((B1.alloc (.cells #[.slice q1 4 c1, .slice p1 0 d1, .int .i64 4] 24)).alloc (.cells #[.int .u64 17] 34)) = A at *
  clear m0 m1 m2 mf
  rintro e B2 ⟨q2, c2, p2, d2, t2, f2, rfl, hb⟩
  have hh := HH.out.below hb
  have hb := HB.out.trans (hb.mono HB.out.size)
  clear HF HH HB
  have hh := hh.alloc (.cells #[.slice q2 0 c2, .slice p2 4 d2, .int .i64 0] 24) (z := B2.heap.size) rfl
  have hc := hh
  have hh := hh.alloc (.cells #[.int .u64 17] 34) (z := B2.heap.size + 1) (by rw [World.size_alloc])
  have hb : Below w.heap.size w ((B2.alloc (.cells #[.slice q2 0 c2, .slice p2 4 d2, .int .i64 0] 24)).alloc (.cells #[.int .u64 17] 34)) := by repeat' (first | exact hb | refine belowA ?_ _)
  have hF : Calls Try.prog 16 #[.agg #[.slice (some ⟨w.heap.size, 0, none⟩) 6 6, .slice none 0 0, .int .i64 2], .slice (some ⟨B2.heap.size + 1, 0, none⟩) 1 1] ((B2.alloc (.cells #[.slice q2 0 c2, .slice p2 4 d2, .int .i64 0] 24)).alloc (.cells #[.int .u64 17] 34)) (KnP 2 2 2 1 ((B2.alloc (.cells #[.slice q2 0 c2, .slice p2 4 d2, .int .i64 0] 24)).alloc (.cells #[.int .u64 17] 34))) := known_minor (y := [19, 11, 35, 1, 51, 11]) (mk := 2) (K := ⟨[[19, 11], [35, 1], [51, 11]], []⟩) (roots := [17]) (pr := (some ⟨B2.heap.size + 1, 0, none⟩)) (cr := 1) (hh.h _ (.tail _ (.tail _ (.tail _ (.tail _ (.tail _ (.tail _ (.head _)))))))) (lit_row (l := [17]) (hh.h _ (.head _)) (by decide)) (by decide +kernel) (by decide +kernel) (by decide) (by decide) (by decide) (by decide) (by decide +kernel) (by decide +kernel)
  have HF := Lib.hid hF
  have HB := Lib.hid hb
  have HH := Lib.hid hh
  clear hb hh hF hc
  go_wp2_with fail
  refine HF.out.mono ?_
  generalize ((B2.alloc (.cells #[.slice q2 0 c2, .slice p2 4 d2, .int .i64 0] 24)).alloc (.cells #[.int .u64 17] 34)) = A at *
  rintro e B3 ⟨q3, c3, p3, d3, t3, f3, rfl, hb⟩
  have hh := HH.out.below hb
  have hb := HB.out.trans (hb.mono HB.out.size)
  clear HF HH HB
  have hh := hh.alloc (.cells #[.slice q3 2 c3, .slice p3 2 d3, .int .i64 2] 24) (z := B3.heap.size) rfl
  have hc := hh
  have hb : Below w.heap.size w (B3.alloc (.cells #[.slice q3 2 c3, .slice p3 2 d3, .int .i64 2] 24)) := by repeat' (first | exact hb | refine belowA ?_ _)
  obtain ⟨m0, m1, m2, mf⟩ := three_cells (hc.h _ (.tail _ (.tail _ (.tail _ (.tail _ (.tail _ (.tail _ (.head _))))))))
  obtain ⟨x0, x1, x2, xf⟩ := three_cells (hc.h _ (.tail _ (.tail _ (.tail _ (.tail _ (.head _))))))
  obtain ⟨y0, y1, y2, yf⟩ := three_cells (hc.h _ (.tail _ (.tail _ (.head _))))
  obtain ⟨z0, z1, z2, zf⟩ := three_cells (hc.h _ (.head _))
  have hF : Calls Try.prog 16 #[.agg #[.slice (some ⟨w.heap.size, 0, none⟩) 6 6, .slice none 0 0, .int .i64 0], .slice none 0 0] (B3.alloc (.cells #[.slice q3 2 c3, .slice p3 2 d3, .int .i64 2] 24)) (KnP 0 0 0 0 (B3.alloc (.cells #[.slice q3 2 c3, .slice p3 2 d3, .int .i64 2] 24))) := known_minor (y := [19, 11, 35, 1, 51, 11]) (mk := 0) (K := ⟨[[19, 11], [35, 1], [51, 11]], []⟩) (roots := ([] : List Int)) (pr := none) (cr := 0) (hh.h _ (.tail _ (.tail _ (.tail _ (.tail _ (.tail _ (.tail _ (.tail _ (.head _))))))))) (nil_row _ _) (by decide +kernel) (by decide +kernel) (by decide) (by decide) (by decide) (by decide) (by decide +kernel) (by decide +kernel)
  have HF := Lib.hid hF
  have HB := Lib.hid hb
  have HH := Lib.hid hh
  clear hb hh hF hc
  go_wp2_with fail
  refine HF.out.mono ?_
  generalize (B3.alloc (.cells #[.slice q3 2 c3, .slice p3 2 d3, .int .i64 2] 24)) = A at *
  clear m0 m1 m2 mf x0 x1 x2 xf y0 y1 y2 yf z0 z1 z2 zf
  rintro e B4 ⟨q4, c4, p4, d4, t4, f4, rfl, hb⟩
  have hh := HH.out.below hb
  have hb := HB.out.trans (hb.mono HB.out.size)
  clear HF HH HB
  have hh := hh.alloc (.cells #[.slice q4 0 c4, .slice p4 0 d4, .int .i64 0] 24) (z := B4.heap.size) rfl
  have hc := hh
  have hh := hh.alloc (.cells #[.int .u64 19, .int .u64 11, .int .u64 132, .int .u64 1, .int .u64 1] 34) (z := B4.heap.size + 1) (by rw [World.size_alloc])
  have hh := hh.alloc (.cells #[.slice (some ⟨B4.heap.size + 1, 0, none⟩) 5 5, .slice none 0 0, .int .i64 0] 24) (z := B4.heap.size + 1 + 1) (by rw [World.size_alloc, World.size_alloc])
  have hh := hh.alloc (.cells #[.int .u64 18] 34) (z := B4.heap.size + 1 + 1 + 1) (by rw [World.size_alloc, World.size_alloc, World.size_alloc])
  have hb : Below w.heap.size w ((((B4.alloc (.cells #[.slice q4 0 c4, .slice p4 0 d4, .int .i64 0] 24)).alloc (.cells #[.int .u64 19, .int .u64 11, .int .u64 132, .int .u64 1, .int .u64 1] 34)).alloc (.cells #[.slice (some ⟨B4.heap.size + 1, 0, none⟩) 5 5, .slice none 0 0, .int .i64 0] 24)).alloc (.cells #[.int .u64 18] 34)) := by repeat' (first | exact hb | refine belowA ?_ _)
  have hF : Calls Try.prog 10 #[.agg #[.slice (some ⟨B4.heap.size + 1, 0, none⟩) 5 5, .slice none 0 0, .int .i64 0], .slice (some ⟨B4.heap.size + 1 + 1 + 1, 0, none⟩) 1 1] ((((B4.alloc (.cells #[.slice q4 0 c4, .slice p4 0 d4, .int .i64 0] 24)).alloc (.cells #[.int .u64 19, .int .u64 11, .int .u64 132, .int .u64 1, .int .u64 1] 34)).alloc (.cells #[.slice (some ⟨B4.heap.size + 1, 0, none⟩) 5 5, .slice none 0 0, .int .i64 0] 24)).alloc (.cells #[.int .u64 18] 34)) (KnP 0 5 0 1 ((((B4.alloc (.cells #[.slice q4 0 c4, .slice p4 0 d4, .int .i64 0] 24)).alloc (.cells #[.int .u64 19, .int .u64 11, .int .u64 132, .int .u64 1, .int .u64 1] 34)).alloc (.cells #[.slice (some ⟨B4.heap.size + 1, 0, none⟩) 5 5, .slice none 0 0, .int .i64 0] 24)).alloc (.cells #[.int .u64 18] 34))) := known_full (y := [19, 11, 132, 1, 1]) (mk := 0) (K := ⟨[[19, 11], [132, 1, 1]], []⟩) (roots := [18]) (pr := (some ⟨B4.heap.size + 1 + 1 + 1, 0, none⟩)) (cr := 1) (hh.h _ (.tail _ (.tail _ (.head _)))) (lit_row (l := [18]) (hh.h _ (.head _)) (by decide)) (by decide +kernel) (by decide +kernel) (by decide) (by decide) (by decide) (by decide) (by decide +kernel)
  have HF := Lib.hid hF
  have HB := Lib.hid hb
  have HH := Lib.hid hh
  clear hb hh hF hc
  go_wp2_with fail
  refine HF.out.mono ?_
  generalize ((((B4.alloc (.cells #[.slice q4 0 c4, .slice p4 0 d4, .int .i64 0] 24)).alloc (.cells #[.int .u64 19, .int .u64 11, .int .u64 132, .int .u64 1, .int .u64 1] 34)).alloc (.cells #[.slice (some ⟨B4.heap.size + 1, 0, none⟩) 5 5, .slice none 0 0, .int .i64 0] 24)).alloc (.cells #[.int .u64 18] 34)) = A at *
  rintro e B5 ⟨q5, c5, p5, d5, t5, f5, rfl, hb⟩
  have hh := HH.out.below hb
  have hb := HB.out.trans (hb.mono HB.out.size)
  clear HF HH HB
  have hh := hh.alloc (.cells #[.slice q5 0 c5, .slice p5 5 d5, .int .i64 0] 24) (z := B5.heap.size) rfl
  have hc := hh
  have hh := hh.alloc (.cells #[.int .u64 26] 34) (z := B5.heap.size + 1) (by rw [World.size_alloc])
  have hb : Below w.heap.size w ((B5.alloc (.cells #[.slice q5 0 c5, .slice p5 5 d5, .int .i64 0] 24)).alloc (.cells #[.int .u64 26] 34)) := by repeat' (first | exact hb | refine belowA ?_ _)
  obtain ⟨m0, m1, m2, mf⟩ := three_cells (hc.h _ (.tail _ (.tail _ (.head _))))
  have hF : Calls Try.prog 16 #[.agg #[.slice (some ⟨B4.heap.size + 1, 0, none⟩) 5 5, .slice none 0 0, .int .i64 0], .slice (some ⟨B5.heap.size + 1, 0, none⟩) 1 1] ((B5.alloc (.cells #[.slice q5 0 c5, .slice p5 5 d5, .int .i64 0] 24)).alloc (.cells #[.int .u64 26] 34)) (KnE ((B5.alloc (.cells #[.slice q5 0 c5, .slice p5 5 d5, .int .i64 0] 24)).alloc (.cells #[.int .u64 26] 34))) := known_none (y := [19, 11, 132, 1, 1]) (mk := 0) (K := ⟨[[19, 11], [132, 1, 1]], []⟩) (roots := [26]) (pr := (some ⟨B5.heap.size + 1, 0, none⟩)) (cr := 1) (hh.h _ (.tail _ (.tail _ (.tail _ (.tail _ (.head _)))))) (lit_row (l := [26]) (hh.h _ (.head _)) (by decide)) (by decide +kernel) (by decide +kernel) (by decide) (by decide) (by decide) (by decide)
  have HF := Lib.hid hF
  have HB := Lib.hid hb
  have HH := Lib.hid hh
  clear hb hh hF hc
  go_wp2_with fail
  refine HF.out.mono ?_
  generalize ((B5.alloc (.cells #[.slice q5 0 c5, .slice p5 5 d5, .int .i64 0] 24)).alloc (.cells #[.int .u64 26] 34)) = A at *
  clear m0 m1 m2 mf
  rintro e B6 ⟨rfl, hb⟩
  have hh := HH.out.below hb
  have hb := HB.out.trans (hb.mono HB.out.size)
  clear HF HH HB
  have hh := hh.alloc (.cells #[.slice none 0 0, .slice none 0 0, .int .i64 0] 24) (z := B6.heap.size) rfl
  have hc := hh
  have hb : Below w.heap.size w (B6.alloc (.cells #[.slice none 0 0, .slice none 0 0, .int .i64 0] 24)) := by repeat' (first | exact hb | refine belowA ?_ _)
  obtain ⟨x0, x1, x2, xf⟩ := three_cells (hc.h _ (.tail _ (.tail _ (.tail _ (.tail _ (.tail _ (.tail _ (.head _))))))))
  obtain ⟨y0, y1, y2, yf⟩ := three_cells (hc.h _ (.tail _ (.tail _ (.head _))))
  have HB := Lib.hid hb
  clear hb hh hc
  go_wp2_with fail
  refine (names19 _).mono ?_
  generalize (B6.alloc (.cells #[.slice none 0 0, .slice none 0 0, .int .i64 0] 24)) = A at *
  clear x0 x1 x2 xf y0 y1 y2 yf
  rintro e B7 ⟨za, rfl, hb⟩
  have HB7 := Lib.hid (HB.out.trans (hb.mono HB.out.size))
  clear hb HB
  have HB := HB7
  clear HB7
  go_wp2_with fail
  refine (blobs20 _).mono ?_
  rintro e B8 ⟨zb, rfl, hb⟩
  have HB8 := Lib.hid (HB.out.trans (hb.mono HB.out.size))
  clear hb HB
  have HB := HB8
  clear HB8
  go_wp2_with fail
  refine (heap18 _ _ _).mono ?_
  rintro e B9 ⟨zc, rfl, hb⟩
  have HB9 := Lib.hid (HB.out.trans (hb.mono HB.out.size))
  clear hb HB
  have HB := HB9
  clear HB9
  go_wp2_with fail
  refine (room21 _).mono ?_
  rintro e w' ⟨rfl, rfl⟩
  go_wp2_with fail
  refine (collect22 _).mono ?_
  rintro e w' ⟨rfl, rfl⟩
  go_wp2_with fail
  refine (counts23 _).mono ?_
  rintro e w' ⟨rfl, rfl⟩
  go_wp2_with fail
  refine (new24_nil _).mono ?_
  rintro e B10 ⟨rfl, hb⟩
  have HB10 := Lib.hid (HB.out.trans (hb.mono HB.out.size))
  clear hb HB
  have HB := HB10
  clear HB10
  go_wp2_with fail
  refine (new24_zero _ _).mono ?_
  rintro e B11 ⟨rfl, hb⟩
  have HB11 := Lib.hid (HB.out.trans (hb.mono HB.out.size))
  clear hb HB
  have HB := HB11
  clear HB11
  go_wp2_with fail
  refine (new24_neg _ _).mono ?_
  rintro e B12 ⟨rfl, hb⟩
  have HB12 := Lib.hid (HB.out.trans (hb.mono HB.out.size))
  clear hb HB
  have HB := HB12
  clear HB12
  go_wp2_with fail
  refine (new24_one _ _).mono ?_
  rintro e B13 ⟨zd, rfl, hb⟩
  have HB13 := Lib.hid (HB.out.trans (hb.mono HB.out.size))
  clear hb HB
  have HB := HB13
  clear HB13
  go_wp2_with fail
  refine (awake8 _).mono ?_
  rintro e B14 ⟨rfl, hb⟩
  have HB14 := Lib.hid (HB.out.trans (hb.mono HB.out.size))
  clear hb HB
  go_wp2_with fail
  go_ret
  exact ⟨rfl, HB14.out⟩
end Go.Proofs.Ytegffanlehaloaa.cl
