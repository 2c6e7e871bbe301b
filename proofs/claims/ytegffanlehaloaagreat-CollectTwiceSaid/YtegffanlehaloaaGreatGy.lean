/- Several texts in one, one behind the other: CuK. No condition beyond theirs. -/
import Derived.Test.YtegffanlehaloaaGreatGx
import Derived.Test.YtegffanlehaloaaGreatGm
import Derived.Test.YtegffanlehaloaaGreatGn
import Derived.Test.YtegffanlehaloaaGreatGw
/- The walk of the law CollectTwice. Conditions: the areas and roots lie in memory. -/
namespace Go.Proofs.YtegffanlehaloaaGreat.cl
open Go.RowKit mem words
set_option linter.unusedVariables false
set_option linter.unusedSimpArgs false
set_option maxHeartbeats 4000000
set_option maxRecDepth 100000
theorem lawCollectTwiceR (W : World) (v1 v2 : Value) (m : Mm) (pr : Option Addr) (cr : Nat) (roots : List Int) (h1 : WAt W W.heap.size v1 m.y) (h2 : WAt W W.heap.size v2 m.o) (hr : WAt W W.heap.size (.slice pr roots.length cr) roots) (w1 : Wds m.y) (w2 : Wds m.o) (wr : Wds roots) :
    Calls Tryz.prog 3 #[.agg #[v1, v2, .int .i64 m.at_], .slice pr roots.length cr] W fun e w' => e = .returned (.bool true) ∧ Below W.heap.size W w' := by
  obtain ⟨p1, c1, e1, _⟩ := id h1
  obtain ⟨p2, c2, e2, _⟩ := id h2
  subst e1 e2
  have hX0 := World.alloc_heap_new W (.cells #[.slice p1 m.y.length c1, .slice p2 m.o.length c2, .int .i64 m.at_] 24)
  have hB1 : Below W.heap.size W (W.alloc (.cells #[.slice p1 m.y.length c1, .slice p2 m.o.length c2, .int .i64 m.at_] 24)) := belowA (Below.refl _ _) _
  have hS1 : (W.alloc (.cells #[.slice p1 m.y.length c1, .slice p2 m.o.length c2, .int .i64 m.at_] 24)).heap.size = W.heap.size + 1 := World.size_alloc _ _
  have HM := Lib.hid (fun V (hb : Below W.heap.size W V) => And.intro (h1.below hb (Nat.le_refl _)) (And.intro (h2.below hb (Nat.le_refl _)) (hr.below hb (Nat.le_refl _))))
  have HWd := Lib.hid (And.intro w1 (And.intro w2 wr))
  clear h1 h2 hr w1 w2 wr
  go_enter Tryz.func3, Tryz.ntmps3
  go_wp2_with fail
  refine (large7 _ p1 p2 pr m.y.length c1 m.o.length c2 roots.length cr m.at_).mono ?_
  generalize (W.alloc (.cells #[.slice p1 m.y.length c1, .slice p2 m.o.length c2, .int .i64 m.at_] 24)) = W1 at *
  have HC := Lib.hid (fun V (hb : Below W1.heap.size W1 V) => (hb.block W.heap.size (by rw [hS1]; omega)).trans hX0)
  have HB := Lib.hid (fun V (hb : Below W1.heap.size W1 V) => hB1.trans (hb.mono hB1.size))
  clear hX0 hB1 hS1
  rintro e W2 ⟨r, rfl, hr, hb2⟩
  have HB2 := Lib.hid hb2
  have HR := Lib.hid hr
  clear hb2 hr
  cases r
  case' true =>
    go_wp2_with fail
    refine (awake8 _).mono ?_
    rintro e W3 ⟨rfl, hb3⟩
    have HB3 := Lib.hid (HB.out _ (below_call HB2.out hb3))
    clear hb3
    go_wp2_with fail
    go_ret
    exact ⟨rfl, HB3.out⟩
  have hsm : m.y.length ≤ 600 ∧ m.o.length ≤ 600 ∧ roots.length ≤ 100 := by
    have h := HR.out
    refine ⟨?_, ?_, ?_⟩
    · apply Nat.le_of_not_lt; intro hh; exact Bool.noConfusion (h.2 (.inl hh))
    · apply Nat.le_of_not_lt; intro hh; exact Bool.noConfusion (h.2 (.inr (.inl hh)))
    · apply Nat.le_of_not_lt; intro hh; exact Bool.noConfusion (h.2 (.inr (.inr hh)))
  obtain ⟨l1, l2, l3⟩ := hsm
  have hw2 := (HB.out _ HB2.out).size
  have HFi := Lib.hid (fits13 W2 W.heap.size (.slice p1 m.y.length c1) (.slice p2 m.o.length c2) (.slice pr roots.length cr) m roots hw2 (HM.out _ (HB.out _ HB2.out)).1 (HM.out _ (HB.out _ HB2.out)).2.1 HWd.out.1 HWd.out.2.1 (by omega) (by omega) (HM.out _ (HB.out _ HB2.out)).2.2 HWd.out.2.2 (by omega))
  clear hw2 HR
  obtain ⟨x0, x1, x2, xf⟩ := three_cells (HC.out _ HB2.out)
  go_wp2_with fail
  refine HFi.out.mono ?_
  rintro e W3 ⟨r, rfl, hr, hb3⟩
  have HRf := Lib.hid hr
  have HB3 := Lib.hid (below_call HB2.out hb3)
  clear hb3 hr x0 x1 x2 xf HFi HB2
  cases r
  case' false =>
    go_wp2_with fail
    refine (awake8 _).mono ?_
    rintro e W4 ⟨rfl, hb4⟩
    have HB4 := Lib.hid (HB.out _ (below_call HB3.out hb4))
    clear hb4
    go_wp2_with fail
    go_ret
    exact ⟨rfl, HB4.out⟩
  obtain ⟨K, hK, hT⟩ : FitsQ m roots := HRf.out.1 rfl
  have HM0 := Lib.hid (fun V (hb : Below W1.heap.size W1 V) => (⟨(HM.out _ (HB.out _ hb)).1.more (HB.out _ hb).size, (HM.out _ (HB.out _ hb)).2.1.more (HB.out _ hb).size, HWd.out.1, HWd.out.2.1, by omega, hK, (HM.out _ (HB.out _ hb)).2.2.more (HB.out _ hb).size, fun v hv => ⟨hT v hv, HWd.out.2.2 v hv⟩, by omega⟩ : MemAt V V.heap.size (.slice p1 m.y.length c1) (.slice p2 m.o.length c2) (.slice pr roots.length cr) m K roots))
  have HS1 := Lib.hid (stepM (Nat.le_refl _) (HM0.out _ HB3.out) HWd.out.2.2)
  clear HRf hK hT HM HWd
  -- the first
  obtain ⟨x0, x1, x2, xf⟩ := three_cells (HC.out _ HB3.out)
  go_wp2_with fail
  refine HS1.out.mono ?_
  rintro e W4 ⟨hb4, q0, d0, q1, d1, qT, dT, S1, D1, I1, rfl, hd1, hM1⟩
  have HG1 := Lib.hid hd1.same
  generalize hY : S1.y.flatten = y1 at hM1 ⊢
  generalize hO : S1.o.flatten = o1 at hM1 ⊢
  generalize roots.map (lk D1 I1) = r1 at *
  have HB4 := Lib.hid (below_call HB3.out hb4)
  clear hb4 hd1 hY hO HS1 x0 x1 x2 xf HB3
  have hz := World.alloc_heap_new W4 (.cells #[.slice q0 y1.length d0, .slice q1 o1.length d1, .int .i64 y1.length] 24)
  have hb5 : Below W4.heap.size W4 (W4.alloc (.cells #[.slice q0 y1.length d0, .slice q1 o1.length d1, .int .i64 y1.length] 24)) := belowA (Below.refl _ _) _
  have HB5 := Lib.hid (below_call HB4.out hb5)
  have HS2 := Lib.hid (step2 (Nat.le_refl _) ((hM1.below hb5 (Nat.le_refl _)).more hb5.size) rfl)
  obtain ⟨x0, x1, x2, xf⟩ := three_cells hz
  clear hz hb5 hM1 HB4
  -- the second
  go_wp2_with fail
  refine HS2.out.mono ?_
  rintro e W6 ⟨hb6, q2, d2, q3, d3, qS, dS, S2, o2, r2, rfl, hg2, hM2⟩
  have HG2 := Lib.hid (HG1.out.trans hg2)
  have HB6 := Lib.hid (below_call HB5.out hb6)
  clear hb6 hg2 HG1 HS2 x0 x1 x2 xf HB5
  have hz := World.alloc_heap_new W6 (.cells #[.slice q2 0 d2, .slice q3 o2.length d3, .int .i64 0] 24)
  have hb7 : Below W6.heap.size W6 (W6.alloc (.cells #[.slice q2 0 d2, .slice q3 o2.length d3, .int .i64 0] 24)) := belowA (Below.refl _ _) _
  have HB7 := Lib.hid (below_call HB6.out hb7)
  have hM27 := (hM2.below hb7 (Nat.le_refl _)).more hb7.size
  have HM2 := Lib.hid (fun V (hb : Below (W6.alloc (.cells #[.slice q2 0 d2, .slice q3 o2.length d3, .int .i64 0] 24)).heap.size (W6.alloc (.cells #[.slice q2 0 d2, .slice q3 o2.length d3, .int .i64 0] 24)) V) => (hM27.below hb (Nat.le_refl _)).more hb.size)
  have HZ := Lib.hid hz
  have HS3 := Lib.hid (step3 (Nat.le_refl _) hM27)
  obtain ⟨x0, x1, x2, xf⟩ := three_cells hz
  clear hz hb7 hM2 hM27 HB6
  -- the third
  go_wp2_with fail
  refine HS3.out.mono ?_
  generalize (W6.alloc (.cells #[.slice q2 0 d2, .slice q3 o2.length d3, .int .i64 0] 24)) = W7 at *
  rintro e W8 ⟨hb8, q4, d4, q5, d5, qU, dU, S3, rfl, hg3, hM3⟩
  have HG3 := Lib.hid (HG2.out.trans hg3)
  have HB8 := Lib.hid (below_call HB7.out hb8)
  have HB78 := Lib.hid hb8
  have HZ8 := Lib.hid (blk_same HZ.out hb8)
  clear hb8 hg3 HG2 HS3 x0 x1 x2 xf HB7
  have hz := World.alloc_heap_new W8 (.cells #[.slice q4 0 d4, .slice q5 o2.length d5, .int .i64 0] 24)
  have hb9 : Below W8.heap.size W8 (W8.alloc (.cells #[.slice q4 0 d4, .slice q5 o2.length d5, .int .i64 0] 24)) := belowA (Below.refl _ _) _
  have HB9 := Lib.hid (below_call HB8.out hb9)
  have HZ9 := blk_same HZ8.out hb9
  have hM39 := (hM3.below hb9 (Nat.le_refl _)).more hb9.size
  have hM29 := HM2.out _ (below_call HB78.out hb9)
  have hl9 := hM39.t
  have hl9 : o2.length ≤ 5000 := by
    have h : ([] : List Int).length + o2.length ≤ 5000 := hl9
    simpa using h
  have HUn := Lib.hid (unchanged11 (W8.alloc (.cells #[.slice q4 0 d4, .slice q5 o2.length d5, .int .i64 0] 24)) (W8.alloc (.cells #[.slice q4 0 d4, .slice q5 o2.length d5, .int .i64 0] 24)).heap.size (.slice q2 0 d2) (.slice q3 o2.length d3) (.slice qS r2.length dS) (.slice q4 0 d4) (.slice q5 o2.length d5) (.slice qU r2.length dU) [] o2 r2 0 (Nat.le_refl _) hM29.y hM29.o hM29.r hM39.y hM39.o hM39.r (by simp) (by omega) hM39.rl)
  have HM3 := Lib.hid (fun V (hb : Below (W8.alloc (.cells #[.slice q4 0 d4, .slice q5 o2.length d5, .int .i64 0] 24)).heap.size (W8.alloc (.cells #[.slice q4 0 d4, .slice q5 o2.length d5, .int .i64 0] 24)) V) => (hM39.below hb (Nat.le_refl _)).more hb.size)
  have HZ' := Lib.hid hz
  obtain ⟨y0, y1', y2, yf⟩ := three_cells hz
  obtain ⟨x0, x1, x2, xf⟩ := three_cells HZ9
  clear hz hb9 hM3 hM39 hM29 HB8 hl9 HZ8 HB78 HM2 HZ HZ9
  go_wp2_with fail
  refine HUn.out.mono ?_
  generalize (W8.alloc (.cells #[.slice q4 0 d4, .slice q5 o2.length d5, .int .i64 0] 24)) = W9 at *
  rintro e W10 ⟨rfl, hb10⟩
  have HB10 := Lib.hid (below_call HB9.out hb10)
  have HZ10 := blk_same HZ'.out hb10
  have HS4 := Lib.hid (step4 (Nat.le_refl _) (HM3.out _ hb10))
  clear x0 x1 x2 xf y0 y1' y2 yf hb10 HUn HB9 HZ'
  obtain ⟨x0, x1, x2, xf⟩ := three_cells HZ10
  clear HZ10
  -- the full one
  go_wp2_with fail
  refine HS4.out.mono ?_
  rintro e W11 ⟨hb11, q6, d6, q7, d7, qV, dV, S4, m4, r4, rfl, hg4, hp4, hM4⟩
  have HG4 := Lib.hid (HG3.out.trans hg4)
  have HB11 := Lib.hid (below_call HB10.out hb11)
  have HP4 := Lib.hid hp4
  clear hb11 hg4 hp4 HG3 HS4 x0 x1 x2 xf HB10 HM3
  have hz := World.alloc_heap_new W11 (.cells #[.slice q6 m4.y.length d6, .slice q7 m4.o.length d7, .int .i64 m4.at_] 24)
  have hb12 : Below W11.heap.size W11 (W11.alloc (.cells #[.slice q6 m4.y.length d6, .slice q7 m4.o.length d7, .int .i64 m4.at_] 24)) := belowA (Below.refl _ _) _
  have HB12 := Lib.hid (below_call HB11.out hb12)
  have hM412 := (hM4.below hb12 (Nat.le_refl _)).more hb12.size
  have HM4 := Lib.hid (fun V (hb : Below (W11.alloc (.cells #[.slice q6 m4.y.length d6, .slice q7 m4.o.length d7, .int .i64 m4.at_] 24)).heap.size (W11.alloc (.cells #[.slice q6 m4.y.length d6, .slice q7 m4.o.length d7, .int .i64 m4.at_] 24)) V) => (hM412.below hb (Nat.le_refl _)).more hb.size)
  have HZ := Lib.hid hz
  have ht4 := hM412.t
  have HF4 := Lib.hid (fits13 _ _ (.slice q6 m4.y.length d6) (.slice q7 m4.o.length d7) (.slice qV r4.length dV) m4 r4 (Nat.le_refl _) hM412.y hM412.o hM412.wy hM412.wo (by omega) (by omega) hM412.r hM412.wr hM412.rl)
  have HQ4 : Hid (FitsQ m4 r4) := Lib.hid ⟨S4, hM412.sh, fun v hv => (hM412.rt v hv).1⟩
  have HL4 : Hid ((ptrs m4 S4).length ≤ 100000) := Lib.hid (by
    have := hM412.ls.len hM412.sh
    rw [← HP4.out.length_eq]
    omega)
  obtain ⟨x0, x1, x2, xf⟩ := three_cells hz
  clear hz hb12 hM4 hM412 HB11 ht4
  go_wp2_with fail
  refine HF4.out.mono ?_
  generalize (W11.alloc (.cells #[.slice q6 m4.y.length d6, .slice q7 m4.o.length d7, .int .i64 m4.at_] 24)) = W12 at *
  rintro e W13 ⟨r, rfl, hr, hb13⟩
  have hrt : r = true := hr.2 HQ4.out
  subst hrt
  have HB13 := Lib.hid (below_call HB12.out hb13)
  have HB123 := Lib.hid hb13
  have HZ13 := Lib.hid (blk_same HZ.out hb13)
  have HRe := Lib.hid (reach5 (Nat.le_refl _) (HM4.out _ hb13) HP4.out)
  clear hb13 hr HF4 x0 x1 x2 xf HQ4 HP4
  obtain ⟨x0, x1, x2, xf⟩ := three_cells HZ13.out
  go_wp2_with fail
  refine HRe.out.mono ?_
  rintro e W14 ⟨hb14, pl, cl, rfl, hl14⟩
  have HB14 := Lib.hid (below_call HB13.out hb14)
  have HB124 := Lib.hid (below_call HB123.out hb14)
  have HZ14 := Lib.hid (blk_same HZ13.out hb14)
  have HL14 := Lib.hid hl14
  have HOb := Lib.hid (objects12 (Nat.le_refl _) (HM4.out _ (below_call HB123.out hb14)))
  clear hb14 hl14 HRe x0 x1 x2 xf HB123 HZ13 HB13
  generalize ptrs m4 S4 = L at *
  obtain ⟨x0, x1, x2, xf⟩ := three_cells HZ14.out
  go_wp2_with fail
  refine HOb.out.mono ?_
  rintro e W15 ⟨v, rfl, hv, hb15⟩
  obtain ⟨pv, cv, ev, _⟩ := id hv
  subst ev
  have HB15 := Lib.hid (below_call HB14.out hb15)
  have HB125 := Lib.hid (below_call HB124.out hb15)
  have HZ15 := Lib.hid (blk_same HZ14.out hb15)
  have HSm := Lib.hid (same26 W15 W15.heap.size (.slice pl L.length cl) (.slice pv L.length cv) L L (Nat.le_refl _) ((HL14.out.below hb15 (Nat.le_refl _)).more hb15.size) hv HL4.out HL4.out)
  clear hb15 hv HOb x0 x1 x2 xf HB124 HZ14 HB14
  obtain ⟨x0, x1, x2, xf⟩ := three_cells HZ15.out
  go_wp2_with fail
  refine HSm.out.mono ?_
  rintro e W16 ⟨q, rfl, hq, hb16⟩
  have : q = true := hq.2 rfl
  subst this
  have HB16 := Lib.hid (below_call HB15.out hb16)
  have HB126 := below_call HB125.out hb16
  have HZ16 := Lib.hid (blk_same HZ15.out hb16)
  have HSg := Lib.hid (same35 W16 W16.heap.size (.slice p1 m.y.length c1) (.slice p2 m.o.length c2) (.slice pr roots.length cr) (.slice q6 m4.y.length d6) (.slice q7 m4.o.length d7) (.slice qV r4.length dV) m m4 K S4 roots r4 (Nat.le_refl _) (HM0.out _ HB16.out) (HM4.out _ HB126) HG4.out)
  clear hb16 hq HSm x0 x1 x2 xf HB126 HZ15 HB15 HB125
  obtain ⟨x0, x1, x2, xf⟩ := three_cells HZ16.out
  obtain ⟨y0, y1', y2, yf⟩ := three_cells (HC.out _ HB16.out)
  go_wp2_with fail
  refine HSg.out.mono ?_
  rintro e W17 ⟨rfl, hb17⟩
  have HB17 := Lib.hid (below_call HB16.out hb17)
  clear hb17 HSg x0 x1 x2 xf y0 y1' y2 yf
  go_wp2_with fail
  refine (awake8 _).mono ?_
  rintro e W18 ⟨rfl, hb18⟩
  have HB18 := Lib.hid (HB.out _ (below_call HB17.out hb18))
  clear hb18
  go_wp2_with fail
  go_ret
  exact ⟨rfl, HB18.out⟩
end Go.Proofs.YtegffanlehaloaaGreat.cl
