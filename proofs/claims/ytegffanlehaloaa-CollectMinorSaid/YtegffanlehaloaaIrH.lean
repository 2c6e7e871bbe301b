/- Several texts in one, one behind the other: CrH. No condition beyond theirs. -/
import Derived.Test.YtegffanlehaloaaGx
import Derived.Test.YtegffanlehaloaaGn
import Derived.Test.YtegffanlehaloaaGw
import Derived.Test.YtegffanlehaloaaGk
/- The walk of the law CollectMinor. Conditions: the areas and roots lie in memory. -/
namespace Go.Proofs.Ytegffanlehaloaa.cl
open Go.RowKit mem words
set_option linter.unusedVariables false
set_option linter.unusedSimpArgs false
set_option maxHeartbeats 4000000
set_option maxRecDepth 100000
theorem lawCollectMinorR (W : World) (v1 v2 : Value) (m : Mm) (pr : Option Addr) (cr : Nat) (roots : List Int) (h1 : WAt W W.heap.size v1 m.y) (h2 : WAt W W.heap.size v2 m.o) (hr : WAt W W.heap.size (.slice pr roots.length cr) roots) (w1 : Wds m.y) (w2 : Wds m.o) (wr : Wds roots) :
    Calls Try.prog 4 #[.agg #[v1, v2, .int .i64 m.at_], .slice pr roots.length cr] W fun e w' => e = .returned (.bool true) ∧ Below W.heap.size W w' := by
  obtain ⟨p1, c1, e1, _⟩ := id h1
  obtain ⟨p2, c2, e2, _⟩ := id h2
  subst e1 e2
  have hX0 := World.alloc_heap_new W (.cells #[.slice p1 m.y.length c1, .slice p2 m.o.length c2, .int .i64 m.at_] 24)
  have hB1 : Below W.heap.size W (W.alloc (.cells #[.slice p1 m.y.length c1, .slice p2 m.o.length c2, .int .i64 m.at_] 24)) := belowA (Below.refl _ _) _
  have hS1 : (W.alloc (.cells #[.slice p1 m.y.length c1, .slice p2 m.o.length c2, .int .i64 m.at_] 24)).heap.size = W.heap.size + 1 := World.size_alloc _ _
  have HM := Lib.hid (fun V (hb : Below W.heap.size W V) => And.intro (h1.below hb (Nat.le_refl _)) (And.intro (h2.below hb (Nat.le_refl _)) (hr.below hb (Nat.le_refl _))))
  have HWd := Lib.hid (And.intro w1 (And.intro w2 wr))
  clear h1 h2 hr w1 w2 wr
  go_enter Try.func4, Try.ntmps4
  go_wp2_with fail
  refine (large7 _ p1 p2 pr m.y.length c1 m.o.length c2 roots.length cr m.at_).mono ?_
  generalize (W.alloc (.cells #[.slice p1 m.y.length c1, .slice p2 m.o.length c2, .int .i64 m.at_] 24)) = W1 at *
  have HC := Lib.hid (fun V (hb : Below W1.heap.size W1 V) => (hb.block W.heap.size (by rw [hS1]; omega)).trans hX0)
  have HB := Lib.hid (fun V (hb : Below W1.heap.size W1 V) => hB1.trans (hb.mono hB1.size))
  clear hX0 hB1 hS1
  rintro e W2 ⟨r, rfl, hr, hb2⟩
  have HB2 := Lib.hid hb2
  have HR := Lib.hid hr
  clear hb2 hr
  cases r
  · have hsm : m.y.length ≤ 600 ∧ m.o.length ≤ 600 ∧ roots.length ≤ 100 := by
      have h := HR.out
      refine ⟨?_, ?_, ?_⟩
      · apply Nat.le_of_not_lt; intro hh; exact Bool.noConfusion (h.2 (.inl hh))
      · apply Nat.le_of_not_lt; intro hh; exact Bool.noConfusion (h.2 (.inr (.inl hh)))
      · apply Nat.le_of_not_lt; intro hh; exact Bool.noConfusion (h.2 (.inr (.inr hh)))
    obtain ⟨l1, l2, l3⟩ := hsm
    obtain ⟨x0, x1, x2, xf⟩ := three_cells (HC.out W2 HB2.out)
    have hws := (HB.out W2 HB2.out).size
    have HCp := Lib.hid (copied9 W2 W.heap.size (.slice p1 m.y.length c1) (.slice p2 m.o.length c2) m hws (HM.out W2 (HB.out W2 HB2.out)).1 (HM.out W2 (HB.out W2 HB2.out)).2.1 (by omega) (by omega))
    go_wp2_with fail
    refine HCp.out.mono ?_
    rintro e W3 ⟨u1, k1, u2, k2, rfl, ho1, ho2, hd12, hb3⟩
    have HE : Hid (WOwn (W3.alloc (.cells #[] 34)) W3.heap.size (.slice (some ⟨W3.heap.size, 0, none⟩) 0 0) []) := Lib.hid (own_empty (World.alloc_heap_new _ _) (Nat.le_refl _))
    have hb13 : Below W1.heap.size W1 W3 := below_call HB2.out hb3
    have HRo : Hid (WAt (W3.alloc (.cells #[] 34)) W.heap.size (.slice pr roots.length cr) roots) := Lib.hid (HM.out _ (HB.out _ (belowA hb13 _))).2.2
    have HS3 : Hid (W3.heap.size ≤ (W3.alloc (.cells #[] 34)).heap.size) := Lib.hid (by rw [World.size_alloc]; omega)
    have HLr : Hid (([] : List Int).length + roots.length ≤ 400000) := Lib.hid (by simp; omega)
    have HB13 := Lib.hid hb13
    have HO1 := Lib.hid ho1
    have HO2 := Lib.hid ho2
    have HD12 := Lib.hid hd12
    have HWS := Lib.hid hws
    have HB23 := Lib.hid hb3
    clear hb3 hb13 ho1 ho2 hd12 hws x0 x1 x2 xf HCp
    go_wp2_with (at_builtin; refine wpList_append_area rfl (.tmp 16) (.tmp 17) rfl rfl HE.out HS3.out rfl HRo.out HLr.out ?_; intro v' w4 ha; have ho4 := ha.own; rw [List.nil_append] at ho4; obtain ⟨pg, cg, rfl⟩ := ho4.shape; have HA := Lib.hid ha; have HO4 := Lib.hid ho4; clear ha ho4)
    have hb34 : Below W3.heap.size W3 w4 := ((Below.refl _ W3).alloc (Nat.le_refl _) _).grown HA.out.grown (by simp) (by intro k hk; have hk' : some W3.heap.size = some k := hk; cases hk'; exact Nat.le_refl _)
    have hz := World.alloc_heap_new w4 (.cells #[.slice u1 m.y.length k1, .slice u2 m.o.length k2, .int .i64 m.at_] 24)
    have hb45 : Below w4.heap.size w4 (w4.alloc (.cells #[.slice u1 m.y.length k1, .slice u2 m.o.length k2, .int .i64 m.at_] 24)) := belowA (Below.refl _ _) _
    have hs45 : (w4.alloc (.cells #[.slice u1 m.y.length k1, .slice u2 m.o.length k2, .int .i64 m.at_] 24)).heap.size = w4.heap.size + 1 := World.size_alloc _ _
    generalize (w4.alloc (.cells #[.slice u1 m.y.length k1, .slice u2 m.o.length k2, .int .i64 m.at_] 24)) = W5 at *
    have hb35 : Below W3.heap.size W3 W5 := below_call hb34 hb45
    have HB15 := Lib.hid (below_call HB13.out hb35)
    have hTh : Three W5 W2.heap.size (.slice u1 m.y.length k1) (.slice u2 m.o.length k2) (.slice pg roots.length cg) m.y m.o roots :=
      three_of (b2 := W3.heap.size) (HO1.out.below hb35) (HO2.out.below hb35) (row_base (HO4.out.below hb45) (fun k hk => Nat.le_trans HB23.out.size (HO4.out.ge k hk).1)) HD12.out (fun k hk => (HO1.out.ge k hk).2) (fun k hk => (HO2.out.ge k hk).2) (fun k hk => (HO4.out.ge k hk).1)
    have HTh := Lib.hid hTh
    have HS25 : Hid (W2.heap.size ≤ W5.heap.size) := Lib.hid (Nat.le_trans HB23.out.size hb35.size)
    have HZ := Lib.hid (fun V (hb : Below W5.heap.size W5 V) => (hb.block w4.heap.size (by rw [hs45]; omega)).trans hz)
    have HFl := Lib.hid (ans16 W5 W5.heap.size (.slice u1 m.y.length k1) (.slice u2 m.o.length k2) pg cg m roots (Nat.le_refl _) hTh.x1.row hTh.x2.row HWd.out.1 HWd.out.2.1 (by omega) hTh.x3.row HWd.out.2.2 (by omega))
    clear HE HRo HS3 HLr HA HO4 HO1 HO2 HD12 hb34 hz hb45 hs45 hb35 hTh HB13
    refine HFl.out.mono ?_
    rintro e W6 ⟨q0, m0, d0, q1, m1, d1, n2, qT, mT, dT, er, rfl, hans, hb6⟩
    have HAn := Lib.hid hans
    have HB56 := Lib.hid hb6
    clear hans hb6 HFl
    have hz := World.alloc_heap_new W6 (.cells #[.slice q0 m0 d0, .slice q1 m1 d1, .int .i64 n2] 24)
    have hb67 : Below W6.heap.size W6 (W6.alloc (.cells #[.slice q0 m0 d0, .slice q1 m1 d1, .int .i64 n2] 24)) := belowA (Below.refl _ _) _
    have hs67 : (W6.alloc (.cells #[.slice q0 m0 d0, .slice q1 m1 d1, .int .i64 n2] 24)).heap.size = W6.heap.size + 1 := World.size_alloc _ _
    have hb57 := below_call HB56.out hb67
    obtain ⟨x0, x1, x2, xf⟩ := three_cells (HC.out _ (below_call HB15.out hb57))
    obtain ⟨y0, y1, y2, yf⟩ := three_cells (HZ.out _ hb57)
    have HUn := Lib.hid (unchanged11 (W6.alloc (.cells #[.slice q0 m0 d0, .slice q1 m1 d1, .int .i64 n2] 24)) (W6.alloc (.cells #[.slice q0 m0 d0, .slice q1 m1 d1, .int .i64 n2] 24)).heap.size (.slice p1 m.y.length c1) (.slice p2 m.o.length c2) (.slice pr roots.length cr) (.slice u1 m.y.length k1) (.slice u2 m.o.length k2) (.slice pg roots.length cg) m.y m.o roots m.at_ (Nat.le_refl _)
      ((HM.out _ (HB.out _ (below_call HB15.out hb57))).1.more (HB.out _ (below_call HB15.out hb57)).size) ((HM.out _ (HB.out _ (below_call HB15.out hb57))).2.1.more (HB.out _ (below_call HB15.out hb57)).size) ((HM.out _ (HB.out _ (below_call HB15.out hb57))).2.2.more (HB.out _ (below_call HB15.out hb57)).size)
      (HTh.out.below hb57).x1.row (HTh.out.below hb57).x2.row (HTh.out.below hb57).x3.row (by omega) (by omega) (by omega))
    have HB57 := Lib.hid hb57
    have HB67 := Lib.hid hb67
    have HN := Lib.hid hz
    have HS67 := Lib.hid hs67
    clear hz hb67 hs67 hb57
    go_wp2_with fail
    refine HUn.out.mono ?_
    generalize (W6.alloc (.cells #[.slice q0 m0 d0, .slice q1 m1 d1, .int .i64 n2] 24)) = W7 at *
    rintro e W8 ⟨rfl, hb8⟩
    have hb58 := below_call HB57.out hb8
    have hb68 := below_call HB67.out hb8
    clear x0 x1 x2 xf y0 y1 y2 yf HUn
    obtain ⟨y0, y1, y2, yf⟩ := three_cells (HZ.out _ hb58)
    have HTh8 := Lib.hid (HTh.out.below hb58)
    have HN8 := Lib.hid ((hb8.block W6.heap.size (by rw [HS67.out]; omega)).trans HN.out)
    have HSp := Lib.hid (spoil12 W8 W2.heap.size u1 u2 pg m.y.length m.o.length roots.length k1 k2 cg m.at_ m.y m.o roots HTh8.out (Nat.le_trans HS25.out hb58.size) (by omega) (by omega) (by omega))
    have HB58 := Lib.hid hb58
    have HB68 := Lib.hid hb68
    clear hb8 hb58 hb68
    go_wp2_with fail
    refine HSp.out.mono ?_
    rintro e W9 ⟨rfl, ht9⟩
    have hown : ∀ k, OwnS (.slice u1 m.y.length k1) (.slice u2 m.o.length k2) (.slice pg roots.length cg) k → W2.heap.size ≤ k ∧ k < W5.heap.size := fun k hk => by
      rcases hk with hk | hk | hk
      · exact HTh.out.x1.ge k hk
      · exact HTh.out.x2.ge k hk
      · exact HTh.out.x3.ge k hk
    have hb89 : Below W1.heap.size W8 W9 := ht9.below (fun k hk => Nat.le_trans HB2.out.size (hown k hk).1) (below_call HB15.out HB58.out).size
    have hb19 : Below W1.heap.size W1 W9 := (below_call HB15.out HB58.out).trans hb89
    have hsame : ∀ k, W5.heap.size ≤ k → k < W8.heap.size → W9.heap[k]? = W8.heap[k]? := fun k h1 h2 => ht9.block k h2 (fun hs => Nat.lt_irrefl _ (Nat.lt_of_lt_of_le (hown k hs).2 h1))
    have HAn9 := Lib.hid (HAn.out.same (W'' := W9) (fun k h1 h2 => (hsame k h1 (Nat.lt_of_lt_of_le h2 HB68.out.size)).trans (HB68.out.block k h2)))
    have HN9 := Lib.hid ((hsame W6.heap.size HB56.out.size (Array.getElem?_eq_some_iff.1 HN8.out).1).trans HN8.out)
    have HB19 := Lib.hid hb19
    have hw9 := (HB.out _ hb19).size
    have HFi := Lib.hid (fits13 W9 W.heap.size (.slice p1 m.y.length c1) (.slice p2 m.o.length c2) (.slice pr roots.length cr) m roots hw9 (HM.out _ (HB.out _ hb19)).1 (HM.out _ (HB.out _ hb19)).2.1 HWd.out.1 HWd.out.2.1 (by omega) (by omega) (HM.out _ (HB.out _ hb19)).2.2 HWd.out.2.2 (by omega))
    have HW9 := Lib.hid hw9
    clear ht9 hown hb89 hsame hw9 y0 y1 y2 yf HSp HTh8 HN8 HTh HZ HAn HN HB58 HB68 HB57 HB67 HS67 HB15 HB56 HB23 HS25 hb19
    obtain ⟨x0, x1, x2, xf⟩ := three_cells (HC.out _ HB19.out)
    obtain ⟨y0, y1, y2, yf⟩ := three_cells HN9.out
    go_wp2_with fail
    refine HFi.out.mono ?_
    rintro e W10 ⟨r, rfl, hr, hb10⟩
    have HB10 := Lib.hid hb10
    have HRf := Lib.hid hr
    have HAn10 := Lib.hid (HAn9.out.same (W'' := W10) (fun k h1 h2 => hb10.block k h2))
    have HN10 := Lib.hid (blk_call hb10 HN9.out)
    have HB110 := Lib.hid (below_call HB19.out hb10)
    clear hb10 hr x0 x1 x2 xf y0 y1 y2 yf HFi
    cases r
    · have hno : ¬ FitsQ m roots := fun h => Bool.noConfusion (HRf.out.2 h)
      rcases HAn10.out with ⟨hf, _⟩ | ⟨_, e0, e1, e2, e3, e4⟩
      · exact absurd hf hno
      · simp only [Value.slice.injEq] at e0 e1 e3
        obtain ⟨rfl, rfl, rfl⟩ := e0
        obtain ⟨rfl, rfl, rfl⟩ := e1
        obtain ⟨rfl, rfl, rfl⟩ := e3
        subst e2 e4
        clear HAn10 HAn9 HRf hno
        obtain ⟨y0, y1, y2, yf⟩ := three_cells HN10.out
        go_wp2_with fail
        refine (none14 _ _ _ _ _ _ _).mono ?_
        rintro e W11 ⟨rfl, hb11⟩
        have HB11 := Lib.hid hb11
        clear hb11 y0 y1 y2 yf
        go_wp2_with fail
        refine (awake8 _).mono ?_
        rintro e W12 ⟨rfl, hb12⟩
        have HB12 := Lib.hid (HB.out _ (below_call (below_call HB110.out HB11.out) hb12))
        clear hb12
        go_wp2_with fail
        go_ret
        exact ⟨rfl, HB12.out⟩
    · have hyes : FitsQ m roots := HRf.out.1 rfl
      obtain ⟨rfl, hy⟩ := yes17 HAn10.out hyes (HB.out _ HB110.out).size (HM.out _ (HB.out _ HB110.out)).1 (HM.out _ (HB.out _ HB110.out)).2.1 (HM.out _ (HB.out _ HB110.out)).2.2
      have HY := Lib.hid hy
      clear HAn10 HAn9 HRf hyes hy
      obtain ⟨x0, x1, x2, xf⟩ := three_cells (HC.out _ HB110.out)
      obtain ⟨y0, y1, y2, yf⟩ := three_cells HN10.out
      go_wp2_with fail
      refine HY.out.mono ?_
      rintro e W11 ⟨rfl, hb11⟩
      have HB11 := Lib.hid hb11
      clear hb11 x0 x1 x2 xf y0 y1 y2 yf HY
      go_wp2_with fail
      refine (awake8 _).mono ?_
      rintro e W12 ⟨rfl, hb12⟩
      have HB12 := Lib.hid (HB.out _ (below_call (below_call HB110.out HB11.out) hb12))
      clear hb12
      go_wp2_with fail
      go_ret
      exact ⟨rfl, HB12.out⟩
  · go_wp2_with fail
    refine (awake8 _).mono ?_
    rintro e W3 ⟨rfl, hb3⟩
    have HB3 := Lib.hid (HB.out _ (below_call HB2.out hb3))
    clear hb3
    go_wp2_with fail
    go_ret
    exact ⟨rfl, HB3.out⟩
end Go.Proofs.Ytegffanlehaloaa.cl
