/- Several texts in one, one behind the other: CsK. No condition beyond theirs. -/
import Derived.Test.YtegffanlehaloaaGx
import Derived.Test.YtegffanlehaloaaGn
import Derived.Test.YtegffanlehaloaaIsE
import Derived.Test.YtegffanlehaloaaGk
/- The walk of the law CollectReach. Conditions: the areas and roots lie in memory. -/
namespace Go.Proofs.Ytegffanlehaloaa.cl
open Go.RowKit mem words
set_option linter.unusedVariables false
set_option linter.unusedSimpArgs false
set_option maxHeartbeats 4000000
set_option maxRecDepth 100000
theorem wk_of {m : Mm} {K : Bk} (h : Sh m K) (w1 : Wds m.y) (w2 : Wds m.o) : Wk K := fun b o ho v hv => by
  cases b
  · refine w1 v ?_
    rw [← h.y.1]
    exact List.mem_flatten.2 ⟨o, ho, hv⟩
  · refine w2 v ?_
    rw [← h.o.1]
    exact List.mem_flatten.2 ⟨o, ho, hv⟩
def ReachA (m : Mm) (roots : List Int) (w : World) (e : Ending) (w' : World) : Prop := ∃ p n c er, e = .returned (.tuple #[.slice p n c, .int .i64 er]) ∧ Below w.heap.size w w' ∧ ((∃ K, Sh m K ∧ (∀ r ∈ roots, Tm K r) ∧ er = 0 ∧ ∃ l', l'.Perm (met K roots) ∧ Srt l' ∧ WAt w' w'.heap.size (.slice p n c) l') ∨ (¬ FitsQ m roots ∧ n = 0 ∧ er = 6))
theorem reach_ans {m : Mm} {roots : List Int} {w : World} {e : Ending} {w' : World} (h : ReachP m roots w e w') : ReachA m roots w e w' := by
  obtain ⟨hb, ⟨K, v, l', h1, h2, rfl, h3, h4, h5⟩ | ⟨hn, rfl⟩⟩ := h
  · obtain ⟨p, c, e, _⟩ := id h5
    subst e
    exact ⟨p, l'.length, c, 0, rfl, hb, .inl ⟨K, h1, h2, rfl, l', h3, h4, h5⟩⟩
  · exact ⟨none, 0, 0, 6, rfl, hb, .inr ⟨hn, rfl, rfl⟩⟩
theorem lawCollectReachR (W : World) (v1 v2 : Value) (m : Mm) (pr : Option Addr) (cr : Nat) (roots : List Int) (h1 : WAt W W.heap.size v1 m.y) (h2 : WAt W W.heap.size v2 m.o) (hr : WAt W W.heap.size (.slice pr roots.length cr) roots) (w1 : Wds m.y) (w2 : Wds m.o) (wr : Wds roots) :
    Calls Try.prog 6 #[.agg #[v1, v2, .int .i64 m.at_], .slice pr roots.length cr] W fun e w' => e = .returned (.bool true) ∧ Below W.heap.size W w' := by
  obtain ⟨p1, c1, e1, _⟩ := id h1
  obtain ⟨p2, c2, e2, _⟩ := id h2
  subst e1 e2
  have hX0 := World.alloc_heap_new W (.cells #[.slice p1 m.y.length c1, .slice p2 m.o.length c2, .int .i64 m.at_] 24)
  have hB1 : Below W.heap.size W (W.alloc (.cells #[.slice p1 m.y.length c1, .slice p2 m.o.length c2, .int .i64 m.at_] 24)) := belowA (Below.refl _ _) _
  have hS1 : (W.alloc (.cells #[.slice p1 m.y.length c1, .slice p2 m.o.length c2, .int .i64 m.at_] 24)).heap.size = W.heap.size + 1 := World.size_alloc _ _
  have HM := Lib.hid (fun V (hb : Below W.heap.size W V) => And.intro (h1.below hb (Nat.le_refl _)) (And.intro (h2.below hb (Nat.le_refl _)) (hr.below hb (Nat.le_refl _))))
  have HWd := Lib.hid (And.intro w1 (And.intro w2 wr))
  clear h1 h2 hr w1 w2 wr
  go_enter Try.func6, Try.ntmps6
  go_wp2_with fail
  refine (large7 _ p1 p2 pr m.y.length c1 m.o.length c2 roots.length cr m.at_).mono ?_
  generalize (W.alloc (.cells #[.slice p1 m.y.length c1, .slice p2 m.o.length c2, .int .i64 m.at_] 24)) = W1 at *
  have HC := Lib.hid (fun V (hb : Below W1.heap.size W1 V) => (hb.block W.heap.size (by rw [hS1]; omega)).trans hX0)
  have HB := Lib.hid (fun V (hb : Below W1.heap.size W1 V) => hB1.trans (hb.mono hB1.size))
  clear hX0 hB1 hS1
  rintro e W2 ⟨r, rfl, hr, hb2⟩
  have HB2 := Lib.hid hb2
  have HR := Lib.hid hr
  clear hb2 hr
  cases r
  · have hsm : m.y.length ≤ 600 ∧ m.o.length ≤ 600 ∧ roots.length ≤ 100 := by
      have h := HR.out
      refine ⟨?_, ?_, ?_⟩
      · apply Nat.le_of_not_lt; intro hh; exact Bool.noConfusion (h.2 (.inl hh))
      · apply Nat.le_of_not_lt; intro hh; exact Bool.noConfusion (h.2 (.inr (.inl hh)))
      · apply Nat.le_of_not_lt; intro hh; exact Bool.noConfusion (h.2 (.inr (.inr hh)))
    obtain ⟨l1, l2, l3⟩ := hsm
    obtain ⟨x0, x1, x2, xf⟩ := three_cells (HC.out W2 HB2.out)
    have hws := (HB.out W2 HB2.out).size
    have HCp := Lib.hid (copied9 W2 W.heap.size (.slice p1 m.y.length c1) (.slice p2 m.o.length c2) m hws (HM.out W2 (HB.out W2 HB2.out)).1 (HM.out W2 (HB.out W2 HB2.out)).2.1 (by omega) (by omega))
    go_wp2_with fail
    refine HCp.out.mono ?_
    rintro e W3 ⟨u1, k1, u2, k2, rfl, ho1, ho2, hd12, hb3⟩
    have HE : Hid (WOwn (W3.alloc (.cells #[] 34)) W3.heap.size (.slice (some ⟨W3.heap.size, 0, none⟩) 0 0) []) := Lib.hid (own_empty (World.alloc_heap_new _ _) (Nat.le_refl _))
    have hb13 : Below W1.heap.size W1 W3 := below_call HB2.out hb3
    have HRo : Hid (WAt (W3.alloc (.cells #[] 34)) W.heap.size (.slice pr roots.length cr) roots) := Lib.hid (HM.out _ (HB.out _ (belowA hb13 _))).2.2
    have HS3 : Hid (W3.heap.size ≤ (W3.alloc (.cells #[] 34)).heap.size) := Lib.hid (by rw [World.size_alloc]; omega)
    have HLr : Hid (([] : List Int).length + roots.length ≤ 400000) := Lib.hid (by simp; omega)
    have HB13 := Lib.hid hb13
    have HO1 := Lib.hid ho1
    have HO2 := Lib.hid ho2
    have HD12 := Lib.hid hd12
    have HWS := Lib.hid hws
    have HB23 := Lib.hid hb3
    clear hb3 hb13 ho1 ho2 hd12 hws x0 x1 x2 xf HCp
    go_wp2_with (at_builtin; refine wpList_append_area rfl (.tmp 15) (.tmp 16) rfl rfl HE.out HS3.out rfl HRo.out HLr.out ?_; intro v' w4 ha; have ho4 := ha.own; rw [List.nil_append] at ho4; obtain ⟨pg, cg, rfl⟩ := ho4.shape; have HA := Lib.hid ha; have HO4 := Lib.hid ho4; clear ha ho4)
    have hb34 : Below W3.heap.size W3 w4 := ((Below.refl _ W3).alloc (Nat.le_refl _) _).grown HA.out.grown (by simp) (by intro k hk; have hk' : some W3.heap.size = some k := hk; cases hk'; exact Nat.le_refl _)
    have hz := World.alloc_heap_new w4 (.cells #[.slice u1 m.y.length k1, .slice u2 m.o.length k2, .int .i64 m.at_] 24)
    have hb45 : Below w4.heap.size w4 (w4.alloc (.cells #[.slice u1 m.y.length k1, .slice u2 m.o.length k2, .int .i64 m.at_] 24)) := belowA (Below.refl _ _) _
    have hs45 : (w4.alloc (.cells #[.slice u1 m.y.length k1, .slice u2 m.o.length k2, .int .i64 m.at_] 24)).heap.size = w4.heap.size + 1 := World.size_alloc _ _
    generalize (w4.alloc (.cells #[.slice u1 m.y.length k1, .slice u2 m.o.length k2, .int .i64 m.at_] 24)) = W5 at *
    have hb35 : Below W3.heap.size W3 W5 := below_call hb34 hb45
    have HB15 := Lib.hid (below_call HB13.out hb35)
    have hTh : Three W5 W2.heap.size (.slice u1 m.y.length k1) (.slice u2 m.o.length k2) (.slice pg roots.length cg) m.y m.o roots :=
      three_of (b2 := W3.heap.size) (HO1.out.below hb35) (HO2.out.below hb35) (row_base (HO4.out.below hb45) (fun k hk => Nat.le_trans HB23.out.size (HO4.out.ge k hk).1)) HD12.out (fun k hk => (HO1.out.ge k hk).2) (fun k hk => (HO2.out.ge k hk).2) (fun k hk => (HO4.out.ge k hk).1)
    have HTh := Lib.hid hTh
    have HS25 : Hid (W2.heap.size ≤ W5.heap.size) := Lib.hid (Nat.le_trans HB23.out.size hb35.size)
    have HZ := Lib.hid (fun V (hb : Below W5.heap.size W5 V) => (hb.block w4.heap.size (by rw [hs45]; omega)).trans hz)
    have HRe := Lib.hid (reach25 W5 W5.heap.size (.slice u1 m.y.length k1) (.slice u2 m.o.length k2) pg cg m roots (Nat.le_refl _) hTh.x1.row hTh.x2.row HWd.out.1 HWd.out.2.1 (by omega) hTh.x3.row HWd.out.2.2 (by omega))
    clear HE HRo HS3 HLr HA HO4 HO1 HO2 HD12 hb34 hz hb45 hs45 hb35 hTh HB13 HS25
    refine (HRe.out.mono (fun e w' h => reach_ans h)).mono ?_
    rintro e W6 ⟨pq, nq, cq, er, rfl, hb6, hans⟩
    have HAn := Lib.hid hans
    have HB56 := Lib.hid hb6
    clear hans hb6 HRe
    obtain ⟨x0, x1, x2, xf⟩ := three_cells (HC.out _ (below_call HB15.out HB56.out))
    obtain ⟨y0, y1, y2, yf⟩ := three_cells (HZ.out _ HB56.out)
    have hbw := HB.out _ (below_call HB15.out HB56.out)
    have hth := HTh.out.below HB56.out
    have HUn := Lib.hid (unchanged11 W6 W6.heap.size (.slice p1 m.y.length c1) (.slice p2 m.o.length c2) (.slice pr roots.length cr) (.slice u1 m.y.length k1) (.slice u2 m.o.length k2) (.slice pg roots.length cg) m.y m.o roots m.at_ (Nat.le_refl _)
      ((HM.out _ hbw).1.more hbw.size) ((HM.out _ hbw).2.1.more hbw.size) ((HM.out _ hbw).2.2.more hbw.size) hth.x1.row hth.x2.row hth.x3.row (by omega) (by omega) (by omega))
    have HB16 := Lib.hid (below_call HB15.out HB56.out)
    clear hbw hth
    go_wp2_with fail
    refine HUn.out.mono ?_
    rintro e W8 ⟨rfl, hb8⟩
    have HB18 := Lib.hid (below_call HB16.out hb8)
    have HB68 := Lib.hid hb8
    clear hb8 x0 x1 x2 xf y0 y1 y2 yf HUn HTh HZ HB15 HB56 HB23
    have hw8 := (HB.out _ HB18.out).size
    have HFi := Lib.hid (fits13 W8 W.heap.size (.slice p1 m.y.length c1) (.slice p2 m.o.length c2) (.slice pr roots.length cr) m roots hw8 (HM.out _ (HB.out _ HB18.out)).1 (HM.out _ (HB.out _ HB18.out)).2.1 HWd.out.1 HWd.out.2.1 (by omega) (by omega) (HM.out _ (HB.out _ HB18.out)).2.2 HWd.out.2.2 (by omega))
    clear hw8
    obtain ⟨x0, x1, x2, xf⟩ := three_cells (HC.out _ HB18.out)
    go_wp2_with fail
    refine HFi.out.mono ?_
    rintro e W10 ⟨r, rfl, hr, hb10⟩
    have HRf := Lib.hid hr
    have HB110 := Lib.hid (below_call HB18.out hb10)
    have HB610 := Lib.hid (below_call HB68.out hb10)
    clear hb10 hr x0 x1 x2 xf HFi
    cases r
    · have hno : ¬ FitsQ m roots := fun h => Bool.noConfusion (HRf.out.2 h)
      rcases HAn.out with ⟨K, h1, h2, _⟩ | ⟨_, e1, e2⟩
      · exact absurd ⟨K, h1, h2⟩ hno
      · subst e1 e2
        clear HAn HRf hno
        go_wp2_with fail
        refine (awake8 _).mono ?_
        rintro e W12 ⟨rfl, hb12⟩
        have HB12 := Lib.hid (HB.out _ (below_call HB110.out hb12))
        clear hb12
        go_wp2_with fail
        go_ret
        exact ⟨rfl, HB12.out⟩
    · have hyes : FitsQ m roots := HRf.out.1 rfl
      rcases HAn.out with ⟨K, hK, hT, e1, l', hp, hs, hrow⟩ | ⟨hn, _⟩
      case' inr => exact absurd hyes hn
      subst e1
      have hls : Ls K (met K roots) := met_ls hK (wk_of hK HWd.out.1 HWd.out.2.1) (fun v hv => ⟨hT v hv, HWd.out.2.2 v hv⟩)
      have hlen := hls.len hK
      have hwl : Wds (met K roots) := fun v hv => (hls.2 v hv).2
      have heq : l' = insAll (met K roots) := srt_uniq hK.pos (fun u hu => ⟨(hls.2 u (hp.mem_iff.1 hu)).2.1, (hls.2 u (hp.mem_iff.1 hu)).1⟩) hs (insAll_srt _) (hp.trans (insAll_perm _).symm)
      have hbw := HB.out _ HB110.out
      have HRr := Lib.hid (reach27 W10 W.heap.size (.slice p1 m.y.length c1) (.slice p2 m.o.length c2) (.slice pr roots.length cr) m K roots hbw.size (HM.out _ hbw).1 (HM.out _ hbw).2.1 HWd.out.1 HWd.out.2.1 (by omega) hK (HM.out _ hbw).2.2 (fun v hv => ⟨hT v hv, HWd.out.2.2 v hv⟩) (by omega) hwl (by omega))
      have HRw := Lib.hid (hrow.below HB610.out (Nat.le_refl _))
      have HEq := Lib.hid heq
      have HLn : Hid (l'.length ≤ 100000) := Lib.hid (by rw [heq, insAll_len]; omega)
      clear HAn HRf hyes hls hlen hwl heq hK hT hp hs hrow hbw
      obtain ⟨x0, x1, x2, xf⟩ := three_cells (HC.out _ HB110.out)
      go_wp2_with fail
      refine HRr.out.mono ?_
      rintro e W11 ⟨v, rfl, hrv, hb11⟩
      rw [← HEq.out] at hrv
      obtain ⟨pv, cv, ev, _⟩ := id hrv
      subst ev
      have hSm := same26 W11 W11.heap.size (.slice pq nq cq) (.slice pv l'.length cv) l' l' (Nat.le_refl _) ((HRw.out.more HB610.out.size).below hb11 (Nat.le_refl _) |>.more hb11.size) hrv HLn.out HLn.out
      have HSm := Lib.hid hSm
      have HB11 := Lib.hid (below_call HB110.out hb11)
      clear hSm hrv hb11 x0 x1 x2 xf HRr
      go_wp2_with fail
      refine HSm.out.mono ?_
      rintro e W13 ⟨q, rfl, hq, hb13⟩
      have : q = true := hq.2 rfl
      subst this
      have HB13 := Lib.hid (below_call HB11.out hb13)
      clear hq hb13 HSm
      go_wp2_with fail
      refine (awake8 _).mono ?_
      rintro e W12 ⟨rfl, hb12⟩
      have HB12 := Lib.hid (HB.out _ (below_call HB13.out hb12))
      clear hb12
      go_wp2_with fail
      go_ret
      exact ⟨rfl, HB12.out⟩
  · go_wp2_with fail
    refine (awake8 _).mono ?_
    rintro e W3 ⟨rfl, hb3⟩
    have HB3 := Lib.hid (HB.out _ (below_call HB2.out hb3))
    clear hb3
    go_wp2_with fail
    go_ret
    exact ⟨rfl, HB3.out⟩
end Go.Proofs.Ytegffanlehaloaa.cl
