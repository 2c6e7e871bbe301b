
/- heap's within, fixed, formed. Conditions: as said. -/
import Derived.Test.YtpnlnbolhkcnjaaGreatCoG
namespace Go.Proofs.YtpnlnbolhkcnjaaGreat.cl
open Go.RowKit mem words
set_option linter.unusedVariables false
set_option linter.unusedSimpArgs false
set_option maxHeartbeats 1000000
set_option maxRecDepth 100000

theorem within137 (x lo hi : Int) (h0 : 0 ≤ x) (h1 : x ≤ 18446744073709551615) (w : World) : Calls Tryz.prog 187 #[.int .u64 x, .int .i64 lo, .int .i64 hi] w fun e w' => e = .returned (.bool (wi x lo hi)) ∧ w = w' := by
  have HS := Lib.hid (fun W => SmallOf x h0 h1 W)
  have HW : Hid (wi x lo hi = (soOk x && decide (lo ≤ soN x ∧ soN x ≤ hi))) := Lib.hid rfl
  generalize wi x lo hi = r at *
  generalize soN x = n at *
  cases hs : soOk x
  · rw [hs] at HS HW
    go_enter Tryz.func187, Tryz.ntmps187
    go_wp2_with (go_at_call 105; refine (HS.out _).mono ?_; rintro e w' ⟨rfl, rfl⟩)
    go_ret
    exact ⟨by rw [HW.out]; rfl, rfl⟩
  · rw [hs] at HS HW
    by_cases h2 : lo ≤ n
    · by_cases h3 : n ≤ hi
      · have e1 : Hid (r = true) := Lib.hid (by rw [HW.out]; simp [h2, h3])
        have q1 : decide (lo ≤ n) = true := decide_eq_true h2
        have q2 : decide (n ≤ hi) = true := decide_eq_true h3
        go_enter Tryz.func187, Tryz.ntmps187
        go_wp2_with (go_at_call 105; refine (HS.out _).mono ?_; rintro e w' ⟨rfl, rfl⟩)
        go_ret
        exact ⟨by rw [e1.out]; rfl, rfl⟩
      · have e1 : Hid (r = false) := Lib.hid (by rw [HW.out]; simp [h2, h3])
        have q1 : decide (lo ≤ n) = true := decide_eq_true h2
        have q2 : decide (n ≤ hi) = false := decide_eq_false h3
        go_enter Tryz.func187, Tryz.ntmps187
        go_wp2_with (go_at_call 105; refine (HS.out _).mono ?_; rintro e w' ⟨rfl, rfl⟩)
        go_ret
        exact ⟨by rw [e1.out]; rfl, rfl⟩
    · have e1 : Hid (r = false) := Lib.hid (by rw [HW.out]; simp [h2])
      have q1 : decide (lo ≤ n) = false := decide_eq_false h2
      go_enter Tryz.func187, Tryz.ntmps187
      go_wp2_with (go_at_call 105; refine (HS.out _).mono ?_; rintro e w' ⟨rfl, rfl⟩)
      go_ret
      exact ⟨by rw [e1.out]; rfl, rfl⟩
theorem atom136 (w : World) (zb g o n c : Nat) (j : Nat) (x : Int) (h0 : 0 ≤ x) (h1 : x ≤ 18446744073709551615) (hb : w.cell? ⟨zb, 0, none⟩ = some (.slice (some ⟨g, o, none⟩) n c)) (hx : w.cell? ⟨g, o + j, none⟩ = some (.int .u64 x)) (hj : j < n) :
    Calls Tryz.prog 186 #[.int .i64 j, .pointer (some ⟨zb, 0, none⟩)] w fun e w' => e = .returned (.bool (aoOk x)) ∧ w = w' := by
  have HA := Lib.hid (fun W => AtomOf x h0 h1 W)
  have r0 : (0 : Int) ≤ (j : Int) := by omega
  have r1 : (j : Int) < (n : Int) := by omega
  go_enter Tryz.func186, Tryz.ntmps186
  go_wp2_with (go_at_call 106; refine (HA.out _).mono ?_; rintro e w' ⟨rfl, rfl⟩)
  go_ret
  exact ⟨rfl, rfl⟩
/-- the words of a list, one by one -/
theorem RowAt.nth {w : World} {B : Nat} {p : Option Addr} {n c : Nat} {l : List Int} (h : WAt w B (.slice p n c) l) (h0 : 0 < l.length) : ∃ g o, p = some ⟨g, o, none⟩ ∧ n = l.length ∧ g < B ∧ ∀ j, j < l.length → w.cell? ⟨g, o + j, none⟩ = some (.int .u64 (l.getD j 0)) := by
  obtain ⟨p', c', e, h1, h2, h3⟩ := h
  simp only [Value.slice.injEq] at e
  obtain ⟨rfl, rfl, rfl⟩ := e
  obtain ⟨g, o, e, hg, hc⟩ := h3 (List.length_pos_iff.1 h0)
  refine ⟨g, o, e, rfl, hg, fun j hj => ?_⟩
  rw [hc j hj, List.getD_eq_getElem?_getD, List.getElem?_eq_getElem hj]
  rfl
theorem wds_getD {l : List Int} (h : Wds l) (j : Nat) : 0 ≤ l.getD j 0 ∧ l.getD j 0 ≤ 18446744073709551615 := by
  rw [List.getD_eq_getElem?_getD]
  by_cases hj : j < l.length
  · rw [List.getElem?_eq_getElem hj]
    exact h _ (List.getElem_mem hj)
  · rw [List.getElem?_eq_none (by omega)]
    simp
theorem formed_k2 (w : World) (B : Nat) (v : Value) (l : List Int) (hB : B ≤ w.heap.size) (h : WAt w B v l) (hw : Wds l) : Calls Tryz.prog 132 #[.int .i64 2, v] w fun e w' => e = .returned (.bool (fmd 2 l)) ∧ Below w.heap.size w w' := by
  have HF : Hid (fmd 2 l = (decide (4 ≤ l.length ∧ l.length ≤ 204) && (aoOk (l.getD 0 0) && (wi (l.getD 1 0) 1 2147483647 && (wi (l.getD 2 0) 0 999 && wi (l.getD 3 0) 0 16))))) := Lib.hid rfl
  have d0 := wds_getD hw 0
  have d1 := wds_getD hw 1
  have d2 := wds_getD hw 2
  have d3 := wds_getD hw 3
  obtain ⟨p, c, rfl, hlc, hcm, hh⟩ := h
  have hz := (MapKept.heap_alloc w (.cells #[.slice p l.length c] 22)).1
  have hbz : Below w.heap.size w (w.alloc (.cells #[.slice p l.length c] 22)) := (Below.refl _ _).alloc (Nat.le_refl _) _
  have HB := Lib.hid hbz
  have hcz : (w.alloc (.cells #[.slice p l.length c] 22)).cell? ⟨w.heap.size, 0, none⟩ = some (.slice p l.length c) := by simp only [World.cell?, hz]; rfl
  by_cases h4 : 4 ≤ l.length
  · have q1 : decide ((4 : Int) ≤ (l.length : Int)) = true := decide_eq_true (by omega)
    by_cases h5 : l.length ≤ 204
    · have q2 : decide ((l.length : Int) ≤ 204) = true := decide_eq_true (by omega)
      obtain ⟨g, o, rfl, _, hg, hc⟩ := RowAt.nth (w := w) (B := B) (l := l) ⟨_, _, rfl, hlc, hcm, hh⟩ (by omega)
      have c0 := (hbz.cell (p := ⟨g, o + 0, none⟩) (show g < w.heap.size by omega)).trans (hc 0 (by omega))
      have c1 := (hbz.cell (p := ⟨g, o + 1, none⟩) (show g < w.heap.size by omega)).trans (hc 1 (by omega))
      have c2 := (hbz.cell (p := ⟨g, o + 2, none⟩) (show g < w.heap.size by omega)).trans (hc 2 (by omega))
      have c3 := (hbz.cell (p := ⟨g, o + 3, none⟩) (show g < w.heap.size by omega)).trans (hc 3 (by omega))
      have H0 := Lib.hid (fun (_ : Unit) => atom136 (w.alloc (.cells #[.slice (some ⟨g, o, none⟩) l.length c] 22)) w.heap.size g o l.length c 0 _ d0.1 d0.2 hcz c0 (by omega))
      have H1 := Lib.hid (fun W => within137 _ 1 2147483647 d1.1 d1.2 W)
      have H2 := Lib.hid (fun W => within137 _ 0 999 d2.1 d2.2 W)
      have H3 := Lib.hid (fun W => within137 _ 0 16 d3.1 d3.2 W)
      rw [decide_eq_true (show 4 ≤ l.length ∧ l.length ≤ 204 from ⟨h4, h5⟩), Bool.true_and] at HF
      clear hc hh hz hbz hw
      generalize fmd 2 l = r at *
      generalize aoOk (l.getD 0 0) = T0 at *
      generalize wi (l.getD 1 0) 1 2147483647 = T1 at *
      generalize wi (l.getD 2 0) 0 999 = T2 at *
      generalize wi (l.getD 3 0) 0 16 = T3 at *
      generalize l.getD 0 0 = x0 at *
      generalize l.getD 1 0 = x1 at *
      generalize l.getD 2 0 = x2 at *
      generalize l.getD 3 0 = x3 at *
      have r0 : (0 : Int) < (l.length : Int) := by omega
      have r1 : (1 : Int) < (l.length : Int) := by omega
      have r2 : (2 : Int) < (l.length : Int) := by omega
      have r3 : (3 : Int) < (l.length : Int) := by omega
      go_enter Tryz.func132, Tryz.ntmps132
      cases T0
      · go_wp2_with fail
        refine (H0.out ()).mono ?_
        rintro e w' ⟨rfl, rfl⟩
        go_wp2_with fail
        go_ret
        exact ⟨(by rw [HF.out]; rfl), HB.out⟩
      · go_wp2_with fail
        refine (H0.out ()).mono ?_
        rintro e w' ⟨rfl, rfl⟩
        cases T1
        · go_wp2_with fail
          refine (H1.out _).mono ?_
          rintro e w' ⟨rfl, rfl⟩
          go_wp2_with fail
          go_ret
          exact ⟨(by rw [HF.out]; rfl), HB.out⟩
        · go_wp2_with fail
          refine (H1.out _).mono ?_
          rintro e w' ⟨rfl, rfl⟩
          cases T2
          · go_wp2_with fail
            refine (H2.out _).mono ?_
            rintro e w' ⟨rfl, rfl⟩
            go_wp2_with fail
            go_ret
            exact ⟨(by rw [HF.out]; rfl), HB.out⟩
          · go_wp2_with fail
            refine (H2.out _).mono ?_
            rintro e w' ⟨rfl, rfl⟩
            cases T3
            · go_wp2_with fail
              refine (H3.out _).mono ?_
              rintro e w' ⟨rfl, rfl⟩
              go_wp2_with fail
              go_ret
              exact ⟨(by rw [HF.out]; rfl), HB.out⟩
            · go_wp2_with fail
              refine (H3.out _).mono ?_
              rintro e w' ⟨rfl, rfl⟩
              go_wp2_with fail
              go_ret
              exact ⟨(by rw [HF.out]; rfl), HB.out⟩
    · have q2 : decide ((l.length : Int) ≤ 204) = false := decide_eq_false (by omega)
      rw [decide_eq_false (show ¬ (4 ≤ l.length ∧ l.length ≤ 204) from fun h => h5 h.2), Bool.false_and] at HF
      clear hh hz hbz hw
      generalize fmd 2 l = r at *
      go_enter Tryz.func132, Tryz.ntmps132
      go_wp2_with fail
      go_ret
      exact ⟨(by rw [HF.out]; rfl), HB.out⟩
  · have q1 : decide ((4 : Int) ≤ (l.length : Int)) = false := decide_eq_false (by omega)
    rw [decide_eq_false (show ¬ (4 ≤ l.length ∧ l.length ≤ 204) from fun h => h4 h.1), Bool.false_and] at HF
    clear hh hz hbz hw
    generalize fmd 2 l = r at *
    go_enter Tryz.func132, Tryz.ntmps132
    go_wp2_with fail
    go_ret
    exact ⟨(by rw [HF.out]; rfl), HB.out⟩
theorem formed_k3 (w : World) (B : Nat) (v : Value) (l : List Int) (hB : B ≤ w.heap.size) (h : WAt w B v l) (hw : Wds l) : Calls Tryz.prog 132 #[.int .i64 3, v] w fun e w' => e = .returned (.bool (fmd 3 l)) ∧ Below w.heap.size w w' := by
  have HF : Hid (fmd 3 l = (decide (l.length = 3) && (aoOk (l.getD 0 0) && (aoOk (l.getD 1 0) && wi (l.getD 2 0) 0 16)))) := Lib.hid rfl
  have d0 := wds_getD hw 0
  have d1 := wds_getD hw 1
  have d2 := wds_getD hw 2
  obtain ⟨p, c, rfl, hlc, hcm, hh⟩ := h
  have hz := (MapKept.heap_alloc w (.cells #[.slice p l.length c] 22)).1
  have hbz : Below w.heap.size w (w.alloc (.cells #[.slice p l.length c] 22)) := (Below.refl _ _).alloc (Nat.le_refl _) _
  have HB := Lib.hid hbz
  have hcz : (w.alloc (.cells #[.slice p l.length c] 22)).cell? ⟨w.heap.size, 0, none⟩ = some (.slice p l.length c) := by simp only [World.cell?, hz]; rfl
  by_cases h4 : l.length = 3
  · have q1 : ((l.length : Int) != 3) = false := by simp [h4]
    have q1' : ((l.length : Int) == 3) = true := by simp [h4]
    by_cases h5 : True
    · have q2 : True := trivial
      obtain ⟨g, o, rfl, _, hg, hc⟩ := RowAt.nth (w := w) (B := B) (l := l) ⟨_, _, rfl, hlc, hcm, hh⟩ (by omega)
      have c0 := (hbz.cell (p := ⟨g, o + 0, none⟩) (show g < w.heap.size by omega)).trans (hc 0 (by omega))
      have c1 := (hbz.cell (p := ⟨g, o + 1, none⟩) (show g < w.heap.size by omega)).trans (hc 1 (by omega))
      have c2 := (hbz.cell (p := ⟨g, o + 2, none⟩) (show g < w.heap.size by omega)).trans (hc 2 (by omega))
      have H0 := Lib.hid (fun (_ : Unit) => atom136 (w.alloc (.cells #[.slice (some ⟨g, o, none⟩) l.length c] 22)) w.heap.size g o l.length c 0 _ d0.1 d0.2 hcz c0 (by omega))
      have H1 := Lib.hid (fun (_ : Unit) => atom136 (w.alloc (.cells #[.slice (some ⟨g, o, none⟩) l.length c] 22)) w.heap.size g o l.length c 1 _ d1.1 d1.2 hcz c1 (by omega))
      have H2 := Lib.hid (fun W => within137 _ 0 16 d2.1 d2.2 W)
      rw [decide_eq_true (show l.length = 3 from h4), Bool.true_and] at HF
      clear hc hh hz hbz hw
      generalize fmd 3 l = r at *
      generalize aoOk (l.getD 0 0) = T0 at *
      generalize aoOk (l.getD 1 0) = T1 at *
      generalize wi (l.getD 2 0) 0 16 = T2 at *
      generalize l.getD 0 0 = x0 at *
      generalize l.getD 1 0 = x1 at *
      generalize l.getD 2 0 = x2 at *
      have r0 : (0 : Int) < (l.length : Int) := by omega
      have r1 : (1 : Int) < (l.length : Int) := by omega
      have r2 : (2 : Int) < (l.length : Int) := by omega
      clear h4
      go_enter Tryz.func132, Tryz.ntmps132
      cases T0
      · go_wp2_with fail
        refine (H0.out ()).mono ?_
        rintro e w' ⟨rfl, rfl⟩
        go_wp2_with fail
        go_ret
        exact ⟨(by rw [HF.out]; rfl), HB.out⟩
      · go_wp2_with fail
        refine (H0.out ()).mono ?_
        rintro e w' ⟨rfl, rfl⟩
        cases T1
        · go_wp2_with fail
          refine (H1.out ()).mono ?_
          rintro e w' ⟨rfl, rfl⟩
          go_wp2_with fail
          go_ret
          exact ⟨(by rw [HF.out]; rfl), HB.out⟩
        · go_wp2_with fail
          refine (H1.out ()).mono ?_
          rintro e w' ⟨rfl, rfl⟩
          cases T2
          · go_wp2_with fail
            refine (H2.out _).mono ?_
            rintro e w' ⟨rfl, rfl⟩
            go_wp2_with fail
            go_ret
            exact ⟨(by rw [HF.out]; rfl), HB.out⟩
          · go_wp2_with fail
            refine (H2.out _).mono ?_
            rintro e w' ⟨rfl, rfl⟩
            go_wp2_with fail
            go_ret
            exact ⟨(by rw [HF.out]; rfl), HB.out⟩
    · exact absurd trivial h5
  · have q1 : ((l.length : Int) != 3) = true := by simp; omega
    have q1' : ((l.length : Int) == 3) = false := by simp; omega
    rw [decide_eq_false (show ¬ (l.length = 3) from h4), Bool.false_and] at HF
    clear hh hz hbz hw
    generalize fmd 3 l = r at *
    go_enter Tryz.func132, Tryz.ntmps132
    go_wp2_with fail
    go_ret
    exact ⟨(by rw [HF.out]; rfl), HB.out⟩
theorem formed_k4 (w : World) (B : Nat) (v : Value) (l : List Int) (hB : B ≤ w.heap.size) (h : WAt w B v l) (hw : Wds l) : Calls Tryz.prog 132 #[.int .i64 4, v] w fun e w' => e = .returned (.bool (fmd 4 l)) ∧ Below w.heap.size w w' := by
  have HF : Hid (fmd 4 l = (decide (l.length = 3) && (aoOk (l.getD 0 0) && (wi (l.getD 1 0) 1 2147483647 && wi (l.getD 2 0) 1 2147483647)))) := Lib.hid rfl
  have d0 := wds_getD hw 0
  have d1 := wds_getD hw 1
  have d2 := wds_getD hw 2
  obtain ⟨p, c, rfl, hlc, hcm, hh⟩ := h
  have hz := (MapKept.heap_alloc w (.cells #[.slice p l.length c] 22)).1
  have hbz : Below w.heap.size w (w.alloc (.cells #[.slice p l.length c] 22)) := (Below.refl _ _).alloc (Nat.le_refl _) _
  have HB := Lib.hid hbz
  have hcz : (w.alloc (.cells #[.slice p l.length c] 22)).cell? ⟨w.heap.size, 0, none⟩ = some (.slice p l.length c) := by simp only [World.cell?, hz]; rfl
  by_cases h4 : l.length = 3
  · have q1 : ((l.length : Int) != 3) = false := by simp [h4]
    have q1' : ((l.length : Int) == 3) = true := by simp [h4]
    by_cases h5 : True
    · have q2 : True := trivial
      obtain ⟨g, o, rfl, _, hg, hc⟩ := RowAt.nth (w := w) (B := B) (l := l) ⟨_, _, rfl, hlc, hcm, hh⟩ (by omega)
      have c0 := (hbz.cell (p := ⟨g, o + 0, none⟩) (show g < w.heap.size by omega)).trans (hc 0 (by omega))
      have c1 := (hbz.cell (p := ⟨g, o + 1, none⟩) (show g < w.heap.size by omega)).trans (hc 1 (by omega))
      have c2 := (hbz.cell (p := ⟨g, o + 2, none⟩) (show g < w.heap.size by omega)).trans (hc 2 (by omega))
      have H0 := Lib.hid (fun (_ : Unit) => atom136 (w.alloc (.cells #[.slice (some ⟨g, o, none⟩) l.length c] 22)) w.heap.size g o l.length c 0 _ d0.1 d0.2 hcz c0 (by omega))
      have H1 := Lib.hid (fun W => within137 _ 1 2147483647 d1.1 d1.2 W)
      have H2 := Lib.hid (fun W => within137 _ 1 2147483647 d2.1 d2.2 W)
      rw [decide_eq_true (show l.length = 3 from h4), Bool.true_and] at HF
      clear hc hh hz hbz hw
      generalize fmd 4 l = r at *
      generalize aoOk (l.getD 0 0) = T0 at *
      generalize wi (l.getD 1 0) 1 2147483647 = T1 at *
      generalize wi (l.getD 2 0) 1 2147483647 = T2 at *
      generalize l.getD 0 0 = x0 at *
      generalize l.getD 1 0 = x1 at *
      generalize l.getD 2 0 = x2 at *
      have r0 : (0 : Int) < (l.length : Int) := by omega
      have r1 : (1 : Int) < (l.length : Int) := by omega
      have r2 : (2 : Int) < (l.length : Int) := by omega
      clear h4
      go_enter Tryz.func132, Tryz.ntmps132
      cases T0
      · go_wp2_with fail
        refine (H0.out ()).mono ?_
        rintro e w' ⟨rfl, rfl⟩
        go_wp2_with fail
        go_ret
        exact ⟨(by rw [HF.out]; rfl), HB.out⟩
      · go_wp2_with fail
        refine (H0.out ()).mono ?_
        rintro e w' ⟨rfl, rfl⟩
        cases T1
        · go_wp2_with fail
          refine (H1.out _).mono ?_
          rintro e w' ⟨rfl, rfl⟩
          go_wp2_with fail
          go_ret
          exact ⟨(by rw [HF.out]; rfl), HB.out⟩
        · go_wp2_with fail
          refine (H1.out _).mono ?_
          rintro e w' ⟨rfl, rfl⟩
          cases T2
          · go_wp2_with fail
            refine (H2.out _).mono ?_
            rintro e w' ⟨rfl, rfl⟩
            go_wp2_with fail
            go_ret
            exact ⟨(by rw [HF.out]; rfl), HB.out⟩
          · go_wp2_with fail
            refine (H2.out _).mono ?_
            rintro e w' ⟨rfl, rfl⟩
            go_wp2_with fail
            go_ret
            exact ⟨(by rw [HF.out]; rfl), HB.out⟩
    · exact absurd trivial h5
  · have q1 : ((l.length : Int) != 3) = true := by simp; omega
    have q1' : ((l.length : Int) == 3) = false := by simp; omega
    rw [decide_eq_false (show ¬ (l.length = 3) from h4), Bool.false_and] at HF
    clear hh hz hbz hw
    generalize fmd 4 l = r at *
    go_enter Tryz.func132, Tryz.ntmps132
    go_wp2_with fail
    go_ret
    exact ⟨(by rw [HF.out]; rfl), HB.out⟩
theorem formed_k5 (w : World) (B : Nat) (v : Value) (l : List Int) (hB : B ≤ w.heap.size) (h : WAt w B v l) (hw : Wds l) : Calls Tryz.prog 132 #[.int .i64 5, v] w fun e w' => e = .returned (.bool (fmd 5 l)) ∧ Below w.heap.size w w' := by
  have HF : Hid (fmd 5 l = (decide (l.length = 3) && (aoOk (l.getD 0 0) && (wi (l.getD 1 0) 1 2147483647 && wi (l.getD 2 0) 1 2147483647)))) := Lib.hid rfl
  have d0 := wds_getD hw 0
  have d1 := wds_getD hw 1
  have d2 := wds_getD hw 2
  obtain ⟨p, c, rfl, hlc, hcm, hh⟩ := h
  have hz := (MapKept.heap_alloc w (.cells #[.slice p l.length c] 22)).1
  have hbz : Below w.heap.size w (w.alloc (.cells #[.slice p l.length c] 22)) := (Below.refl _ _).alloc (Nat.le_refl _) _
  have HB := Lib.hid hbz
  have hcz : (w.alloc (.cells #[.slice p l.length c] 22)).cell? ⟨w.heap.size, 0, none⟩ = some (.slice p l.length c) := by simp only [World.cell?, hz]; rfl
  by_cases h4 : l.length = 3
  · have q1 : ((l.length : Int) != 3) = false := by simp [h4]
    have q1' : ((l.length : Int) == 3) = true := by simp [h4]
    by_cases h5 : True
    · have q2 : True := trivial
      obtain ⟨g, o, rfl, _, hg, hc⟩ := RowAt.nth (w := w) (B := B) (l := l) ⟨_, _, rfl, hlc, hcm, hh⟩ (by omega)
      have c0 := (hbz.cell (p := ⟨g, o + 0, none⟩) (show g < w.heap.size by omega)).trans (hc 0 (by omega))
      have c1 := (hbz.cell (p := ⟨g, o + 1, none⟩) (show g < w.heap.size by omega)).trans (hc 1 (by omega))
      have c2 := (hbz.cell (p := ⟨g, o + 2, none⟩) (show g < w.heap.size by omega)).trans (hc 2 (by omega))
      have H0 := Lib.hid (fun (_ : Unit) => atom136 (w.alloc (.cells #[.slice (some ⟨g, o, none⟩) l.length c] 22)) w.heap.size g o l.length c 0 _ d0.1 d0.2 hcz c0 (by omega))
      have H1 := Lib.hid (fun W => within137 _ 1 2147483647 d1.1 d1.2 W)
      have H2 := Lib.hid (fun W => within137 _ 1 2147483647 d2.1 d2.2 W)
      rw [decide_eq_true (show l.length = 3 from h4), Bool.true_and] at HF
      clear hc hh hz hbz hw
      generalize fmd 5 l = r at *
      generalize aoOk (l.getD 0 0) = T0 at *
      generalize wi (l.getD 1 0) 1 2147483647 = T1 at *
      generalize wi (l.getD 2 0) 1 2147483647 = T2 at *
      generalize l.getD 0 0 = x0 at *
      generalize l.getD 1 0 = x1 at *
      generalize l.getD 2 0 = x2 at *
      have r0 : (0 : Int) < (l.length : Int) := by omega
      have r1 : (1 : Int) < (l.length : Int) := by omega
      have r2 : (2 : Int) < (l.length : Int) := by omega
      clear h4
      go_enter Tryz.func132, Tryz.ntmps132
      cases T0
      · go_wp2_with fail
        refine (H0.out ()).mono ?_
        rintro e w' ⟨rfl, rfl⟩
        go_wp2_with fail
        go_ret
        exact ⟨(by rw [HF.out]; rfl), HB.out⟩
      · go_wp2_with fail
        refine (H0.out ()).mono ?_
        rintro e w' ⟨rfl, rfl⟩
        cases T1
        · go_wp2_with fail
          refine (H1.out _).mono ?_
          rintro e w' ⟨rfl, rfl⟩
          go_wp2_with fail
          go_ret
          exact ⟨(by rw [HF.out]; rfl), HB.out⟩
        · go_wp2_with fail
          refine (H1.out _).mono ?_
          rintro e w' ⟨rfl, rfl⟩
          cases T2
          · go_wp2_with fail
            refine (H2.out _).mono ?_
            rintro e w' ⟨rfl, rfl⟩
            go_wp2_with fail
            go_ret
            exact ⟨(by rw [HF.out]; rfl), HB.out⟩
          · go_wp2_with fail
            refine (H2.out _).mono ?_
            rintro e w' ⟨rfl, rfl⟩
            go_wp2_with fail
            go_ret
            exact ⟨(by rw [HF.out]; rfl), HB.out⟩
    · exact absurd trivial h5
  · have q1 : ((l.length : Int) != 3) = true := by simp; omega
    have q1' : ((l.length : Int) == 3) = false := by simp; omega
    rw [decide_eq_false (show ¬ (l.length = 3) from h4), Bool.false_and] at HF
    clear hh hz hbz hw
    generalize fmd 5 l = r at *
    go_enter Tryz.func132, Tryz.ntmps132
    go_wp2_with fail
    go_ret
    exact ⟨(by rw [HF.out]; rfl), HB.out⟩
theorem formed_k8 (w : World) (B : Nat) (v : Value) (l : List Int) (hB : B ≤ w.heap.size) (h : WAt w B v l) (hw : Wds l) : Calls Tryz.prog 132 #[.int .i64 8, v] w fun e w' => e = .returned (.bool (fmd 8 l)) ∧ Below w.heap.size w w' := by
  have HF : Hid (fmd 8 l = (decide (l.length = 3) && (wi (l.getD 0 0) 1 2147483647 && (wi (l.getD 1 0) 0 16384 && wi (l.getD 2 0) 513 16384)))) := Lib.hid rfl
  have d0 := wds_getD hw 0
  have d1 := wds_getD hw 1
  have d2 := wds_getD hw 2
  obtain ⟨p, c, rfl, hlc, hcm, hh⟩ := h
  have hz := (MapKept.heap_alloc w (.cells #[.slice p l.length c] 22)).1
  have hbz : Below w.heap.size w (w.alloc (.cells #[.slice p l.length c] 22)) := (Below.refl _ _).alloc (Nat.le_refl _) _
  have HB := Lib.hid hbz
  have hcz : (w.alloc (.cells #[.slice p l.length c] 22)).cell? ⟨w.heap.size, 0, none⟩ = some (.slice p l.length c) := by simp only [World.cell?, hz]; rfl
  by_cases h4 : l.length = 3
  · have q1 : ((l.length : Int) != 3) = false := by simp [h4]
    have q1' : ((l.length : Int) == 3) = true := by simp [h4]
    by_cases h5 : True
    · have q2 : True := trivial
      obtain ⟨g, o, rfl, _, hg, hc⟩ := RowAt.nth (w := w) (B := B) (l := l) ⟨_, _, rfl, hlc, hcm, hh⟩ (by omega)
      have c0 := (hbz.cell (p := ⟨g, o + 0, none⟩) (show g < w.heap.size by omega)).trans (hc 0 (by omega))
      have c1 := (hbz.cell (p := ⟨g, o + 1, none⟩) (show g < w.heap.size by omega)).trans (hc 1 (by omega))
      have c2 := (hbz.cell (p := ⟨g, o + 2, none⟩) (show g < w.heap.size by omega)).trans (hc 2 (by omega))
      have H0 := Lib.hid (fun W => within137 _ 1 2147483647 d0.1 d0.2 W)
      have H1 := Lib.hid (fun W => within137 _ 0 16384 d1.1 d1.2 W)
      have H2 := Lib.hid (fun W => within137 _ 513 16384 d2.1 d2.2 W)
      simp only [Nat.add_zero] at c0
      rw [decide_eq_true (show l.length = 3 from h4), Bool.true_and] at HF
      clear hc hh hz hbz hw
      generalize fmd 8 l = r at *
      generalize wi (l.getD 0 0) 1 2147483647 = T0 at *
      generalize wi (l.getD 1 0) 0 16384 = T1 at *
      generalize wi (l.getD 2 0) 513 16384 = T2 at *
      generalize l.getD 0 0 = x0 at *
      generalize l.getD 1 0 = x1 at *
      generalize l.getD 2 0 = x2 at *
      have r0 : (0 : Int) < (l.length : Int) := by omega
      have r1 : (1 : Int) < (l.length : Int) := by omega
      have r2 : (2 : Int) < (l.length : Int) := by omega
      clear h4
      go_enter Tryz.func132, Tryz.ntmps132
      cases T0
      · go_wp2_with fail
        refine (H0.out _).mono ?_
        rintro e w' ⟨rfl, rfl⟩
        go_wp2_with fail
        go_ret
        exact ⟨(by rw [HF.out]; rfl), HB.out⟩
      · go_wp2_with fail
        refine (H0.out _).mono ?_
        rintro e w' ⟨rfl, rfl⟩
        cases T1
        · go_wp2_with fail
          refine (H1.out _).mono ?_
          rintro e w' ⟨rfl, rfl⟩
          go_wp2_with fail
          go_ret
          exact ⟨(by rw [HF.out]; rfl), HB.out⟩
        · go_wp2_with fail
          refine (H1.out _).mono ?_
          rintro e w' ⟨rfl, rfl⟩
          cases T2
          · go_wp2_with fail
            refine (H2.out _).mono ?_
            rintro e w' ⟨rfl, rfl⟩
            go_wp2_with fail
            go_ret
            exact ⟨(by rw [HF.out]; rfl), HB.out⟩
          · go_wp2_with fail
            refine (H2.out _).mono ?_
            rintro e w' ⟨rfl, rfl⟩
            go_wp2_with fail
            go_ret
            exact ⟨(by rw [HF.out]; rfl), HB.out⟩
    · exact absurd trivial h5
  · have q1 : ((l.length : Int) != 3) = true := by simp; omega
    have q1' : ((l.length : Int) == 3) = false := by simp; omega
    rw [decide_eq_false (show ¬ (l.length = 3) from h4), Bool.false_and] at HF
    clear hh hz hbz hw
    generalize fmd 8 l = r at *
    go_enter Tryz.func132, Tryz.ntmps132
    go_wp2_with fail
    go_ret
    exact ⟨(by rw [HF.out]; rfl), HB.out⟩
end Go.Proofs.YtpnlnbolhkcnjaaGreat.cl
