/- Several texts in one, one behind the other: CoW, CoX, CoY, CoZ, CpA, CpB, CpC. No condition beyond theirs. -/
import Derived.Test.YtegffanlehaloaaGl
/- The reference's Aged, towards true. Conditions: as said. -/
namespace Go.Proofs.Ytegffanlehaloaa.cl
open Go.RowKit mem words
set_option linter.unusedVariables false
set_option linter.unusedSimpArgs false
set_option maxHeartbeats 4000000
set_option maxRecDepth 100000

def AgedG (m : Mm) (a b : List Int) : Prop := ∀ (i : Nat) (x y : Int), a[i]? = some x → b[i]? = some y → (pOld x = true → y = x) ∧ (pOld x = false → pOld y = decide (pIx x < m.at_) ∧ (pOld y = true → (m.o.length : Int) ≤ pIx y))
theorem aged37 (w : World) (B : Nat) (v1 v2 vr v1' v2' vr' : Value) (m m' : Mm) (K S : Bk) (roots others : List Int) (hB : B ≤ w.heap.size) (h : MemAt w B v1 v2 vr m K roots) (h' : MemAt w B v1' v2' vr' m' S others) (hg : SameG K S roots others (met K roots) (met S others)) (hag : AgedG m (met K roots) (met S others)) :
    Calls Try.prog 37 #[.agg #[v1, v2, .int .i64 m.at_], vr, .agg #[v1', v2', .int .i64 m'.at_], vr'] w fun e w' => e = .returned (.bool true) ∧ Below w.heap.size w w' := by
  have HM := Lib.hid (fun W (hb : Below w.heap.size w W) => h.below hb hB)
  have HM' := Lib.hid (fun W (hb : Below w.heap.size w W) => h'.below hb hB)
  have HRl := Lib.hid h.rl
  have HRl' := Lib.hid h'.rl
  have HG := Lib.hid hg
  have HAg := Lib.hid hag
  have HLa := Lib.hid h.ls
  have HLb := Lib.hid h'.ls
  have HS := Lib.hid h.sh
  have HS' := Lib.hid h'.sh
  have HT := Lib.hid h.t
  have HRt := Lib.hid h.rt
  have HRt' := Lib.hid h'.rt
  have HWk := Lib.hid h.wk
  have HWk' := Lib.hid h'.wk
  obtain ⟨p1, c1, e1, _⟩ := id h.y
  obtain ⟨p2, c2, e2, _⟩ := id h.o
  obtain ⟨pr, cr, er, _⟩ := id h.r
  obtain ⟨p1', c1', e1', _⟩ := id h'.y
  obtain ⟨p2', c2', e2', _⟩ := id h'.o
  obtain ⟨pr', cr', er', _⟩ := id h'.r
  rw [hg.rlen] at er'
  subst e1 e2 er e1' e2' er'
  have hX := (MapKept.heap_alloc w (.cells #[.slice p1 m.y.length c1, .slice p2 m.o.length c2, .int .i64 m.at_] 24)).1
  have hB1 : Below w.heap.size w (w.alloc (.cells #[.slice p1 m.y.length c1, .slice p2 m.o.length c2, .int .i64 m.at_] 24)) := (Below.refl _ _).alloc (Nat.le_refl _) _
  have hS1 : (w.alloc (.cells #[.slice p1 m.y.length c1, .slice p2 m.o.length c2, .int .i64 m.at_] 24)).heap.size = w.heap.size + 1 := by show (w.heap.push _).size = _; rw [Array.size_push]
  have hX' := (MapKept.heap_alloc (w.alloc (.cells #[.slice p1 m.y.length c1, .slice p2 m.o.length c2, .int .i64 m.at_] 24)) (.cells #[.slice p1' m'.y.length c1', .slice p2' m'.o.length c2', .int .i64 m'.at_] 24)).1
  have hB2 : Below (w.heap.size + 1) (w.alloc (.cells #[.slice p1 m.y.length c1, .slice p2 m.o.length c2, .int .i64 m.at_] 24)) ((w.alloc (.cells #[.slice p1 m.y.length c1, .slice p2 m.o.length c2, .int .i64 m.at_] 24)).alloc (.cells #[.slice p1' m'.y.length c1', .slice p2' m'.o.length c2', .int .i64 m'.at_] 24)) := (Below.refl _ _).alloc (by omega) _
  have hX2 := (hB2.block w.heap.size (by omega)).trans hX
  rw [hS1] at hX'
  have hB3 := hB1.trans (hB2.mono (by omega))
  have hS2 : ((w.alloc (.cells #[.slice p1 m.y.length c1, .slice p2 m.o.length c2, .int .i64 m.at_] 24)).alloc (.cells #[.slice p1' m'.y.length c1', .slice p2' m'.o.length c2', .int .i64 m'.at_] 24)).heap.size = w.heap.size + 1 + 1 := by
    show ((w.heap.push _).push _).size = _
    rw [Array.size_push, Array.size_push]
  have HX := Lib.hid hX2
  have HX' := Lib.hid hX'
  have HB := Lib.hid hB3
  have HSz := Lib.hid hS2
  clear hX hX' hB1 hB2 hX2 hB3 hS1 hS2 h h' hg hag
  go_enter Try.func37, Try.ntmps37
  go_wp2_with fail
  generalize ((w.alloc (.cells #[.slice p1 m.y.length c1, .slice p2 m.o.length c2, .int .i64 m.at_] 24)).alloc (.cells #[.slice p1' m'.y.length c1', .slice p2' m'.o.length c2', .int .i64 m'.at_] 24)) = W2 at *
  have hbd : Below W2.heap.size W2 W2.drew := below_drewN (Below.refl _ _) 1
  have HC := Lib.hid (fun W (hb : Below W2.heap.size W2 W) => three_cells ((hb.block w.heap.size (by rw [HSz.out]; omega)).trans HX.out))
  have HC' := Lib.hid (fun W (hb : Below W2.heap.size W2 W) => three_cells ((hb.block (w.heap.size + 1) (by rw [HSz.out]; omega)).trans HX'.out))
  have HA := Lib.hid (fun W (hb : Below W2.heap.size W2 W) => (HM.out W (HB.out.trans (hb.mono HB.out.size))).meets (Nat.le_trans hB (Nat.le_trans HB.out.size hb.size)))
  have HA' := Lib.hid (fun W (hb : Below W2.heap.size W2 W) => (HM'.out W (HB.out.trans (hb.mono HB.out.size))).meets (Nat.le_trans hB (Nat.le_trans HB.out.size hb.size)))
  obtain ⟨x0, x1, x2, xf⟩ := HC.out W2 (Below.refl _ _)
  obtain ⟨y0, y1, y2, yf⟩ := HC'.out W2 (Below.refl _ _)
  go_cut [9, 10] from 16 to 21 (fun a b wc => MetTwo W2.heap.size W2 (met K roots) (met S others) a b wc)
  case first =>
    go_region_held3 (fun w' => w'.cell? ⟨w.heap.size, 0, none⟩ = some (.slice p1 m.y.length c1) ∧ w'.cell? ⟨w.heap.size, 1, none⟩ = some (.slice p2 m.o.length c2) ∧ w'.cell? ⟨w.heap.size, 2, none⟩ = some (.int .i64 m.at_) ∧ w'.cell? ⟨w.heap.size + 1, 0, none⟩ = some (.slice p1' m'.y.length c1') ∧ w'.cell? ⟨w.heap.size + 1, 1, none⟩ = some (.slice p2' m'.o.length c2') ∧ w'.cell? ⟨w.heap.size + 1, 2, none⟩ = some (.int .i64 m'.at_)) (go_keep)
      (first
        | (go_at_call 48; (with_reducible refine (HA.out _ hbd).mono ?_); rintro e3 W3 ⟨va, rfl, hoa, hb3⟩; have hbA : Below W2.heap.size W2 W3 := hbd.trans hb3; obtain ⟨s0, s1, s2, sf⟩ := HC.out W3 hbA; obtain ⟨t0, t1, t2, tf⟩ := HC'.out W3 hbA; obtain ⟨qa, ca, rfl⟩ := hoa.shape)
        | (go_at_call 48; (with_reducible refine (HA'.out _ hbd).mono ?_); rintro e3 W3 ⟨vb, rfl, hob, hb3⟩; have hbB : Below W2.heap.size W2 W3 := hbd.trans hb3; obtain ⟨s0, s1, s2, sf⟩ := HC.out W3 hbB; obtain ⟨t0, t1, t2, tf⟩ := HC'.out W3 hbB; obtain ⟨qb, cb, rfl⟩ := hob.shape)
        | (go_at_call 48; (with_reducible refine (HA'.out _ hbA).mono ?_); rintro e4 W4 ⟨vb, rfl, hob, hb4⟩; have hbC : Below W2.heap.size W2 W4 := hbA.trans (hb4.mono hbA.size); obtain ⟨s0, s1, s2, sf⟩ := HC.out W4 hbC; obtain ⟨t0, t1, t2, tf⟩ := HC'.out W4 hbC; obtain ⟨qb, cb, rfl⟩ := hob.shape; have hfin := (metTwo hoa hb3 hob hb4).1)
        | (go_at_call 48; (with_reducible refine (HA.out _ hbB).mono ?_); rintro e4 W4 ⟨va, rfl, hoa, hb4⟩; have hbC : Below W2.heap.size W2 W4 := hbB.trans (hb4.mono hbB.size); obtain ⟨s0, s1, s2, sf⟩ := HC.out W4 hbC; obtain ⟨t0, t1, t2, tf⟩ := HC'.out W4 hbC; obtain ⟨qa, ca, rfl⟩ := hoa.shape; have hfin := (metTwo hob hb3 hoa hb4).2))
    all_goals
      go_wp2_with fail
      go_meet
      exact ⟨hfin.1, hfin.2.1, hbC⟩
  case rest =>
    obtain ⟨hoa, hob, hbw⟩ := hcut
    obtain ⟨pa, ca, rfl⟩ := hoa.shape
    obtain ⟨pb, cb, rfl⟩ := hob.shape
    have HB5 := Lib.hid (HB.out.trans (hbw.mono HB.out.size))
    have HRa := Lib.hid (fun W (hb : Below wc.heap.size wc W) => hoa.row.below hb (Nat.le_refl _))
    have HRb := Lib.hid (fun W (hb : Below wc.heap.size wc W) => hob.row.below hb (Nat.le_refl _))
    have HC5 := Lib.hid (fun W (hb : Below wc.heap.size wc W) => HC.out W (hbw.trans (hb.mono hbw.size)))
    have HC5' := Lib.hid (fun W (hb : Below wc.heap.size wc W) => HC'.out W (hbw.trans (hb.mono hbw.size)))
    have hla : (met K roots).length ≤ 5000 := Nat.le_trans (HLa.out.len HS.out) HT.out
    rw [HG.out.len] at HRb
    rw [HG.out.len]
    generalize met K roots = A at *
    generalize met S others = Bl at *
    clear hoa hob hbw hbd HC HC' HA HA' x0 x1 x2 xf y0 y1 y2 yf HX HX'
    obtain ⟨W5, rfl⟩ : ∃ W : World, W = wc := ⟨_, rfl⟩
    go_wp2_with fail
    go_loopw [11, 12, 13, 14, 15] (fun a _ _ _ _ wr => ∃ i : Nat, a = .int .i64 i ∧ i ≤ A.length ∧ Hid (Below W5.heap.size W5 wr)) (fun a _ _ _ _ _ => A.length - (intOf a).toNat)
    case atStart => exact ⟨0, by go_num, Nat.zero_le _, Lib.hid (Below.refl _ _)⟩
    case round =>
      obtain ⟨i, rfl, hi, HBi⟩ := hrel
      by_cases hlt : i < A.length
      · obtain ⟨x, hx⟩ : ∃ x, A[i]? = some x := ⟨_, List.getElem?_eq_getElem hlt⟩
        obtain ⟨y, hy⟩ : ∃ y, Bl[i]? = some y := ⟨_, List.getElem?_eq_getElem (by rw [HG.out.len]; exact hlt)⟩
        obtain ⟨g9, o9, e9, hg9, hc9⟩ := RowAt.nth' (HRa.out wr HBi.out) (by omega)
        obtain ⟨g8, o8, e8, hg8, hc8⟩ := RowAt.nth' (HRb.out wr HBi.out) (by rw [HG.out.len]; omega)
        have hcx := hc9 i x hx
        have hcy := hc8 i y hy
        have hxr := HLa.out.2 x (List.mem_of_getElem? hx)
        have hyr := HLb.out.2 y (List.mem_of_getElem? hy)
        have HPa := Lib.hid (place49 wr x hxr.2.1 hxr.2.2)
        have HPb := Lib.hid (place49 wr y hyr.2.1 hyr.2.2)
        have HBid : ∀ nd, Hid (Below W5.heap.size W5 (wr.drewN nd)) := fun nd => Lib.hid (below_drewN HBi.out nd)
        have rl : (i : Int) < (A.length : Int) := by omega
        have rq : decide ((i : Int) < (A.length : Int)) = true := decide_eq_true rl
        obtain ⟨x0, x1, x2, xf⟩ := HC5.out wr HBi.out
        have hag := HAg.out i x y hx hy
        subst e9 e8
        clear hc9 hc8 hx hy hxr hyr
        cases ho : pOld x
        · rw [ho] at HPa
          have h2 := hag.2 ho
          by_cases hat : pIx x < m.at_
          · have h3 : pOld y = true := by rw [h2.1]; exact decide_eq_true hat
            have h4 := h2.2 h3
            have q1 : decide (pIx x < m.at_) = true := decide_eq_true hat
            have q2 : decide (pIx y < (m.o.length : Int)) = false := decide_eq_false (by omega)
            rw [h3] at HPb
            clear hag h2 h3 h4 ho
            generalize pIx x = ix at *
            generalize pIx y = iy at *
            go_wp2_with fail
            refine HPa.out.mono ?_
            rintro e w' ⟨rfl, rfl⟩
            go_wp2_with fail
            refine HPb.out.mono ?_
            rintro e w' ⟨rfl, rfl⟩
            go_wp2_with fail
            go_quiet (fail)
            go_wp2_with fail
            go_roundw
            case rel => exact ⟨i + 1, by go_num, by omega, HBid _⟩
            case measure => simp [intOf]; omega
          · have h3 : pOld y = false := by rw [h2.1]; exact decide_eq_false hat
            have q1 : decide (pIx x < m.at_) = false := decide_eq_false hat
            rw [h3] at HPb
            clear hag h2 h3 ho
            generalize pIx x = ix at *
            generalize pIx y = iy at *
            go_wp2_with fail
            refine HPa.out.mono ?_
            rintro e w' ⟨rfl, rfl⟩
            go_wp2_with fail
            refine HPb.out.mono ?_
            rintro e w' ⟨rfl, rfl⟩
            go_wp2_with fail
            go_quiet (fail)
            go_wp2_with fail
            go_roundw
            case rel => exact ⟨i + 1, by go_num, by omega, HBid _⟩
            case measure => simp [intOf]; omega
        · have hyx : y = x := hag.1 ho
          subst hyx
          rw [ho] at HPa HPb
          clear hag ho
          generalize pIx y = ix at *
          go_wp2_with fail
          refine HPa.out.mono ?_
          rintro e w' ⟨rfl, rfl⟩
          go_wp2_with fail
          refine HPb.out.mono ?_
          rintro e w' ⟨rfl, rfl⟩
          go_wp2_with fail
          go_quiet (fail)
          go_wp2_with fail
          go_roundw
          case rel => exact ⟨i + 1, by go_num, by omega, HBid _⟩
          case measure => simp [intOf]; omega
      · have rq : decide ((i : Int) < (A.length : Int)) = false := decide_eq_false (by omega)
        have HB9 := Lib.hid (HB5.out.trans (HBi.out.mono HB5.out.size))
        go_wp2_with fail
        go_ret
        exact ⟨rfl, HB9.out⟩
end Go.Proofs.Ytegffanlehaloaa.cl
/- The reference's Full, towards true. Conditions: as said. -/
namespace Go.Proofs.Ytegffanlehaloaa.cl
open Go.RowKit mem words
set_option linter.unusedVariables false
set_option linter.unusedSimpArgs false
set_option maxHeartbeats 4000000
set_option maxRecDepth 100000

theorem MemAt.sizes {w : World} {B : Nat} {v1 v2 vr : Value} {m : Mm} {K : Bk} {roots : List Int} (h : MemAt w B v1 v2 vr m K roots) (hB : B ≤ w.heap.size) : Calls Try.prog 34 #[.agg #[v1, v2, .int .i64 m.at_], vr] w (SizesPost m K roots w) :=
  sizes34 w B v1 v2 vr m K roots hB h.y h.o h.wy h.wo h.t h.sh h.r h.rt h.rl
theorem MemAt.fits {w : World} {B : Nat} {v1 v2 vr : Value} {m : Mm} {K : Bk} {roots : List Int} (h : MemAt w B v1 v2 vr m K roots) (hB : B ≤ w.heap.size) : Calls Try.prog 13 #[.agg #[v1, v2, .int .i64 m.at_], vr] w fun e w' => e = .returned (.bool true) ∧ Below w.heap.size w w' := by
  have ht := h.t
  refine (fits13 w B v1 v2 vr m roots hB h.y h.o h.wy h.wo (by omega) (by omega) h.r (fun v hv => (h.rt v hv).2) h.rl).mono ?_
  rintro e w' ⟨r, rfl, hr, hb⟩
  have : r = true := hr.2 ⟨K, h.sh, fun v hv => (h.rt v hv).1⟩
  subst this
  exact ⟨rfl, hb⟩
theorem full15 (w : World) (B : Nat) (v1 v2 vr v1' v2' vr' : Value) (m m' : Mm) (K S : Bk) (roots others : List Int) (hB : B ≤ w.heap.size) (h : MemAt w B v1 v2 vr m K roots) (h' : MemAt w B v1' v2' vr' m' S others) (hg : SameG K S roots others (met K roots) (met S others)) (e0 : m'.at_ = 0) (ey : m'.y.length = 0) (eo : m'.o.length = szBelow m K (met K roots) + szAbove m K (met K roots) + szOld K (met K roots)) :
    Calls Try.prog 15 #[.agg #[v1, v2, .int .i64 m.at_], vr, .agg #[v1', v2', .int .i64 m'.at_], vr'] w fun e w' => e = .returned (.bool true) ∧ Below w.heap.size w w' := by
  have HSm := Lib.hid (fun W (hb : Below w.heap.size w W) => same35 W B v1 v2 vr v1' v2' vr' m m' K S roots others (Nat.le_trans hB hb.size) (h.below hb hB) (h'.below hb hB) hg)
  have HT' := Lib.hid h'.t
  have HM := Lib.hid (fun W (hb : Below w.heap.size w W) => h.below hb hB)
  have HM' := Lib.hid (fun W (hb : Below w.heap.size w W) => h'.below hb hB)
  have HRl := Lib.hid h.rl
  have HRl' := Lib.hid h'.rl
  have HG := Lib.hid hg
  have HLa := Lib.hid h.ls
  have HLb := Lib.hid h'.ls
  have HS := Lib.hid h.sh
  have HS' := Lib.hid h'.sh
  have HT := Lib.hid h.t
  have HRt := Lib.hid h.rt
  have HRt' := Lib.hid h'.rt
  have HWk := Lib.hid h.wk
  have HWk' := Lib.hid h'.wk
  obtain ⟨p1, c1, e1, _⟩ := id h.y
  obtain ⟨p2, c2, e2, _⟩ := id h.o
  obtain ⟨pr, cr, er, _⟩ := id h.r
  obtain ⟨p1', c1', e1', _⟩ := id h'.y
  obtain ⟨p2', c2', e2', _⟩ := id h'.o
  obtain ⟨pr', cr', er', _⟩ := id h'.r
  rw [hg.rlen] at er'
  subst e1 e2 er e1' e2' er'
  have hX := (MapKept.heap_alloc w (.cells #[.slice p1 m.y.length c1, .slice p2 m.o.length c2, .int .i64 m.at_] 24)).1
  have hB1 : Below w.heap.size w (w.alloc (.cells #[.slice p1 m.y.length c1, .slice p2 m.o.length c2, .int .i64 m.at_] 24)) := (Below.refl _ _).alloc (Nat.le_refl _) _
  have hS1 : (w.alloc (.cells #[.slice p1 m.y.length c1, .slice p2 m.o.length c2, .int .i64 m.at_] 24)).heap.size = w.heap.size + 1 := by show (w.heap.push _).size = _; rw [Array.size_push]
  have hX' := (MapKept.heap_alloc (w.alloc (.cells #[.slice p1 m.y.length c1, .slice p2 m.o.length c2, .int .i64 m.at_] 24)) (.cells #[.slice p1' m'.y.length c1', .slice p2' m'.o.length c2', .int .i64 m'.at_] 24)).1
  have hB2 : Below (w.heap.size + 1) (w.alloc (.cells #[.slice p1 m.y.length c1, .slice p2 m.o.length c2, .int .i64 m.at_] 24)) ((w.alloc (.cells #[.slice p1 m.y.length c1, .slice p2 m.o.length c2, .int .i64 m.at_] 24)).alloc (.cells #[.slice p1' m'.y.length c1', .slice p2' m'.o.length c2', .int .i64 m'.at_] 24)) := (Below.refl _ _).alloc (by omega) _
  have hX2 := (hB2.block w.heap.size (by omega)).trans hX
  rw [hS1] at hX'
  have hB3 := hB1.trans (hB2.mono (by omega))
  have hS2 : ((w.alloc (.cells #[.slice p1 m.y.length c1, .slice p2 m.o.length c2, .int .i64 m.at_] 24)).alloc (.cells #[.slice p1' m'.y.length c1', .slice p2' m'.o.length c2', .int .i64 m'.at_] 24)).heap.size = w.heap.size + 1 + 1 := by
    show ((w.heap.push _).push _).size = _
    rw [Array.size_push, Array.size_push]
  have HX := Lib.hid hX2
  have HX' := Lib.hid hX'
  have HB := Lib.hid hB3
  have HSz := Lib.hid hS2
  clear hX hX' hB1 hB2 hX2 hB3 hS1 hS2 h h' hg
  have q1 : (m'.at_ == 0) = true := by simp [e0]
  have q2 : ((m'.y.length : Int) == 0) = true := by simp [ey]
  have HEo := Lib.hid eo
  obtain ⟨x0, x1, x2, xf⟩ := three_cells HX.out
  obtain ⟨y0, y1, y2, yf⟩ := three_cells HX'.out
  have HA := Lib.hid ((HM.out _ HB.out).sizes (Nat.le_trans hB HB.out.size))
  clear e0 ey eo HWk HWk' HLa HLb HRt HRt' HG
  go_enter Try.func15, Try.ntmps15
  go_wp2_with fail
  refine HA.out.mono ?_
  generalize ((w.alloc (.cells #[.slice p1 m.y.length c1, .slice p2 m.o.length c2, .int .i64 m.at_] 24)).alloc (.cells #[.slice p1' m'.y.length c1', .slice p2' m'.o.length c2', .int .i64 m'.at_] 24)) = W2 at *
  rintro e W3 ⟨rfl, hb3⟩
  have HC := Lib.hid (fun W (hb : Below W2.heap.size W2 W) => three_cells ((hb.block w.heap.size (by rw [HSz.out]; omega)).trans HX.out))
  have HC' := Lib.hid (fun W (hb : Below W2.heap.size W2 W) => three_cells ((hb.block (w.heap.size + 1) (by rw [HSz.out]; omega)).trans HX'.out))
  have HB3 := Lib.hid hb3
  have HB03 := Lib.hid (HB.out.trans (hb3.mono HB.out.size))
  clear x0 x1 x2 xf y0 y1 y2 yf hb3 HA
  generalize szBelow m K (met K roots) = sb at *
  generalize szAbove m K (met K roots) = sa at *
  generalize szOld K (met K roots) = so at *
  have ht' := HT'.out
  have heo := HEo.out
  have b1 : sb ≤ 5000 := by omega
  have b2 : sa ≤ 5000 := by omega
  have b3 : so ≤ 5000 := by omega
  have q3 : ((m'.o.length : Int) == (sb : Int) + (sa : Int) + (so : Int)) = true := by simp [heo]
  clear ht' heo
  obtain ⟨x0, x1, x2, xf⟩ := HC.out W3 HB3.out
  obtain ⟨y0, y1, y2, yf⟩ := HC'.out W3 HB3.out
  have HF := Lib.hid ((HM'.out _ HB03.out).fits (Nat.le_trans hB HB03.out.size))
  go_wp2_with fail
  refine HF.out.mono ?_
  rintro e W4 ⟨rfl, hb4⟩
  have HB4 := Lib.hid (HB3.out.trans (hb4.mono HB3.out.size))
  have HB04 := Lib.hid (HB03.out.trans (hb4.mono HB03.out.size))
  clear x0 x1 x2 xf y0 y1 y2 yf hb4 HF
  obtain ⟨x0, x1, x2, xf⟩ := HC.out W4 HB4.out
  obtain ⟨y0, y1, y2, yf⟩ := HC'.out W4 HB4.out
  have HS9 := Lib.hid (HSm.out W4 HB04.out)
  go_wp2_with fail
  refine HS9.out.mono ?_
  rintro e W5 ⟨rfl, hb5⟩
  have HB05 := Lib.hid (HB04.out.trans (hb5.mono HB04.out.size))
  clear hb5
  go_wp2_with fail
  go_ret
  exact ⟨rfl, HB05.out⟩
end Go.Proofs.Ytegffanlehaloaa.cl
/- The reference's Minor, towards true. Conditions: as said. -/
namespace Go.Proofs.Ytegffanlehaloaa.cl
open Go.RowKit mem words
set_option linter.unusedVariables false
set_option linter.unusedSimpArgs false
set_option maxHeartbeats 4000000
set_option maxRecDepth 100000

theorem minor17 (w : World) (B : Nat) (v1 v2 vr v1' v2' vr' : Value) (m m' : Mm) (K S : Bk) (roots others : List Int) (hB : B ≤ w.heap.size) (h : MemAt w B v1 v2 vr m K roots) (h' : MemAt w B v1' v2' vr' m' S others) (hg : SameG K S roots others (met K roots) (met S others)) (hag : AgedG m (met K roots) (met S others)) (e0 : m'.at_ = m'.y.length) (ey : m'.y.length = szAbove m K (met K roots)) (eo : m'.o.length = m.o.length + szBelow m K (met K roots)) (hpre : ∀ (i : Nat) (u : Int), m.o[i]? = some u → m'.o[i]? = some u) :
    Calls Try.prog 17 #[.agg #[v1, v2, .int .i64 m.at_], vr, .agg #[v1', v2', .int .i64 m'.at_], vr'] w fun e w' => e = .returned (.bool true) ∧ Below w.heap.size w w' := by
  have HSm := Lib.hid (fun W (hb : Below w.heap.size w W) => same35 W B v1 v2 vr v1' v2' vr' m m' K S roots others (Nat.le_trans hB hb.size) (h.below hb hB) (h'.below hb hB) hg)
  have HAm := Lib.hid (fun W (hb : Below w.heap.size w W) => aged37 W B v1 v2 vr v1' v2' vr' m m' K S roots others (Nat.le_trans hB hb.size) (h.below hb hB) (h'.below hb hB) hg hag)
  have HPre := Lib.hid hpre
  have HT' := Lib.hid h'.t
  have HM := Lib.hid (fun W (hb : Below w.heap.size w W) => h.below hb hB)
  have HM' := Lib.hid (fun W (hb : Below w.heap.size w W) => h'.below hb hB)
  have HRl := Lib.hid h.rl
  have HRl' := Lib.hid h'.rl
  have HG := Lib.hid hg
  have HLa := Lib.hid h.ls
  have HLb := Lib.hid h'.ls
  have HS := Lib.hid h.sh
  have HS' := Lib.hid h'.sh
  have HT := Lib.hid h.t
  have HRt := Lib.hid h.rt
  have HRt' := Lib.hid h'.rt
  have HWk := Lib.hid h.wk
  have HWk' := Lib.hid h'.wk
  obtain ⟨p1, c1, e1, _⟩ := id h.y
  obtain ⟨p2, c2, e2, _⟩ := id h.o
  obtain ⟨pr, cr, er, _⟩ := id h.r
  obtain ⟨p1', c1', e1', _⟩ := id h'.y
  obtain ⟨p2', c2', e2', _⟩ := id h'.o
  obtain ⟨pr', cr', er', _⟩ := id h'.r
  rw [hg.rlen] at er'
  subst e1 e2 er e1' e2' er'
  have hX := (MapKept.heap_alloc w (.cells #[.slice p1 m.y.length c1, .slice p2 m.o.length c2, .int .i64 m.at_] 24)).1
  have hB1 : Below w.heap.size w (w.alloc (.cells #[.slice p1 m.y.length c1, .slice p2 m.o.length c2, .int .i64 m.at_] 24)) := (Below.refl _ _).alloc (Nat.le_refl _) _
  have hS1 : (w.alloc (.cells #[.slice p1 m.y.length c1, .slice p2 m.o.length c2, .int .i64 m.at_] 24)).heap.size = w.heap.size + 1 := by show (w.heap.push _).size = _; rw [Array.size_push]
  have hX' := (MapKept.heap_alloc (w.alloc (.cells #[.slice p1 m.y.length c1, .slice p2 m.o.length c2, .int .i64 m.at_] 24)) (.cells #[.slice p1' m'.y.length c1', .slice p2' m'.o.length c2', .int .i64 m'.at_] 24)).1
  have hB2 : Below (w.heap.size + 1) (w.alloc (.cells #[.slice p1 m.y.length c1, .slice p2 m.o.length c2, .int .i64 m.at_] 24)) ((w.alloc (.cells #[.slice p1 m.y.length c1, .slice p2 m.o.length c2, .int .i64 m.at_] 24)).alloc (.cells #[.slice p1' m'.y.length c1', .slice p2' m'.o.length c2', .int .i64 m'.at_] 24)) := (Below.refl _ _).alloc (by omega) _
  have hX2 := (hB2.block w.heap.size (by omega)).trans hX
  rw [hS1] at hX'
  have hB3 := hB1.trans (hB2.mono (by omega))
  have hS2 : ((w.alloc (.cells #[.slice p1 m.y.length c1, .slice p2 m.o.length c2, .int .i64 m.at_] 24)).alloc (.cells #[.slice p1' m'.y.length c1', .slice p2' m'.o.length c2', .int .i64 m'.at_] 24)).heap.size = w.heap.size + 1 + 1 := by
    show ((w.heap.push _).push _).size = _
    rw [Array.size_push, Array.size_push]
  have HX := Lib.hid hX2
  have HX' := Lib.hid hX'
  have HB := Lib.hid hB3
  have HSz := Lib.hid hS2
  clear hX hX' hB1 hB2 hX2 hB3 hS1 hS2 h h' hg
  have q1 : (m'.at_ != (m'.y.length : Int)) = false := by simp [e0]
  have HEy := Lib.hid ey
  have HEo := Lib.hid eo
  obtain ⟨x0, x1, x2, xf⟩ := three_cells HX.out
  obtain ⟨y0, y1, y2, yf⟩ := three_cells HX'.out
  have HA := Lib.hid ((HM.out _ HB.out).sizes (Nat.le_trans hB HB.out.size))
  clear e0 ey eo hpre hag HWk HWk' HLa HLb HRt HRt' HG
  go_enter Try.func17, Try.ntmps17
  go_wp2_with fail
  refine HA.out.mono ?_
  generalize ((w.alloc (.cells #[.slice p1 m.y.length c1, .slice p2 m.o.length c2, .int .i64 m.at_] 24)).alloc (.cells #[.slice p1' m'.y.length c1', .slice p2' m'.o.length c2', .int .i64 m'.at_] 24)) = W2 at *
  rintro e W3 ⟨rfl, hb3⟩
  have HC := Lib.hid (fun W (hb : Below W2.heap.size W2 W) => three_cells ((hb.block w.heap.size (by rw [HSz.out]; omega)).trans HX.out))
  have HC' := Lib.hid (fun W (hb : Below W2.heap.size W2 W) => three_cells ((hb.block (w.heap.size + 1) (by rw [HSz.out]; omega)).trans HX'.out))
  have HB3 := Lib.hid hb3
  have HB03 := Lib.hid (HB.out.trans (hb3.mono HB.out.size))
  clear x0 x1 x2 xf y0 y1 y2 yf hb3 HA
  generalize szBelow m K (met K roots) = sb at *
  generalize szAbove m K (met K roots) = sa at *
  generalize szOld K (met K roots) = so at *
  have hey := HEy.out
  have ht' := HT'.out
  have heo := HEo.out
  have b1 : sb ≤ 5000 := by omega
  have b2 : sa ≤ 5000 := by omega
  have ht0 := HT.out
  have q2 : ((m'.y.length : Int) != (sa : Int)) = false := by simp [hey]
  have q3 : ((m'.o.length : Int) != (m.o.length : Int) + (sb : Int)) = false := by simp [heo]
  have hol : m.o.length ≤ m'.o.length := by omega
  clear ht' heo hey
  obtain ⟨x0, x1, x2, xf⟩ := HC.out W3 HB3.out
  obtain ⟨y0, y1, y2, yf⟩ := HC'.out W3 HB3.out
  have HF := Lib.hid ((HM'.out _ HB03.out).fits (Nat.le_trans hB HB03.out.size))
  go_wp2_with fail
  refine HF.out.mono ?_
  rintro e W4 ⟨rfl, hb4⟩
  have HB4 := Lib.hid (HB3.out.trans (hb4.mono HB3.out.size))
  have HB04 := Lib.hid (HB03.out.trans (hb4.mono HB03.out.size))
  clear x0 x1 x2 xf y0 y1 y2 yf hb4 HF
  obtain ⟨x0, x1, x2, xf⟩ := HC.out W4 HB4.out
  obtain ⟨y0, y1, y2, yf⟩ := HC'.out W4 HB4.out
  go_wp2_with fail
  go_loopw [12] (fun a wr => ∃ i : Nat, a = .int .i64 i ∧ i ≤ m.o.length ∧ Hid (Below W4.heap.size W4 wr)) (fun a _ => m.o.length - (intOf a).toNat)
  case atStart => exact ⟨0, by go_num, Nat.zero_le _, Lib.hid (Below.refl _ _)⟩
  case round =>
    obtain ⟨i, rfl, hi, HBi⟩ := hrel
    have hb2r : Below W2.heap.size W2 wr := HB4.out.trans (HBi.out.mono HB4.out.size)
    have hb0r : Below w.heap.size w wr := HB04.out.trans (HBi.out.mono HB04.out.size)
    have HB2r := Lib.hid hb2r
    have HB0r := Lib.hid hb0r
    obtain ⟨x0, x1, x2, xf⟩ := HC.out wr hb2r
    obtain ⟨y0, y1, y2, yf⟩ := HC'.out wr hb2r
    clear hb2r hb0r
    by_cases hlt : i < m.o.length
    · obtain ⟨u, hu⟩ : ∃ u, m.o[i]? = some u := ⟨_, List.getElem?_eq_getElem hlt⟩
      obtain ⟨g9, o9, e9, hg9, hc9⟩ := RowAt.nth' (HM.out wr HB0r.out).o (by omega)
      obtain ⟨g8, o8, e8, hg8, hc8⟩ := RowAt.nth' (HM'.out wr HB0r.out).o (by omega)
      have hcu := hc9 i u hu
      have hcv := hc8 i u (HPre.out i u hu)
      have rl : (i : Int) < (m.o.length : Int) := by omega
      have rl' : (i : Int) < (m'.o.length : Int) := by omega
      have rq : decide ((i : Int) < (m.o.length : Int)) = true := decide_eq_true rl
      have HBid : ∀ nd, Hid (Below W4.heap.size W4 (wr.drewN nd)) := fun nd => Lib.hid (below_drewN HBi.out nd)
      subst e9 e8
      clear hc9 hc8 hu
      go_wp2_with fail
      go_quiet (fail)
      go_wp2_with fail
      go_roundw
      case rel => exact ⟨i + 1, by go_num, by omega, HBid _⟩
      case measure => simp [intOf]; omega
    · have rq : decide ((i : Int) < (m.o.length : Int)) = false := decide_eq_false (by omega)
      have HS9 := Lib.hid (HSm.out wr HB0r.out)
      go_wp2_with fail
      refine HS9.out.mono ?_
      rintro e W5 ⟨rfl, hb5⟩
      have HB5 := Lib.hid (HB2r.out.trans (hb5.mono HB2r.out.size))
      have HB05 := Lib.hid (HB0r.out.trans (hb5.mono HB0r.out.size))
      clear hb5 x0 x1 x2 xf y0 y1 y2 yf
      obtain ⟨x0, x1, x2, xf⟩ := HC.out W5 HB5.out
      obtain ⟨y0, y1, y2, yf⟩ := HC'.out W5 HB5.out
      have HA9 := Lib.hid (HAm.out W5 HB05.out)
      go_wp2_with fail
      refine HA9.out.mono ?_
      rintro e W6 ⟨rfl, hb6⟩
      have HB06 := Lib.hid (HB05.out.trans (hb6.mono HB05.out.size))
      clear hb6
      go_wp2_with fail
      go_ret
      exact ⟨rfl, HB06.out⟩
end Go.Proofs.Ytegffanlehaloaa.cl
/- What a finished collection gives the reference: the same graph, aged. Plain Lean. Conditions: as said. -/
namespace Go.Proofs.Ytegffanlehaloaa.cl
open Go.RowKit mem words
set_option linter.unusedVariables false
set_option linter.unusedSimpArgs false
set_option maxHeartbeats 1000000

theorem fnd_map {g : Int → Int} {v : Int} : ∀ {l : List Int}, (∀ u ∈ l, g u = g v → u = v) → fnd (l.map g) (g v) = fnd l v := by
  intro l
  induction l with
  | nil => intro _; rfl
  | cons a r ih =>
    intro h
    have h1 := ih (fun u hu => h u (List.mem_cons_of_mem _ hu))
    rw [List.map_cons]
    unfold fnd
    rw [h1]
    by_cases ha : a = v
    · rw [if_pos ha, if_pos (by rw [ha])]
    · rw [if_neg ha, if_neg (fun e => ha (h a List.mem_cons_self e))]
def hdl (x : List Int) : Nat := if x.headD 0 % 4 = 0 then 1 else 0
theorem wds_get {x : List Int} (q : Nat) : (wds x)[q]? = x[q + hdl x]? := by
  unfold wds hdl
  split
  · rw [List.getElem?_tail]
  · rfl
theorem wds_length {x : List Int} (h : IsObj x) : (wds x).length + hdl x = x.length := by
  obtain ⟨y, r, rfl, _, _⟩ := h
  unfold wds hdl
  split
  · rw [List.length_tail, List.length_cons]; omega
  · rfl
theorem fxd_frm {x : List Int} (h : IsObj x) {q : Nat} (hq : q < (wds x).length) : q < fxd (knd x) (wds x).length ↔ q + hdl x < frm x := by
  have hw := wds_length h
  obtain ⟨y, r, rfl, hk, _⟩ := h
  have e1 : (y :: r).headD 0 = y := rfl
  have e2 : knd (y :: r) = if y % 4 = 0 then hoK y else 0 := rfl
  have e3 : frm (y :: r) = if y % 4 ≠ 0 then 0 else if hoK y = 1 then 1 else if hoK y = 2 then 5 else (y :: r).length := rfl
  have e4 : hdl (y :: r) = if y % 4 = 0 then 1 else 0 := rfl
  rw [e4] at hw ⊢
  rw [e2, e3]
  generalize (wds (y :: r)).length = n at *
  generalize (y :: r).length = N at *
  unfold fxd
  by_cases h4 : y % 4 = 0
  · have ho : hoOk y = true := by
      unfold hok at hk
      simpa [h4] using hk
    have hk1 : 1 ≤ hoK y := by
      unfold hoK
      rw [if_pos ho]
      unfold hoOk at ho
      have := of_decide_eq_true ho
      omega
    rw [if_pos h4] at hw ⊢
    rw [if_pos h4, if_neg (show ¬ (y % 4 ≠ 0) by omega)]
    by_cases h1 : hoK y = 1
    · rw [if_pos (.inr h1), if_pos h1]
      omega
    · rw [if_neg (by omega), if_neg h1]
      by_cases h2 : hoK y = 2
      · rw [if_pos h2, if_pos h2]
        omega
      · rw [if_neg h2, if_neg h2]
        omega
  · rw [if_neg h4, if_neg h4, if_pos h4, if_pos (.inl rfl)]
    omega
variable {m : Mm} {B : Bk} {full : Bool} {roots : List Int} {S : Bk} {D I : List Int}
theorem Done.num (h : Done m B full roots S D I) {v : Int} (hv : pOk v = true → Cl B full D v) : nmI ((cl.met B roots).map (lk D I)) (lk D I v) = nmI (cl.met B roots) v ∧ nmW (lk D I v) = nmW v := by
  have hp := h.pOk_lk v
  unfold nmI nmW
  rw [hp]
  by_cases hpv : pOk v = true
  · rw [if_pos hpv, if_pos hpv, if_pos hpv, if_pos hpv]
    exact ⟨fnd_map (fun u hu e => h.inj (h.met_cl u hu) (hv hpv) e), rfl⟩
  · rw [if_neg hpv, if_neg hpv, if_neg hpv, if_neg hpv]
    refine ⟨rfl, lk_not (fun hd => ?_)⟩
    obtain ⟨x, hx⟩ := (h.inv.src v hd).1
    exact hpv hx.1
theorem Done.isObj (h : Done m B full roots S D I) {w : Int} (hw : ∃ x, Pt B w x) : IsObj (ob B w) := Bk.isObj h.sh.y h.sh.o (ob_pt h.sh.pos hw).2.1.mem
theorem Done.hd (h : Done m B full roots S D I) {w : Int} (hw : Cl B full D w) : hdl (ob S (lk D I w)) = hdl (ob B w) ∧ knd (ob S (lk D I w)) = knd (ob B w) := by
  obtain ⟨h1, _, h2, h3, h4⟩ := h.obj hw
  have p1 : 0 < (ob B w).length := (h.isObj hw.1).pos
  have p2 : 0 < (ob S (lk D I w)).length := by omega
  unfold hdl knd
  by_cases h0 : (ob B w).headD 0 % 4 = 0
  · have h5 := h4 0 _ (headD_get p1)
    have h6 := frm_pos h0 p1
    rw [if_neg (by omega), headD_get p2] at h5
    have h7 := Option.some.inj h5
    rw [h7]
    exact ⟨rfl, rfl⟩
  · rw [if_neg h0, if_neg (fun e => h0 (h3.1 e)), if_neg h0, if_neg (fun e => h0 (h3.1 e))]
    exact ⟨rfl, rfl⟩
theorem Done.same (h : Done m B full roots S D I) : SameG B S roots (roots.map (lk D I)) (cl.met B roots) (cl.met S (roots.map (lk D I))) := by
  rw [h.met]
  have get : ∀ {l : List Int} {i : Nat} {x y : Int}, l[i]? = some x → (l.map (lk D I))[i]? = some y → y = lk D I x := fun h1 h2 => by
    rw [List.getElem?_map, h1] at h2
    exact (Option.some.inj h2).symm
  have kd : ∀ {x : Int}, Cl B full D x → knd (ob S (lk D I x)) = knd (ob B x) ∧ (wds (ob S (lk D I x))).length = (wds (ob B x)).length := fun {x} hc => by
    have hd := h.hd hc
    have ho := h.obj hc
    refine ⟨hd.2, ?_⟩
    have w1 := wds_length (h.isObj hc.1)
    have w2 := wds_length (x := ob S (lk D I x)) (h.inv.obj _ _ ho.1.2.1.mem)
    rw [hd.1] at w2
    have := ho.2.2.1
    omega
  refine ⟨List.length_map _, List.length_map _, fun i x y hx hy => ?_, fun i x y hx hy => ?_, fun i x y hx hy q u v hu hv => ?_⟩
  · rw [get hx hy]
    exact h.num (fun hp => h.cl_root (List.mem_of_getElem? hx) hp)
  · rw [get hx hy]
    exact kd (h.met_cl x (List.mem_of_getElem? hx))
  · have hc := h.met_cl x (List.mem_of_getElem? hx)
    obtain rfl := get hx hy
    have hq : q < (wds (ob B x)).length := (List.getElem?_eq_some_iff.1 hu).1
    have hf := fxd_frm (h.isObj hc.1) hq
    rw [wds_get] at hu hv
    rw [(h.hd hc).1, (h.obj hc).2.2.2.2 _ _ hu] at hv
    have hv := Option.some.inj hv
    constructor
    · intro hlt
      rw [← hv, if_neg (by have := hf.1 hlt; omega)]
    · intro hge
      have hfr : cl.frm (ob B x) ≤ q + hdl (ob B x) := by
        apply Nat.le_of_not_lt
        intro hn
        have := hf.2 hn
        omega
      rw [← hv, if_pos hfr]
      refine h.num (fun hp => h.cl_fol hc ?_ hp)
      unfold folB fol
      refine List.mem_of_getElem? (i := q + hdl (ob B x) - cl.frm (ob B x)) ?_
      rw [List.getElem?_drop, Nat.add_sub_cancel' hfr]
      exact hu
theorem Done.aged (h : Done m B false roots S D I) : AgedG m (cl.met B roots) (cl.met S (roots.map (lk D I))) := by
  rw [h.met]
  intro i x y hx hy
  have hc := h.met_cl x (List.mem_of_getElem? hx)
  rw [List.getElem?_map, hx] at hy
  obtain rfl := Option.some.inj hy
  obtain ⟨z, hz⟩ := hc.1
  constructor
  · intro ho
    refine lk_not (fun hd => ?_)
    have := (h.inv.src x hd).2.1
    unfold mov at this
    rw [ho] at this
    simp at this
  · intro ho
    have hd : x ∈ D := hc.2.2 (by unfold mov; rw [hz.1, ho]; rfl)
    obtain ⟨c1, c2, c3, c4, _⟩ := h.copy hd
    refine ⟨?_, fun ho' => ?_⟩
    · rw [c4]
      unfold age
      rw [ho]
      simp
    · have h1 := h.inv.new _ c1 ho'
      have h2 := h.base_flat rfl
      have h3 := pIx_eq c2
      have h1 : B.o.flatten.length ≤ (pIx (lk D I x)).toNat := h1
      rw [h2] at h1
      have h4 : 0 ≤ pIx (lk D I x) := by rw [h3]; omega
      omega
theorem Done.prefixO (h : Done m B false roots S D I) (i : Nat) (u : Int) (hu : m.o[i]? = some u) : S.o.flatten[i]? = some u := by
  obtain ⟨r, hr⟩ := h.inv.pre
  have hr : S.o = B.o ++ r := hr
  rw [hr, List.flatten_append, h.sh.o.1, List.getElem?_append_left (List.getElem?_eq_some_iff.1 hu).1]
  exact hu
end Go.Proofs.Ytegffanlehaloaa.cl
/- The collector: object, area. Conditions: as said. -/
namespace Go.Proofs.Ytegffanlehaloaa.cl
open Go.RowKit mem words
set_option linter.unusedVariables false
set_option linter.unusedSimpArgs false
set_option maxHeartbeats 4000000
set_option maxRecDepth 100000

theorem area45 (w : World) (v1 v2 : Value) (p1 p2 : Option Addr) (n1 c1 n2 c2 : Nat) (k : Int) (b : Bool) (h1 : v1 = .slice p1 n1 c1) (h2 : v2 = .slice p2 n2 c2) :
    Calls Try.prog 45 #[.agg #[v1, v2, .int .i64 k], .bool b] w fun e w' => e = .returned (if b then v2 else v1) ∧ Below w.heap.size w w' := by
  subst h1 h2
  have HB0 : Hid (Below w.heap.size w (w.alloc (.cells #[.slice p1 n1 c1, .slice p2 n2 c2, .int .i64 k] 24))) := Lib.hid ((Below.refl _ _).alloc (Nat.le_refl _) _)
  cases b
  · go_enter Try.func45, Try.ntmps45
    go_wp2_with fail
    go_ret
    exact ⟨rfl, HB0.out⟩
  · go_enter Try.func45, Try.ntmps45
    go_wp2_with fail
    go_ret
    exact ⟨rfl, HB0.out⟩
theorem object44 (w : World) (g o n c i : Nat) (x : List Int) (hx : IsObj x) (hy : 0 ≤ x.headD 0 ∧ x.headD 0 ≤ 18446744073709551615) (hb : i + x.length ≤ n) (hc : n ≤ c) (hn : n ≤ 200000) (hcell : w.cell? ⟨g, o + i, none⟩ = some (.int .u64 (x.headD 0))) :
    Calls Try.prog 44 #[.slice (some ⟨g, o, none⟩) n c, .int .i64 i] w fun e w' => e = .returned (.tuple #[.slice (some ⟨g, o + i, none⟩) x.length (c - i), .int .i64 (frm x)]) ∧ w = w' := by
  obtain ⟨y, r, rfl, hk, hl⟩ := hx
  have e1 : (y :: r).headD 0 = y := rfl
  rw [e1] at hy hcell
  have HH := Lib.hid (fun W => HeaderOf y hy.1 hy.2 W)
  have hfr : frm (y :: r) = if y % 4 ≠ 0 then 0 else if hoK y = 1 then 1 else if hoK y = 2 then 5 else (y :: r).length := rfl
  generalize (y :: r).length = N at *
  generalize frm (y :: r) = F at *
  have hpos := osz_pos y
  have ri : (0 : Int) ≤ (i : Int) := by omega
  have rl : (i : Int) < (n : Int) := by omega
  have hci : ¬ c = i := by omega
  rcases hok_cases y with ⟨h4, hk', hs⟩ | ⟨h4, ho, hk', hs⟩ | ⟨h4, ho, hk'⟩
  · rw [hs] at hl
    subst hl
    rw [if_pos h4] at hfr
    have ho : hoOk y = false := by unfold hoOk; simp [h4]
    have e1 : IntKind.i64.wrap ((i : Int) + 2) = (i : Int) + 2 := IntWalk.i64_in _ (by omega)
    have e5 : (i : Int) ≤ (i : Int) + 2 := by omega
    have e6 : (i : Int) + 2 ≤ (c : Int) := by omega
    have e7 : ((i : Int) + 2).toNat = i + 2 := by omega
    rw [ho] at HH
    subst hfr
    clear hs h4 ho hk hk' hpos
    go_enter Try.func44, Try.ntmps44
    go_wp2_with fail
    refine (HH.out _).mono ?_
    rintro e w' ⟨rfl, rfl⟩
    go_wp2_with fail
    go_ret2
    exact ⟨rfl, rfl⟩
  · rw [hs] at hl
    have e1 : IntKind.i64.wrap ((i : Int) + 1) = (i : Int) + 1 := IntWalk.i64_in _ (by omega)
    have hr := hoN_rng y hy.1
    obtain ⟨M, hM⟩ : ∃ M : Nat, hoN y = M := ⟨(hoN y).toNat, by omega⟩
    rw [hM] at hl hr HH
    have e2 : IntKind.i64.wrap ((i : Int) + 1 + (M : Int)) = (i : Int) + 1 + (M : Int) := IntWalk.i64_in _ (by omega)
    have e5 : (i : Int) ≤ (i : Int) + 1 + (M : Int) := by omega
    have e6 : (i : Int) + 1 + (M : Int) ≤ (c : Int) := by omega
    have e7 : ((i : Int) + 1 + (M : Int)).toNat = i + 1 + M := by omega
    have hN : N = 1 + M := by omega
    subst hN
    have e8 : i + 1 + M - i = 1 + M := by omega
    rw [if_neg (show ¬ (y % 4 ≠ 0) by omega)] at hfr
    rw [ho] at HH
    have HN8 := Lib.hid e8
    have hz : 1 + M = M + 1 := by omega
    have HZ := Lib.hid hz
    clear hs h4 ho hk hk' hpos hM hl e8 hz
    generalize hoK y = kk at *
    by_cases h1 : kk = 1
    · have q1 : (kk == 1) = true := by simpa using h1
      have HF : Hid (F = 1) := Lib.hid (by rw [hfr, if_pos h1])
      clear hfr h1
      go_enter Try.func44, Try.ntmps44
      go_wp2_with fail
      refine (HH.out _).mono ?_
      rintro e w' ⟨rfl, rfl⟩
      go_wp2_with fail
      go_ret2
      exact ⟨by rw [HF.out, ← HN8.out]; rfl, rfl⟩
    · have q1 : (kk == 1) = false := by simpa using h1
      rw [if_neg h1] at hfr
      by_cases h2 : kk = 2
      · have q2 : (kk == 2) = true := by simpa using h2
        have HF : Hid (F = 5) := Lib.hid (by rw [hfr, if_pos h2])
        clear hfr h1 h2
        go_enter Try.func44, Try.ntmps44
        go_wp2_with fail
        refine (HH.out _).mono ?_
        rintro e w' ⟨rfl, rfl⟩
        go_wp2_with fail
        go_ret2
        exact ⟨by rw [HF.out, ← HN8.out]; rfl, rfl⟩
      · have q2 : (kk == 2) = false := by simpa using h2
        have HF : Hid (F = 1 + M) := Lib.hid (by rw [hfr, if_neg h2])
        clear hfr h1 h2
        go_enter Try.func44, Try.ntmps44
        go_wp2_with fail
        refine (HH.out _).mono ?_
        rintro e w' ⟨rfl, rfl⟩
        go_wp2_with fail
        go_ret2
        exact ⟨by rw [HF.out, ← HN8.out]; rfl, rfl⟩
  · rw [hk'] at hk; exact Bool.noConfusion hk
end Go.Proofs.Ytegffanlehaloaa.cl
/- The collector: begins. Conditions: as said. -/
namespace Go.Proofs.Ytegffanlehaloaa.cl
open Go.RowKit mem words
set_option linter.unusedVariables false
set_option linter.unusedSimpArgs false
set_option maxHeartbeats 4000000
set_option maxRecDepth 100000

def BegP (l : List Int) (a : List (List Int)) (w : World) (e : Ending) (w' : World) : Prop := e = .returned (.slice (some ⟨w.heap.size, 0, none⟩) l.length l.length) ∧ FAt w' (w.heap.size + 1) (.slice (some ⟨w.heap.size, 0, none⟩) l.length l.length) (marks a) ∧ w.heap.size < w'.heap.size ∧ Below w.heap.size w w'
theorem begins51 (w : World) (B : Nat) (v : Value) (l : List Int) (a : List (List Int)) (hB : B ≤ w.heap.size) (h : WAt w B v l) (hw : Wds l) (hl : l.length ≤ 100000) (ha : Objs l a) : Calls Try.prog 51 #[v] w (BegP l a w) := by
  obtain ⟨p, c, rfl, hc1, hc2, hp⟩ := h
  obtain ⟨i0, hi0, hz0, hz1, hz2⟩ := info_parts info4
  have HP := Lib.hid hp
  have HW := Lib.hid hw
  have HA0 := Lib.hid ha
  have HC1 := Lib.hid hc1
  clear hp hw ha hc1
  go_enter Try.func51, Try.ntmps51
  go_wp2_with (at_make; refine wpList_make_full _ rfl _ _ 60 rfl w.heap.size 4 i0 (.bool false) 1 Try.underlying60 hi0 hz0 hz1 .i64 .i64 _ _ l.length rfl rfl rfl rfl (by rw [hz2]; omega) (by unfold maxLen; omega) (Nat.le_refl _) ?_; intro w1 hown hgrow)
  have HO : Hid (w1.ownsRow w.heap.size 4 1 (.slice (some ⟨w.heap.size, 0, none⟩) l.length l.length) l.length ((List.replicate l.length false).map Value.bool)) := Lib.hid (by simpa [toList_madeCells_one, Value.cells] using hown)
  have HB1 : Hid (Below w.heap.size w w1) := Lib.hid ((Below.refl _ _).grown hgrow (Nat.le_refl _) (fun k e => by simp at e))
  clear hown hgrow
  go_loopw [4, 5, 6] (fun a _ _ wr => ∃ (i : Nat) (out : List Bool), a = .int .i64 i ∧ i ≤ l.length ∧ Hid (Scn l i out) ∧ Hid (wr.ownsRow w.heap.size 4 1 (.slice (some ⟨w.heap.size, 0, none⟩) l.length l.length) l.length (out.map Value.bool)) ∧ Hid (Below w.heap.size w wr)) (fun a _ _ _ => l.length - (intOf a).toNat)
  case atStart => exact ⟨0, _, by go_num, Nat.zero_le _, Lib.hid (Scn.zero l), HO, HB1⟩
  case round =>
    obtain ⟨i, out, rfl, hil, HS, HOw, HBw⟩ := hrel
    clear HO HB1
    by_cases hlt : i < l.length
    · obtain ⟨g, o, rfl, hg, hc⟩ := HP.out (by intro e; subst e; simp at hlt)
      have hx := (HBw.out.cell (p := ⟨g, o + i, none⟩) (show g < w.heap.size by omega)).trans (hc i hlt)
      have hxr := HW.out _ (List.getElem_mem hlt)
      have hxe : l[i]? = some l[i] := List.getElem?_eq_getElem hlt
      have hdr : l.drop i = l[i] :: l.drop (i + 1) := List.drop_eq_getElem_cons hlt
      generalize l[i] = x at hx hxr hxe hdr
      have HX := Lib.hid hxe
      have hol : out.length = l.length := HS.out.len
      have hcb : wr.cell? ⟨w.heap.size, i, none⟩ = some (.bool (out[i]'(by omega))) := by
        rw [HOw.out.cellAt i (by omega), List.getElem?_map, List.getElem?_eq_getElem (by omega)]
        rfl
      generalize out[i]'(by omega) = b0 at hcb
      have hfz := HOw.out.frozenAt i
      obtain ⟨hst, hgr⟩ := HOw.out.stored i (.bool true)
      have HOw2 : Hid ((wr.setCell ⟨w.heap.size, i, none⟩ (.bool true)).ownsRow w.heap.size 4 1 (.slice (some ⟨w.heap.size, 0, none⟩) l.length l.length) l.length ((out.set i true).map Value.bool)) := Lib.hid (by rw [List.map_set]; exact hst)
      have HBw2 : Hid (Below w.heap.size w (wr.setCell ⟨w.heap.size, i, none⟩ (.bool true))) := Lib.hid (HBw.out.setCell (Nat.le_refl _) _)
      have hx2 : (wr.setCell ⟨w.heap.size, i, none⟩ (.bool true)).cell? ⟨g, o + i, none⟩ = some (.int .u64 x) := (World.cell?_of_block (w := wr) (a := ⟨g, o + i, none⟩) (Below.heap_setCell _ _ _ _ (show g ≠ w.heap.size by omega))).trans hx
      have hok1 : hok x = true := by
        cases hk : hok x
        · exact absurd ⟨a, HA0.out⟩ (HS.out.fail hxe (.inl hk))
        · rfl
      have hos : osz x ≤ l.length - i := by
        apply Nat.le_of_not_lt
        intro hn
        exact absurd ⟨a, HA0.out⟩ (HS.out.fail hxe (.inr (by omega)))
      have HSn := Lib.hid (HS.out.step hxe hok1 hos)
      have hpos := osz_pos x
      have hln : ((l.drop i).take (osz x)).length = osz x := by rw [List.length_take, List.length_drop]; omega
      have hob : IsObj ((l.drop i).take (osz x)) := by
        refine ⟨x, (l.drop (i + 1)).take (osz x - 1), ?_, hok1, hln⟩
        rw [hdr]
        obtain ⟨k, hk⟩ : ∃ k, osz x = k + 1 := ⟨osz x - 1, by omega⟩
        rw [hk]
        rfl
      have hhd : ((l.drop i).take (osz x)).headD 0 = x := by
        rw [hdr]
        obtain ⟨k, hk⟩ : ∃ k, osz x = k + 1 := ⟨osz x - 1, by omega⟩
        rw [hk]
        rfl
      have hob4 := object44 (wr.setCell ⟨w.heap.size, i, none⟩ (.bool true)) g o l.length c i ((l.drop i).take (osz x)) hob (by rw [hhd]; exact hxr) (by rw [hln]; omega) HC1.out (by omega) (by rw [hhd]; exact hx2)
      rw [hln] at hob4
      have HOb := Lib.hid hob4
      clear hst hgr hxe hc hob4 hob hhd hdr hok1 hln hx2 hx
      generalize frm ((l.drop i).take (osz x)) = fr at *
      generalize osz x = sz at *
      have ri : (0 : Int) ≤ (i : Int) := by omega
      go_wp2_with fail
      refine HOb.out.mono ?_
      rintro e w' ⟨rfl, rfl⟩
      go_wp2_with fail
      go_roundw
      case rel => exact ⟨i + sz, out.set i true, by go_num, by omega, HSn, HOw2, HBw2⟩
      case measure => simp [intOf]; omega
    · obtain ⟨a', ha', rfl⟩ := HS.out.done hlt
      obtain rfl := Objs.uniq ha' HA0.out
      have hml : (marks a').length = l.length := HS.out.len
      have HFl := Lib.hid (own_flags HOw.out hml hl)
      have HLt := Lib.hid (row_lt HOw.out)
      clear ha' hml
      go_wp2_with fail
      go_ret
      exact ⟨rfl, HFl.out, HLt.out, HBw.out⟩
end Go.Proofs.Ytegffanlehaloaa.cl
/- The collector: the test of a root in fits. Conditions: as said. -/
namespace Go.Proofs.Ytegffanlehaloaa.cl
open Go.RowKit mem words
set_option linter.unusedVariables false
set_option linter.unusedSimpArgs false
set_option maxHeartbeats 4000000
set_option maxRecDepth 100000

/-- what fits has laid: the memory's box, and the boxes of the two rows of marks -/
structure FitBox (w : World) (B z0 z1 z2 : Nat) (p1 : Option Addr) (c1 : Nat) (p2 : Option Addr) (c2 : Nat) (p3 : Option Addr) (c3 : Nat) (p4 : Option Addr) (c4 : Nat) (m : Mm) (K : Bk) : Prop where
  b0 : w.heap[z0]? = some (.cells #[.slice p1 m.y.length c1, .slice p2 m.o.length c2, .int .i64 m.at_] 24)
  b1 : w.cell? ⟨z1, 0, none⟩ = some (.slice p3 m.y.length c3)
  b2 : w.cell? ⟨z2, 0, none⟩ = some (.slice p4 m.o.length c4)
  l0 : z0 < w.heap.size
  l1 : z1 < w.heap.size
  l2 : z2 < w.heap.size
  k : BookAt w B (.slice p1 m.y.length c1) (.slice p2 m.o.length c2) (.slice p3 m.y.length c3) (.slice p4 m.o.length c4) m K
  le : B ≤ w.heap.size
theorem FitBox.below {w w' : World} {B z0 z1 z2 : Nat} {p1 : Option Addr} {c1 : Nat} {p2 : Option Addr} {c2 : Nat} {p3 : Option Addr} {c3 : Nat} {p4 : Option Addr} {c4 : Nat} {m : Mm} {K : Bk} (h : FitBox w B z0 z1 z2 p1 c1 p2 c2 p3 c3 p4 c4 m K) (hb : Below w.heap.size w w') : FitBox w' B z0 z1 z2 p1 c1 p2 c2 p3 c3 p4 c4 m K :=
  ⟨(hb.block _ h.l0).trans h.b0, (hb.cell (p := ⟨z1, 0, none⟩) h.l1).trans h.b1, (hb.cell (p := ⟨z2, 0, none⟩) h.l2).trans h.b2, Nat.lt_of_lt_of_le h.l0 hb.size, Nat.lt_of_lt_of_le h.l1 hb.size, Nat.lt_of_lt_of_le h.l2 hb.size, h.k.below hb h.le, Nat.le_trans h.le hb.size⟩
def NotTm (K : Bk) (v : Int) (w : World) (e : Ending) (w' : World) : Prop := ∃ r, e = .returned (.bool r) ∧ (r = true ↔ ¬ Tm K v) ∧ Below w.heap.size w w'
theorem fits53_no (w : World) (z0 z1 z2 : Nat) (K : Bk) (v : Int) (v0 : 0 ≤ v) (v1 : v ≤ 18446744073709551615) (hp : pOk v = false) :
    Calls Try.prog 53 #[.int .u64 v, .pointer (some ⟨z0, 0, none⟩), .pointer (some ⟨z1, 0, none⟩), .pointer (some ⟨z2, 0, none⟩)] w (NotTm K v w) := by
  have HP := Lib.hid (fun W => Pointer v v0 v1 W)
  have HT := Lib.hid (fun W => Tag v v0 v1 W)
  have HV := Lib.hid (fun W => Valid v v0 v1 W)
  rw [hp] at HP
  generalize pOld v = o at *
  generalize pIx v = ix at *
  by_cases h3 : v % 4 = 3
  · have q3 : (v % 4 != 3) = false := by simpa using h3
    have HI := Lib.hid (vOk_imm (K := K) h3)
    clear h3 hp
    generalize vOk v = r at *
    go_enter Try.func53, Try.ntmps53
    go_wp2_with (first | (go_at_call 42; refine (HP.out _).mono ?_; rintro e w' ⟨rfl, rfl⟩) | (go_at_call 54; refine (HT.out _).mono ?_; rintro e w' ⟨rfl, rfl⟩) | (go_at_call 55; refine (HV.out _).mono ?_; rintro e w' ⟨rfl, rfl⟩))
    go_ret
    refine ⟨!r, rfl, ?_, Below.refl _ _⟩
    rw [← HI.out]
    cases r <;> simp
  · have q3 : (v % 4 != 3) = true := by simpa using h3
    have HI : Hid (¬ Tm K v) := Lib.hid (by
      rintro (h | h | h | ⟨x, h⟩)
      · unfold soOk at h; have := of_decide_eq_true h; omega
      · unfold aoOk at h; have := of_decide_eq_true h; omega
      · omega
      · rw [h.1] at hp; exact Bool.noConfusion hp)
    clear h3 hp
    go_enter Try.func53, Try.ntmps53
    go_wp2_with (first | (go_at_call 42; refine (HP.out _).mono ?_; rintro e w' ⟨rfl, rfl⟩) | (go_at_call 54; refine (HT.out _).mono ?_; rintro e w' ⟨rfl, rfl⟩))
    go_ret
    exact ⟨true, rfl, by simp [HI.out], Below.refl _ _⟩
end Go.Proofs.Ytegffanlehaloaa.cl
