/- Several texts in one, one behind the other: LwC. No condition beyond theirs. -/
import Derived.Test.YthgfdpamnepnfaaHj
/- OrderInside: the walk. Conditions: the terms lie in memory. -/
namespace Go.Proofs.Ythgfdpamnepnfaa.tm
open Go.RowKit mem names
set_option linter.unusedVariables false
set_option linter.unusedSimpArgs false
set_option maxHeartbeats 20000000
set_option maxRecDepth 100000

set_option maxRecDepth 100000 in
theorem lawInside {n : Nat} (w : World) (vl : Value) (l : List (Tm (n + 1))) (at_ : Int) (t : Tm (n + 1)) (u1 : Value) (IL : ItemsAt w w.heap.size (n + 1) vl l) (I1 : ItemsAt w w.heap.size n u1 t.items) :
    Calls Try.prog 8 #[vl, .int .i64 at_, aggV t.f u1] w fun e w' => e = .returned (.bool true) ∧ Below w.heap.size w w' := by
  have HSh := Lib.hid (fun W => shownW W)
  have HGL := Lib.hid (fun W (hb : Below w.heap.size w W) => Great W w.heap.size vl l 6000 hb.size (by omega) (by omega) (IL.below hb (Nat.le_refl _)))
  have HGT := Lib.hid (fun W (hb : Below w.heap.size w W) => Great (W.alloc (cells9 t.f u1)) _ _ [t] 6000 (Nat.le_refl _) (by omega) (by omega) (one_items W w.heap.size t u1 hb.size (I1.below hb (Nat.le_refl _))))
  have HNL := Lib.hid (fun (h : greatS (n + 1) l 6000 = false) => great_nodes h)
  have HNT := Lib.hid (fun (h : greatS (n + 1) [t] 6000 = false) => by have := great_nodes h; rw [nodesL_cons] at this; exact this)
  have HIL := Lib.hid (fun W (hb : Below w.heap.size w W) => (IL.below hb (Nat.le_refl _)))
  have HI1 := Lib.hid (fun W (hb : Below w.heap.size w W) => (I1.below hb (Nat.le_refl _)))
  obtain ⟨pl, cl, rfl, _, _⟩ := IL.shape
  obtain ⟨p1, c1, rfl, _, _⟩ := I1.shape
  have HLen1 : Hid (t.items.length = t.items.length) := Lib.hid rfl
  clear IL I1
  unfold BPost at *
  generalize greatS (n + 1) l 6000 = G1 at *
  generalize greatS (n + 1) [t] 6000 = G2 at *
  obtain ⟨f, hf⟩ : ∃ f, t.f = f := ⟨_, rfl⟩
  have HTf := Lib.hid hf
  rw [hf] at HGT ⊢
  clear hf
  generalize t.items.length = m1 at *
  obtain ⟨k1, i1, g1, n1, fn1, a1, by1, s1⟩ := f
  unfold aggV cells9 at *
  dsimp only at *
  go_enter Try.func8, Try.ntmps8
  go_wp2_with fail
  obtain ⟨hN1, hbw, hz1⟩ := box_one w ⟨k1, i1, g1, n1, fn1, a1, by1, s1⟩ (.slice p1 m1 c1)
  unfold cells9 at hN1 hbw hz1
  dsimp only at hN1 hbw hz1
  generalize (w.alloc (.cells #[.int .i64 k1, .int .i64 i1, .int .i64 g1, .string n1, .string fn1, .int .i64 a1, .slice p1 m1 c1, .string by1, .int .i64 s1] 24)) = W0 at *
  have HN1 := Lib.hid hN1
  clear hN1
  refine (HSh.out W0).mono ?_
  rintro e w1 ⟨rfl, hb1⟩
  have HP1 := Lib.hid (HN1.out.below hb1 hz1)
  have hbb1 := hbw.trans (hb1.mono hbw.size)
  have hz1 : w.heap.size < w1.heap.size := Nat.lt_of_lt_of_le hz1 hb1.size
  have HB1 := Lib.hid hbb1
  clear HN1 hbw hb1 hbb1 HSh
  by_cases h0 : l.length = 0
  · have q0 : ((l.length : Int) == 0) = true := by simp [h0]
    go_wp2_with fail
    go_ret
    exact ⟨rfl, HB1.out⟩
  have q0 : ((l.length : Int) == 0) = false := by have : ¬ (l.length : Int) = 0 := by omega
                                                  simpa using this
  by_cases h300 : l.length ≤ 300
  · have q1 : ¬ (300 : Int) < (l.length : Int) := by omega
    have q2 : decide ((300 : Int) < (l.length : Int)) = false := decide_eq_false q1
    have HGW := Lib.hid (HGL.out w1 HB1.out)
    go_wp2_with fail
    refine HGW.out.mono ?_
    rintro e w1b ⟨rfl, hb2⟩
    have HP2 := Lib.hid (HP1.out.below hb2 hz1)
    have hbb2 := HB1.out.trans (hb2.mono HB1.out.size)
    have hz2 : w.heap.size < w1b.heap.size := Nat.lt_of_lt_of_le hz1 hb2.size
    have HB2 := Lib.hid hbb2
    clear HP1 HB1 hb2 hbb2 HGW HGL hz1
    cases G1
    · have hn1 := HNL.out rfl
      have HGW := Lib.hid (HGT.out w1b HB2.out)
      obtain ⟨x0, x1, x2, x3, x4, x5, x6, x7, x8, xz⟩ := HP2.out
      dsimp only at x0 x1 x2 x3 x4 x5 x6 x7 x8
      go_wp2_with fail
      refine HGW.out.mono ?_
      rintro e w2 ⟨rfl, hb3⟩
      have hq : Below w1b.heap.size w1b w2 := ((Below.refl _ _).alloc (Nat.le_refl _) _).trans (hb3.mono (by simp))
      have HM1 := Lib.hid (HP2.out.below hq hz2)
      have hz3 : w.heap.size < w2.heap.size := Nat.lt_of_lt_of_le hz2 hq.size
      have HB3 := Lib.hid (HB2.out.trans (hq.mono HB2.out.size))
      clear x0 x1 x2 x3 x4 x5 x6 x7 x8 xz HP2 HB2 hb3 hq HGW HGT hz2
      cases G2
      · have hn2 := HNT.out rfl
        have hn1' : nodesL (n + 1) l ≤ 6000 := by omega
        have hn2' : nodesT t ≤ 6000 := by omega
        clear hn1 hn2 HNL HNT q1 q2
        have HPk := Lib.hid (pick31 at_ l.length (by omega) (by omega) w2)
        go_wp2_with fail
        refine HPk.out.mono ?_
        rintro e w2' ⟨k, rfl, hk, rfl⟩
        have HE : Hid (RRowF (n := n) (w2.alloc (.cells #[] 24)) (fun _ => False) w2.heap.size (.slice (some ⟨w2.heap.size, 0, none⟩) 0 0) [] []) := Lib.hid (RRowF.empty _ _ (Nat.le_refl _))
        have HB4 : Hid (Below w.heap.size w (w2.alloc (.cells #[] 24))) := Lib.hid (HB3.out.alloc HB3.out.size _)
        have HI0 := Lib.hid (HIL.out _ HB4.out).in_
        have HW2 : Hid (w.heap.size < w2.heap.size) := Lib.hid hz3
        have HF0 : Hid (∀ g, g < w.heap.size → g < (w2.alloc (.cells #[] 24)).heap.size ∧ (Value.slice (some ⟨w2.heap.size, 0, none⟩) 0 0).ownBlock ≠ some g) := Lib.hid (fun g hg => ⟨Nat.lt_of_lt_of_le hg HB4.out.size, by simp [Value.ownBlock]; have := HW2.out; omega⟩)
        have HD0 : Hid (([] : List (Tm (n + 1))).length + l.length ≤ 1000000000) := Lib.hid (by simp; omega)
        have HC0 : Hid (w2.heap.size ≤ (w2.alloc (.cells #[] 24)).heap.size) := Lib.hid (by simp)
        have HT0 : Hid (∀ (W' : World), TouchB (fun k => (Value.slice (some ⟨w2.heap.size, 0, none⟩) 0 0).ownBlock = some k) (w2.alloc (.cells #[] 24)) W' → Below w2.heap.size w2 W') := Lib.hid (fun W' ht => below_touch ((Below.refl _ w2).alloc (Nat.le_refl _) _) ht (fun g hg => by simp [Value.ownBlock] at hg; omega))
        have HM5 : Hid (∀ W, Below w2.heap.size w2 W → Nine W w.heap.size ⟨k1, i1, g1, n1, fn1, a1, by1, s1⟩ (.slice p1 m1 c1)) := Lib.hid (fun W hb => HM1.out.below hb hz3)
        go_wp2_with (at_builtin; refine wpList_append_items rfl (.tmp 38) (.tmp 39) rfl rfl HE.out pl l.length cl l rfl rfl HI0.out HF0.out HD0.out HC0.out ?_; intro p5 c5 w5 rs5 hr5 ht5; rw [List.nil_append] at hr5 ⊢; have HR5 := Lib.hid hr5; have HT5 := Lib.hid (HT0.out _ ht5); obtain ⟨bM, cM, e5⟩ := HR5.out.addr (by omega); simp only [Value.slice.injEq, true_and] at e5; obtain ⟨rfl, rfl⟩ := e5; obtain ⟨f6, u6, hc6⟩ := HR5.out.cellAt rfl hk; obtain ⟨k6, i6, g6, n6, fn6, a6, by6, s6⟩ := f6; obtain ⟨v0, v1, v2, v3, v4, v5, v6, v7, v8⟩ := hc6; dsimp only at v0 v1 v2 v3 v4 v5 v6 v7 v8; have hfz : ∀ o, w5.frozen? ⟨bM, o, none⟩ = false := HR5.out.own.frozenAt; obtain ⟨x0, x1, x2, x3, x4, x5, x6, x7, x8, xz⟩ := HM5.out w5 HT5.out; dsimp only at x0 x1 x2 x3 x4 x5 x6 x7 x8; clear hr5 ht5)
        have hset := HR5.out.set rfl hk (t := t) HTf.out (u := .slice p1 m1 c1) ((HI1.out w5 (HB3.out.trans (HT5.out.mono HB3.out.size))).in_.mono (fun _ _ => rfl) (fun g hg => Or.inr hg))
        have hb53 : Below w2.heap.size w2 (set9 w5 bM (k * 9) ⟨k1, i1, g1, n1, fn1, a1, by1, s1⟩ (.slice p1 m1 c1)) := below_touch HT5.out (set9_touch w5 bM (k * 9) _ _) (fun g hg => by subst hg; exact row_ge HR5.out g rfl)
        unfold set9 at hset hb53
        dsimp only at hset hb53
        have HRm := Lib.hid hset
        have HB23 := Lib.hid hb53
        clear hset hb53 HE HB4 HI0 HF0 HD0 HC0 HT0 HR5 HT5 hfz v0 v1 v2 v3 v4 v5 v6 v7 v8 x0 x1 x2 x3 x4 x5 x6 x7 x8 xz
        generalize (((((((((w5.setCell ⟨bM, k * 9, none⟩ (.int .i64 k1)).setCell ⟨bM, k * 9 + 1, none⟩ (.int .i64 i1)).setCell ⟨bM, k * 9 + 2, none⟩ (.int .i64 g1)).setCell ⟨bM, k * 9 + 3, none⟩ (.string n1)).setCell ⟨bM, k * 9 + 4, none⟩ (.string fn1)).setCell ⟨bM, k * 9 + 5, none⟩ (.int .i64 a1)).setCell ⟨bM, k * 9 + 6, none⟩ (.slice p1 m1 c1)).setCell ⟨bM, k * 9 + 7, none⟩ (.string by1)).setCell ⟨bM, k * 9 + 8, none⟩ (.int .i64 s1)) = w3 at *
        have HW3 : Hid (w.heap.size ≤ w3.heap.size) := Lib.hid (Nat.le_trans (Nat.le_of_lt HW2.out) HB23.out.size)
        have HB03 : Hid (Below w.heap.size w w3) := Lib.hid (HB3.out.trans (HB23.out.mono (Nat.le_of_lt HW2.out)))
        have HM3 : Hid (∀ W, Below w3.heap.size w3 W → Nine W w.heap.size ⟨k1, i1, g1, n1, fn1, a1, by1, s1⟩ (.slice p1 m1 c1)) := Lib.hid (fun W hb => HM5.out W (HB23.out.trans (hb.mono HB23.out.size)))
        have HB0W : Hid (∀ W, Below w3.heap.size w3 W → Below w.heap.size w W) := Lib.hid (fun W hb => HB03.out.trans (hb.mono HW3.out))
        have HIn3 : Hid (∀ W, Below w3.heap.size w3 W → ItemsIn W (fun g => g < w.heap.size) (n + 1) (.slice pl l.length cl) l) := Lib.hid (fun W hb => (HIL.out W (HB0W.out W hb)).in_)
        have HIt3 : Hid (∀ W, Below w3.heap.size w3 W → ItemsIn W (fun g => g < w.heap.size) n (.slice p1 m1 c1) t.items) := Lib.hid (fun W hb => (HI1.out W (HB0W.out W hb)).in_)
        have HD1 : Hid (l.length ≤ 1000000) := Lib.hid (by omega)
        obtain ⟨L, hL⟩ : ∃ L, l ++ [t] = L := ⟨_, rfl⟩
        have HLL := Lib.hid hL
        have HNd : Hid (nodesL (n + 1) L ≤ 1000000) := Lib.hid (by
          rw [← hL, nodesL_append, nodesL_cons]
          have : nodesL (n + 1) ([] : List (Tm (n + 1))) = 0 := rfl
          omega)
        have HTup := Lib.hid (fun W F u (hF : ∀ g, F g → g < W.heap.size) (hi : ItemsIn W F (n + 1) u L) => tuple32 W F u L hF hi HNd.out)
        clear hL
        unfold MkPost at HTup
        have HM3w := HM3.out w3 (Below.refl _ _)
        have HD3 : Hid (Nine w3.drew w.heap.size ⟨k1, i1, g1, n1, fn1, a1, by1, s1⟩ (.slice p1 m1 c1)) := Lib.hid (nine_drew HM3w)
        have hx3 : w.heap.size < w3.heap.size := Nat.lt_of_lt_of_le HW2.out HB23.out.size
        have hn30 : w.heap.size ≠ w3.heap.size := by omega
        have hn31 : w.heap.size ≠ w3.heap.size + 1 := by omega
        have hn32 : w.heap.size ≠ w3.heap.size + 1 + 1 := by omega
        have HD30 : Hid (Below w3.heap.size w3 w3.drew) := Lib.hid (belowD (Below.refl _ _))
        obtain ⟨x0, x1, x2, x3, x4, x5, x6, x7, x8, xz⟩ := HM3w
        dsimp only at x0 x1 x2 x3 x4 x5 x6 x7 x8
        have hbd3 := HD30.out
        go_cut [9, 10] from 45 to 54 (TwoRel2 (tupT L) w3)
        case first =>
          go_region_held3 (fun w' => w'.cell? ⟨w.heap.size, 0, none⟩ = some (.int .i64 k1) ∧ w'.cell? ⟨w.heap.size, 1, none⟩ = some (.int .i64 i1) ∧ w'.cell? ⟨w.heap.size, 2, none⟩ = some (.int .i64 g1) ∧ w'.cell? ⟨w.heap.size, 3, none⟩ = some (.string n1) ∧ w'.cell? ⟨w.heap.size, 4, none⟩ = some (.string fn1) ∧ w'.cell? ⟨w.heap.size, 5, none⟩ = some (.int .i64 a1) ∧ w'.cell? ⟨w.heap.size, 6, none⟩ = some (.slice p1 m1 c1) ∧ w'.cell? ⟨w.heap.size, 7, none⟩ = some (.string by1) ∧ w'.cell? ⟨w.heap.size, 8, none⟩ = some (.int .i64 s1) ∧ Below w3.heap.size w3 w') (((refine ⟨?_, ?_, ?_, ?_, ?_, ?_, ?_, ?_, ?_, ?_⟩) <;> (repeat' (first | with_reducible refine keep_alloc ?_ | with_reducible refine keep_drew ?_ | with_reducible refine keep_set ?_ ?_ | with_reducible refine belowA ?_ _ | with_reducible refine belowD ?_ | with_reducible refine Below.setCell ?_ ?_ _ | with_reducible assumption | with_reducible exact Below.refl _ _ | (dsimp only; omega)))))
            (first
              | (refine stepB (by rfl) (.tmp 46) (.tmp 47) (by rfl) _ rfl ?_ w3.heap.size w.heap.size ?_ HW3.out pl l.length cl l rfl rfl ?_ HD1.out ?_ ?_
                 · ((repeat' (first | with_reducible assumption | with_reducible refine blk_drew ?_ | with_reducible refine blk_new ?_ | with_reducible refine blk_alloc ?_ _ | (simp; done) | omega)); first | done | fail)
                 · first | omega | (simp; omega) | (simp; done)
                 · exact HIn3.out _ (by ((repeat' (first | with_reducible assumption | with_reducible refine belowD ?_ | with_reducible refine belowA ?_ _ | with_reducible exact Below.refl _ _)); first | done | fail))
                 · exact Below.size (by ((repeat' (first | with_reducible assumption | with_reducible refine belowD ?_ | with_reducible refine belowA ?_ _ | with_reducible exact Below.refl _ _)); first | done | fail))
                 intro p5 c5 w5 rs5 hr5 ho5 ht5
                 have HR5 := Lib.hid hr5
                 have hb5 : Below w3.heap.size w3 w5 := below_touch (by ((repeat' (first | with_reducible assumption | with_reducible refine belowD ?_ | with_reducible refine belowA ?_ _ | with_reducible exact Below.refl _ _)); first | done | fail)) ht5 (fun g hg => by first | omega | (simp at hg; omega))
                 have hl5 : w3.heap.size ≤ w5.heap.size := hb5.size
                 have hs5 := ht5.size
                 try simp at hs5
                 obtain ⟨b0, b1, b2, b3, b4, b5, b6, b7, b8, bz⟩ := HM3.out w5 hb5
                 dsimp only at b0 b1 b2 b3 b4 b5 b6 b7 b8
                 have HC5 := Lib.hid hb5
                 first
                   | (have hB5 : w5.heap[w3.heap.size]? = some (.cells #[.int .i64 k1, .int .i64 i1, .int .i64 g1, .string n1, .string fn1, .int .i64 a1, .slice p1 m1 c1, .string by1, .int .i64 s1] 24) := blk_touch (by ((repeat' (first | with_reducible assumption | with_reducible refine blk_drew ?_ | with_reducible refine blk_new ?_ | with_reducible refine blk_alloc ?_ _ | (simp; done) | omega)); first | done | fail)) ht5 (by first | omega | (simp; omega)); have HO5 := Lib.hid (ho5 (w3.heap.size) (by first | omega | (simp; done) | (simp; omega)) (by first | omega | (simp; omega))))
                   | (have hB5 : w5.heap[w3.heap.size + 1]? = some (.cells #[.int .i64 k1, .int .i64 i1, .int .i64 g1, .string n1, .string fn1, .int .i64 a1, .slice p1 m1 c1, .string by1, .int .i64 s1] 24) := blk_touch (by ((repeat' (first | with_reducible assumption | with_reducible refine blk_drew ?_ | with_reducible refine blk_new ?_ | with_reducible refine blk_alloc ?_ _ | (simp; done) | omega)); first | done | fail)) ht5 (by first | omega | (simp; omega)); have HO5 := Lib.hid (ho5 (w3.heap.size + 1) (by first | omega | (simp; done) | (simp; omega)) (by first | omega | (simp; omega))))
                   | (have hB5 : w5.heap[w3.heap.size + 1 + 1]? = some (.cells #[.int .i64 k1, .int .i64 i1, .int .i64 g1, .string n1, .string fn1, .int .i64 a1, .slice p1 m1 c1, .string by1, .int .i64 s1] 24) := blk_touch (by ((repeat' (first | with_reducible assumption | with_reducible refine blk_drew ?_ | with_reducible refine blk_new ?_ | with_reducible refine blk_alloc ?_ _ | (simp; done) | omega)); first | done | fail)) ht5 (by first | omega | (simp; omega)); have HO5 := Lib.hid (ho5 (w3.heap.size + 1 + 1) (by first | omega | (simp; done) | (simp; omega)) (by first | omega | (simp; omega))))
                   | skip
                 first
                   | (have hG5 : w5.heap[w3.heap.size]? = some (.cells #[.int .i64 0, .int .i64 0, .int .i64 0, .string ⟨#[]⟩, .string ⟨#[]⟩, .int .i64 0, .slice none 0 0, .string ⟨#[]⟩, .int .i64 0] 24) := blk_touch (by ((repeat' (first | with_reducible assumption | with_reducible refine blk_drew ?_ | with_reducible refine blk_new ?_ | with_reducible refine blk_alloc ?_ _ | (simp; done) | omega)); first | done | fail)) ht5 (by first | omega | (simp; omega)); have hz5 : w3.heap.size < w5.heap.size := (Array.getElem?_eq_some_iff.1 hG5).1; have HGO := Lib.hid (ho5 (w3.heap.size) (by first | omega | (simp; done) | (simp; omega)) (by first | omega | (simp; omega))); obtain ⟨ga0, ga1, ga2, ga3, ga4, ga5, ga6, ga7, ga8, gaz⟩ := nine_of (f := zeroF) (v := nilV) hG5; dsimp only [zeroF, nilV] at ga0 ga1 ga2 ga3 ga4 ga5 ga6 ga7 ga8)
                   | (have hG5 : w5.heap[w3.heap.size + 1]? = some (.cells #[.int .i64 0, .int .i64 0, .int .i64 0, .string ⟨#[]⟩, .string ⟨#[]⟩, .int .i64 0, .slice none 0 0, .string ⟨#[]⟩, .int .i64 0] 24) := blk_touch (by ((repeat' (first | with_reducible assumption | with_reducible refine blk_drew ?_ | with_reducible refine blk_new ?_ | with_reducible refine blk_alloc ?_ _ | (simp; done) | omega)); first | done | fail)) ht5 (by first | omega | (simp; omega)); have hz5 : w3.heap.size + 1 < w5.heap.size := (Array.getElem?_eq_some_iff.1 hG5).1; have HGO := Lib.hid (ho5 (w3.heap.size + 1) (by first | omega | (simp; done) | (simp; omega)) (by first | omega | (simp; omega))); obtain ⟨ga0, ga1, ga2, ga3, ga4, ga5, ga6, ga7, ga8, gaz⟩ := nine_of (f := zeroF) (v := nilV) hG5; dsimp only [zeroF, nilV] at ga0 ga1 ga2 ga3 ga4 ga5 ga6 ga7 ga8)
                   | (have hG5 : w5.heap[w3.heap.size + 1 + 1]? = some (.cells #[.int .i64 0, .int .i64 0, .int .i64 0, .string ⟨#[]⟩, .string ⟨#[]⟩, .int .i64 0, .slice none 0 0, .string ⟨#[]⟩, .int .i64 0] 24) := blk_touch (by ((repeat' (first | with_reducible assumption | with_reducible refine blk_drew ?_ | with_reducible refine blk_new ?_ | with_reducible refine blk_alloc ?_ _ | (simp; done) | omega)); first | done | fail)) ht5 (by first | omega | (simp; omega)); have hz5 : w3.heap.size + 1 + 1 < w5.heap.size := (Array.getElem?_eq_some_iff.1 hG5).1; have HGO := Lib.hid (ho5 (w3.heap.size + 1 + 1) (by first | omega | (simp; done) | (simp; omega)) (by first | omega | (simp; omega))); obtain ⟨ga0, ga1, ga2, ga3, ga4, ga5, ga6, ga7, ga8, gaz⟩ := nine_of (f := zeroF) (v := nilV) hG5; dsimp only [zeroF, nilV] at ga0 ga1 ga2 ga3 ga4 ga5 ga6 ga7 ga8)
                   | skip
                 clear hr5 ht5 ho5)
              | (refine stepD (u := .slice p1 m1 c1) (by rfl) (.tmp 48) (.tmp 50) (by rfl) w.heap.size rfl HR5.out ?_ _ rfl HTf.out ?_ ?_ HW3.out ?_ HD1.out ?_ ?_
                 · ((repeat' (first | with_reducible assumption | with_reducible refine belowD ?_ | with_reducible refine belowA ?_ _ | with_reducible exact Below.refl _ _)); first | done | fail)
                 · unfold cells9
                   dsimp only
                   ((repeat' (first | with_reducible assumption | with_reducible refine blk_drew ?_ | with_reducible refine blk_new ?_ | with_reducible refine blk_alloc ?_ _ | (simp; done) | omega)); first | done | fail)
                 · first | exact HO5.out | (intro e; have := own_block_lt HR5.out.own _ e; first | omega | (simp at this; done) | (simp at this; omega))
                 · exact HIt3.out _ (by ((repeat' (first | with_reducible assumption | with_reducible refine belowD ?_ | with_reducible refine belowA ?_ _ | with_reducible exact Below.refl _ _)); first | done | fail))
                 · exact Below.size (by ((repeat' (first | with_reducible assumption | with_reducible refine belowD ?_ | with_reducible refine belowA ?_ _ | with_reducible exact Below.refl _ _)); first | done | fail))
                 intro p6 c6 w6 rs6 hr6 ho6 ht6
                 rw [HLL.out] at hr6 ho6 ⊢
                 have HR6 := Lib.hid hr6
                 have hb6 : Below w3.heap.size w3 w6 := below_touch (by ((repeat' (first | with_reducible assumption | with_reducible refine belowD ?_ | with_reducible refine belowA ?_ _ | with_reducible exact Below.refl _ _)); first | done | fail)) ht6 (fun g hg => row_ge HR5.out g hg)
                 have hl6 : w5.heap.size ≤ w6.heap.size := by have := ht6.size; first | omega | (simp at this; omega)
                 have hs6 := ht6.size
                 try simp at hs6
                 obtain ⟨d0, d1, d2, d3, d4, d5, d6, d7, d8, dz⟩ := HM3.out w6 hb6
                 dsimp only at d0 d1 d2 d3 d4 d5 d6 d7 d8
                 have HC6 := Lib.hid hb6
                 have HE6 := Lib.hid (fun W (hb : Below w6.heap.size w6 W) => HTup.out W _ (.slice p6 L.length c6) (fun g hg => Nat.lt_of_lt_of_le (hg.elim (fun h => (HR6.out.inh g h).1) (fun h => own_block_lt HR6.out.own g h)) hb.size) (HR6.out.itemsIn.mono (fun g hg => hb.block g (hg.elim (fun h => (HR6.out.inh g h).1) (fun h => own_block_lt HR6.out.own g h))) (fun _ h => h)))
                 first
                   | (have hG6 : w6.heap[w3.heap.size]? = some (.cells #[.int .i64 0, .int .i64 0, .int .i64 0, .string ⟨#[]⟩, .string ⟨#[]⟩, .int .i64 0, .slice none 0 0, .string ⟨#[]⟩, .int .i64 0] 24) := blk_touch (by ((repeat' (first | with_reducible assumption | with_reducible refine blk_drew ?_ | with_reducible refine blk_new ?_ | with_reducible refine blk_alloc ?_ _ | (simp; done) | omega)); first | done | fail)) ht6 (by exact HGO.out); have hz6 : w3.heap.size < w6.heap.size := (Array.getElem?_eq_some_iff.1 hG6).1; have HGP := Lib.hid (ho6 (w3.heap.size) (by first | omega | (simp; done) | (simp; omega)) (by exact HGO.out)); obtain ⟨gb0, gb1, gb2, gb3, gb4, gb5, gb6, gb7, gb8, gbz⟩ := nine_of (f := zeroF) (v := nilV) hG6; dsimp only [zeroF, nilV] at gb0 gb1 gb2 gb3 gb4 gb5 gb6 gb7 gb8)
                   | (have hG6 : w6.heap[w3.heap.size + 1]? = some (.cells #[.int .i64 0, .int .i64 0, .int .i64 0, .string ⟨#[]⟩, .string ⟨#[]⟩, .int .i64 0, .slice none 0 0, .string ⟨#[]⟩, .int .i64 0] 24) := blk_touch (by ((repeat' (first | with_reducible assumption | with_reducible refine blk_drew ?_ | with_reducible refine blk_new ?_ | with_reducible refine blk_alloc ?_ _ | (simp; done) | omega)); first | done | fail)) ht6 (by exact HGO.out); have hz6 : w3.heap.size + 1 < w6.heap.size := (Array.getElem?_eq_some_iff.1 hG6).1; have HGP := Lib.hid (ho6 (w3.heap.size + 1) (by first | omega | (simp; done) | (simp; omega)) (by exact HGO.out)); obtain ⟨gb0, gb1, gb2, gb3, gb4, gb5, gb6, gb7, gb8, gbz⟩ := nine_of (f := zeroF) (v := nilV) hG6; dsimp only [zeroF, nilV] at gb0 gb1 gb2 gb3 gb4 gb5 gb6 gb7 gb8)
                   | (have hG6 : w6.heap[w3.heap.size + 1 + 1]? = some (.cells #[.int .i64 0, .int .i64 0, .int .i64 0, .string ⟨#[]⟩, .string ⟨#[]⟩, .int .i64 0, .slice none 0 0, .string ⟨#[]⟩, .int .i64 0] 24) := blk_touch (by ((repeat' (first | with_reducible assumption | with_reducible refine blk_drew ?_ | with_reducible refine blk_new ?_ | with_reducible refine blk_alloc ?_ _ | (simp; done) | omega)); first | done | fail)) ht6 (by exact HGO.out); have hz6 : w3.heap.size + 1 + 1 < w6.heap.size := (Array.getElem?_eq_some_iff.1 hG6).1; have HGP := Lib.hid (ho6 (w3.heap.size + 1 + 1) (by first | omega | (simp; done) | (simp; omega)) (by exact HGO.out)); obtain ⟨gb0, gb1, gb2, gb3, gb4, gb5, gb6, gb7, gb8, gbz⟩ := nine_of (f := zeroF) (v := nilV) hG6; dsimp only [zeroF, nilV] at gb0 gb1 gb2 gb3 gb4 gb5 gb6 gb7 gb8)
                   | (have hG6 : w6.heap[w5.heap.size]? = some (.cells #[.int .i64 0, .int .i64 0, .int .i64 0, .string ⟨#[]⟩, .string ⟨#[]⟩, .int .i64 0, .slice none 0 0, .string ⟨#[]⟩, .int .i64 0] 24) := blk_touch (by ((repeat' (first | with_reducible assumption | with_reducible refine blk_drew ?_ | with_reducible refine blk_new ?_ | with_reducible refine blk_alloc ?_ _ | (simp; done) | omega)); first | done | fail)) ht6 (by intro e; have := own_block_lt HR5.out.own _ e; first | omega | (simp at this; done) | (simp at this; omega)); have hz6 : w5.heap.size < w6.heap.size := (Array.getElem?_eq_some_iff.1 hG6).1; have HGP := Lib.hid (ho6 (w5.heap.size) (by first | omega | (simp; done) | (simp; omega)) (by intro e; have := own_block_lt HR5.out.own _ e; first | omega | (simp at this; done) | (simp at this; omega))); obtain ⟨gb0, gb1, gb2, gb3, gb4, gb5, gb6, gb7, gb8, gbz⟩ := nine_of (f := zeroF) (v := nilV) hG6; dsimp only [zeroF, nilV] at gb0 gb1 gb2 gb3 gb4 gb5 gb6 gb7 gb8)
                   | (have hG6 : w6.heap[w5.heap.size + 1]? = some (.cells #[.int .i64 0, .int .i64 0, .int .i64 0, .string ⟨#[]⟩, .string ⟨#[]⟩, .int .i64 0, .slice none 0 0, .string ⟨#[]⟩, .int .i64 0] 24) := blk_touch (by ((repeat' (first | with_reducible assumption | with_reducible refine blk_drew ?_ | with_reducible refine blk_new ?_ | with_reducible refine blk_alloc ?_ _ | (simp; done) | omega)); first | done | fail)) ht6 (by intro e; have := own_block_lt HR5.out.own _ e; first | omega | (simp at this; done) | (simp at this; omega)); have hz6 : w5.heap.size + 1 < w6.heap.size := (Array.getElem?_eq_some_iff.1 hG6).1; have HGP := Lib.hid (ho6 (w5.heap.size + 1) (by first | omega | (simp; done) | (simp; omega)) (by intro e; have := own_block_lt HR5.out.own _ e; first | omega | (simp at this; done) | (simp at this; omega))); obtain ⟨gb0, gb1, gb2, gb3, gb4, gb5, gb6, gb7, gb8, gbz⟩ := nine_of (f := zeroF) (v := nilV) hG6; dsimp only [zeroF, nilV] at gb0 gb1 gb2 gb3 gb4 gb5 gb6 gb7 gb8)
                   | skip
                 clear hr6 ht6 ho6)
              | (go_at_call 32
                 (with_reducible refine (HE6.out _ ?_).mono ?_)
                 · ((repeat' (first | with_reducible assumption | with_reducible refine belowD ?_ | with_reducible refine belowA ?_ _ | with_reducible exact Below.refl _ _)); first | done | fail)
                 rintro e w7 ⟨f7, q7, m7, c7, k7, rfl, hb7, hk7⟩
                 have HK7 := Lib.hid hk7
                 have hb7' : Below w3.heap.size w3 w7 := Below.trans (by ((repeat' (first | with_reducible assumption | with_reducible refine belowD ?_ | with_reducible refine belowA ?_ _ | with_reducible exact Below.refl _ _)); first | done | fail)) (hb7.mono (Below.size (by ((repeat' (first | with_reducible assumption | with_reducible refine belowD ?_ | with_reducible refine belowA ?_ _ | with_reducible exact Below.refl _ _)); first | done | fail))))
                 have hl7 : w6.heap.size ≤ w7.heap.size := by have := hb7.size; first | omega | (simp at this; omega)
                 obtain ⟨e0, e1, e2, e3, e4, e5, e6, e7, e8, ez⟩ := HM3.out w7 hb7'
                 dsimp only at e0 e1 e2 e3 e4 e5 e6 e7 e8
                 have HC7 := Lib.hid hb7'
                 obtain ⟨k7k, i7, g7, n7, fn7, a7, by7, s7⟩ := f7
                 unfold aggV
                 dsimp only
                 first
                   | (have hG7 : w7.heap[w3.heap.size]? = some (.cells #[.int .i64 0, .int .i64 0, .int .i64 0, .string ⟨#[]⟩, .string ⟨#[]⟩, .int .i64 0, .slice none 0 0, .string ⟨#[]⟩, .int .i64 0] 24) := blk_below (by ((repeat' (first | with_reducible assumption | with_reducible refine blk_drew ?_ | with_reducible refine blk_new ?_ | with_reducible refine blk_alloc ?_ _ | (simp; done) | omega)); first | done | fail)) hb7; have hz7 : w3.heap.size < w7.heap.size := (Array.getElem?_eq_some_iff.1 hG7).1; have HGQ := Lib.hid (HGP.out); obtain ⟨gc0, gc1, gc2, gc3, gc4, gc5, gc6, gc7, gc8, gcz⟩ := nine_of (f := zeroF) (v := nilV) hG7; dsimp only [zeroF, nilV] at gc0 gc1 gc2 gc3 gc4 gc5 gc6 gc7 gc8)
                   | (have hG7 : w7.heap[w3.heap.size + 1]? = some (.cells #[.int .i64 0, .int .i64 0, .int .i64 0, .string ⟨#[]⟩, .string ⟨#[]⟩, .int .i64 0, .slice none 0 0, .string ⟨#[]⟩, .int .i64 0] 24) := blk_below (by ((repeat' (first | with_reducible assumption | with_reducible refine blk_drew ?_ | with_reducible refine blk_new ?_ | with_reducible refine blk_alloc ?_ _ | (simp; done) | omega)); first | done | fail)) hb7; have hz7 : w3.heap.size + 1 < w7.heap.size := (Array.getElem?_eq_some_iff.1 hG7).1; have HGQ := Lib.hid (HGP.out); obtain ⟨gc0, gc1, gc2, gc3, gc4, gc5, gc6, gc7, gc8, gcz⟩ := nine_of (f := zeroF) (v := nilV) hG7; dsimp only [zeroF, nilV] at gc0 gc1 gc2 gc3 gc4 gc5 gc6 gc7 gc8)
                   | (have hG7 : w7.heap[w3.heap.size + 1 + 1]? = some (.cells #[.int .i64 0, .int .i64 0, .int .i64 0, .string ⟨#[]⟩, .string ⟨#[]⟩, .int .i64 0, .slice none 0 0, .string ⟨#[]⟩, .int .i64 0] 24) := blk_below (by ((repeat' (first | with_reducible assumption | with_reducible refine blk_drew ?_ | with_reducible refine blk_new ?_ | with_reducible refine blk_alloc ?_ _ | (simp; done) | omega)); first | done | fail)) hb7; have hz7 : w3.heap.size + 1 + 1 < w7.heap.size := (Array.getElem?_eq_some_iff.1 hG7).1; have HGQ := Lib.hid (HGP.out); obtain ⟨gc0, gc1, gc2, gc3, gc4, gc5, gc6, gc7, gc8, gcz⟩ := nine_of (f := zeroF) (v := nilV) hG7; dsimp only [zeroF, nilV] at gc0 gc1 gc2 gc3 gc4 gc5 gc6 gc7 gc8)
                   | (have hG7 : w7.heap[w5.heap.size]? = some (.cells #[.int .i64 0, .int .i64 0, .int .i64 0, .string ⟨#[]⟩, .string ⟨#[]⟩, .int .i64 0, .slice none 0 0, .string ⟨#[]⟩, .int .i64 0] 24) := blk_below (by ((repeat' (first | with_reducible assumption | with_reducible refine blk_drew ?_ | with_reducible refine blk_new ?_ | with_reducible refine blk_alloc ?_ _ | (simp; done) | omega)); first | done | fail)) hb7; have hz7 : w5.heap.size < w7.heap.size := (Array.getElem?_eq_some_iff.1 hG7).1; have HGQ := Lib.hid (HGP.out); obtain ⟨gc0, gc1, gc2, gc3, gc4, gc5, gc6, gc7, gc8, gcz⟩ := nine_of (f := zeroF) (v := nilV) hG7; dsimp only [zeroF, nilV] at gc0 gc1 gc2 gc3 gc4 gc5 gc6 gc7 gc8)
                   | (have hG7 : w7.heap[w5.heap.size + 1]? = some (.cells #[.int .i64 0, .int .i64 0, .int .i64 0, .string ⟨#[]⟩, .string ⟨#[]⟩, .int .i64 0, .slice none 0 0, .string ⟨#[]⟩, .int .i64 0] 24) := blk_below (by ((repeat' (first | with_reducible assumption | with_reducible refine blk_drew ?_ | with_reducible refine blk_new ?_ | with_reducible refine blk_alloc ?_ _ | (simp; done) | omega)); first | done | fail)) hb7; have hz7 : w5.heap.size + 1 < w7.heap.size := (Array.getElem?_eq_some_iff.1 hG7).1; have HGQ := Lib.hid (HGP.out); obtain ⟨gc0, gc1, gc2, gc3, gc4, gc5, gc6, gc7, gc8, gcz⟩ := nine_of (f := zeroF) (v := nilV) hG7; dsimp only [zeroF, nilV] at gc0 gc1 gc2 gc3 gc4 gc5 gc6 gc7 gc8)
                   | (have hG7 : w7.heap[w6.heap.size]? = some (.cells #[.int .i64 0, .int .i64 0, .int .i64 0, .string ⟨#[]⟩, .string ⟨#[]⟩, .int .i64 0, .slice none 0 0, .string ⟨#[]⟩, .int .i64 0] 24) := blk_below (by ((repeat' (first | with_reducible assumption | with_reducible refine blk_drew ?_ | with_reducible refine blk_new ?_ | with_reducible refine blk_alloc ?_ _ | (simp; done) | omega)); first | done | fail)) hb7; have hz7 : w6.heap.size < w7.heap.size := (Array.getElem?_eq_some_iff.1 hG7).1; have HGQ := Lib.hid ((fun e => Nat.lt_irrefl _ (own_block_lt HR6.out.own _ e) : (Value.slice p6 L.length c6).ownBlock ≠ some w6.heap.size)); obtain ⟨gc0, gc1, gc2, gc3, gc4, gc5, gc6, gc7, gc8, gcz⟩ := nine_of (f := zeroF) (v := nilV) hG7; dsimp only [zeroF, nilV] at gc0 gc1 gc2 gc3 gc4 gc5 gc6 gc7 gc8)
                   | skip
                 clear hb7 hk7))
          all_goals
            go_wp2_with fail
            go_meet
            first
              | with_reducible exact leafB ⟨k7k, i7, g7, n7, fn7, a7, by7, s7⟩ hb7' HK7.out
              | (with_reducible refine leafA ⟨k7k, i7, g7, n7, fn7, a7, by7, s7⟩ hG7 ?_ ?_ hb7' HK7.out
                 · first | omega | (simp; omega)
                 · (intro h; rcases h with ((h | h) | h) | h <;> first | omega | exact HGQ.out h | (simp at h; done) | (simp at h; omega)))
        case rest =>
          obtain ⟨z9, f9, p9, m9, c9, k9, rfl, rfl, hN9, hlt9, hge9, hb9, hK9⟩ := hcut
          obtain ⟨va, rfl⟩ : ∃ x : World, x = wc := ⟨_, rfl⟩
          have HN9 := Lib.hid hN9
          have HB9 := Lib.hid hb9
          have HK9 := Lib.hid hK9
          have HL9 := Lib.hid hlt9
          have HIm := Lib.hid (fun W (hb : Below w3.heap.size w3 W) => (HRm.out.items.below hb (Nat.le_refl _)).in_)
          obtain ⟨ls, hls⟩ : ∃ ls, l.set k t = ls := ⟨_, rfl⟩
          have HLs := Lib.hid hls
          have HNs : Hid (nodesL (n + 1) ls ≤ 12000) := Lib.hid (by rw [← hls]; have := nodes_set t l k; omega)
          have HKl : Hid (k < l.length) := Lib.hid hk
          have HNl : Hid (nodesL (n + 1) l ≤ 6000) := Lib.hid hn1'
          have HNt : Hid (nodesT t ≤ 6000) := Lib.hid hn2'
          have HLn : Hid (ls.length = l.length) := Lib.hid (by rw [← hls, List.length_set])
          rw [hls] at HIm
          have HTl := Lib.hid (fun W (hb : Below w3.heap.size w3 W) => tuple32 W (fun g => g < w.heap.size) (.slice pl l.length cl) l (fun g hg => Nat.lt_of_lt_of_le hg (HB0W.out W hb).size) (HIn3.out W hb) (by have := HNl.out; omega))
          have HTm := Lib.hid (fun W (hb : Below w3.heap.size w3 W) => tuple32 W (fun g => g < w3.heap.size) _ ls (fun g hg => Nat.lt_of_lt_of_le hg hb.size) (HIm.out W hb) (by have := HNs.out; omega))
          have HLl := Lib.hid (fun W (hb : Below w3.heap.size w3 W) => list33 W (fun g => g < w.heap.size) (.slice pl l.length cl) l (fun g hg => Nat.lt_of_lt_of_le hg (HB0W.out W hb).size) (HIn3.out W hb) (by have := HNl.out; omega) (by omega))
          have HLm := Lib.hid (fun W (hb : Below w3.heap.size w3 W) => list33 W (fun g => g < w3.heap.size) _ ls (fun g hg => Nat.lt_of_lt_of_le hg hb.size) (HIm.out W hb) (by have := HNs.out; omega) (by rw [HLn.out]; omega))
          have HTlc := Lib.hid (HTl.out va hb9)
          unfold MkPost at HTl HTm HLl HLm HTlc
          clear hN9 hlt9 hge9 hb9 hK9 hls HTl HTup HRm HIt3 HD1 x0 x1 x2 x3 x4 x5 x6 x7 x8 xz hbd3 HD3 HD30 hn30 hn31 hn32 HB23 HM5
          go_wp2_with fail
          refine HTlc.out.mono ?_
          rintro e wd ⟨f11, p11, m11, c11, k11, rfl, hb11, hk11⟩
          have HB11 := Lib.hid (HB9.out.trans (hb11.mono HB9.out.size))
          have HC11 := Lib.hid hb11
          have HK11 := Lib.hid hk11
          obtain ⟨kB, iB, gB, nB, fnB, aB, byB, sB⟩ := f11
          unfold aggV
          dsimp only
          clear hb11 hk11 HTlc
          go_upto_region 10 with fail
          obtain ⟨hNe, hbe, hze⟩ := box_one wd ⟨kB, iB, gB, nB, fnB, aB, byB, sB⟩ (.slice p11 m11 c11)
          have hxe := (MapKept.heap_alloc wd (cells9 ⟨kB, iB, gB, nB, fnB, aB, byB, sB⟩ (.slice p11 m11 c11))).1
          unfold cells9 at hNe hbe hze hxe
          dsimp only at hNe hbe hze hxe
          have HB3e := Lib.hid (HB11.out.trans (hbe.mono HB11.out.size))
          have HBce := Lib.hid (HC11.out.trans (hbe.mono HC11.out.size))
          have HMl := Lib.hid ((MadeIn.of HK11.out).below hbe)
          have HX11 := Lib.hid hxe
          have HZ11 : Hid (w3.heap.size ≤ wd.heap.size) := Lib.hid HB11.out.size
          have HY11 := Lib.hid hze
          have HNe := Lib.hid hNe
          clear hNe hbe hze hxe
          generalize (wd.alloc (.cells #[.int .i64 kB, .int .i64 iB, .int .i64 gB, .string nB, .string fnB, .int .i64 aB, .slice p11 m11 c11, .string byB, .int .i64 sB] 24)) = we at *
          generalize wd.heap.size = z11 at *
          have HM9e := Lib.hid (HK9.out.below HBce.out)
          have HC10 := Lib.hid (HMl.out.cmp HM9e.out (by have := HNl.out; show 1 + nodesL (n + 1) l ≤ _; omega) (by have := HNd.out; show 1 + nodesL (n + 1) L ≤ _; omega) (r := -1) (fun v1 v2 => by rw [← HLL.out] at v2 ⊢; exact tup_more l t v1 v2))
          have hN9e := HN9.out.below HBce.out HL9.out
          obtain ⟨hX0, hX1, hX2, hX3, hX4, hX5, hX6, hX7, hX8, hXz⟩ := hN9e
          obtain ⟨hY0, hY1, hY2, hY3, hY4, hY5, hY6, hY7, hY8, hYz⟩ := HNe.out
          obtain ⟨kA, iA, gA9, nA, fnA, aA, byA, sA⟩ := f9
          dsimp only at hX0 hX1 hX2 hX3 hX4 hX5 hX6 hX7 hX8 hY0 hY1 hY2 hY3 hY4 hY5 hY6 hY7 hY8
          unfold IPostC at HC10
          unfold aggV at HC10
          dsimp only at HC10
          go_cut [71] from 60 to 71 (fun v wx => v = .bool false ∧ Below we.heap.size we wx)
          case first =>
            by_cases q9 : k9 = 0
            · have HCa := Lib.hid (fun h => HC10.out h q9)
              subst q9
              by_cases q11 : k11 = 0
              · have HCc := Lib.hid (HCa.out q11)
                subst q11
                go_wp2_with fail
                refine (HCc.out _ (Below.refl _ _)).mono ?_
                rintro e wf ⟨rfl, hbf⟩
                have HBf := Lib.hid hbf
                clear hbf
                go_wp2_with fail
                go_meet
                exact ⟨rfl, HBf.out⟩
              · have b11 : (k11 == 0) = false := by simpa using q11
                go_wp2_with fail
                go_meet
                exact ⟨rfl, Below.refl _ _⟩
            · have b9 : (k9 == 0) = false := by simpa using q9
              go_wp2_with fail
              go_meet
              exact ⟨rfl, Below.refl _ _⟩
          case rest =>
            obtain ⟨rfl, hbf⟩ := hcut
            obtain ⟨wf, rfl⟩ : ∃ wf : World, wf = wc := ⟨_, rfl⟩
            have HB3f := Lib.hid (HB3e.out.trans (hbf.mono HB3e.out.size))
            have HX11f := Lib.hid (blk_below HX11.out hbf)
            have HMlf := Lib.hid (HMl.out.below hbf)
            have HY11f := Lib.hid (Nat.lt_of_lt_of_le HY11.out hbf.size)
            clear hbf HX11 HMl HM9e HC10 HB3e HBce HNe HY11 HN9 HK9 HB9 HL9 HK11 HC11 HB11 hX0 hX1 hX2 hX3 hX4 hX5 hX6 hX7 hX8 hXz hY0 hY1 hY2 hY3 hY4 hY5 hY6 hY7 hY8 hYz HLL HNd
            obtain ⟨gA, oA, rfl, hgA⟩ := (HIL.out wf (HB0W.out wf HB3f.out)).addr (by omega)
            obtain ⟨t2, x2, p22, m22, c22, hA2, hf2, hC2, hI2⟩ := (HIL.out wf (HB0W.out wf HB3f.out)).elt k hk
            have hbD : Below w.heap.size w wf.drew := (HB0W.out wf HB3f.out).drewN 1
            have hbD0 : Below wf.heap.size wf wf.drew := (Below.refl _ _).drewN 1
            obtain ⟨hlk, hAe⟩ := List.getElem?_eq_some_iff.1 hA2
            have hn2 := nodes_get hA2
            have hCm := Compare wf.drew wf.drew.heap.size _ _ t2 t (Nat.le_refl _) ((hI2.below hbD0 (HB0W.out wf HB3f.out).size).more hbD.size) ((HI1.out wf.drew hbD).more hbD.size) (by omega) (by omega)
            obtain ⟨r, hr⟩ : ∃ r, cmpV t2 t = r := ⟨_, rfl⟩
            rw [hr, hf2, HTf.out] at hCm
            have HSet := Lib.hid (fun (h : r < 0) => show cmpV (l[k]'hk) t < 0 by rw [hAe, hr]; exact h)
            have HCm := Lib.hid hCm
            have HBD : Hid (Below w3.heap.size w3 wf.drew) := Lib.hid (HB3f.out.drewN 1)
            have HXD := Lib.hid (blk_below HX11f.out hbD0)
            have HMD := Lib.hid (HMlf.out.below hbD0)
            have HYD : Hid (z11 < wf.drew.heap.size) := Lib.hid (Nat.lt_of_lt_of_le HY11f.out hbD0.size)
            obtain ⟨x0, x1, x2', x3, x4, x5, x6, x7, x8, xz⟩ := HM3.out wf HB3f.out
            obtain ⟨kE, iE, gE, nE, fnE, aE, byE, sE⟩ := x2
            obtain ⟨y0, y1, y2, y3, y4, y5, y6, y7, y8⟩ := hC2
            dsimp only at x0 x1 x2' x3 x4 x5 x6 x7 x8 y0 y1 y2 y3 y4 y5 y6 y7 y8
            unfold IPostC aggV at HCm
            dsimp only at HCm
            clear hA2 hf2 hI2 hbD hbD0 hlk hAe hn2 hCm hr
            have r1 : (k : Int) < (l.length : Int) := by omega
            have r3 : (0 : Int) ≤ (k : Int) := by omega
            go_wp2_with fail
            go_still_tail 5, (by kernel_rfl)
            change wpList _ _ _ _ _ wf.drew
            clear x0 x1 x2' x3 x4 x5 x6 x7 x8 xz y0 y1 y2 y3 y4 y5 y6 y7 y8 HB3f HX11f HMlf HY11f
            generalize wf.drew = wg at *
            go_wp2_with fail
            refine HCm.out.mono ?_
            rintro e wh ⟨rfl, hbh⟩
            have HBh := Lib.hid (HBD.out.trans (hbh.mono HBD.out.size))
            have HXh := Lib.hid (blk_below HXD.out hbh)
            have HMh := Lib.hid (HMD.out.below hbh)
            have HYh := Lib.hid (Nat.lt_of_lt_of_le HYD.out hbh.size)
            have HTmh := Lib.hid (HTm.out wh HBh.out)
            clear hbh HCm HBD HXD HMD HYD HTm
            by_cases hr0 : 0 ≤ r
            · have q0 : decide (0 ≤ r) = true := decide_eq_true hr0
              have HBe := Lib.hid (HB0W.out wh HBh.out)
              go_wp2_with fail
              go_ret
              exact ⟨rfl, HBe.out⟩
            have hrn : r < 0 := by omega
            have q0 : decide (0 ≤ r) = false := decide_eq_false hr0
            have HSt := Lib.hid (HSet.out hrn)
            clear HSet
            go_wp2_with fail
            refine HTmh.out.mono ?_
            rintro e wi ⟨f13, p13, m13, c13, k13, rfl, hb13, hk13⟩
            have HBi := Lib.hid (HBh.out.trans (hb13.mono HBh.out.size))
            have HXi := Lib.hid (blk_below HXh.out hb13)
            have HMi := Lib.hid (HMh.out.below hb13)
            have HYi := Lib.hid (Nat.lt_of_lt_of_le HYh.out hb13.size)
            have HK13 := Lib.hid hk13
            obtain ⟨kC, iC, gC, nC, fnC, aC, byC, sC⟩ := f13
            unfold aggV
            dsimp only
            clear hb13 hk13 HTmh HBh HXh HMh HYh
            go_upto_region 15 with fail
            obtain ⟨hNj, hbj, hzj⟩ := box_one wi ⟨kC, iC, gC, nC, fnC, aC, byC, sC⟩ (.slice p13 m13 c13)
            have hxj := (MapKept.heap_alloc wi (cells9 ⟨kC, iC, gC, nC, fnC, aC, byC, sC⟩ (.slice p13 m13 c13))).1
            unfold cells9 at hNj hbj hzj hxj
            dsimp only at hNj hbj hzj hxj
            have HBj := Lib.hid (HBi.out.trans (hbj.mono HBi.out.size))
            have HXj := Lib.hid (blk_below HXi.out hbj)
            have HMj := Lib.hid (HMi.out.below hbj)
            have HYj := Lib.hid (Nat.lt_of_lt_of_le HYi.out hbj.size)
            have HM13 := Lib.hid ((MadeIn.of HK13.out).below hbj)
            have HX13 := Lib.hid hxj
            have HZ13 : Hid (z11 < wi.heap.size) := HYi
            have HZw13 : Hid (w3.heap.size ≤ wi.heap.size) := Lib.hid HBi.out.size
            have HY13 := Lib.hid hzj
            have HNj := Lib.hid hNj
            clear hNj hbj hzj hxj HBi HXi HMi HK13
            generalize (wi.alloc (.cells #[.int .i64 kC, .int .i64 iC, .int .i64 gC, .string nC, .string fnC, .int .i64 aC, .slice p13 m13 c13, .string byC, .int .i64 sC] 24)) = wj at *
            generalize wi.heap.size = z13 at *
            have HC15 := Lib.hid (HMj.out.cmp HM13.out (by have := HNl.out; show 1 + nodesL (n + 1) l ≤ _; omega) (by have := HNs.out; show 1 + nodesL (n + 1) ls ≤ _; omega) (r := -1) (fun v1 v2 => by rw [← HLs.out] at v2 ⊢; exact tup_set l k t hk v1 v2 HSt.out))
            have hNl := nine_of (f := ⟨kB, iB, gB, nB, fnB, aB, byB, sB⟩) (v := (.slice p11 m11 c11)) HXj.out
            obtain ⟨hX0, hX1, hX2, hX3, hX4, hX5, hX6, hX7, hX8, hXz⟩ := hNl
            obtain ⟨hY0, hY1, hY2, hY3, hY4, hY5, hY6, hY7, hY8, hYz⟩ := HNj.out
            dsimp only at hX0 hX1 hX2 hX3 hX4 hX5 hX6 hX7 hX8 hY0 hY1 hY2 hY3 hY4 hY5 hY6 hY7 hY8
            unfold IPostC at HC15
            unfold aggV at HC15
            dsimp only at HC15
            go_cut [95] from 84 to 95 (fun v wx => v = .bool false ∧ Below wj.heap.size wj wx)
            case first =>
              by_cases q11 : k11 = 0
              · have HCa := Lib.hid (HC15.out q11)
                subst q11
                by_cases q13 : k13 = 0
                · have HCc := Lib.hid (HCa.out q13)
                  subst q13
                  go_wp2_with fail
                  refine (HCc.out _ (Below.refl _ _)).mono ?_
                  rintro e wf2 ⟨rfl, hbf⟩
                  have HBf := Lib.hid hbf
                  clear hbf
                  go_wp2_with fail
                  go_meet
                  exact ⟨rfl, HBf.out⟩
                · have b13 : (k13 == 0) = false := by simpa using q13
                  go_wp2_with fail
                  go_meet
                  exact ⟨rfl, Below.refl _ _⟩
              · have b11 : (k11 == 0) = false := by simpa using q11
                go_wp2_with fail
                go_meet
                exact ⟨rfl, Below.refl _ _⟩
            case rest =>
              obtain ⟨rfl, hbk⟩ := hcut
              obtain ⟨wk, rfl⟩ : ∃ wk : World, wk = wc := ⟨_, rfl⟩
              have HBk := Lib.hid (HBj.out.trans (hbk.mono HBj.out.size))
              have HX11k := Lib.hid (blk_below HXj.out hbk)
              have HX13k := Lib.hid (blk_below HX13.out hbk)
              have HY13k := Lib.hid (Nat.lt_of_lt_of_le HY13.out hbk.size)
              have HNil := Lib.hid (nil34 wk)
              unfold VPost at HNil
              unfold aggV nilF nilV at HNil HLl HLm
              dsimp only at HNil HLl HLm
              clear hbk HBj HXj HMj HYj HM13 HX13 HY13 HNj HC15 hX0 hX1 hX2 hX3 hX4 hX5 hX6 hX7 hX8 hXz hY0 hY1 hY2 hY3 hY4 hY5 hY6 hY7 hY8 hYz
              go_wp2_with fail
              refine HNil.out.mono ?_
              rintro e wl ⟨rfl, hbl⟩
              have HBl := Lib.hid (HBk.out.trans (hbl.mono HBk.out.size))
              have HX11l := Lib.hid (blk_below HX11k.out hbl)
              have HX13l := Lib.hid (blk_below HX13k.out hbl)
              have HY13l := Lib.hid (Nat.lt_of_lt_of_le HY13k.out hbl.size)
              have HLlw := Lib.hid (HLl.out wl HBl.out)
              clear hbl HNil HBk HX11k HX13k HY13k HLl
              go_wp2_with fail
              refine HLlw.out.mono ?_
              rintro e wm ⟨f17, p17, m17, c17, k17, rfl, hb17, hk17⟩
              have HBm := Lib.hid (HBl.out.trans (hb17.mono HBl.out.size))
              have HX11m := Lib.hid (blk_below HX11l.out hb17)
              have HX13m := Lib.hid (blk_below HX13l.out hb17)
              have HY13m := Lib.hid (Nat.lt_of_lt_of_le HY13l.out hb17.size)
              have HM17 := Lib.hid (MadeIn.of hk17)
              obtain ⟨kD, iD, gD, nD, fnD, aD, byD, sD⟩ := f17
              dsimp only
              have hNl := nine_of (f := ⟨kB, iB, gB, nB, fnB, aB, byB, sB⟩) (v := (.slice p11 m11 c11)) HX11m.out
              obtain ⟨hX0, hX1, hX2, hX3, hX4, hX5, hX6, hX7, hX8, hXz⟩ := hNl
              dsimp only at hX0 hX1 hX2 hX3 hX4 hX5 hX6 hX7 hX8
              clear hb17 hk17 HLlw HBl HX11l HX13l
              go_upto_region 18 with fail
              obtain ⟨hN, ht, hb⟩ := store_slot (B := w3.heap.size) ⟨kD, iD, gD, nD, fnD, aD, byD, sD⟩ (.slice p17 m17 c17) (f0 := ⟨kB, iB, gB, nB, fnB, aB, byB, sB⟩) (v0 := (.slice p11 m11 c11)) HX11m.out HZ11.out
              dsimp only at hN ht hb
              have HN11 := Lib.hid hN
              have HBn := Lib.hid (HBm.out.trans hb)
              have HM17n := Lib.hid (HM17.out.touch ht (by have := HZ11.out; have := HW3.out; have := HZ13.out; have := HY13l.out; omega))
              have HX13n := Lib.hid (blk_touch HX13m.out ht (by have := HZ13.out; omega))
              have HY13n := Lib.hid (Nat.lt_of_lt_of_le HY13m.out ht.size)
              have HY11n : Hid (z11 < _) := Lib.hid (Nat.lt_of_lt_of_le (Nat.lt_trans HZ13.out HY13m.out) ht.size)
              clear hN ht hb hX0 hX1 hX2 hX3 hX4 hX5 hX6 hX7 hX8 hXz HBm HM17 HX11m HX13m HY13m
              generalize (((((((((wm.setCell ⟨z11, 0, none⟩ (.int .i64 kD)).setCell ⟨z11, 1, none⟩ (.int .i64 iD)).setCell ⟨z11, 2, none⟩ (.int .i64 gD)).setCell ⟨z11, 3, none⟩ (.string nD)).setCell ⟨z11, 4, none⟩ (.string fnD)).setCell ⟨z11, 5, none⟩ (.int .i64 aD)).setCell ⟨z11, 6, none⟩ (.slice p17 m17 c17)).setCell ⟨z11, 7, none⟩ (.string byD)).setCell ⟨z11, 8, none⟩ (.int .i64 sD)) = wn at *
              have HNil := Lib.hid (nil34 wn)
              unfold VPost at HNil
              unfold aggV nilF nilV at HNil
              dsimp only at HNil
              go_wp2_with fail
              refine HNil.out.mono ?_
              rintro e wo ⟨rfl, hbo⟩
              have HBo := Lib.hid (HBn.out.trans (hbo.mono HBn.out.size))
              have HNo := Lib.hid (HN11.out.below hbo HY11n.out)
              have HX13o := Lib.hid (blk_below HX13n.out hbo)
              have HY13o := Lib.hid (Nat.lt_of_lt_of_le HY13n.out hbo.size)
              have HY11o := Lib.hid (Nat.lt_of_lt_of_le HY11n.out hbo.size)
              have HM17o := Lib.hid (HM17n.out.below hbo)
              have HLmw := Lib.hid (HLm.out wo HBo.out)
              clear hbo HNil HBn HN11 HX13n HY13n HY11n HM17n HLm
              go_wp2_with fail
              refine HLmw.out.mono ?_
              rintro e wp ⟨f18, p18, m18, c18, k18, rfl, hb18, hk18⟩
              have HBp := Lib.hid (HBo.out.trans (hb18.mono HBo.out.size))
              have HNp := Lib.hid (HNo.out.below hb18 HY11o.out)
              have HX13p := Lib.hid (blk_below HX13o.out hb18)
              have HY13p := Lib.hid (Nat.lt_of_lt_of_le HY13o.out hb18.size)
              have HM17p := Lib.hid (HM17o.out.below hb18)
              have HM18 := Lib.hid (MadeIn.of hk18)
              obtain ⟨kE2, iE2, gE2, nE2, fnE2, aE2, byE2, sE2⟩ := f18
              dsimp only
              have hNl := nine_of (f := ⟨kC, iC, gC, nC, fnC, aC, byC, sC⟩) (v := (.slice p13 m13 c13)) HX13p.out
              obtain ⟨hX0, hX1, hX2, hX3, hX4, hX5, hX6, hX7, hX8, hXz⟩ := hNl
              dsimp only at hX0 hX1 hX2 hX3 hX4 hX5 hX6 hX7 hX8
              clear hb18 hk18 HLmw HBo HNo HX13o HM17o
              go_upto_region 19 with fail
              obtain ⟨hN, ht, hb⟩ := store_slot (B := w3.heap.size) ⟨kE2, iE2, gE2, nE2, fnE2, aE2, byE2, sE2⟩ (.slice p18 m18 c18) (f0 := ⟨kC, iC, gC, nC, fnC, aC, byC, sC⟩) (v0 := (.slice p13 m13 c13)) HX13p.out HZw13.out
              have hk := nine_ksets ⟨kE2, iE2, gE2, nE2, fnE2, aE2, byE2, sE2⟩ (.slice p18 m18 c18) HNp.out (show z11 ≠ z13 by have := HZ13.out; omega)
              dsimp only at hN ht hb hk
              have HN13 := Lib.hid hN
              have HN11 := Lib.hid hk
              have HBq := Lib.hid (HBp.out.trans hb)
              have HM17q := Lib.hid (HM17p.out.touch ht (by have := HZw13.out; have := HW3.out; have := HY13l.out; omega))
              have HM18q := Lib.hid (HM18.out.touch ht (by have := HZw13.out; have := HY13o.out; omega))
              clear hN ht hb hk hX0 hX1 hX2 hX3 hX4 hX5 hX6 hX7 hX8 hXz HBp HM17p HM18 HX13p HY13p HNp
              generalize (((((((((wp.setCell ⟨z13, 0, none⟩ (.int .i64 kE2)).setCell ⟨z13, 1, none⟩ (.int .i64 iE2)).setCell ⟨z13, 2, none⟩ (.int .i64 gE2)).setCell ⟨z13, 3, none⟩ (.string nE2)).setCell ⟨z13, 4, none⟩ (.string fnE2)).setCell ⟨z13, 5, none⟩ (.int .i64 aE2)).setCell ⟨z13, 6, none⟩ (.slice p18 m18 c18)).setCell ⟨z13, 7, none⟩ (.string byE2)).setCell ⟨z13, 8, none⟩ (.int .i64 sE2)) = wq at *
              have HC19 := Lib.hid (HM17q.out.cmp HM18q.out (by have := HNl.out; show 1 + nodesL (n + 1) (l ++ [nilT]) ≤ _; rw [nodesL_append, nodesL_cons]; have : nodesL (n + 1) ([] : List (Tm (n + 1))) = 0 := rfl; have : nodesT (nilT (n := n)) = 1 := nodes_nil; omega) (by have := HNs.out; show 1 + nodesL (n + 1) (ls ++ [nilT]) ≤ _; rw [nodesL_append, nodesL_cons]; have : nodesL (n + 1) ([] : List (Tm (n + 1))) = 0 := rfl; have : nodesT (nilT (n := n)) = 1 := nodes_nil; omega) (r := -1) (fun v1 v2 => by rw [← HLs.out] at v2 ⊢; exact lis_set l k t HKl.out v1 v2 HSt.out))
              have HBend := Lib.hid (HB0W.out wq HBq.out)
              obtain ⟨hX0, hX1, hX2, hX3, hX4, hX5, hX6, hX7, hX8, hXz⟩ := HN11.out
              obtain ⟨hY0, hY1, hY2, hY3, hY4, hY5, hY6, hY7, hY8, hYz⟩ := HN13.out
              dsimp only at hX0 hX1 hX2 hX3 hX4 hX5 hX6 hX7 hX8 hY0 hY1 hY2 hY3 hY4 hY5 hY6 hY7 hY8
              unfold IPostC at HC19
              unfold aggV at HC19
              dsimp only at HC19
              by_cases q17 : k17 = 0
              · have HCa := Lib.hid (HC19.out q17)
                subst q17
                by_cases q18 : k18 = 0
                · have HCc := Lib.hid (HCa.out q18)
                  subst q18
                  go_wp2_with fail
                  refine (HCc.out _ (Below.refl _ _)).mono ?_
                  rintro e wr ⟨rfl, hbr⟩
                  have HBr := Lib.hid (HBend.out.trans (hbr.mono HBend.out.size))
                  clear hbr
                  go_wp2_with fail
                  go_ret
                  exact ⟨rfl, HBr.out⟩
                · have b18 : (k18 != 0) = true := by simpa using q18
                  have b18' : (k18 == 0) = false := by simpa using q18
                  go_wp2_with fail
                  go_ret
                  exact ⟨rfl, HBend.out⟩
              · have b17 : (k17 != 0) = true := by simpa using q17
                have b17' : (k17 == 0) = false := by simpa using q17
                go_wp2_with fail
                go_ret
                exact ⟨rfl, HBend.out⟩
      · go_wp2_with fail
        go_ret
        exact ⟨rfl, HB3.out⟩
    · go_wp2_with fail
      go_ret
      exact ⟨rfl, HB2.out⟩
  · have q1 : (300 : Int) < (l.length : Int) := by omega
    have q2 : decide ((300 : Int) < (l.length : Int)) = true := decide_eq_true q1
    go_wp2_with fail
    go_ret
    exact ⟨rfl, HB1.out⟩
theorem lawInsideR {n1 n2 : Nat} (w : World) (v : Value) (l : List (Tm n1)) (k : Int) (t : Tm (n2 + 1)) (u : Value) (I1 : ItemsAt w w.heap.size n1 v l) (I2 : ItemsAt w w.heap.size n2 u t.items) :
    Calls Try.prog 8 #[v, .int .i64 k, aggV t.f u] w fun e w' => e = .returned (.bool true) ∧ Below w.heap.size w w' := by
  obtain ⟨l', J1⟩ := I1.to (m := n1 + n2 + 1) (by omega)
  obtain ⟨l2, J2⟩ := I2.to (m := n1 + n2) (by omega)
  exact lawInside w v l' k (Tm.mk t.f l2) u J1 J2
end Go.Proofs.Ythgfdpamnepnfaa.tm
