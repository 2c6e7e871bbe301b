/- Several texts in one, one behind the other: LwH. No condition beyond theirs. -/
import Derived.Test.YthgfdpamnepnfaaHe
import Derived.Test.YthgfdpamnepnfaaHd
/- OrderSearches: the walk. Conditions: the terms lie in memory. -/
namespace Go.Proofs.Ythgfdpamnepnfaa.tm
open Go.RowKit mem names
set_option linter.unusedVariables false
set_option linter.unusedSimpArgs false
set_option maxHeartbeats 20000000
set_option maxRecDepth 100000

theorem box_one (w : World) (f : TF) (u : Value) : Nine (w.alloc (cells9 f u)) w.heap.size f u ∧ Below w.heap.size w (w.alloc (cells9 f u)) ∧ w.heap.size < (w.alloc (cells9 f u)).heap.size :=
  ⟨nine_of (MapKept.heap_alloc w (cells9 f u)).1, (Below.refl _ _).alloc (Nat.le_refl _) _, by simp⟩
theorem one_items {n : Nat} (W : World) (B : Nat) (t : Tm (n + 1)) (u : Value) (hB : B ≤ W.heap.size) (h : ItemsAt W B n u t.items) : ItemsAt (W.alloc (cells9 t.f u)) (W.alloc (cells9 t.f u)).heap.size (n + 1) (.slice (some ⟨W.heap.size, 0, none⟩) 1 1) [t] := by
  have hb : Below W.heap.size W (W.alloc (cells9 t.f u)) := (Below.refl _ _).alloc (Nat.le_refl _) _
  refine ⟨_, _, rfl, Nat.le_refl _, by unfold maxLen; simp, fun _ => ⟨_, 0, rfl, by simp, fun j hj => ?_⟩⟩
  obtain rfl : j = 0 := by simp at hj; omega
  refine ⟨u, Cells.of fun i hi => ?_, ((h.below hb hB).more (Nat.le_trans hB hb.size))⟩
  have hn := nine_of (MapKept.heap_alloc W (cells9 t.f u)).1
  have hc := nine_cell W t.f u i
  rw [Addr.add_lit] at hc
  have hi' : i < (nineL t.f u).length := by simp [nineL]; omega
  have := hc (nineL t.f u)[i] (List.getElem?_eq_getElem hi')
  simp only [Nat.zero_add, Nat.zero_mul]
  show _ = (nineL t.f u)[i]?
  rw [List.getElem?_eq_getElem hi']
  simpa using this
def SchRel {n : Nat} (w : World) (x : TF) (V1 vl : Value) (m1 ml : Nat) (u1 : Value) (l1 : List (Tm n)) (l : List (Tm (n + 1))) (x5 x6 : Value) (wc : World) : Prop :=
  ∃ p3 c3 z6 p4 c4, x5 = .slice p3 ml c3 ∧ x6 = .pointer (some ⟨z6, 0, none⟩) ∧ Nine wc z6 x (.slice p4 m1 c4) ∧ LentW wc w.heap.size (n + 1) vl (.slice p3 ml c3) l ∧ LentW wc w.heap.size n u1 (.slice p4 m1 c4) l1 ∧ Nine wc w.heap.size x V1 ∧ z6 < wc.heap.size ∧ w.heap.size < wc.heap.size ∧ Below w.heap.size w wc
theorem lawSearches {n : Nat} (w : World) (vl : Value) (l : List (Tm (n + 1))) (t : Tm (n + 1)) (u1 : Value) (IL : ItemsAt w w.heap.size (n + 1) vl l) (I1 : ItemsAt w w.heap.size n u1 t.items) :
    Calls Try.prog 6 #[vl, aggV t.f u1] w fun e w' => e = .returned (.bool true) ∧ Below w.heap.size w w' := by
  have HSh := Lib.hid (fun W => shownW W)
  have HGL := Lib.hid (fun W (hb : Below w.heap.size w W) => Great W w.heap.size vl l 6000 hb.size (by omega) (by omega) (IL.below hb (Nat.le_refl _)))
  have HGT := Lib.hid (fun W (hb : Below w.heap.size w W) => Great (W.alloc (cells9 t.f u1)) _ _ [t] 6000 (Nat.le_refl _) (by omega) (by omega) (one_items W w.heap.size t u1 hb.size (I1.below hb (Nat.le_refl _))))
  have HNL := Lib.hid (fun (h : greatS (n + 1) l 6000 = false) => great_nodes h)
  have HNT := Lib.hid (fun (h : greatS (n + 1) [t] 6000 = false) => by have := great_nodes h; rw [nodesL_cons] at this; exact this)
  have HL1 := Lib.hid (fun (h : nodesL (n + 1) l ≤ 6000) W (hb : Below w.heap.size w W) => (lendLAll (n + 1) W w.heap.size vl l hb.size (IL.below hb (Nat.le_refl _)) (by omega)))
  have HL2 := Lib.hid (fun (h : nodesT t ≤ 6000) W (hb : Below w.heap.size w W) => (lendAll n W w.heap.size u1 t hb.size (I1.below hb (Nat.le_refl _)) (by omega)))
  have HSr := Lib.hid (fun (h : nodesL (n + 1) l ≤ 6000) (h' : nodesT t ≤ 6000) W v v2 (k1 : LentW W w.heap.size (n + 1) vl v l) (k2 : LentW W w.heap.size n u1 v2 t.items) => searchW W W.heap.size v v2 l t (Nat.le_refl _) k1.items k2.items (by omega) (by omega))
  have HRS := Lib.hid (fun (h : nodesL (n + 1) l ≤ 6000) (h' : nodesT t ≤ 6000) W (hb : Below w.heap.size w W) => RSearch W w.heap.size vl u1 l t hb.size (IL.below hb (Nat.le_refl _)) (I1.below hb (Nat.le_refl _)) (by omega) (by omega))
  have HRT := Lib.hid (fun (h : nodesL (n + 1) l ≤ 6000) W (hb : Below w.heap.size w W) => rsortW W w.heap.size vl l hb.size (IL.below hb (Nat.le_refl _)) (by omega))
  have HSr2 := Lib.hid (fun (h : nodesL (n + 1) l ≤ 6000) (h' : nodesT t ≤ 6000) W v v2 (k1 : ItemsAt W W.heap.size (n + 1) v (sortL l)) (k2 : LentW W w.heap.size n u1 v2 t.items) => searchW W W.heap.size v v2 (sortL l) t (Nat.le_refl _) k1 k2.items (by rw [sortL_nodes]; omega) (by omega))
  have HRS2 := Lib.hid (fun (h : nodesL (n + 1) l ≤ 6000) (h' : nodesT t ≤ 6000) W v (hb : Below w.heap.size w W) (k1 : ItemsAt W W.heap.size (n + 1) v (sortL l)) => RSearch W W.heap.size v u1 (sortL l) t (Nat.le_refl _) k1 ((I1.below hb (Nat.le_refl _)).more hb.size) (by rw [sortL_nodes]; omega) (by omega))
  have HK1 := Lib.hid (fun W v (h : LentW W w.heap.size (n + 1) vl v l) => h.keptL)
  have HK2 := Lib.hid (fun W v (h : LentW W w.heap.size n u1 v t.items) => h.kept)
  obtain ⟨pl, cl, rfl, _, _⟩ := IL.shape
  obtain ⟨p1, c1, rfl, _, _⟩ := I1.shape
  clear IL I1
  unfold LLPost at HL1
  unfold LTPost at HL2
  unfold RPost at HRT
  unfold SPost2 at HSr HRS HSr2 HRS2
  unfold BPost at *
  generalize greatS (n + 1) l 6000 = G1 at *
  generalize greatS (n + 1) [t] 6000 = G2 at *
  obtain ⟨K1, hK1⟩ : ∃ K : Nat, (if ordB l = true then searchK l t else 0) = K := ⟨_, rfl⟩
  obtain ⟨F1, hF1⟩ : ∃ F : Bool, (if ordB l = true then foundB l t else false) = F := ⟨_, rfl⟩
  obtain ⟨s, hs⟩ : ∃ s, sortL l = s := ⟨_, rfl⟩
  rw [hs] at HRT HSr2 HRS2
  obtain ⟨K2, hK2⟩ : ∃ K : Nat, (if ordB s = true then searchK s t else 0) = K := ⟨_, rfl⟩
  obtain ⟨F2, hF2⟩ : ∃ F : Bool, (if ordB s = true then foundB s t else false) = F := ⟨_, rfl⟩
  rw [hK1, hF1] at HSr HRS
  rw [hK2, hF2] at HSr2 HRS2
  clear hK1 hF1 hK2 hF2 hs
  generalize nodesL (n + 1) l = N1 at *
  generalize nodesT t = N2 at *
  generalize t.items = l1 at *
  generalize l1.length = m1 at *
  obtain ⟨f, hf⟩ : ∃ f, t.f = f := ⟨_, rfl⟩
  rw [hf] at HGT HL2 HSr HRS HSr2 HRS2 HK2 ⊢
  clear hf
  obtain ⟨k1, i1, g1, n1, fn1, a1, by1, s1⟩ := f
  unfold aggV cells9 at *
  dsimp only at *
  go_enter Try.func6, Try.ntmps6
  go_wp2_with fail
  obtain ⟨hN1, hbw, hz1⟩ := box_one w ⟨k1, i1, g1, n1, fn1, a1, by1, s1⟩ (.slice p1 m1 c1)
  unfold cells9 at hN1 hbw hz1
  dsimp only at hN1 hbw hz1
  generalize (w.alloc (.cells #[.int .i64 k1, .int .i64 i1, .int .i64 g1, .string n1, .string fn1, .int .i64 a1, .slice p1 m1 c1, .string by1, .int .i64 s1] 24)) = W0 at *
  have HN1 := Lib.hid hN1
  clear hN1
  refine (HSh.out W0).mono ?_
  rintro e w1 ⟨rfl, hb1⟩
  have HP1 := Lib.hid (HN1.out.below hb1 hz1)
  have hbb1 := hbw.trans (hb1.mono hbw.size)
  have hz1 : w.heap.size < w1.heap.size := Nat.lt_of_lt_of_le hz1 hb1.size
  have HB1 := Lib.hid hbb1
  clear HN1 hbw hb1 hbb1 HSh
  by_cases h100 : l.length ≤ 100
  · have q0 : ¬ (100 : Int) < (l.length : Int) := by omega
    have q1 : decide ((100 : Int) < (l.length : Int)) = false := decide_eq_false q0
    have HGW := Lib.hid (HGL.out w1 HB1.out)
    clear h100
    go_wp2_with fail
    refine HGW.out.mono ?_
    rintro e w1b ⟨rfl, hb2⟩
    have HP2 := Lib.hid (HP1.out.below hb2 hz1)
    have hbb2 := HB1.out.trans (hb2.mono HB1.out.size)
    have hz2 : w.heap.size < w1b.heap.size := Nat.lt_of_lt_of_le hz1 hb2.size
    have HB2 := Lib.hid hbb2
    clear HP1 HB1 hb2 hbb2 HGW HGL hz1
    cases G1
    · have hn1 := HNL.out rfl
      have HGW := Lib.hid (HGT.out w1b HB2.out)
      obtain ⟨x0, x1, x2, x3, x4, x5, x6, x7, x8, xz⟩ := HP2.out
      dsimp only at x0 x1 x2 x3 x4 x5 x6 x7 x8
      go_wp2_with fail
      refine HGW.out.mono ?_
      rintro e w2 ⟨rfl, hb3⟩
      have hq : Below w1b.heap.size w1b w2 := ((Below.refl _ _).alloc (Nat.le_refl _) _).trans (hb3.mono (by simp))
      have HM1 := Lib.hid (HP2.out.below hq hz2)
      have hz3 : w.heap.size < w2.heap.size := Nat.lt_of_lt_of_le hz2 hq.size
      have HB3 := Lib.hid (HB2.out.trans (hq.mono HB2.out.size))
      clear x0 x1 x2 x3 x4 x5 x6 x7 x8 xz HP2 HB2 hb3 hq HGW HGT hz2
      cases G2
      · have hn2 := HNT.out rfl
        have hn1' : N1 ≤ 6000 := by omega
        have hn2' : N2 ≤ 6000 := by omega
        have HLa := Lib.hid (HL1.out hn1')
        have HLb := Lib.hid (HL2.out hn2')
        have HSr' := Lib.hid (HSr.out hn1' hn2')
        have HRS' := Lib.hid (HRS.out hn1' hn2')
        have HRT' := Lib.hid (HRT.out hn1')
        have HSr2' := Lib.hid (HSr2.out hn1' hn2')
        have HRS2' := Lib.hid (HRS2.out hn1' hn2')
        have HD1 : Hid (Nine w2.drew w.heap.size ⟨k1, i1, g1, n1, fn1, a1, by1, s1⟩ (.slice p1 m1 c1)) := Lib.hid (nine_drew HM1.out)
        have hd1 : w.heap.size < w2.drew.heap.size := hz3
        have HB2 : Hid (Below w.heap.size w w2.drew) := Lib.hid (HB3.out.drewN 1)
        have HB2w := HB3
        have hn20 : w.heap.size ≠ w2.heap.size := by omega
        clear HL1 HL2 HSr HRS HRT HSr2 HRS2 HNL HNT hn1 hn2 hn1' hn2'
        obtain ⟨x0, x1, x2, x3, x4, x5, x6, x7, x8, xz⟩ := HM1.out
        dsimp only at x0 x1 x2 x3 x4 x5 x6 x7 x8
        clear HM1
        have hG0 : Hid (∀ (W : World), Below w.heap.size w W → Below w.heap.size w W) := Lib.hid (fun W h => h)
        have hG1 : Hid (∀ (W : World), Below w.heap.size w W → Below w.heap.size w (W.alloc (.cells #[.int .i64 0, .int .i64 0, .int .i64 0, .string ⟨#[]⟩, .string ⟨#[]⟩, .int .i64 0, .slice none 0 0, .string ⟨#[]⟩, .int .i64 0] 24))) := Lib.hid (fun W h => h.alloc h.size _)
        have hA0 : Hid (∀ (W w' : World), Below W.heap.size W w' → Below W.heap.size W w') := Lib.hid (fun W w' h => h)
        have hA1 : Hid (∀ (W w' : World), Below (W.alloc (.cells #[.int .i64 0, .int .i64 0, .int .i64 0, .string ⟨#[]⟩, .string ⟨#[]⟩, .int .i64 0, .slice none 0 0, .string ⟨#[]⟩, .int .i64 0] 24)).heap.size (W.alloc (.cells #[.int .i64 0, .int .i64 0, .int .i64 0, .string ⟨#[]⟩, .string ⟨#[]⟩, .int .i64 0, .slice none 0 0, .string ⟨#[]⟩, .int .i64 0] 24)) w' → Below W.heap.size W w') := Lib.hid (fun W w' h => below_z1 W w' h)
        have hZ10 : Hid (∀ (W w' : World), Below (W.alloc (.cells #[.int .i64 0, .int .i64 0, .int .i64 0, .string ⟨#[]⟩, .string ⟨#[]⟩, .int .i64 0, .slice none 0 0, .string ⟨#[]⟩, .int .i64 0] 24)).heap.size (W.alloc (.cells #[.int .i64 0, .int .i64 0, .int .i64 0, .string ⟨#[]⟩, .string ⟨#[]⟩, .int .i64 0, .slice none 0 0, .string ⟨#[]⟩, .int .i64 0] 24)) w' → w'.heap[W.heap.size]? = some (cells9 zeroF nilV) ∧ W.heap.size < w'.heap.size) := Lib.hid (fun W w' h => alloc_z1 W w' h)
        go_wp2_with fail
        go_cut [5, 6] from 30 to 33 (SchRel w ⟨k1, i1, g1, n1, fn1, a1, by1, s1⟩ (.slice p1 m1 c1) (.slice pl l.length cl) m1 l.length (.slice p1 m1 c1) l1 l)
        case first =>
          go_region_held3 (fun w' => w'.cell? ⟨w.heap.size, 0, none⟩ = some (.int .i64 k1) ∧ w'.cell? ⟨w.heap.size, 1, none⟩ = some (.int .i64 i1) ∧ w'.cell? ⟨w.heap.size, 2, none⟩ = some (.int .i64 g1) ∧ w'.cell? ⟨w.heap.size, 3, none⟩ = some (.string n1) ∧ w'.cell? ⟨w.heap.size, 4, none⟩ = some (.string fn1) ∧ w'.cell? ⟨w.heap.size, 5, none⟩ = some (.int .i64 a1) ∧ w'.cell? ⟨w.heap.size, 6, none⟩ = some (.slice p1 m1 c1) ∧ w'.cell? ⟨w.heap.size, 7, none⟩ = some (.string by1) ∧ w'.cell? ⟨w.heap.size, 8, none⟩ = some (.int .i64 s1)) (((refine ⟨?_, ?_, ?_, ?_, ?_, ?_, ?_, ?_, ?_⟩) <;> (repeat' (first | with_reducible refine keep_alloc ?_ | with_reducible refine keep_drew ?_ | with_reducible refine keep_set ?_ ?_ | with_reducible assumption | (dsimp only; omega)))))
            (first
            | (go_at_call 17; (with_reducible refine (HLa.out w2.drew (undrew2 (hG0.out w2 HB2w.out))).mono ?_); rintro e w3 ⟨F3, p3, c3, rfl, hL3⟩; have hw23' := hA0.out w2 w3 (undrew hL3.below); have hw23 : Below w2.drew.heap.size w2.drew w3 := redrew hw23'; have hB3 := HB2.out.trans (hw23.mono HB2.out.size); have hq1 := Lib.hid (HD1.out.below hw23 hd1); obtain ⟨q0, q1, q2, q3, q4, q5, q6, q7, q8, qz⟩ := hq1.out; dsimp only [zeroF, nilV] at q0 q1 q2 q3 q4 q5 q6 q7 q8; have tok0 : True := trivial; have hle3 : w2.heap.size ≤ w3.heap.size := hw23.size; have hn3 : w.heap.size ≠ w3.heap.size := (by omega))
            | (go_at_call 17; (with_reducible refine (HLa.out (w2.alloc (.cells #[.int .i64 0, .int .i64 0, .int .i64 0, .string ⟨#[]⟩, .string ⟨#[]⟩, .int .i64 0, .slice none 0 0, .string ⟨#[]⟩, .int .i64 0] 24)).drew (undrew2 (hG1.out w2 HB2w.out))).mono ?_); rintro e w3 ⟨F3, p3, c3, rfl, hL3⟩; have hw23' := hA1.out w2 w3 (undrew hL3.below); have hw23 : Below w2.drew.heap.size w2.drew w3 := redrew hw23'; have hB3 := HB2.out.trans (hw23.mono HB2.out.size); have hq1 := Lib.hid (HD1.out.below hw23 hd1); obtain ⟨q0, q1, q2, q3, q4, q5, q6, q7, q8, qz⟩ := hq1.out; dsimp only [zeroF, nilV] at q0 q1 q2 q3 q4 q5 q6 q7 q8; have tok1 : True := trivial; have hle3 : w2.heap.size ≤ w3.heap.size := hw23.size; have hn3 : w.heap.size ≠ w3.heap.size := (by omega); have hZ := Lib.hid (show w3.heap[w2.heap.size]? = some (cells9 zeroF nilV) ∧ w2.heap.size < w3.heap.size from hZ10.out w2 w3 (undrew hL3.below)); have hzl := hZ.out.2; obtain ⟨az0, az1, az2, az3, az4, az5, az6, az7, az8, azz⟩ := (nine_of hZ.out.1); dsimp only [zeroF, nilV] at az0 az1 az2 az3 az4 az5 az6 az7 az8)
            | (clear tok0; go_at_call 12; (with_reducible refine (HLb.out w3 (hG0.out w3 hB3)).mono ?_); rintro e w4 ⟨F4, p4, c4, rfl, hL4⟩; have hw34 := hA0.out w3 w4 hL4.below; have hB4 := hB3.trans (hw34.mono hB3.size); have hr1 := Lib.hid (hq1.out.below hw34 (Nat.lt_of_lt_of_le hd1 hw23.size)); obtain ⟨sa0, sa1, sa2, sa3, sa4, sa5, sa6, sa7, sa8, saz⟩ := hr1.out; dsimp only [zeroF, nilV] at sa0 sa1 sa2 sa3 sa4 sa5 sa6 sa7 sa8; have hle4 : w3.heap.size ≤ w4.heap.size := hw34.size; have hn4 : w.heap.size ≠ w4.heap.size := (by omega))
            | (clear tok0; go_at_call 12; (with_reducible refine (HLb.out (w3.alloc (.cells #[.int .i64 0, .int .i64 0, .int .i64 0, .string ⟨#[]⟩, .string ⟨#[]⟩, .int .i64 0, .slice none 0 0, .string ⟨#[]⟩, .int .i64 0] 24)) (hG1.out w3 hB3)).mono ?_); rintro e w4 ⟨F4, p4, c4, rfl, hL4⟩; have hw34 := hA1.out w3 w4 hL4.below; have hB4 := hB3.trans (hw34.mono hB3.size); have hr1 := Lib.hid (hq1.out.below hw34 (Nat.lt_of_lt_of_le hd1 hw23.size)); obtain ⟨sa0, sa1, sa2, sa3, sa4, sa5, sa6, sa7, sa8, saz⟩ := hr1.out; dsimp only [zeroF, nilV] at sa0 sa1 sa2 sa3 sa4 sa5 sa6 sa7 sa8; have hle4 : w3.heap.size ≤ w4.heap.size := hw34.size; have hn4 : w.heap.size ≠ w4.heap.size := (by omega); have hY := Lib.hid (hZ10.out w3 w4 hL4.below); have hyl := hY.out.2; obtain ⟨aw0, aw1, aw2, aw3, aw4, aw5, aw6, aw7, aw8, awz⟩ := (nine_of hY.out.1); dsimp only [zeroF, nilV] at aw0 aw1 aw2 aw3 aw4 aw5 aw6 aw7 aw8)
            | (clear tok1; go_at_call 12; (with_reducible refine (HLb.out w3 (hG0.out w3 hB3)).mono ?_); rintro e w4 ⟨F4, p4, c4, rfl, hL4⟩; have hw34 := hA0.out w3 w4 hL4.below; have hB4 := hB3.trans (hw34.mono hB3.size); have hr1 := Lib.hid (hq1.out.below hw34 (Nat.lt_of_lt_of_le hd1 hw23.size)); obtain ⟨sa0, sa1, sa2, sa3, sa4, sa5, sa6, sa7, sa8, saz⟩ := hr1.out; dsimp only [zeroF, nilV] at sa0 sa1 sa2 sa3 sa4 sa5 sa6 sa7 sa8; have hle4 : w3.heap.size ≤ w4.heap.size := hw34.size; have hn4 : w.heap.size ≠ w4.heap.size := (by omega); have hY := Lib.hid (zkeep hZ.out hw34); have hyl := hY.out.2; obtain ⟨aw0, aw1, aw2, aw3, aw4, aw5, aw6, aw7, aw8, awz⟩ := (nine_of hY.out.1); dsimp only [zeroF, nilV] at aw0 aw1 aw2 aw3 aw4 aw5 aw6 aw7 aw8))
          all_goals
            go_wp2_with fail
            go_meet
            (try clear hn20); (try clear hn3); (try clear hn4)
            refine ⟨p3, c3, _, p4, c4, rfl, rfl, ?_, ?_, ?_, ?_, ?_, ?_, ?_⟩
            · (repeat' (first | ((with_reducible refine nine_new _ _ _ _ _ ?_ ?_); (focus rfl); (simp; done)) | with_reducible refine nine_sets ⟨k1, i1, g1, n1, fn1, a1, by1, s1⟩ (.slice p4 m1 c4) ?_ | with_reducible refine nine_ksets ⟨k1, i1, g1, n1, fn1, a1, by1, s1⟩ (.slice p4 m1 c4) ?_ ?_ | with_reducible refine nine_kset ?_ ?_ | with_reducible refine nine_kalloc ?_ ?_ | with_reducible exact hY.out.1 | with_reducible exact hr1.out | with_reducible refine heap_ksets ⟨k1, i1, g1, n1, fn1, a1, by1, s1⟩ (.slice p4 m1 c4) ?_ ?_ | with_reducible refine heap_kset ?_ ?_ | (simp; done) | omega | (simp; omega)))
            · refine lent_final2 hL3 hw34 ?_ (by first | omega | (simp; done) | (simp; omega))
              (repeat' (first | with_reducible exact TouchB.refl _ _ | with_reducible refine TouchB.alloc ?_ _ | with_reducible refine touch_sets ⟨k1, i1, g1, n1, fn1, a1, by1, s1⟩ (.slice p4 m1 c4) ?_ ?_ | with_reducible refine TouchB.setCell ?_ _ _ ?_ | omega | (simp; omega) | (simp; done) | (intro _; simp; omega) | (intro _; simp; done)))
            · refine lent_final hL4 ?_ (by first | omega | (simp; done) | (simp; omega))
              (repeat' (first | with_reducible exact TouchB.refl _ _ | with_reducible refine TouchB.alloc ?_ _ | with_reducible refine touch_sets ⟨k1, i1, g1, n1, fn1, a1, by1, s1⟩ (.slice p4 m1 c4) ?_ ?_ | with_reducible refine TouchB.setCell ?_ _ _ ?_ | omega | (simp; omega) | (simp; done) | (intro _; simp; omega) | (intro _; simp; done)))
            · (repeat' (first | ((with_reducible refine nine_new _ _ _ _ _ ?_ ?_); (focus rfl); (simp; done)) | with_reducible refine nine_sets ⟨k1, i1, g1, n1, fn1, a1, by1, s1⟩ (.slice p4 m1 c4) ?_ | with_reducible refine nine_ksets ⟨k1, i1, g1, n1, fn1, a1, by1, s1⟩ (.slice p4 m1 c4) ?_ ?_ | with_reducible refine nine_kset ?_ ?_ | with_reducible refine nine_kalloc ?_ ?_ | with_reducible exact hY.out.1 | with_reducible exact hr1.out | with_reducible refine heap_ksets ⟨k1, i1, g1, n1, fn1, a1, by1, s1⟩ (.slice p4 m1 c4) ?_ ?_ | with_reducible refine heap_kset ?_ ?_ | (simp; done) | omega | (simp; omega)))
            · first | omega | (simp; done) | (simp; omega)
            · first | omega | (simp; done) | (simp; omega)
            · (repeat' (first | with_reducible exact hB4 | with_reducible refine Below.alloc ?_ ?_ _ | with_reducible refine below_sets ⟨k1, i1, g1, n1, fn1, a1, by1, s1⟩ (.slice p4 m1 c4) ?_ ?_ | with_reducible refine Below.setCell ?_ ?_ _ | omega | (simp; omega)))
        case rest =>
          obtain ⟨p3, c3, z6, p4, c4, rfl, rfl, hn6, hll, hlt, hnb, lze, lbe, hbe⟩ := hcut
          have NZe := Lib.hid hn6
          have NBe := Lib.hid hnb
          have LLe := Lib.hid hll
          have LTe := Lib.hid hlt
          have HBe := Lib.hid hbe
          clear hn6 hnb hll hlt hbe
          have f1 : ((K1 : Int) == (K1 : Int)) = true := by simp
          have f2 : (F1 == F1) = true := by cases F1 <;> rfl
          have f3 : ((K2 : Int) == (K2 : Int)) = true := by simp
          have f4 : (F2 == F2) = true := by cases F2 <;> rfl
          obtain ⟨zae0, zae1, zae2, zae3, zae4, zae5, zae6, zae7, zae8, zaez⟩ := NZe.out
          obtain ⟨zbe0, zbe1, zbe2, zbe3, zbe4, zbe5, zbe6, zbe7, zbe8, zbez⟩ := NBe.out
          dsimp only at zae0 zae1 zae2 zae3 zae4 zae5 zae6 zae7 zae8 zbe0 zbe1 zbe2 zbe3 zbe4 zbe5 zbe6 zbe7 zbe8
          have HCf := Lib.hid (HSr'.out wc _ _ LLe.out LTe.out)
          go_wp2_with fail
          refine HCf.out.mono ?_
          rintro e w3 ⟨rfl, hbf⟩
          have HBf := Lib.hid (HBe.out.trans (hbf.mono HBe.out.size))
          have lzf := Nat.lt_of_lt_of_le lze hbf.size
          have lbf := Nat.lt_of_lt_of_le lbe hbf.size
          have NZf := Lib.hid (NZe.out.below hbf lze)
          have NBf := Lib.hid (NBe.out.below hbf lbe)
          have LLf := Lib.hid (LLe.out.below hbf)
          have LTf := Lib.hid (LTe.out.below hbf)
          clear zae0 zae1 zae2 zae3 zae4 zae5 zae6 zae7 zae8 zaez zbe0 zbe1 zbe2 zbe3 zbe4 zbe5 zbe6 zbe7 zbe8 zbez
          clear hbf HCf HBe lze lbe NZe NBe LLe LTe
          obtain ⟨zaf0, zaf1, zaf2, zaf3, zaf4, zaf5, zaf6, zaf7, zaf8, zafz⟩ := NZf.out
          obtain ⟨zbf0, zbf1, zbf2, zbf3, zbf4, zbf5, zbf6, zbf7, zbf8, zbfz⟩ := NBf.out
          dsimp only at zaf0 zaf1 zaf2 zaf3 zaf4 zaf5 zaf6 zaf7 zaf8 zbf0 zbf1 zbf2 zbf3 zbf4 zbf5 zbf6 zbf7 zbf8
          have HCg := Lib.hid (HRS'.out w3 HBf.out)
          go_wp2_with fail
          refine HCg.out.mono ?_
          rintro e w4 ⟨rfl, hbg⟩
          have HBg := Lib.hid (HBf.out.trans (hbg.mono HBf.out.size))
          have lzg := Nat.lt_of_lt_of_le lzf hbg.size
          have lbg := Nat.lt_of_lt_of_le lbf hbg.size
          have NZg := Lib.hid (NZf.out.below hbg lzf)
          have NBg := Lib.hid (NBf.out.below hbg lbf)
          have LLg := Lib.hid (LLf.out.below hbg)
          have LTg := Lib.hid (LTf.out.below hbg)
          clear zaf0 zaf1 zaf2 zaf3 zaf4 zaf5 zaf6 zaf7 zaf8 zafz zbf0 zbf1 zbf2 zbf3 zbf4 zbf5 zbf6 zbf7 zbf8 zbfz
          clear hbg HCg HBf lzf lbf NZf NBf LLf LTf
          obtain ⟨zag0, zag1, zag2, zag3, zag4, zag5, zag6, zag7, zag8, zagz⟩ := NZg.out
          obtain ⟨zbg0, zbg1, zbg2, zbg3, zbg4, zbg5, zbg6, zbg7, zbg8, zbgz⟩ := NBg.out
          dsimp only at zag0 zag1 zag2 zag3 zag4 zag5 zag6 zag7 zag8 zbg0 zbg1 zbg2 zbg3 zbg4 zbg5 zbg6 zbg7 zbg8
          have HCh := Lib.hid (HRT'.out w4 HBg.out)
          go_wp2_with fail
          refine HCh.out.mono ?_
          rintro e w5 ⟨p7, c7, rfl, hIs, hbh⟩
          have HBh := Lib.hid (HBg.out.trans (hbh.mono HBg.out.size))
          have lzh := Nat.lt_of_lt_of_le lzg hbh.size
          have lbh := Nat.lt_of_lt_of_le lbg hbh.size
          have NZh := Lib.hid (NZg.out.below hbh lzg)
          have NBh := Lib.hid (NBg.out.below hbh lbg)
          have LLh := Lib.hid (LLg.out.below hbh)
          have LTh := Lib.hid (LTg.out.below hbh)
          have ISh := Lib.hid hIs
          clear hIs
          clear zag0 zag1 zag2 zag3 zag4 zag5 zag6 zag7 zag8 zagz zbg0 zbg1 zbg2 zbg3 zbg4 zbg5 zbg6 zbg7 zbg8 zbgz
          clear hbh HCh HBg lzg lbg NZg NBg LLg LTg
          obtain ⟨zah0, zah1, zah2, zah3, zah4, zah5, zah6, zah7, zah8, zahz⟩ := NZh.out
          obtain ⟨zbh0, zbh1, zbh2, zbh3, zbh4, zbh5, zbh6, zbh7, zbh8, zbhz⟩ := NBh.out
          dsimp only at zah0 zah1 zah2 zah3 zah4 zah5 zah6 zah7 zah8 zbh0 zbh1 zbh2 zbh3 zbh4 zbh5 zbh6 zbh7 zbh8
          have HCi := Lib.hid (HSr2'.out w5 _ _ ISh.out LTh.out)
          go_wp2_with fail
          refine HCi.out.mono ?_
          rintro e w6 ⟨rfl, hbi⟩
          have HBi := Lib.hid (HBh.out.trans (hbi.mono HBh.out.size))
          have lzi := Nat.lt_of_lt_of_le lzh hbi.size
          have lbi := Nat.lt_of_lt_of_le lbh hbi.size
          have NZi := Lib.hid (NZh.out.below hbi lzh)
          have NBi := Lib.hid (NBh.out.below hbi lbh)
          have LLi := Lib.hid (LLh.out.below hbi)
          have LTi := Lib.hid (LTh.out.below hbi)
          have ISi := Lib.hid ((ISh.out.below hbi (Nat.le_refl _)).more hbi.size)
          clear zah0 zah1 zah2 zah3 zah4 zah5 zah6 zah7 zah8 zahz zbh0 zbh1 zbh2 zbh3 zbh4 zbh5 zbh6 zbh7 zbh8 zbhz
          clear hbi HCi HBh lzh lbh NZh NBh LLh LTh ISh
          obtain ⟨zai0, zai1, zai2, zai3, zai4, zai5, zai6, zai7, zai8, zaiz⟩ := NZi.out
          obtain ⟨zbi0, zbi1, zbi2, zbi3, zbi4, zbi5, zbi6, zbi7, zbi8, zbiz⟩ := NBi.out
          dsimp only at zai0 zai1 zai2 zai3 zai4 zai5 zai6 zai7 zai8 zbi0 zbi1 zbi2 zbi3 zbi4 zbi5 zbi6 zbi7 zbi8
          have HCj := Lib.hid (HRS2'.out w6 _ HBi.out ISi.out)
          go_wp2_with fail
          refine HCj.out.mono ?_
          rintro e w7 ⟨rfl, hbj⟩
          have HBj := Lib.hid (HBi.out.trans (hbj.mono HBi.out.size))
          have lzj := Nat.lt_of_lt_of_le lzi hbj.size
          have lbj := Nat.lt_of_lt_of_le lbi hbj.size
          have NZj := Lib.hid (NZi.out.below hbj lzi)
          have NBj := Lib.hid (NBi.out.below hbj lbi)
          have LLj := Lib.hid (LLi.out.below hbj)
          have LTj := Lib.hid (LTi.out.below hbj)
          have ISj := Lib.hid ((ISi.out.below hbj (Nat.le_refl _)).more hbj.size)
          clear zai0 zai1 zai2 zai3 zai4 zai5 zai6 zai7 zai8 zaiz zbi0 zbi1 zbi2 zbi3 zbi4 zbi5 zbi6 zbi7 zbi8 zbiz
          clear hbj HCj HBi lzi lbi NZi NBi LLi LTi ISi
          obtain ⟨zaj0, zaj1, zaj2, zaj3, zaj4, zaj5, zaj6, zaj7, zaj8, zajz⟩ := NZj.out
          obtain ⟨zbj0, zbj1, zbj2, zbj3, zbj4, zbj5, zbj6, zbj7, zbj8, zbjz⟩ := NBj.out
          dsimp only at zaj0 zaj1 zaj2 zaj3 zaj4 zaj5 zaj6 zaj7 zaj8 zbj0 zbj1 zbj2 zbj3 zbj4 zbj5 zbj6 zbj7 zbj8
          have HCk := Lib.hid (HK1.out w7 _ LLj.out)
          go_wp2_with fail
          refine HCk.out.mono ?_
          rintro e w8 ⟨rfl, hbk⟩
          have HBk := Lib.hid (HBj.out.trans (hbk.mono HBj.out.size))
          have lzk := Nat.lt_of_lt_of_le lzj hbk.size
          have lbk := Nat.lt_of_lt_of_le lbj hbk.size
          have NZk := Lib.hid (NZj.out.below hbk lzj)
          have NBk := Lib.hid (NBj.out.below hbk lbj)
          have LLk := Lib.hid (LLj.out.below hbk)
          have LTk := Lib.hid (LTj.out.below hbk)
          clear zaj0 zaj1 zaj2 zaj3 zaj4 zaj5 zaj6 zaj7 zaj8 zajz zbj0 zbj1 zbj2 zbj3 zbj4 zbj5 zbj6 zbj7 zbj8 zbjz
          clear hbk HCk HBj lzj lbj NZj NBj LLj LTj
          obtain ⟨zak0, zak1, zak2, zak3, zak4, zak5, zak6, zak7, zak8, zakz⟩ := NZk.out
          obtain ⟨zbk0, zbk1, zbk2, zbk3, zbk4, zbk5, zbk6, zbk7, zbk8, zbkz⟩ := NBk.out
          dsimp only at zak0 zak1 zak2 zak3 zak4 zak5 zak6 zak7 zak8 zbk0 zbk1 zbk2 zbk3 zbk4 zbk5 zbk6 zbk7 zbk8
          have HCl := Lib.hid (HK2.out w8 _ LTk.out)
          go_wp2_with fail
          refine HCl.out.mono ?_
          rintro e w9 ⟨rfl, hbl⟩
          have HBl := Lib.hid (HBk.out.trans (hbl.mono HBk.out.size))
          have lzl := Nat.lt_of_lt_of_le lzk hbl.size
          have lbl := Nat.lt_of_lt_of_le lbk hbl.size
          have NZl := Lib.hid (NZk.out.below hbl lzk)
          have NBl := Lib.hid (NBk.out.below hbl lbk)
          have LLl := Lib.hid (LLk.out.below hbl)
          have LTl := Lib.hid (LTk.out.below hbl)
          clear zak0 zak1 zak2 zak3 zak4 zak5 zak6 zak7 zak8 zakz zbk0 zbk1 zbk2 zbk3 zbk4 zbk5 zbk6 zbk7 zbk8 zbkz
          clear hbl HCl HBk lzk lbk NZk NBk LLk LTk
          obtain ⟨zal0, zal1, zal2, zal3, zal4, zal5, zal6, zal7, zal8, zalz⟩ := NZl.out
          obtain ⟨zbl0, zbl1, zbl2, zbl3, zbl4, zbl5, zbl6, zbl7, zbl8, zblz⟩ := NBl.out
          dsimp only at zal0 zal1 zal2 zal3 zal4 zal5 zal6 zal7 zal8 zbl0 zbl1 zbl2 zbl3 zbl4 zbl5 zbl6 zbl7 zbl8
          go_wp2_with fail
          go_ret
          exact ⟨rfl, HBl.out⟩
      · go_wp2_with fail
        go_ret
        exact ⟨rfl, HB3.out⟩
    · go_wp2_with fail
      go_ret
      exact ⟨rfl, HB2.out⟩
  · have q0 : (100 : Int) < (l.length : Int) := by omega
    have q1 : decide ((100 : Int) < (l.length : Int)) = true := decide_eq_true q0
    go_wp2_with fail
    go_ret
    exact ⟨rfl, HB1.out⟩
theorem lawSearchesR {n1 n2 : Nat} (w : World) (v : Value) (l : List (Tm n1)) (t : Tm (n2 + 1)) (u : Value) (I1 : ItemsAt w w.heap.size n1 v l) (I2 : ItemsAt w w.heap.size n2 u t.items) :
    Calls Try.prog 6 #[v, aggV t.f u] w fun e w' => e = .returned (.bool true) ∧ Below w.heap.size w w' := by
  obtain ⟨l', J1⟩ := I1.to (m := n1 + n2 + 1) (by omega)
  obtain ⟨l2, J2⟩ := I2.to (m := n1 + n2) (by omega)
  exact lawSearches w v l' (Tm.mk t.f l2) u J1 J2
end Go.Proofs.Ythgfdpamnepnfaa.tm
