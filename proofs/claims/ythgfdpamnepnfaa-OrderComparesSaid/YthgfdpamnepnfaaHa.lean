/- Several texts in one, one behind the other: LwA. No condition beyond theirs. -/
import Derived.Test.YthgfdpamnepnfaaHd
/- OrderCompares: the walk. Conditions: the terms lie in memory. -/
namespace Go.Proofs.Ythgfdpamnepnfaa.tm
open Go.RowKit mem names
set_option linter.unusedVariables false
set_option linter.unusedSimpArgs false
set_option maxHeartbeats 20000000
set_option maxRecDepth 100000

theorem lawCompares {n : Nat} (w : World) (t1 t2 : Tm (n + 1)) (u1 u2 : Value) (I1 : ItemsAt w w.heap.size n u1 t1.items) (I2 : ItemsAt w w.heap.size n u2 t2.items) :
    Calls Try.prog 3 #[aggV t1.f u1, aggV t2.f u2] w fun e w' => e = .returned (.bool true) ∧ Below w.heap.size w w' := by
  have HGreat := Lib.hid (fun W (hb : Below w.heap.size w W) => Great _ _ _ [t1, t2] 6000 (by simp) (by omega) (by omega) (two_itemsG W w t1 t2 u1 u2 w.heap.size hb.size (I1.below hb (Nat.le_refl _)) (I2.below hb (Nat.le_refl _))))
  have HN : Hid (greatS (n + 1) [t1, t2] 6000 = false → nodesT t1 ≤ 6000 ∧ nodesT t2 ≤ 6000) := Lib.hid (fun h => by
    have := great_nodes h
    rw [nodesL_cons, nodesL_cons] at this
    omega)
  have hL : ∀ (t : Tm (n + 1)) (u : Value), ItemsAt w w.heap.size n u t.items → nodesT t ≤ 6000 → ∀ W, Below w.heap.size w W → Calls Try.prog 12 #[aggV t.f u] W (LRes w.heap.size t.f t.items.length u t.items W) := fun t u i h W hb => (lendAll n W w.heap.size u t hb.size (i.below hb (Nat.le_refl _)) (by omega)).mono (fun e w' ⟨F, p', c', e1, h1⟩ => ⟨F, p', c', e1, h1⟩)
  have HL1 := Lib.hid (fun (h : nodesT t1 ≤ 6000) => hL t1 u1 I1 h)
  have HL2 := Lib.hid (fun (h : nodesT t2 ≤ 6000) => hL t2 u2 I2 h)
  have HR := Lib.hid (fun (h : nodesT t1 ≤ 6000) (h' : nodesT t2 ≤ 6000) W (hb : Below w.heap.size w W) => RCompare W w.heap.size u1 u2 t1 t2 hb.size (I1.below hb (Nat.le_refl _)) (I2.below hb (Nat.le_refl _)) (by omega) (by omega))
  have HC := Lib.hid (fun (h : nodesT t1 ≤ 6000) (h' : nodesT t2 ≤ 6000) W v1 v2 (l1 : LentW W w.heap.size n u1 v1 t1.items) (l2 : LentW W w.heap.size n u2 v2 t2.items) => Compare W W.heap.size v1 v2 t1 t2 (Nat.le_refl _) l1.items l2.items (by omega) (by omega))
  have HLs := Lib.hid (fun (h : nodesT t1 ≤ 6000) (h' : nodesT t2 ≤ 6000) W v1 v2 (l1 : LentW W w.heap.size n u1 v1 t1.items) (l2 : LentW W w.heap.size n u2 v2 t2.items) => Less W W.heap.size v1 v2 t1 t2 (Nat.le_refl _) l1.items l2.items (by omega) (by omega))
  have HK1 := Lib.hid (fun W v (l : LentW W w.heap.size n u1 v t1.items) => l.kept)
  have HK2 := Lib.hid (fun W v (l : LentW W w.heap.size n u2 v t2.items) => l.kept)
  have HSh := Lib.hid (fun W => shownW W)
  obtain ⟨p1, c1, rfl, _, _⟩ := I1.shape
  obtain ⟨p2, c2, rfl, _, _⟩ := I2.shape
  clear I1 I2 hL
  unfold LRes at HL1 HL2
  generalize nodesT t1 = N1 at *
  generalize nodesT t2 = N2 at *
  generalize cmpV t1 t2 = z at *
  generalize greatS (n + 1) [t1, t2] 6000 = G at *
  generalize t1.items = l1 at *
  generalize t2.items = l2 at *
  generalize l1.length = m1 at *
  generalize l2.length = m2 at *
  generalize t1.f = x at *
  generalize t2.f = y at *
  obtain ⟨k1, i1, g1, n1, fn1, a1, by1, s1⟩ := x
  obtain ⟨k2, i2, g2, n2, fn2, a2, by2, s2⟩ := y
  unfold aggV BPost IPostC at *
  dsimp only at *
  go_enter Try.func3, Try.ntmps3
  go_wp2_with fail
  obtain ⟨hN1, hN2, hbw, hsz⟩ := boxes2 w ⟨k1, i1, g1, n1, fn1, a1, by1, s1⟩ ⟨k2, i2, g2, n2, fn2, a2, by2, s2⟩ (.slice p1 m1 c1) (.slice p2 m2 c2)
  unfold cells9 at hN1 hN2 hbw hsz
  dsimp only at hN1 hN2 hbw hsz
  generalize ((w.alloc (.cells #[.int .i64 k1, .int .i64 i1, .int .i64 g1, .string n1, .string fn1, .int .i64 a1, .slice p1 m1 c1, .string by1, .int .i64 s1] 24)).alloc (.cells #[.int .i64 k2, .int .i64 i2, .int .i64 g2, .string n2, .string fn2, .int .i64 a2, .slice p2 m2 c2, .string by2, .int .i64 s2] 24)) = W0 at *
  have HZ1 : Hid (w.heap.size < W0.heap.size) := Lib.hid (by omega)
  have HZ2 : Hid (w.heap.size + 1 < W0.heap.size) := Lib.hid (by omega)
  clear hsz
  have HN1 := Lib.hid hN1
  have HN2 := Lib.hid hN2
  clear hN1 hN2
  refine (HSh.out _).mono ?_
  rintro e w1 ⟨rfl, hb1⟩
  have HP1 := Lib.hid (HN1.out.below hb1 HZ1.out)
  have HP2 := Lib.hid (HN2.out.below hb1 HZ2.out)
  have hbb1 := hbw.trans (hb1.mono hbw.size)
  have hz1 : w.heap.size < w1.heap.size := Nat.lt_of_lt_of_le HZ1.out hb1.size
  have hz2 : w.heap.size + 1 < w1.heap.size := Nat.lt_of_lt_of_le HZ2.out hb1.size
  obtain ⟨x0, x1, x2, x3, x4, x5, x6, x7, x8, xz⟩ := HP1.out
  obtain ⟨y0, y1, y2, y3, y4, y5, y6, y7, y8, yz⟩ := HP2.out
  dsimp only at x0 x1 x2 x3 x4 x5 x6 x7 x8 y0 y1 y2 y3 y4 y5 y6 y7 y8
  have HGW := Lib.hid (HGreat.out w1 hbb1)
  have HB1 := Lib.hid hbb1
  clear HN1 HN2 HZ1 HZ2 hbw hb1 hbb1 HGreat HSh
  go_wp2_with fail
  refine HGW.out.mono ?_
  rintro e w2 ⟨rfl, hb2⟩
  have hq : Below w1.heap.size w1 w2 := ((Below.refl _ _).alloc (Nat.le_refl _) _).trans (hb2.mono (by simp))
  have HM1 := Lib.hid (HP1.out.below hq hz1)
  have HM2 := Lib.hid (HP2.out.below hq hz2)
  have hbb2 : Below w.heap.size w w2.drew := (HB1.out.trans (hq.mono HB1.out.size)).drewN 1
  have HB2' : Hid (Below w.heap.size w w2) := Lib.hid (HB1.out.trans (hq.mono HB1.out.size))
  have hz1' : w.heap.size < w2.heap.size := Nat.lt_of_lt_of_le hz1 hq.size
  have hz2' : w.heap.size + 1 < w2.heap.size := Nat.lt_of_lt_of_le hz2 hq.size
  clear x0 x1 x2 x3 x4 x5 x6 x7 x8 xz y0 y1 y2 y3 y4 y5 y6 y7 y8 yz
  clear HP1 HP2 HB1 HGW hz1 hz2 hb2 hq
  cases G
  · obtain ⟨hn1, hn2⟩ := HN.out rfl
    have HLa := Lib.hid (HL1.out hn1)
    have HLb := Lib.hid (HL2.out hn2)
    have HR' := Lib.hid (HR.out hn1 hn2)
    have HC' := Lib.hid (HC.out hn1 hn2)
    have HLs' := Lib.hid (HLs.out hn1 hn2)
    have HB2 := Lib.hid hbb2
    have HD1 := Lib.hid (show Nine w2.drew w.heap.size ⟨k1, i1, g1, n1, fn1, a1, by1, s1⟩ (.slice p1 m1 c1) from nine_drew HM1.out)
    have HD2 := Lib.hid (show Nine w2.drew (w.heap.size + 1) ⟨k2, i2, g2, n2, fn2, a2, by2, s2⟩ (.slice p2 m2 c2) from nine_drew HM2.out)
    have hn20 : w.heap.size ≠ w2.heap.size := by omega
    have hn21 : w.heap.size ≠ w2.heap.size + 1 := by omega
    have hn22 : w.heap.size + 1 ≠ w2.heap.size := by omega
    have hn23 : w.heap.size + 1 ≠ w2.heap.size + 1 := by omega
    have hd1 : w.heap.size < w2.drew.heap.size := hz1'
    have hd2 : w.heap.size + 1 < w2.drew.heap.size := hz2'
    have HB2w := HB2'
    clear HL1 HL2 HR HC HLs HN hn1 hn2 hbb2 HB2'
    obtain ⟨x0, x1, x2, x3, x4, x5, x6, x7, x8, xz⟩ := HM1.out
    obtain ⟨y0, y1, y2, y3, y4, y5, y6, y7, y8, yz⟩ := HM2.out
    dsimp only at x0 x1 x2 x3 x4 x5 x6 x7 x8 y0 y1 y2 y3 y4 y5 y6 y7 y8
    clear HM1 HM2
    have hG0 : Hid (∀ (W : World), Below w.heap.size w W → Below w.heap.size w W) := Lib.hid (fun W h => h)
    have hG1 : Hid (∀ (W : World), Below w.heap.size w W → Below w.heap.size w (W.alloc (.cells #[.int .i64 0, .int .i64 0, .int .i64 0, .string ⟨#[]⟩, .string ⟨#[]⟩, .int .i64 0, .slice none 0 0, .string ⟨#[]⟩, .int .i64 0] 24))) := Lib.hid (fun W h => h.alloc h.size _)
    have hG2 : Hid (∀ (W : World), Below w.heap.size w W → Below w.heap.size w ((W.alloc (.cells #[.int .i64 0, .int .i64 0, .int .i64 0, .string ⟨#[]⟩, .string ⟨#[]⟩, .int .i64 0, .slice none 0 0, .string ⟨#[]⟩, .int .i64 0] 24)).alloc (.cells #[.int .i64 0, .int .i64 0, .int .i64 0, .string ⟨#[]⟩, .string ⟨#[]⟩, .int .i64 0, .slice none 0 0, .string ⟨#[]⟩, .int .i64 0] 24))) := Lib.hid (fun W h => (h.alloc h.size _).alloc (h.alloc h.size _).size _)
    have hA0 : Hid (∀ (W w' : World), Below W.heap.size W w' → Below W.heap.size W w') := Lib.hid (fun W w' h => h)
    have hA1 : Hid (∀ (W w' : World), Below (W.alloc (.cells #[.int .i64 0, .int .i64 0, .int .i64 0, .string ⟨#[]⟩, .string ⟨#[]⟩, .int .i64 0, .slice none 0 0, .string ⟨#[]⟩, .int .i64 0] 24)).heap.size (W.alloc (.cells #[.int .i64 0, .int .i64 0, .int .i64 0, .string ⟨#[]⟩, .string ⟨#[]⟩, .int .i64 0, .slice none 0 0, .string ⟨#[]⟩, .int .i64 0] 24)) w' → Below W.heap.size W w') := Lib.hid (fun W w' h => below_z1 W w' h)
    have hA2 : Hid (∀ (W w' : World), Below ((W.alloc (.cells #[.int .i64 0, .int .i64 0, .int .i64 0, .string ⟨#[]⟩, .string ⟨#[]⟩, .int .i64 0, .slice none 0 0, .string ⟨#[]⟩, .int .i64 0] 24)).alloc (.cells #[.int .i64 0, .int .i64 0, .int .i64 0, .string ⟨#[]⟩, .string ⟨#[]⟩, .int .i64 0, .slice none 0 0, .string ⟨#[]⟩, .int .i64 0] 24)).heap.size ((W.alloc (.cells #[.int .i64 0, .int .i64 0, .int .i64 0, .string ⟨#[]⟩, .string ⟨#[]⟩, .int .i64 0, .slice none 0 0, .string ⟨#[]⟩, .int .i64 0] 24)).alloc (.cells #[.int .i64 0, .int .i64 0, .int .i64 0, .string ⟨#[]⟩, .string ⟨#[]⟩, .int .i64 0, .slice none 0 0, .string ⟨#[]⟩, .int .i64 0] 24)) w' → Below W.heap.size W w') := Lib.hid (fun W w' h => below_z2 W w' h)
    have hZ10 : Hid (∀ (W w' : World), Below (W.alloc (.cells #[.int .i64 0, .int .i64 0, .int .i64 0, .string ⟨#[]⟩, .string ⟨#[]⟩, .int .i64 0, .slice none 0 0, .string ⟨#[]⟩, .int .i64 0] 24)).heap.size (W.alloc (.cells #[.int .i64 0, .int .i64 0, .int .i64 0, .string ⟨#[]⟩, .string ⟨#[]⟩, .int .i64 0, .slice none 0 0, .string ⟨#[]⟩, .int .i64 0] 24)) w' → w'.heap[W.heap.size]? = some (cells9 zeroF nilV) ∧ W.heap.size < w'.heap.size) := Lib.hid (fun W w' h => alloc_z1 W w' h)
    have hZ20 : Hid (∀ (W w' : World), Below ((W.alloc (.cells #[.int .i64 0, .int .i64 0, .int .i64 0, .string ⟨#[]⟩, .string ⟨#[]⟩, .int .i64 0, .slice none 0 0, .string ⟨#[]⟩, .int .i64 0] 24)).alloc (.cells #[.int .i64 0, .int .i64 0, .int .i64 0, .string ⟨#[]⟩, .string ⟨#[]⟩, .int .i64 0, .slice none 0 0, .string ⟨#[]⟩, .int .i64 0] 24)).heap.size ((W.alloc (.cells #[.int .i64 0, .int .i64 0, .int .i64 0, .string ⟨#[]⟩, .string ⟨#[]⟩, .int .i64 0, .slice none 0 0, .string ⟨#[]⟩, .int .i64 0] 24)).alloc (.cells #[.int .i64 0, .int .i64 0, .int .i64 0, .string ⟨#[]⟩, .string ⟨#[]⟩, .int .i64 0, .slice none 0 0, .string ⟨#[]⟩, .int .i64 0] 24)) w' → w'.heap[W.heap.size]? = some (cells9 zeroF nilV) ∧ W.heap.size < w'.heap.size) := Lib.hid (fun W w' h => (alloc_z2 W w' h).1)
    have hZ21 : Hid (∀ (W w' : World), Below ((W.alloc (.cells #[.int .i64 0, .int .i64 0, .int .i64 0, .string ⟨#[]⟩, .string ⟨#[]⟩, .int .i64 0, .slice none 0 0, .string ⟨#[]⟩, .int .i64 0] 24)).alloc (.cells #[.int .i64 0, .int .i64 0, .int .i64 0, .string ⟨#[]⟩, .string ⟨#[]⟩, .int .i64 0, .slice none 0 0, .string ⟨#[]⟩, .int .i64 0] 24)).heap.size ((W.alloc (.cells #[.int .i64 0, .int .i64 0, .int .i64 0, .string ⟨#[]⟩, .string ⟨#[]⟩, .int .i64 0, .slice none 0 0, .string ⟨#[]⟩, .int .i64 0] 24)).alloc (.cells #[.int .i64 0, .int .i64 0, .int .i64 0, .string ⟨#[]⟩, .string ⟨#[]⟩, .int .i64 0, .slice none 0 0, .string ⟨#[]⟩, .int .i64 0] 24)) w' → w'.heap[W.heap.size + 1]? = some (cells9 zeroF nilV) ∧ W.heap.size + 1 < w'.heap.size) := Lib.hid (fun W w' h => (alloc_z2 W w' h).2)
    go_wp2_with fail
    go_cut [5, 6] from 14 to 17 (TwoRel w ⟨k1, i1, g1, n1, fn1, a1, by1, s1⟩ ⟨k2, i2, g2, n2, fn2, a2, by2, s2⟩ (.slice p1 m1 c1) (.slice p2 m2 c2) m1 m2 (.slice p1 m1 c1) (.slice p2 m2 c2) l1 l2)
    case first =>
      go_region_held3 (fun w' => (w'.cell? ⟨w.heap.size, 0, none⟩ = some (.int .i64 k1) ∧ w'.cell? ⟨w.heap.size, 1, none⟩ = some (.int .i64 i1) ∧ w'.cell? ⟨w.heap.size, 2, none⟩ = some (.int .i64 g1) ∧ w'.cell? ⟨w.heap.size, 3, none⟩ = some (.string n1) ∧ w'.cell? ⟨w.heap.size, 4, none⟩ = some (.string fn1) ∧ w'.cell? ⟨w.heap.size, 5, none⟩ = some (.int .i64 a1) ∧ w'.cell? ⟨w.heap.size, 6, none⟩ = some (.slice p1 m1 c1) ∧ w'.cell? ⟨w.heap.size, 7, none⟩ = some (.string by1) ∧ w'.cell? ⟨w.heap.size, 8, none⟩ = some (.int .i64 s1)) ∧ w'.cell? ⟨w.heap.size + 1, 0, none⟩ = some (.int .i64 k2) ∧ w'.cell? ⟨w.heap.size + 1, 1, none⟩ = some (.int .i64 i2) ∧ w'.cell? ⟨w.heap.size + 1, 2, none⟩ = some (.int .i64 g2) ∧ w'.cell? ⟨w.heap.size + 1, 3, none⟩ = some (.string n2) ∧ w'.cell? ⟨w.heap.size + 1, 4, none⟩ = some (.string fn2) ∧ w'.cell? ⟨w.heap.size + 1, 5, none⟩ = some (.int .i64 a2) ∧ w'.cell? ⟨w.heap.size + 1, 6, none⟩ = some (.slice p2 m2 c2) ∧ w'.cell? ⟨w.heap.size + 1, 7, none⟩ = some (.string by2) ∧ w'.cell? ⟨w.heap.size + 1, 8, none⟩ = some (.int .i64 s2)) (((refine ⟨⟨?_, ?_, ?_, ?_, ?_, ?_, ?_, ?_, ?_⟩, ?_, ?_, ?_, ?_, ?_, ?_, ?_, ?_, ?_⟩) <;> (repeat' (first | with_reducible refine keep_alloc ?_ | with_reducible refine keep_drew ?_ | with_reducible refine keep_set ?_ ?_ | with_reducible assumption | (dsimp only; omega)))))
        (first
        | (go_at_call 12; (with_reducible refine (HLa.out w2.drew (undrew2 (hG0.out w2 HB2w.out))).mono ?_); rintro e w3 ⟨F3, p3, c3, rfl, hL3⟩; have hw23' := hA0.out w2 w3 (undrew hL3.below); have hw23 : Below w2.drew.heap.size w2.drew w3 := redrew hw23'; have hB3 := HB2.out.trans (hw23.mono HB2.out.size); have hq1 := Lib.hid (HD1.out.below hw23 hd1); have hq2 := Lib.hid (HD2.out.below hw23 hd2); obtain ⟨q0, q1, q2, q3, q4, q5, q6, q7, q8, qz⟩ := hq1.out; dsimp only [zeroF, nilV] at q0 q1 q2 q3 q4 q5 q6 q7 q8; obtain ⟨r0, r1, r2, r3, r4, r5, r6, r7, r8, rz⟩ := hq2.out; dsimp only [zeroF, nilV] at r0 r1 r2 r3 r4 r5 r6 r7 r8; have tok0 : True := trivial; have hle3 : w2.heap.size ≤ w3.heap.size := hw23.size; have hn30 : w.heap.size ≠ w3.heap.size := (by omega); have hn31 : w.heap.size ≠ w3.heap.size + 1 := (by omega); have hn32 : w.heap.size + 1 ≠ w3.heap.size := (by omega); have hn33 : w.heap.size + 1 ≠ w3.heap.size + 1 := (by omega))
        | (go_at_call 12; (with_reducible refine (HLa.out (w2.alloc (.cells #[.int .i64 0, .int .i64 0, .int .i64 0, .string ⟨#[]⟩, .string ⟨#[]⟩, .int .i64 0, .slice none 0 0, .string ⟨#[]⟩, .int .i64 0] 24)).drew (undrew2 (hG1.out w2 HB2w.out))).mono ?_); rintro e w3 ⟨F3, p3, c3, rfl, hL3⟩; have hw23' := hA1.out w2 w3 (undrew hL3.below); have hw23 : Below w2.drew.heap.size w2.drew w3 := redrew hw23'; have hB3 := HB2.out.trans (hw23.mono HB2.out.size); have hq1 := Lib.hid (HD1.out.below hw23 hd1); have hq2 := Lib.hid (HD2.out.below hw23 hd2); obtain ⟨q0, q1, q2, q3, q4, q5, q6, q7, q8, qz⟩ := hq1.out; dsimp only [zeroF, nilV] at q0 q1 q2 q3 q4 q5 q6 q7 q8; obtain ⟨r0, r1, r2, r3, r4, r5, r6, r7, r8, rz⟩ := hq2.out; dsimp only [zeroF, nilV] at r0 r1 r2 r3 r4 r5 r6 r7 r8; have tok1 : True := trivial; have hle3 : w2.heap.size ≤ w3.heap.size := hw23.size; have hn30 : w.heap.size ≠ w3.heap.size := (by omega); have hn31 : w.heap.size ≠ w3.heap.size + 1 := (by omega); have hn32 : w.heap.size + 1 ≠ w3.heap.size := (by omega); have hn33 : w.heap.size + 1 ≠ w3.heap.size + 1 := (by omega); have hZ0 := Lib.hid (show w3.heap[w2.heap.size]? = some (cells9 zeroF nilV) ∧ w2.heap.size < w3.heap.size from hZ10.out w2 w3 (undrew hL3.below)); have hzl0 := hZ0.out.2; obtain ⟨az0, az1, az2, az3, az4, az5, az6, az7, az8, azz⟩ := (nine_of hZ0.out.1); dsimp only [zeroF, nilV] at az0 az1 az2 az3 az4 az5 az6 az7 az8)
        | (go_at_call 12; (with_reducible refine (HLa.out ((w2.alloc (.cells #[.int .i64 0, .int .i64 0, .int .i64 0, .string ⟨#[]⟩, .string ⟨#[]⟩, .int .i64 0, .slice none 0 0, .string ⟨#[]⟩, .int .i64 0] 24)).alloc (.cells #[.int .i64 0, .int .i64 0, .int .i64 0, .string ⟨#[]⟩, .string ⟨#[]⟩, .int .i64 0, .slice none 0 0, .string ⟨#[]⟩, .int .i64 0] 24)).drew (undrew2 (hG2.out w2 HB2w.out))).mono ?_); rintro e w3 ⟨F3, p3, c3, rfl, hL3⟩; have hw23' := hA2.out w2 w3 (undrew hL3.below); have hw23 : Below w2.drew.heap.size w2.drew w3 := redrew hw23'; have hB3 := HB2.out.trans (hw23.mono HB2.out.size); have hq1 := Lib.hid (HD1.out.below hw23 hd1); have hq2 := Lib.hid (HD2.out.below hw23 hd2); obtain ⟨q0, q1, q2, q3, q4, q5, q6, q7, q8, qz⟩ := hq1.out; dsimp only [zeroF, nilV] at q0 q1 q2 q3 q4 q5 q6 q7 q8; obtain ⟨r0, r1, r2, r3, r4, r5, r6, r7, r8, rz⟩ := hq2.out; dsimp only [zeroF, nilV] at r0 r1 r2 r3 r4 r5 r6 r7 r8; have tok2 : True := trivial; have hle3 : w2.heap.size ≤ w3.heap.size := hw23.size; have hn30 : w.heap.size ≠ w3.heap.size := (by omega); have hn31 : w.heap.size ≠ w3.heap.size + 1 := (by omega); have hn32 : w.heap.size + 1 ≠ w3.heap.size := (by omega); have hn33 : w.heap.size + 1 ≠ w3.heap.size + 1 := (by omega); have hZ0 := Lib.hid (show w3.heap[w2.heap.size]? = some (cells9 zeroF nilV) ∧ w2.heap.size < w3.heap.size from hZ20.out w2 w3 (undrew hL3.below)); have hzl0 := hZ0.out.2; obtain ⟨az0, az1, az2, az3, az4, az5, az6, az7, az8, azz⟩ := (nine_of hZ0.out.1); dsimp only [zeroF, nilV] at az0 az1 az2 az3 az4 az5 az6 az7 az8; have hZ1 := Lib.hid (show w3.heap[w2.heap.size + 1]? = some (cells9 zeroF nilV) ∧ w2.heap.size + 1 < w3.heap.size from hZ21.out w2 w3 (undrew hL3.below)); have hzl1 := hZ1.out.2; obtain ⟨bz0, bz1, bz2, bz3, bz4, bz5, bz6, bz7, bz8, bzz⟩ := (nine_of hZ1.out.1); dsimp only [zeroF, nilV] at bz0 bz1 bz2 bz3 bz4 bz5 bz6 bz7 bz8)
        | (clear tok0; go_at_call 12; (with_reducible refine (HLb.out w3 (hG0.out w3 hB3)).mono ?_); rintro e w4 ⟨F4, p4, c4, rfl, hL4⟩; have hw34 := hA0.out w3 w4 hL4.below; have hB4 := hB3.trans (hw34.mono hB3.size); have hr1 := Lib.hid (hq1.out.below hw34 (Nat.lt_of_lt_of_le hd1 hw23.size)); have hr2 := Lib.hid (hq2.out.below hw34 (Nat.lt_of_lt_of_le hd2 hw23.size)); obtain ⟨sa0, sa1, sa2, sa3, sa4, sa5, sa6, sa7, sa8, saz⟩ := hr1.out; dsimp only [zeroF, nilV] at sa0 sa1 sa2 sa3 sa4 sa5 sa6 sa7 sa8; obtain ⟨ta0, ta1, ta2, ta3, ta4, ta5, ta6, ta7, ta8, taz⟩ := hr2.out; dsimp only [zeroF, nilV] at ta0 ta1 ta2 ta3 ta4 ta5 ta6 ta7 ta8; have hle4 : w3.heap.size ≤ w4.heap.size := hw34.size; have hn40 : w.heap.size ≠ w4.heap.size := (by omega); have hn41 : w.heap.size ≠ w4.heap.size + 1 := (by omega); have hn42 : w.heap.size + 1 ≠ w4.heap.size := (by omega); have hn43 : w.heap.size + 1 ≠ w4.heap.size + 1 := (by omega))
        | (clear tok0; go_at_call 12; (with_reducible refine (HLb.out (w3.alloc (.cells #[.int .i64 0, .int .i64 0, .int .i64 0, .string ⟨#[]⟩, .string ⟨#[]⟩, .int .i64 0, .slice none 0 0, .string ⟨#[]⟩, .int .i64 0] 24)) (hG1.out w3 hB3)).mono ?_); rintro e w4 ⟨F4, p4, c4, rfl, hL4⟩; have hw34 := hA1.out w3 w4 hL4.below; have hB4 := hB3.trans (hw34.mono hB3.size); have hr1 := Lib.hid (hq1.out.below hw34 (Nat.lt_of_lt_of_le hd1 hw23.size)); have hr2 := Lib.hid (hq2.out.below hw34 (Nat.lt_of_lt_of_le hd2 hw23.size)); obtain ⟨sa0, sa1, sa2, sa3, sa4, sa5, sa6, sa7, sa8, saz⟩ := hr1.out; dsimp only [zeroF, nilV] at sa0 sa1 sa2 sa3 sa4 sa5 sa6 sa7 sa8; obtain ⟨ta0, ta1, ta2, ta3, ta4, ta5, ta6, ta7, ta8, taz⟩ := hr2.out; dsimp only [zeroF, nilV] at ta0 ta1 ta2 ta3 ta4 ta5 ta6 ta7 ta8; have hle4 : w3.heap.size ≤ w4.heap.size := hw34.size; have hn40 : w.heap.size ≠ w4.heap.size := (by omega); have hn41 : w.heap.size ≠ w4.heap.size + 1 := (by omega); have hn42 : w.heap.size + 1 ≠ w4.heap.size := (by omega); have hn43 : w.heap.size + 1 ≠ w4.heap.size + 1 := (by omega); have hY0 := Lib.hid (hZ10.out w3 w4 hL4.below); have hyl0 := hY0.out.2; obtain ⟨aw0, aw1, aw2, aw3, aw4, aw5, aw6, aw7, aw8, awz⟩ := (nine_of hY0.out.1); dsimp only [zeroF, nilV] at aw0 aw1 aw2 aw3 aw4 aw5 aw6 aw7 aw8; have hv00 : w3.heap.size ≠ w4.heap.size := (by have := hyl0; omega); have hv01 : w3.heap.size ≠ w4.heap.size + 1 := (by have := hyl0; omega))
        | (clear tok0; go_at_call 12; (with_reducible refine (HLb.out ((w3.alloc (.cells #[.int .i64 0, .int .i64 0, .int .i64 0, .string ⟨#[]⟩, .string ⟨#[]⟩, .int .i64 0, .slice none 0 0, .string ⟨#[]⟩, .int .i64 0] 24)).alloc (.cells #[.int .i64 0, .int .i64 0, .int .i64 0, .string ⟨#[]⟩, .string ⟨#[]⟩, .int .i64 0, .slice none 0 0, .string ⟨#[]⟩, .int .i64 0] 24)) (hG2.out w3 hB3)).mono ?_); rintro e w4 ⟨F4, p4, c4, rfl, hL4⟩; have hw34 := hA2.out w3 w4 hL4.below; have hB4 := hB3.trans (hw34.mono hB3.size); have hr1 := Lib.hid (hq1.out.below hw34 (Nat.lt_of_lt_of_le hd1 hw23.size)); have hr2 := Lib.hid (hq2.out.below hw34 (Nat.lt_of_lt_of_le hd2 hw23.size)); obtain ⟨sa0, sa1, sa2, sa3, sa4, sa5, sa6, sa7, sa8, saz⟩ := hr1.out; dsimp only [zeroF, nilV] at sa0 sa1 sa2 sa3 sa4 sa5 sa6 sa7 sa8; obtain ⟨ta0, ta1, ta2, ta3, ta4, ta5, ta6, ta7, ta8, taz⟩ := hr2.out; dsimp only [zeroF, nilV] at ta0 ta1 ta2 ta3 ta4 ta5 ta6 ta7 ta8; have hle4 : w3.heap.size ≤ w4.heap.size := hw34.size; have hn40 : w.heap.size ≠ w4.heap.size := (by omega); have hn41 : w.heap.size ≠ w4.heap.size + 1 := (by omega); have hn42 : w.heap.size + 1 ≠ w4.heap.size := (by omega); have hn43 : w.heap.size + 1 ≠ w4.heap.size + 1 := (by omega); have hY0 := Lib.hid (hZ20.out w3 w4 hL4.below); have hyl0 := hY0.out.2; obtain ⟨aw0, aw1, aw2, aw3, aw4, aw5, aw6, aw7, aw8, awz⟩ := (nine_of hY0.out.1); dsimp only [zeroF, nilV] at aw0 aw1 aw2 aw3 aw4 aw5 aw6 aw7 aw8; have hY1 := Lib.hid (hZ21.out w3 w4 hL4.below); have hyl1 := hY1.out.2; obtain ⟨bw0, bw1, bw2, bw3, bw4, bw5, bw6, bw7, bw8, bwz⟩ := (nine_of hY1.out.1); dsimp only [zeroF, nilV] at bw0 bw1 bw2 bw3 bw4 bw5 bw6 bw7 bw8; have hv00 : w3.heap.size ≠ w4.heap.size := (by have := hyl0; omega); have hv01 : w3.heap.size ≠ w4.heap.size + 1 := (by have := hyl0; omega); have hv10 : w3.heap.size + 1 ≠ w4.heap.size := (by have := hyl1; omega); have hv11 : w3.heap.size + 1 ≠ w4.heap.size + 1 := (by have := hyl1; omega))
        | (clear tok1; go_at_call 12; (with_reducible refine (HLb.out w3 (hG0.out w3 hB3)).mono ?_); rintro e w4 ⟨F4, p4, c4, rfl, hL4⟩; have hw34 := hA0.out w3 w4 hL4.below; have hB4 := hB3.trans (hw34.mono hB3.size); have hr1 := Lib.hid (hq1.out.below hw34 (Nat.lt_of_lt_of_le hd1 hw23.size)); have hr2 := Lib.hid (hq2.out.below hw34 (Nat.lt_of_lt_of_le hd2 hw23.size)); obtain ⟨sa0, sa1, sa2, sa3, sa4, sa5, sa6, sa7, sa8, saz⟩ := hr1.out; dsimp only [zeroF, nilV] at sa0 sa1 sa2 sa3 sa4 sa5 sa6 sa7 sa8; obtain ⟨ta0, ta1, ta2, ta3, ta4, ta5, ta6, ta7, ta8, taz⟩ := hr2.out; dsimp only [zeroF, nilV] at ta0 ta1 ta2 ta3 ta4 ta5 ta6 ta7 ta8; have hle4 : w3.heap.size ≤ w4.heap.size := hw34.size; have hn40 : w.heap.size ≠ w4.heap.size := (by omega); have hn41 : w.heap.size ≠ w4.heap.size + 1 := (by omega); have hn42 : w.heap.size + 1 ≠ w4.heap.size := (by omega); have hn43 : w.heap.size + 1 ≠ w4.heap.size + 1 := (by omega); have hY0 := Lib.hid (zkeep hZ0.out hw34); have hyl0 := hY0.out.2; obtain ⟨aw0, aw1, aw2, aw3, aw4, aw5, aw6, aw7, aw8, awz⟩ := (nine_of hY0.out.1); dsimp only [zeroF, nilV] at aw0 aw1 aw2 aw3 aw4 aw5 aw6 aw7 aw8; have hm00 : w2.heap.size ≠ w4.heap.size := (by have := hzl0; omega); have hm01 : w2.heap.size ≠ w4.heap.size + 1 := (by have := hzl0; omega); have hp00 : w2.heap.size ≠ w3.heap.size := (by have := hzl0; omega); have hp01 : w2.heap.size ≠ w3.heap.size + 1 := (by have := hzl0; omega))
        | (clear tok1; go_at_call 12; (with_reducible refine (HLb.out (w3.alloc (.cells #[.int .i64 0, .int .i64 0, .int .i64 0, .string ⟨#[]⟩, .string ⟨#[]⟩, .int .i64 0, .slice none 0 0, .string ⟨#[]⟩, .int .i64 0] 24)) (hG1.out w3 hB3)).mono ?_); rintro e w4 ⟨F4, p4, c4, rfl, hL4⟩; have hw34 := hA1.out w3 w4 hL4.below; have hB4 := hB3.trans (hw34.mono hB3.size); have hr1 := Lib.hid (hq1.out.below hw34 (Nat.lt_of_lt_of_le hd1 hw23.size)); have hr2 := Lib.hid (hq2.out.below hw34 (Nat.lt_of_lt_of_le hd2 hw23.size)); obtain ⟨sa0, sa1, sa2, sa3, sa4, sa5, sa6, sa7, sa8, saz⟩ := hr1.out; dsimp only [zeroF, nilV] at sa0 sa1 sa2 sa3 sa4 sa5 sa6 sa7 sa8; obtain ⟨ta0, ta1, ta2, ta3, ta4, ta5, ta6, ta7, ta8, taz⟩ := hr2.out; dsimp only [zeroF, nilV] at ta0 ta1 ta2 ta3 ta4 ta5 ta6 ta7 ta8; have hle4 : w3.heap.size ≤ w4.heap.size := hw34.size; have hn40 : w.heap.size ≠ w4.heap.size := (by omega); have hn41 : w.heap.size ≠ w4.heap.size + 1 := (by omega); have hn42 : w.heap.size + 1 ≠ w4.heap.size := (by omega); have hn43 : w.heap.size + 1 ≠ w4.heap.size + 1 := (by omega); have hY0 := Lib.hid (zkeep hZ0.out hw34); have hyl0 := hY0.out.2; obtain ⟨aw0, aw1, aw2, aw3, aw4, aw5, aw6, aw7, aw8, awz⟩ := (nine_of hY0.out.1); dsimp only [zeroF, nilV] at aw0 aw1 aw2 aw3 aw4 aw5 aw6 aw7 aw8; have hm00 : w2.heap.size ≠ w4.heap.size := (by have := hzl0; omega); have hm01 : w2.heap.size ≠ w4.heap.size + 1 := (by have := hzl0; omega); have hp00 : w2.heap.size ≠ w3.heap.size := (by have := hzl0; omega); have hp01 : w2.heap.size ≠ w3.heap.size + 1 := (by have := hzl0; omega); have hY1 := Lib.hid (hZ10.out w3 w4 hL4.below); have hyl1 := hY1.out.2; obtain ⟨bw0, bw1, bw2, bw3, bw4, bw5, bw6, bw7, bw8, bwz⟩ := (nine_of hY1.out.1); dsimp only [zeroF, nilV] at bw0 bw1 bw2 bw3 bw4 bw5 bw6 bw7 bw8; have hv00 : w3.heap.size ≠ w4.heap.size := (by have := hyl1; omega); have hv01 : w3.heap.size ≠ w4.heap.size + 1 := (by have := hyl1; omega))
        | (clear tok2; go_at_call 12; (with_reducible refine (HLb.out w3 (hG0.out w3 hB3)).mono ?_); rintro e w4 ⟨F4, p4, c4, rfl, hL4⟩; have hw34 := hA0.out w3 w4 hL4.below; have hB4 := hB3.trans (hw34.mono hB3.size); have hr1 := Lib.hid (hq1.out.below hw34 (Nat.lt_of_lt_of_le hd1 hw23.size)); have hr2 := Lib.hid (hq2.out.below hw34 (Nat.lt_of_lt_of_le hd2 hw23.size)); obtain ⟨sa0, sa1, sa2, sa3, sa4, sa5, sa6, sa7, sa8, saz⟩ := hr1.out; dsimp only [zeroF, nilV] at sa0 sa1 sa2 sa3 sa4 sa5 sa6 sa7 sa8; obtain ⟨ta0, ta1, ta2, ta3, ta4, ta5, ta6, ta7, ta8, taz⟩ := hr2.out; dsimp only [zeroF, nilV] at ta0 ta1 ta2 ta3 ta4 ta5 ta6 ta7 ta8; have hle4 : w3.heap.size ≤ w4.heap.size := hw34.size; have hn40 : w.heap.size ≠ w4.heap.size := (by omega); have hn41 : w.heap.size ≠ w4.heap.size + 1 := (by omega); have hn42 : w.heap.size + 1 ≠ w4.heap.size := (by omega); have hn43 : w.heap.size + 1 ≠ w4.heap.size + 1 := (by omega); have hY0 := Lib.hid (zkeep hZ0.out hw34); have hyl0 := hY0.out.2; obtain ⟨aw0, aw1, aw2, aw3, aw4, aw5, aw6, aw7, aw8, awz⟩ := (nine_of hY0.out.1); dsimp only [zeroF, nilV] at aw0 aw1 aw2 aw3 aw4 aw5 aw6 aw7 aw8; have hY1 := Lib.hid (zkeep hZ1.out hw34); have hyl1 := hY1.out.2; obtain ⟨bw0, bw1, bw2, bw3, bw4, bw5, bw6, bw7, bw8, bwz⟩ := (nine_of hY1.out.1); dsimp only [zeroF, nilV] at bw0 bw1 bw2 bw3 bw4 bw5 bw6 bw7 bw8; have hm00 : w2.heap.size ≠ w4.heap.size := (by have := hzl0; omega); have hm01 : w2.heap.size ≠ w4.heap.size + 1 := (by have := hzl0; omega); have hp00 : w2.heap.size ≠ w3.heap.size := (by have := hzl0; omega); have hp01 : w2.heap.size ≠ w3.heap.size + 1 := (by have := hzl0; omega); have hm10 : w2.heap.size + 1 ≠ w4.heap.size := (by have := hzl1; omega); have hm11 : w2.heap.size + 1 ≠ w4.heap.size + 1 := (by have := hzl1; omega); have hp10 : w2.heap.size + 1 ≠ w3.heap.size := (by have := hzl1; omega); have hp11 : w2.heap.size + 1 ≠ w3.heap.size + 1 := (by have := hzl1; omega)))
      all_goals
        go_wp2_with fail
        go_meet
        (try clear hn20); (try clear hn21); (try clear hn22); (try clear hn23); (try clear hn30); (try clear hn31); (try clear hn32); (try clear hn33); (try clear hn40); (try clear hn41); (try clear hn42); (try clear hn43); (try clear hm00); (try clear hm01); (try clear hm10); (try clear hm11); (try clear hp00); (try clear hp01); (try clear hp10); (try clear hp11); (try clear hv00); (try clear hv01); (try clear hv10); (try clear hv11)
        refine ⟨_, _, p3, c3, p4, c4, rfl, rfl, ?_, ?_, ?_, ?_, ?_, ?_, ?_, ?_, ?_, ?_⟩
        · (repeat' (first | ((with_reducible refine nine_new _ _ _ _ _ ?_ ?_); (focus rfl); (simp; done)) | with_reducible refine nine_sets ⟨k1, i1, g1, n1, fn1, a1, by1, s1⟩ (.slice p3 m1 c3) ?_ | with_reducible refine nine_ksets ⟨k1, i1, g1, n1, fn1, a1, by1, s1⟩ (.slice p3 m1 c3) ?_ ?_ | with_reducible refine nine_ksets ⟨k2, i2, g2, n2, fn2, a2, by2, s2⟩ (.slice p4 m2 c4) ?_ ?_ | with_reducible refine nine_kset ?_ ?_ | with_reducible refine nine_kalloc ?_ ?_ | with_reducible exact hY0.out.1 | with_reducible exact hY1.out.1 | with_reducible refine heap_ksets ⟨k1, i1, g1, n1, fn1, a1, by1, s1⟩ (.slice p3 m1 c3) ?_ ?_ | with_reducible refine heap_ksets ⟨k2, i2, g2, n2, fn2, a2, by2, s2⟩ (.slice p4 m2 c4) ?_ ?_ | with_reducible refine heap_kset ?_ ?_ | (simp; done) | omega | (simp; omega)))
        · (repeat' (first | ((with_reducible refine nine_new _ _ _ _ _ ?_ ?_); (focus rfl); (simp; done)) | with_reducible refine nine_sets ⟨k2, i2, g2, n2, fn2, a2, by2, s2⟩ (.slice p4 m2 c4) ?_ | with_reducible refine nine_ksets ⟨k1, i1, g1, n1, fn1, a1, by1, s1⟩ (.slice p3 m1 c3) ?_ ?_ | with_reducible refine nine_ksets ⟨k2, i2, g2, n2, fn2, a2, by2, s2⟩ (.slice p4 m2 c4) ?_ ?_ | with_reducible refine nine_kset ?_ ?_ | with_reducible refine nine_kalloc ?_ ?_ | with_reducible exact hY0.out.1 | with_reducible exact hY1.out.1 | with_reducible refine heap_ksets ⟨k1, i1, g1, n1, fn1, a1, by1, s1⟩ (.slice p3 m1 c3) ?_ ?_ | with_reducible refine heap_ksets ⟨k2, i2, g2, n2, fn2, a2, by2, s2⟩ (.slice p4 m2 c4) ?_ ?_ | with_reducible refine heap_kset ?_ ?_ | (simp; done) | omega | (simp; omega)))
        · refine lent_final2 hL3 hw34 ?_ (by first | omega | (simp; done) | (simp; omega))
          (repeat' (first | with_reducible exact TouchB.refl _ _ | with_reducible refine TouchB.alloc ?_ _ | with_reducible refine touch_sets ⟨k1, i1, g1, n1, fn1, a1, by1, s1⟩ (.slice p3 m1 c3) ?_ ?_ | with_reducible refine touch_sets ⟨k2, i2, g2, n2, fn2, a2, by2, s2⟩ (.slice p4 m2 c4) ?_ ?_ | with_reducible refine TouchB.setCell ?_ _ _ ?_ | omega | (simp; omega) | (simp; done) | (intro _; simp; omega) | (intro _; simp; done)))
        · refine lent_final hL4 ?_ (by first | omega | (simp; done) | (simp; omega))
          (repeat' (first | with_reducible exact TouchB.refl _ _ | with_reducible refine TouchB.alloc ?_ _ | with_reducible refine touch_sets ⟨k1, i1, g1, n1, fn1, a1, by1, s1⟩ (.slice p3 m1 c3) ?_ ?_ | with_reducible refine touch_sets ⟨k2, i2, g2, n2, fn2, a2, by2, s2⟩ (.slice p4 m2 c4) ?_ ?_ | with_reducible refine TouchB.setCell ?_ _ _ ?_ | omega | (simp; omega) | (simp; done) | (intro _; simp; omega) | (intro _; simp; done)))
        · (repeat' (first | with_reducible exact hr1.out | with_reducible refine nine_ksets ⟨k1, i1, g1, n1, fn1, a1, by1, s1⟩ (.slice p3 m1 c3) ?_ ?_ | with_reducible refine nine_ksets ⟨k2, i2, g2, n2, fn2, a2, by2, s2⟩ (.slice p4 m2 c4) ?_ ?_ | with_reducible refine nine_kset ?_ ?_ | with_reducible refine nine_kalloc ?_ ?_ | (simp; done) | omega | (simp; omega)))
        · (repeat' (first | with_reducible exact hr2.out | with_reducible refine nine_ksets ⟨k1, i1, g1, n1, fn1, a1, by1, s1⟩ (.slice p3 m1 c3) ?_ ?_ | with_reducible refine nine_ksets ⟨k2, i2, g2, n2, fn2, a2, by2, s2⟩ (.slice p4 m2 c4) ?_ ?_ | with_reducible refine nine_kset ?_ ?_ | with_reducible refine nine_kalloc ?_ ?_ | (simp; done) | omega | (simp; omega)))
        · first | omega | (simp; done) | (simp; omega)
        · first | omega | (simp; done) | (simp; omega)
        · first | omega | (simp; done) | (simp; omega)
        · (repeat' (first | with_reducible exact hB4 | with_reducible refine Below.alloc ?_ ?_ _ | with_reducible refine below_sets ⟨k1, i1, g1, n1, fn1, a1, by1, s1⟩ (.slice p3 m1 c3) ?_ ?_ | with_reducible refine below_sets ⟨k2, i2, g2, n2, fn2, a2, by2, s2⟩ (.slice p4 m2 c4) ?_ ?_ | with_reducible refine Below.setCell ?_ ?_ _ | omega | (simp; omega)))
    case rest =>
      obtain ⟨z5, z6, p3, c3, p4, c4, rfl, rfl, hx5, hy6, hla, hlb, hbx, hby, le1, le2, le4, hBe⟩ := hcut
      have le3 : w.heap.size < wc.heap.size := by omega
      have He1 := Lib.hid hx5
      have He2 := Lib.hid hy6
      have He3 := Lib.hid hbx
      have He4 := Lib.hid hby
      have Le1 := Lib.hid hla
      have Le2 := Lib.hid hlb
      clear hx5 hy6 hla hlb hbx hby
      have f1 : (z == z) = true := by simp
      have f2 : (decide (z < 0) == decide (z < 0)) = true := by simp
      obtain ⟨ave0, ave1, ave2, ave3, ave4, ave5, ave6, ave7, ave8, avez⟩ := He1.out
      obtain ⟨bve0, bve1, bve2, bve3, bve4, bve5, bve6, bve7, bve8, bvez⟩ := He2.out
      obtain ⟨cve0, cve1, cve2, cve3, cve4, cve5, cve6, cve7, cve8, cvez⟩ := He3.out
      obtain ⟨dve0, dve1, dve2, dve3, dve4, dve5, dve6, dve7, dve8, dvez⟩ := He4.out
      dsimp only at ave0 ave1 ave2 ave3 ave4 ave5 ave6 ave7 ave8 bve0 bve1 bve2 bve3 bve4 bve5 bve6 bve7 bve8 cve0 cve1 cve2 cve3 cve4 cve5 cve6 cve7 cve8 dve0 dve1 dve2 dve3 dve4 dve5 dve6 dve7 dve8
      have HRw := Lib.hid (HR'.out wc hBe)
      go_wp2_with fail
      refine (HRw.out).mono ?_
      rintro e w3 ⟨rfl, hbf⟩
      have hBf := hBe.trans (hbf.mono hBe.size)
      have lf1 := Nat.lt_of_lt_of_le le1 hbf.size
      have lf2 := Nat.lt_of_lt_of_le le2 hbf.size
      have lf3 := Nat.lt_of_lt_of_le le3 hbf.size
      have lf4 := Nat.lt_of_lt_of_le le4 hbf.size
      have Hf1 := Lib.hid (He1.out.below hbf le1)
      have Hf2 := Lib.hid (He2.out.below hbf le2)
      have Hf3 := Lib.hid (He3.out.below hbf le3)
      have Hf4 := Lib.hid (He4.out.below hbf le4)
      have Lf1 := Lib.hid (Le1.out.below hbf)
      have Lf2 := Lib.hid (Le2.out.below hbf)
      clear ave0 ave1 ave2 ave3 ave4 ave5 ave6 ave7 ave8 avez bve0 bve1 bve2 bve3 bve4 bve5 bve6 bve7 bve8 bvez cve0 cve1 cve2 cve3 cve4 cve5 cve6 cve7 cve8 cvez dve0 dve1 dve2 dve3 dve4 dve5 dve6 dve7 dve8 dvez
      clear hbf hBe He1 le1 He2 le2 He3 le3 He4 le4 Le1 Le2
      obtain ⟨avf0, avf1, avf2, avf3, avf4, avf5, avf6, avf7, avf8, avfz⟩ := Hf1.out
      obtain ⟨bvf0, bvf1, bvf2, bvf3, bvf4, bvf5, bvf6, bvf7, bvf8, bvfz⟩ := Hf2.out
      obtain ⟨cvf0, cvf1, cvf2, cvf3, cvf4, cvf5, cvf6, cvf7, cvf8, cvfz⟩ := Hf3.out
      obtain ⟨dvf0, dvf1, dvf2, dvf3, dvf4, dvf5, dvf6, dvf7, dvf8, dvfz⟩ := Hf4.out
      dsimp only at avf0 avf1 avf2 avf3 avf4 avf5 avf6 avf7 avf8 bvf0 bvf1 bvf2 bvf3 bvf4 bvf5 bvf6 bvf7 bvf8 cvf0 cvf1 cvf2 cvf3 cvf4 cvf5 cvf6 cvf7 cvf8 dvf0 dvf1 dvf2 dvf3 dvf4 dvf5 dvf6 dvf7 dvf8
      have HCw := Lib.hid (HC'.out w3 _ _ Lf1.out Lf2.out)
      clear HRw
      go_wp2_with fail
      refine (HCw.out).mono ?_
      rintro e w4 ⟨rfl, hbg⟩
      have hBg := hBf.trans (hbg.mono hBf.size)
      have lg1 := Nat.lt_of_lt_of_le lf1 hbg.size
      have lg2 := Nat.lt_of_lt_of_le lf2 hbg.size
      have lg3 := Nat.lt_of_lt_of_le lf3 hbg.size
      have lg4 := Nat.lt_of_lt_of_le lf4 hbg.size
      have Hg1 := Lib.hid (Hf1.out.below hbg lf1)
      have Hg2 := Lib.hid (Hf2.out.below hbg lf2)
      have Hg3 := Lib.hid (Hf3.out.below hbg lf3)
      have Hg4 := Lib.hid (Hf4.out.below hbg lf4)
      have Lg1 := Lib.hid (Lf1.out.below hbg)
      have Lg2 := Lib.hid (Lf2.out.below hbg)
      clear avf0 avf1 avf2 avf3 avf4 avf5 avf6 avf7 avf8 avfz bvf0 bvf1 bvf2 bvf3 bvf4 bvf5 bvf6 bvf7 bvf8 bvfz cvf0 cvf1 cvf2 cvf3 cvf4 cvf5 cvf6 cvf7 cvf8 cvfz dvf0 dvf1 dvf2 dvf3 dvf4 dvf5 dvf6 dvf7 dvf8 dvfz
      clear hbg hBf Hf1 lf1 Hf2 lf2 Hf3 lf3 Hf4 lf4 Lf1 Lf2
      obtain ⟨avg0, avg1, avg2, avg3, avg4, avg5, avg6, avg7, avg8, avgz⟩ := Hg1.out
      obtain ⟨bvg0, bvg1, bvg2, bvg3, bvg4, bvg5, bvg6, bvg7, bvg8, bvgz⟩ := Hg2.out
      obtain ⟨cvg0, cvg1, cvg2, cvg3, cvg4, cvg5, cvg6, cvg7, cvg8, cvgz⟩ := Hg3.out
      obtain ⟨dvg0, dvg1, dvg2, dvg3, dvg4, dvg5, dvg6, dvg7, dvg8, dvgz⟩ := Hg4.out
      dsimp only at avg0 avg1 avg2 avg3 avg4 avg5 avg6 avg7 avg8 bvg0 bvg1 bvg2 bvg3 bvg4 bvg5 bvg6 bvg7 bvg8 cvg0 cvg1 cvg2 cvg3 cvg4 cvg5 cvg6 cvg7 cvg8 dvg0 dvg1 dvg2 dvg3 dvg4 dvg5 dvg6 dvg7 dvg8
      have HLw := Lib.hid (HLs'.out w4 _ _ Lg1.out Lg2.out)
      clear HCw
      go_wp2_with fail
      refine (HLw.out).mono ?_
      rintro e w5 ⟨rfl, hbh⟩
      have hBh := hBg.trans (hbh.mono hBg.size)
      have lh1 := Nat.lt_of_lt_of_le lg1 hbh.size
      have lh2 := Nat.lt_of_lt_of_le lg2 hbh.size
      have lh3 := Nat.lt_of_lt_of_le lg3 hbh.size
      have lh4 := Nat.lt_of_lt_of_le lg4 hbh.size
      have Hh1 := Lib.hid (Hg1.out.below hbh lg1)
      have Hh2 := Lib.hid (Hg2.out.below hbh lg2)
      have Hh3 := Lib.hid (Hg3.out.below hbh lg3)
      have Hh4 := Lib.hid (Hg4.out.below hbh lg4)
      have Lh1 := Lib.hid (Lg1.out.below hbh)
      have Lh2 := Lib.hid (Lg2.out.below hbh)
      clear avg0 avg1 avg2 avg3 avg4 avg5 avg6 avg7 avg8 avgz bvg0 bvg1 bvg2 bvg3 bvg4 bvg5 bvg6 bvg7 bvg8 bvgz cvg0 cvg1 cvg2 cvg3 cvg4 cvg5 cvg6 cvg7 cvg8 cvgz dvg0 dvg1 dvg2 dvg3 dvg4 dvg5 dvg6 dvg7 dvg8 dvgz
      clear hbh hBg Hg1 lg1 Hg2 lg2 Hg3 lg3 Hg4 lg4 Lg1 Lg2
      obtain ⟨avh0, avh1, avh2, avh3, avh4, avh5, avh6, avh7, avh8, avhz⟩ := Hh1.out
      obtain ⟨bvh0, bvh1, bvh2, bvh3, bvh4, bvh5, bvh6, bvh7, bvh8, bvhz⟩ := Hh2.out
      obtain ⟨cvh0, cvh1, cvh2, cvh3, cvh4, cvh5, cvh6, cvh7, cvh8, cvhz⟩ := Hh3.out
      obtain ⟨dvh0, dvh1, dvh2, dvh3, dvh4, dvh5, dvh6, dvh7, dvh8, dvhz⟩ := Hh4.out
      dsimp only at avh0 avh1 avh2 avh3 avh4 avh5 avh6 avh7 avh8 bvh0 bvh1 bvh2 bvh3 bvh4 bvh5 bvh6 bvh7 bvh8 cvh0 cvh1 cvh2 cvh3 cvh4 cvh5 cvh6 cvh7 cvh8 dvh0 dvh1 dvh2 dvh3 dvh4 dvh5 dvh6 dvh7 dvh8
      have HKw := Lib.hid (HK1.out w5 _ Lh1.out)
      clear HLw
      go_wp2_with fail
      refine (HKw.out).mono ?_
      rintro e w6 ⟨rfl, hbi⟩
      have hBi := hBh.trans (hbi.mono hBh.size)
      have li1 := Nat.lt_of_lt_of_le lh1 hbi.size
      have li2 := Nat.lt_of_lt_of_le lh2 hbi.size
      have li3 := Nat.lt_of_lt_of_le lh3 hbi.size
      have li4 := Nat.lt_of_lt_of_le lh4 hbi.size
      have Hi1 := Lib.hid (Hh1.out.below hbi lh1)
      have Hi2 := Lib.hid (Hh2.out.below hbi lh2)
      have Hi3 := Lib.hid (Hh3.out.below hbi lh3)
      have Hi4 := Lib.hid (Hh4.out.below hbi lh4)
      have Li1 := Lib.hid (Lh1.out.below hbi)
      have Li2 := Lib.hid (Lh2.out.below hbi)
      clear avh0 avh1 avh2 avh3 avh4 avh5 avh6 avh7 avh8 avhz bvh0 bvh1 bvh2 bvh3 bvh4 bvh5 bvh6 bvh7 bvh8 bvhz cvh0 cvh1 cvh2 cvh3 cvh4 cvh5 cvh6 cvh7 cvh8 cvhz dvh0 dvh1 dvh2 dvh3 dvh4 dvh5 dvh6 dvh7 dvh8 dvhz
      clear hbi hBh Hh1 lh1 Hh2 lh2 Hh3 lh3 Hh4 lh4 Lh1 Lh2
      obtain ⟨avi0, avi1, avi2, avi3, avi4, avi5, avi6, avi7, avi8, aviz⟩ := Hi1.out
      obtain ⟨bvi0, bvi1, bvi2, bvi3, bvi4, bvi5, bvi6, bvi7, bvi8, bviz⟩ := Hi2.out
      obtain ⟨cvi0, cvi1, cvi2, cvi3, cvi4, cvi5, cvi6, cvi7, cvi8, cviz⟩ := Hi3.out
      obtain ⟨dvi0, dvi1, dvi2, dvi3, dvi4, dvi5, dvi6, dvi7, dvi8, dviz⟩ := Hi4.out
      dsimp only at avi0 avi1 avi2 avi3 avi4 avi5 avi6 avi7 avi8 bvi0 bvi1 bvi2 bvi3 bvi4 bvi5 bvi6 bvi7 bvi8 cvi0 cvi1 cvi2 cvi3 cvi4 cvi5 cvi6 cvi7 cvi8 dvi0 dvi1 dvi2 dvi3 dvi4 dvi5 dvi6 dvi7 dvi8
      have HKx := Lib.hid (HK2.out w6 _ Li2.out)
      clear HKw
      go_wp2_with fail
      refine (HKx.out).mono ?_
      rintro e w7 ⟨rfl, hbj⟩
      have hBj := hBi.trans (hbj.mono hBi.size)
      have lj1 := Nat.lt_of_lt_of_le li1 hbj.size
      have lj2 := Nat.lt_of_lt_of_le li2 hbj.size
      have lj3 := Nat.lt_of_lt_of_le li3 hbj.size
      have lj4 := Nat.lt_of_lt_of_le li4 hbj.size
      have Hj1 := Lib.hid (Hi1.out.below hbj li1)
      have Hj2 := Lib.hid (Hi2.out.below hbj li2)
      have Hj3 := Lib.hid (Hi3.out.below hbj li3)
      have Hj4 := Lib.hid (Hi4.out.below hbj li4)
      have Lj1 := Lib.hid (Li1.out.below hbj)
      have Lj2 := Lib.hid (Li2.out.below hbj)
      clear avi0 avi1 avi2 avi3 avi4 avi5 avi6 avi7 avi8 aviz bvi0 bvi1 bvi2 bvi3 bvi4 bvi5 bvi6 bvi7 bvi8 bviz cvi0 cvi1 cvi2 cvi3 cvi4 cvi5 cvi6 cvi7 cvi8 cviz dvi0 dvi1 dvi2 dvi3 dvi4 dvi5 dvi6 dvi7 dvi8 dviz
      clear hbj hBi Hi1 li1 Hi2 li2 Hi3 li3 Hi4 li4 Li1 Li2
      obtain ⟨avj0, avj1, avj2, avj3, avj4, avj5, avj6, avj7, avj8, avjz⟩ := Hj1.out
      obtain ⟨bvj0, bvj1, bvj2, bvj3, bvj4, bvj5, bvj6, bvj7, bvj8, bvjz⟩ := Hj2.out
      obtain ⟨cvj0, cvj1, cvj2, cvj3, cvj4, cvj5, cvj6, cvj7, cvj8, cvjz⟩ := Hj3.out
      obtain ⟨dvj0, dvj1, dvj2, dvj3, dvj4, dvj5, dvj6, dvj7, dvj8, dvjz⟩ := Hj4.out
      dsimp only at avj0 avj1 avj2 avj3 avj4 avj5 avj6 avj7 avj8 bvj0 bvj1 bvj2 bvj3 bvj4 bvj5 bvj6 bvj7 bvj8 cvj0 cvj1 cvj2 cvj3 cvj4 cvj5 cvj6 cvj7 cvj8 dvj0 dvj1 dvj2 dvj3 dvj4 dvj5 dvj6 dvj7 dvj8
      go_wp2_with fail
      go_ret
      exact ⟨rfl, hBj⟩
  · go_wp2_with fail
    go_ret
    exact ⟨rfl, HB2'.out⟩
theorem lawComparesR {n1 n2 : Nat} (w : World) (t1 : Tm (n1 + 1)) (t2 : Tm (n2 + 1)) (u1 u2 : Value) (I1 : ItemsAt w w.heap.size n1 u1 t1.items) (I2 : ItemsAt w w.heap.size n2 u2 t2.items) :
    Calls Try.prog 3 #[aggV t1.f u1, aggV t2.f u2] w fun e w' => e = .returned (.bool true) ∧ Below w.heap.size w w' := by
  obtain ⟨l1, J1⟩ := I1.to (m := n1 + n2) (by omega)
  obtain ⟨l2, J2⟩ := I2.to (m := n1 + n2) (by omega)
  exact lawCompares w (Tm.mk t1.f l1) (Tm.mk t2.f l2) u1 u2 J1 J2
end Go.Proofs.Ythgfdpamnepnfaa.tm
