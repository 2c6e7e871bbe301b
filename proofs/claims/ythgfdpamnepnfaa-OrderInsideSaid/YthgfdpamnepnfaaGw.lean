/- Several texts in one, one behind the other: ToH, ToI. No condition beyond theirs. -/
import Derived.Test.YthgfdpamnepnfaaGq
import Derived.Test.YthgfdpamnepnfaaGk
import Derived.Test.YthgfdpamnepnfaaGo
import Derived.Test.YthgfdpamnepnfaaGl
/- stagehandref04.Ordered, Search. Conditions: the terms lie in memory; they are few enough. -/
namespace Go.Proofs.Ythgfdpamnepnfaa.tm
open Go.RowKit mem names
set_option linter.unusedVariables false
set_option linter.unusedSimpArgs false
set_option maxHeartbeats 1000000
set_option maxRecDepth 100000

/-- an element, beside another term; the document's comparison -/
theorem rcmpEl {n : Nat} (w : World) (B : Nat) (v1 v2 : Value) (l1 l2 : List (Tm (n + 1))) (hB : B ≤ w.heap.size) (h1 : ItemsAt w B (n + 1) v1 l1) (h2 : ItemsAt w B (n + 1) v2 l2) (s1 : nodesL (n + 1) l1 ≤ 100000000) (s2 : nodesL (n + 1) l2 ≤ 100000000) (i j : Nat) (hi : i < l1.length) (hj : j < l2.length) :
    ∃ g1 o1 x1 q1 m1 d1 c1 g2 o2 x2 q2 m2 d2 c2, v1 = .slice (some ⟨g1, o1, none⟩) l1.length c1 ∧ g1 < w.heap.size ∧ Cells w g1 (o1 + i * 9) x1 (.slice q1 m1 d1) ∧ v2 = .slice (some ⟨g2, o2, none⟩) l2.length c2 ∧ g2 < w.heap.size ∧ Cells w g2 (o2 + j * 9) x2 (.slice q2 m2 d2) ∧
      ∀ W, Below w.heap.size w W → Calls Try.prog 13 #[aggV x1 (.slice q1 m1 d1), aggV x2 (.slice q2 m2 d2)] W (IPostC (cmpV l1[i] l2[j]) W) := by
  obtain ⟨g1, o1, d1, e1, _, _, hg1, hx1⟩ := h1.at_ (by intro e; subst e; simp at hi)
  obtain ⟨u1, hC1, hI1⟩ := hx1 i hi
  obtain ⟨g2, o2, d2, e2, _, _, hg2, hx2⟩ := h2.at_ (by intro e; subst e; simp at hj)
  obtain ⟨u2, hC2, hI2⟩ := hx2 j hj
  obtain ⟨q1, c1', rfl, _, _⟩ := hI1.shape
  obtain ⟨q2, c2', rfl, _, _⟩ := hI2.shape
  have k1 := nodes_mem hi
  have k2 := nodes_mem hj
  exact ⟨g1, o1, l1[i].f, q1, _, c1', d1, g2, o2, l2[j].f, q2, _, c2', d2, e1, by omega, hC1, e2, by omega, hC2, fun W hb => RCompare W B _ _ l1[i] l2[j] (Nat.le_trans hB hb.size) (hI1.below hb hB) (hI2.below hb hB) (by omega) (by omega)⟩
theorem rcmpOne {n : Nat} (w : World) (B : Nat) (v1 v2 : Value) (l1 : List (Tm (n + 1))) (t : Tm (n + 1)) (hB : B ≤ w.heap.size) (h1 : ItemsAt w B (n + 1) v1 l1) (h2 : ItemsAt w B n v2 t.items) (s1 : nodesL (n + 1) l1 ≤ 100000000) (s2 : nodesT t ≤ 100000000) (i : Nat) (hi : i < l1.length) :
    ∃ g1 o1 x1 q1 m1 d1 c1, v1 = .slice (some ⟨g1, o1, none⟩) l1.length c1 ∧ g1 < w.heap.size ∧ Cells w g1 (o1 + i * 9) x1 (.slice q1 m1 d1) ∧
      ∀ W, Below w.heap.size w W → Calls Try.prog 13 #[aggV x1 (.slice q1 m1 d1), aggV t.f v2] W (IPostC (cmpV l1[i] t) W) := by
  obtain ⟨g1, o1, d1, e1, _, _, hg1, hx1⟩ := h1.at_ (by intro e; subst e; simp at hi)
  obtain ⟨u1, hC1, hI1⟩ := hx1 i hi
  obtain ⟨q1, c1', rfl, _, _⟩ := hI1.shape
  have k1 := nodes_mem hi
  exact ⟨g1, o1, l1[i].f, q1, _, c1', d1, e1, by omega, hC1, fun W hb => RCompare W B _ _ l1[i] t (Nat.le_trans hB hb.size) (hI1.below hb hB) (h2.below hb hB) (by omega) (by omega)⟩
theorem ROrdered {n : Nat} (w : World) (B : Nat) (v : Value) (l : List (Tm (n + 1))) (hB : B ≤ w.heap.size) (h1 : ItemsAt w B (n + 1) v l) (hs : nodesL (n + 1) l ≤ 100000000) :
    Calls Try.prog 22 #[v] w (BPost (ordB l) w) := by
  have HP := Lib.hid (fun j (h : j + 1 < l.length) => rcmpEl w B v v l l hB h1 h1 hs hs (j + 1) j h (by omega))
  have hlen := nodes_len (n + 1) l
  obtain ⟨p, c, rfl, hc, hm⟩ := h1.shape
  have HT := Lib.hid (fun h => ordB_t (l := l) h)
  have HF := Lib.hid (fun j h h2 => ordB_f (l := l) (j := j) h h2)
  have hle : (l.length : Int) ≤ 100000000 := by omega
  generalize ordB l = r at *
  clear h1 hs hlen
  unfold BPost
  go_enter Try.func22, Try.ntmps22
  go_wp2_with fail
  go_loopw [3] (fun s wr => ∃ i : Nat, s = .int .i64 i ∧ 1 ≤ i ∧ Hid (∀ j, (h : j + 1 < l.length) → j + 1 < i → 0 ≤ cmpV l[j + 1] l[j]) ∧ Below w.heap.size w wr) (fun s _ => l.length - (intOf s).toNat)
  case atStart => exact ⟨1, by go_num, by omega, Lib.hid (fun j h hk => by omega), Below.refl _ _⟩
  case round =>
    obtain ⟨i, rfl, hi1, HA, hb⟩ := hrel
    by_cases hlt : i < l.length
    · obtain ⟨j, rfl⟩ : ∃ j, i = j + 1 := ⟨i - 1, by omega⟩
      obtain ⟨g, o, x1, q1, m1, d1, c1, g2, o2, x2, q2, m2, d2, c2, e1, hg, hC1, e2, _, hC2, hCall⟩ := HP.out j (by omega)
      simp only [Value.slice.injEq, true_and] at e1 e2
      obtain ⟨rfl, rfl⟩ := e1
      simp only [Option.some.injEq, Addr.mk.injEq, and_true] at e2
      obtain ⟨⟨rfl, rfl⟩, rfl⟩ := e2
      have hC1 := hC1.same (hb.block g hg)
      have hC2 := hC2.same (hb.block g hg)
      obtain ⟨x10, x11, x12, x13, x14, x15, x16, x17, x18⟩ := hC1
      obtain ⟨y10, y11, y12, y13, y14, y15, y16, y17, y18⟩ := hC2
      have hb' : Below w.heap.size w wr.drew := hb.drewN 1
      have HC := Lib.hid (hCall wr.drew hb')
      clear hCall
      have HF1 := Lib.hid (HF.out j (by omega))
      have HA2 : Hid (0 ≤ cmpV l[j + 1] l[j] → ∀ i, (h : i + 1 < l.length) → i + 1 < j + 1 + 1 → 0 ≤ cmpV l[i + 1] l[i]) := Lib.hid (fun e i h hi => by
        by_cases e2 : i = j
        · subst e2; exact e
        · exact HA.out i h (by omega))
      generalize cmpV l[j + 1] l[j] = z at *
      unfold aggV IPostC at HC
      have r0 : ((j + 1 : Nat) : Int) = (j : Int) + 1 := by omega
      have r2 : (j : Int) + 1 < (l.length : Int) := by omega
      have r3 : (0 : Int) ≤ (j : Int) + 1 := by omega
      have r4 : ((j : Int) + 1).toNat = j + 1 := by omega
      have r5 : IntKind.i64.wrap (j : Int) = (j : Int) := IntWalk.i64_in _ (by omega)
      have r6 : (j : Int) < (l.length : Int) := by omega
      have HB' := Lib.hid hb'
      rw [r0]
      clear hb' r0 HA HF
      by_cases hz : z < 0
      · have q1 : decide (z < 0) = true := decide_eq_true hz
        have HFin := Lib.hid (HF1.out hz)
        clear HF1 HA2
        go_wp2_with fail
        go_still_tail 9, (by kernel_rfl)
        change wpList _ _ _ _ _ wr.drew
        clear x10 x11 x12 x13 x14 x15 x16 x17 x18 y10 y11 y12 y13 y14 y15 y16 y17 y18
        generalize wr.drew = w2 at *
        go_wp2_with fail
        refine HC.out.mono ?_
        rintro e w3 ⟨rfl, hb3⟩
        have hb4 := HB'.out.trans (hb3.mono HB'.out.size)
        go_wp2_with fail
        go_ret
        exact ⟨ret1b HFin.out.symm, hb4⟩
      · have q1 : decide (z < 0) = false := decide_eq_false hz
        have H2 := Lib.hid (HA2.out (by omega))
        clear HF1 HA2
        go_wp2_with fail
        go_still_tail 9, (by kernel_rfl)
        change wpList _ _ _ _ _ wr.drew
        clear x10 x11 x12 x13 x14 x15 x16 x17 x18 y10 y11 y12 y13 y14 y15 y16 y17 y18
        generalize wr.drew = w2 at *
        go_wp2_with fail
        refine HC.out.mono ?_
        rintro e w3 ⟨rfl, hb3⟩
        have hb4 := HB'.out.trans (hb3.mono HB'.out.size)
        go_wp2_with fail
        go_roundw
        case rel => exact ⟨j + 1 + 1, by go_num, by omega, H2, hb4⟩
        case measure => simp [intOf]; omega
    · have HFin := Lib.hid (HT.out (fun j h => HA.out j h (by omega)))
      go_wp2_with fail
      go_ret
      exact ⟨ret1b HFin.out.symm, hb⟩
set_option maxHeartbeats 6000000 in
theorem RSearch {n : Nat} (w : World) (B : Nat) (v v2 : Value) (l : List (Tm (n + 1))) (t : Tm (n + 1)) (hB : B ≤ w.heap.size) (h1 : ItemsAt w B (n + 1) v l) (h2 : ItemsAt w B n v2 t.items) (s1 : nodesL (n + 1) l ≤ 100000000) (s2 : nodesT t ≤ 100000000) :
    Calls Try.prog 28 #[v, aggV t.f v2] w (SPost2 (if ordB l = true then searchK l t else 0) (if ordB l = true then foundB l t else false) w) := by
  have HP := Lib.hid (fun i (h : i < l.length) => rcmpOne w B v v2 l t hB h1 h2 s1 s2 i h)
  have HO := Lib.hid (fun W (hb : Below w.heap.size w W) => ROrdered W B v l (Nat.le_trans hB hb.size) (h1.below hb hB) s1)
  have hlen := nodes_len (n + 1) l
  obtain ⟨p, c, rfl, hc, hm⟩ := h1.shape
  obtain ⟨q, d, rfl, _, _⟩ := h2.shape
  have HS := Lib.hid (search_is l t)
  have hfe : foundB l t = ((l[searchK l t]?).map (fun x => decide (cmpV x t = 0))).getD false := rfl
  have HF := Lib.hid hfe
  have hle : (l.length : Int) ≤ 100000000 := by omega
  have hle' : l.length ≤ 100000000 := by omega
  generalize t.items.length = m at *
  obtain ⟨f, hf⟩ : ∃ f, t.f = f := ⟨_, rfl⟩
  rw [hf] at HP ⊢
  clear hf
  obtain ⟨k1, i1, g1, n1, fn1, a1, by1, s1'⟩ := f
  generalize searchK l t = K at *
  generalize foundB l t = R at *
  generalize ordB l = od at *
  clear h1 h2 s1 s2 hlen hfe
  unfold aggV at *
  unfold BPost at HO
  dsimp only at *
  unfold SPost2
  go_enter Try.func28, Try.ntmps28
  go_wp2_with fail
  obtain ⟨hN1, hbw, hsz⟩ := box1 w ⟨k1, i1, g1, n1, fn1, a1, by1, s1'⟩ (.slice q m d)
  unfold cells9 at hN1 hbw hsz
  dsimp only at hN1 hbw hsz
  generalize (w.alloc (.cells #[.int .i64 k1, .int .i64 i1, .int .i64 g1, .string n1, .string fn1, .int .i64 a1, .slice q m d, .string by1, .int .i64 s1'] 24)) = W0 at *
  have HZ1 : Hid (w.heap.size < W0.heap.size) := Lib.hid (by omega)
  clear hsz
  have HN1 := Lib.hid hN1
  clear hN1
  refine (HO.out W0 hbw).mono ?_
  rintro e w1 ⟨rfl, hb1⟩
  have HN2 := Lib.hid (HN1.out.below hb1 HZ1.out)
  have HZ2 : Hid (w.heap.size < w1.heap.size) := Lib.hid (Nat.lt_of_lt_of_le HZ1.out hb1.size)
  have HW1 := Lib.hid (hbw.trans (hb1.mono hbw.size))
  clear HN1 HZ1 hb1 hbw HO
  cases od
  · simp only [Bool.false_eq_true, if_false]
    go_wp2_with fail
    go_ret2
    exact ⟨rfl, HW1.out⟩
  simp only [if_true]
  go_wp2_with fail
  go_loopw [6] (fun s wr => ∃ i : Nat, s = .int .i64 i ∧ i ≤ l.length ∧ Hid (∀ k, (h : k < l.length) → k < i → cmpV l[k] t < 0) ∧ Hid (Below w1.heap.size w1 wr)) (fun s _ => l.length - (intOf s).toNat)
  case atStart => exact ⟨0, by go_num, by omega, Lib.hid (fun k h hk => by omega), Lib.hid (Below.refl _ _)⟩
  case round =>
    obtain ⟨i, rfl, hil, HA, HB⟩ := hrel
    by_cases hlt : i < l.length
    · obtain ⟨g, o, x1, q1, m1, d1, c1, e1', hg, hC1, hCall⟩ := HP.out i hlt
      simp only [Value.slice.injEq, true_and] at e1'
      obtain ⟨rfl, rfl⟩ := e1'
      have hbww : Below w.heap.size w wr := HW1.out.trans (HB.out.mono HW1.out.size)
      have hC1 := hC1.same (hbww.block g hg)
      have HC1 := Lib.hid hC1
      have HQ1 := Lib.hid (HN2.out.below HB.out HZ2.out)
      obtain ⟨kk, ii, gg, nn, ff, aa, bb, ss⟩ := x1
      dsimp only at hCall hC1
      have hb' : Below w.heap.size w wr.drew := hbww.drewN 1
      have HC := Lib.hid (hCall wr.drew hb')
      have HCall := Lib.hid hCall
      have HBW0 : Hid (Below w1.heap.size w1 wr.drew) := Lib.hid (HB.out.drewN 1)
      have HBw := Lib.hid hbww
      clear hCall hb' hbww
      unfold IPostC at HC HCall
      have HK1 : Hid (cmpV l[i] t < 0 → (∀ k, (h' : k < l.length) → k < i + 1 → cmpV l[k] t < 0)) := Lib.hid (fun e k h' hk => by
        by_cases e2 : k = i
        · subst e2; exact e
        · exact HA.out k h' (by omega))
      have HK2 : Hid (0 ≤ cmpV l[i] t → K = i ∧ R = decide (cmpV l[i] t = 0)) := Lib.hid (fun e => by
        have hK := HS.out i (by omega) (fun k h hk => HA.out k h hk) (fun _ => e)
        exact ⟨hK, by rw [HF.out, hK, List.getElem?_eq_getElem hlt]; rfl⟩)
      generalize cmpV l[i] t = z at *
      obtain ⟨x10, x11, x12, x13, x14, x15, x16, x17, x18⟩ := hC1
      obtain ⟨y10, y11, y12, y13, y14, y15, y16, y17, y18, yz⟩ := HQ1.out
      dsimp only at x10 x11 x12 x13 x14 x15 x16 x17 x18 y10 y11 y12 y13 y14 y15 y16 y17 y18
      have r1 : (i : Int) < (l.length : Int) := by omega
      have r2 : (0 : Int) ≤ (i : Int) := by omega
      by_cases hz : 0 ≤ z
      · have qz : decide (0 ≤ z) = true := decide_eq_true hz
        obtain ⟨hK, hR⟩ := HK2.out hz
        have HKK := Lib.hid hK
        have HRR := Lib.hid hR
        clear HK1 HK2 HA hK hR
        go_wp2_with fail
        go_still_tail 5, (by kernel_rfl)
        change wpList _ _ _ _ _ wr.drew
        clear x10 x11 x12 x13 x14 x15 x16 x17 x18 y10 y11 y12 y13 y14 y15 y16 y17 y18 yz
        have HC1d : Hid (Cells wr.drew g (o + i * 9) ⟨kk, ii, gg, nn, ff, aa, bb, ss⟩ (.slice q1 m1 d1)) := Lib.hid (HC1.out.same rfl)
        have HQ1d : Hid (Nine wr.drew w.heap.size ⟨k1, i1, g1, n1, fn1, a1, by1, s1'⟩ (.slice q m d)) := Lib.hid (nine_drew HQ1.out)
        have HBwd : Hid (Below w.heap.size w wr.drew) := Lib.hid (HBw.out.drewN 1)
        have HZ3 : Hid (w.heap.size < wr.drew.heap.size) := Lib.hid (Nat.lt_of_lt_of_le HZ2.out HB.out.size)
        clear HC1 HQ1 HBw HB
        generalize wr.drew = w2 at *
        go_wp2_with fail
        refine HC.out.mono ?_
        rintro e w3 ⟨rfl, hb3⟩
        have HBw3 := Lib.hid (HBwd.out.trans (hb3.mono HBwd.out.size))
        have HC3 := Lib.hid (HC1d.out.same (hb3.block g (Nat.lt_of_lt_of_le hg HBwd.out.size)))
        have HQ3 := Lib.hid (HQ1d.out.below hb3 HZ3.out)
        have HCC := Lib.hid (HCall.out w3.drew (HBw3.out.drewN 1))
        have hs3 := hb3.size
        clear hb3 HC1d HQ1d HBwd HC
        obtain ⟨x10, x11, x12, x13, x14, x15, x16, x17, x18⟩ := HC3.out
        obtain ⟨y10, y11, y12, y13, y14, y15, y16, y17, y18, yz⟩ := HQ3.out
        dsimp only at x10 x11 x12 x13 x14 x15 x16 x17 x18 y10 y11 y12 y13 y14 y15 y16 y17 y18
        have HBw4 : Hid (Below w.heap.size w w3.drew) := Lib.hid (HBw3.out.drewN 1)
        have HC3d : Hid (Cells w3.drew g (o + i * 9) ⟨kk, ii, gg, nn, ff, aa, bb, ss⟩ (.slice q1 m1 d1)) := Lib.hid (HC3.out.same rfl)
        have HQ3d : Hid (Nine w3.drew w.heap.size ⟨k1, i1, g1, n1, fn1, a1, by1, s1'⟩ (.slice q m d)) := Lib.hid (nine_drew HQ3.out)
        have HZ4 : Hid (w.heap.size < w3.drew.heap.size) := Lib.hid (Nat.lt_of_lt_of_le HZ3.out hs3)
        have HG4 : Hid (g < w3.drew.heap.size) := Lib.hid (Nat.lt_of_lt_of_le hg HBw4.out.size)
        go_wp2_with fail
        go_region_held3 (fun w' => (w'.cell? ⟨g, o + i * 9, none⟩ = some (.int .i64 kk) ∧ w'.cell? ⟨g, o + i * 9 + 1, none⟩ = some (.int .i64 ii) ∧ w'.cell? ⟨g, o + i * 9 + 1 + 1, none⟩ = some (.int .i64 gg) ∧ w'.cell? ⟨g, o + i * 9 + 1 + 1 + 1, none⟩ = some (.string nn) ∧ w'.cell? ⟨g, o + i * 9 + 1 + 1 + 1 + 1, none⟩ = some (.string ff) ∧ w'.cell? ⟨g, o + i * 9 + 1 + 1 + 1 + 1 + 1, none⟩ = some (.int .i64 aa) ∧ w'.cell? ⟨g, o + i * 9 + 1 + 1 + 1 + 1 + 1 + 1, none⟩ = some (.slice q1 m1 d1) ∧ w'.cell? ⟨g, o + i * 9 + 1 + 1 + 1 + 1 + 1 + 1 + 1, none⟩ = some (.string bb) ∧ w'.cell? ⟨g, o + i * 9 + 1 + 1 + 1 + 1 + 1 + 1 + 1 + 1, none⟩ = some (.int .i64 ss)) ∧ w'.cell? ⟨w.heap.size, 0, none⟩ = some (.int .i64 k1) ∧ w'.cell? ⟨w.heap.size, 1, none⟩ = some (.int .i64 i1) ∧ w'.cell? ⟨w.heap.size, 2, none⟩ = some (.int .i64 g1) ∧ w'.cell? ⟨w.heap.size, 3, none⟩ = some (.string n1) ∧ w'.cell? ⟨w.heap.size, 4, none⟩ = some (.string fn1) ∧ w'.cell? ⟨w.heap.size, 5, none⟩ = some (.int .i64 a1) ∧ w'.cell? ⟨w.heap.size, 6, none⟩ = some (.slice q m d) ∧ w'.cell? ⟨w.heap.size, 7, none⟩ = some (.string by1) ∧ w'.cell? ⟨w.heap.size, 8, none⟩ = some (.int .i64 s1')) (go_keep)
          (first
            | (go_at_call 13; (with_reducible refine HCC.out.mono ?_); rintro e w5 ⟨rfl, hb5⟩; have HC5 := Lib.hid (HC3d.out.same (hb5.block g HG4.out)); have HQ5 := Lib.hid (HQ3d.out.below hb5 HZ4.out); obtain ⟨z0, z1, z2, z3, z4, z5, z6, z7, z8⟩ := HC5.out; obtain ⟨t0, t1, t2, t3, t4, t5, t6, t7, t8, tz⟩ := HQ5.out; dsimp only at z0 z1 z2 z3 z4 z5 z6 z7 z8 t0 t1 t2 t3 t4 t5 t6 t7 t8))
        have hb6 := HBw4.out.trans (hb5.mono HBw4.out.size)
        go_wp2_with fail
        go_ret2
        exact ⟨by rw [HKK.out, HRR.out]; first | rfl | (congr 1; done), hb6⟩
      · have qz : decide (0 ≤ z) = false := decide_eq_false hz
        have HA2 := Lib.hid (HK1.out (by omega))
        clear HK1 HK2 HA
        go_wp2_with fail
        go_still_tail 5, (by kernel_rfl)
        change wpList _ _ _ _ _ wr.drew
        clear x10 x11 x12 x13 x14 x15 x16 x17 x18 y10 y11 y12 y13 y14 y15 y16 y17 y18 yz
        generalize wr.drew = w2 at *
        go_wp2_with fail
        refine HC.out.mono ?_
        rintro e w3 ⟨rfl, hb3⟩
        have HB4 : Hid (Below w1.heap.size w1 w3) := Lib.hid (HBW0.out.trans (hb3.mono HBW0.out.size))
        go_wp2_with fail
        go_roundw
        case rel => exact ⟨i + 1, by go_num, by omega, HA2, HB4⟩
        case measure => simp [intOf]; omega
    · obtain rfl : i = l.length := by omega
      have hK := HS.out l.length (Nat.le_refl _) (fun k h hk => HA.out k h hk) (fun h => by omega)
      have HK := Lib.hid hK
      have hR : R = false := by rw [HF.out, hK, List.getElem?_eq_none (Nat.le_refl _)]; rfl
      have HR := Lib.hid hR
      have HBf := Lib.hid (HW1.out.trans (HB.out.mono HW1.out.size))
      clear hK hR
      go_wp2_with fail
      go_ret2
      exact ⟨by rw [HK.out, HR.out]; rfl, HBf.out⟩
end Go.Proofs.Ythgfdpamnepnfaa.tm
/- stagehandkit.SpoilList. Conditions: the blocks hold terms alone; elements lie in later blocks. -/
namespace Go.Proofs.Ythgfdpamnepnfaa.tm
open Go.RowKit mem names
set_option linter.unusedVariables false
set_option linter.unusedSimpArgs false
set_option maxHeartbeats 1000000
set_option maxRecDepth 100000

def SizeSame (w w' : World) (F : Nat → Prop) : Prop := ∀ g, F g → ∀ cur fz, w.heap[g]? = some (.cells cur 24 fz) → ∃ cur', w'.heap[g]? = some (.cells cur' 24 fz) ∧ cur'.size = cur.size
theorem SizeSame.refl (w : World) (F : Nat → Prop) : SizeSame w w F := fun g hg cur fz h => ⟨cur, h, rfl⟩
theorem SizeSame.trans {a b c : World} {F : Nat → Prop} (h : SizeSame a b F) (k : SizeSame b c F) : SizeSame a c F := fun g hg cur fz h0 => by
  obtain ⟨c1, h1, h2⟩ := h g hg cur fz h0
  obtain ⟨c2, h3, h4⟩ := k g hg c1 fz h1
  exact ⟨c2, h3, h4.trans h2⟩
def sets9 (cur : Array Value) (o : Nat) (f : TF) (v : Value) : Array Value :=
  ((((((((cur.setIfInBounds o (.int .i64 f.kind)).setIfInBounds (o + 1) (.int .i64 f.int)).setIfInBounds (o + 2) (.int .i64 f.gen)).setIfInBounds (o + 3) (.string f.name)).setIfInBounds (o + 4) (.string f.func)).setIfInBounds (o + 5) (.int .i64 f.arity)).setIfInBounds (o + 6) v).setIfInBounds (o + 7) (.string f.bytes)).setIfInBounds (o + 8) (.int .i64 f.bits)
theorem set9_blk {w : World} {g o : Nat} {cur : Array Value} {e : TypeId} {fz : Nat × Nat} (f : TF) (v : Value) (h : w.heap[g]? = some (.cells cur e fz)) : (set9 w g o f v).heap[g]? = some (.cells (sets9 cur o f v) e fz) := by
  unfold set9 sets9
  exact set_blk (set_blk (set_blk (set_blk (set_blk (set_blk (set_blk (set_blk (set_blk h))))))))
theorem sets9_size (cur : Array Value) (o : Nat) (f : TF) (v : Value) : (sets9 cur o f v).size = cur.size := by unfold sets9; simp
theorem sets9_get (cur : Array Value) (o : Nat) (f : TF) (v : Value) (h : o + 9 ≤ cur.size) (i : Nat) (hi : i < 9) : (sets9 cur o f v)[o + i]? = (nineL f v)[i]? := by
  have : i = 0 ∨ i = 1 ∨ i = 2 ∨ i = 3 ∨ i = 4 ∨ i = 5 ∨ i = 6 ∨ i = 7 ∨ i = 8 := by omega
  unfold sets9 nineL
  rcases this with rfl | rfl | rfl | rfl | rfl | rfl | rfl | rfl | rfl <;> simp [Array.getElem?_setIfInBounds] <;> omega
theorem sets9_other (cur : Array Value) (o : Nat) (f : TF) (v : Value) (x : Nat) (h : x < o ∨ o + 9 ≤ x) : (sets9 cur o f v)[x]? = cur[x]? := by
  unfold sets9
  repeat rw [Array.getElem?_setIfInBounds_ne (by omega)]
theorem cell_of_blk {w : World} {g x : Nat} {cur : Array Value} {e : TypeId} {fz : Nat × Nat} (h : w.heap[g]? = some (.cells cur e fz)) : w.cell? ⟨g, x, none⟩ = cur[x]? := by
  unfold World.cell?
  rw [h]
  rfl
theorem Cells.blk {w : World} {g o : Nat} {cur : Array Value} {e : TypeId} {fz : Nat × Nat} {f : TF} {v : Value} (h : w.heap[g]? = some (.cells cur e fz)) (hc : ∀ i, i < 9 → cur[o + i]? = (nineL f v)[i]?) : Cells w g o f v :=
  Cells.of fun i hi => (cell_of_blk h).trans (hc i hi)
theorem spoil_set {w : World} {F : Nat → Prop} {g : Nat} {cur : Array Value} {fz : Nat × Nat} (hty : Typed w F) (hg : F g) (hcur : w.heap[g]? = some (.cells cur 24 fz)) (j : Nat) (hj : (j + 1) * 9 ≤ cur.size) (f : TF) :
    Typed (set9 w g (j * 9) f nilV) F ∧ SizeSame w (set9 w g (j * 9) f nilV) F ∧ TouchB F w (set9 w g (j * 9) f nilV) ∧ (set9 w g (j * 9) f nilV).heap.size = w.heap.size := by
  have ht : TouchB (fun k => k = g) w (set9 w g (j * 9) f nilV) := set9_touch _ _ _ _ _
  have hb := set9_blk (o := j * 9) f nilV hcur
  have hsz : SizeSame w (set9 w g (j * 9) f nilV) F := by
    intro g' hg' cur' fz' h'
    by_cases e : g' = g
    · subst e
      rw [hcur] at h'
      simp only [Option.some.injEq, Obj.cells.injEq, true_and] at h'
      obtain ⟨rfl, rfl⟩ := h'
      exact ⟨_, hb, sets9_size _ _ _ _⟩
    · exact ⟨cur', (ht.block g' (Array.getElem?_eq_some_iff.1 h').1 e).trans h', rfl⟩
  have hptr : ∀ g' u, PtrOK w F g' u → PtrOK (set9 w g (j * 9) f nilV) F g' u := by
    rintro g' u ⟨p, len, c, rfl, h0⟩
    refine ⟨p, len, c, rfl, ?_⟩
    rcases h0 with h0 | ⟨g2, k, c2, fz2, h1, h2, h3, h4, h5⟩
    · exact .inl h0
    · obtain ⟨c3, h6, h7⟩ := hsz g2 h2 c2 fz2 h4
      exact .inr ⟨g2, k, c3, fz2, h1, h2, h3, h6, by omega⟩
  refine ⟨?_, hsz, ht.mono (fun i _ e => e ▸ hg), ?_⟩
  · intro g' hg'
    obtain ⟨c1, N, h1, h2, h3⟩ := hty g' hg'
    by_cases e : g' = g
    · subst e
      rw [hcur] at h1
      simp only [Option.some.injEq, Obj.cells.injEq, true_and] at h1
      obtain ⟨rfl, rfl⟩ := h1
      refine ⟨_, N, hb, by rw [sets9_size]; exact h2, fun q hq => ?_⟩
      by_cases e : q = j
      · subst e
        exact ⟨f, nilV, Cells.blk hb (fun i hi => sets9_get _ _ _ _ (by omega) i hi), PtrOK.nil⟩
      · obtain ⟨f', u', hc, hp⟩ := h3 q hq
        refine ⟨f', u', Cells.blk hb (fun i hi => ?_), hptr _ _ hp⟩
        rw [sets9_other _ _ _ _ _ (by omega), ← cell_of_blk hcur]
        exact hc.all i hi
    · refine ⟨c1, N, (ht.block g' (Array.getElem?_eq_some_iff.1 h1).1 e).trans h1, h2, fun q hq => ?_⟩
      obtain ⟨f', u', hc, hp⟩ := h3 q hq
      exact ⟨f', u', hc.same (ht.block g' (Array.getElem?_eq_some_iff.1 h1).1 e), hptr _ _ hp⟩
  · unfold set9; simp
def spoiltF : TF := ⟨-9, -1, 0, ⟨#[115, 112, 111, 105, 108, 116]⟩, ⟨#[]⟩, 0, ⟨#[]⟩, 0⟩
def SpPost (F : Nat → Prop) (w : World) (e : Ending) (w' : World) : Prop := e = .returned (.tuple #[]) ∧ Typed w' F ∧ SizeSame w w' F ∧ TouchB F w w' ∧ w'.heap.size = w.heap.size
def SpInv (F : Nat → Prop) (w wr : World) : Prop := Typed wr F ∧ SizeSame w wr F ∧ TouchB F w wr ∧ wr.heap.size = w.heap.size
theorem frozen_of_blk {w : World} {g x : Nat} {cur : Array Value} {e : TypeId} (h : w.heap[g]? = some (.cells cur e (0, 0))) : w.frozen? ⟨g, x, none⟩ = false := by
  unfold World.frozen?
  rw [h]
  simp
/-- an element, as the walk wants it -/
theorem sp_elt {F : Nat → Prop} {w wr : World} {g k len i : Nat} {cur : Array Value} {fz : Nat × Nat} (h : SpInv F w wr) (hF : F g) (hcur : w.heap[g]? = some (.cells cur 24 fz)) (hk : (k + len) * 9 ≤ cur.size) (hi : i < len) :
    ∃ f p m c, Cells wr g (k * 9 + i * 9) f (.slice p m c) ∧ PtrOK wr F g (.slice p m c) ∧ (∀ x, wr.frozen? ⟨g, x, none⟩ = false) ∧
      (SpInv F w (set9 wr g (k * 9 + i * 9) spoiltF nilV)) := by
  obtain ⟨h1, h2, h3, h4⟩ := h
  obtain ⟨cur', hb, hs⟩ := h2 g hF cur fz hcur
  obtain ⟨c1, N, h5, h6, h7⟩ := h1 g hF
  rw [hb] at h5
  simp only [Option.some.injEq, Obj.cells.injEq, true_and] at h5
  obtain ⟨rfl, rfl⟩ := h5
  obtain ⟨f, u, hc, hp⟩ := h7 (k + i) (by omega)
  have e : (k + i) * 9 = k * 9 + i * 9 := by omega
  obtain ⟨p, m, c, rfl, hq⟩ := hp
  obtain ⟨a1, a2, a3, a4⟩ := spoil_set h1 hF hb (k + i) (by omega) spoiltF
  rw [e] at hc a1 a2 a3 a4
  exact ⟨f, p, m, c, hc, ⟨p, m, c, rfl, hq⟩, fun x => frozen_of_blk hb, a1, h2.trans a2, h3.trans a3 (fun _ _ h => h), by omega⟩
theorem SpInv.trans {F : Nat → Prop} {a b c : World} (h : SpInv F a b) (k : SpInv F b c) : SpInv F a c :=
  ⟨k.1, h.2.1.trans k.2.1, h.2.2.1.trans k.2.2.1 (fun _ _ h => h), k.2.2.2.trans h.2.2.2⟩
theorem spoilRow {w : World} {F : Nat → Prop} {g2 q len c : Nat} {c2 : Array Value} {fz2 : Nat × Nat} (hty : Typed w F) (h2 : F g2) (h4 : w.heap[g2]? = some (.cells c2 24 fz2)) (h5 : (q + len) * 9 ≤ c2.size) (h6 : len ≤ maxLen)
    (hC : ∀ wr u, SpInv F w wr → PtrOK wr F g2 u → Calls Try.prog 24 #[u] wr (fun e w' => e = .returned (.tuple #[]) ∧ SpInv F wr w')) :
    Calls Try.prog 24 #[.slice (some ⟨g2, q * 9, none⟩) len c] w (fun e w' => e = .returned (.tuple #[]) ∧ SpInv F w w') := by
  have HI : Hid (SpInv F w w) := Lib.hid ⟨hty, SizeSame.refl _ _, TouchB.refl _ _, rfl⟩
  have HE := Lib.hid (fun wr i (h : SpInv F w wr) (hi : i < len) => sp_elt h h2 h4 h5 hi)
  have HC := Lib.hid hC
  unfold maxLen at h6
  clear hty hC h2 h4 h5
  go_enter Try.func24, Try.ntmps24
  go_wp2_with fail
  go_loopw [2] (fun s wr => ∃ i : Nat, s = .int .i64 i ∧ i ≤ len ∧ Hid (SpInv F w wr)) (fun s _ => len - (intOf s).toNat)
  case atStart => exact ⟨0, by go_num, by omega, HI⟩
  case round =>
    obtain ⟨i, rfl, hil, HR⟩ := hrel
    by_cases hlt : i < len
    · obtain ⟨f, p', m', c', hcs, hpt, hfz, _⟩ := HE.out wr i HR.out hlt
      have HCall := Lib.hid (HC.out wr _ HR.out hpt)
      obtain ⟨k1, i1, g1, n1, fn1, a1, by1, s1⟩ := f
      obtain ⟨x0, x1, x2, x3, x4, x5, x6, x7, x8⟩ := hcs
      dsimp only at x0 x1 x2 x3 x4 x5 x6 x7 x8
      clear hpt hfz x0 x1 x2 x3 x4 x5 x7 x8
      have r1 : (i : Int) < (len : Int) := by omega
      go_wp2_with fail
      refine HCall.out.mono ?_
      rintro e w1 ⟨rfl, hI1⟩
      have hS := HR.out.trans hI1
      obtain ⟨f, p2, m2, c2', hcs, _, hfz, hSet⟩ := HE.out w1 i hS hlt
      have HSet := Lib.hid hSet
      obtain ⟨k2, i2, g3, n2, fn2, a2, by2, s2⟩ := f
      obtain ⟨y0, y1, y2, y3, y4, y5, y6, y7, y8⟩ := hcs
      dsimp only at y0 y1 y2 y3 y4 y5 y6 y7 y8
      unfold set9 spoiltF at HSet
      dsimp only at HSet
      clear hI1 hS hSet HCall x6
      go_wp2_with fail
      go_roundw
      case rel => exact ⟨i + 1, by go_num, by omega, HSet⟩
      case measure => simp [intOf]; omega
    · go_wp2_with fail
      go_end0
      exact ⟨rfl, HR.out⟩
theorem spoilAll : ∀ (k : Nat) (w : World) (F : Nat → Prop) (v : Value) (g : Nat), Typed w F → (∀ x, F x → x < w.heap.size) → PtrOK w F g v → w.heap.size ≤ g + 1 + k → Calls Try.prog 24 #[v] w (fun e w' => e = .returned (.tuple #[]) ∧ SpInv F w w') := by
  intro k
  induction k with
  | zero =>
    intro w F v g hty hF hp hk
    obtain ⟨p, len, c, rfl, h0⟩ := hp
    have hl : len = 0 := by
      rcases h0 with h0 | ⟨g2, k, c2, fz2, h1, h2, h3, h4, h5⟩
      · exact h0
      · have := hF g2 h2; omega
    subst hl
    have HI : Hid (SpInv F w w) := Lib.hid ⟨hty, SizeSame.refl _ _, TouchB.refl _ _, rfl⟩
    clear hty hF hk h0
    go_enter Try.func24, Try.ntmps24
    go_wp2_with fail
    refine wp_loop_rounds 1 ?_
    rw [rounds_succ]
    go_wp2_with fail
    go_end0
    exact ⟨rfl, HI.out⟩
  | succ k ih =>
    intro w F v g hty hF hp hk
    obtain ⟨p, len, c, rfl, h0⟩ := hp
    have HI : Hid (SpInv F w w) := Lib.hid ⟨hty, SizeSame.refl _ _, TouchB.refl _ _, rfl⟩
    rcases h0 with h0 | ⟨g2, q, c2, fz2, h1, h2, h3, h4, h5, h6⟩
    · subst h0
      clear hty hF hk ih
      go_enter Try.func24, Try.ntmps24
      go_wp2_with fail
      refine wp_loop_rounds 1 ?_
      rw [rounds_succ]
      go_wp2_with fail
      go_end0
      exact ⟨rfl, HI.out⟩
    · subst h1
      exact spoilRow hty h2 h4 h5 h6 (fun wr u h hp => ih wr F u g2 h.1 (fun x hx => by have := hF x hx; have := h.2.2.2; omega) hp (by have := h.2.2.2; omega))
/-- a whole list that was made -/
theorem spoilTop {w : World} {F : Nat → Prop} {g c : Nat} {n : Nat} {l : List (Tm n)} (hty : Typed w F) (hF : ∀ x, F x → x < w.heap.size) (h : ItemsIn w F n (.slice (some ⟨g, 0, none⟩) l.length c) l) : Calls Try.prog 24 #[.slice (some ⟨g, 0, none⟩) l.length c] w (fun e w' => e = .returned (.tuple #[]) ∧ SpInv F w w') := by
  by_cases hl : l.length = 0
  · exact (spoilAll w.heap.size w F _ 0 hty hF ⟨_, _, _, rfl, .inl hl⟩ (by omega))
  · cases n with
    | zero => exact absurd (by rw [Tm.nil0 l]; rfl) hl
    | succ n =>
      obtain ⟨p, c', e, h1, h2, h3⟩ := h
      simp only [Value.slice.injEq, true_and] at e
      obtain ⟨rfl, rfl⟩ := e
      obtain ⟨g', o', e, hg, hc⟩ := h3 (by intro e; subst e; simp at hl)
      simp only [Option.some.injEq, Addr.mk.injEq, and_true] at e
      obtain ⟨rfl, rfl⟩ := e
      obtain ⟨cur, N, k1, k2, k3⟩ := hty _ hg
      obtain ⟨u, hu, _⟩ := hc (l.length - 1) (by omega)
      have hlast := hu.all 8 (by omega)
      rw [cell_of_blk k1] at hlast
      have hlast2 : cur[0 + (l.length - 1) * 9 + 8]? = some (.int .i64 (l[l.length - 1]).f.bits) := hlast
      have hsz : 0 + (l.length - 1) * 9 + 8 < cur.size := (Array.getElem?_eq_some_iff.1 hlast2).1
      have := spoilRow (q := 0) (c := c) hty hg k1 (len := l.length) (by omega) (Nat.le_trans h1 h2) (fun wr u h hp => spoilAll w.heap.size wr F u g h.1 (fun x hx => by have := hF x hx; have := h.2.2.2; omega) hp (by have := h.2.2.2; omega))
      simpa using this
end Go.Proofs.Ythgfdpamnepnfaa.tm
