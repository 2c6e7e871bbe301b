/- Several texts in one, one behind the other: TnT, TnU. No condition beyond theirs. -/
import Derived.Test.YthgfdpamnepnfaaGo
/- slices.IsSortedFunc, order.Ordered. Conditions: the terms lie in memory; they are few enough. -/
namespace Go.Proofs.Ythgfdpamnepnfaa.tm
open Go.RowKit mem names
set_option linter.unusedVariables false
set_option linter.unusedSimpArgs false
set_option maxHeartbeats 1000000
set_option maxRecDepth 100000

/-- an element, beside another term -/
theorem cmpEl {n : Nat} (w : World) (B : Nat) (v1 v2 : Value) (l1 l2 : List (Tm (n + 1))) (hB : B ≤ w.heap.size) (h1 : ItemsAt w B (n + 1) v1 l1) (h2 : ItemsAt w B (n + 1) v2 l2) (s1 : nodesL (n + 1) l1 ≤ 100000000) (s2 : nodesL (n + 1) l2 ≤ 100000000) (i j : Nat) (hi : i < l1.length) (hj : j < l2.length) :
    ∃ g1 o1 x1 q1 m1 d1 c1 g2 o2 x2 q2 m2 d2 c2, v1 = .slice (some ⟨g1, o1, none⟩) l1.length c1 ∧ g1 < w.heap.size ∧ Cells w g1 (o1 + i * 9) x1 (.slice q1 m1 d1) ∧ v2 = .slice (some ⟨g2, o2, none⟩) l2.length c2 ∧ g2 < w.heap.size ∧ Cells w g2 (o2 + j * 9) x2 (.slice q2 m2 d2) ∧
      ∀ W, Below w.heap.size w W → Calls Try.prog 14 #[aggV x1 (.slice q1 m1 d1), aggV x2 (.slice q2 m2 d2)] W (IPostC (cmpV l1[i] l2[j]) W) := by
  obtain ⟨g1, o1, d1, e1, _, _, hg1, hx1⟩ := h1.at_ (by intro e; subst e; simp at hi)
  obtain ⟨u1, hC1, hI1⟩ := hx1 i hi
  obtain ⟨g2, o2, d2, e2, _, _, hg2, hx2⟩ := h2.at_ (by intro e; subst e; simp at hj)
  obtain ⟨u2, hC2, hI2⟩ := hx2 j hj
  obtain ⟨q1, c1', rfl, _, _⟩ := hI1.shape
  obtain ⟨q2, c2', rfl, _, _⟩ := hI2.shape
  have k1 := nodes_mem hi
  have k2 := nodes_mem hj
  exact ⟨g1, o1, l1[i].f, q1, _, c1', d1, g2, o2, l2[j].f, q2, _, c2', d2, e1, by omega, hC1, e2, by omega, hC2, fun W hb => Compare W B _ _ l1[i] l2[j] (Nat.le_trans hB hb.size) (hI1.below hb hB) (hI2.below hb hB) (by omega) (by omega)⟩
noncomputable def ordB {n : Nat} (l : List (Tm (n + 1))) : Bool := @decide (∀ j, (h : j + 1 < l.length) → 0 ≤ cmpV l[j + 1] l[j]) (Classical.propDecidable _)
theorem ordB_t {n : Nat} {l : List (Tm (n + 1))} (h : ∀ j, (h : j + 1 < l.length) → 0 ≤ cmpV l[j + 1] l[j]) : ordB l = true := @decide_eq_true _ (Classical.propDecidable _) h
theorem ordB_f {n : Nat} {l : List (Tm (n + 1))} {j : Nat} (hj : j + 1 < l.length) (h : cmpV l[j + 1] l[j] < 0) : ordB l = false := @decide_eq_false _ (Classical.propDecidable _) (fun hh => by have := hh j hj; omega)
theorem of_ordB {n : Nat} {l : List (Tm (n + 1))} (h : ordB l = true) : ∀ j, (h : j + 1 < l.length) → 0 ≤ cmpV l[j + 1] l[j] := @of_decide_eq_true _ (Classical.propDecidable _) h
theorem isSorted {n : Nat} (w : World) (B : Nat) (v : Value) (l : List (Tm (n + 1))) (hB : B ≤ w.heap.size) (h1 : ItemsAt w B (n + 1) v l) (hs : nodesL (n + 1) l ≤ 100000000) :
    Calls Try.prog 44 #[v, .func (.func 14) #[] #[]] w (BPost (ordB l) w) := by
  have HP := Lib.hid (fun j (h : j + 1 < l.length) => cmpEl w B v v l l hB h1 h1 hs hs (j + 1) j h (by omega))
  have hlen := nodes_len (n + 1) l
  obtain ⟨p, c, rfl, hc, hm⟩ := h1.shape
  have HT := Lib.hid (fun h => ordB_t (l := l) h)
  have HF := Lib.hid (fun j h h2 => ordB_f (l := l) (j := j) h h2)
  have hle : (l.length : Int) ≤ 100000000 := by omega
  generalize ordB l = r at *
  clear h1 hs hlen
  unfold BPost
  by_cases h0 : l.length = 0
  · have HFin := Lib.hid (HT.out (fun j h => by omega))
    rw [h0] at hc ⊢
    clear h0
    go_enter Try.func44, Try.ntmps44
    go_wp2_with fail
    refine wp_loop_rounds 1 ?_
    rw [rounds_succ]
    go_wp2_with fail
    go_ret
    exact ⟨ret1b HFin.out.symm, Below.refl _ _⟩
  obtain ⟨i0, hi0⟩ : ∃ i0, l.length = i0 + 1 := ⟨l.length - 1, by omega⟩
  have HI0 := Lib.hid hi0
  have r01 : (0 : Int) ≤ (l.length : Int) - 1 := by omega
  clear hi0 h0
  go_enter Try.func44, Try.ntmps44
  go_wp2_with fail
  go_loopw [5] (fun s wr => ∃ i : Nat, s = .int .i64 i ∧ i < l.length ∧ Hid (∀ j, (h : j + 1 < l.length) → i < j + 1 → 0 ≤ cmpV l[j + 1] l[j]) ∧ Below w.heap.size w wr) (fun s _ => (intOf s).toNat)
  case atStart => exact ⟨i0, by congr 1; have := HI0.out; omega, by have := HI0.out; omega, Lib.hid (fun j h hk => by have := HI0.out; omega), Below.refl _ _⟩
  case round =>
    obtain ⟨i, rfl, hk, HA, hb⟩ := hrel
    by_cases hlt : 0 < i
    · obtain ⟨j, rfl⟩ : ∃ j, i = j + 1 := ⟨i - 1, by omega⟩
      obtain ⟨g, o, x1, q1, m1, d1, c1, g2, o2, x2, q2, m2, d2, c2, e1, hg, hC1, e2, _, hC2, hCall⟩ := HP.out j (by omega)
      simp only [Value.slice.injEq, true_and] at e1 e2
      obtain ⟨rfl, rfl⟩ := e1
      simp only [Option.some.injEq, Addr.mk.injEq, and_true] at e2
      obtain ⟨⟨rfl, rfl⟩, rfl⟩ := e2
      have hC1 := hC1.same (hb.block g hg)
      have hC2 := hC2.same (hb.block g hg)
      obtain ⟨x10, x11, x12, x13, x14, x15, x16, x17, x18⟩ := hC1
      obtain ⟨y10, y11, y12, y13, y14, y15, y16, y17, y18⟩ := hC2
      have hb' : Below w.heap.size w wr.drew := hb.drewN 1
      have HC := Lib.hid (hCall wr.drew hb')
      clear hCall
      have HF1 := Lib.hid (HF.out j (by omega))
      have HA2 : Hid (0 ≤ cmpV l[j + 1] l[j] → ∀ i, (h : i + 1 < l.length) → j < i + 1 → 0 ≤ cmpV l[i + 1] l[i]) := Lib.hid (fun e i h hi => by
        by_cases e2 : i = j
        · subst e2; exact e
        · exact HA.out i h (by omega))
      generalize cmpV l[j + 1] l[j] = z at *
      unfold aggV IPostC at HC
      have r0 : ((j + 1 : Nat) : Int) = (j : Int) + 1 := by omega
      have r1 : (0 : Int) < (j : Int) + 1 := by omega
      have r2 : (j : Int) + 1 < (l.length : Int) := by omega
      have r3 : (0 : Int) ≤ (j : Int) + 1 := by omega
      have r4 : ((j : Int) + 1).toNat = j + 1 := by omega
      have r5 : IntKind.i64.wrap (j : Int) = (j : Int) := IntWalk.i64_in _ (by omega)
      have r6 : (j : Int) < (l.length : Int) := by omega
      have HB' := Lib.hid hb'
      rw [r0]
      clear hb' r0 HA HF hk
      by_cases hz : z < 0
      · have q1 : decide (z < 0) = true := decide_eq_true hz
        have HFin := Lib.hid (HF1.out hz)
        clear HF1 HA2
        go_wp2_with fail
        go_still_tail 10, (by kernel_rfl)
        change wpList _ _ _ _ _ wr.drew
        clear x10 x11 x12 x13 x14 x15 x16 x17 x18 y10 y11 y12 y13 y14 y15 y16 y17 y18
        generalize wr.drew = w2 at *
        go_wp2_with fail
        refine HC.out.mono ?_
        rintro e w3 ⟨rfl, hb3⟩
        have hb4 := HB'.out.trans (hb3.mono HB'.out.size)
        go_wp2_with fail
        go_ret
        exact ⟨ret1b HFin.out.symm, hb4⟩
      · have q1 : decide (z < 0) = false := decide_eq_false hz
        have H2 := Lib.hid (HA2.out (by omega))
        clear HF1 HA2
        go_wp2_with fail
        go_still_tail 10, (by kernel_rfl)
        change wpList _ _ _ _ _ wr.drew
        clear x10 x11 x12 x13 x14 x15 x16 x17 x18 y10 y11 y12 y13 y14 y15 y16 y17 y18
        generalize wr.drew = w2 at *
        go_wp2_with fail
        refine HC.out.mono ?_
        rintro e w3 ⟨rfl, hb3⟩
        have hb4 := HB'.out.trans (hb3.mono HB'.out.size)
        go_wp2_with fail
        go_roundw
        case rel => exact ⟨j, by go_num, by omega, H2, hb4⟩
        case measure => simp [intOf]
    · have HFin := Lib.hid (HT.out (fun j h => HA.out j h (by omega)))
      obtain rfl : i = 0 := by omega
      go_wp2_with fail
      go_ret
      exact ⟨ret1b HFin.out.symm, hb⟩
theorem Ordered {n : Nat} (w : World) (B : Nat) (v : Value) (l : List (Tm (n + 1))) (hB : B ≤ w.heap.size) (h1 : ItemsAt w B (n + 1) v l) (hs : nodesL (n + 1) l ≤ 100000000) :
    Calls Try.prog 21 #[v] w (BPost (ordB l) w) := by
  have HI := Lib.hid (isSorted w B v l hB h1 hs)
  obtain ⟨p, c, rfl, hc, hm⟩ := h1.shape
  unfold BPost at *
  generalize ordB l = r at *
  clear h1 hs
  go_enter Try.func21, Try.ntmps21
  go_wp2_with fail
  refine HI.out.mono ?_
  rintro e w1 ⟨rfl, hb⟩
  go_wp2_with fail
  go_ret
  exact ⟨rfl, hb⟩
end Go.Proofs.Ythgfdpamnepnfaa.tm
/- slices.BinarySearchFunc, order.Search. Conditions: the terms lie in memory; they are few enough. -/
namespace Go.Proofs.Ythgfdpamnepnfaa.tm
open Go.RowKit mem names
set_option linter.unusedVariables false
set_option linter.unusedSimpArgs false
set_option maxHeartbeats 1000000
set_option maxRecDepth 100000

/-- an element, beside a term in a box -/
theorem cmpOne {n : Nat} (w : World) (B : Nat) (v1 v2 : Value) (l1 : List (Tm (n + 1))) (t : Tm (n + 1)) (hB : B ≤ w.heap.size) (h1 : ItemsAt w B (n + 1) v1 l1) (h2 : ItemsAt w B n v2 t.items) (s1 : nodesL (n + 1) l1 ≤ 100000000) (s2 : nodesT t ≤ 100000000) (i : Nat) (hi : i < l1.length) :
    ∃ g1 o1 x1 q1 m1 d1 c1, v1 = .slice (some ⟨g1, o1, none⟩) l1.length c1 ∧ g1 < w.heap.size ∧ Cells w g1 (o1 + i * 9) x1 (.slice q1 m1 d1) ∧
      ∀ W, Below w.heap.size w W → Calls Try.prog 14 #[aggV x1 (.slice q1 m1 d1), aggV t.f v2] W (IPostC (cmpV l1[i] t) W) := by
  obtain ⟨g1, o1, d1, e1, _, _, hg1, hx1⟩ := h1.at_ (by intro e; subst e; simp at hi)
  obtain ⟨u1, hC1, hI1⟩ := hx1 i hi
  obtain ⟨q1, c1', rfl, _, _⟩ := hI1.shape
  have k1 := nodes_mem hi
  exact ⟨g1, o1, l1[i].f, q1, _, c1', d1, e1, by omega, hC1, fun W hb => Compare W B _ _ l1[i] t (Nat.le_trans hB hb.size) (hI1.below hb hB) (h2.below hb hB) (by omega) (by omega)⟩
noncomputable def searchK {n : Nat} (l : List (Tm (n + 1))) (t : Tm (n + 1)) : Nat := l.findIdx (fun x => decide (0 ≤ cmpV x t))
noncomputable def foundB {n : Nat} (l : List (Tm (n + 1))) (t : Tm (n + 1)) : Bool := ((l[searchK l t]?).map (fun x => decide (cmpV x t = 0))).getD false
theorem search_is {n : Nat} (l : List (Tm (n + 1))) (t : Tm (n + 1)) (k : Nat) (hk : k ≤ l.length) (h1 : ∀ j, (h : j < l.length) → j < k → cmpV l[j] t < 0) (h2 : (h : k < l.length) → 0 ≤ cmpV l[k] t) : searchK l t = k := by
  unfold searchK
  by_cases e : k < l.length
  · rw [List.findIdx_eq e]
    exact ⟨decide_eq_true (h2 e), fun j hj => decide_eq_false (by have := h1 j (by omega) hj; omega)⟩
  · obtain rfl : k = l.length := by omega
    rw [List.findIdx_eq_length]
    intro x hx
    obtain ⟨j, hj, rfl⟩ := List.mem_iff_getElem.1 hx
    exact decide_eq_false (by have := h1 j hj hj; omega)
def SPost2 (k : Nat) (f : Bool) (w : World) (e : Ending) (w' : World) : Prop := e = .returned (.tuple #[.int .i64 k, .bool f]) ∧ Below w.heap.size w w'
theorem box1 (w : World) (f : TF) (v : Value) : Nine (w.alloc (cells9 f v)) w.heap.size f v ∧ Below w.heap.size w (w.alloc (cells9 f v)) ∧ (w.alloc (cells9 f v)).heap.size = w.heap.size + 1 :=
  ⟨nine_of (MapKept.heap_alloc w (cells9 f v)).1, (Below.refl _ _).alloc (Nat.le_refl _) _, by simp⟩
theorem binSearch {n : Nat} (w : World) (B : Nat) (v v2 : Value) (l : List (Tm (n + 1))) (t : Tm (n + 1)) (hB : B ≤ w.heap.size) (h1 : ItemsAt w B (n + 1) v l) (h2 : ItemsAt w B n v2 t.items) (s1 : nodesL (n + 1) l ≤ 100000000) (s2 : nodesT t ≤ 100000000)
    (hmono : ∀ a b, (ha : a ≤ b) → (hb : b < l.length) → cmpV l[b] t < 0 → cmpV (l[a]'(by omega)) t < 0) :
    Calls Try.prog 47 #[v, aggV t.f v2, .func (.func 14) #[] #[]] w (SPost2 (searchK l t) (foundB l t) w) := by
  have HP := Lib.hid (fun i (h : i < l.length) => cmpOne w B v v2 l t hB h1 h2 s1 s2 i h)
  have hlen := nodes_len (n + 1) l
  obtain ⟨p, c, rfl, hc, hm⟩ := h1.shape
  obtain ⟨q, d, rfl, _, _⟩ := h2.shape
  have HS := Lib.hid (search_is l t)
  have hfe : foundB l t = ((l[searchK l t]?).map (fun x => decide (cmpV x t = 0))).getD false := rfl
  have HF := Lib.hid hfe
  have HM := Lib.hid hmono
  have hle : (l.length : Int) ≤ 100000000 := by omega
  have hle' : l.length ≤ 100000000 := by omega
  generalize t.items.length = m at *
  obtain ⟨f, hf⟩ : ∃ f, t.f = f := ⟨_, rfl⟩
  rw [hf] at HP ⊢
  clear hf
  obtain ⟨k1, i1, g1, n1, fn1, a1, by1, s1'⟩ := f
  generalize searchK l t = K at *
  generalize foundB l t = R at *
  clear h1 h2 s1 s2 hlen hmono hfe
  unfold aggV at *
  dsimp only at *
  unfold SPost2
  go_enter Try.func47, Try.ntmps47
  go_wp2_with fail
  obtain ⟨hN1, hbw, hsz⟩ := box1 w ⟨k1, i1, g1, n1, fn1, a1, by1, s1'⟩ (.slice q m d)
  unfold cells9 at hN1 hbw hsz
  dsimp only at hN1 hbw hsz
  generalize (w.alloc (.cells #[.int .i64 k1, .int .i64 i1, .int .i64 g1, .string n1, .string fn1, .int .i64 a1, .slice q m d, .string by1, .int .i64 s1'] 24)) = W0 at *
  have HZ1 : Hid (w.heap.size < W0.heap.size) := Lib.hid (by omega)
  clear hsz
  have HN1 := Lib.hid hN1
  clear hN1
  go_loopw [9, 10] (fun s u wr => ∃ i j : Nat, s = .int .i64 i ∧ u = .int .i64 j ∧ i ≤ j ∧ j ≤ l.length ∧ Hid ((∀ k, (h : k < l.length) → k < i → cmpV l[k] t < 0) ∧ (∀ k, (h : k < l.length) → j ≤ k → 0 ≤ cmpV l[k] t)) ∧ Below W0.heap.size W0 wr) (fun s u _ => (intOf u).toNat - (intOf s).toNat)
  case atStart => exact ⟨0, l.length, rfl, rfl, by omega, by omega, Lib.hid ⟨fun k h hk => by omega, fun k h hk => by omega⟩, Below.refl _ _⟩
  case round =>
    obtain ⟨i, j, rfl, rfl, hij, hjl, HA, hb⟩ := hrel
    by_cases hlt : i < j
    · obtain ⟨h, hh⟩ : ∃ h : Nat, (i + j) / 2 = h := ⟨_, rfl⟩
      have e1 : ((i : Int) + (j : Int)) / 2 = (h : Int) := by omega
      obtain ⟨g, o, x1, q1, m1, d1, c1, e1', hg, hC1, hCall⟩ := HP.out h (by omega)
      simp only [Value.slice.injEq, true_and] at e1'
      obtain ⟨rfl, rfl⟩ := e1'
      have hbww : Below w.heap.size w wr := hbw.trans (hb.mono hbw.size)
      have hC1 := hC1.same (hbww.block g hg)
      have HQ1 := Lib.hid (HN1.out.below hb HZ1.out)
      obtain ⟨kk, ii, gg, nn, ff, aa, bb, ss⟩ := x1
      dsimp only at hCall hC1
      have hb' : Below w.heap.size w wr.drew := hbww.drewN 1
      have HC := Lib.hid (hCall wr.drew hb')
      have HB' := Lib.hid hb'
      have HBW0 : Hid (Below W0.heap.size W0 wr.drew) := Lib.hid (hb.drewN 1)
      clear hCall hb'
      unfold IPostC at HC
      have HK1 : Hid (cmpV l[h] t < 0 → (∀ k, (h' : k < l.length) → k < h + 1 → cmpV l[k] t < 0)) := Lib.hid (fun e k h' hk => HM.out k h (by omega) (by omega) e)
      have HK2 : Hid (0 ≤ cmpV l[h] t → (∀ k, (h' : k < l.length) → h ≤ k → 0 ≤ cmpV l[k] t)) := Lib.hid (fun e k h' hk => by
        by_cases hc : 0 ≤ cmpV l[k] t
        · exact hc
        · have := HM.out h k hk h' (by omega); omega)
      have HA1 := Lib.hid HA.out.1
      have HA2 := Lib.hid HA.out.2
      generalize cmpV l[h] t = z at *
      obtain ⟨x10, x11, x12, x13, x14, x15, x16, x17, x18⟩ := hC1
      obtain ⟨y10, y11, y12, y13, y14, y15, y16, y17, y18, yz⟩ := HQ1.out
      dsimp only at x10 x11 x12 x13 x14 x15 x16 x17 x18 y10 y11 y12 y13 y14 y15 y16 y17 y18
      have r1 : (h : Int) < (l.length : Int) := by omega
      have r2 : (0 : Int) ≤ (h : Int) := by omega
      clear HA
      by_cases hz : z < 0
      · have q1 : decide (z < 0) = true := decide_eq_true hz
        have H2 := Lib.hid (HK1.out hz)
        clear HK1 HK2
        go_wp2_with fail
        go_still_tail 6, (by kernel_rfl)
        change wpList _ _ _ _ _ wr.drew
        clear x10 x11 x12 x13 x14 x15 x16 x17 x18 y10 y11 y12 y13 y14 y15 y16 y17 y18 yz
        generalize wr.drew = w2 at *
        go_wp2_with fail
        refine HC.out.mono ?_
        rintro e w3 ⟨rfl, hb3⟩
        have hb4 : Below W0.heap.size W0 w3 := HBW0.out.trans (hb3.mono HBW0.out.size)
        go_wp2_with fail
        go_roundw
        case rel => exact ⟨h + 1, j, by go_num, rfl, by omega, by omega, Lib.hid ⟨H2.out, HA2.out⟩, hb4⟩
        case measure => simp [intOf]; omega
      · have q1 : decide (z < 0) = false := decide_eq_false hz
        have H2 := Lib.hid (HK2.out (by omega))
        clear HK1 HK2
        go_wp2_with fail
        go_still_tail 6, (by kernel_rfl)
        change wpList _ _ _ _ _ wr.drew
        clear x10 x11 x12 x13 x14 x15 x16 x17 x18 y10 y11 y12 y13 y14 y15 y16 y17 y18 yz
        generalize wr.drew = w2 at *
        go_wp2_with fail
        refine HC.out.mono ?_
        rintro e w3 ⟨rfl, hb3⟩
        have hb4 : Below W0.heap.size W0 w3 := HBW0.out.trans (hb3.mono HBW0.out.size)
        go_wp2_with fail
        go_roundw
        case rel => exact ⟨i, h, rfl, by go_num, by omega, by omega, Lib.hid ⟨HA1.out, H2.out⟩, hb4⟩
        case measure => simp [intOf]; omega
    · obtain rfl : i = j := by omega
      have hK := HS.out i hjl HA.out.1 (fun h => HA.out.2 i h (Nat.le_refl _))
      by_cases hl : i < l.length
      · have hR : R = decide (cmpV l[i] t = 0) := by rw [HF.out, hK, List.getElem?_eq_getElem hl]; rfl
        have HR := Lib.hid hR
        have HK := Lib.hid hK
        clear hR hK
        obtain ⟨g, o, x1, q1, m1, d1, c1, e1', hg, hC1, hCall⟩ := HP.out i (by omega)
        simp only [Value.slice.injEq, true_and] at e1'
        obtain ⟨rfl, rfl⟩ := e1'
        have hbww : Below w.heap.size w wr := hbw.trans (hb.mono hbw.size)
        have hC1 := hC1.same (hbww.block g hg)
        have HQ1 := Lib.hid (HN1.out.below hb HZ1.out)
        obtain ⟨kk, ii, gg, nn, ff, aa, bb, ss⟩ := x1
        dsimp only at hCall hC1
        have hb' : Below w.heap.size w wr.drew := hbww.drewN 1
        have HC := Lib.hid (hCall wr.drew hb')
        have HB' := Lib.hid hb'
        have HBW0 : Hid (Below W0.heap.size W0 wr.drew) := Lib.hid (hb.drewN 1)
        clear hCall hb'
        unfold IPostC at HC
        have HQ2 := Lib.hid (show Nine wr.drew w.heap.size ⟨k1, i1, g1, n1, fn1, a1, by1, s1'⟩ (.slice q m d) from nine_drew HQ1.out)
        have HC2 := Lib.hid (show Cells wr.drew g (o + i * 9) ⟨kk, ii, gg, nn, ff, aa, bb, ss⟩ (.slice q1 m1 d1) from hC1.same rfl)
        have hgd : g < wr.drew.heap.size := Nat.lt_of_lt_of_le hg HB'.out.size
        have hzd : w.heap.size < wr.drew.heap.size := Nat.lt_of_lt_of_le HZ1.out HBW0.out.size
        generalize cmpV l[i] t = z at *
        obtain ⟨x10, x11, x12, x13, x14, x15, x16, x17, x18⟩ := hC1
        obtain ⟨y10, y11, y12, y13, y14, y15, y16, y17, y18, yz⟩ := HQ1.out
        dsimp only at x10 x11 x12 x13 x14 x15 x16 x17 x18 y10 y11 y12 y13 y14 y15 y16 y17 y18
        have r1 : (i : Int) < (l.length : Int) := by omega
        have r2 : (0 : Int) ≤ (i : Int) := by omega
        have r3 : decide (i < l.length) = true := decide_eq_true hl
        go_wp2_with fail
        go_region_held3 (fun w' => (w'.cell? ⟨g, o + i * 9, none⟩ = some (.int .i64 kk) ∧ w'.cell? ⟨g, o + i * 9 + 1, none⟩ = some (.int .i64 ii) ∧ w'.cell? ⟨g, o + i * 9 + 1 + 1, none⟩ = some (.int .i64 gg) ∧ w'.cell? ⟨g, o + i * 9 + 1 + 1 + 1, none⟩ = some (.string nn) ∧ w'.cell? ⟨g, o + i * 9 + 1 + 1 + 1 + 1, none⟩ = some (.string ff) ∧ w'.cell? ⟨g, o + i * 9 + 1 + 1 + 1 + 1 + 1, none⟩ = some (.int .i64 aa) ∧ w'.cell? ⟨g, o + i * 9 + 1 + 1 + 1 + 1 + 1 + 1, none⟩ = some (.slice q1 m1 d1) ∧ w'.cell? ⟨g, o + i * 9 + 1 + 1 + 1 + 1 + 1 + 1 + 1, none⟩ = some (.string bb) ∧ w'.cell? ⟨g, o + i * 9 + 1 + 1 + 1 + 1 + 1 + 1 + 1 + 1, none⟩ = some (.int .i64 ss)) ∧ w'.cell? ⟨w.heap.size, 0, none⟩ = some (.int .i64 k1) ∧ w'.cell? ⟨w.heap.size, 1, none⟩ = some (.int .i64 i1) ∧ w'.cell? ⟨w.heap.size, 2, none⟩ = some (.int .i64 g1) ∧ w'.cell? ⟨w.heap.size, 3, none⟩ = some (.string n1) ∧ w'.cell? ⟨w.heap.size, 4, none⟩ = some (.string fn1) ∧ w'.cell? ⟨w.heap.size, 5, none⟩ = some (.int .i64 a1) ∧ w'.cell? ⟨w.heap.size, 6, none⟩ = some (.slice q m d) ∧ w'.cell? ⟨w.heap.size, 7, none⟩ = some (.string by1) ∧ w'.cell? ⟨w.heap.size, 8, none⟩ = some (.int .i64 s1')) (go_keep)
          (first
            | (go_at_call 14; (with_reducible refine HC.out.mono ?_); rintro e5 w5 ⟨rfl, hb5⟩; have HA5 := Lib.hid (HC2.out.same (hb5.block g hgd)); have HB5 := Lib.hid (HQ2.out.below hb5 hzd); obtain ⟨z0, z1, z2, z3, z4, z5, z6, z7, z8⟩ := HA5.out; obtain ⟨t0, t1, t2, t3, t4, t5, t6, t7, t8, tz⟩ := HB5.out; dsimp only at z0 z1 z2 z3 z4 z5 z6 z7 z8 t0 t1 t2 t3 t4 t5 t6 t7 t8))
        have hbf : Below w.heap.size w w5 := HB'.out.trans (hb5.mono HB'.out.size)
        go_wp2_with fail
        go_ret2
        refine ⟨?_, hbf⟩
        rw [HK.out, HR.out]
        rfl
      · have hR : R = false := by rw [HF.out, hK, List.getElem?_eq_none (by omega)]; rfl
        have HR := Lib.hid hR
        have HK := Lib.hid hK
        have hbww : Below w.heap.size w wr.drew := (hbw.trans (hb.mono hbw.size)).drewN 1
        have r1 : ¬ (i : Int) < (l.length : Int) := by omega
        have r2 : decide ((i : Int) < (l.length : Int)) = false := decide_eq_false r1
        have r3 : decide (i < l.length) = false := decide_eq_false hl
        clear hR hK
        go_wp2_with fail
        go_big_region
        go_wp2_with fail
        go_ret2
        refine ⟨?_, hbww⟩
        rw [HK.out, HR.out]
        rfl
end Go.Proofs.Ythgfdpamnepnfaa.tm
