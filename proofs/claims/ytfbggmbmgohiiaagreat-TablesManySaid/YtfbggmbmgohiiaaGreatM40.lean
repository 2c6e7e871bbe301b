/- Texts of this seat, one behind the other: TnT, TnU, TnV, ToH. No condition beyond theirs. -/
import Derived.Test.YtfbggmbmgohiiaaGreatM39
import Derived.Test.YtfbggmbmgohiiaaGreatM21
set_option linter.unusedSimpArgs false
set_option linter.unusedVariables false
set_option maxHeartbeats 1000000
set_option maxRecDepth 100000
namespace Go.Proofs.YtfbggmbmgohiiaaGreat.tm
open Go.RowKit mem names
noncomputable def ordB {n : Nat} (l : List (Tm (n + 1))) : Bool := @decide (∀ j, (h : j + 1 < l.length) → 0 ≤ cmpV l[j + 1] l[j]) (Classical.propDecidable _)
theorem ordB_t {n : Nat} {l : List (Tm (n + 1))} (h : ∀ j, (h : j + 1 < l.length) → 0 ≤ cmpV l[j + 1] l[j]) : ordB l = true := @decide_eq_true _ (Classical.propDecidable _) h
theorem ordB_f {n : Nat} {l : List (Tm (n + 1))} {j : Nat} (hj : j + 1 < l.length) (h : cmpV l[j + 1] l[j] < 0) : ordB l = false := @decide_eq_false _ (Classical.propDecidable _) (fun hh => by have := hh j hj; omega)
theorem setRow_touch (W : World) (g : Nat) (cs : Array Value) : TouchB (fun k => k = g) W (W.setRow g cs) := ⟨rfl, rfl, rfl, by simp, fun k _ hk => setRow_other W g k cs hk⟩
theorem rcmpEl {n : Nat} (w : World) (B : Nat) (v1 v2 : Value) (l1 l2 : List (Tm (n + 1))) (hB : B ≤ w.heap.size) (h1 : ItemsAt w B (n + 1) v1 l1) (h2 : ItemsAt w B (n + 1) v2 l2) (s1 : nodesL (n + 1) l1 ≤ 100000000) (s2 : nodesL (n + 1) l2 ≤ 100000000) (i j : Nat) (hi : i < l1.length) (hj : j < l2.length) :
    ∃ g1 o1 x1 q1 m1 d1 c1 g2 o2 x2 q2 m2 d2 c2, v1 = .slice (some ⟨g1, o1, none⟩) l1.length c1 ∧ g1 < w.heap.size ∧ Cells w g1 (o1 + i * 9) x1 (.slice q1 m1 d1) ∧ v2 = .slice (some ⟨g2, o2, none⟩) l2.length c2 ∧ g2 < w.heap.size ∧ Cells w g2 (o2 + j * 9) x2 (.slice q2 m2 d2) ∧
      ∀ W, Below w.heap.size w W → Calls Tryz.prog 54 #[aggV x1 (.slice q1 m1 d1), aggV x2 (.slice q2 m2 d2)] W (IPostC (cmpV l1[i] l2[j]) W) := by
  obtain ⟨g1, o1, d1, e1, _, _, hg1, hx1⟩ := h1.at_ (by intro e; subst e; simp at hi)
  obtain ⟨u1, hC1, hI1⟩ := hx1 i hi
  obtain ⟨g2, o2, d2, e2, _, _, hg2, hx2⟩ := h2.at_ (by intro e; subst e; simp at hj)
  obtain ⟨u2, hC2, hI2⟩ := hx2 j hj
  obtain ⟨q1, c1', rfl, _, _⟩ := hI1.shape
  obtain ⟨q2, c2', rfl, _, _⟩ := hI2.shape
  have k1 := nodes_mem hi
  have k2 := nodes_mem hj
  exact ⟨g1, o1, l1[i].f, q1, _, c1', d1, g2, o2, l2[j].f, q2, _, c2', d2, e1, by omega, hC1, e2, by omega, hC2, fun W hb => RCompare W B _ _ l1[i] l2[j] (Nat.le_trans hB hb.size) (hI1.below hb hB) (hI2.below hb hB) (by omega) (by omega)⟩
theorem ROrdered {n : Nat} (w : World) (B : Nat) (v : Value) (l : List (Tm (n + 1))) (hB : B ≤ w.heap.size) (h1 : ItemsAt w B (n + 1) v l) (hs : nodesL (n + 1) l ≤ 100000000) :
    Calls Tryz.prog 34 #[v] w (BPost (ordB l) w) := by
  have HP := Lib.hid (fun j (h : j + 1 < l.length) => rcmpEl w B v v l l hB h1 h1 hs hs (j + 1) j h (by omega))
  have hlen := nodes_len (n + 1) l
  obtain ⟨p, c, rfl, hc, hm⟩ := h1.shape
  have HT := Lib.hid (fun h => ordB_t (l := l) h)
  have HF := Lib.hid (fun j h h2 => ordB_f (l := l) (j := j) h h2)
  have hle : (l.length : Int) ≤ 100000000 := by omega
  generalize ordB l = r at *
  clear h1 hs hlen
  unfold BPost
  go_enter Tryz.func34, Tryz.ntmps34
  go_wp2_with fail
  go_loopw [3] (fun s wr => ∃ i : Nat, s = .int .i64 i ∧ 1 ≤ i ∧ Hid (∀ j, (h : j + 1 < l.length) → j + 1 < i → 0 ≤ cmpV l[j + 1] l[j]) ∧ Below w.heap.size w wr) (fun s _ => l.length - (intOf s).toNat)
  case atStart => exact ⟨1, by go_num, by omega, Lib.hid (fun j h hk => by omega), Below.refl _ _⟩
  case round =>
    obtain ⟨i, rfl, hi1, HA, hb⟩ := hrel
    by_cases hlt : i < l.length
    · obtain ⟨j, rfl⟩ : ∃ j, i = j + 1 := ⟨i - 1, by omega⟩
      obtain ⟨g, o, x1, q1, m1, d1, c1, g2, o2, x2, q2, m2, d2, c2, e1, hg, hC1, e2, _, hC2, hCall⟩ := HP.out j (by omega)
      simp only [Value.slice.injEq, true_and] at e1 e2
      obtain ⟨rfl, rfl⟩ := e1
      simp only [Option.some.injEq, Addr.mk.injEq, and_true] at e2
      obtain ⟨⟨rfl, rfl⟩, rfl⟩ := e2
      have hC1 := hC1.same (hb.block g hg)
      have hC2 := hC2.same (hb.block g hg)
      obtain ⟨x10, x11, x12, x13, x14, x15, x16, x17, x18⟩ := hC1
      obtain ⟨y10, y11, y12, y13, y14, y15, y16, y17, y18⟩ := hC2
      have hb' : Below w.heap.size w wr.drew := hb.drewN 1
      have HC := Lib.hid (hCall wr.drew hb')
      clear hCall
      have HF1 := Lib.hid (HF.out j (by omega))
      have HA2 : Hid (0 ≤ cmpV l[j + 1] l[j] → ∀ i, (h : i + 1 < l.length) → i + 1 < j + 1 + 1 → 0 ≤ cmpV l[i + 1] l[i]) := Lib.hid (fun e i h hi => by
        by_cases e2 : i = j
        · subst e2; exact e
        · exact HA.out i h (by omega))
      generalize cmpV l[j + 1] l[j] = z at *
      unfold aggV IPostC at HC
      have r0 : ((j + 1 : Nat) : Int) = (j : Int) + 1 := by omega
      have r2 : (j : Int) + 1 < (l.length : Int) := by omega
      have r3 : (0 : Int) ≤ (j : Int) + 1 := by omega
      have r4 : ((j : Int) + 1).toNat = j + 1 := by omega
      have r5 : IntKind.i64.wrap (j : Int) = (j : Int) := IntWalk.i64_in _ (by omega)
      have r6 : (j : Int) < (l.length : Int) := by omega
      have HB' := Lib.hid hb'
      rw [r0]
      clear hb' r0 HA HF
      by_cases hz : z < 0
      · have q1 : decide (z < 0) = true := decide_eq_true hz
        have HFin := Lib.hid (HF1.out hz)
        clear HF1 HA2
        go_wp2_with fail
        go_still_tail 9, (by kernel_rfl)
        change wpList _ _ _ _ _ wr.drew
        clear x10 x11 x12 x13 x14 x15 x16 x17 x18 y10 y11 y12 y13 y14 y15 y16 y17 y18
        generalize wr.drew = w2 at *
        go_wp2_with fail
        refine HC.out.mono ?_
        rintro e w3 ⟨rfl, hb3⟩
        have hb4 := HB'.out.trans (hb3.mono HB'.out.size)
        go_wp2_with fail
        go_ret
        exact ⟨ret1b HFin.out.symm, hb4⟩
      · have q1 : decide (z < 0) = false := decide_eq_false hz
        have H2 := Lib.hid (HA2.out (by omega))
        clear HF1 HA2
        go_wp2_with fail
        go_still_tail 9, (by kernel_rfl)
        change wpList _ _ _ _ _ wr.drew
        clear x10 x11 x12 x13 x14 x15 x16 x17 x18 y10 y11 y12 y13 y14 y15 y16 y17 y18
        generalize wr.drew = w2 at *
        go_wp2_with fail
        refine HC.out.mono ?_
        rintro e w3 ⟨rfl, hb3⟩
        have hb4 := HB'.out.trans (hb3.mono HB'.out.size)
        go_wp2_with fail
        go_roundw
        case rel => exact ⟨j + 1 + 1, by go_num, by omega, H2, hb4⟩
        case measure => simp [intOf]; omega
    · have HFin := Lib.hid (HT.out (fun j h => HA.out j h (by omega)))
      go_wp2_with fail
      go_ret
      exact ⟨ret1b HFin.out.symm, hb⟩
end Go.Proofs.YtfbggmbmgohiiaaGreat.tm
