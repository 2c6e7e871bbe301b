/- container/heap's down: the heap's order is mended. Conditions: the heap of timers lies in memory, and only one timer is out of order. -/
import Derived.Test.YtgkiknkifleofaaWalkE
namespace Go.Proofs.Ytgkiknkifleofaa.tm
open Go.RowKit mem TP
set_option linter.unusedVariables false
set_option linter.unusedSimpArgs false
set_option maxHeartbeats 4000000

/-- what down leaves -/
def DownPost (b gr c n i : Nat) (Q : List Nat) (D : Nat → TD) (x0 x2 : Value) (w : World) (e : Ending) (w' : World) : Prop :=
  ∃ r, e = .returned (.bool r) ∧ ∃ Q', Pile w' b gr c Q' D x0 x2 ∧ Mix Q Q' n ∧ (r = true → Heap (le D) Q' n) ∧ (r = false → Q' = Q ∧ TP.Kids (le D) Q' n i) ∧ TouchB (pfoot gr Q) w w'
theorem downPost {b gr c n i : Nat} {Q : List Nat} {D : Nat → TD} {x0 x2 : Value} {w : World} {w' : World} (r : Bool) (Q' : List Nat) (h1 : Pile w' b gr c Q' D x0 x2) (h2 : Mix Q Q' n) (h3 : r = true → Heap (le D) Q' n) (h4 : r = false → Q' = Q ∧ TP.Kids (le D) Q' n i) (h5 : TouchB (pfoot gr Q) w w') :
    DownPost b gr c n i Q D x0 x2 w (.returned (.bool r)) w' := ⟨r, rfl, Q', h1, h2, h3, h4, h5⟩
set_option maxRecDepth 100000 in
theorem down {w : World} {b gr c n i : Nat} {Q : List Nat} {D : Nat → TD} {x0 x2 : Value} (h : Pile w b gr c Q D x0 x2) (hi : i ≤ n) (hn : n ≤ Q.length) (hmax : Q.length ≤ 1000000) (hh : Hole (le D) Q n i) :
    Calls Try.prog 41 #[.iface 63 (.pointer (some ⟨b, 1, none⟩)), .int .i64 i, .int .i64 n] w (DownPost b gr c n i Q D x0 x2 w) := by
  go_enter Try.func41, Try.ntmps41
  go_wp2_with fail
  go_loopw [7] (fun s wr => ∃ (k : Nat) (Q' : List Nat), s = .int .i64 k ∧ k ≤ n ∧ i ≤ k ∧ Pile wr b gr c Q' D x0 x2 ∧ Mix Q Q' n ∧ Hole (le D) Q' n k ∧ Hid (k = i → Q' = Q) ∧ Hid (i < k → TP.Par (le D) Q' k) ∧ TouchB (pfoot gr Q) w wr) (fun s _ => n - (intOf s).toNat)
  case atStart => exact ⟨i, Q, rfl, hi, Nat.le_refl _, h, Mix.refl _ _, hh, Lib.hid fun _ => rfl, Lib.hid (fun e => absurd e (by omega)), TouchB.refl _ _⟩
  case round =>
    obtain ⟨k, Q', rfl, hkn, hik, hP, hM, hH, hS, hR, hT⟩ := hrel
    have hlen := Lib.hid hM.len
    have hle : Q'.length ≤ 1000000 := by have := hlen.out; omega
    have hnl : n ≤ Q'.length := by have := hlen.out; omega
    have fin : TP.Kids (le D) Q' n k → (decide (i < k) = true → Heap (le D) Q' n) ∧ (decide (i < k) = false → Q' = Q ∧ TP.Kids (le D) Q' n i) := by
      intro hK
      refine ⟨fun e => heap_of _ hH hK (hR.out (by have := of_decide_eq_true e; omega)), fun e => ?_⟩
      have he : k = i := by have := of_decide_eq_false e; omega
      exact ⟨hS.out he, he ▸ hK⟩
    have HFin := Lib.hid fin; clear fin
    by_cases ha : n ≤ 2 * k + 1
    · go_wp2_with fail
      go_ret
      exact downPost (decide (i < k)) Q' hP hM (HFin.out (fun q q0 qn qp => absurd qn (by omega))).1 (HFin.out (fun q q0 qn qp => absurd qn (by omega))).2 hT
    obtain ⟨j1, hj1⟩ : ∃ j1 : Nat, j1 = 2 * k + 1 := ⟨_, rfl⟩
    obtain ⟨j2, hj2⟩ : ∃ j2 : Nat, j2 = 2 * k + 2 := ⟨_, rfl⟩
    have HJ1 := Lib.hid hj1; clear hj1
    have HJ2 := Lib.hid hj2; clear hj2
    have hj1k : k < j1 ∧ j1 < n := by have := HJ1.out; omega
    have hc := hP.cell1
    have hm := meth_less 219 ⟨b, 1, none⟩ _ _ _ wr hc
    by_cases hb : 2 * k + 2 < n
    · have hj2k : k < j2 ∧ j2 < n := by have := HJ2.out; omega
      go_wp2_with fail
      rw [show (2 * (k : Int) + 1 + 1) = ((j2 : Nat) : Int) from by have := HJ2.out; omega, show (2 * (k : Int) + 1) = ((j1 : Nat) : Int) from by have := HJ1.out; omega]
      refine (PLess hP j2 j1 (by omega) (by omega) hle).mono ?_
      rintro e w2 ⟨rfl, hb2⟩
      have hP2 := hP.below hb2
      have hT2 : TouchB (pfoot gr Q) w w2 := hT.ofBelow hb2 hT.size
      clear hm hc
      have hc := hP2.cell1
      have hm := meth_less 219 ⟨b, 1, none⟩ _ _ _ w2 hc
      by_cases hl2 : cmpT (D (g Q' j2)) (D (g Q' j1)) < 0
      · have hd2 : decide (cmpT (D (g Q' j2)) (D (g Q' j1)) < 0) = true := decide_eq_true hl2
        have hmin : ∀ q, 0 < q → q < n → (q - 1) / 2 = k → le D (g Q' j2) (g Q' q) := by
          intro q q0 qn qp
          have h1 := HJ1.out
          have h2 := HJ2.out
          have : q = j1 ∨ q = j2 := by omega
          rcases this with rfl | rfl
          · exact le_of_lt D _ _ hl2
          · exact le_rf D _
        have HMin := Lib.hid hmin; clear hmin hl2
        go_wp2_with fail
        refine (PLess hP2 j2 k (by omega) (by omega) hle).mono ?_
        rintro e w4 ⟨rfl, hb4⟩
        have hP4 := (hP2).below hb4
        have hT4 : TouchB (pfoot gr Q) w w4 := (hT2).ofBelow hb4 (hT2).size
        by_cases hless : cmpT (D (g Q' j2)) (D (g Q' k)) < 0
        · have hd : decide (cmpT (D (g Q' j2)) (D (g Q' k)) < 0) = true := decide_eq_true hless
          have HL := Lib.hid hless; clear hless
          clear hm hc
          have hc := hP4.cell1
          have hm := meth_swap 219 ⟨b, 1, none⟩ _ _ _ w4 hc
          go_wp2_with fail
          refine (PSwap hP4 k j2 (by omega) (by omega) (by omega) hle).mono ?_
          rintro e w5 ⟨rfl, hP5, hT5⟩
          clear hm hc hd
          go_wp2_with fail
          go_roundw
          case rel =>
            have hs := down_step (le D) hH hnl (by omega) (by omega : j2 < n) (by omega) (by have := HJ1.out; have := HJ2.out; omega) HMin.out (le_of_lt D _ _ HL.out) (le_rf D)
            exact ⟨j2, swap Q' k j2, rfl, by omega, by omega, hP5, hM.trans (mix_swap Q' k j2 n (by omega) (by omega) hnl), hs.1, Lib.hid (fun e => absurd e (by omega)), Lib.hid (fun _ => hs.2), hT4.trans hT5 (fun q _ hq => (pfoot_mix hM q).1 hq)⟩
          case measure => simp [intOf]; omega
        · have hd : decide (cmpT (D (g Q' j2)) (D (g Q' k)) < 0) = false := decide_eq_false hless
          have HL := Lib.hid hless; clear hless
          clear hm hc
          go_wp2_with fail
          go_ret
          have hK : TP.Kids (le D) Q' n k := fun q q0 qn qp => le_tr D _ _ _ (by have := HL.out; unfold le; omega) (HMin.out q q0 qn qp)
          exact downPost (decide (i < k)) Q' hP4 hM (HFin.out hK).1 (HFin.out hK).2 hT4
      · have hd2 : decide (cmpT (D (g Q' j2)) (D (g Q' j1)) < 0) = false := decide_eq_false hl2
        have hmin : ∀ q, 0 < q → q < n → (q - 1) / 2 = k → le D (g Q' j1) (g Q' q) := by
          intro q q0 qn qp
          have h1 := HJ1.out
          have h2 := HJ2.out
          have : q = j1 ∨ q = j2 := by omega
          rcases this with rfl | rfl
          · exact le_rf D _
          · exact hl2
        have HMin := Lib.hid hmin; clear hmin hl2
        go_wp2_with fail
        refine (PLess hP2 j1 k (by omega) (by omega) hle).mono ?_
        rintro e w4 ⟨rfl, hb4⟩
        have hP4 := (hP2).below hb4
        have hT4 : TouchB (pfoot gr Q) w w4 := (hT2).ofBelow hb4 (hT2).size
        by_cases hless : cmpT (D (g Q' j1)) (D (g Q' k)) < 0
        · have hd : decide (cmpT (D (g Q' j1)) (D (g Q' k)) < 0) = true := decide_eq_true hless
          have HL := Lib.hid hless; clear hless
          clear hm hc
          have hc := hP4.cell1
          have hm := meth_swap 219 ⟨b, 1, none⟩ _ _ _ w4 hc
          go_wp2_with fail
          refine (PSwap hP4 k j1 (by omega) (by omega) (by omega) hle).mono ?_
          rintro e w5 ⟨rfl, hP5, hT5⟩
          clear hm hc hd
          go_wp2_with fail
          go_roundw
          case rel =>
            have hs := down_step (le D) hH hnl (by omega) (by omega : j1 < n) (by omega) (by have := HJ1.out; have := HJ2.out; omega) HMin.out (le_of_lt D _ _ HL.out) (le_rf D)
            exact ⟨j1, swap Q' k j1, rfl, by omega, by omega, hP5, hM.trans (mix_swap Q' k j1 n (by omega) (by omega) hnl), hs.1, Lib.hid (fun e => absurd e (by omega)), Lib.hid (fun _ => hs.2), hT4.trans hT5 (fun q _ hq => (pfoot_mix hM q).1 hq)⟩
          case measure => simp [intOf]; omega
        · have hd : decide (cmpT (D (g Q' j1)) (D (g Q' k)) < 0) = false := decide_eq_false hless
          have HL := Lib.hid hless; clear hless
          clear hm hc
          go_wp2_with fail
          go_ret
          have hK : TP.Kids (le D) Q' n k := fun q q0 qn qp => le_tr D _ _ _ (by have := HL.out; unfold le; omega) (HMin.out q q0 qn qp)
          exact downPost (decide (i < k)) Q' hP4 hM (HFin.out hK).1 (HFin.out hK).2 hT4
    · have hmin : ∀ q, 0 < q → q < n → (q - 1) / 2 = k → le D (g Q' j1) (g Q' q) := by
        intro q q0 qn qp
        have h1 := HJ1.out
        have : q = j1 := by omega
        subst this
        exact le_rf D _
      have HMin := Lib.hid hmin; clear hmin
      go_wp2_with fail
      rw [show (2 * (k : Int) + 1 + 1) = ((j2 : Nat) : Int) from by have := HJ2.out; omega, show (2 * (k : Int) + 1) = ((j1 : Nat) : Int) from by have := HJ1.out; omega]
      refine (PLess hP j1 k (by omega) (by omega) hle).mono ?_
      rintro e w4 ⟨rfl, hb4⟩
      have hP4 := (hP).below hb4
      have hT4 : TouchB (pfoot gr Q) w w4 := (hT).ofBelow hb4 (hT).size
      by_cases hless : cmpT (D (g Q' j1)) (D (g Q' k)) < 0
      · have hd : decide (cmpT (D (g Q' j1)) (D (g Q' k)) < 0) = true := decide_eq_true hless
        have HL := Lib.hid hless; clear hless
        clear hm hc
        have hc := hP4.cell1
        have hm := meth_swap 219 ⟨b, 1, none⟩ _ _ _ w4 hc
        go_wp2_with fail
        refine (PSwap hP4 k j1 (by omega) (by omega) (by omega) hle).mono ?_
        rintro e w5 ⟨rfl, hP5, hT5⟩
        clear hm hc hd
        go_wp2_with fail
        go_roundw
        case rel =>
          have hs := down_step (le D) hH hnl (by omega) (by omega : j1 < n) (by omega) (by have := HJ1.out; have := HJ2.out; omega) HMin.out (le_of_lt D _ _ HL.out) (le_rf D)
          exact ⟨j1, swap Q' k j1, rfl, by omega, by omega, hP5, hM.trans (mix_swap Q' k j1 n (by omega) (by omega) hnl), hs.1, Lib.hid (fun e => absurd e (by omega)), Lib.hid (fun _ => hs.2), hT4.trans hT5 (fun q _ hq => (pfoot_mix hM q).1 hq)⟩
        case measure => simp [intOf]; omega
      · have hd : decide (cmpT (D (g Q' j1)) (D (g Q' k)) < 0) = false := decide_eq_false hless
        have HL := Lib.hid hless; clear hless
        clear hm hc
        go_wp2_with fail
        go_ret
        have hK : TP.Kids (le D) Q' n k := fun q q0 qn qp => le_tr D _ _ _ (by have := HL.out; unfold le; omega) (HMin.out q q0 qn qp)
        exact downPost (decide (i < k)) Q' hP4 hM (HFin.out hK).1 (HFin.out hK).2 hT4
end Go.Proofs.Ytgkiknkifleofaa.tm
