/- container/heap's up: the heap's order is mended. Conditions: the heap of timers lies in memory, and only one timer is out of order. -/
import Derived.Test.YtgkiknkifleofaaWalkD
namespace Go.Proofs.Ytgkiknkifleofaa.tm
open Go.RowKit mem TP
set_option linter.unusedVariables false
set_option linter.unusedSimpArgs false
set_option maxHeartbeats 1000000

/-- the first n are the same ones in another order; the others stay -/
structure Mix (Q Q' : List Nat) (n : Nat) : Prop where
  len : Q'.length = Q.length
  perm : (Q'.take n).Perm (Q.take n)
  rest : Q'.drop n = Q.drop n
theorem Mix.refl (Q : List Nat) (n : Nat) : Mix Q Q n := ⟨rfl, List.Perm.refl _, rfl⟩
theorem Mix.trans {Q Q' Q'' : List Nat} {n : Nat} (h : Mix Q Q' n) (k : Mix Q' Q'' n) : Mix Q Q'' n := ⟨k.len.trans h.len, k.perm.trans h.perm, k.rest.trans h.rest⟩
theorem Mix.all {Q Q' : List Nat} {n : Nat} (h : Mix Q Q' n) : Q'.Perm Q := by
  rw [← List.take_append_drop n Q', ← List.take_append_drop n Q, h.rest]
  exact h.perm.append_right _
theorem Mix.mem {Q Q' : List Nat} {n : Nat} (h : Mix Q Q' n) (k : Nat) : k ∈ Q' ↔ k ∈ Q := h.all.mem_iff
theorem mix_swap (Q : List Nat) (i j n : Nat) (hi : i < n) (hj : j < n) (hn : n ≤ Q.length) : Mix Q (swap Q i j) n := by
  refine ⟨swap_length _ _ _, ?_, ?_⟩
  · have e : (swap Q i j).take n = swap (Q.take n) i j := by
      unfold swap
      rw [List.take_set, List.take_set]
      have e1 : g (Q.take n) j = g Q j := by simp [g, List.getElem?_take, hj]
      have e2 : g (Q.take n) i = g Q i := by simp [g, List.getElem?_take, hi]
      rw [e1, e2]
    rw [e]
    exact swap_perm _ _ _ (by rw [List.length_take]; omega) (by rw [List.length_take]; omega)
  · unfold swap
    rw [List.drop_set_of_lt hj, List.drop_set_of_lt hi]
theorem pfoot_mix {gr : Nat} {Q Q' : List Nat} {n : Nat} (h : Mix Q Q' n) (k : Nat) : pfoot gr Q' k ↔ pfoot gr Q k := by
  unfold pfoot; rw [h.mem]

set_option maxRecDepth 100000 in
theorem up {w : World} {b gr c n j : Nat} {Q : List Nat} {D : Nat → TD} {x0 x2 : Value} (h : Pile w b gr c Q D x0 x2) (hj : j < n) (hn : n ≤ Q.length) (hmax : Q.length ≤ 1000000) (hh : Hole (le D) Q n j) (hk : TP.Kids (le D) Q n j) :
    Calls Try.prog 40 #[.iface 63 (.pointer (some ⟨b, 1, none⟩)), .int .i64 j] w fun e w' => e = .returned (.tuple #[]) ∧ ∃ Q', Pile w' b gr c Q' D x0 x2 ∧ Mix Q Q' n ∧ Heap (le D) Q' n ∧ TouchB (pfoot gr Q) w w' := by
  go_enter Try.func40, Try.ntmps40
  go_wp2_with fail
  go_loopw [1] (fun s wr => ∃ (k : Nat) (Q' : List Nat), s = .int .i64 k ∧ k < n ∧ Pile wr b gr c Q' D x0 x2 ∧ Mix Q Q' n ∧ Hole (le D) Q' n k ∧ TP.Kids (le D) Q' n k ∧ TouchB (pfoot gr Q) w wr) (fun s _ => (intOf s).toNat)
  case atStart => exact ⟨j, Q, rfl, hj, h, Mix.refl _ _, hh, hk, TouchB.refl _ _⟩
  case round =>
    obtain ⟨k, Q', rfl, hkn, hP, hM, hH, hK, hT⟩ := hrel
    have hlen := Lib.hid hM.len
    have hlt : k < Q'.length := by have := hlen.out; omega
    have hle : Q'.length ≤ 1000000 := by have := hlen.out; omega
    by_cases k0 : k = 0
    · subst k0
      go_wp2_with fail
      go_end0
      exact ⟨rfl, Q', hP, hM, heap_of _ hH hK (fun h => absurd h (by omega)), hT⟩
    · have hq : (((k : Int) - 1) / 2 == (k : Int)) = false := by simp; omega
      have hc := hP.cell1
      have hm := meth_less 219 ⟨b, 1, none⟩ _ _ _ wr hc
      obtain ⟨m, hm'⟩ : ∃ m : Nat, m = (k - 1) / 2 := ⟨_, rfl⟩
      have HM := Lib.hid hm'; clear hm'
      have hmk : m < k := by have := HM.out; omega
      go_wp2_with fail
      rw [show ((k : Int) - 1) / 2 = ((m : Nat) : Int) from by have := HM.out; omega]
      refine (PLess hP k m hlt (by omega) hle).mono ?_
      rintro e w2 ⟨rfl, hb2⟩
      have hP2 := hP.below hb2
      have hT2 : TouchB (pfoot gr Q) w w2 := hT.ofBelow hb2 hT.size
      by_cases hless : cmpT (D (g Q' k)) (D (g Q' m)) < 0
      · have hd : decide (cmpT (D (g Q' k)) (D (g Q' m)) < 0) = true := decide_eq_true hless
        have HL := Lib.hid hless; clear hless
        clear hm hc
        have hc := hP2.cell1
        have hm := meth_swap 219 ⟨b, 1, none⟩ _ _ _ w2 hc
        go_wp2_with fail
        refine (PSwap hP2 m k (by omega) hlt (by omega) hle).mono ?_
        rintro e w3 ⟨rfl, hP3, hT3⟩
        clear hm hc hd
        go_wp2_with fail
        go_roundw
        case rel =>
          have hpk : (k - 1) / 2 = m := HM.out.symm
          have hs := up_step (le D) (le_tr D) hH hK (by have := hlen.out; omega) hkn (by omega) (by rw [hpk]; exact le_of_lt D _ _ HL.out)
          rw [hpk] at hs
          exact ⟨m, swap Q' m k, rfl, by omega, hP3, hM.trans (mix_swap Q' m k n (by omega) hkn (by have := hlen.out; omega)), hs.1, hs.2, hT2.trans hT3 (fun i _ hi => (pfoot_mix hM i).1 hi)⟩
        case measure => simp [intOf]; omega
      · have hd : decide (cmpT (D (g Q' k)) (D (g Q' m)) < 0) = false := decide_eq_false hless
        have HL := Lib.hid hless; clear hless
        clear hm hc
        go_wp2_with fail
        go_end0
        exact ⟨rfl, Q', hP2, hM, heap_of _ hH hK (fun _ => by have := HL.out; rw [← HM.out]; unfold le; omega), hT2⟩
end Go.Proofs.Ytgkiknkifleofaa.tm
