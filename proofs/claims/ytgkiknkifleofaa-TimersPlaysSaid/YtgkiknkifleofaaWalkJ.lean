/- container/heap's Pop and Remove. Conditions: the heap of timers lies in memory. -/
import Derived.Test.YtgkiknkifleofaaWalkI
namespace Go.Proofs.Ytgkiknkifleofaa.tm
open Go.RowKit mem TP
set_option linter.unusedVariables false
set_option linter.unusedSimpArgs false
set_option maxHeartbeats 1000000

theorem swap_hole {Q : List Nat} {n i : Nat} {D : Nat → TD} (h : Heap (le D) Q (n + 1)) (hn : n < Q.length) (hi : i ≤ n) : Hole (le D) (swap Q i n) n i := by
  have hg := fun k => g_swap Q i n k (by omega) hn
  refine ⟨?_, ?_⟩
  · intro k k0 kn e1 e2
    rw [hg, hg, if_neg (by omega), if_neg (by omega), if_neg (by omega), if_neg (by omega)]
    exact h k k0 (by omega)
  · intro k k0 kn e i0
    rw [hg, hg, if_neg (by omega), if_neg (by omega), if_neg (by omega), if_neg (by omega)]
    have h1 := h k k0 (by omega)
    rw [e] at h1
    exact le_tr D _ _ _ (h i i0 (by omega)) h1
theorem drop_last (Q : List Nat) (n : Nat) (h : Q.length = n + 1) : Q.drop n = [g Q n] := by
  rw [List.drop_eq_getElem_cons (by omega), List.drop_eq_nil_of_le (by omega), getElem_g _ _ (by omega)]
theorem swap_out {Q Q2 : List Nat} {n i : Nat} (hl : Q.length = n + 1) (hi : i ≤ n) (hM : Mix (swap Q i n) Q2 n) : g Q2 n = g Q i ∧ (g Q i :: Q2.take n).Perm Q := by
  have hl1 := swap_length Q i n
  have hl2 := hM.len
  have e1 := drop_last Q2 n (by omega)
  have e2 := drop_last (swap Q i n) n (by omega)
  have e3 : g (swap Q i n) n = g Q i := by rw [g_swap Q i n n (by omega) (by omega), if_pos rfl]
  have e4 : g Q2 n = g Q i := by
    have := hM.rest
    rw [e1, e2, e3] at this
    simpa using this
  refine ⟨e4, ?_⟩
  have h1 : Q2.Perm Q := hM.all.trans (swap_perm Q i n (by omega) (by omega))
  have h2 : Q2 = Q2.take n ++ [g Q i] := by
    conv => lhs; rw [← List.take_append_drop n Q2, e1, e4]
  have h3 : (g Q i :: Q2.take n).Perm (Q2.take n ++ [g Q i]) := (List.perm_append_comm (l₁ := [g Q i]) (l₂ := Q2.take n))
  exact h3.trans (h2 ▸ h1)
theorem heap_take {Q : List Nat} {n : Nat} {D : Nat → TD} (h : Heap (le D) Q n) : Heap (le D) (Q.take n) n := by
  intro k k0 kn
  have hg : ∀ k, k < n → g (Q.take n) k = g Q k := by intro k hk; simp [g, List.getElem?_take, hk]
  rw [hg _ (by omega), hg _ (by omega)]
  exact h k k0 kn

section
variable {w : World} {b gr c : Nat} {Q : List Nat} {D : Nat → TD} {x0 x2 : Value}
theorem swap_same (Q : List Nat) (i : Nat) (hi : i < Q.length) : swap Q i i = Q := by
  unfold swap; rw [← getElem_g _ _ hi]; simp
theorem PSwapG (h : Pile w b gr c Q D x0 x2) (i j : Nat) (hi : i < Q.length) (hj : j < Q.length) (hn : Q.length ≤ 1000000) :
    Calls Try.prog 78 #[.slice (some ⟨gr, 0, none⟩) Q.length c, .int .i64 i, .int .i64 j] w fun e w' => e = .returned (.tuple #[]) ∧ Pile w' b gr c (swap Q i j) D x0 x2 ∧ TouchB (pfoot gr Q) w w' := by
  by_cases hij : i = j
  · subst hij
    refine (Swap_eq gr Q.length c i Q[i] w hi hn (h.place i hi).1 (h.place i hi).2 (h.data i hi).2.2.2.1 (h.data i hi).2.2.2.2).mono ?_
    rintro e w' ⟨rfl, m, rfl⟩
    rw [swap_same _ _ hi]
    exact ⟨rfl, h.same (fun k hk => rfl), (TouchB.refl _ _).drewN m⟩
  · exact PSwap h i j hi hj hij hn
theorem pfoot_swap (i j : Nat) (hi : i < Q.length) (hj : j < Q.length) (k : Nat) : pfoot gr (swap Q i j) k ↔ pfoot gr Q k := by
  unfold pfoot; rw [(swap_perm Q i j hi hj).mem_iff]

/-- what Pop and Remove leave -/
def OutPost (b gr c i : Nat) (Q : List Nat) (D : Nat → TD) (x0 x2 : Value) (w : World) (e : Ending) (w' : World) : Prop :=
  e = .returned (.iface 56 (ptrV (g Q i))) ∧ ∃ Q', Pile w' b gr c Q' D x0 x2 ∧ (g Q i :: Q').Perm Q ∧ Heap (le D) Q' Q'.length ∧ TouchB (fun k => k = b ∨ pfoot gr Q k) w w' ∧ w'.cell? ⟨g Q i, 0, none⟩ = some (.int .i64 (D (g Q i)).due) ∧ w'.cell? ⟨g Q i, 1, none⟩ = some (.int .i64 (D (g Q i)).id)

/-- the last step of both -/
theorem out_end {n i : Nat} {Q2 : List Nat} {w2 w3 : World} (hl : Q.length = n + 1) (hi : i ≤ n) (hM : Mix (swap Q i n) Q2 n) (hH : Heap (le D) Q2 n)
    (hT : TouchB (pfoot gr Q) w w2) (hP3 : Pile w3 b gr c (Q2.take (Q2.length - 1)) D x0 x2) (hT3 : TouchB (fun k => k = b) w2 w3)
    (hc : w3.cell? ⟨g Q2 (Q2.length - 1), 0, none⟩ = some (.int .i64 (D (g Q2 (Q2.length - 1))).due) ∧ w3.cell? ⟨g Q2 (Q2.length - 1), 1, none⟩ = some (.int .i64 (D (g Q2 (Q2.length - 1))).id)) :
    OutPost b gr c i Q D x0 x2 w (.returned (.iface 56 (ptrV (g Q2 n)))) w3 := by
  have hl2 : Q2.length = n + 1 := by rw [hM.len, swap_length, hl]
  have ho := swap_out hl hi hM
  have e1 : Q2.length - 1 = n := by omega
  rw [e1] at hP3 hc
  rw [ho.1] at hc
  refine ⟨by rw [ho.1], _, hP3, ho.2, ?_, ?_, hc⟩
  · rw [List.length_take, show min n Q2.length = n from by omega]; exact heap_take hH
  · exact (hT.mono (fun i _ h => .inr h)).trans hT3 (fun i _ h => .inl h)
end

set_option maxRecDepth 100000 in
theorem heapPop {w : World} {b gr c : Nat} {Q : List Nat} {D : Nat → TD} {x0 x2 : Value} (h : Pile w b gr c Q D x0 x2) (hq : 0 < Q.length) (hmax : Q.length ≤ 1000000) (hh : Heap (le D) Q Q.length) :
    Calls Try.prog 29 #[.iface 63 (.pointer (some ⟨b, 1, none⟩))] w (OutPost b gr c 0 Q D x0 x2 w) := by
  obtain ⟨n, hn⟩ : ∃ n : Nat, Q.length = n + 1 := ⟨Q.length - 1, by omega⟩
  have hc := h.cell1
  have hm := meth_len 219 ⟨b, 1, none⟩ _ _ _ w hc
  go_enter Try.func29, Try.ntmps29
  go_wp2_with fail
  refine (Len _ _ _ w).mono ?_
  rintro e w1 ⟨rfl, rfl⟩
  clear hm
  have hm := meth_swap 219 ⟨b, 1, none⟩ _ _ _ w hc
  have hS := PSwapG h 0 n (by omega) (by omega) hmax
  rw [hn] at hS
  go_wp2_with fail
  refine hS.mono ?_
  rintro e w2 ⟨rfl, hP2, hT2⟩
  clear hm hS hc
  have hl1 : (swap Q 0 n).length = n + 1 := by rw [swap_length, hn]
  have hD := down hP2 (i := 0) (n := n) (by omega) (by omega) (by omega) (swap_hole (hn ▸ hh) (by omega) (by omega))
  go_wp2_with fail
  refine hD.mono ?_
  rintro e w3 ⟨r, rfl, Q3, hP3, hM3, hH3, hH3', hT3⟩
  clear hD
  have hH : Heap (le D) Q3 n := by
    cases r with
    | true => exact hH3 rfl
    | false => obtain ⟨e1, e2⟩ := hH3' rfl; exact heap_of _ (by rw [e1]; exact swap_hole (hn ▸ hh) (by omega) (by omega)) e2 (fun e => absurd e (by omega))
  clear hH3 hH3'
  have hl3 : Q3.length = n + 1 := by rw [hM3.len, hl1]
  have hm := meth_pop 219 ⟨b, 1, none⟩ w3
  have hO := popM hP3 (by omega) (by omega)
  go_wp2_with fail
  refine hO.mono ?_
  rintro e w4 ⟨rfl, hP4, hT4, hc4⟩
  have hc4 := Lib.hid hc4
  clear hO hm
  go_wp2_with fail
  go_ret
  exact out_end hn (by omega) hM3 hH (hT2.trans hT3 (fun i _ hi => (pfoot_swap 0 n (by omega) (by omega) i).1 hi)) hP4 hT4 hc4.out

set_option maxRecDepth 100000 in
theorem heapRemove {w : World} {b gr c i : Nat} {Q : List Nat} {D : Nat → TD} {x0 x2 : Value} (h : Pile w b gr c Q D x0 x2) (hi : i < Q.length) (hmax : Q.length ≤ 1000000) (hh : Heap (le D) Q Q.length) :
    Calls Try.prog 28 #[.iface 63 (.pointer (some ⟨b, 1, none⟩)), .int .i64 i] w (OutPost b gr c i Q D x0 x2 w) := by
  obtain ⟨n, hn⟩ : ∃ n : Nat, Q.length = n + 1 := ⟨Q.length - 1, by omega⟩
  have hc := h.cell1
  have hm := meth_len 219 ⟨b, 1, none⟩ _ _ _ w hc
  go_enter Try.func28, Try.ntmps28
  go_wp2_with fail
  refine (Len _ _ _ w).mono ?_
  rintro e w1 ⟨rfl, rfl⟩
  clear hm
  by_cases hin : n = i
  · subst hin
    have hm := meth_pop 219 ⟨b, 1, none⟩ w
    have hO := popM h (by omega) (by omega)
    go_wp2_with fail
    refine hO.mono ?_
    rintro e w4 ⟨rfl, hP4, hT4, hc4⟩
    have hc4 := Lib.hid hc4
    clear hO hm
    go_wp2_with fail
    go_ret
    refine out_end (i := n) hn (Nat.le_refl n) (Q2 := Q) (by rw [swap_same _ _ (by omega)]; exact Mix.refl _ _) (fun k k0 kn => hh k k0 (by omega)) (TouchB.refl _ _) hP4 hT4 hc4.out
  have hne : ((n : Int) == (i : Int)) = false := by simp; omega
  have hm := meth_swap 219 ⟨b, 1, none⟩ _ _ _ w hc
  have hS := PSwapG h i n (by omega) (by omega) hmax
  rw [hn] at hS
  go_wp2_with fail
  refine hS.mono ?_
  rintro e w2 ⟨rfl, hP2, hT2⟩
  clear hm hS hc
  have hl1 : (swap Q i n).length = n + 1 := by rw [swap_length, hn]
  have hHo : Hole (le D) (swap Q i n) n i := swap_hole (hn ▸ hh) (by omega) (by omega)
  have hD := down hP2 (i := i) (n := n) (by omega) (by omega) (by omega) hHo
  go_wp2_with fail
  refine hD.mono ?_
  rintro e w3 ⟨r, rfl, Q3, hP3, hM3, hH3, hH3', hT3⟩
  clear hD
  have hT03 := hT2.trans hT3 (fun k _ hk => (pfoot_swap i n (by omega) (by omega) k).1 hk)
  have hl3 : Q3.length = n + 1 := by rw [hM3.len, hl1]
  cases r with
  | true =>
    have hH4 := hH3 rfl
    have hm := meth_pop 219 ⟨b, 1, none⟩ w3
    have hO := popM hP3 (by omega) (by omega)
    go_wp2_with fail
    refine hO.mono ?_
    rintro e w4 ⟨rfl, hP4, hT4, hc4⟩
    have hc4 := Lib.hid hc4
    clear hO hm
    go_wp2_with fail
    go_ret
    exact out_end hn (by omega) hM3 hH4 hT03 hP4 hT4 hc4.out
  | false =>
    obtain ⟨e1, e2⟩ := hH3' rfl
    have hU := up hP3 (j := i) (n := n) (by omega) (by omega) (by omega) (by rw [e1]; exact hHo) e2
    go_wp2_with fail
    refine hU.mono ?_
    rintro e w4 ⟨rfl, Q4, hP4, hM4, hH4, hT4⟩
    clear hU
    have hl4 : Q4.length = n + 1 := by rw [hM4.len, hl3]
    have hT04 := hT03.trans hT4 (fun k _ hk => (pfoot_swap i n (by omega) (by omega) k).1 ((pfoot_mix hM3 k).1 hk))
    have hm := meth_pop 219 ⟨b, 1, none⟩ w4
    have hO := popM hP4 (by omega) (by omega)
    go_wp2_with fail
    refine hO.mono ?_
    rintro e w5 ⟨rfl, hP5, hT5, hc5⟩
    have hc5 := Lib.hid hc5
    clear hO hm
    go_wp2_with fail
    go_ret
    exact out_end hn (by omega) (hM3.trans hM4) hH4 hT04 hP5 hT5 hc5.out
end Go.Proofs.Ytgkiknkifleofaa.tm
