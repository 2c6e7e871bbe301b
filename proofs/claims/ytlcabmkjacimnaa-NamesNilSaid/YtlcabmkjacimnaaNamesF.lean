/- The specification's Put, awake, and the walks of NamesValid, NamesNil and NamesKnown. Conditions: fewer than 1000 names. -/
import Derived.Test.YtlcabmkjacimnaaNamesE
namespace Go.Proofs.Ytlcabmkjacimnaa.names
open Go.RowKit mem
set_option linter.unusedVariables false
set_option linter.unusedSimpArgs false
set_option maxHeartbeats 1000000

theorem ret3p {v : Value} {x1 x2 y1 y2 : Int} (h1 : x1 = x2) (h2 : y1 = y2) :
    Ending.returned (.tuple #[v, .int .i64 x1, .int .i64 y1]) = .returned (.tuple #[v, .int .i64 x2, .int .i64 y2]) := by rw [h1, h2]

theorem first_cell (w : World) (s : ByteArray) (x : Array Value) (t : TypeId) (n : Nat) (hn : n = w.heap.size) : (w.alloc (.cells (#[Value.string s] ++ x) t)).drew.cell? ⟨n, 0, none⟩ = some (.string s) := by
  subst hn
  show (w.alloc (.cells (#[Value.string s] ++ x) t)).cell? ⟨w.heap.size, 0, none⟩ = _
  have := (MapKept.heap_alloc w (.cells (#[Value.string s] ++ x) t)).1
  simp only [World.cell?, this]
  rw [if_neg (by simp), Array.getElem?_append_left (by simp)]; rfl
theorem own_empty (w : World) : (w.alloc (.cells #[] 9)).ownsRow w.heap.size 9 1 (.slice (some ⟨w.heap.size, 0, none⟩) 0 0) 0 [] :=
  World.ownsRow_made w #[] 0 (Nat.le_refl _) (by unfold maxLen; omega) (by simp)
theorem strs_one (L : List ByteArray) : ∀ u ∈ L.map Value.string, u.oneCell' = true := by
  intro u hu; simp at hu; obtain ⟨x, _, rfl⟩ := hu; rfl
theorem src_cells {w w1 w2 : World} {a : Addr} {L : List ByteArray} (h : ∀ (i : Nat) (u : Value), (L.map Value.string)[i]? = some u → w.cell? (a.add i) = some u ∧ (a.add i).block < w.heap.size)
    (hb : Below w.heap.size w w1) (hb2 : Below w1.heap.size w1 w2) (o : Obj) : ∀ (j : Nat) (u : Value), (L.map Value.string)[j]? = some u → (w2.alloc o).cell? (a.add j) = some u := by
  intro j u hju
  obtain ⟨h1, h2⟩ := h j u hju
  have s1 := hb.size
  have s2 := hb2.size
  rw [World.cell?_alloc_old _ _ _ (by omega), hb2.cell (by omega), hb.cell h2]
  exact h1
theorem RPut (w : World) (p : Option Addr) (L : List ByteArray) (c : Nat) (s : ByteArray) (hn : p = none → c = 0) (h : Strs w p L) (hm : L.length < 1000) :
    Calls Try.prog 39 #[.slice p L.length c, .string s] w fun e w' => ∃ p' c', e = .returned (.tuple #[.slice p' (putL L s).length c', .int .i64 (putI L s), .int .i64 (putE s)]) ∧ (p' = none → c' = 0) ∧ Strs w' p' (putL L s) ∧ Below w.heap.size w w' ∧ ∀ a, p' = some a → p = some a ∨ (w.heap.size ≤ a.block ∧ a.block < w'.heap.size) := by
  cases hv : vName s
  · have hpl : putL L s = L := by unfold putL; rw [hv]; rfl
    rw [hpl]
    go_enter Try.func39, Try.ntmps39
    go_wp2_with (go_at_call 18; refine (RValid s _).mono ?_; rintro e w1 ⟨rfl, hb⟩)
    go_ret3
    exact ⟨p, c, ret3p (by unfold putI; rw [hv]; rfl) (by unfold putE; rw [hv]; rfl), hn, h.below hb, hb, fun a ha => .inl ha⟩
  cases hx : ix L s with
  | some i =>
    have hfi : findI L s = i := by unfold findI; rw [hx]; rfl
    have hfb : findB L s = true := by unfold findB; rw [hx]; rfl
    have hpl : putL L s = L := by unfold putL; rw [hv, hx]; rfl
    rw [hpl]
    have Hx := Lib.hid hx; clear hx hpl
    have Hi := Lib.hid hfi; clear hfi
    go_enter Try.func39, Try.ntmps39
    go_wp2_with (first | (go_at_call 18; refine (RValid s _).mono ?_; rintro e w1 ⟨rfl, hb⟩) | (go_at_call 52; refine (RFind _ p L c s (h.below hb) (by unfold maxLen; omega)).mono ?_; rintro e w2 ⟨rfl, hb2⟩))
    go_ret3
    exact ⟨p, c, ret3p (by unfold putI; rw [if_pos hv, Hx.out, Hi.out]; rfl) (by unfold putE; rw [hv]; rfl), hn, (h.below hb).below hb2, hb.trans (hb2.mono hb.size), fun a ha => .inl ha⟩
  | none =>
    have hfi : findI L s = 0 := by unfold findI; rw [hx]; rfl
    have hfb : findB L s = false := by unfold findB; rw [hx]; rfl
    have hpl : putL L s = L ++ [s] := by unfold putL; rw [hv, hx]; rfl
    have hpi : (L.length : Int) = putI L s := by unfold putI; rw [if_pos hv, hx]; rfl
    have hpe : (0 : Int) = putE s := by unfold putE; rw [hv]; rfl
    rw [hpl]
    have Hi := Lib.hid hpi; clear hpi
    have He := Lib.hid hpe; clear hpe
    clear hx hpl
    obtain ⟨i0, hi, hz0, hz1, hz2⟩ := info_parts info9
    cases p with
    | none =>
      have hl0 : L.length = 0 := by
        rcases Nat.eq_zero_or_pos L.length with h0 | h0
        · exact h0
        · obtain ⟨a, ha, _⟩ := h 0 h0; cases ha
      have hL : L = [] := List.length_eq_zero_iff.1 hl0
      subst hL
      have hc0 := hn rfl
      subst hc0
      clear hl0 hn
      go_enter Try.func39, Try.ntmps39
      go_wp2_with (first | (go_at_call 18; refine (RValid s _).mono ?_; rintro e w1 ⟨rfl, hb⟩) | (go_at_call 52; refine (RFind _ none [] 0 s (h.below hb) (by unfold maxLen; simp)).mono ?_; rintro e w2 ⟨rfl, hb2⟩))
      go_ret3
      refine ⟨_, _, ret3p Hi.out He.out, (fun e => by cases e), ?_, ?_, fun a ha => .inr (by cases ha; have := hb.size; have := hb2.size; simp; omega)⟩
      · intro i hi'
        have : i = 0 := by simp at hi'; exact hi'
        subst this
        refine ⟨_, rfl, by simp, ?_⟩
        rw [add0]
        exact first_cell _ _ _ _ _ (by simp)
      · refine Below.drew ?_
        have s1 := hb.size
        have s2 := hb2.size
        exact (((hb.trans (hb2.mono s1)).alloc (by omega) _).alloc (by simp; omega) _).alloc (by simp; omega) _
    | some a =>
      have hcells : ∀ (i : Nat) (u : Value), (L.map Value.string)[i]? = some u → w.cell? (a.add i) = some u ∧ (a.add i).block < w.heap.size := by
        intro i u hu
        obtain ⟨hl, hu⟩ := List.getElem?_eq_some_iff.1 hu
        simp only [List.length_map] at hl
        simp only [List.getElem_map] at hu
        obtain ⟨a', ha, hb, hc⟩ := h i hl
        cases ha
        rw [add_block]
        exact ⟨hu ▸ hc, hb⟩
      have HC := Lib.hid hcells; clear hcells
      go_enter Try.func39, Try.ntmps39
      go_wp2_with (first | (go_at_call 18; refine (RValid s _).mono ?_; rintro e w1 ⟨rfl, hb⟩) | (go_at_call 52; refine (RFind _ (some a) L c s (h.below hb) (by unfold maxLen; omega)).mono ?_; rintro e w2 ⟨rfl, hb2⟩) | (at_builtin; refine wpList_append_own_at _ rfl (.tmp 23) (.tmp 24) 36 rfl w2.heap.size 9 i0 (.string .empty) 1 16 Try.underlying36 hi hz0 hz1 hz2 rfl (by decide) (.slice (some ⟨w2.heap.size, 0, none⟩) 0 0) 0 [] rfl (own_empty w2) a L.length c (L.map Value.string) rfl (by simp) (src_cells HC.out hb hb2 _) (strs_one L) (by unfold maxLen; omega) (by omega) (by simp) ?_; intro v3 w3 hown3 hg3 _ hat3; simp only [Nat.zero_add, List.nil_append] at hown3; obtain ⟨p3, c3, rfl⟩ := row_shape hown3; have HG := Lib.hid hg3; clear hg3) | (at_builtin; refine wpList_append_own_at _ rfl (.tmp 26) (.tmp 28) 36 rfl w2.heap.size 9 i0 (.string .empty) 1 16 Try.underlying36 hi hz0 hz1 hz2 rfl (by decide) (.slice p3 L.length c3) L.length (L.map Value.string) rfl (hown3.alloc _) ⟨w3.heap.size, 0, none⟩ 1 1 [.string s] rfl rfl (one_new _ _ _) (one_cell s) (by unfold maxLen; omega) (by omega) (by have := HG.out.size; simp at this ⊢; omega) ?_; intro v4 w4 hown4 hg4 _ hat4; obtain ⟨p4, c4, rfl⟩ := row_shape hown4))
      go_ret3
      have hlen : (L ++ [s]).length = L.length + 1 := by simp
      rw [hlen]
      have hown4' : w4.ownsRow w2.heap.size 9 1 (.slice p4 (L ++ [s]).length c4) (L ++ [s]).length ((L ++ [s]).map Value.string) := by
        rw [hlen, List.map_append]; exact hown4
      refine ⟨p4, c4, ret3p Hi.out He.out, ?_, Strs.ofRow hown4', ?_, fun a ha => .inr (by subst ha; have := hown4.lt a.block rfl; have := hb.size; have := hb2.size; omega)⟩
      · intro e; subst e
        obtain ⟨_, ⟨hv, _⟩ | ⟨g, cap, cur, hv, _⟩⟩ := hown4
        · simp at hv
        · simp at hv
      · have s1 := hb.size
        have s2 := hb2.size
        have b3 : Below w2.heap.size w2 w3 := Below.grown ((Below.refl _ _).alloc (Nat.le_refl _) _) HG.out (by simp) (fun k hk => by simp [Value.ownBlock] at hk; omega)
        have b4 : Below w2.heap.size w3 w4 := Below.grown ((Below.refl _ _).alloc b3.size _) hg4 (by simp; exact Nat.le_succ_of_le b3.size) (fun k hk => (hown3.lt k hk).1)
        exact hb.trans (((hb2.mono s1).trans ((b3.trans b4).mono (by omega))))
end Go.Proofs.Ytlcabmkjacimnaa.names
