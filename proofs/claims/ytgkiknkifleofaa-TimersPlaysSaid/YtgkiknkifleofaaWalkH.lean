/- Pop, and container/heap's Push, Pop and Remove. Conditions: the heap of timers lies in memory and is in order. -/
import Derived.Test.YtgkiknkifleofaaWalkG
namespace Go.Proofs.Ytgkiknkifleofaa.tm
open Go.RowKit mem TP
set_option linter.unusedVariables false
set_option linter.unusedSimpArgs false
set_option maxHeartbeats 1000000

theorem pile_pop {w : World} {b gr c : Nat} {Q : List Nat} {D : Nat → TD} {x0 x2 : Value} (h : Pile w b gr c Q D x0 x2) (hq : 0 < Q.length) :
    Pile (w.setCell ⟨b, 1, none⟩ (.slice (some ⟨gr, 0, none⟩) (Q.length - 1) c)) b gr c (Q.take (Q.length - 1)) D x0 x2 := by
  have hl : (Q.take (Q.length - 1)).length = Q.length - 1 := by rw [List.length_take]; omega
  refine ⟨?_, ?_, ?_, h.cm⟩
  · rw [block_setCell _ _ _ _ _ _ _ h.blk, hl]; rfl
  · obtain ⟨cur, h1, h2, h3, h4⟩ := h.row
    refine ⟨cur, ?_, h2, by omega, fun i hi => ?_⟩
    · rw [Below.heap_setCell _ _ _ _ (fun e => h.bg e.symm)]; exact h1
    · rw [hl] at hi; rw [h4 i (by omega)]; simp
  · intro i hi
    rw [hl] at hi
    have := h.bq i (by omega)
    rw [List.getElem_take, Below.heap_setCell _ _ _ _ this]
    exact h.tim i (by omega)

set_option maxRecDepth 100000 in
theorem popM {w : World} {b gr c : Nat} {Q : List Nat} {D : Nat → TD} {x0 x2 : Value} (h : Pile w b gr c Q D x0 x2) (hq : 0 < Q.length) (hmax : Q.length ≤ 1000000) :
    Calls Try.prog 79 #[.pointer (some ⟨b, 1, none⟩)] w fun e w' => e = .returned (.iface 56 (ptrV (g Q (Q.length - 1)))) ∧ Pile w' b gr c (Q.take (Q.length - 1)) D x0 x2 ∧ TouchB (fun k => k = b) w w' ∧ w'.cell? ⟨g Q (Q.length - 1), 0, none⟩ = some (.int .i64 (D (g Q (Q.length - 1))).due) ∧ w'.cell? ⟨g Q (Q.length - 1), 1, none⟩ = some (.int .i64 (D (g Q (Q.length - 1))).id) := by
  have hdat : ∀ v, (w.setCell ⟨b, 1, none⟩ v).cell? ⟨g Q (Q.length - 1), 0, none⟩ = some (.int .i64 (D (g Q (Q.length - 1))).due) ∧ (w.setCell ⟨b, 1, none⟩ v).cell? ⟨g Q (Q.length - 1), 1, none⟩ = some (.int .i64 (D (g Q (Q.length - 1))).id) := by
    intro v
    have e1 := h.tim (Q.length - 1) (by omega)
    have e2 := h.bq (Q.length - 1) (by omega)
    rw [getElem_g _ _ (by omega)] at e1 e2
    have e3 : (w.setCell ⟨b, 1, none⟩ v).heap[g Q (Q.length - 1)]? = _ := (Below.heap_setCell _ _ _ _ e2).trans e1
    simp [World.cell?, e3]
  have hdat := Lib.hid hdat
  have c1 := h.cell1
  have f1 : w.frozen? ⟨b, 1, none⟩ = false := by simp [World.frozen?, h.blk]
  obtain ⟨l, hl⟩ : ∃ l : Nat, l = Q.length - 1 := ⟨_, rfl⟩
  have hln : l < Q.length := by omega
  have c2 := (h.place l hln).1
  obtain ⟨cur, hr1, hr2, hr3, hr4⟩ := h.row
  have hP := Lib.hid (pile_pop h hq)
  rw [getElem_g _ _ hln] at c2
  have hQ : Q.length = l + 1 := by omega
  rw [hQ] at c1
  rw [← hl] at hP hdat ⊢
  clear hl h hr1 hr4 hr2
  have HQ := Lib.hid hQ; clear hQ
  have hc : l ≤ c := by omega
  have hls : l < 1000000 := by omega
  unfold ptrV
  go_enter Try.func79, Try.ntmps79
  go_wp2_with fail
  go_ret
  exact ⟨rfl, hP.out, (TouchB.refl _ _).setCell _ _ (fun _ => rfl), hdat.out _⟩
end Go.Proofs.Ytgkiknkifleofaa.tm
