/- container/heap's Push, Pop and Remove. Conditions: the heap of timers lies in memory. -/
import Derived.Test.YtgkiknkifleofaaWalkH
namespace Go.Proofs.Ytgkiknkifleofaa.tm
open Go.RowKit mem TP
set_option linter.unusedVariables false
set_option linter.unusedSimpArgs false
set_option maxHeartbeats 1000000

theorem Pile.cell1q {w : World} {b c : Nat} {p : Option Nat} {Q : List Nat} {D : Nat → TD} {x0 x2 : Value} (h : Que w b p c Q D x0 x2) : w.cell? ⟨b, 1, none⟩ = some (.slice (p.map fun g => ⟨g, 0, none⟩) Q.length c) := by
  simp [World.cell?, h.blk]
theorem que_some {w : World} {b c t : Nat} {p : Option Nat} {Q : List Nat} {D : Nat → TD} {x0 x2 : Value} (h : Que w b p c (Q ++ [t]) D x0 x2) : ∃ g, p = some g := by
  cases p with
  | none => have := h.nil.1; simp at this
  | some g => exact ⟨g, rfl⟩
theorem g_app_lt (Q : List Nat) (t k : Nat) (h : k < Q.length) : g (Q ++ [t]) k = g Q k := by
  unfold g; simp [List.getD_eq_getElem?_getD, List.getElem?_append_left h]
theorem push_hole {Q : List Nat} {t : Nat} {D : Nat → TD} (h : Heap (le D) Q Q.length) : Hole (le D) (Q ++ [t]) (Q.length + 1) Q.length ∧ TP.Kids (le D) (Q ++ [t]) (Q.length + 1) Q.length := by
  refine ⟨⟨?_, ?_⟩, ?_⟩
  · intro k k0 kn e1 e2
    rw [g_app_lt _ _ _ (by omega), g_app_lt _ _ _ (by omega)]
    exact h k k0 (by omega)
  · intro k k0 kn e; omega
  · intro k k0 kn e; omega

set_option maxRecDepth 100000 in
theorem heapPush {w : World} {b c t : Nat} {p : Option Nat} {Q : List Nat} {D : Nat → TD} {x0 x2 v3 : Value} (h : Que w b p c Q D x0 x2) (hmax : Q.length < 1000)
    (ht : w.heap[t]? = some (.cells #[.int .i64 (D t).due, .int .i64 (D t).id, .int .i64 (D t).num, v3] 60 (0, 0))) (hne : t ∉ Q) (hh : Heap (le D) Q Q.length) :
    Calls Try.prog 27 #[.iface 63 (.pointer (some ⟨b, 1, none⟩)), .iface 56 (ptrV t)] w fun e w' => e = .returned (.tuple #[]) ∧ ∃ p' c' Q', Que w' b p' c' Q' D x0 x2 ∧ Q'.Perm (Q ++ [t]) ∧ Heap (le D) Q' Q'.length ∧ TouchB (fun k => k = b ∨ k = t ∨ p = some k ∨ k ∈ Q) w w' ∧ (p' = p ∨ ∃ k, p' = some k ∧ w.heap.size ≤ k) := by
  have hts : t < w.heap.size := (Array.getElem?_eq_some_iff.1 ht).1
  have hQs : ∀ q, q ∈ Q → q < w.heap.size := by
    intro q hq
    obtain ⟨i, hi, rfl⟩ := List.mem_iff_getElem.1 hq
    exact (Array.getElem?_eq_some_iff.1 (h.tim i hi)).1
  have hm := meth_push 219 ⟨b, 1, none⟩ w
  have hP := pushM h hmax ht hne
  go_enter Try.func27, Try.ntmps27
  go_wp2_with fail
  refine hP.mono ?_
  rintro e w2 ⟨rfl, p', c', hQ2, hT2, hp'⟩
  obtain ⟨gr, rfl⟩ := que_some hQ2
  clear hm hP
  have hc2 := hQ2.pile.cell1
  have hm := meth_len 219 ⟨b, 1, none⟩ _ _ _ w2 hc2
  go_wp2_with fail
  refine (Len _ _ _ w2).mono ?_
  rintro e w3 ⟨rfl, rfl⟩
  clear hm
  have hpile := hQ2.pile
  have hk := push_hole (t := t) hh
  have hlen : (Q ++ [t]).length = Q.length + 1 := by simp
  have hU := up hpile (j := Q.length) (n := Q.length + 1) (by omega) (by omega) (by omega) hk.1 hk.2
  go_wp2_with fail
  refine hU.mono ?_
  rintro e w4 ⟨rfl, Q', hP4, hM, hH, hT4⟩
  clear hU hh hk
  go_wp2_with fail
  go_end0
  refine ⟨rfl, some gr, c', Q', hP4.que, hM.all, by rw [hM.len, hlen]; exact hH, ?_, hp'⟩
  have hT2' : TouchB (fun k => k = b ∨ k = t ∨ p = some k ∨ k ∈ Q) w w2 := hT2.mono (fun i _ hi => by rcases hi with e | e | e; exact .inl e; exact .inr (.inl e); exact .inr (.inr (.inl e)))
  refine hT2'.trans hT4 (fun i hi hS => ?_)
  rcases hS with e | e
  · rcases hp' with e1 | ⟨k, e1, hk⟩
    · exact .inr (.inr (.inl (by rw [← e1, e])))
    · simp at e1; omega
  · rcases List.mem_append.1 e with e | e
    · exact .inr (.inr (.inr e))
    · exact .inr (.inl (by simpa using e))
end Go.Proofs.Ytgkiknkifleofaa.tm
