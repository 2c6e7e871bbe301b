/- Lists of integers beside a wheel; plain facts on the timers in their order. No condition. -/
import Derived.Test.YtgkiknkifleofaaWalkV
import Derived.Test.YtgkiknkifleofaaWalkQ
namespace Go.Proofs.Ytgkiknkifleofaa.tm
open Go.RowKit mem TP
set_option linter.unusedVariables false
set_option linter.unusedSimpArgs false
set_option maxHeartbeats 1000000
set_option maxRecDepth 100000

def Off (v : Value) (l : List Int) (F : Nat → Prop) : Prop := l ≠ [] → ∀ g o n c, v = .slice (some ⟨g, o, none⟩) n c → ¬ F g
theorem IntsAt.lt {w : World} {v : Value} {l : List Int} (h : IntsAt w v l) (hl : l ≠ []) (g o n c : Nat) (e : v = .slice (some ⟨g, o, none⟩) n c) : g < w.heap.size := by
  obtain ⟨p, c', rfl, h1, h2, h3⟩ := h
  obtain ⟨g', o', rfl, hg, _⟩ := h3 hl
  simp at e; rw [← e.1.1]; exact hg
theorem IntsAt.step {w w' : World} {v : Value} {l : List Int} {F F' : Nat → Prop} (h : IntsAt w v l) (ho : Off v l F) (ht : TouchB F w w') (hF : ∀ k, F' k → F k ∨ w.heap.size ≤ k) : IntsAt w' v l ∧ Off v l F' := by
  refine ⟨?_, fun hl g o n c e h' => ?_⟩
  · obtain ⟨p, c, rfl, h1, h2, h3⟩ := h
    refine ⟨p, c, rfl, h1, h2, fun hn => ?_⟩
    obtain ⟨g, o, rfl, hg, hc⟩ := h3 hn
    exact ⟨g, o, rfl, by have := ht.size; omega, fun j hj => by rw [World.cell?_of_block (w := w) (ht.block g hg (ho hn g o _ _ rfl))]; exact hc j hj⟩
  · rcases hF g h' with e1 | e1
    · exact ho hl g o n c e e1
    · have := h.lt hl g o n c e; omega
theorem off_row {w : World} {base m : Nat} {v : Value} {l : List Int} {xs : List Value} {F : Nat → Prop} (h : w.ownsRow base 2 1 v m xs) (hF : ∀ k, F k → k < base) : Off v l F := by
  intro _ g o n c e h'
  subst e
  have := (World.ownsRow.lt (h := h) g (by simp [Value.ownBlock])).1
  have := hF g h'; omega
theorem own_below {w w' : World} {b n B : Nat} {A : List TD} {F : Nat → Prop} (h : TouchB F w w') (hF : ∀ k, F k → B ≤ k) (hB : B ≤ w.heap.size) : Below B w w' := h.below hF hB

/-! ### plain -/
theorem sorted_eq {A B : List TD} (h : A.Perm B) (hA : A.Pairwise ltT) (hB : B.Pairwise ltT) : A = B :=
  sorted_one A B h hB (hA.imp (fun h => by unfold ltT at h; rw [cmpT_lt]; omega))
theorem find_mem {A : List TD} (hn : (A.map (·.id)).Nodup) {x : TD} (hx : x ∈ A) : findT A x.id = some x := by
  unfold findT
  induction A with
  | nil => cases hx
  | cons a l ih =>
    rw [List.map_cons, List.nodup_cons] at hn
    rcases List.mem_cons.1 hx with e | e
    · subst e; simp
    · have hne : a.id ≠ x.id := by
        intro e2; exact hn.1 (by rw [e2]; exact List.mem_map_of_mem (f := (·.id)) e)
      rw [List.find?_cons]; simp [hne]; exact ih hn.2 e
theorem add_ok {A : List TD} {due id : Int} (h : addE A due id = 0) : 0 ≤ due ∧ 0 ≤ id ∧ findT A id = none := by
  unfold addE at h
  split at h
  · cases h
  · split at h
    · cases h
    · rename_i h1 h2
      refine ⟨by omega, by omega, ?_⟩
      cases hf : findT A id with
      | none => rfl
      | some x => rw [hf] at h2; simp at h2
theorem good_add {A : List TD} {n : Nat} {due id : Int} (hG : Good A n) (hn : n < 1000) (h : addE A due id = 0) : Good (insT A ⟨due, id, (n : Int) + 1⟩) (n + 1) := by
  obtain ⟨h1, h2, h3⟩ := add_ok h
  exact good_ins hG h1 (findT_none.1 h3) rfl hn
theorem drop_ins {A : List TD} {n : Nat} {due id : Int} (hG : Good A n) (hn : n < 1000) (h : addE A due id = 0) :
    findT (insT A ⟨due, id, (n : Int) + 1⟩) id = some ⟨due, id, (n : Int) + 1⟩ ∧ dropT (insT A ⟨due, id, (n : Int) + 1⟩) id = A := by
  have hG' := good_add hG hn h
  have hm : (⟨due, id, (n : Int) + 1⟩ : TD) ∈ insT A ⟨due, id, (n : Int) + 1⟩ := (ins_perm A _).mem_iff.2 (by simp)
  refine ⟨find_mem hG'.ids hm, ?_⟩
  have h1 := perm_dropT hG'.ids hm
  have h2 := (ins_perm A ⟨due, id, (n : Int) + 1⟩).symm.trans h1
  have h3 : (dropT (insT A ⟨due, id, (n : Int) + 1⟩) id).Perm A := by
    have h4 : (A ++ [(⟨due, id, (n : Int) + 1⟩ : TD)]).Perm (⟨due, id, (n : Int) + 1⟩ :: A) := List.perm_append_comm
    exact (h4.symm.trans h2).cons_inv.symm
  exact sorted_eq h3 (good_drop hG' id).sorted hG.sorted
theorem find_none_good {A : List TD} {n : Nat} {due id : Int} (h : addE A due id = 0) : findT A id = none := (add_ok h).2.2
end Go.Proofs.Ytgkiknkifleofaa.tm
