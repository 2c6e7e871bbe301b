/- The contracts of container/heap's up and down. Conditions: the heap of timers lies in memory. -/
import Derived.Test.YtgkiknkifleofaaWalkB
import Derived.Outline
namespace Go.Proofs.Ytgkiknkifleofaa.tm
open Go.RowKit mem
set_option linter.unusedVariables false
set_option linter.unusedSimpArgs false
set_option maxHeartbeats 1000000

theorem meth_less (F : Nat) (a : Addr) (p : Option Addr) (n c : Nat) (w : World) (hc : w.cell? a = some (.slice p n c)) :
    (method (F + 1) 63 (.pointer (some a)) "Less").run Try.prog w = .ok (77, .slice p n c) w := by
  have h1 : (typeInfo 63).run Try.prog w = .ok Try.t63 w := by kernel_rfl
  have h2 : Try.t63.methods.find? (·.name == "Less") = some { name := "Less", sig := 95, path := #[], func := some (77, false) } := by kernel_rfl
  have h3 : ∀ s t : String, (Builtin.ssaWrapNilChk_ #[63] 63 #[.pointer (some a), strVal s, strVal t]).run Try.prog w = .ok (.pointer (some a)) w := fun s t => by kernel_rfl
  have h4 : (loadVar 44 a).run Try.prog w = .ok (.slice p n c) w := by
    go_simp
  unfold method
  simp [h1, h2, h4, follow, receiverAt, run_underlying Try.underlying63, Place.get, asAddr]
  rw [h3]
  simp [h4]

theorem meth_swap (F : Nat) (a : Addr) (p : Option Addr) (n c : Nat) (w : World) (hc : w.cell? a = some (.slice p n c)) :
    (method (F + 1) 63 (.pointer (some a)) "Swap").run Try.prog w = .ok (78, .slice p n c) w := by
  have h1 : (typeInfo 63).run Try.prog w = .ok Try.t63 w := by kernel_rfl
  have h2 : Try.t63.methods.find? (·.name == "Swap") = some { name := "Swap", sig := 75, path := #[], func := some (78, false) } := by kernel_rfl
  have h3 : ∀ s t : String, (Builtin.ssaWrapNilChk_ #[63] 63 #[.pointer (some a), strVal s, strVal t]).run Try.prog w = .ok (.pointer (some a)) w := fun s t => by kernel_rfl
  have h4 : (loadVar 44 a).run Try.prog w = .ok (.slice p n c) w := by
    go_simp
  unfold method
  simp [h1, h2, h4, follow, receiverAt, run_underlying Try.underlying63, Place.get, asAddr]
  rw [h3]
  simp [h4]
theorem meth_len (F : Nat) (a : Addr) (p : Option Addr) (n c : Nat) (w : World) (hc : w.cell? a = some (.slice p n c)) :
    (method (F + 1) 63 (.pointer (some a)) "Len").run Try.prog w = .ok (76, .slice p n c) w := by
  have h1 : (typeInfo 63).run Try.prog w = .ok Try.t63 w := by kernel_rfl
  have h2 : Try.t63.methods.find? (·.name == "Len") = some { name := "Len", sig := 34, path := #[], func := some (76, false) } := by kernel_rfl
  have h3 : ∀ s t : String, (Builtin.ssaWrapNilChk_ #[63] 63 #[.pointer (some a), strVal s, strVal t]).run Try.prog w = .ok (.pointer (some a)) w := fun s t => by kernel_rfl
  have h4 : (loadVar 44 a).run Try.prog w = .ok (.slice p n c) w := by
    go_simp
  unfold method
  simp [h1, h2, h4, follow, receiverAt, run_underlying Try.underlying63, Place.get, asAddr]
  rw [h3]
  simp [h4]
theorem meth_push (F : Nat) (a : Addr) (w : World) : (method (F + 1) 63 (.pointer (some a)) "Push").run Try.prog w = .ok (80, .pointer (some a)) w := by
  have h1 : (typeInfo 63).run Try.prog w = .ok Try.t63 w := by kernel_rfl
  have h2 : Try.t63.methods.find? (·.name == "Push") = some { name := "Push", sig := 73, path := #[], func := some (80, true) } := by kernel_rfl
  unfold method
  simp [h1, h2, follow, receiverAt, run_underlying Try.underlying63, Place.get, asAddr]
theorem meth_pop (F : Nat) (a : Addr) (w : World) : (method (F + 1) 63 (.pointer (some a)) "Pop").run Try.prog w = .ok (79, .pointer (some a)) w := by
  have h1 : (typeInfo 63).run Try.prog w = .ok Try.t63 w := by kernel_rfl
  have h2 : Try.t63.methods.find? (·.name == "Pop") = some { name := "Pop", sig := 77, path := #[], func := some (79, true) } := by kernel_rfl
  unfold method
  simp [h1, h2, follow, receiverAt, run_underlying Try.underlying63, Place.get, asAddr]

/-- the timers of a wheel, in the order of its heap -/
structure Pile (w : World) (b g c : Nat) (Q : List Nat) (D : Nat → TD) (x0 x2 : Value) : Prop where
  blk : w.heap[b]? = some (.cells #[x0, .slice (some ⟨g, 0, none⟩) Q.length c, x2] 46 (0, 0))
  row : ∃ cur, w.heap[g]? = some (.cells cur 56 (0, 0)) ∧ cur.size = c ∧ Q.length ≤ c ∧ ∀ i, (h : i < Q.length) → cur[i]? = some (.pointer (some ⟨Q[i], 0, none⟩))
  tim : ∀ i, (h : i < Q.length) → w.heap[Q[i]]? = some (.cells #[.int .i64 (D Q[i]).due, .int .i64 (D Q[i]).id, .int .i64 (D Q[i]).num, .int .i64 i] 60 (0, 0))
  cm : c ≤ maxLen

section
variable {w : World} {b g c : Nat} {Q : List Nat} {D : Nat → TD} {x0 x2 : Value}
theorem Pile.bg (h : Pile w b g c Q D x0 x2) : b ≠ g := by
  intro e; subst e
  obtain ⟨cur, h1, _⟩ := h.row
  rw [h.blk] at h1; simp at h1
theorem Pile.bq (h : Pile w b g c Q D x0 x2) (i : Nat) (hi : i < Q.length) : Q[i] ≠ b := by
  intro e; have h1 := h.tim i hi; rw [e, h.blk] at h1; simp at h1
theorem Pile.gq (h : Pile w b g c Q D x0 x2) (i : Nat) (hi : i < Q.length) : Q[i] ≠ g := by
  intro e; have h1 := h.tim i hi
  obtain ⟨cur, h2, _⟩ := h.row
  rw [e, h2] at h1; simp at h1
theorem Pile.inj (h : Pile w b g c Q D x0 x2) (i j : Nat) (hi : i < Q.length) (hj : j < Q.length) (hij : i ≠ j) : Q[i] ≠ Q[j] := by
  intro e; have h1 := h.tim i hi; have h2 := h.tim j hj
  rw [e, h2] at h1; simp at h1; omega
theorem Pile.cell1 (h : Pile w b g c Q D x0 x2) : w.cell? ⟨b, 1, none⟩ = some (.slice (some ⟨g, 0, none⟩) Q.length c) := by
  simp [World.cell?, h.blk]
theorem Pile.place (h : Pile w b g c Q D x0 x2) (i : Nat) (hi : i < Q.length) : w.cell? ⟨g, i, none⟩ = some (.pointer (some ⟨Q[i], 0, none⟩)) ∧ w.frozen? ⟨g, i, none⟩ = false := by
  obtain ⟨cur, h1, _, _, h2⟩ := h.row
  constructor
  · simp only [World.cell?, h1]; simpa using h2 i hi
  · simp [World.frozen?, h1]
theorem Pile.data (h : Pile w b g c Q D x0 x2) (i : Nat) (hi : i < Q.length) : w.cell? ⟨Q[i], 0, none⟩ = some (.int .i64 (D Q[i]).due) ∧ w.cell? ⟨Q[i], 1, none⟩ = some (.int .i64 (D Q[i]).id) ∧ w.cell? ⟨Q[i], 2, none⟩ = some (.int .i64 (D Q[i]).num) ∧ w.cell? ⟨Q[i], 3, none⟩ = some (.int .i64 i) ∧ w.frozen? ⟨Q[i], 3, none⟩ = false := by
  have h1 := h.tim i hi
  simp [World.cell?, World.frozen?, h1]
theorem Pile.same {w' : World} (h : Pile w b g c Q D x0 x2) (hs : ∀ k, (k = b ∨ k = g ∨ k ∈ Q) → w'.heap[k]? = w.heap[k]?) : Pile w' b g c Q D x0 x2 where
  blk := (hs b (.inl rfl)).trans h.blk
  row := by obtain ⟨cur, h1, r⟩ := h.row; exact ⟨cur, (hs g (.inr (.inl rfl))).trans h1, r⟩
  tim := fun i hi => (hs _ (.inr (.inr (List.getElem_mem hi)))).trans (h.tim i hi)
  cm := h.cm
theorem Pile.lt (h : Pile w b g c Q D x0 x2) : ∀ k, (k = b ∨ k = g ∨ k ∈ Q) → k < w.heap.size := by
  rintro k (rfl | rfl | hk)
  · exact (Array.getElem?_eq_some_iff.1 h.blk).1
  · obtain ⟨cur, h1, _⟩ := h.row; exact (Array.getElem?_eq_some_iff.1 h1).1
  · obtain ⟨i, hi, rfl⟩ := List.mem_iff_getElem.1 hk
    exact (Array.getElem?_eq_some_iff.1 (h.tim i hi)).1
theorem Pile.below {w' : World} (h : Pile w b g c Q D x0 x2) (hb : Below w.heap.size w w') : Pile w' b g c Q D x0 x2 :=
  h.same fun k hk => hb.block k (h.lt k hk)
end
end Go.Proofs.Ytgkiknkifleofaa.tm
