/- Tables of names in memory, and the contracts of their methods. Conditions: a table that New returned, with fewer than 1000 names; or a nil one. -/
import Derived.Test.YtlcabmkjacimnaaNamesA
import Derived.Test.YtlcabmkjacimnaaMem
import Derived.WalkSpells
import Derived.Laws.AppendOwnNone
namespace Go.Proofs.Ytlcabmkjacimnaa.names
open Go.RowKit mem
set_option linter.unusedVariables false
set_option linter.unusedSimpArgs false
set_option maxHeartbeats 1000000

def kvOf (L : List ByteArray) : List (ByteArray × Value) := L.zipIdx.map (fun p => (p.1, .int .i64 (p.2 : Int)))
def ix (L : List ByteArray) (s : ByteArray) : Option Nat := L.findIdx? (fun x => decide (s = x))
def putL (L : List ByteArray) (s : ByteArray) : List ByteArray := if vName s then (match ix L s with | some _ => L | none => L ++ [s]) else L
def putI (L : List ByteArray) (s : ByteArray) : Int := if vName s then (((ix L s).getD L.length : Nat) : Int) else 0
def putE (s : ByteArray) : Int := if vName s then 0 else 2

theorem kv_idx (L : List ByteArray) (s : ByteArray) (k : Nat) : ((L.zipIdx k).map (fun p => (p.1, Value.int .i64 (p.2 : Int)))).findIdx? (fun p => decide (s = p.1)) = ix L s := by
  unfold ix
  induction L generalizing k with
  | nil => rfl
  | cons a L ih =>
    simp only [List.zipIdx_cons, List.map_cons, List.findIdx?_cons]
    rw [ih (k + 1)]
theorem kv_get (L : List ByteArray) (i : Nat) : (kvOf L)[i]? = (L[i]?).map (fun x => (x, Value.int .i64 (i : Int))) := by
  unfold kvOf
  rw [List.getElem?_map, List.getElem?_zipIdx]
  cases L[i]? <;> simp
theorem alIdx_kv (L : List ByteArray) (s : ByteArray) : alIdx (kvOf L) s = ix L s := kv_idx L s 0
theorem ix_lt {L : List ByteArray} {s : ByteArray} {i : Nat} (h : ix L s = some i) : i < L.length ∧ L[i]? = some s := by
  unfold ix at h
  rw [List.findIdx?_eq_some_iff_getElem] at h
  obtain ⟨hl, hk, _⟩ := h
  have := of_decide_eq_true hk
  exact ⟨hl, by rw [List.getElem?_eq_getElem hl, ← this]⟩
theorem alFind_kv (L : List ByteArray) (s : ByteArray) : alFind (kvOf L) s = (ix L s).map (fun i => Value.int .i64 (i : Int)) := by
  rw [← alFind_idx, alIdx_kv]
  cases h : ix L s with
  | none => rfl
  | some i => simp [kv_get, (ix_lt h).2]
theorem kv_snoc (L : List ByteArray) (s : ByteArray) : kvOf (L ++ [s]) = kvOf L ++ [(s, .int .i64 (L.length : Int))] := by
  unfold kvOf; rw [List.zipIdx_append]; simp

/-- block b is a table of the names L -/
structure Tab (w : World) (b : Nat) (L : List ByteArray) (m : Nat) (p : Option Addr) (c : Nat) : Prop where
  blk : w.heap[b]? = some (.cells #[.map (some m), .slice p L.length c] 71 (0, 0))
  map : MapIs Value.string w m (kvOf L)
  row : w.ownsRow 0 9 1 (.slice p L.length c) L.length (L.map Value.string)
  ne1 : b ≠ m
  ne2 : (Value.slice p L.length c).ownBlock ≠ some b
  ne3 : (Value.slice p L.length c).ownBlock ≠ some m

/-- the blocks of a table -/
def foot (b m : Nat) (p : Option Addr) (k : Nat) : Prop := k = b ∨ k = m ∨ ∃ a, p = some a ∧ k = a.block

theorem own_slice {p : Option Addr} {n c : Nat} {k : Nat} (h : (Value.slice p n c).ownBlock = some k) : ∃ a, p = some a ∧ k = a.block := by
  cases p with
  | none => simp [Value.ownBlock] at h
  | some a => simp [Value.ownBlock] at h; exact ⟨a, rfl, h.symm⟩

theorem Tab.lt {w : World} {b : Nat} {L : List ByteArray} {m : Nat} {p : Option Addr} {c : Nat} (h : Tab w b L m p c) : ∀ k, foot b m p k → k < w.heap.size := by
  rintro k (rfl | rfl | ⟨a, rfl, rfl⟩)
  · exact (Array.getElem?_eq_some_iff.1 h.blk).1
  · exact h.map.lt
  · exact (h.row.lt a.block rfl).2
theorem Tab.same {w w' : World} {b : Nat} {L : List ByteArray} {m : Nat} {p : Option Addr} {c : Nat} (h : Tab w b L m p c) (hs : ∀ k, foot b m p k → w'.heap[k]? = w.heap[k]?) : Tab w' b L m p c where
  blk := (hs b (.inl rfl)).trans h.blk
  map := h.map.same (hs m (.inr (.inl rfl)))
  row := row_same h.row (fun k hk => hs k (.inr (.inr (own_slice hk))))
  ne1 := h.ne1
  ne2 := h.ne2
  ne3 := h.ne3
theorem Tab.touch {w w' : World} {b : Nat} {L : List ByteArray} {m : Nat} {p : Option Addr} {c : Nat} (h : Tab w b L m p c) {S : Nat → Prop} (ht : TouchB S w w') (hS : ∀ k, foot b m p k → ¬ S k) : Tab w' b L m p c :=
  h.same fun k hk => ht.block k (h.lt k hk) (hS k hk)
theorem Tab.c0 {w : World} {b : Nat} {L : List ByteArray} {m : Nat} {p : Option Addr} {c : Nat} (h : Tab w b L m p c) : w.cell? ⟨b, 0, none⟩ = some (.map (some m)) := by
  simp [World.cell?, h.blk]
theorem Tab.c1 {w : World} {b : Nat} {L : List ByteArray} {m : Nat} {p : Option Addr} {c : Nat} (h : Tab w b L m p c) : w.cell? ⟨b, 1, none⟩ = some (.slice p L.length c) := by
  simp [World.cell?, h.blk]

theorem New (w : World) : Calls Try.prog 32 #[] w fun e w' => e = .returned (.pointer (some ⟨w.heap.size + 1, 0, none⟩)) ∧ Tab w' (w.heap.size + 1) [] w.heap.size none 0 ∧ TouchB (fun _ => False) w w' ∧ w'.heap.size = w.heap.size + 2 := by
  have hmm := @run_makeMap Try.prog
  go_enter Try.func32, Try.ntmps32
  go_wp2
  go_ret
  refine ⟨by simp, ⟨?_, ?_, ?_, by omega, by simp [Value.ownBlock], by simp [Value.ownBlock]⟩, ((TouchB.refl _ _).alloc _).alloc _, by simp⟩
  · have := (MapKept.heap_alloc (w.alloc (.map #[] 0)) (.cells #[.map (some w.heap.size), .slice none 0 0] 71)).1
    simpa using this
  · refine (MapIs.made Value.string w).same ?_
    exact Below.heap_alloc _ _ _ (by simp)
  · exact World.ownsRow_nil _ _ _ _

theorem made (b m : Nat) (w : World) (hc : w.cell? ⟨b, 0, none⟩ = some (.map (some m))) : Calls Try.prog 56 #[.pointer (some ⟨b, 0, none⟩)] w fun e w' => e = .returned (.bool true) ∧ w = w' := by
  have hn := fun w => run_neq_map_nil (P := Try.prog) w 69 9 3 (some m) Try.underlying69
  go_enter Try.func56, Try.ntmps56
  go_wp2
  go_ret
  exact ⟨rfl, rfl⟩
theorem made_nil (w : World) : Calls Try.prog 56 #[.pointer none] w fun e w' => e = .returned (.bool false) ∧ w = w' := by
  go_enter Try.func56, Try.ntmps56
  go_wp2
  go_ret
  exact ⟨rfl, rfl⟩
end Go.Proofs.Ytlcabmkjacimnaa.names
