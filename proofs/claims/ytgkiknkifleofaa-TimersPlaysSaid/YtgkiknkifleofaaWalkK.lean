/- The wheel in memory; New, is, Len, First, Due. Conditions: the wheel was made by New. -/
import Derived.Test.YtgkiknkifleofaaWalkJ
namespace Go.Proofs.Ytgkiknkifleofaa.tm
open Go.RowKit mem TP
set_option linter.unusedVariables false
set_option linter.unusedSimpArgs false
set_option maxHeartbeats 1000000
set_option maxRecDepth 100000

def ltT (x y : TD) : Prop := x.due < y.due ∨ (x.due = y.due ∧ x.num < y.num)
/-- the abstract state: the timers in their order -/
structure Good (A : List TD) (n : Nat) : Prop where
  sorted : A.Pairwise ltT
  ids : (A.map (·.id)).Nodup
  nums : ∀ x ∈ A, x.num ≤ n
  dues : ∀ x ∈ A, 0 ≤ x.due
  len : A.length ≤ n
  max : n ≤ 1000
structure Wit (w : World) (b m : Nat) (p : Option Nat) (c : Nat) (Q : List Nat) (D : Nat → TD) (kvs : List (Int × Value)) (A : List TD) (n : Nat) : Prop where
  que : Que w b p c Q D (.map (some m)) (.int .i64 n)
  map : MapIs (Value.int .i64) w m kvs
  heap : Heap (le D) Q Q.length
  perm : (Q.map D).Perm A
  kv : kvs.Perm (Q.map fun t => ((D t).id, ptrV t))
def wfoot (b m : Nat) (p : Option Nat) (Q : List Nat) (k : Nat) : Prop := k = b ∨ k = m ∨ p = some k ∨ k ∈ Q
def Wheel (w : World) (b : Nat) (A : List TD) (n : Nat) (F : Nat → Prop) : Prop :=
  ∃ m p c Q D kvs, Wit w b m p c Q D kvs A n ∧ Good A n ∧ (∀ k, wfoot b m p Q k → F k) ∧ (∀ k, F k → k < w.heap.size)

theorem Que.own_lt {w : World} {b c : Nat} {p : Option Nat} {Q : List Nat} {D : Nat → TD} {x0 x2 : Value} (h : Que w b p c Q D x0 x2) (k : Nat) (hk : p = some k) : k < w.heap.size := by
  subst hk
  obtain ⟨cur, h1, _⟩ := h.pile.row
  exact (Array.getElem?_eq_some_iff.1 h1).1
theorem Que.same {w w' : World} {b c : Nat} {p : Option Nat} {Q : List Nat} {D : Nat → TD} {x0 x2 : Value} (h : Que w b p c Q D x0 x2) (hs : ∀ k, (k = b ∨ p = some k ∨ k ∈ Q) → w'.heap[k]? = w.heap[k]?) : Que w' b p c Q D x0 x2 where
  blk := (hs b (.inl rfl)).trans h.blk
  own := row_same h.own (fun k hk => hs k (.inr (.inl (by cases p with | none => simp [Value.ownBlock] at hk | some g => simp [Value.ownBlock] at hk; rw [hk]))))
  tim := fun i hi => (hs _ (.inr (.inr (List.getElem_mem hi)))).trans (h.tim i hi)
theorem Wheel.same {w w' : World} {b n : Nat} {A : List TD} {F : Nat → Prop} (h : Wheel w b A n F) (hz : w.heap.size ≤ w'.heap.size) (hs : ∀ k, k < w.heap.size → F k → w'.heap[k]? = w.heap[k]?) : Wheel w' b A n F := by
  obtain ⟨m, p, c, Q, D, kvs, hW, hG, hF, hL⟩ := h
  have hs' : ∀ k, wfoot b m p Q k → w'.heap[k]? = w.heap[k]? := fun k hk => hs k (hL k (hF k hk)) (hF k hk)
  refine ⟨m, p, c, Q, D, kvs, ⟨hW.que.same (fun k hk => hs' k ?_), hW.map.same (hs' m (.inr (.inl rfl))), hW.heap, hW.perm, hW.kv⟩, hG, hF, fun k hk => Nat.lt_of_lt_of_le (hL k hk) hz⟩
  rcases hk with e | e | e
  · exact .inl e
  · exact .inr (.inr (.inl e))
  · exact .inr (.inr (.inr e))
theorem Wheel.below {w w' : World} {b n B : Nat} {A : List TD} {F : Nat → Prop} (h : Wheel w b A n F) (hb : Below B w w') (hB : w.heap.size ≤ B) : Wheel w' b A n F :=
  h.same hb.size (fun k hk _ => hb.block k (by omega))
theorem Wheel.touch {w w' : World} {b n : Nat} {A : List TD} {F G : Nat → Prop} (h : Wheel w b A n F) (ht : TouchB G w w') (hd : ∀ k, F k → ¬ G k) : Wheel w' b A n F :=
  h.same ht.size (fun k hk hF => ht.block k hk (hd k hF))
theorem Wheel.good {w : World} {b n : Nat} {A : List TD} {F : Nat → Prop} (h : Wheel w b A n F) : Good A n := by
  obtain ⟨m, p, c, Q, D, kvs, hW, hG, _⟩ := h; exact hG

theorem isM (b m : Nat) (w : World) (h : w.cell? ⟨b, 0, none⟩ = some (.map (some m))) : Calls Try.prog 23 #[.pointer (some ⟨b, 0, none⟩)] w fun e w' => e = .returned (.bool true) ∧ w = w' := by
  have hn := fun w => run_neq_map_nil (P := Try.prog) w 42 2 56 (some m) Try.underlying42
  go_enter Try.func23, Try.ntmps23
  go_wp2_with fail
  go_ret
  exact ⟨rfl, rfl⟩
theorem isNil (w : World) : Calls Try.prog 23 #[.pointer none] w fun e w' => e = .returned (.bool false) ∧ w = w' := by
  go_enter Try.func23, Try.ntmps23
  go_wp2_with fail
  go_ret
  exact ⟨rfl, rfl⟩
theorem isZero (b : Nat) (w : World) (h : w.cell? ⟨b, 0, none⟩ = some (.map none)) : Calls Try.prog 23 #[.pointer (some ⟨b, 0, none⟩)] w fun e w' => e = .returned (.bool false) ∧ w = w' := by
  have hn := fun w => run_neq_map_nil (P := Try.prog) w 42 2 56 none Try.underlying42
  go_enter Try.func23, Try.ntmps23
  go_wp2_with fail
  go_ret
  exact ⟨rfl, rfl⟩
theorem New (w : World) : Calls Try.prog 19 #[] w fun e w' => ∃ b, e = .returned (.pointer (some ⟨b, 0, none⟩)) ∧ Below w.heap.size w w' ∧ Wheel w' b [] 0 (fun k => w.heap.size ≤ k ∧ k < w'.heap.size) := by
  have hmm := @run_makeMap Try.prog
  go_enter Try.func19, Try.ntmps19
  go_wp2_with fail
  go_ret
  have e1 : ((w.alloc (.map #[] 0)).alloc (.cells #[.map (some w.heap.size), .slice none 0 0, .int .i64 0] 46)).heap[w.heap.size + 1]? = some (.cells #[.map (some w.heap.size), .slice none 0 0, .int .i64 0] 46 (0, 0)) := by
    have := (MapKept.heap_alloc (w.alloc (.map #[] 0)) (.cells #[.map (some w.heap.size), .slice none 0 0, .int .i64 0] 46)).1
    simpa using this
  refine ⟨w.heap.size + 1, by simp, ?_, w.heap.size, none, 0, [], fun _ => ⟨0, 0, 0⟩, [], ⟨⟨?_, ?_, ?_⟩, ?_, ?_, ?_, ?_⟩, ?_, ?_, ?_⟩
  · exact (((TouchB.refl (fun _ => False) w).alloc _).alloc _).below (fun k h => h.elim) (Nat.le_refl _)
  · exact e1
  · exact World.ownsRow_nil _ _ _ _
  · intro i hi; simp at hi
  · refine (MapIs.made (Value.int .i64) w).same ?_
    exact Below.heap_alloc _ _ _ (by simp)
  · intro k k0 kn; simp at kn
  · exact List.Perm.refl _
  · exact List.Perm.refl _
  · exact ⟨List.Pairwise.nil, List.nodup_nil, by simp, by simp, by simp, by omega⟩
  · rintro k (e | e | e | e)
    · subst e; simp
    · subst e; simp; omega
    · cases e
    · cases e
  · rintro k ⟨_, h⟩; exact h

theorem Wit.c0 {w : World} {b m c n : Nat} {p : Option Nat} {Q : List Nat} {D : Nat → TD} {kvs : List (Int × Value)} {A : List TD} (h : Wit w b m p c Q D kvs A n) :
    w.cell? ⟨b, 0, none⟩ = some (.map (some m)) ∧ w.cell? ⟨b, 1, none⟩ = some (.slice (p.map fun g => ⟨g, 0, none⟩) Q.length c) ∧ w.cell? ⟨b, 2, none⟩ = some (.int .i64 n) ∧ w.frozen? ⟨b, 0, none⟩ = false ∧ w.frozen? ⟨b, 1, none⟩ = false ∧ w.frozen? ⟨b, 2, none⟩ = false := by
  simp [World.cell?, World.frozen?, h.que.blk]
theorem Wit.len {w : World} {b m c n : Nat} {p : Option Nat} {Q : List Nat} {D : Nat → TD} {kvs : List (Int × Value)} {A : List TD} (h : Wit w b m p c Q D kvs A n) : Q.length = A.length := by
  have := h.perm.length_eq; simpa using this
theorem LenM {b n : Nat} {A : List TD} {F : Nat → Prop} (w : World) (h : Wheel w b A n F) : Calls Try.prog 16 #[.pointer (some ⟨b, 0, none⟩)] w fun e w' => e = .returned (.int .i64 A.length) ∧ w = w' := by
  obtain ⟨m, p, c, Q, D, kvs, hW, hG, hF, hL⟩ := h
  obtain ⟨c0, c1, c2, _⟩ := hW.c0
  have hl := hW.len
  have hi := isM b m w c0
  rw [hl] at c1
  clear hl hW hG
  go_enter Try.func16, Try.ntmps16
  go_wp2_with fail
  refine hi.mono ?_
  rintro e w1 ⟨rfl, rfl⟩
  clear hi
  go_wp2_with fail
  go_ret
  exact ⟨rfl, rfl⟩
theorem LenNil (w : World) : Calls Try.prog 16 #[.pointer none] w fun e w' => e = .returned (.int .i64 0) ∧ w = w' := by
  go_enter Try.func16, Try.ntmps16
  go_wp2_with fail
  refine (isNil w).mono ?_
  rintro e w1 ⟨rfl, rfl⟩
  go_wp2_with fail
  go_ret
  exact ⟨rfl, rfl⟩
end Go.Proofs.Ytgkiknkifleofaa.tm
