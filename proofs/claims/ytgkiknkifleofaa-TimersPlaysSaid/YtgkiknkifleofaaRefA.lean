/- The reference's wheel: find, Due, First. Conditions: the wheel lies in memory. -/
import Derived.Test.YtgkiknkifleofaaWalkX
namespace Go.Proofs.Ytgkiknkifleofaa.tm
open Go.RowKit mem TP
set_option linter.unusedVariables false
set_option linter.unusedSimpArgs false
set_option maxHeartbeats 1000000
set_option maxRecDepth 100000

def tdV (A : List TD) : List Value := A.flatMap fun x => [.int .i64 x.due, .int .i64 x.id]
theorem tdV_len (A : List TD) : (tdV A).length = A.length * 2 := by
  unfold tdV; induction A with
  | nil => rfl
  | cons x l ih => rw [List.flatMap_cons, List.length_append, ih]; simp; omega
theorem tdV_app (A B : List TD) : tdV (A ++ B) = tdV A ++ tdV B := by unfold tdV; rw [List.flatMap_append]
theorem tdV_at : ∀ (A : List TD) (k : Nat) (h : k < A.length), (tdV A)[k * 2]? = some (.int .i64 A[k].due) ∧ (tdV A)[k * 2 + 1]? = some (.int .i64 A[k].id) := by
  intro A
  induction A with
  | nil => intro k h; simp at h
  | cons a l ih =>
    intro k h
    have e : tdV (a :: l) = [.int .i64 a.due, .int .i64 a.id] ++ tdV l := rfl
    rw [e]
    cases k with
    | zero => exact ⟨rfl, rfl⟩
    | succ k =>
      obtain ⟨h0, h1⟩ := ih k (by simpa using h)
      have x : ∀ i, ([.int .i64 a.due, .int .i64 a.id] ++ tdV l)[i + 2]? = (tdV l)[i]? := fun i => by
        rw [List.getElem?_append_right (by simp)]; simp
      refine ⟨?_, ?_⟩
      · rw [show (k + 1) * 2 = k * 2 + 2 by omega, x]; simpa using h0
      · rw [show (k + 1) * 2 + 1 = k * 2 + 1 + 2 by omega, x]; simpa using h1
theorem tdV_take (A : List TD) (k : Nat) (h : k ≤ A.length) : tdV (A.take k) = (tdV A).take (k * 2) := by
  have e := tdV_app (A.take k) (A.drop k)
  rw [List.take_append_drop] at e
  have hl : (tdV (A.take k)).length = k * 2 := by rw [tdV_len, List.length_take]; omega
  rw [e, ← hl, List.take_left]
theorem tdV_drop (A : List TD) (k : Nat) (h : k ≤ A.length) : tdV (A.drop k) = (tdV A).drop (k * 2) := by
  have e := tdV_app (A.take k) (A.drop k)
  rw [List.take_append_drop] at e
  have hl : (tdV (A.take k)).length = k * 2 := by rw [tdV_len, List.length_take]; omega
  rw [e, List.drop_append_of_le_length (by omega), ← hl, List.drop_length, List.nil_append]

structure RefW (w : World) (b : Nat) (A : List TD) (p : Option Addr) (c : Nat) (G : Nat → Prop) : Prop where
  blk : w.heap[b]? = some (.cells #[.slice p A.length c] 51 (0, 0))
  row : w.ownsRow 0 80 2 (.slice p A.length c) A.length (tdV A)
  len : A.length ≤ 1000
  inb : G b
  inr : ∀ g, (Value.slice p A.length c).ownBlock = some g → G g ∧ g ≠ b
  lt : ∀ k, G k → k < w.heap.size
section
variable {w : World} {b c : Nat} {A : List TD} {p : Option Addr} {G : Nat → Prop}
theorem RefW.c0 (h : RefW w b A p c G) : w.cell? ⟨b, 0, none⟩ = some (.slice p A.length c) ∧ w.frozen? ⟨b, 0, none⟩ = false := by
  simp [World.cell?, World.frozen?, h.blk]
theorem RefW.at_ (h : RefW w b A p c G) {k : Nat} (hk : k < A.length) : ∃ g, p = some ⟨g, 0, none⟩ ∧ A.length ≤ c ∧ c ≤ maxLen ∧ ∀ j, (hj : j < A.length) → w.cell? ⟨g, j * 2, none⟩ = some (.int .i64 A[j].due) ∧ w.cell? ⟨g, j * 2 + 1, none⟩ = some (.int .i64 A[j].id) := by
  rcases h.row.2 with ⟨e, h0⟩ | ⟨g, cap, cur, e, hb, hg, hn, hc, hs, ht⟩
  · omega
  · simp only [Value.slice.injEq] at e
    obtain ⟨rfl, _, rfl⟩ := e
    refine ⟨g, rfl, hn, hc, fun j hj => ?_⟩
    obtain ⟨h0, h1⟩ := tdV_at A j hj
    have e : ∀ i, i < A.length * 2 → w.cell? ⟨g, i, none⟩ = (tdV A)[i]? := fun i hi => by
      simp only [World.cell?, hg]
      rw [← ht, List.getElem?_take, if_pos hi]
      simp
    rw [e _ (by omega), e _ (by omega)]
    exact ⟨h0, h1⟩
theorem RefW.same {w' : World} (h : RefW w b A p c G) (hz : w.heap.size ≤ w'.heap.size) (hs : ∀ k, k < w.heap.size → G k → w'.heap[k]? = w.heap[k]?) : RefW w' b A p c G where
  blk := (hs b (h.lt b h.inb) h.inb).trans h.blk
  row := row_same h.row (fun g hg => hs g (h.lt g (h.inr g hg).1) (h.inr g hg).1)
  len := h.len
  inb := h.inb
  inr := h.inr
  lt := fun k hk => Nat.lt_of_lt_of_le (h.lt k hk) hz
end
def pos (A : List TD) (id : Int) : Option Nat := A.findIdx? (fun x => decide (x.id = id))
def posI (A : List TD) (id : Int) : Int := match pos A id with | some k => (k : Int) | none => -1
theorem pos_some {A : List TD} {id : Int} {k : Nat} (h : pos A id = some k) : ∃ hk : k < A.length, A[k].id = id ∧ ∀ j, (hj : j < k) → A[j].id ≠ id := by
  unfold pos at h
  rw [List.findIdx?_eq_some_iff_getElem] at h
  obtain ⟨h1, h2, h3⟩ := h
  exact ⟨h1, by simpa using h2, fun j hj => by simpa using h3 j hj⟩
theorem pos_none {A : List TD} {id : Int} (h : pos A id = none) : ∀ j, (hj : j < A.length) → A[j].id ≠ id := by
  unfold pos at h
  rw [List.findIdx?_eq_none_iff] at h
  intro j hj
  simpa using h _ (List.getElem_mem hj)
theorem pos_is {A : List TD} {id : Int} {k : Nat} (hk : k < A.length) (e : A[k].id = id) (h : ∀ j, (hj : j < k) → A[j].id ≠ id) : pos A id = some k := by
  unfold pos
  rw [List.findIdx?_eq_some_iff_getElem]
  exact ⟨hk, by simpa using e, fun j hj => by simpa using h j hj⟩
theorem pos_not {A : List TD} {id : Int} (h : ∀ j, (hj : j < A.length) → A[j].id ≠ id) : pos A id = none := by
  unfold pos
  rw [List.findIdx?_eq_none_iff]
  intro x hx
  obtain ⟨j, hj, rfl⟩ := List.mem_iff_getElem.1 hx
  simpa using h j hj
theorem find_pos {A : List TD} (hn : (A.map (·.id)).Nodup) (id : Int) : findT A id = (pos A id).bind (fun k => A[k]?) := by
  cases hp : pos A id with
  | none =>
    rw [findT_none.2]; rfl
    intro h
    obtain ⟨x, hx, e⟩ := List.mem_map.1 h
    obtain ⟨j, hj, rfl⟩ := List.mem_iff_getElem.1 hx
    exact pos_none hp j hj e
  | some k =>
    obtain ⟨hk, e, _⟩ := pos_some hp
    have := find_mem hn (List.getElem_mem hk)
    rw [e] at this
    rw [this]; simp [List.getElem?_eq_getElem hk]
theorem RFind {w : World} {b c : Nat} {A : List TD} {p : Option Addr} {G : Nat → Prop} (h : RefW w b A p c G) (id : Int) : Calls Try.prog 42 #[.pointer (some ⟨b, 0, none⟩), .int .i64 id] w fun e w' => e = .returned (.int .i64 (posI A id)) ∧ w = w' := by
  obtain ⟨c0, _⟩ := h.c0
  have hlen := h.len
  go_enter Try.func42, Try.ntmps42
  go_wp2_with fail
  go_loop [5] (fun s => ∃ k : Nat, s = .int .i64 k ∧ k ≤ A.length ∧ Hid (∀ j, (hj : j < A.length) → j < k → A[j].id ≠ id)) (fun s => A.length - (intOf s).toNat)
  case atStart => exact ⟨0, rfl, by omega, Lib.hid (fun j _ h => absurd h (by omega))⟩
  case round =>
    obtain ⟨k, rfl, hk, hH⟩ := hrel
    by_cases hlt : k < A.length
    · obtain ⟨g, rfl, hc1, hc2, hx⟩ := h.at_ hlt
      have x1 := (hx k hlt).2
      clear hx
      unfold maxLen at hc2
      by_cases he : A[k].id = id
      · have hq : (A[k].id == id) = true := by simp [he]
        have hp : posI A id = (k : Int) := by unfold posI; rw [pos_is hlt he (fun j hj => hH.out j (by omega) hj)]
        have HP := Lib.hid hp; clear hp
        clear hH he
        generalize A[k] = x at *
        go_wp2_with fail
        go_ret
        exact ⟨ret1 HP.out.symm, rfl⟩
      · have hq : (A[k].id == id) = false := by simp [he]
        have HH : Hid (∀ j, (hj : j < A.length) → j < k + 1 → A[j].id ≠ id) := Lib.hid (fun j hj hjk => by
          by_cases e : j = k
          · subst e; exact he
          · exact hH.out j hj (by omega))
        clear hH he
        generalize A[k] = x at *
        go_wp2_with fail
        go_round
        case rel => exact ⟨k + 1, by go_num, by omega, HH⟩
        case measure => simp [intOf]; omega
    · have hp : posI A id = -1 := by unfold posI; rw [pos_not (fun j hj => hH.out j hj (by omega))]
      have HP := Lib.hid hp; clear hp
      clear hH
      go_wp2_with fail
      go_ret
      exact ⟨ret1 HP.out.symm, rfl⟩
theorem RDue {w : World} {b c : Nat} {A : List TD} {p : Option Addr} {G : Nat → Prop} (h : RefW w b A p c G) (hn : (A.map (·.id)).Nodup) (id : Int) : Calls Try.prog 33 #[.pointer (some ⟨b, 0, none⟩), .int .i64 id] w fun e w' => e = .returned (.tuple #[.int .i64 (((findT A id).map (·.due)).getD 0), .bool (findT A id).isSome]) ∧ w = w' := by
  obtain ⟨c0, _⟩ := h.c0
  have hlen := h.len
  have hf := RFind h id
  rw [find_pos hn id]
  unfold posI at hf
  cases hp : pos A id with
  | none =>
    rw [hp] at hf
    dsimp only at hf
    go_enter Try.func33, Try.ntmps33
    go_wp2_with fail
    refine hf.mono ?_
    rintro e w1 ⟨rfl, rfl⟩
    clear hf
    go_wp2_with fail
    go_ret2
    exact ⟨rfl, rfl⟩
  | some k =>
    rw [hp] at hf
    dsimp only at hf
    obtain ⟨hk, _, _⟩ := pos_some hp
    obtain ⟨g, rfl, hc1, hc2, hx⟩ := h.at_ hk
    have x1 := (hx k hk).1
    have hgo : ((some k).bind fun k => A[k]?) = some A[k] := by simp [List.getElem?_eq_getElem hk]
    rw [hgo]
    clear hx hp hgo
    unfold maxLen at hc2
    generalize A[k] = x at *
    go_enter Try.func33, Try.ntmps33
    go_wp2_with fail
    refine hf.mono ?_
    rintro e w1 ⟨rfl, rfl⟩
    clear hf
    go_wp2_with fail
    go_ret2
    exact ⟨rfl, rfl⟩
theorem RFirst {w : World} {b c : Nat} {A : List TD} {p : Option Addr} {G : Nat → Prop} (h : RefW w b A p c G) : Calls Try.prog 34 #[.pointer (some ⟨b, 0, none⟩)] w fun e w' => e = .returned (.tuple #[.int .i64 ((A.head?.map (·.due)).getD 0), .bool A.head?.isSome]) ∧ w = w' := by
  obtain ⟨c0, _⟩ := h.c0
  have hlen := h.len
  cases A with
  | nil =>
    go_enter Try.func34, Try.ntmps34
    go_wp2_with fail
    go_ret2
    exact ⟨rfl, rfl⟩
  | cons x A' =>
    obtain ⟨g, rfl, hc1, hc2, hx⟩ := h.at_ (k := 0) (by simp)
    have x1 := (hx 0 (by simp)).1
    simp only [Nat.zero_mul, List.getElem_cons_zero, List.length_cons] at x1 c0 hlen hc1
    unfold maxLen at hc2
    clear hx h
    go_enter Try.func34, Try.ntmps34
    go_wp2_with fail
    go_ret2
    exact ⟨rfl, rfl⟩
end Go.Proofs.Ytgkiknkifleofaa.tm
