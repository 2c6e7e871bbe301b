/- First, Due. Conditions: the wheel was made by New. -/
import Derived.Test.YtgkiknkifleofaaWalkK
namespace Go.Proofs.Ytgkiknkifleofaa.tm
open Go.RowKit mem TP
set_option linter.unusedVariables false
set_option linter.unusedSimpArgs false
set_option maxHeartbeats 1000000
set_option maxRecDepth 100000

section
variable {w : World} {b m c n : Nat} {p : Option Nat} {Q : List Nat} {D : Nat → TD} {kvs : List (Int × Value)} {A : List TD}
theorem Wit.head (h : Wit w b m p c Q D kvs A n) (hG : Good A n) {x : TD} {A' : List TD} (hA : A = x :: A') : 0 < Q.length ∧ D (g Q 0) = x := by
  have hl := h.len
  have h0 : 0 < Q.length := by rw [hl, hA]; simp
  refine ⟨h0, ?_⟩
  have hx : x ∈ Q.map D := h.perm.mem_iff.2 (by rw [hA]; simp)
  obtain ⟨q, hq, rfl⟩ := List.mem_map.1 hx
  obtain ⟨k, hk, rfl⟩ := List.mem_iff_getElem.1 hq
  have hmin := heap_min (le D) (le_tr D) (le_rf D) h.heap k hk
  have h2 : D (g Q 0) ∈ A := h.perm.mem_iff.1 (List.mem_map_of_mem (by rw [← getElem_g _ _ h0]; exact List.getElem_mem h0))
  rw [hA] at h2
  rcases List.mem_cons.1 h2 with e | e
  · exact e
  · have hs := hG.sorted
    rw [hA] at hs
    have := (List.pairwise_cons.1 hs).1 _ e
    rw [le_iff, ← getElem_g _ _ hk] at hmin
    unfold ltT at this
    omega
theorem Wit.pile (h : Wit w b m p c Q D kvs A n) (h0 : 0 < Q.length) : ∃ gr, p = some gr ∧ Pile w b gr c Q D (.map (some m)) (.int .i64 n) := by
  have hq := h.que
  cases p with
  | none => have := hq.nil.1; rw [this] at h0; simp at h0
  | some gr => exact ⟨gr, rfl, hq.pile⟩
end
theorem FirstM {b n : Nat} {A : List TD} {F : Nat → Prop} (w : World) (h : Wheel w b A n F) : Calls Try.prog 21 #[.pointer (some ⟨b, 0, none⟩)] w fun e w' => e = .returned (.tuple #[.int .i64 ((A.head?.map (·.due)).getD 0), .bool A.head?.isSome]) ∧ w = w' := by
  obtain ⟨m, p, c, Q, D, kvs, hW, hG, hF, hL⟩ := h
  obtain ⟨c0, c1, c2, _⟩ := hW.c0
  have hl := hW.len
  have hi := isM b m w c0
  cases A with
  | nil =>
    rw [hl] at c1
    go_enter Try.func21, Try.ntmps21
    go_wp2_with fail
    refine hi.mono ?_
    rintro e w1 ⟨rfl, rfl⟩
    clear hi
    go_wp2_with fail
    go_ret2
    exact ⟨rfl, rfl⟩
  | cons x A' =>
    obtain ⟨h0, hx⟩ := hW.head hG rfl
    obtain ⟨gr, rfl, hP⟩ := hW.pile h0
    have c3 := (hP.place 0 h0).1
    have c4 := (hP.data 0 h0).1
    rw [getElem_g _ _ h0] at c3 c4
    rw [hx] at c4
    have hlen : Q.length = A'.length + 1 := by rw [hl]; rfl
    rw [hlen] at c1
    clear hlen hl hx hW hG hP
    go_enter Try.func21, Try.ntmps21
    go_wp2_with fail
    refine hi.mono ?_
    rintro e w1 ⟨rfl, rfl⟩
    clear hi
    go_wp2_with fail
    go_ret2
    exact ⟨rfl, rfl⟩

/-! ### the map of a wheel -/
theorem al_some {kvs : List (Int × Value)} (hk : (kvs.map (·.1)).Nodup) {k : Int} {v : Value} (h : (k, v) ∈ kvs) : alFind kvs k = some v := by
  unfold alFind
  induction kvs with
  | nil => simp at h
  | cons a l ih =>
    rw [List.map_cons, List.nodup_cons] at hk
    rcases List.mem_cons.1 h with e | e
    · subst e; simp
    · have hne : k ≠ a.1 := by
        intro e2; exact hk.1 (by rw [← e2]; exact List.mem_map_of_mem (f := (·.1)) e)
      rw [List.find?_cons]
      simp only [hne, decide_false]
      exact ih hk.2 e
theorem al_none {kvs : List (Int × Value)} {k : Int} (h : k ∉ kvs.map (·.1)) : alFind kvs k = none := by
  unfold alFind
  rw [List.find?_eq_none.2]; rfl
  intro p hp
  simp
  intro e; subst e
  exact h (List.mem_map_of_mem (f := (·.1)) hp)
theorem al_put {kvs : List (Int × Value)} {k : Int} (v : Value) (h : k ∉ kvs.map (·.1)) : alPut kvs k v = kvs ++ [(k, v)] := by
  unfold alPut alIdx
  rw [List.findIdx?_eq_none_iff.2]
  intro p hp
  simp
  intro e; subst e
  exact h (List.mem_map_of_mem (f := (·.1)) hp)
theorem al_del {kvs : List (Int × Value)} (hk : (kvs.map (·.1)).Nodup) {k : Int} {v : Value} (h : (k, v) ∈ kvs) : kvs.Perm ((k, v) :: alDel kvs k) := by
  unfold alDel
  induction kvs with
  | nil => simp at h
  | cons a l ih =>
    rw [List.map_cons, List.nodup_cons] at hk
    rcases List.mem_cons.1 h with e | e
    · subst e
      simp [alIdx, List.findIdx?_cons]
    · have hne : k ≠ a.1 := by
        intro e2; exact hk.1 (by rw [← e2]; exact List.mem_map_of_mem (f := (·.1)) e)
      have ih' := ih hk.2 e
      unfold alIdx at ih' ⊢
      rw [List.findIdx?_cons]
      simp only [hne, decide_false, Bool.false_eq_true, if_false]
      cases hx : List.findIdx? (fun p => decide (k = p.1)) l with
      | none =>
        rw [List.findIdx?_eq_none_iff] at hx
        have := hx _ e; simp at this
      | some i =>
        rw [hx] at ih'
        simp only [Option.map_some, List.eraseIdx_cons_succ]
        exact (ih'.cons a).trans (List.Perm.swap _ _ _)
section
variable {w : World} {b m c n : Nat} {p : Option Nat} {Q : List Nat} {D : Nat → TD} {kvs : List (Int × Value)} {A : List TD}
theorem Wit.keys (h : Wit w b m p c Q D kvs A n) : (kvs.map (·.1)).Perm (A.map (·.id)) := by
  have h1 := h.kv.map (·.1)
  have h2 := h.perm.map (·.id)
  rw [List.map_map] at h1 h2
  exact h1.trans h2
theorem Wit.keysN (h : Wit w b m p c Q D kvs A n) (hG : Good A n) : (kvs.map (·.1)).Nodup := h.keys.nodup_iff.2 hG.ids
/-- a timer is found by its id -/
theorem Wit.find (h : Wit w b m p c Q D kvs A n) (hG : Good A n) {x : TD} (hx : x ∈ A) : ∃ i, ∃ hi : i < Q.length, D Q[i] = x ∧ alFind kvs x.id = some (ptrV Q[i]) ∧ (x.id, ptrV Q[i]) ∈ kvs := by
  obtain ⟨q, hq, rfl⟩ := List.mem_map.1 (h.perm.mem_iff.2 hx)
  obtain ⟨i, hi, rfl⟩ := List.mem_iff_getElem.1 hq
  have hm : ((D Q[i]).id, ptrV Q[i]) ∈ kvs := h.kv.mem_iff.2 (List.mem_map.2 ⟨Q[i], List.getElem_mem hi, rfl⟩)
  exact ⟨i, hi, rfl, al_some (h.keysN hG) hm, hm⟩
theorem Wit.miss (h : Wit w b m p c Q D kvs A n) {k : Int} (hx : k ∉ A.map (·.id)) : alFind kvs k = none ∧ k ∉ kvs.map (·.1) := by
  have : k ∉ kvs.map (·.1) := fun e => hx (h.keys.mem_iff.1 e)
  exact ⟨al_none this, this⟩
end
end Go.Proofs.Ytgkiknkifleofaa.tm
