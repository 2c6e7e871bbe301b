/- The contracts of Less and Swap. Conditions: the timers lie in memory. -/
import Derived.Test.YtgkiknkifleofaaWalkA
import Derived.BigRegion
import Derived.RegionTactic
namespace Go.Proofs.Ytgkiknkifleofaa.tm
open Go.RowKit mem
set_option linter.unusedVariables false
set_option linter.unusedSimpArgs false
set_option maxHeartbeats 1000000

theorem before_keep (p q : Nat) (x y : TD) (w : World) (h1 : w.cell? ⟨p, 0, none⟩ = some (.int .i64 x.due)) (h2 : w.cell? ⟨p, 2, none⟩ = some (.int .i64 x.num)) (h3 : w.cell? ⟨q, 0, none⟩ = some (.int .i64 y.due)) (h4 : w.cell? ⟨q, 2, none⟩ = some (.int .i64 y.num)) :
    Calls Try.prog 26 #[.pointer (some ⟨p, 0, none⟩), .pointer (some ⟨q, 0, none⟩)] w fun e w' => e = .returned (.int .i64 (cmpT x y)) ∧ Below w.heap.size w w' ∧ ∀ a v, w.cell? a = some v → w'.cell? a = some v :=
  (before p q x y w h1 h2 h3 h4).mono fun e w' ⟨he, hb⟩ => ⟨he, hb, fun a v hv => (hb.cell (World.block_lt_of_cell? w a hv)).trans hv⟩
theorem Less (g n c i j p q : Nat) (x y : TD) (w : World) (hi : i < n) (hj : j < n) (hn : n ≤ 1000000) (hp : w.cell? ⟨g, i, none⟩ = some (.pointer (some ⟨p, 0, none⟩))) (hq : w.cell? ⟨g, j, none⟩ = some (.pointer (some ⟨q, 0, none⟩)))
    (h1 : w.cell? ⟨p, 0, none⟩ = some (.int .i64 x.due)) (h2 : w.cell? ⟨p, 2, none⟩ = some (.int .i64 x.num)) (h3 : w.cell? ⟨q, 0, none⟩ = some (.int .i64 y.due)) (h4 : w.cell? ⟨q, 2, none⟩ = some (.int .i64 y.num)) :
    Calls Try.prog 77 #[.slice (some ⟨g, 0, none⟩) n c, .int .i64 i, .int .i64 j] w fun e w' => e = .returned (.bool (decide (cmpT x y < 0))) ∧ Below w.heap.size w w' := by
  go_enter Try.func77, Try.ntmps77
  go_wp2_with fail
  go_region_held3 (fun w' => w'.cell? ⟨g, i, none⟩ = some (.pointer (some ⟨p, 0, none⟩)) ∧ w'.cell? ⟨g, j, none⟩ = some (.pointer (some ⟨q, 0, none⟩)) ∧ w'.cell? ⟨p, 0, none⟩ = some (.int .i64 x.due) ∧ w'.cell? ⟨p, 2, none⟩ = some (.int .i64 x.num) ∧ w'.cell? ⟨q, 0, none⟩ = some (.int .i64 y.due) ∧ w'.cell? ⟨q, 2, none⟩ = some (.int .i64 y.num)) (first | go_keep | (refine ⟨?_, ?_, ?_, ?_, ?_, ?_⟩ <;> (refine hk _ _ ?_; simp [*])))
    (first
      | (go_at_call 26; refine (before_keep p q x y _ ?_ ?_ ?_ ?_).mono ?_; (simp [*]); (simp [*]); (simp [*]); (simp [*]); rintro e w' ⟨rfl, hb, hk⟩))
  go_wp2_with fail
  go_ret
  exact ⟨rfl, ⟨hb.os, hb.tape, hb.output, hb.size, hb.block⟩⟩
theorem Len (p : Option Addr) (n c : Nat) (w : World) : Calls Try.prog 76 #[.slice p n c] w fun e w' => e = .returned (.int .i64 n) ∧ w = w' := by
  go_enter Try.func76, Try.ntmps76
  go_wp2
  go_ret
  exact ⟨rfl, rfl⟩

/-- an exchange of two places -/
theorem Swap_ne (g n c i j p q : Nat) (w : World) (hi : i < n) (hj : j < n) (hn : n ≤ 1000000) (hij : i ≠ j) (hp : w.cell? ⟨g, i, none⟩ = some (.pointer (some ⟨p, 0, none⟩))) (hq : w.cell? ⟨g, j, none⟩ = some (.pointer (some ⟨q, 0, none⟩)))
    (fi : w.frozen? ⟨g, i, none⟩ = false) (fj : w.frozen? ⟨g, j, none⟩ = false) (hpg : p ≠ g) (hqg : q ≠ g) (hpq : p ≠ q) (vi vj : Value)
    (h1 : w.cell? ⟨p, 3, none⟩ = some vi) (h2 : w.cell? ⟨q, 3, none⟩ = some vj) (f1 : w.frozen? ⟨p, 3, none⟩ = false) (f2 : w.frozen? ⟨q, 3, none⟩ = false) :
    Calls Try.prog 78 #[.slice (some ⟨g, 0, none⟩) n c, .int .i64 i, .int .i64 j] w fun e w' => e = .returned (.tuple #[]) ∧ 
      ∃ m, w' = ((((w.setCell ⟨g, i, none⟩ (.pointer (some ⟨q, 0, none⟩))).setCell ⟨g, j, none⟩ (.pointer (some ⟨p, 0, none⟩))).setCell ⟨q, 3, none⟩ (.int .i64 i)).setCell ⟨p, 3, none⟩ (.int .i64 j)).drewN m := by
  go_enter Try.func78, Try.ntmps78
  go_wp2_with fail
  go_region
  have c1 : (((w.setCell ⟨g, i, none⟩ (.pointer (some ⟨q, 0, none⟩))).setCell ⟨g, j, none⟩ (.pointer (some ⟨p, 0, none⟩))).drew).cell? ⟨g, i, none⟩ = some (.pointer (some ⟨q, 0, none⟩)) := by
    show ((w.setCell ⟨g, i, none⟩ (.pointer (some ⟨q, 0, none⟩))).setCell ⟨g, j, none⟩ (.pointer (some ⟨p, 0, none⟩))).cell? _ = _
    rw [World.cell?_setCell_other _ _ _ _ (by intro e; simp at e <;> omega)]
    exact World.cell?_setCell_same _ _ _ hp
  have c2 : (((w.setCell ⟨g, i, none⟩ (.pointer (some ⟨q, 0, none⟩))).setCell ⟨g, j, none⟩ (.pointer (some ⟨p, 0, none⟩))).drew).cell? ⟨g, j, none⟩ = some (.pointer (some ⟨p, 0, none⟩)) := by
    show ((w.setCell ⟨g, i, none⟩ (.pointer (some ⟨q, 0, none⟩))).setCell ⟨g, j, none⟩ (.pointer (some ⟨p, 0, none⟩))).cell? _ = _
    refine World.cell?_setCell_same _ _ _ (u := .pointer (some ⟨q, 0, none⟩)) ?_
    rw [World.cell?_setCell_other _ _ _ _ (by intro e; simp at e <;> omega)]; exact hq
  have c3 : ∀ o, (((w.setCell ⟨g, i, none⟩ (.pointer (some ⟨q, 0, none⟩))).setCell ⟨g, j, none⟩ (.pointer (some ⟨p, 0, none⟩))).drew).cell? ⟨p, o, none⟩ = w.cell? ⟨p, o, none⟩ := by
    intro o
    show ((w.setCell ⟨g, i, none⟩ (.pointer (some ⟨q, 0, none⟩))).setCell ⟨g, j, none⟩ (.pointer (some ⟨p, 0, none⟩))).cell? _ = _
    rw [World.cell?_setCell_other _ _ _ _ (by simp [hpg]), World.cell?_setCell_other _ _ _ _ (by simp [hpg])]
  have c4 : ∀ o, (((w.setCell ⟨g, i, none⟩ (.pointer (some ⟨q, 0, none⟩))).setCell ⟨g, j, none⟩ (.pointer (some ⟨p, 0, none⟩))).drew).cell? ⟨q, o, none⟩ = w.cell? ⟨q, o, none⟩ := by
    intro o
    show ((w.setCell ⟨g, i, none⟩ (.pointer (some ⟨q, 0, none⟩))).setCell ⟨g, j, none⟩ (.pointer (some ⟨p, 0, none⟩))).cell? _ = _
    rw [World.cell?_setCell_other _ _ _ _ (by simp [hqg]), World.cell?_setCell_other _ _ _ _ (by simp [hqg])]
  have c5 := (c3 3).trans h1
  have c6 := (c4 3).trans h2
  have c7 : (((w.setCell ⟨g, i, none⟩ (.pointer (some ⟨q, 0, none⟩))).setCell ⟨g, j, none⟩ (.pointer (some ⟨p, 0, none⟩))).drew).frozen? ⟨p, 3, none⟩ = false := by
    show ((w.setCell ⟨g, i, none⟩ (.pointer (some ⟨q, 0, none⟩))).setCell ⟨g, j, none⟩ (.pointer (some ⟨p, 0, none⟩))).frozen? _ = _
    simp [f1]
  have c8 : (((w.setCell ⟨g, i, none⟩ (.pointer (some ⟨q, 0, none⟩))).setCell ⟨g, j, none⟩ (.pointer (some ⟨p, 0, none⟩))).drew).frozen? ⟨q, 3, none⟩ = false := by
    show ((w.setCell ⟨g, i, none⟩ (.pointer (some ⟨q, 0, none⟩))).setCell ⟨g, j, none⟩ (.pointer (some ⟨p, 0, none⟩))).frozen? _ = _
    simp [f2]
  have hfin : ∀ W : World, W = (((w.setCell ⟨g, i, none⟩ (.pointer (some ⟨q, 0, none⟩))).setCell ⟨g, j, none⟩ (.pointer (some ⟨p, 0, none⟩))).drew) →
      ∃ m, ((W.setCell ⟨q, 3, none⟩ (.int .i64 i)).setCell ⟨p, 3, none⟩ (.int .i64 j)).drew = ((((w.setCell ⟨g, i, none⟩ (.pointer (some ⟨q, 0, none⟩))).setCell ⟨g, j, none⟩ (.pointer (some ⟨p, 0, none⟩))).setCell ⟨q, 3, none⟩ (.int .i64 i)).setCell ⟨p, 3, none⟩ (.int .i64 j)).drewN m :=
    fun W e => ⟨2, by subst e; rfl⟩
  clear c3 c4 h1 h2 hp hq f1 f2 fi fj
  generalize hW : (((w.setCell ⟨g, i, none⟩ (.pointer (some ⟨q, 0, none⟩))).setCell ⟨g, j, none⟩ (.pointer (some ⟨p, 0, none⟩))).drew) = W at *
  have HF := Lib.hid (hfin W rfl)
  clear hfin hW
  go_wp2_with fail
  go_region
  go_end0
  exact ⟨rfl, HF.out⟩

theorem setCell_self (w : World) (b o : Nat) (v : Value) (h : w.cell? ⟨b, o, none⟩ = some v) : w.setCell ⟨b, o, none⟩ v = w := by
  unfold World.cell? at h
  split at h
  · rename_i c e f hb
    have hc : c[o]? = some v := by simpa using h
    have hc' : c.setIfInBounds o v = c := by
      apply Array.ext'
      obtain ⟨hl, hv⟩ := Array.getElem?_eq_some_iff.1 hc
      rw [Array.toList_setIfInBounds]
      subst hv
      rw [← Array.getElem_toList]
      exact List.set_getElem_self _
    have : w.heap.modify b (fun
      | .cells c elem frozen => .cells (if (⟨b, o, none⟩ : Addr).spot.isSome then c else c.setIfInBounds o v) elem frozen
      | o => o) = w.heap := by
      apply Array.ext_getElem?
      intro k
      rw [Array.getElem?_modify]
      split
      · rename_i hk; subst hk
        have hb' : w.heap[b]? = some (.cells c e f) := hb
        rw [hb']; simp [hc']
      · rfl
    show ({ w with heap := w.heap.modify b (fun
      | .cells c elem frozen => .cells (if (⟨b, o, none⟩ : Addr).spot.isSome then c else c.setIfInBounds o v) elem frozen
      | o => o) } : World) = w
    rw [this]
  · cases h

/-- a place exchanged with itself -/
theorem Swap_eq (g n c i p : Nat) (w : World) (hi : i < n) (hn : n ≤ 1000000) (hp : w.cell? ⟨g, i, none⟩ = some (.pointer (some ⟨p, 0, none⟩)))
    (fi : w.frozen? ⟨g, i, none⟩ = false) (h1 : w.cell? ⟨p, 3, none⟩ = some (.int .i64 i)) (f1 : w.frozen? ⟨p, 3, none⟩ = false) :
    Calls Try.prog 78 #[.slice (some ⟨g, 0, none⟩) n c, .int .i64 i, .int .i64 i] w fun e w' => e = .returned (.tuple #[]) ∧ ∃ m, w' = w.drewN m := by
  have hs1 := setCell_self w _ _ _ hp
  have hs2 := setCell_self w _ _ _ h1
  have HS1 := Lib.hid hs1; clear hs1
  have HS2 := Lib.hid hs2; clear hs2
  go_enter Try.func78, Try.ntmps78
  go_wp2_with fail
  go_region
  rw [HS1.out, HS1.out]
  go_wp2_with fail
  go_region
  rw [HS2.out, HS2.out]
  go_end0
  exact ⟨rfl, 2, rfl⟩
end Go.Proofs.Ytgkiknkifleofaa.tm
