/- The contracts of cmp.Compare, cmp.Or and before. Conditions: the timers lie in memory. -/
import Derived.Test.YtgkiknkifleofaaMem
import Derived.Test.YtgkiknkifleofaaHeap
import Derived.Deep.QuietTactic
import Derived.BigQuiet
import Derived.WalkSpells
import Derived.Deep.RegionHeld3
namespace Go
theorem RowKit.Below.drewN {B : Nat} {a w : World} (h : RowKit.Below B a w) (n : Nat) : RowKit.Below B a (w.drewN n) := ⟨h.os, h.tape, h.output, h.size, h.block⟩
end Go
namespace Go.Proofs.Ytgkiknkifleofaa.tm
open Go.RowKit mem
set_option linter.unusedVariables false
set_option linter.unusedSimpArgs false
set_option maxHeartbeats 1000000

theorem ret1 {k : IntKind} {a b : Int} (h : a = b) : Ending.returned (.int k a) = .returned (.int k b) := by rw [h]
theorem ret1b {a b : Bool} (h : a = b) : Ending.returned (.bool a) = .returned (.bool b) := by rw [h]

def cmpI (a b : Int) : Int := if a < b then -1 else if b < a then 1 else 0
theorem isNaN (a : Int) (w : World) : Calls Try.prog 53 #[.int .i64 a] w fun e w' => e = .returned (.bool false) ∧ w = w' := by
  go_enter Try.func53, Try.ntmps53
  go_wp2
  go_ret
  exact ⟨ret1b (by simp), rfl⟩
theorem Compare (a b : Int) (w : World) : Calls Try.prog 39 #[.int .i64 a, .int .i64 b] w fun e w' => e = .returned (.int .i64 (cmpI a b)) ∧ w = w' := by
  by_cases h1 : a < b
  · go_enter Try.func39, Try.ntmps39
    go_wp2_with (go_at_call 53; refine (isNaN _ _).mono ?_; rintro e w' ⟨rfl, rfl⟩)
    go_ret
    exact ⟨ret1 (by unfold cmpI; rw [if_pos h1]), rfl⟩
  · by_cases h2 : b < a
    · go_enter Try.func39, Try.ntmps39
      go_wp2_with (go_at_call 53; refine (isNaN _ _).mono ?_; rintro e w' ⟨rfl, rfl⟩)
      go_ret
      exact ⟨ret1 (by unfold cmpI; rw [if_neg (by omega), if_pos h2]), rfl⟩
    · go_enter Try.func39, Try.ntmps39
      go_wp2_with (go_at_call 53; refine (isNaN _ _).mono ?_; rintro e w' ⟨rfl, rfl⟩)
      go_ret
      exact ⟨ret1 (by unfold cmpI; rw [if_neg (by omega), if_neg (by omega)]), rfl⟩

def orI (a b : Int) : Int := if a = 0 then b else a
theorem Or (g : Nat) (a b : Int) (w : World) (h0 : w.cell? ⟨g, 0, none⟩ = some (.int .i64 a)) (h1 : w.cell? ⟨g, 1, none⟩ = some (.int .i64 b)) : Calls Try.prog 38 #[.slice (some ⟨g, 0, none⟩) 2 2] w fun e w' => e = .returned (.int .i64 (orI a b)) ∧ w = w' := by
  go_enter Try.func38, Try.ntmps38
  go_wp2_with fail
  go_loop [8] (fun s => ∃ k : Nat, s = .int .i64 k ∧ k ≤ 2 ∧ Hid ((1 ≤ k → a = 0) ∧ (2 ≤ k → b = 0))) (fun s => 2 - (intOf s).toNat)
  case atStart => exact ⟨0, rfl, by omega, Lib.hid ⟨by omega, by omega⟩⟩
  case round =>
    obtain ⟨k, rfl, hk, hz⟩ := hrel
    have ways : k = 0 ∨ k = 1 ∨ k = 2 := by omega
    rcases ways with rfl | rfl | rfl
    · by_cases ha : a = 0
      · have hq : (a != 0) = false := by simp [ha]
        have HA := Lib.hid ha; clear ha
        go_wp2_with fail
        go_round
        case rel => exact ⟨1, rfl, by omega, Lib.hid ⟨fun _ => HA.out, by omega⟩⟩
        case measure => simp [intOf]
      · have hq : (a != 0) = true := by simp [ha]
        go_wp2_with fail
        go_ret
        exact ⟨ret1 (by unfold orI; rw [if_neg ha]), rfl⟩
    · by_cases hb : b = 0
      · have hq : (b != 0) = false := by simp [hb]
        have HB := Lib.hid hb; clear hb
        go_wp2_with fail
        go_round
        case rel => exact ⟨2, rfl, by omega, Lib.hid ⟨fun _ => hz.out.1 (by omega), fun _ => HB.out⟩⟩
        case measure => simp [intOf]
      · have hq : (b != 0) = true := by simp [hb]
        go_wp2_with fail
        go_ret
        exact ⟨ret1 (by unfold orI; rw [if_pos (hz.out.1 (by omega))]), rfl⟩
    · go_wp2_with fail
      go_ret
      exact ⟨ret1 (by unfold orI; rw [if_pos (hz.out.1 (by omega)), hz.out.2 (by omega)]), rfl⟩
theorem Or_new (a b : Int) (w : World) : Calls Try.prog 38 #[.slice (some ⟨w.heap.size, 0, none⟩) 2 2] (w.alloc (.cells #[.int .i64 a, .int .i64 b] 3)).drew fun e w' => e = .returned (.int .i64 (orI a b)) ∧ (w.alloc (.cells #[.int .i64 a, .int .i64 b] 3)).drew = w' := by
  have hh := (MapKept.heap_alloc w (.cells #[.int .i64 a, .int .i64 b] 3)).1
  exact Or w.heap.size a b _ (by
    show (w.alloc (.cells #[.int .i64 a, .int .i64 b] 3)).cell? _ = _
    simp only [World.cell?, hh]; simp) (by
    show (w.alloc (.cells #[.int .i64 a, .int .i64 b] 3)).cell? _ = _
    simp only [World.cell?, hh]; simp)
/-- a timer -/
structure TD where
  due : Int
  id : Int
  num : Int
def cmpT (x y : TD) : Int := orI (cmpI x.due y.due) (cmpI x.num y.num)
theorem before (p q : Nat) (x y : TD) (w : World) (h1 : w.cell? ⟨p, 0, none⟩ = some (.int .i64 x.due)) (h2 : w.cell? ⟨p, 2, none⟩ = some (.int .i64 x.num)) (h3 : w.cell? ⟨q, 0, none⟩ = some (.int .i64 y.due)) (h4 : w.cell? ⟨q, 2, none⟩ = some (.int .i64 y.num)) :
    Calls Try.prog 26 #[.pointer (some ⟨p, 0, none⟩), .pointer (some ⟨q, 0, none⟩)] w fun e w' => e = .returned (.int .i64 (cmpT x y)) ∧ Below w.heap.size w w' := by
  go_enter Try.func26, Try.ntmps26
  go_wp2_with fail
  go_region_held3 (fun w' => w'.cell? ⟨p, 0, none⟩ = some (.int .i64 x.due) ∧ w'.cell? ⟨p, 2, none⟩ = some (.int .i64 x.num) ∧ w'.cell? ⟨q, 0, none⟩ = some (.int .i64 y.due) ∧ w'.cell? ⟨q, 2, none⟩ = some (.int .i64 y.num)) (go_keep)
    (first
      | (go_at_call 39; refine (Compare _ _ _).mono ?_; rintro e w' ⟨rfl, rfl⟩)
      | (go_at_call 38; refine (Or_new _ _ _).mono ?_; rintro e w' ⟨rfl, rfl⟩))
  go_wp2_with fail
  go_ret
  exact ⟨rfl, ((Below.refl _ _).alloc (Nat.le_refl _) _).drew⟩
end Go.Proofs.Ytgkiknkifleofaa.tm
