/- Due, Take, Drop. Conditions: the wheel was made by New. -/
import Derived.Test.YtgkiknkifleofaaWalkL
namespace Go.Proofs.Ytgkiknkifleofaa.tm
open Go.RowKit mem TP
set_option linter.unusedVariables false
set_option linter.unusedSimpArgs false
set_option maxHeartbeats 1000000
set_option maxRecDepth 100000

def findT (A : List TD) (id : Int) : Option TD := A.find? (fun x => decide (x.id = id))
theorem findT_none {A : List TD} {id : Int} : findT A id = none ↔ id ∉ A.map (·.id) := by
  unfold findT; rw [List.find?_eq_none]
  simp
theorem findT_some {A : List TD} {id : Int} {x : TD} (h : findT A id = some x) : x ∈ A ∧ x.id = id := by
  unfold findT at h
  exact ⟨List.mem_of_find?_eq_some h, by simpa using List.find?_some h⟩
theorem zero56 (w : World) : (zeroValue 56).run Try.prog w = .ok (.pointer none) w := by kernel_rfl
theorem key2 : KeyKind Try.prog 2 (Value.int .i64) := int_key Try.underlying2
theorem DueM {b n : Nat} {A : List TD} {F : Nat → Prop} (w : World) (h : Wheel w b A n F) (id : Int) : Calls Try.prog 18 #[.pointer (some ⟨b, 0, none⟩), .int .i64 id] w fun e w' => e = .returned (.tuple #[.int .i64 (((findT A id).map (·.due)).getD 0), .bool (findT A id).isSome]) ∧ w = w' := by
  obtain ⟨m, p, c, Q, D, kvs, hW, hG, hF, hL⟩ := h
  obtain ⟨c0, c1, c2, _⟩ := hW.c0
  have hi := isM b m w c0
  have hl := run_lookup_ok key2 Try.underlying42 hW.map id (zero56 w)
  cases hf : findT A id with
  | none =>
    rw [(hW.miss (findT_none.1 hf)).1] at hl
    clear hW hG
    go_enter Try.func18, Try.ntmps18
    go_wp2_with fail
    refine hi.mono ?_
    rintro e w1 ⟨rfl, rfl⟩
    clear hi
    go_wp2_with fail
    go_ret2
    exact ⟨rfl, rfl⟩
  | some x =>
    obtain ⟨hx, rfl⟩ := findT_some hf
    obtain ⟨i, hi', hD, hfi, hm⟩ := hW.find hG hx
    rw [hfi] at hl
    have c3 : w.cell? ⟨Q[i], 0, none⟩ = some (.int .i64 x.due) := by
      rw [← hD]; simp [World.cell?, hW.que.tim i hi']
    unfold ptrV at hl
    generalize Q[i] = q at *
    clear hW hG hf hm hfi
    go_enter Try.func18, Try.ntmps18
    go_wp2_with fail
    refine hi.mono ?_
    rintro e w1 ⟨rfl, rfl⟩
    clear hi
    go_wp2_with fail
    go_ret2
    exact ⟨rfl, rfl⟩
end Go.Proofs.Ytgkiknkifleofaa.tm
