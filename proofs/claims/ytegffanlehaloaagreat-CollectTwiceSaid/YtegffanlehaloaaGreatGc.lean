/- Several texts in one, one behind the other: WordsB, WordsC, Mem, CoE. No condition beyond theirs. -/
import Derived.Test.YtegffanlehaloaaGreatGb
import Derived.Test.YtegffanlehaloaaGreatRows
import Derived.WalkKit
import Derived.Maps.Own
import Derived.Maps.OwnOps
import Derived.Deep.Draws
import Derived.Lib.Hide
import Derived.Deep.QuietTactic
import Derived.BigQuiet
import Derived.WalkSpells
import Derived.StillTailTactics
import Derived.Outline
import Derived.IntWalk
import Derived.OwnWalk
import Derived.Laws.OwnMore

/- The contracts of the readers of package words and of its specification. Conditions: the word is one of 64 bits. -/
namespace Go.Proofs.YtegffanlehaloaaGreat.words
open Go.RowKit
set_option linter.unusedVariables false
set_option linter.unusedSimpArgs false
set_option maxHeartbeats 400000

theorem ret1 {k : IntKind} {a b : Int} (h : a = b) : Ending.returned (.int k a) = .returned (.int k b) := by rw [h]
theorem ret1b {a b : Bool} (h : a = b) : Ending.returned (.bool a) = .returned (.bool b) := by rw [h]
theorem ret3 {b1 b2 c1 c2 : Bool} {x1 x2 : Int} (h1 : b1 = b2) (h2 : x1 = x2) (h3 : c1 = c2) :
    Ending.returned (.tuple #[.bool b1, .int .i64 x1, .bool c1]) = .returned (.tuple #[.bool b2, .int .i64 x2, .bool c2]) := by rw [h1, h2, h3]
theorem ret3i {c1 c2 : Bool} {x1 x2 y1 y2 : Int} (h1 : y1 = y2) (h2 : x1 = x2) (h3 : c1 = c2) :
    Ending.returned (.tuple #[.int .i64 y1, .int .i64 x1, .bool c1]) = .returned (.tuple #[.int .i64 y2, .int .i64 x2, .bool c2]) := by rw [h1, h2, h3]

theorem ret2i {b1 b2 : Bool} {x1 x2 : Int} (h1 : x1 = x2) (h2 : b1 = b2) :
    Ending.returned (.tuple #[.int .i64 x1, .bool b1]) = .returned (.tuple #[.int .i64 x2, .bool b2]) := by rw [h1, h2]
section
variable (x : Int) (h0 : 0 ≤ x) (h1 : x ≤ 18446744073709551615) (w : World)
include h0 h1

theorem Tag : Calls Tryz.prog 44 #[.int .u64 x] w fun e w' => e = .returned (.int .i64 (x % 4)) ∧ w = w' := by
  have H3 := Lib.hid (and3 x h0 h1)
  go_enter Tryz.func44, Tryz.ntmps44
  go_wp2
  go_ret
  exact ⟨ret1 (by rw [H3.out]; first | done | (rw [IntKind.wrap_i64]; omega) | (unfold wrap64; omega)), rfl⟩
theorem RTag : Calls Tryz.prog 51 #[.int .u64 x] w fun e w' => e = .returned (.int .i64 (x % 4)) ∧ w = w' := by
  go_enter Tryz.func51, Tryz.ntmps51
  go_wp2
  go_ret
  exact ⟨rfl, rfl⟩
theorem Low : Calls Tryz.prog 87 #[.int .u64 x] w fun e w' => e = .returned (.int .i64 (x % 16)) ∧ w = w' := by
  have H3 := Lib.hid (and15 x h0 h1)
  go_enter Tryz.func87, Tryz.ntmps87
  go_wp2
  go_ret
  exact ⟨ret1 (by rw [H3.out]; first | done | (rw [IntKind.wrap_i64]; omega) | (unfold wrap64; omega)), rfl⟩

theorem SmallOf : Calls Tryz.prog 63 #[.int .u64 x] w fun e w' => e = .returned (.tuple #[.int .i64 (soN x), .bool (soOk x)]) ∧ w = w' := by
  by_cases a : x % 16 = 3
  · have A := Lib.hid a
    have bb : (x % 16 != 3) = false := by simp [a]
    clear a
    go_enter Tryz.func63, Tryz.ntmps63
    go_wp2_with (go_at_call 87; refine (Low _ (by omega) (by omega) _).mono ?_; rintro e w' ⟨rfl, rfl⟩)
    go_ret2
    have a := A.out
    refine ⟨ret2i ?_ (by simp [soOk, a]), rfl⟩
    unfold soN soOk wrap64
    rw [if_pos (by simp [a])]
    split <;> omega
  · have bb : (x % 16 != 3) = true := by simp [a]
    go_enter Tryz.func63, Tryz.ntmps63
    go_wp2_with (go_at_call 87; refine (Low _ (by omega) (by omega) _).mono ?_; rintro e w' ⟨rfl, rfl⟩)
    go_ret2
    exact ⟨ret2i (by simp [soN, soOk, a]) (by simp [soOk, a]), rfl⟩
theorem RSmallOf : Calls Tryz.prog 36 #[.int .u64 x] w fun e w' => e = .returned (.tuple #[.int .i64 (soN x), .bool (soOk x)]) ∧ w = w' := by
  by_cases a : x % 16 = 3
  · have A := Lib.hid a
    have bb : (x % 16 != 3) = false := by simp [a]
    clear a
    by_cases c : 576460752303423488 ≤ x / 16
    all_goals
      go_enter Tryz.func36, Tryz.ntmps36
      go_wp2
      go_ret2
      have a := A.out
      refine ⟨ret2i ?_ (by simp [soOk, a]), rfl⟩
      unfold soN soOk
      rw [if_pos (by simp [a])]
    · rw [if_pos c]; omega
    · rw [if_neg (by omega)]
  · have bb : (x % 16 != 3) = true := by simp [a]
    go_enter Tryz.func36, Tryz.ntmps36
    go_wp2
    go_ret2
    exact ⟨ret2i (by simp [soN, soOk, a]) (by simp [soOk, a]), rfl⟩
theorem AtomOf : Calls Tryz.prog 64 #[.int .u64 x] w fun e w' => e = .returned (.tuple #[.int .i64 (aoN x), .bool (aoOk x)]) ∧ w = w' := by
  by_cases a : x % 16 = 7
  · have A := Lib.hid a
    have bb : (x % 16 != 7) = false := by simp [a]
    clear a
    by_cases c : 2147483647 < x / 16
    all_goals
      go_enter Tryz.func64, Tryz.ntmps64
      go_wp2_with (go_at_call 87; refine (Low _ (by omega) (by omega) _).mono ?_; rintro e w' ⟨rfl, rfl⟩)
      go_ret2
      have a := A.out
    · exact ⟨ret2i (by unfold aoN aoOk; rw [if_neg (by simp; omega)]) (by unfold aoOk; simp; omega), rfl⟩
    · exact ⟨ret2i (by unfold aoN aoOk; rw [if_pos (by simp; omega)]) (by unfold aoOk; simp; omega), rfl⟩
  · have bb : (x % 16 != 7) = true := by simp [a]
    go_enter Tryz.func64, Tryz.ntmps64
    go_wp2_with (go_at_call 87; refine (Low _ (by omega) (by omega) _).mono ?_; rintro e w' ⟨rfl, rfl⟩)
    go_ret2
    exact ⟨ret2i (by simp [aoN, aoOk, a]) (by simp [aoOk, a]), rfl⟩
theorem RAtomOf : Calls Tryz.prog 37 #[.int .u64 x] w fun e w' => e = .returned (.tuple #[.int .i64 (aoN x), .bool (aoOk x)]) ∧ w = w' := by
  by_cases a : x % 16 = 7
  · have A := Lib.hid a
    have bb : (x % 16 != 7) = false := by simp [a]
    clear a
    by_cases c : 2147483648 ≤ x / 16
    all_goals
      go_enter Tryz.func37, Tryz.ntmps37
      go_wp2
      go_ret2
      have a := A.out
    · exact ⟨ret2i (by unfold aoN aoOk; rw [if_neg (by simp; omega)]) (by unfold aoOk; simp; omega), rfl⟩
    · exact ⟨ret2i (by unfold aoN aoOk; rw [if_pos (by simp; omega)]) (by unfold aoOk; simp; omega), rfl⟩
  · have bb : (x % 16 != 7) = true := by simp [a]
    go_enter Tryz.func37, Tryz.ntmps37
    go_wp2
    go_ret2
    exact ⟨ret2i (by simp [aoN, aoOk, a]) (by simp [aoOk, a]), rfl⟩

theorem Pointer : Calls Tryz.prog 22 #[.int .u64 x] w fun e w' => e = .returned (.tuple #[.bool (pOld x), .int .i64 (pIx x), .bool (pOk x)]) ∧ w = w' := by
  have H4 := Lib.hid (and4 x h0 h1)
  by_cases a : x % 4 = 1 ∨ x % 4 = 2
  · by_cases c : x / 8 ≤ 2147483647
    · have A := Lib.hid a
      have B : ((x % 4 != 1) = true ∧ (x % 4 != 2) = false) ∨ (x % 4 != 1) = false := by rcases a with a | a <;> simp [a]
      clear a
      rcases B with ⟨b1, b2⟩ | b1
      all_goals
        go_enter Tryz.func22, Tryz.ntmps22
        go_wp2_with (go_at_call 44; refine (Tag _ (by omega) (by omega) _).mono ?_; rintro e w' ⟨rfl, rfl⟩)
        go_ret3
        have a := A.out
        have hp : pOk x = true := by unfold pOk; simp; omega
        refine ⟨ret3 ?_ (by unfold pIx; rw [if_pos hp]) hp.symm, rfl⟩
        rw [H4.out]; unfold pOld; rw [hp]
        have : x / 4 % 2 = 0 ∨ x / 4 % 2 = 1 := by omega
        rcases this with h | h <;> simp [h]
    · have A := Lib.hid a
      have B : ((x % 4 != 1) = true ∧ (x % 4 != 2) = false) ∨ (x % 4 != 1) = false := by rcases a with a | a <;> simp [a]
      clear a
      rcases B with ⟨b1, b2⟩ | b1
      all_goals
        go_enter Tryz.func22, Tryz.ntmps22
        go_wp2_with (go_at_call 44; refine (Tag _ (by omega) (by omega) _).mono ?_; rintro e w' ⟨rfl, rfl⟩)
        go_ret3
        have hp : pOk x = false := by unfold pOk; simp; omega
        exact ⟨ret3 (by unfold pOld; rw [hp]; rfl) (by unfold pIx; rw [hp]; rfl) hp.symm, rfl⟩
  · have b1 : (x % 4 != 1) = true := by simp; omega
    have b2 : (x % 4 != 2) = true := by simp; omega
    have A := Lib.hid a
    clear a
    go_enter Tryz.func22, Tryz.ntmps22
    go_wp2_with (go_at_call 44; refine (Tag _ (by omega) (by omega) _).mono ?_; rintro e w' ⟨rfl, rfl⟩)
    go_ret3
    have a := A.out
    have hp : pOk x = false := by unfold pOk; simp; omega
    exact ⟨ret3 (by unfold pOld; rw [hp]; rfl) (by unfold pIx; rw [hp]; rfl) hp.symm, rfl⟩
theorem RPointer : Calls Tryz.prog 57 #[.int .u64 x] w fun e w' => e = .returned (.tuple #[.bool (pOld x), .int .i64 (pIx x), .bool (pOk x)]) ∧ w = w' := by
  by_cases a : x % 4 = 1 ∨ x % 4 = 2
  · by_cases c : x / 8 < 2147483648
    · have A := Lib.hid a
      have B : ((x % 4 != 1) = true ∧ (x % 4 != 2) = false) ∨ (x % 4 != 1) = false := by rcases a with a | a <;> simp [a]
      clear a
      rcases B with ⟨b1, b2⟩ | b1
      all_goals
        go_enter Tryz.func57, Tryz.ntmps57
        go_wp2
        go_ret3
        have a := A.out
        have hp : pOk x = true := by unfold pOk; simp; omega
        refine ⟨ret3 ?_ (by unfold pIx; rw [if_pos hp]) hp.symm, rfl⟩
        unfold pOld; rw [hp]
        have : x / 4 % 2 = 0 ∨ x / 4 % 2 = 1 := by omega
        rcases this with h | h <;> simp [h]
    · have A := Lib.hid a
      have B : ((x % 4 != 1) = true ∧ (x % 4 != 2) = false) ∨ (x % 4 != 1) = false := by rcases a with a | a <;> simp [a]
      clear a
      rcases B with ⟨b1, b2⟩ | b1
      all_goals
        go_enter Tryz.func57, Tryz.ntmps57
        go_wp2
        go_ret3
        have hp : pOk x = false := by unfold pOk; simp; omega
        exact ⟨ret3 (by unfold pOld; rw [hp]; rfl) (by unfold pIx; rw [hp]; rfl) hp.symm, rfl⟩
  · have b1 : (x % 4 != 1) = true := by simp; omega
    have b2 : (x % 4 != 2) = true := by simp; omega
    have A := Lib.hid a
    clear a
    go_enter Tryz.func57, Tryz.ntmps57
    go_wp2
    go_ret3
    have a := A.out
    have hp : pOk x = false := by unfold pOk; simp; omega
    exact ⟨ret3 (by unfold pOld; rw [hp]; rfl) (by unfold pIx; rw [hp]; rfl) hp.symm, rfl⟩

theorem HeaderOf : Calls Tryz.prog 48 #[.int .u64 x] w fun e w' => e = .returned (.tuple #[.int .i64 (hoK x), .int .i64 (hoN x), .bool (hoOk x)]) ∧ w = w' := by
  have H4 : bits .and .u64 (x / 4) 15 = x / 4 % 16 := and15 (x / 4) (by omega) (by omega)
  have G : ∀ b : Bool, (decide (x % 4 = 0) = b) → hoOk x = (b && decide (1 ≤ x / 4 % 16) && decide (x / 4 % 16 ≤ 8) && decide (x / 64 ≤ 65535)) := by
    intro b hb; rw [← hb]; unfold hoOk; rw [Bool.eq_iff_iff]; simp [and_assoc]
  have HG := Lib.hid G; clear G
  have hb1 : 0 ≤ x / 4 % 16 := by omega
  have hb2 : x / 4 % 16 < 16 := by omega
  have fin : ∀ a b c, hoOk x = false → Ending.returned (.tuple #[.int .i64 0, .int .i64 0, .bool false]) = .returned (.tuple #[.int .i64 (hoK x), .int .i64 (hoN x), .bool (hoOk x)]) ∧ (a : Nat) = a ∧ (b : Nat) = b ∧ (c : Nat) = c := by
    intro a b c h; exact ⟨ret3i (by unfold hoK; rw [h]; rfl) (by unfold hoN; rw [h]; rfl) h.symm, rfl, rfl, rfl⟩
  have HF := Lib.hid fin; clear fin
  by_cases a : x % 4 = 0
  · have A := Lib.hid a
    have bb : (x % 4 != 0) = false := by simp [a]
    clear a
    by_cases b : x / 4 % 16 < 1
    · go_enter Tryz.func48, Tryz.ntmps48
      go_wp2_with (go_at_call 44; refine (Tag _ (by omega) (by omega) _).mono ?_; rintro e w' ⟨rfl, rfl⟩)
      go_ret3
      exact ⟨(HF.out 0 0 0 (by unfold hoOk; simp; omega)).1, rfl⟩
    by_cases c : 8 < x / 4 % 16
    · go_enter Tryz.func48, Tryz.ntmps48
      go_wp2_with (go_at_call 44; refine (Tag _ (by omega) (by omega) _).mono ?_; rintro e w' ⟨rfl, rfl⟩)
      go_ret3
      exact ⟨(HF.out 0 0 0 (by unfold hoOk; simp; omega)).1, rfl⟩
    by_cases d : 65535 < x / 64
    · go_enter Tryz.func48, Tryz.ntmps48
      go_wp2_with (go_at_call 44; refine (Tag _ (by omega) (by omega) _).mono ?_; rintro e w' ⟨rfl, rfl⟩)
      go_ret3
      exact ⟨(HF.out 0 0 0 (by unfold hoOk; simp; omega)).1, rfl⟩
    go_enter Tryz.func48, Tryz.ntmps48
    go_wp2_with (go_at_call 44; refine (Tag _ (by omega) (by omega) _).mono ?_; rintro e w' ⟨rfl, rfl⟩)
    go_ret3
    have a := A.out
    have hp : hoOk x = true := by unfold hoOk; simp; omega
    exact ⟨ret3i (by unfold hoK; rw [if_pos hp]) (by unfold hoN; rw [if_pos hp]) hp.symm, rfl⟩
  · have bb : (x % 4 != 0) = true := by simp [a]
    go_enter Tryz.func48, Tryz.ntmps48
    go_wp2_with (go_at_call 44; refine (Tag _ (by omega) (by omega) _).mono ?_; rintro e w' ⟨rfl, rfl⟩)
    go_ret3
    exact ⟨(HF.out 0 0 0 (by unfold hoOk; simp; omega)).1, rfl⟩
theorem RHeaderOf : Calls Tryz.prog 59 #[.int .u64 x] w fun e w' => e = .returned (.tuple #[.int .i64 (hoK x), .int .i64 (hoN x), .bool (hoOk x)]) ∧ w = w' := by
  have hb1 : 0 ≤ x / 4 % 16 := by omega
  have hb2 : x / 4 % 16 < 16 := by omega
  have fin : ∀ a b c, hoOk x = false → Ending.returned (.tuple #[.int .i64 0, .int .i64 0, .bool false]) = .returned (.tuple #[.int .i64 (hoK x), .int .i64 (hoN x), .bool (hoOk x)]) ∧ (a : Nat) = a ∧ (b : Nat) = b ∧ (c : Nat) = c := by
    intro a b c h; exact ⟨ret3i (by unfold hoK; rw [h]; rfl) (by unfold hoN; rw [h]; rfl) h.symm, rfl, rfl, rfl⟩
  have HF := Lib.hid fin; clear fin
  by_cases a : x % 4 = 0
  · have A := Lib.hid a
    have bb : (x % 4 != 0) = false := by simp [a]
    clear a
    by_cases b : x / 4 % 16 < 1
    · go_enter Tryz.func59, Tryz.ntmps59
      go_wp2
      go_ret3
      exact ⟨(HF.out 0 0 0 (by unfold hoOk; simp; omega)).1, rfl⟩
    by_cases c : 8 < x / 4 % 16
    · go_enter Tryz.func59, Tryz.ntmps59
      go_wp2
      go_ret3
      exact ⟨(HF.out 0 0 0 (by unfold hoOk; simp; omega)).1, rfl⟩
    by_cases d : 65535 < x / 64
    · go_enter Tryz.func59, Tryz.ntmps59
      go_wp2
      go_ret3
      exact ⟨(HF.out 0 0 0 (by unfold hoOk; simp; omega)).1, rfl⟩
    go_enter Tryz.func59, Tryz.ntmps59
    go_wp2
    go_ret3
    have a := A.out
    have hp : hoOk x = true := by unfold hoOk; simp; omega
    exact ⟨ret3i (by unfold hoK; rw [if_pos hp]) (by unfold hoN; rw [if_pos hp]) hp.symm, rfl⟩
  · have bb : (x % 4 != 0) = true := by simp [a]
    go_enter Tryz.func59, Tryz.ntmps59
    go_wp2
    go_ret3
    exact ⟨(HF.out 0 0 0 (by unfold hoOk; simp; omega)).1, rfl⟩
end
end Go.Proofs.YtegffanlehaloaaGreat.words

/- Valid, and the walks of the laws about words: each returns true. Conditions: each number fits its kind. -/
namespace Go.Proofs.YtegffanlehaloaaGreat.words
open Go.RowKit
set_option linter.unusedVariables false
set_option linter.unusedSimpArgs false
set_option maxHeartbeats 400000

section
variable (x : Int) (h0 : 0 ≤ x) (h1 : x ≤ 18446744073709551615) (w : World)
include h0 h1
theorem Valid : Calls Tryz.prog 45 #[.int .u64 x] w fun e w' => e = .returned (.bool (vOk x)) ∧ w = w' := by
  have HV : Hid (vOk x = (soOk x || aoOk x || pOk x || hoOk x || decide (x = 11))) := Lib.hid rfl
  by_cases a : x = 11
  all_goals cases a1 : soOk x
  all_goals cases a2 : aoOk x
  all_goals cases a3 : pOk x
  all_goals cases a4 : hoOk x
  all_goals
    go_enter Tryz.func45, Tryz.ntmps45
    go_wp2_with (first
      | (go_at_call 62; refine (Nil _).mono ?_; rintro e w' ⟨rfl, rfl⟩)
      | (go_at_call 63; refine (SmallOf _ (by omega) (by omega) _).mono ?_; rintro e w' ⟨rfl, rfl⟩)
      | (go_at_call 64; refine (AtomOf _ (by omega) (by omega) _).mono ?_; rintro e w' ⟨rfl, rfl⟩)
      | (go_at_call 22; refine (Pointer _ (by omega) (by omega) _).mono ?_; rintro e w' ⟨rfl, rfl⟩)
      | (go_at_call 48; refine (HeaderOf _ (by omega) (by omega) _).mono ?_; rintro e w' ⟨rfl, rfl⟩))
    go_ret
    refine ⟨ret1b ?_, rfl⟩
    rw [HV.out]
    simp_all
end
end Go.Proofs.YtegffanlehaloaaGreat.words

/- Memory that a call owns: what a step touches (TouchB), and maps as lists of entries (MapIs), over any program. No condition. -/
namespace Go.Proofs.YtegffanlehaloaaGreat.mem
open Go.RowKit
set_option linter.unusedVariables false
set_option linter.unusedSimpArgs false
set_option linter.unusedSectionVars false

/-- what lay in memory is as it was, but for the blocks of S -/
structure TouchB (S : Nat → Prop) (w w' : World) : Prop where
  os : w'.os = w.os
  tape : w'.tape = w.tape
  output : w'.output = w.output
  size : w.heap.size ≤ w'.heap.size
  block : ∀ k, k < w.heap.size → ¬ S k → w'.heap[k]? = w.heap[k]?

theorem TouchB.refl (S : Nat → Prop) (w : World) : TouchB S w w := ⟨rfl, rfl, rfl, Nat.le_refl _, fun _ _ _ => rfl⟩
theorem TouchB.trans {S : Nat → Prop} {a b c : World} (h : TouchB S a b) {S' : Nat → Prop} (k : TouchB S' b c) (hs : ∀ i, i < a.heap.size → S' i → S i) : TouchB S a c :=
  ⟨k.os.trans h.os, k.tape.trans h.tape, k.output.trans h.output, Nat.le_trans h.size k.size, fun i hi hn => (k.block i (Nat.lt_of_lt_of_le hi h.size) (fun e => hn (hs i hi e))).trans (h.block i hi hn)⟩
theorem TouchB.mono {S S' : Nat → Prop} {a b : World} (h : TouchB S a b) (hs : ∀ i, i < a.heap.size → S i → S' i) : TouchB S' a b :=
  ⟨h.os, h.tape, h.output, h.size, fun i hi hn => h.block i hi (fun e => hn (hs i hi e))⟩
theorem TouchB.alloc {S : Nat → Prop} {a b : World} (h : TouchB S a b) (o : Obj) : TouchB S a (b.alloc o) :=
  h.trans (S' := fun _ => False) ⟨rfl, rfl, rfl, by simp, fun k hk _ => Below.heap_alloc _ _ _ hk⟩ (fun _ _ f => f.elim)
theorem TouchB.drew {S : Nat → Prop} {a b : World} (h : TouchB S a b) : TouchB S a b.drew := ⟨h.os, h.tape, h.output, h.size, h.block⟩
theorem TouchB.drewN {S : Nat → Prop} {a b : World} (h : TouchB S a b) (n : Nat) : TouchB S a (b.drewN n) := ⟨h.os, h.tape, h.output, h.size, h.block⟩
theorem TouchB.setCell {S : Nat → Prop} {a b : World} (h : TouchB S a b) (p : Addr) (u : Value) (hp : p.block < a.heap.size → S p.block) : TouchB S a (b.setCell p u) :=
  h.trans (S' := fun k => k = p.block) ⟨rfl, rfl, rfl, by simp, fun k _ hn => Below.heap_setCell _ _ _ _ hn⟩ (fun i hi e => by subst e; exact hp hi)
theorem TouchB.grown {S : Nat → Prop} {a b c : World} (h : TouchB S a b) {row : Option Nat} (hg : b.grownBy c row) (hr : ∀ k, row = some k → k < a.heap.size → S k) : TouchB S a c :=
  h.trans (S' := fun k => row = some k) ⟨hg.os, hg.tape, hg.output, hg.size, fun k hk hn => hg.block k hk (fun e => hn e.symm)⟩ (fun i hi e => hr i e hi)
theorem TouchB.below {S : Nat → Prop} {a b : World} (h : TouchB S a b) {B : Nat} (hS : ∀ k, S k → B ≤ k) (hB : B ≤ a.heap.size) : Below B a b :=
  ⟨h.os, h.tape, h.output, h.size, fun k hk => h.block k (by omega) (fun e => by have := hS k e; omega)⟩
theorem TouchB.ofBelow {S : Nat → Prop} {a b c : World} (h : TouchB S a b) {B : Nat} (hb : Below B b c) (hB : a.heap.size ≤ B) : TouchB S a c :=
  h.trans (S' := fun k => B ≤ k) ⟨hb.os, hb.tape, hb.output, hb.size, fun k hk hn => hb.block k (by omega)⟩ (fun i hi e => absurd hi (by omega))
theorem TouchB.cell {S : Nat → Prop} {a b : World} (h : TouchB S a b) {p : Addr} (hp : p.block < a.heap.size) (hn : ¬ S p.block) : b.cell? p = a.cell? p :=
  World.cell?_of_block (w := a) (h.block p.block hp hn)
theorem TouchB.frozen {S : Nat → Prop} {a b : World} (h : TouchB S a b) {p : Addr} (hp : p.block < a.heap.size) (hn : ¬ S p.block) : b.frozen? p = a.frozen? p :=
  World.frozen?_of_block (w := a) (h.block p.block hp hn)

/-- a row that the call owns, in a world that has not touched it -/
theorem row_same {w w' : World} {base : Nat} {e : TypeId} {size : Nat} {v : Value} {n : Nat} {xs : List Value} (h : w.ownsRow base e size v n xs) (hk : ∀ k, v.ownBlock = some k → w'.heap[k]? = w.heap[k]?) :
    w'.ownsRow base e size v n xs := by
  obtain ⟨hl, h | ⟨g, cap, cur, rfl, hb, hh, r⟩⟩ := h
  · exact ⟨hl, .inl h⟩
  · exact ⟨hl, .inr ⟨g, cap, cur, rfl, hb, by rw [hk g rfl]; exact hh, r⟩⟩
theorem row_base {w : World} {base base' : Nat} {e : TypeId} {size : Nat} {v : Value} {n : Nat} {xs : List Value} (h : w.ownsRow base e size v n xs) (hb : ∀ k, v.ownBlock = some k → base' ≤ k) :
    w.ownsRow base' e size v n xs := by
  obtain ⟨hl, h | ⟨g, cap, cur, rfl, hb', r⟩⟩ := h
  · exact ⟨hl, .inl h⟩
  · exact ⟨hl, .inr ⟨g, cap, cur, rfl, hb g rfl, r⟩⟩

/-! ### maps -/
section
variable {κ : Type} [DecidableEq κ]

/-- block m is a map whose entries are kvs, in this order -/
def MapIs (toV : κ → Value) (w : World) (m : Nat) (kvs : List (κ × Value)) : Prop :=
  ∃ es clock, w.heap[m]? = some (.map es clock) ∧ es.toList.map (fun e => (e.key, e.val)) = kvs.map (fun p => (toV p.1, p.2))

theorem MapIs.lt {toV : κ → Value} {w : World} {m : Nat} {kvs : List (κ × Value)} (h : MapIs toV w m kvs) : m < w.heap.size := by
  obtain ⟨es, clock, hh, _⟩ := h
  exact (Array.getElem?_eq_some_iff.1 hh).1
theorem MapIs.same {toV : κ → Value} {w w' : World} {m : Nat} {kvs : List (κ × Value)} (h : MapIs toV w m kvs) (hs : w'.heap[m]? = w.heap[m]?) : MapIs toV w' m kvs := by
  obtain ⟨es, clock, hh, r⟩ := h
  exact ⟨es, clock, hs.trans hh, r⟩
theorem MapIs.made (toV : κ → Value) (w : World) : MapIs toV (w.alloc (.map #[] 0)) w.heap.size [] :=
  ⟨#[], 0, (MapKept.heap_alloc w _).1, rfl⟩

/-- a key's type, and how its values are told apart -/
structure KeyKind (P : Program) (kt : TypeId) (toV : κ → Value) : Prop where
  kind : ∃ d, P.underlying kt = some d ∧ (d = .string ∨ (∃ k, d = .int k) ∨ d = .bool) ∧ ∀ a b, Instr.sameNow d (toV a) (toV b) = some (decide (a = b))
  bits : ∀ a, Instr.sameBits 10000 (toV a) (toV a) = true

theorem findNow_eq {d : TypeDesc} {toV : κ → Value} (hd : ∀ a b, Instr.sameNow d (toV a) (toV b) = some (decide (a = b))) (k : κ) :
    ∀ (es : List MapEntry) (kvs : List (κ × Value)) (i : Nat), es.map (fun e => (e.key, e.val)) = kvs.map (fun p => (toV p.1, p.2)) →
    Instr.findNow d (toV k) es i = some ((kvs.findIdx? (fun p => decide (k = p.1))).map (fun j => (i + j, ((kvs[j]?).map (·.2)).getD undef))) := by
  intro es
  induction es with
  | nil =>
    intro kvs i h
    cases kvs with
    | nil => rfl
    | cons _ _ => simp at h
  | cons e es ih =>
    intro kvs i h
    cases kvs with
    | nil => simp at h
    | cons p kvs =>
      simp only [List.map_cons, List.cons.injEq, Prod.mk.injEq] at h
      obtain ⟨⟨h1, h2⟩, h3⟩ := h
      simp only [Instr.findNow, h1, hd]
      by_cases hk : k = p.1
      · simp [hk, List.findIdx?_cons, h2]
      · simp only [hk, decide_false]
        rw [ih kvs (i + 1) h3, List.findIdx?_cons]
        simp [hk]
        cases List.findIdx? (fun p => decide (k = p.1)) kvs <;> simp; omega

def alFind (kvs : List (κ × Value)) (k : κ) : Option Value := (kvs.find? (fun p => decide (k = p.1))).map (·.2)
def alIdx (kvs : List (κ × Value)) (k : κ) : Option Nat := kvs.findIdx? (fun p => decide (k = p.1))
def alPut (kvs : List (κ × Value)) (k : κ) (v : Value) : List (κ × Value) :=
  match alIdx kvs k with
  | some i => kvs.modify i (fun p => (p.1, v))
  | none => kvs ++ [(k, v)]
def alDel (kvs : List (κ × Value)) (k : κ) : List (κ × Value) :=
  match alIdx kvs k with
  | some i => kvs.eraseIdx i
  | none => kvs

theorem alFind_idx (kvs : List (κ × Value)) (k : κ) : (alIdx kvs k).map (fun j => ((kvs[j]?).map (·.2)).getD undef) = alFind kvs k := by
  unfold alIdx alFind
  induction kvs with
  | nil => rfl
  | cons p kvs ih =>
    rw [List.findIdx?_cons, List.find?_cons]
    by_cases hk : k = p.1
    · simp [hk]
    · simp only [hk, decide_false, Bool.false_eq_true, if_false]
      rw [← ih]
      cases List.findIdx? (fun p => decide (k = p.1)) kvs <;> simp

theorem run_checkKey {P : Program} {kt : TypeId} {d : TypeDesc} (h : P.underlying kt = some d) (hd : d = .string ∨ (∃ k, d = .int k) ∨ d = .bool) (b : Bool) (v : Value) (w : World) :
    (Instr.checkKey b 10000 kt v).run P w = .ok () w := by
  have g : ∀ n, (Instr.checkKey b (n + 1) kt v).run P w = .ok () w := by
    intro n
    rcases hd with rfl | ⟨k, rfl⟩ | rfl
    all_goals simp [Instr.checkKey, run_underlying h]
  exact g 9999

theorem run_findKey {P : Program} {kt : TypeId} {toV : κ → Value} (K : KeyKind P kt toV) (k : κ) (es : List MapEntry) (kvs : List (κ × Value)) (h : es.map (fun e => (e.key, e.val)) = kvs.map (fun p => (toV p.1, p.2))) (w : World) :
    (Instr.findKey kt (toV k) es).run P w = .ok ((alIdx kvs k).map (fun j => (j, ((kvs[j]?).map (·.2)).getD undef))) w := by
  obtain ⟨d, hd, hdd, hs⟩ := K.kind
  simp [Instr.findKey, run_underlying hd, findNow_eq hs k es kvs 0 h, alIdx]

theorem run_lookup_ok {P : Program} {t kt et : TypeId} {toV : κ → Value} (K : KeyKind P kt toV) (ht : P.underlying t = some (.map kt et)) {w : World} {m : Nat} {kvs : List (κ × Value)} (hm : MapIs toV w m kvs) (k : κ)
    {z : Value} (hz : (zeroValue et).run P w = .ok z w) :
    (Instr.lookup t (.map (some m)) (toV k) true).run P w = .ok (.tuple #[(alFind kvs k).getD z, .bool (alFind kvs k).isSome]) w := by
  obtain ⟨es, clock, hh, he⟩ := hm
  obtain ⟨d, hd, hdd, hs⟩ := K.kind
  have hf := run_findKey K k es.toList kvs he w
  have hc := run_checkKey hd hdd es.isEmpty (toV k) w
  have hi := alFind_idx kvs k
  simp [Instr.lookup, run_underlying ht, getObj, Sem.run, hh, hc, hf, Result.andThen]
  cases hx : alIdx kvs k with
  | none => rw [hx] at hi; simp [← hi, hz, Result.andThen]
  | some j => rw [hx] at hi; simp [← hi]
theorem run_lookup {P : Program} {t kt et : TypeId} {toV : κ → Value} (K : KeyKind P kt toV) (ht : P.underlying t = some (.map kt et)) {w : World} {m : Nat} {kvs : List (κ × Value)} (hm : MapIs toV w m kvs) (k : κ)
    {z : Value} (hz : (zeroValue et).run P w = .ok z w) :
    (Instr.lookup t (.map (some m)) (toV k) false).run P w = .ok ((alFind kvs k).getD z) w := by
  obtain ⟨es, clock, hh, he⟩ := hm
  obtain ⟨d, hd, hdd, hs⟩ := K.kind
  have hf := run_findKey K k es.toList kvs he w
  have hc := run_checkKey hd hdd es.isEmpty (toV k) w
  have hi := alFind_idx kvs k
  simp [Instr.lookup, run_underlying ht, getObj, Sem.run, hh, hc, hf, Result.andThen]
  cases hx : alIdx kvs k with
  | none => rw [hx] at hi; simp [← hi, hz, Result.andThen]
  | some j => rw [hx] at hi; simp [← hi]

theorem alIdx_lt {kvs : List (κ × Value)} {k : κ} {j : Nat} (h : alIdx kvs k = some j) : ∃ v, kvs[j]? = some (k, v) := by
  unfold alIdx at h
  rw [List.findIdx?_eq_some_iff_getElem] at h
  obtain ⟨hl, hk, _⟩ := h
  refine ⟨kvs[j].2, ?_⟩
  rw [List.getElem?_eq_getElem hl]
  have := of_decide_eq_true hk
  rw [this]

theorem map_modify_entries (toV : κ → Value) (es : List MapEntry) (kvs : List (κ × Value)) (h : es.map (fun e => (e.key, e.val)) = kvs.map (fun p => (toV p.1, p.2))) (j : Nat) (k : κ) (v v0 : Value) (hj : kvs[j]? = some (k, v0)) :
    (es.modify j (fun e => { e with key := toV k, val := v })).map (fun e => (e.key, e.val)) = (kvs.modify j (fun p => (p.1, v))).map (fun p => (toV p.1, p.2)) := by
  induction kvs generalizing es j with
  | nil => simp at hj
  | cons p kvs ih =>
    cases es with
    | nil => simp at h
    | cons e es =>
      simp only [List.map_cons, List.cons.injEq] at h
      cases j with
      | zero =>
        simp only [List.getElem?_cons_zero, Option.some.injEq] at hj
        subst hj
        simp [List.modify_zero_cons, h.2]
      | succ j =>
        simp only [List.getElem?_cons_succ] at hj
        simp only [List.modify_succ_cons, List.map_cons, h.1, ih es h.2 j hj]

theorem set_touch (w : World) (m : Nat) (o : Obj) : TouchB (fun k => k = m) w { w with heap := w.heap.setIfInBounds m o } :=
  ⟨rfl, rfl, rfl, by simp, fun k hk hn => by
    show (w.heap.setIfInBounds m o)[k]? = _
    rw [Array.getElem?_setIfInBounds_ne (fun e => hn e.symm)]⟩
theorem set_heap (w : World) (m : Nat) (o : Obj) (h : m < w.heap.size) : ({ w with heap := w.heap.setIfInBounds m o } : World).heap[m]? = some o := by
  show (w.heap.setIfInBounds m o)[m]? = _
  rw [Array.getElem?_setIfInBounds_self_of_lt h]

theorem run_mapUpdate {P : Program} {t kt et : TypeId} {toV : κ → Value} (K : KeyKind P kt toV) (ht : P.underlying t = some (.map kt et)) {w : World} {m : Nat} {kvs : List (κ × Value)} (hm : MapIs toV w m kvs) (k : κ) (v : Value) :
    ∃ w', (Instr.mapUpdate t (.map (some m)) (toV k) v).run P w = .ok () w' ∧ MapIs toV w' m (alPut kvs k v) ∧ TouchB (fun i => i = m) w w' ∧ w'.heap.size = w.heap.size := by
  have hlt := hm.lt
  obtain ⟨es, clock, hh, he⟩ := hm
  obtain ⟨d, hd, hdd, hs⟩ := K.kind
  have hf := run_findKey K k es.toList kvs he w
  have hc := run_checkKey hd hdd false (toV k) w
  cases hx : alIdx kvs k with
  | none =>
    rw [hx] at hf
    refine ⟨{ w with heap := w.heap.setIfInBounds m (.map (es.push { key := toV k, val := v, born := clock }) (clock + 1)) }, ?_, ?_, set_touch w m _, by simp⟩
    · simp [Instr.mapUpdate, run_underlying ht, getObj, setObj, Sem.run, hh, hc, hf, Result.andThen]
    · refine ⟨_, _, set_heap w m _ hlt, ?_⟩
      simp [alPut, hx, he]
  | some j =>
    rw [hx] at hf
    obtain ⟨v0, hj⟩ := alIdx_lt hx
    have hek : es[j]?.map (fun e => (e.key, e.val)) = some (toV k, v0) := by
      have h1 := congrArg (fun l => l[j]?) he
      simp only [List.getElem?_map, Array.getElem?_toList, hj, Option.map_some] at h1
      exact h1
    have hek' : (es[j]?).map (·.key) = some (toV k) := by
      cases hh : es[j]? with
      | none => rw [hh] at hek; simp at hek
      | some e => rw [hh] at hek; simp only [Option.map_some, Option.some.injEq, Prod.mk.injEq] at hek; simp [hek.1]
    have hst : (Instr.keyThatStays (toV k) (toV k)).run P w = .ok (toV k) w := by
      unfold Instr.keyThatStays; rw [if_pos (K.bits k)]; rfl
    refine ⟨{ w with heap := w.heap.setIfInBounds m (.map (es.modify j fun e => { e with key := toV k, val := v }) clock) }, ?_, ?_, set_touch w m _, by simp⟩
    · simp [Instr.mapUpdate, run_underlying ht, getObj, setObj, Sem.run, hh, hc, hf, Result.andThen, hek', hst]
    · refine ⟨_, _, set_heap w m _ hlt, ?_⟩
      simp only [alPut, hx, Array.toList_modify]
      exact map_modify_entries toV es.toList kvs he j k v v0 hj

theorem map_eraseIdx' {α β : Type} (f : α → β) (l : List α) (j : Nat) : (l.eraseIdx j).map f = (l.map f).eraseIdx j := by
  induction l generalizing j with
  | nil => rfl
  | cons a l ih => cases j <;> simp [ih]

theorem run_delete {P : Program} {t kt et ty : TypeId} {toV : κ → Value} {at1 : TypeId} (K : KeyKind P kt toV) (ht : P.underlying t = some (.map kt et)) {w : World} {m : Nat} {kvs : List (κ × Value)} (hm : MapIs toV w m kvs) (k : κ) :
    ∃ w', (Builtin.delete_ #[t, at1] ty #[.map (some m), toV k]).run P w = .ok (.tuple #[]) w' ∧ MapIs toV w' m (alDel kvs k) ∧ TouchB (fun i => i = m) w w' ∧ w'.heap.size = w.heap.size := by
  have hlt := hm.lt
  obtain ⟨es, clock, hh, he⟩ := hm
  obtain ⟨d, hd, hdd, hs⟩ := K.kind
  have hf := run_findKey K k es.toList kvs he w
  have hc := run_checkKey hd hdd es.isEmpty (toV k) w
  cases hx : alIdx kvs k with
  | none =>
    rw [hx] at hf
    refine ⟨{ w with heap := w.heap.setIfInBounds m (.map es clock) }, ?_, ?_, set_touch w m _, by simp⟩
    · simp [Builtin.delete_, run_underlying ht, getObj, setObj, Sem.run, hh, hc, hf, Result.andThen]
    · refine ⟨_, _, set_heap w m _ hlt, ?_⟩
      simp [alDel, hx, he]
  | some j =>
    rw [hx] at hf
    refine ⟨{ w with heap := w.heap.setIfInBounds m (.map (es.eraseIdxIfInBounds j) clock) }, ?_, ?_, set_touch w m _, by simp⟩
    · simp [Builtin.delete_, run_underlying ht, getObj, setObj, Sem.run, hh, hc, hf, Result.andThen]
    · refine ⟨_, _, set_heap w m _ hlt, ?_⟩
      have e1 : (es.eraseIdxIfInBounds j).toList = es.toList.eraseIdx j := by
        unfold Array.eraseIdxIfInBounds
        split
        · simp
        · rename_i hn; rw [List.eraseIdx_of_length_le]; simpa using Nat.le_of_not_lt hn
      simp only [alDel, hx, e1, map_eraseIdx', he]

/-- at the operation, for the walk -/
theorem wpList_mapUpdate_al {P : Program} (w : World) {ops : Array Oper} {rest : List Oper} {o : Oper} {a : Act} {Q : Exit → Act → World → Prop}
    (hg : o.guard = none) (mo xo vo : Operand) (t : TypeId) (hop : o.op = Op.mapUpdate t mo xo vo)
    {kt et : TypeId} {toV : κ → Value} (K : KeyKind P kt toV) (ht : P.underlying t = some (.map kt et)) (m : Nat) (kvs : List (κ × Value)) (hm : MapIs toV w m kvs) (k : κ) (v : Value)
    (hmo : a.eval mo = .map (some m)) (hx : a.eval xo = toV k) (hv : a.eval vo = v)
    (hK : ∀ w', MapIs toV w' m (alPut kvs k v) → TouchB (fun i => i = m) w w' → w'.heap.size = w.heap.size → wpList P ops Q rest (a.put o.dst undef) w') :
    wpList P ops Q (o :: rest) a w := by
  refine wpList_plain hg fun K' hK' => ?_
  obtain ⟨w', hrun, r1, r2, r3⟩ := run_mapUpdate K ht hm k v
  unfold Oper.wp
  simp [execOp, hop, hmo, hx, hv, hrun, Result.andThen]
  exact hK' _ _ (hK w' r1 r2 r3)

theorem bytes_beq (a b : ByteArray) : (a == b) = true ↔ a = b := by
  obtain ⟨a⟩ := a
  obtain ⟨b⟩ := b
  show (a == b) = true ↔ _
  simp
theorem string_key {P : Program} {kt : TypeId} (h : P.underlying kt = some .string) : KeyKind P kt Value.string where
  kind := ⟨.string, h, .inl rfl, fun a b => by simp only [Instr.sameNow]; congr 1; rw [Bool.eq_iff_iff, bytes_beq]; simp⟩
  bits := fun a => by simp only [Instr.sameBits]; exact (bytes_beq a a).2 rfl
theorem int_key {P : Program} {kt : TypeId} {q : IntKind} (h : P.underlying kt = some (.int q)) : KeyKind P kt (Value.int q) where
  kind := ⟨.int q, h, .inr (.inl ⟨q, rfl⟩), fun a b => by simp only [Instr.sameNow, if_true]; rfl⟩
  bits := fun a => by simp [Instr.sameBits]
theorem bool_key {P : Program} {kt : TypeId} (h : P.underlying kt = some .bool) : KeyKind P kt Value.bool where
  kind := ⟨.bool, h, .inr (.inr rfl), fun a b => by simp only [Instr.sameNow]; rfl⟩
  bits := fun a => by simp [Instr.sameBits]
end
end Go.Proofs.YtegffanlehaloaaGreat.mem

/- Slices of words and of marks in memory; where the objects of an area begin: the ref's Begins, and scan. Conditions: as said. -/
namespace Go.Proofs.YtegffanlehaloaaGreat.cl
open Go.RowKit mem words
set_option linter.unusedVariables false
set_option linter.unusedSimpArgs false
set_option maxHeartbeats 1000000
set_option maxRecDepth 100000

/-- a slice that reads as a list -/
def RowAt {α : Type} (enc : α → Value) (w : World) (B : Nat) (v : Value) (l : List α) : Prop :=
  ∃ p c, v = .slice p l.length c ∧ l.length ≤ c ∧ c ≤ maxLen ∧ (l ≠ [] → ∃ g o, p = some ⟨g, o, none⟩ ∧ g < B ∧ ∀ j, (h : j < l.length) → w.cell? ⟨g, o + j, none⟩ = some (enc l[j]))
theorem RowAt.same {α : Type} {enc : α → Value} {w w' : World} {B : Nat} {v : Value} {l : List α} (h : RowAt enc w B v l) (hs : ∀ g, g < B → w'.heap[g]? = w.heap[g]?) : RowAt enc w' B v l := by
  obtain ⟨p, c, e, h1, h2, h3⟩ := h
  refine ⟨p, c, e, h1, h2, fun hn => ?_⟩
  obtain ⟨g, o, e', hg, hc⟩ := h3 hn
  exact ⟨g, o, e', hg, fun j hj => (World.cell?_of_block (w := w) (w' := w') (a := ⟨g, o + j, none⟩) (hs g hg)).trans (hc j hj)⟩
theorem RowAt.below {α : Type} {enc : α → Value} {w w' : World} {B B' : Nat} {v : Value} {l : List α} (h : RowAt enc w B v l) (hb : Below B' w w') (hB : B ≤ B') : RowAt enc w' B v l :=
  h.same fun g hg => hb.block g (by omega)
theorem RowAt.more {α : Type} {enc : α → Value} {w : World} {B B' : Nat} {v : Value} {l : List α} (h : RowAt enc w B v l) (hB : B ≤ B') : RowAt enc w B' v l := by
  obtain ⟨p, c, e, h1, h2, h3⟩ := h
  refine ⟨p, c, e, h1, h2, fun hn => ?_⟩
  obtain ⟨g, o, e', hg, hc⟩ := h3 hn
  exact ⟨g, o, e', by omega, hc⟩
def Wds (l : List Int) : Prop := ∀ x ∈ l, 0 ≤ x ∧ x ≤ 18446744073709551615
abbrev WAt (w : World) (B : Nat) (v : Value) (l : List Int) : Prop := RowAt (Value.int .u64) w B v l
abbrev FAt (w : World) (B : Nat) (v : Value) (l : List Bool) : Prop := RowAt Value.bool w B v l
theorem info4 : (Tryz.prog.info? 4).map (fun i => (i.zero, i.size, i.bytes)) = some (some (.bool false), 1, 1) := by kernel_rfl
theorem info34 : (Tryz.prog.info? 43).map (fun i => (i.zero, i.size, i.bytes)) = some (some (.int .u64 0), 1, 8) := by kernel_rfl
theorem row_lt {w : World} {base e size n cap g : Nat} {xs : List Value} (h : w.ownsRow base e size (.slice (some ⟨g, 0, none⟩) n cap) n xs) : g < w.heap.size := by
  rcases h.2 with ⟨h', _⟩ | ⟨g', cap', cur, h', _, hg, _⟩
  · simp at h'
  · simp only [Value.slice.injEq, Option.some.injEq, Addr.mk.injEq, and_true, true_and] at h'
    obtain ⟨rfl, rfl⟩ := h'
    exact (Array.getElem?_eq_some_iff.1 hg).1
/-- an owned row of marks -/
theorem own_flags {w : World} {base g n : Nat} {l : List Bool} (h : w.ownsRow base 4 1 (.slice (some ⟨g, 0, none⟩) n n) n (l.map Value.bool)) (hn : l.length = n) (hm : n ≤ 100000) : FAt w (g + 1) (.slice (some ⟨g, 0, none⟩) n n) l := by
  subst hn
  refine ⟨_, _, rfl, Nat.le_refl _, by unfold maxLen; omega, fun _ => ⟨g, 0, rfl, by omega, fun j hj => ?_⟩⟩
  rw [Nat.zero_add, h.cellAt j (by omega)]
  rw [List.getElem?_map, List.getElem?_eq_getElem hj]
  rfl
theorem hoN_rng (x : Int) (h : 0 ≤ x) : 0 ≤ hoN x ∧ hoN x ≤ 65535 := by
  unfold hoN
  split
  · rename_i hh
    unfold hoOk at hh
    have := of_decide_eq_true hh
    omega
  · omega
def BegPost (l : List Int) (w : World) (e : Ending) (w' : World) : Prop :=
  Below w.heap.size w w' ∧ w.heap.size < w'.heap.size ∧ ((∃ a, Objs l a ∧ e = .returned (.tuple #[.slice (some ⟨w.heap.size, 0, none⟩) l.length l.length, .bool true]) ∧ FAt w' w'.heap.size (.slice (some ⟨w.heap.size, 0, none⟩) l.length l.length) (marks a)) ∨
    ((¬ ∃ a, Objs l a) ∧ e = .returned (.tuple #[.slice none 0 0, .bool false])))
/-- the sizes that a round meets -/
theorem hok_cases (x : Int) : (¬ x % 4 = 0 ∧ hok x = true ∧ osz x = 2) ∨ (x % 4 = 0 ∧ hoOk x = true ∧ hok x = true ∧ osz x = 1 + (hoN x).toNat) ∨ (x % 4 = 0 ∧ hoOk x = false ∧ hok x = false) := by
  unfold hok osz
  by_cases h : x % 4 = 0
  · cases ho : hoOk x
    · exact .inr (.inr ⟨h, rfl, by simp [h]⟩)
    · exact .inr (.inl ⟨h, rfl, by simp, by rw [if_pos h]⟩)
  · exact .inl ⟨h, by simp [h], by rw [if_neg h]⟩
theorem begins59 (w : World) (B : Nat) (v : Value) (l : List Int) (hB : B ≤ w.heap.size) (h : WAt w B v l) (hw : Wds l) (hl : l.length ≤ 100000) : Calls Tryz.prog 35 #[v] w (BegPost l w) := by
  obtain ⟨p, c, rfl, hc1, hc2, hp⟩ := h
  obtain ⟨i0, hi0, hz0, hz1, hz2⟩ := info_parts info4
  have HP := Lib.hid hp
  have HW := Lib.hid hw
  clear hp hw
  go_enter Tryz.func35, Tryz.ntmps35
  go_wp2_with (at_make; refine wpList_make_full _ rfl _ _ 36 rfl w.heap.size 4 i0 (.bool false) 1 Tryz.underlying36 hi0 hz0 hz1 .i64 .i64 _ _ l.length rfl rfl rfl rfl (by rw [hz2]; omega) (by unfold maxLen; omega) (Nat.le_refl _) ?_; intro w1 hown hgrow)
  have HO : Hid (w1.ownsRow w.heap.size 4 1 (.slice (some ⟨w.heap.size, 0, none⟩) l.length l.length) l.length ((List.replicate l.length false).map Value.bool)) := Lib.hid (by simpa [toList_madeCells_one, Value.cells] using hown)
  have HB1 : Hid (Below w.heap.size w w1) := Lib.hid ((Below.refl _ _).grown hgrow (Nat.le_refl _) (fun k e => by simp at e))
  clear hown hgrow
  go_loopw [5, 6, 7, 8, 9] (fun a _ _ _ _ wr => ∃ (i : Nat) (out : List Bool), a = .int .i64 i ∧ i ≤ l.length ∧ Hid (Scn l i out) ∧ Hid (wr.ownsRow w.heap.size 4 1 (.slice (some ⟨w.heap.size, 0, none⟩) l.length l.length) l.length (out.map Value.bool)) ∧ Hid (Below w.heap.size w wr)) (fun a _ _ _ _ _ => l.length - (intOf a).toNat)
  case atStart => exact ⟨0, _, by go_num, Nat.zero_le _, Lib.hid (Scn.zero l), HO, HB1⟩
  case round =>
    obtain ⟨i, out, rfl, hil, HS, HOw, HBw⟩ := hrel
    clear HO HB1
    by_cases hlt : i < l.length
    · obtain ⟨g, o, rfl, hg, hc⟩ := HP.out (by intro e; subst e; simp at hlt)
      have hx := (HBw.out.cell (p := ⟨g, o + i, none⟩) (show g < w.heap.size by omega)).trans (hc i hlt)
      have hxr := HW.out _ (List.getElem_mem hlt)
      have hxe : l[i]? = some l[i] := List.getElem?_eq_getElem hlt
      generalize l[i] = x at hx hxr hxe
      have HX := Lib.hid hxe
      have hol : out.length = l.length := HS.out.len
      have hcb : wr.cell? ⟨w.heap.size, i, none⟩ = some (.bool (out[i]'(by omega))) := by
        rw [HOw.out.cellAt i (by omega), List.getElem?_map, List.getElem?_eq_getElem (by omega)]
        rfl
      generalize out[i]'(by omega) = b0 at hcb
      have hfz := HOw.out.frozenAt i
      obtain ⟨hst, hgr⟩ := HOw.out.stored i (.bool true)
      have HOw2 : Hid ((wr.setCell ⟨w.heap.size, i, none⟩ (.bool true)).ownsRow w.heap.size 4 1 (.slice (some ⟨w.heap.size, 0, none⟩) l.length l.length) l.length ((out.set i true).map Value.bool)) := Lib.hid (by rw [List.map_set]; exact hst)
      have HBw2 : Hid (Below w.heap.size w (wr.setCell ⟨w.heap.size, i, none⟩ (.bool true))) := Lib.hid (HBw.out.setCell (Nat.le_refl _) _)
      have hx2 : (wr.setCell ⟨w.heap.size, i, none⟩ (.bool true)).cell? ⟨g, o + i, none⟩ = some (.int .u64 x) := (World.cell?_of_block (w := wr) (a := ⟨g, o + i, none⟩) (Below.heap_setCell _ _ _ _ (show g ≠ w.heap.size by omega))).trans hx
      clear hst hgr hxe hc
      have hN := hoN_rng x hxr.1
      have HT := Lib.hid (fun W => RTag x hxr.1 hxr.2 W)
      have HH := Lib.hid (fun W => RHeaderOf x hxr.1 hxr.2 W)
      have ri : (0 : Int) ≤ (i : Int) := by omega
      rcases hok_cases x with ⟨h4, hk, hs⟩ | ⟨h4, ho, hk, hs⟩ | ⟨h4, ho, hk⟩
      · have q4 : (x % 4 == 0) = false := by simpa using h4
        have HK := Lib.hid hk
        have HSz := Lib.hid hs
        clear hk hs h4
        by_cases hf : 2 ≤ l.length - i
        · have q5 : decide ((l.length : Int) - (i : Int) < 2) = false := decide_eq_false (by omega)
          have HSn := Lib.hid (HS.out.step HX.out HK.out (by rw [HSz.out]; exact hf))
          go_wp2_with (go_at_call 51; refine (HT.out _).mono ?_; rintro e w' ⟨rfl, rfl⟩)
          go_roundw
          case rel => exact ⟨i + 2, out.set i true, by go_num, by omega, Lib.hid (by have := HSn.out; rwa [HSz.out] at this), HOw2, HBw2⟩
          case measure => simp [intOf]; omega
        · have q5 : decide ((l.length : Int) - (i : Int) < 2) = true := decide_eq_true (by omega)
          have HNo := Lib.hid (HS.out.fail HX.out (.inr (by rw [HSz.out]; omega)))
          go_wp2_with (go_at_call 51; refine (HT.out _).mono ?_; rintro e w' ⟨rfl, rfl⟩)
          go_ret2
          exact ⟨HBw2.out, row_lt HOw2.out, .inr ⟨HNo.out, rfl⟩⟩
      · have q4 : (x % 4 == 0) = true := by simpa using h4
        have HK := Lib.hid hk
        have HSz := Lib.hid hs
        have HHo := Lib.hid ho
        rw [ho] at HH
        clear hk hs h4 ho
        by_cases hf : 1 + (hoN x).toNat ≤ l.length - i
        · have q5 : decide ((l.length : Int) - (i : Int) < 1 + hoN x) = false := decide_eq_false (by omega)
          have HSn := Lib.hid (HS.out.step HX.out HK.out (by rw [HSz.out]; exact hf))
          have HNN := Lib.hid hN
          go_wp2_with (first | (go_at_call 51; refine (HT.out _).mono ?_; rintro e w' ⟨rfl, rfl⟩) | (go_at_call 59; refine (HH.out _).mono ?_; rintro e w' ⟨rfl, rfl⟩))
          go_roundw
          case rel => exact ⟨i + (1 + (hoN x).toNat), out.set i true, by rw [show ((i + (1 + (hoN x).toNat) : Nat) : Int) = (i : Int) + (1 + hoN x) by have := HNN.out; omega], by omega, Lib.hid (by have := HSn.out; rwa [HSz.out] at this), HOw2, HBw2⟩
          case measure => simp [intOf]; omega
        · have q5 : decide ((l.length : Int) - (i : Int) < 1 + hoN x) = true := decide_eq_true (by omega)
          have HNo := Lib.hid (HS.out.fail HX.out (.inr (by rw [HSz.out]; omega)))
          go_wp2_with (first | (go_at_call 51; refine (HT.out _).mono ?_; rintro e w' ⟨rfl, rfl⟩) | (go_at_call 59; refine (HH.out _).mono ?_; rintro e w' ⟨rfl, rfl⟩))
          go_ret2
          exact ⟨HBw2.out, row_lt HOw2.out, .inr ⟨HNo.out, rfl⟩⟩
      · have q4 : (x % 4 == 0) = true := by simpa using h4
        have HNo := Lib.hid (HS.out.fail HX.out (.inl hk))
        rw [ho] at HH
        clear hk h4 ho
        go_wp2_with (first | (go_at_call 51; refine (HT.out _).mono ?_; rintro e w' ⟨rfl, rfl⟩) | (go_at_call 59; refine (HH.out _).mono ?_; rintro e w' ⟨rfl, rfl⟩))
        go_ret2
        exact ⟨HBw2.out, row_lt HOw2.out, .inr ⟨HNo.out, rfl⟩⟩
    · obtain ⟨a, ha, rfl⟩ := HS.out.done hlt
      have HA := Lib.hid ha
      have hml : (marks a).length = l.length := HS.out.len
      have HFl := Lib.hid (own_flags HOw.out hml hl)
      clear ha hml
      go_wp2_with fail
      go_ret2
      exact ⟨HBw.out, row_lt HOw.out, .inl ⟨a, HA.out, rfl, HFl.out.more (row_lt HOw.out)⟩⟩
end Go.Proofs.YtegffanlehaloaaGreat.cl
