/- Heap: the texts HpA,B,C,D,E,F. No condition beyond theirs. -/
import Derived.Test.YtpnlnbolhkcnjaaGreatWordsC
import Derived.Test.YtpnlnbolhkcnjaaGreatMem
import Derived.Test.YtpnlnbolhkcnjaaGreatRec
import Derived.Deep.QuietTactic
import Derived.BigQuiet
import Derived.WalkSpells
import Derived.StillTailTactics
import Derived.Outline
import Derived.IntWalk
import Derived.OwnWalk
import Derived.Laws.OwnMore
import Derived.Deep.Cut
import Derived.Deep.MidRow
import Derived.LoopN
namespace Go.Proofs.YtpnlnbolhkcnjaaGreat.hp
open Go.RowKit mem words rec
set_option linter.unusedVariables false
set_option linter.unusedSimpArgs false
set_option maxHeartbeats 4000000
set_option maxRecDepth 100000
def encW (x : Int) : List Value := [.int .u64 x]
def encF (b : Bool) : List Value := [.bool b]
theorem encW_ok (l : List Int) : EncOK encW 1 l := fun a _ => ⟨rfl, fun u hu => by
  simp only [encW, List.mem_cons, List.not_mem_nil, or_false] at hu; subst hu; rfl⟩
theorem encF_ok (l : List Bool) : EncOK encF 1 l := fun a _ => ⟨rfl, fun u hu => by
  simp only [encF, List.mem_cons, List.not_mem_nil, or_false] at hu; subst hu; rfl⟩
theorem belowA {w wr : World} (h : Below w.heap.size w wr) (o : Obj) : Below w.heap.size w (wr.alloc o) := h.alloc h.size _
theorem cell_of_blk {w : World} {g x : Nat} {cur : Array Value} {e : TypeId} {fz : Nat × Nat} (h : w.heap[g]? = some (.cells cur e fz)) : w.cell? ⟨g, x, none⟩ = cur[x]? := by
  unfold World.cell?
  rw [h]
  rfl
theorem belowD {B : Nat} {a w : World} (h : Below B a w) : Below B a w.drew := ⟨h.os, h.tape, h.output, h.size, h.block⟩
def PtrP (w : World) (e : Ending) (w' : World) : Prop := ∃ z, e = .returned (.pointer (some ⟨z, 0, none⟩)) ∧ Below w.heap.size w w'
theorem names14 (w : World) : Calls Tryz.prog 14 #[] w (PtrP w) := by
  have hmm := @run_makeMap Tryz.prog
  have HB := Lib.hid (fun o o' => belowA (belowA (Below.refl _ w) o) o')
  go_enter Tryz.func14, Tryz.ntmps14
  go_wp2_with fail
  go_ret
  exact ⟨_, rfl, HB.out _ _⟩
theorem blobs15 (w : World) : Calls Tryz.prog 15 #[] w (PtrP w) := by
  have hmm := @run_makeMap Tryz.prog
  have HB := Lib.hid (fun o o' o'' => belowA (belowA (belowA (Below.refl _ w) o) o') o'')
  go_enter Tryz.func15, Tryz.ntmps15
  go_wp2_with fail
  go_ret
  exact ⟨_, rfl, HB.out _ _ _⟩
abbrev hcells (vY vF : Value) (c : Int) (a b : Nat) : Array Value := #[vY, vF, .slice none 0 0, .slice none 0 0, .int .i64 0, .int .i64 c, .pointer (some ⟨a, 0, none⟩), .pointer (some ⟨b, 0, none⟩)]
theorem elty_of {sl e s b : Nat} {z : Value} (hu : Tryz.prog.underlying sl = some (.slice e)) (hi : (Tryz.prog.info? e).map (fun i => (i.zero, i.size, i.bytes)) = some (some z, s, b)) (hz : z.cells.size = s) (hs : 0 < s) (hb : b ≤ 10000) : ElTy sl e s := by
  cases hq : Tryz.prog.info? e with
  | none => rw [hq] at hi; simp at hi
  | some i =>
    rw [hq] at hi
    simp only [Option.map_some, Option.some.injEq, Prod.mk.injEq] at hi
    exact ⟨hu, ⟨i, z, hq, hi.1, hi.2.1, hz, by omega⟩, hs⟩
theorem info4 : (Tryz.prog.info? 4).map (fun i => (i.zero, i.size, i.bytes)) = some (some (.bool false), 1, 1) := by kernel_rfl
theorem info40 : (Tryz.prog.info? 40).map (fun i => (i.zero, i.size, i.bytes)) = some (some (.int .u64 0), 1, 8) := by kernel_rfl
theorem elW : ElTy 22 40 1 := elty_of Tryz.underlying22 info40 rfl (by decide) (by decide)
theorem elF : ElTy 99 4 1 := elty_of Tryz.underlying99 info4 rfl (by decide) (by decide)
/-- an own heap at block z: words Y with marks F -/
structure HA (w : World) (B z a b : Nat) (c : Int) (vY vF : Value) (Y : List Int) (F : List Bool) : Prop where
  blk : w.heap[z]? = some (.cells (hcells vY vF c a b) 124)
  y : RecOwn encW 40 1 w B vY Y
  f : RecOwn encF 4 1 w B vF F
  hz : B ≤ z
def NewP (a b : Nat) (c : Int) (w : World) (e : Ending) (w' : World) : Prop := ∃ z, e = .returned (.pointer (some ⟨z, 0, none⟩)) ∧ Below w.heap.size w w' ∧ HA w' w.heap.size z a b c (.slice none 0 0) (.slice none 0 0) [] []
theorem heap17 (w : World) (a b : Nat) (c : Int) (h1 : 1 ≤ c) (h2 : c ≤ 1048576) : Calls Tryz.prog 17 #[.pointer (some ⟨a, 0, none⟩), .pointer (some ⟨b, 0, none⟩), .int .i64 c] w (NewP a b c w) := by
  have q1 : decide (c < 1) = false := decide_eq_false (by omega)
  have q2 : decide ((1048576 : Int) < c) = false := decide_eq_false (by omega)
  have HB := Lib.hid (fun o => belowA (Below.refl _ w) o)
  clear h1 h2
  go_enter Tryz.func17, Tryz.ntmps17
  go_wp2_with fail
  go_ret
  exact ⟨_, rfl, HB.out _, heap_alloc_new w _, RecOwn.nil _ _ _, RecOwn.nil _ _ _, Nat.le_refl _⟩
theorem made66 {w : World} {B z a b : Nat} {c : Int} {vY vF : Value} {Y : List Int} {F : List Bool} (h : HA w B z a b c vY vF Y F) : Calls Tryz.prog 66 #[.pointer (some ⟨z, 0, none⟩)] w fun e w' => e = .returned (.bool true) ∧ w = w' := by
  have c6 : w.cell? ⟨z, 6, none⟩ = some (.pointer (some ⟨a, 0, none⟩)) := (cell_of_blk h.blk).trans rfl
  clear h
  go_enter Tryz.func66, Tryz.ntmps66
  go_wp2_with fail
  go_ret
  exact ⟨rfl, rfl⟩
theorem HA.below {w w' : World} {B z a b : Nat} {c : Int} {vY vF : Value} {Y : List Int} {F : List Bool} (h : HA w B z a b c vY vF Y F) (hb : Below w.heap.size w w') : HA w' B z a b c vY vF Y F :=
  ⟨(hb.block z (Array.getElem?_eq_some_iff.1 h.blk).1).trans h.blk, h.y.below hb, h.f.below hb, h.hz⟩
/-- Room and Used -/
theorem room39 {w : World} {B z a b : Nat} {c : Int} {vY vF : Value} {Y : List Int} {F : List Bool} (h : HA w B z a b c vY vF Y F) (hl : Y.length ≤ 1000000) (hc : -2000000 ≤ c) (hc2 : c ≤ 2000000) : Calls Tryz.prog 39 #[.pointer (some ⟨z, 0, none⟩)] w fun e w' => e = .returned (.int .i64 (c - Y.length)) ∧ Below w.heap.size w w' := by
  have HM := Lib.hid (made66 h)
  obtain ⟨py, cy, ey, _, _⟩ := h.y.shape
  have c0 : w.cell? ⟨z, 0, none⟩ = some vY := (cell_of_blk h.blk).trans rfl
  have c5 : w.cell? ⟨z, 5, none⟩ = some (.int .i64 c) := (cell_of_blk h.blk).trans rfl
  have hw : wrap64 (c - Y.length) = c - Y.length := IntWalk.wrap64_in _ (by omega)
  clear h
  subst ey
  generalize Y.length = n at *
  have HW := Lib.hid hw
  have HB := Lib.hid (belowD (Below.refl w.heap.size w))
  clear hl hw
  go_enter Tryz.func39, Tryz.ntmps39
  go_wp2_with fail
  refine HM.out.mono ?_
  rintro e w' ⟨rfl, rfl⟩
  go_wp2_with fail
  go_still (by kernel_rfl)
  go_wp2_with fail
  go_ret
  refine ⟨?_, HB.out⟩
  show Ending.returned (.int .i64 (IntKind.i64.wrap (c - n))) = _
  rw [IntWalk.i64_left, HW.out]
theorem used19 {w : World} {B z a b : Nat} {c : Int} {vY vF : Value} {Y : List Int} {F : List Bool} (h : HA w B z a b c vY vF Y F) (hl : Y.length ≤ 1000000) : Calls Tryz.prog 19 #[.pointer (some ⟨z, 0, none⟩)] w fun e w' => e = .returned (.int .i64 Y.length) ∧ Below w.heap.size w w' := by
  have HM := Lib.hid (made66 h)
  obtain ⟨py, cy, ey, _, _⟩ := h.y.shape
  have c0 : w.cell? ⟨z, 0, none⟩ = some vY := (cell_of_blk h.blk).trans rfl
  have c2 : w.cell? ⟨z, 2, none⟩ = some (.slice none 0 0) := (cell_of_blk h.blk).trans rfl
  have hw : wrap64 (Y.length : Int) = Y.length := IntWalk.wrap64_in _ (by omega)
  clear h
  subst ey
  generalize Y.length = n at *
  have HW := Lib.hid hw
  have HB := Lib.hid (belowD (Below.refl w.heap.size w))
  clear hl hw
  go_enter Tryz.func19, Tryz.ntmps19
  go_wp2_with fail
  refine HM.out.mono ?_
  rintro e w' ⟨rfl, rfl⟩
  go_wp2_with fail
  go_still (by kernel_rfl)
  go_wp2_with fail
  go_ret
  refine ⟨?_, HB.out⟩
  show Ending.returned (.int .i64 (IntKind.i64.wrap n)) = _
  rw [IntWalk.i64_left, HW.out]
end Go.Proofs.YtpnlnbolhkcnjaaGreat.hp
namespace Go.Proofs.YtpnlnbolhkcnjaaGreat.hp
open Go.RowKit mem words rec
set_option linter.unusedVariables false
set_option linter.unusedSimpArgs false
set_option maxHeartbeats 4000000
set_option maxRecDepth 100000
theorem zero_flags (k : Nat) : Builtin.zeroCells (Value.bool false).cells k = (List.replicate k (Value.bool false)).toArray := by
  apply Array.ext
  · simp [Builtin.zeroCells, Value.cells]
  · intro i h1 h2
    have e : (Builtin.zeroCells (Value.bool false).cells k)[i] = .bool false := by
      simp [Builtin.zeroCells, Value.cells]
      rw [Nat.mod_one]
      rfl
    rw [e]; simp
theorem flat_false (k : Nat) : (List.replicate k false).flatMap encF = List.replicate k (Value.bool false) := by
  induction k with
  | zero => rfl
  | succ k ih => rw [List.replicate_succ, List.flatMap_cons, ih, List.replicate_succ]; rfl
/-- append(s, make([]bool, k)...) -/
theorem run_append_flags {w : World} {base : Nat} {v : Value} {F : List Bool} (h : RecOwn encF 4 1 w base v F) (hb : base ≤ w.heap.size) (ty : TypeId) (k : Nat) (hk : 0 < k) (hn : F.length + k ≤ 1000000) :
    ∃ v' w', (Builtin.append_ #[99, 3] ty #[v, .int .i64 k]).run Tryz.prog w = .ok v' w' ∧ AppR encF 4 1 w base v F (List.replicate k false) v' w' := by
  obtain ⟨hund, ⟨i, z, hi, hz, hs, hzs, hby⟩, hpos⟩ := elF
  have hz' : z = .bool false := by
    have := info4
    rw [hi] at this
    simp only [Option.map_some, Option.some.injEq, Prod.mk.injEq] at this
    rw [hz] at this
    exact Option.some.inj this.1
  have hb1 : i.bytes = 1 := by
    have := info4
    rw [hi] at this
    simp only [Option.map_some, Option.some.injEq, Prod.mk.injEq] at this
    exact this.2.2
  subst hz'
  have hlen : (F.flatMap encF).length = F.length := by rw [flat_len (encF_ok F), Nat.mul_one]
  have hw : IntKind.i64.wrap (k : Int) = k := IntWalk.i64_in _ (by omega)
  have hai : ∀ W : World, (asInt (.int .i64 (k : Int))).run Tryz.prog W = .ok (k : Int) W := fun W => by simp [asInt, asIntOf]
  have hk0 : ¬ ((k : Int) < 0) := by omega
  have h48'' : ¬ (281474976710656 < (k : Int) * (i.bytes : Int)) := by rw [hb1]; omega
  have hks : ¬ (k * 1 = 0) := by omega
  have hk' : k ≠ 0 := by omega
  have grown : ∀ (old : Nat), old < F.length + k → ∀ (row : Option Nat),
      RecOwn encF 4 1 (w.drew.alloc (.cells ((F.flatMap encF).toArray ++ Builtin.zeroCells (Value.bool false).cells k ++ Builtin.zeroCells (Value.bool false).cells (grownCap w (F.length + k) old 4 - (F.length + k))) 4)) base (.slice (some ⟨w.heap.size, 0, none⟩) (F.length + k) (grownCap w (F.length + k) old 4)) (F ++ List.replicate k false) ∧
      w.grownBy (w.drew.alloc (.cells ((F.flatMap encF).toArray ++ Builtin.zeroCells (Value.bool false).cells k ++ Builtin.zeroCells (Value.bool false).cells (grownCap w (F.length + k) old 4 - (F.length + k))) 4)) row := by
    intro old ho row
    have hge := grownCap_ge w (F.length + k) old 4
    have hcm : grownCap w (F.length + k) old 4 ≤ maxLen := grownCap_le_maxLen w (F.length + k) old 4 (by unfold maxLen; omega)
    have hl2 : (F ++ List.replicate k false).length = F.length + k := by simp
    have hfl : ((F ++ List.replicate k false).flatMap encF) = F.flatMap encF ++ List.replicate k (Value.bool false) := by rw [List.flatMap_append, flat_false]
    refine ⟨?_, ⟨rfl, rfl, rfl, by simp, fun q hq _ => heap_alloc_old w.drew _ hq⟩⟩
    unfold RecOwn
    rw [hl2, hfl]
    refine ⟨by simp [hlen], .inr ⟨w.heap.size, _, _, rfl, hb, heap_alloc_new w.drew _, hge, hcm, ?_, ?_⟩⟩
    · rw [zero_flags, zero_flags]
      simp only [Array.size_append, List.size_toArray, List.length_replicate, hlen]
      omega
    · rw [zero_flags, zero_flags]
      simp only [Array.toList_append, List.append_assoc]
      rw [← List.append_assoc]
      have : (F.length + k) * 1 = (F.flatMap encF ++ List.replicate k (Value.bool false)).length := by simp [hlen]
      rw [this]
      exact List.take_left
  have hown := h
  unfold RecOwn at hown
  have hnsc : ∀ c, c < F.length + k → ¬ (281474976710656 < Builtin.nextslicecap (F.length + k) c * i.bytes) := fun c hc => Nat.not_lt.2 (growslice_fits (by omega) (by rw [hb1]; omega))
  rcases hown.2 with ⟨rfl, hF⟩ | ⟨g, cap, cur, rfl, hbg, hg, hnc, hcm, hcs, htake⟩
  · have hF0 : F = [] := List.eq_nil_of_length_eq_zero (by simpa using hF)
    subst hF0
    have hgr := grown 0 (by simp; omega) (Value.ownBlock (.slice none 0 0))
    have h1 := hnsc 0 (by simp; omega)
    simp only [List.length_nil, Nat.zero_add, List.flatMap_nil, List.nil_append] at hgr h1
    refine ⟨_, _, ?_, hgr.1, hgr.2, .inr rfl⟩
    have h63' : ¬ (9223372036854775807 < (k : Int)) := by omega
    have hn0 : ¬ (k ≤ 0) := by omega
    simp [Builtin.append_, hai, run_underlying hund, run_underlying Tryz.underlying3, sizeOf, typeInfo, zeroValue, hi, hz, hs, h63', h1, h48'', hw, hk0, hks, hk', hn0, Question.forced, Builtin.firstCells, newRow, grownCap]
  · by_cases hroom : F.length + k ≤ cap
    · have hfit : F.length + (List.replicate k (Value.bool false)).length ≤ cur.size := by rw [hcs, List.length_replicate]; omega
      have hst := run_storeCells_at Tryz.prog g F.length 4 (List.replicate k (Value.bool false)) 0 cur w hg (by simpa using hfit) (fun u hu => by rw [List.eq_of_mem_replicate hu]; rfl)
      simp only [Nat.add_zero] at hst
      refine ⟨.slice (some ⟨g, 0, none⟩) (F.length + k) cap, w.setRow g (cur.toList.take F.length ++ List.replicate k (Value.bool false) ++ cur.toList.drop (F.length + (List.replicate k (Value.bool false)).length)).toArray, ?_, ⟨?_, ⟨rfl, rfl, rfl, by simp, fun q _ hq => setRow_other w g q _ (fun e => hq (by simp [Value.ownBlock, e]))⟩, .inl rfl⟩⟩
      · simp [Builtin.append_, hai, run_underlying hund, run_underlying Tryz.underlying3, sizeOf, typeInfo, zeroValue, hi, hz, hs, hroom, h48'', hw, hk0, hks, hk', Addr.add_lit, zero_flags]
        rw [hst, Result.andThen_ok]
        simp
      · have hl2 : (F ++ List.replicate k false).length = F.length + k := by simp
        have hfl : ((F ++ List.replicate k false).flatMap encF) = F.flatMap encF ++ List.replicate k (Value.bool false) := by rw [List.flatMap_append, flat_false]
        have ht1 : cur.toList.take F.length = F.flatMap encF := by simpa using htake
        unfold RecOwn
        rw [hl2, hfl]
        refine ⟨by simp [hlen], .inr ⟨g, cap, _, rfl, hbg, setRow_heap w g cur _ 4 _ hg, hroom, hcm, ?_, ?_⟩⟩
        · simp only [List.length_replicate] at hfit
          simp only [List.size_toArray, List.length_append, List.length_take, List.length_drop, Array.length_toList, List.length_replicate]
          omega
        · rw [ht1]
          have : (F.length + k) * 1 = (F.flatMap encF ++ List.replicate k (Value.bool false)).length := by simp [hlen]
          rw [this]
          exact List.take_left
    · have holds : ∀ j u, (F.flatMap encF)[j]? = some u → w.cell? ⟨g, j, none⟩ = some u := fun j u hu => by
        have := hown.cells (g := g) rfl j u hu
        rw [Addr.add_lit, Nat.zero_add] at this
        exact this
      have hgr := grown cap (by omega) (Value.ownBlock (.slice (some ⟨g, 0, none⟩) F.length cap))
      refine ⟨_, _, ?_, hgr.1, hgr.2, .inr rfl⟩
      have h63' : ¬ (9223372036854775807 < ((F.length : Int) + (k : Int))) := by omega
      have h1 := hnsc cap (by omega)
      have hfo := run_firstCells_some (P := Tryz.prog) w.drew 1 F.length ⟨g, 0, none⟩ F.length cap (F.flatMap encF) (by rw [hlen, Nat.mul_one]) (by intro j u hj; rw [Addr.add_lit, Nat.zero_add]; exact holds j u hj)
      simp [Builtin.append_, hai, run_underlying hund, run_underlying Tryz.underlying3, sizeOf, typeInfo, zeroValue, hi, hz, hs, hroom, h63', h1, h48'', hw, hk0, hks, hk', Question.forced, hfo, newRow, grownCap]
end Go.Proofs.YtpnlnbolhkcnjaaGreat.hp
namespace Go.Proofs.YtpnlnbolhkcnjaaGreat.hp
open Go.RowKit mem words rec
set_option linter.unusedVariables false
set_option linter.unusedSimpArgs false
set_option maxHeartbeats 4000000
set_option maxRecDepth 100000
/-- the blocks of a heap's own -/
def HB (z : Nat) (vY vF : Value) (k : Nat) : Prop := k = z ∨ vY.ownBlock = some k ∨ vF.ownBlock = some k
/-- a step of the heap: its words and marks grow; what it touches are blocks of its own -/
def Step (B z a b : Nat) (c : Int) (vY vF : Value) (w : World) (Y' : List Int) (F' : List Bool) (w' : World) : Prop :=
  ∃ vY' vF', HA w' B z a b c vY' vF' Y' F' ∧ TouchB (HB z vY vF) w w' ∧ (∀ k, HB z vY' vF' k → k < w.heap.size → HB z vY vF k)
def mk2 (n : Nat) : List Bool := true :: List.replicate (n - 1) false
theorem blk_set {W : World} {z i : Nat} {cs : Array Value} {t : TypeId} (h : W.heap[z]? = some (.cells cs t)) (u : Value) : (W.setCell ⟨z, i, none⟩ u).heap[z]? = some (.cells (cs.setIfInBounds i u) t) := heap_setCell_same W z i cs t u h
theorem blk_oth (W : World) (z i : Nat) (u : Value) {k : Nat} (hk : k ≠ z) : (W.setCell ⟨z, i, none⟩ u).heap[k]? = W.heap[k]? := Below.heap_setCell W ⟨z, i, none⟩ u k hk
theorem HA.le {w : World} {B z a b : Nat} {c : Int} {vY vF : Value} {Y : List Int} {F : List Bool} (h : HA w B z a b c vY vF Y F) : B ≤ w.heap.size := by
  have := (Array.getElem?_eq_some_iff.1 h.blk).1
  have := h.hz
  omega
/-- the blocks of a heap's own are apart -/
theorem HA.ne {w : World} {B z a b : Nat} {c : Int} {vY vF : Value} {Y : List Int} {F : List Bool} (h : HA w B z a b c vY vF Y F) : vY.ownBlock ≠ some z ∧ vF.ownBlock ≠ some z ∧ ∀ k, vY.ownBlock = some k → vF.ownBlock ≠ some k := by
  have hy : ∀ k, vY.ownBlock = some k → ∃ cs fz, w.heap[k]? = some (.cells cs 40 fz) := fun k hk => by
    rcases h.y.2 with ⟨rfl, _⟩ | ⟨g, cap, cur, rfl, _, hg, _⟩
    · simp [Value.ownBlock] at hk
    · simp only [Value.ownBlock, Option.some.injEq] at hk
      subst hk
      exact ⟨_, _, hg⟩
  have hf : ∀ k, vF.ownBlock = some k → ∃ cs fz, w.heap[k]? = some (.cells cs 4 fz) := fun k hk => by
    rcases h.f.2 with ⟨rfl, _⟩ | ⟨g, cap, cur, rfl, _, hg, _⟩
    · simp [Value.ownBlock] at hk
    · simp only [Value.ownBlock, Option.some.injEq] at hk
      subst hk
      exact ⟨_, _, hg⟩
  refine ⟨fun e => ?_, fun e => ?_, fun k e e' => ?_⟩
  · obtain ⟨cs, fz, hc⟩ := hy z e
    rw [h.blk] at hc
    simp at hc
  · obtain ⟨cs, fz, hc⟩ := hf z e
    rw [h.blk] at hc
    simp at hc
  · obtain ⟨cs, fz, hc⟩ := hy k e
    obtain ⟨cs', fz', hc'⟩ := hf k e'
    rw [hc] at hc'
    simp at hc'
theorem wpList_append_flags {w : World} {ops : Array Oper} {rest : List Oper} {o : Oper} {a : Act} {Q : Exit → Act → World → Prop} (hgd : o.guard = none) (x y : Operand)
    (ho : o.op = .call { callee := .builtin .append, args := #[x, y], argTypes := #[99, 3] }) {base : Nat} {v : Value} {F : List Bool} (hs : a.eval x = v) (hown : RecOwn encF 4 1 w base v F) (hb : base ≤ w.heap.size)
    {k : Nat} (hx : a.eval y = .int .i64 k) (hk : 0 < k) (hn : F.length + k ≤ 1000000)
    (h : ∀ v' w', AppR encF 4 1 w base v F (List.replicate k false) v' w' → wpList Tryz.prog ops Q rest (a.put o.dst v') w') : wpList Tryz.prog ops Q (o :: rest) a w := by
  refine wpList_plain hgd fun K hK => ?_
  obtain ⟨v', w', hr, h2⟩ := run_append_flags hown hb o.type k hk hn
  unfold Oper.wp execOp
  simp only [ho, resolve, invoke, builtin, Sem.run_bind, Sem.run_pure, Result.andThen_ok, List.map_toArray, List.map_cons, List.map_nil, hs, hx, hr]
  exact hK _ _ (h v' w' h2)
theorem flat_map : ∀ l : List Bool, l.flatMap encF = l.map Value.bool
  | [] => rfl
  | x :: r => by rw [List.flatMap_cons, List.map_cons, flat_map r]; rfl
theorem set_flags (F : List Bool) (k : Nat) (hk : 0 < k) : (F ++ List.replicate k false).set F.length true = F ++ mk2 k := by
  obtain ⟨j, rfl⟩ : ∃ j, k = j + 1 := ⟨k - 1, by omega⟩
  rw [List.set_append_right (h := Nat.le_refl _), Nat.sub_self, List.replicate_succ]
  simp [mk2]
/-- what add leaves -/
theorem add_step {w w1 w3 : World} {B z a b : Nat} {c : Int} {vY vF v1 v3 : Value} {Y xs : List Int} {F : List Bool} (h : HA w B z a b c vY vF Y F) (hYF : F.length = Y.length) {k : Nat} (hk : 0 < k) (hkx : k = xs.length)
    (hA1 : AppR encW 40 1 w B vY Y xs v1 w1) (hA3 : AppR encF 4 1 (w1.setCell ⟨z, 0, none⟩ v1) B vF F (List.replicate k false) v3 w3) {g n cp : Nat} (hv3 : v3 = .slice (some ⟨g, 0, none⟩) n cp) :
    Step B z a b c vY vF w (Y ++ xs) (F ++ mk2 k) ((w3.setCell ⟨z, 1, none⟩ v3).setCell ⟨g, Y.length, none⟩ (.bool true)) := by
  subst hv3
  obtain ⟨n1, n2, n3⟩ := h.ne
  have hzl := (Array.getElem?_eq_some_iff.1 h.blk).1
  have hz1 : w1.heap[z]? = some (.cells (hcells vY vF c a b) 124) := (hA1.other hzl n1).trans h.blk
  have hz2 := blk_set (i := 0) hz1 v1
  have hs1 : w.heap.size ≤ w1.heap.size := hA1.grown.size
  have hs2 : (w1.setCell ⟨z, 0, none⟩ v1).heap.size = w1.heap.size := World.size_setCell _ _ _
  have hs3 : w1.heap.size ≤ w3.heap.size := by have := hA3.grown.size; rwa [hs2] at this
  have hz3 := (hA3.other (k := z) (by rw [hs2]; omega) n2).trans hz2
  have fz1 : w3.frozen? ⟨z, 1, none⟩ = false := frozen_of_row w3 z 1 _ _ hz3
  have hz4 := blk_set (i := 1) hz3 (.slice (some ⟨g, 0, none⟩) n cp)
  have hv1z : v1.ownBlock ≠ some z := hA1.place hzl n1
  have hv3z : (Value.slice (some ⟨g, 0, none⟩) n cp).ownBlock ≠ some z := hA3.place (by rw [hs2]; omega) n2
  have hgz : g ≠ z := fun e => hv3z (by rw [e]; rfl)
  have hy1 : ∀ q, v1.ownBlock = some q → q < w1.heap.size := fun q hq => (hA1.own.lt hq).2
  have hv1g : v1.ownBlock ≠ some g := fun e => by
    have hl := hy1 g e
    rcases hA3.at_ with h1 | h1
    · have e2 : vF.ownBlock = some g := by rw [← h1]; rfl
      have := hA1.place ((h.f.lt e2).2) (fun q => n3 _ q e2)
      exact this e
    · rw [hs2] at h1
      have : g = w1.heap.size := Option.some.inj h1
      omega
  have hn : n = (F ++ List.replicate k false).length := by
    obtain ⟨p, c', e, _, _⟩ := hA3.own.shape
    simp only [Value.slice.injEq] at e
    exact e.2.1
  have hst := (World.ownsRow.stored (w := w3.setCell ⟨z, 1, none⟩ (.slice (some ⟨g, 0, none⟩) n cp)) (g := g) (n := n) (cap := cp) (by
    have := hA3.own.same (w' := w3.setCell ⟨z, 1, none⟩ (.slice (some ⟨g, 0, none⟩) n cp)) (fun q hq => blk_oth _ _ _ _ (fun e => hv3z (e ▸ hq)))
    unfold RecOwn at this
    rw [← hn] at this
    exact this) Y.length (.bool true)).1
  have hother : ∀ q, q ≠ g → q ≠ z → ((w3.setCell ⟨z, 1, none⟩ (.slice (some ⟨g, 0, none⟩) n cp)).setCell ⟨g, Y.length, none⟩ (.bool true)).heap[q]? = w3.heap[q]? := fun q h1 h2 => (blk_oth _ _ _ _ h1).trans (blk_oth _ _ _ _ h2)
  refine ⟨v1, .slice (some ⟨g, 0, none⟩) n cp, ⟨(blk_oth _ _ _ _ (Ne.symm hgz)).trans hz4, hA1.own.same fun q hq => ?_, ?_, h.hz⟩, ?_, ?_⟩
  · have hqz : q ≠ z := fun e => hv1z (e ▸ hq)
    have hqg : q ≠ g := fun e => hv1g (e ▸ hq)
    refine (hother q hqg hqz).trans ((hA3.other (by rw [hs2]; exact hy1 q hq) (fun e => ?_)).trans (blk_oth _ _ _ _ hqz))
    exact hA1.place ((h.f.lt e).2) (fun q' => n3 _ q' e) hq
  · unfold RecOwn
    have e1 : (F ++ mk2 k).length = n := by rw [hn, ← set_flags F k hk, List.length_set]
    have e2 : (F ++ mk2 k).flatMap encF = ((F ++ List.replicate k false).flatMap encF).set Y.length (.bool true) := by
      rw [← set_flags F k hk, flat_map, flat_map, List.map_set, hYF]
    rw [e1, e2]
    exact hst
  · have t1 : TouchB (HB z vY vF) w w1 := hA1.touch (TouchB.refl _ _) (fun q hq _ => .inr (.inl hq))
    have t2 := t1.setCell ⟨z, 0, none⟩ v1 (fun _ => .inl rfl)
    have t3 := hA3.touch t2 (fun q hq _ => .inr (.inr hq))
    have t4 := t3.setCell ⟨z, 1, none⟩ (.slice (some ⟨g, 0, none⟩) n cp) (fun _ => .inl rfl)
    refine t4.setCell ⟨g, Y.length, none⟩ (.bool true) (fun hg => ?_)
    rcases hA3.at_ with h1 | h1
    · exact .inr (.inr (by rw [← h1]; rfl))
    · rw [hs2] at h1
      have : g = w1.heap.size := Option.some.inj h1
      exfalso
      have hg' : g < w.heap.size := hg
      omega
  · rintro q (rfl | hq | hq) hlt
    · exact .inl rfl
    · refine .inr (.inl ?_)
      rcases hA1.at_ with h1 | h1
      · rwa [h1] at hq
      · rw [h1] at hq
        have := Option.some.inj hq
        omega
    · refine .inr (.inr ?_)
      rcases hA3.at_ with h1 | h1
      · rwa [h1] at hq
      · rw [h1, hs2] at hq
        have := Option.some.inj hq
        omega
def AddP (B z a b : Nat) (c : Int) (vY vF : Value) (Y xs : List Int) (F : List Bool) (w : World) (e : Ending) (w' : World) : Prop :=
  e = .returned (.int .i64 Y.length) ∧ Step B z a b c vY vF w (Y ++ xs) (F ++ mk2 xs.length) w'
theorem add149 {w : World} {B z a b : Nat} {c : Int} {vY vF : Value} {Y : List Int} {F : List Bool} (h : HA w B z a b c vY vF Y F) (hYF : F.length = Y.length) {Bx : Nat} {vx : Value} {xs : List Int} (hx : RecAt encW 1 w Bx vx xs) (hx0 : xs ≠ []) (hl : Y.length + xs.length ≤ 1000000) :
    Calls Tryz.prog 149 #[.pointer (some ⟨z, 0, none⟩), vx] w (AddP B z a b c vY vF Y xs F w) := by
  obtain ⟨n1, n2, n3⟩ := h.ne
  have hzl := (Array.getElem?_eq_some_iff.1 h.blk).1
  have hB := h.le
  obtain ⟨py, cy, ey, hyc, _⟩ := h.y.shape
  obtain ⟨pf, cf, ef, hfc, _⟩ := h.f.shape
  obtain ⟨px, cx, ex, hxc, _⟩ := hx.shape
  have c0 : w.cell? ⟨z, 0, none⟩ = some vY := (cell_of_blk h.blk).trans rfl
  have HH := Lib.hid h
  have HX := Lib.hid hx
  have HN := Lib.hid (⟨n1, n2, n3⟩ : vY.ownBlock ≠ some z ∧ vF.ownBlock ≠ some z ∧ ∀ k, vY.ownBlock = some k → vF.ownBlock ≠ some k)
  have HC := Lib.hid (⟨hzl, hB, hYF, hx0, hl⟩ : z < w.heap.size ∧ B ≤ w.heap.size ∧ F.length = Y.length ∧ xs ≠ [] ∧ Y.length + xs.length ≤ 1000000)
  clear h hx n1 n2 n3 hzl hB hYF hx0 hl hyc hfc hxc
  subst ey
  subst ef
  subst ex
  go_enter Tryz.func149, Tryz.ntmps149
  go_wp2_with (refine wpList_append_rec (enc := encW) elW rfl (.tmp 15) (.tmp 16) rfl rfl (base := B) (l := Y) HH.out.y HC.out.2.1 (B := Bx) (xs := xs) rfl HX.out (encW_ok _) (Nat.le_trans HC.out.2.2.2.2 (by decide)) ?_)
  intro v1 w1 hA1
  obtain ⟨p1, c1, e1, _, _⟩ := hA1.own.shape
  have hz1 : w1.heap[z]? = some (.cells (hcells (.slice py Y.length cy) (.slice pf F.length cf) c a b) 124) := (hA1.other HC.out.1 HN.out.1).trans HH.out.blk
  have d0 : w1.cell? ⟨z, 0, none⟩ = some (.slice py Y.length cy) := (cell_of_blk hz1).trans rfl
  have fz0 : w1.frozen? ⟨z, 0, none⟩ = false := frozen_of_row w1 z 0 _ _ hz1
  have HA1 := Lib.hid hA1
  have hz2 := Lib.hid (blk_set (i := 0) hz1 v1)
  clear c0 hz1 hA1
  rw [List.length_append] at e1
  subst e1
  go_upto_region 3 with (fail)
  have hf2 := Lib.hid (HH.out.f.same (w' := w1.setCell ⟨z, 0, none⟩ (.slice p1 (Y.length + xs.length) c1)) (fun q hq => (blk_oth _ _ _ _ (fun e => HN.out.2.1 (by rw [← e]; exact hq))).trans (HA1.out.other ((HH.out.f.lt hq).2) (fun e => HN.out.2.2 q e hq))))
  have hB2 : Hid (B ≤ (w1.setCell ⟨z, 0, none⟩ (.slice p1 (Y.length + xs.length) c1)).heap.size) := Lib.hid (by rw [World.size_setCell]; exact Nat.le_trans HC.out.2.1 HA1.out.grown.size)
  have d1 : (w1.setCell ⟨z, 0, none⟩ (.slice p1 (Y.length + xs.length) c1)).cell? ⟨z, 1, none⟩ = some (.slice pf F.length cf) := (cell_of_blk hz2.out).trans rfl
  have d0' : (w1.setCell ⟨z, 0, none⟩ (.slice p1 (Y.length + xs.length) c1)).heap.size = w1.heap.size := World.size_setCell _ _ _
  have HS := Lib.hid (fun v3 w3 (h : AppR encF 4 1 (w1.setCell ⟨z, 0, none⟩ (.slice p1 (Y.length + xs.length) c1)) B (.slice pf F.length cf) F (List.replicate xs.length false) v3 w3) (g n cp : Nat) (hv : v3 = .slice (some ⟨g, 0, none⟩) n cp) => add_step HH.out HC.out.2.2.1 (List.length_pos_iff.2 HC.out.2.2.2.1) rfl HA1.out h hv)
  clear d0 d0' fz0
  generalize hW2 : w1.setCell ⟨z, 0, none⟩ (.slice p1 (Y.length + xs.length) c1) = w2 at *
  have hk0 : Hid (0 < xs.length) := Lib.hid (List.length_pos_iff.2 HC.out.2.2.2.1)
  have hn0 : F.length + xs.length ≤ 1000000 := by rw [HC.out.2.2.1]; exact HC.out.2.2.2.2
  go_wp2_with (refine wpList_append_flags (F := F) (base := B) (k := xs.length) rfl (.tmp 24) (.tmp 26) rfl rfl hf2.out hB2.out rfl hk0.out hn0 ?_)
  clear hn0
  intro v3 w3 hA3
  obtain ⟨g, n, cp, ev⟩ : ∃ g n cp, v3 = .slice (some ⟨g, 0, none⟩) n cp := by
    rcases hA3.own.2 with ⟨e, hF⟩ | ⟨g, cap, cur, e, _⟩
    · have h0 := hk0.out
      rw [List.length_append, List.length_replicate] at hF
      omega
    · exact ⟨_, _, _, e⟩
  obtain rfl : n = F.length + xs.length := by
    obtain ⟨p, c', e, _, _⟩ := hA3.own.shape
    rw [ev] at e
    simp only [Value.slice.injEq, List.length_append, List.length_replicate] at e
    exact e.2.1
  subst ev
  have hz3 : w3.heap[z]? = some (.cells (hcells (.slice p1 (Y.length + xs.length) c1) (.slice pf F.length cf) c a b) 124) := (hA3.other (k := z) (by rw [← hW2, World.size_setCell]; exact Nat.lt_of_lt_of_le HC.out.1 HA1.out.grown.size) HN.out.2.1).trans hz2.out
  have e1 : w3.cell? ⟨z, 1, none⟩ = some (.slice pf F.length cf) := (cell_of_blk hz3).trans rfl
  have fz1 : w3.frozen? ⟨z, 1, none⟩ = false := frozen_of_row w3 z 1 _ _ hz3
  have hz4 := blk_set (i := 1) hz3 (.slice (some ⟨g, 0, none⟩) (F.length + xs.length) cp)
  have f1 : (w3.setCell ⟨z, 1, none⟩ (.slice (some ⟨g, 0, none⟩) (F.length + xs.length) cp)).cell? ⟨z, 1, none⟩ = some (.slice (some ⟨g, 0, none⟩) (F.length + xs.length) cp) := (cell_of_blk hz4).trans rfl
  have hgz : g ≠ z := fun e => hA3.place (k := z) (by rw [← hW2, World.size_setCell]; exact Nat.lt_of_lt_of_le HC.out.1 HA1.out.grown.size) HN.out.2.1 (by rw [e]; rfl)
  have hown := hA3.own.same (w' := w3.setCell ⟨z, 1, none⟩ (.slice (some ⟨g, 0, none⟩) (F.length + xs.length) cp)) (fun q hq => blk_oth _ _ _ _ (fun e => hgz (by have h1 : g = q := Option.some.inj hq; omega)))
  have f2 : (w3.setCell ⟨z, 1, none⟩ (.slice (some ⟨g, 0, none⟩) (F.length + xs.length) cp)).cell? ⟨g, Y.length, none⟩ = some (.bool false) := by
    have h := World.ownsRow.cellAt (n := F.length + xs.length) (by unfold RecOwn at hown; rw [List.length_append, List.length_replicate] at hown; exact hown) Y.length (by have := hk0.out; have := HC.out.2.2.1; simp; omega)
    rw [h, flat_map, List.getElem?_map, ← HC.out.2.2.1, List.getElem?_append_right (Nat.le_refl _), Nat.sub_self, List.getElem?_replicate, if_pos hk0.out]
    rfl
  have f3 : (w3.setCell ⟨z, 1, none⟩ (.slice (some ⟨g, 0, none⟩) (F.length + xs.length) cp)).frozen? ⟨g, Y.length, none⟩ = false := World.ownsRow.frozenAt (n := F.length + xs.length) (by unfold RecOwn at hown; rw [List.length_append, List.length_replicate] at hown; exact hown) _
  have hlt : Y.length < F.length + xs.length := by have := hk0.out; have := HC.out.2.2.1; omega
  have HR := Lib.hid (HS.out _ _ hA3 g (F.length + xs.length) cp rfl)
  clear hA3 hown hz3 hz4 HS
  go_upto_region 4 with (fail)
  clear e1 fz1
  generalize w3.setCell ⟨z, 1, none⟩ (.slice (some ⟨g, 0, none⟩) (F.length + xs.length) cp) = w4 at *
  have hl1 : decide ((Y.length : Int) < ((F.length + xs.length : Nat) : Int)) = true := decide_eq_true (by omega)
  have hl0 : decide ((0 : Int) ≤ Y.length) = true := decide_eq_true (by omega)
  go_wp2_with fail
  go_ret
  exact ⟨rfl, HR.out⟩
theorem Step.of_below {B z a b : Nat} {c : Int} {vY vF : Value} {w w1 w' : World} {Y' : List Int} {F' : List Bool} (hb : Below w.heap.size w w1) (h : Step B z a b c vY vF w1 Y' F' w') : Step B z a b c vY vF w Y' F' w' := by
  obtain ⟨vY', vF', h1, h2, h3⟩ := h
  refine ⟨vY', vF', h1, ((TouchB.refl _ w).ofBelow hb (Nat.le_refl _)).trans h2 (fun i _ hi => hi), fun k hk hl => h3 k hk (Nat.lt_of_lt_of_le hl hb.size)⟩
def CellP (B z a b : Nat) (c : Int) (vY vF : Value) (Y : List Int) (F : List Bool) (x1 x2 : Int) (w : World) (e : Ending) (w' : World) : Prop :=
  e = .returned (.int .u64 (ptrW 1 false Y.length)) ∧ Step B z a b c vY vF w (Y ++ [x1, x2]) (F ++ [true, false]) w'
theorem cell100 {w : World} {B z a b : Nat} {c : Int} {vY vF : Value} {Y : List Int} {F : List Bool} (h : HA w B z a b c vY vF Y F) (hYF : F.length = Y.length) (x1 x2 : Int) (hl : Y.length + 2 ≤ 1000000) :
    Calls Tryz.prog 100 #[.pointer (some ⟨z, 0, none⟩), .int .u64 x1, .int .u64 x2] w (CellP B z a b c vY vF Y F x1 x2 w) := by
  have hb : Below w.heap.size w (w.alloc (.cells #[.int .u64 x1, .int .u64 x2] 40)) := belowA (Below.refl _ w) _
  have hx : RecAt encW 1 (w.alloc (.cells #[.int .u64 x1, .int .u64 x2] 40)) (w.heap.size + 1) (.slice (some ⟨w.heap.size, 0, none⟩) 2 2) [x1, x2] :=
    RecAt.fresh (encW_ok [x1, x2]) (by decide) (heap_alloc_new w _) (Nat.le_refl 2) (by unfold maxLen; omega)
  have HAd := Lib.hid (add149 (h.below hb) hYF hx (by simp) hl)
  have HL := Lib.hid (fun W => words.List false (Y.length : Int) W)
  have HB := Lib.hid hb
  clear h hYF hl hb hx
  go_enter Tryz.func100, Tryz.ntmps100
  go_wp2_with fail
  refine HAd.out.mono ?_
  rintro e w1 ⟨rfl, hS⟩
  have HS := Lib.hid hS
  clear hS HAd
  go_wp2_with fail
  refine (HL.out _).mono ?_
  rintro e w2 ⟨rfl, rfl⟩
  go_wp2_with fail
  go_ret
  exact ⟨rfl, HS.out.of_below HB.out⟩
end Go.Proofs.YtpnlnbolhkcnjaaGreat.hp
namespace Go.Proofs.YtpnlnbolhkcnjaaGreat.hp
open Go.RowKit mem words rec
set_option linter.unusedVariables false
set_option linter.unusedSimpArgs false
set_option maxHeartbeats 4000000
set_option maxRecDepth 100000
theorem integer97 (w : World) (p : Option Addr) (n : Int) (h0 : -9223372036854775808 ≤ n) (h1 : n ≤ 9223372036854775807) (hs : smallOk n = true) :
    Calls Tryz.prog 97 #[.pointer p, .int .i64 n] w fun e w' => e = .returned (.int .u64 (smallW n)) ∧ w = w' := by
  have HS := Lib.hid (fun W => words.Small n h0 h1 W)
  clear h0 h1
  go_enter Tryz.func97, Tryz.ntmps97
  go_wp2_with fail
  refine (HS.out _).mono ?_
  rintro e w' ⟨rfl, rfl⟩
  go_wp2_with fail
  go_ret
  exact ⟨rfl, rfl⟩
def mkc (k : Nat) : Array Value := madeCells (Value.int .u64 0).cells k
theorem mkc_size (k : Nat) : (mkc k).size = k := by unfold mkc; rw [size_madeCells]
/-- make([]api.Word, 0, k) -/
theorem mk22 (W : World) (k : Nat) (hk : k ≤ 100000) : (Instr.makeSlice 22 (.int .i64 0) (.int .i64 k)).run Tryz.prog W = .ok (.slice (some ⟨W.heap.size, 0, none⟩) 0 k) (W.alloc (.cells (mkc k) 40)) := by
  obtain ⟨hund, ⟨i, z, hi, hz, hs, hzs, hby⟩, hpos⟩ := elW
  have hz' : z = .int .u64 0 := by
    have := info40
    rw [hi] at this
    simp only [Option.map_some, Option.some.injEq, Prod.mk.injEq] at this
    rw [hz] at this
    exact Option.some.inj this.1
  subst hz'
  have := run_make (P := Tryz.prog) W 22 40 i _ hund hi hz .i64 .i64 0 (k : Int) (by omega) (by omega) (by
    have : i.bytes * k ≤ 10000 * 100000 := Nat.mul_le_mul hby hk
    have h2 : ((i.bytes * k : Nat) : Int) ≤ ((10000 * 100000 : Nat) : Int) := Int.ofNat_le.2 this
    rw [Int.natCast_mul] at h2
    omega) (by omega)
  rw [hs, Int.toNat_natCast, Nat.mul_one] at this
  exact this
abbrev flatT (k n : Int) : Value := .agg #[.int .i64 k, .int .i64 n, .int .i64 0, .string ⟨#[]⟩, .string ⟨#[]⟩, .int .i64 0, .slice none 0 0, .string ⟨#[]⟩, .int .i64 0]
abbrev flatC (k n : Int) : Array Value := #[.int .i64 k, .int .i64 n, .int .i64 0, .string ⟨#[]⟩, .string ⟨#[]⟩, .int .i64 0, .slice none 0 0, .string ⟨#[]⟩, .int .i64 0]
theorem putInt (w : World) (p : Option Addr) (n : Int) (h0 : -9223372036854775808 ≤ n) (h1 : n ≤ 9223372036854775807) (hs : smallOk n = true) :
    Calls Tryz.prog 69 #[.pointer p, flatT 1 n] w fun e w' => e = .returned (.int .u64 (smallW n)) ∧ Below w.heap.size w w' := by
  have HI := Lib.hid (fun W => integer97 W p n h0 h1 hs)
  have hmk : ∀ W : World, (Instr.makeSlice 22 (.int .i64 0) (.int .i64 0)).run Tryz.prog W = .ok (.slice (some ⟨W.heap.size, 0, none⟩) 0 0) (W.alloc (.cells (mkc 0) 40)) := fun W => mk22 W 0 (by omega)
  have HB := Lib.hid (fun o o' => belowA (belowA (Below.refl _ w) o) o')
  clear h0 h1 hs
  go_enter Tryz.func69, Tryz.ntmps69
  go_wp2_with fail
  refine wp_loop_rounds 1 ?_
  rw [rounds_succ]
  go_wp2_with fail
  refine (HI.out _).mono ?_
  rintro e w' ⟨rfl, rfl⟩
  go_wp2_with fail
  go_ret
  exact ⟨rfl, HB.out _ _⟩
theorem putNil (w : World) (p : Option Addr) (n : Int) :
    Calls Tryz.prog 69 #[.pointer p, flatT 8 n] w fun e w' => e = .returned (.int .u64 11) ∧ Below w.heap.size w w' := by
  have HI := Lib.hid (fun W => words.Nil W)
  have hmk : ∀ W : World, (Instr.makeSlice 22 (.int .i64 0) (.int .i64 0)).run Tryz.prog W = .ok (.slice (some ⟨W.heap.size, 0, none⟩) 0 0) (W.alloc (.cells (mkc 0) 40)) := fun W => mk22 W 0 (by omega)
  have HB := Lib.hid (fun o o' => belowA (belowA (Below.refl _ w) o) o')
  go_enter Tryz.func69, Tryz.ntmps69
  go_wp2_with fail
  refine wp_loop_rounds 1 ?_
  rw [rounds_succ]
  go_wp2_with fail
  refine (HI.out _).mono ?_
  rintro e w' ⟨rfl, rfl⟩
  go_wp2_with fail
  go_ret
  exact ⟨rfl, HB.out _ _⟩
end Go.Proofs.YtpnlnbolhkcnjaaGreat.hp
namespace Go.Proofs.YtpnlnbolhkcnjaaGreat.hp
open Go.RowKit mem words rec
set_option linter.unusedVariables false
set_option linter.unusedSimpArgs false
set_option maxHeartbeats 4000000
set_option maxRecDepth 100000
theorem needInt (w : World) (n : Int) (h0 : -9223372036854775808 ≤ n) (h1 : n ≤ 9223372036854775807) (hs : smallOk n = true) :
    Calls Tryz.prog 68 #[flatT 1 n] w fun e w' => e = .returned (.int .i64 0) ∧ Below w.heap.size w w' := by
  have HI := Lib.hid (fun W => words.Small n h0 h1 W)
  have HB := Lib.hid (fun o => belowA (Below.refl _ w) o)
  clear h0 h1
  go_enter Tryz.func68, Tryz.ntmps68
  go_wp2_with fail
  refine (HI.out _).mono ?_
  rintro e w' ⟨rfl, rfl⟩
  go_wp2_with fail
  refine wp_loop_rounds 1 ?_
  rw [rounds_succ]
  go_wp2_with fail
  go_ret
  exact ⟨rfl, HB.out _⟩
theorem needNil (w : World) (n : Int) :
    Calls Tryz.prog 68 #[flatT 8 n] w fun e w' => e = .returned (.int .i64 0) ∧ Below w.heap.size w w' := by
  have HB := Lib.hid (fun o => belowA (Below.refl _ w) o)
  go_enter Tryz.func68, Tryz.ntmps68
  go_wp2_with fail
  refine wp_loop_rounds 1 ?_
  rw [rounds_succ]
  go_wp2_with fail
  go_ret
  exact ⟨rfl, HB.out _⟩
abbrev flatL (k n : Int) : List Value := [.int .i64 k, .int .i64 n, .int .i64 0, .string ⟨#[]⟩, .string ⟨#[]⟩, .int .i64 0, .slice none 0 0, .string ⟨#[]⟩, .int .i64 0]
/-- the three terms of awake's list -/
def aw3 : Array Value := (flatL 1 1 ++ flatL 1 1 ++ flatL 8 0).toArray
theorem aw3_range {w : World} {g : Nat} (h : w.heap[g]? = some (.cells aw3 38)) : w.rangeAt g 0 (flatL 1 1) ∧ w.rangeAt g 9 (flatL 1 1) ∧ w.rangeAt g 18 (flatL 8 0) := by
  have e : ∀ j, w.cell? ⟨g, j, none⟩ = (flatL 1 1 ++ flatL 1 1 ++ flatL 8 0)[j]? := fun j => by rw [cell_of_blk h]; simp [aw3]
  refine ⟨fun j v hj => ?_, fun j v hj => ?_, fun j v hj => ?_⟩
  · have hl := (List.getElem?_eq_some_iff.1 hj).1
    rw [Nat.zero_add, e, List.append_assoc, List.getElem?_append_left hl, hj]
  · have hl := (List.getElem?_eq_some_iff.1 hj).1
    rw [e, List.append_assoc, List.getElem?_append_right (by simp), List.getElem?_append_left (by simpa using hl)]
    simpa using hj
  · have hl := (List.getElem?_eq_some_iff.1 hj).1
    rw [e, List.getElem?_append_right (by simp)]
    simpa using hj
abbrev listT (g : Nat) : Value := .agg #[.int .i64 9, .int .i64 0, .int .i64 0, .string ⟨#[]⟩, .string ⟨#[]⟩, .int .i64 0, .slice (some ⟨g, 0, none⟩) 3 3, .string ⟨#[]⟩, .int .i64 0]
theorem needL (w : World) (g : Nat) (hg : w.heap[g]? = some (.cells aw3 38)) :
    Calls Tryz.prog 68 #[listT g] w fun e w' => e = .returned (.int .i64 4) ∧ Below w.heap.size w w' := by
  have HR := Lib.hid (fun W (hb : Below w.heap.size w W) => aw3_range (w := W) ((hb.block g (Array.getElem?_eq_some_iff.1 hg).1).trans hg))
  have HI := Lib.hid (fun W => needInt W 1 (by omega) (by omega) (by decide))
  have HN := Lib.hid (fun W => needNil W 0)
  have HB := Lib.hid (fun o => belowA (Below.refl _ w) o)
  clear hg
  go_enter Tryz.func68, Tryz.ntmps68
  go_wp2_with fail
  refine wp_loop_rounds 4 ?_
  rw [rounds_succ]
  go_wp2_with (refine wpList_load_mid rfl 38 (.tmp 53) rfl g 0 rfl (flatL 1 1) _ (HR.out _ (HB.out _)).1 Tryz.underlying38 rfl (by kernel_rfl) ?_)
  refine (HI.out _).mono ?_
  rintro e W1 ⟨rfl, hb1⟩
  have HB1 := Lib.hid (show Below w.heap.size w W1 from (belowA (belowA (Below.refl _ w) _) _).trans (hb1.mono (belowA (belowA (Below.refl _ w) _) _).size))
  clear hb1
  go_wp2_with fail
  rw [rounds_succ]
  go_wp2_with (refine wpList_load_mid rfl 38 (.tmp 53) rfl g 9 rfl (flatL 1 1) _ (HR.out _ HB1.out).2.1 Tryz.underlying38 rfl (by kernel_rfl) ?_)
  refine (HI.out _).mono ?_
  rintro e W2 ⟨rfl, hb2⟩
  have HB2 := Lib.hid (show Below w.heap.size w W2 from (belowA HB1.out _).trans (hb2.mono (belowA HB1.out _).size))
  clear hb2
  go_wp2_with fail
  rw [rounds_succ]
  go_wp2_with (refine wpList_load_mid rfl 38 (.tmp 53) rfl g 18 rfl (flatL 8 0) _ (HR.out _ HB2.out).2.2 Tryz.underlying38 rfl (by kernel_rfl) ?_)
  refine (HN.out _).mono ?_
  rintro e W3 ⟨rfl, hb3⟩
  have HB3 := Lib.hid (show Below w.heap.size w W3 from (belowA HB2.out _).trans (hb3.mono (belowA HB2.out _).size))
  clear hb3
  go_wp2_with fail
  rw [rounds_succ]
  go_wp2_with fail
  go_ret
  exact ⟨rfl, HB3.out⟩
end Go.Proofs.YtpnlnbolhkcnjaaGreat.hp
namespace Go.Proofs.YtpnlnbolhkcnjaaGreat.hp
open Go.RowKit mem words rec
set_option linter.unusedVariables false
set_option linter.unusedSimpArgs false
set_option maxHeartbeats 4000000
set_option maxRecDepth 100000
theorem Step.then {B z a b : Nat} {c : Int} {vY vF vY1 vF1 : Value} {w w1 w2 : World} {Y2 : List Int} {F2 : List Bool} (t1 : TouchB (HB z vY vF) w w1) (c1 : ∀ k, HB z vY1 vF1 k → k < w.heap.size → HB z vY vF k) (h2 : Step B z a b c vY1 vF1 w1 Y2 F2 w2) : Step B z a b c vY vF w Y2 F2 w2 := by
  obtain ⟨vY2, vF2, h3, t2, c2⟩ := h2
  exact ⟨vY2, vF2, h3, t1.trans t2 (fun i hi h => c1 i h hi), fun k hk hl => c1 k (c2 k hk (Nat.lt_of_lt_of_le hl t1.size)) hl⟩
/-- a row of words in a block of its own -/
theorem words_at {w : World} {base : Nat} {v : Value} {l : List Int} (h : RecOwn encW 40 1 w base v l) (h0 : 0 < l.length) : ∃ g c, v = .slice (some ⟨g, 0, none⟩) l.length c ∧ base ≤ g ∧ g < w.heap.size ∧ ∀ j x, l[j]? = some x → w.cell? ⟨g, j, none⟩ = some (.int .u64 x) := by
  obtain ⟨p, c, rfl, _, _⟩ := h.shape
  have hr := h.row (encW_ok l)
  obtain ⟨g, o, rfl, _, _, hc⟩ := hr.nth h0
  have ho : o = 0 := by
    rcases h.2 with ⟨e, _⟩ | ⟨g', cap, cur, e, _⟩
    · simp at e
    · simp only [Value.slice.injEq, Option.some.injEq, Addr.mk.injEq, and_true] at e
      exact e.1.2
  subst ho
  obtain ⟨hb1, hb2⟩ := h.lt (k := g) rfl
  refine ⟨g, c, rfl, hb1, hb2, fun j x hj => ?_⟩
  have := hc j x hj 0 (.int .u64 x) rfl
  simpa using this
abbrev flatC9 (g : Nat) : Array Value := #[.int .i64 9, .int .i64 0, .int .i64 0, .string ⟨#[]⟩, .string ⟨#[]⟩, .int .i64 0, .slice (some ⟨g, 0, none⟩) 3 3, .string ⟨#[]⟩, .int .i64 0]
theorem putL {w : World} {B z a b g : Nat} {c : Int} {vY vF : Value} (h : HA w B z a b c vY vF [] []) (hg : w.heap[g]? = some (.cells aw3 38)) :
    Calls Tryz.prog 69 #[.pointer (some ⟨z, 0, none⟩), listT g] w fun e w' => e = .returned (.int .u64 17) ∧ Step B z a b c vY vF w [19, 11, 19, 1] [true, false, true, false] w' := by
  have HR := Lib.hid (fun W (hb : Below w.heap.size w W) => aw3_range (w := W) ((hb.block g (Array.getElem?_eq_some_iff.1 hg).1).trans hg))
  have HI := Lib.hid (fun W => (show smallW 1 = 19 by decide) ▸ putInt W (some ⟨z, 0, none⟩) 1 (by omega) (by omega) (by decide))
  have HN := Lib.hid (fun W => putNil W (some ⟨z, 0, none⟩) 0)
  have HH := Lib.hid h
  have hmk : ∀ W : World, (Instr.makeSlice 22 (.int .i64 0) (.int .i64 3)).run Tryz.prog W = .ok (.slice (some ⟨W.heap.size, 0, none⟩) 0 3) (W.alloc (.cells (mkc 3) 40)) := fun W => mk22 W 3 (by omega)
  clear hg h
  go_enter Tryz.func69, Tryz.ntmps69
  go_wp2_with fail
  have hbx := heap_alloc_new w (.cells (flatC9 g) 38)
  have hbw : Below w.heap.size w (w.alloc (.cells (flatC9 g) 38)) := belowA (Below.refl _ w) _
  have hsw : (w.alloc (.cells (flatC9 g) 38)).heap.size = w.heap.size + 1 := World.size_alloc _ _
  have O0 : Hid (RecOwn encW 40 1 ((w.alloc (.cells (flatC9 g) 38)).alloc (.cells (mkc 3) 40)) (w.alloc (.cells (flatC9 g) 38)).heap.size (.slice (some ⟨w.heap.size + 1, 0, none⟩) 0 3) []) := Lib.hid (by
    have := World.ownsRow_made (e := 40) (size := 1) (base := (w.alloc (.cells (flatC9 g) 38)).heap.size) (w.alloc (.cells (flatC9 g) 38)) (mkc 3) 3 (Nat.le_refl _) (by unfold maxLen; omega) (by rw [mkc_size])
    rw [hsw] at this
    rw [hsw]
    exact this)
  generalize w.alloc (.cells (flatC9 g) 38) = w1 at *
  have HB0 := Lib.hid (show Below w1.heap.size w1 (w1.alloc (.cells (mkc 3) 40)) from belowA (Below.refl _ w1) _)
  have HR := Lib.hid (fun W (hb : Below w1.heap.size w1 W) => HR.out W (hbw.trans (hb.mono hbw.size)))
  have HX := Lib.hid (fun W (hb : Below w1.heap.size w1 W) => (hb.block w.heap.size (by omega)).trans hbx)
  have HBW := Lib.hid hbw
  have HSW := Lib.hid hsw
  clear hbx hbw hsw
  generalize w1.alloc (.cells (mkc 3) 40) = W0 at *
  generalize (Value.slice (some ⟨w.heap.size + 1, 0, none⟩) 0 3) = v0 at *
  refine wp_loop_rounds 4 ?_
  rw [rounds_succ]
  go_wp2_with (refine wpList_load_mid rfl 38 (.tmp 19) rfl g 0 rfl (flatL 1 1) _ (HR.out _ HB0.out).1 Tryz.underlying38 rfl (by kernel_rfl) ?_)
  refine (HI.out _).mono ?_
  rintro e V0 ⟨rfl, hv⟩
  have hbx : Below W0.heap.size W0 V0 := (belowA (Below.refl _ W0) _).trans (hv.mono (belowA (Below.refl _ W0) _).size)
  have hby := belowA hbx (.cells #[.int .u64 19] 40)
  have hbw := HB0.out.trans (hby.mono HB0.out.size)
  have OA : Hid (RecOwn encW 40 1 (V0.alloc (.cells #[.int .u64 19] 40)) w1.heap.size v0 []) := Lib.hid (O0.out.below hby)
  have RA : Hid (RecAt encW 1 (V0.alloc (.cells #[.int .u64 19] 40)) (V0.heap.size + 1) (.slice (some ⟨V0.heap.size, 0, none⟩) 1 1) [19]) := Lib.hid (RecAt.fresh (encW_ok [19]) (by decide) (heap_alloc_new V0 _) (Nat.le_refl 1) (by unfold maxLen; omega))
  have hsz := hbw.size
  have HBn := Lib.hid hbw
  have HBb := Lib.hid hsz
  clear hv hbx hby hbw hsz
  go_wp2_with (refine wpList_append_rec (enc := encW) elW rfl (.tmp 21) (.tmp 25) rfl rfl (base := w1.heap.size) (l := []) OA.out HBb.out (B := V0.heap.size + 1) (xs := [19]) rfl RA.out (encW_ok _) (by decide) ?_)
  intro v1 W1 hA
  have O1 : Hid (RecOwn encW 40 1 W1 w1.heap.size v1 [19]) := Lib.hid hA.own
  have HB1 := Lib.hid (hA.belowB HBn.out HBb.out (fun k hk => (OA.out.lt hk).1))
  clear hA OA RA HBn HBb O0 HB0
  go_wp2_with fail
  rw [rounds_succ]
  go_wp2_with (refine wpList_load_mid rfl 38 (.tmp 19) rfl g 9 rfl (flatL 1 1) _ (HR.out _ HB1.out).2.1 Tryz.underlying38 rfl (by kernel_rfl) ?_)
  refine (HI.out _).mono ?_
  rintro e V1 ⟨rfl, hv⟩
  have hbx : Below W1.heap.size W1 V1 := (belowA (Below.refl _ W1) _).trans (hv.mono (belowA (Below.refl _ W1) _).size)
  have hby := belowA hbx (.cells #[.int .u64 19] 40)
  have hbw := HB1.out.trans (hby.mono HB1.out.size)
  have OA : Hid (RecOwn encW 40 1 (V1.alloc (.cells #[.int .u64 19] 40)) w1.heap.size v1 [19]) := Lib.hid (O1.out.below hby)
  have RA : Hid (RecAt encW 1 (V1.alloc (.cells #[.int .u64 19] 40)) (V1.heap.size + 1) (.slice (some ⟨V1.heap.size, 0, none⟩) 1 1) [19]) := Lib.hid (RecAt.fresh (encW_ok [19]) (by decide) (heap_alloc_new V1 _) (Nat.le_refl 1) (by unfold maxLen; omega))
  have hsz := hbw.size
  have HBn := Lib.hid hbw
  have HBb := Lib.hid hsz
  clear hv hbx hby hbw hsz
  go_wp2_with (refine wpList_append_rec (enc := encW) elW rfl (.tmp 21) (.tmp 25) rfl rfl (base := w1.heap.size) (l := [19]) OA.out HBb.out (B := V1.heap.size + 1) (xs := [19]) rfl RA.out (encW_ok _) (by decide) ?_)
  intro v2 W2 hA
  have O2 : Hid (RecOwn encW 40 1 W2 w1.heap.size v2 [19, 19]) := Lib.hid hA.own
  have HB2 := Lib.hid (hA.belowB HBn.out HBb.out (fun k hk => (OA.out.lt hk).1))
  clear hA OA RA HBn HBb O1 HB1
  go_wp2_with fail
  rw [rounds_succ]
  go_wp2_with (refine wpList_load_mid rfl 38 (.tmp 19) rfl g 18 rfl (flatL 8 0) _ (HR.out _ HB2.out).2.2 Tryz.underlying38 rfl (by kernel_rfl) ?_)
  refine (HN.out _).mono ?_
  rintro e V2 ⟨rfl, hv⟩
  have hbx : Below W2.heap.size W2 V2 := (belowA (Below.refl _ W2) _).trans (hv.mono (belowA (Below.refl _ W2) _).size)
  have hby := belowA hbx (.cells #[.int .u64 11] 40)
  have hbw := HB2.out.trans (hby.mono HB2.out.size)
  have OA : Hid (RecOwn encW 40 1 (V2.alloc (.cells #[.int .u64 11] 40)) w1.heap.size v2 [19, 19]) := Lib.hid (O2.out.below hby)
  have RA : Hid (RecAt encW 1 (V2.alloc (.cells #[.int .u64 11] 40)) (V2.heap.size + 1) (.slice (some ⟨V2.heap.size, 0, none⟩) 1 1) [11]) := Lib.hid (RecAt.fresh (encW_ok [11]) (by decide) (heap_alloc_new V2 _) (Nat.le_refl 1) (by unfold maxLen; omega))
  have hsz := hbw.size
  have HBn := Lib.hid hbw
  have HBb := Lib.hid hsz
  clear hv hbx hby hbw hsz
  go_wp2_with (refine wpList_append_rec (enc := encW) elW rfl (.tmp 21) (.tmp 25) rfl rfl (base := w1.heap.size) (l := [19, 19]) OA.out HBb.out (B := V2.heap.size + 1) (xs := [11]) rfl RA.out (encW_ok _) (by decide) ?_)
  intro v3 W3 hA
  have O3 : Hid (RecOwn encW 40 1 W3 w1.heap.size v3 [19, 19, 11]) := Lib.hid hA.own
  have HB3 := Lib.hid (hA.belowB HBn.out HBb.out (fun k hk => (OA.out.lt hk).1))
  clear hA OA RA HBn HBb O2 HB2
  go_wp2_with fail
  have hb3 := HBW.out.trans (HB3.out.mono HBW.out.size)
  have hH3 := HH.out.below hb3
  obtain ⟨gi, ci, ev, hi1, hi2, hic⟩ := words_at O3.out (by decide)
  have hng : Hid (¬ HB z vY vF gi) := Lib.hid (by
    have hzl := (Array.getElem?_eq_some_iff.1 HH.out.blk).1
    have := HSW.out
    rintro (e | e | e)
    · omega
    · have := (HH.out.y.lt e).2; omega
    · have := (HH.out.f.lt e).2; omega)
  have ev' : v3 = .slice (some ⟨gi, 0, none⟩) 3 ci := ev
  clear ev
  subst ev'
  have x0 : W3.cell? ⟨gi, 0, none⟩ = some (.int .u64 19) := hic 0 19 rfl
  have x1 : W3.cell? ⟨gi, 1, none⟩ = some (.int .u64 19) := hic 1 19 rfl
  have x2 : W3.cell? ⟨gi, 2, none⟩ = some (.int .u64 11) := hic 2 11 rfl
  have HC1 : Hid (Calls Tryz.prog 100 #[.pointer (some ⟨z, 0, none⟩), .int .u64 19, .int .u64 11] W3 fun e w' => e = .returned (.int .u64 1) ∧ Step B z a b c vY vF W3 [19, 11] [true, false] w') :=
    Lib.hid ((cell100 hH3 rfl 19 11 (by decide)).mono fun e w' h => ⟨h.1.trans (congrArg (fun q => Ending.returned (.int .u64 q)) (show ptrW 1 false ((0 : Nat) : Int) = 1 by decide)), h.2⟩)
  have HG := Lib.hid hi2
  have HB4 := Lib.hid hb3
  have b0 : W3.cell? ⟨w.heap.size, 0, none⟩ = some (.int .i64 9) := (cell_of_blk (HX.out _ HB3.out)).trans rfl
  clear O3 hH3 hic hi1 hi2 hb3
  rw [rounds_succ]
  go_wp2_with fail
  refine wp_loop_rounds 3 ?_
  rw [rounds_succ]
  go_wp2_with fail
  refine HC1.out.mono ?_
  rintro e W4 ⟨rfl, hS⟩
  obtain ⟨vY1, vF1, hA4, t4, c4⟩ := hS
  have y0 : W4.cell? ⟨gi, 0, none⟩ = some (.int .u64 19) := (t4.cell (p := ⟨gi, 0, none⟩) HG.out hng.out).trans x0
  have HC2 : Hid (Calls Tryz.prog 100 #[.pointer (some ⟨z, 0, none⟩), .int .u64 19, .int .u64 1] W4 fun e w' => e = .returned (.int .u64 17) ∧ Step B z a b c vY1 vF1 W4 [19, 11, 19, 1] [true, false, true, false] w') :=
    Lib.hid ((cell100 hA4 rfl 19 1 (by decide)).mono fun e w' h => ⟨h.1.trans (congrArg (fun q => Ending.returned (.int .u64 q)) (show ptrW 1 false ((2 : Nat) : Int) = 17 by decide)), h.2⟩)
  have HT := Lib.hid t4
  have HK := Lib.hid c4
  clear hA4 t4 c4 x0 x1 x2 HC1
  go_wp2_with fail
  rw [rounds_succ]
  go_wp2_with fail
  refine HC2.out.mono ?_
  rintro e W5 ⟨rfl, hS⟩
  have HS := Lib.hid (Step.of_below HB4.out (Step.then HT.out HK.out hS))
  clear hS HC2 y0
  go_wp2_with fail
  rw [rounds_succ]
  go_wp2_with fail
  go_ret
  exact ⟨rfl, HS.out⟩
end Go.Proofs.YtpnlnbolhkcnjaaGreat.hp
