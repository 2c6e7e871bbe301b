/- Several texts in one, one behind the other: CsC. No condition beyond theirs. -/
import Derived.Test.YtegffanlehaloaaIsL
import Derived.Test.YtegffanlehaloaaIsB
import Derived.Lib.OwnBridge
/- slices.SortFunc over words, by the places of pointers. Conditions: the row is the call's own. -/
namespace Go.Proofs.Ytegffanlehaloaa.cl
open Go.RowKit mem words Go.Sort
set_option linter.unusedVariables false
set_option linter.unusedSimpArgs false
set_option maxHeartbeats 4000000
set_option maxRecDepth 100000
theorem pIx_rng {v : Int} (v0 : 0 ≤ v) : 0 ≤ pIx v ∧ pIx v ≤ 2147483647 := by
  unfold pIx
  split
  · rename_i h
    have := ((pOk_iff v).1 h).2
    omega
  · omega
theorem cmp47 (x y : Int) (x0 : 0 ≤ x) (x1 : x ≤ 18446744073709551615) (y0 : 0 ≤ y) (y1 : y ≤ 18446744073709551615) (w : World) :
    Calls Try.prog 47 #[.int .u64 x, .int .u64 y] w fun e w' => e = .returned (.int .i64 (pcmp x y)) ∧ w = w' := by
  have HPx := Lib.hid (fun W => Pointer x x0 x1 W)
  have HPy := Lib.hid (fun W => Pointer y y0 y1 W)
  obtain ⟨a0, a1⟩ := pIx_rng x0
  obtain ⟨b0, b1⟩ := pIx_rng y0
  have HC : Hid (pcmp x y = if pOld x = pOld y then pIx x - pIx y else if pOld x = true then 1 else -1) := Lib.hid rfl
  generalize pcmp x y = c at *
  generalize pOk x = kx at *
  generalize pOk y = ky at *
  generalize pIx x = ix at *
  generalize pIx y = iy at *
  generalize pOld x = bx at *
  generalize pOld y = bY at *
  have hw : IntKind.i64.wrap (ix - iy) = ix - iy := IntWalk.i64_in _ (by omega)
  cases bx <;> cases bY
  · have HC2 : Hid (c = ix - iy) := Lib.hid (by have := HC.out; simpa using this)
    go_enter Try.func47, Try.ntmps47
    go_wp2_with (first | (go_at_call 42; (first | (with_reducible refine (HPx.out _).mono ?_) | (with_reducible refine (HPy.out _).mono ?_)); rintro e w' ⟨rfl, rfl⟩))
    go_ret
    exact ⟨by rw [HC2.out]; rfl, rfl⟩
  · have HC2 : Hid (c = -1) := Lib.hid (by have := HC.out; simpa using this)
    go_enter Try.func47, Try.ntmps47
    go_wp2_with (first | (go_at_call 42; (first | (with_reducible refine (HPx.out _).mono ?_) | (with_reducible refine (HPy.out _).mono ?_)); rintro e w' ⟨rfl, rfl⟩))
    go_ret
    exact ⟨by rw [HC2.out]; rfl, rfl⟩
  · have HC2 : Hid (c = 1) := Lib.hid (by have := HC.out; simpa using this)
    go_enter Try.func47, Try.ntmps47
    go_wp2_with (first | (go_at_call 42; (first | (with_reducible refine (HPx.out _).mono ?_) | (with_reducible refine (HPy.out _).mono ?_)); rintro e w' ⟨rfl, rfl⟩))
    go_ret
    exact ⟨by rw [HC2.out]; rfl, rfl⟩
  · have HC2 : Hid (c = ix - iy) := Lib.hid (by have := HC.out; simpa using this)
    go_enter Try.func47, Try.ntmps47
    go_wp2_with (first | (go_at_call 42; (first | (with_reducible refine (HPx.out _).mono ?_) | (with_reducible refine (HPy.out _).mono ?_)); rintro e w' ⟨rfl, rfl⟩))
    go_ret
    exact ⟨by rw [HC2.out]; rfl, rfl⟩
section
variable {Q : List Int}
def encQ (q : { q // q ∈ Q }) : Value := .int .u64 q.1
def cfQ (x y : { q // q ∈ Q }) : Int := pcmp x.1 y.1
theorem ltQ (x y : { q // q ∈ Q }) : ltOf cfQ x y = pltB x.1 y.1 := by unfold ltOf cfQ; exact pcmp_lt _ _
theorem swoQ : SWO (ltOf (cfQ (Q := Q))) where
  irrefl x := by rw [ltQ]; exact pltB_irrefl _
  trans x y z h1 h2 := by rw [ltQ] at *; exact pltB_trans h1 h2
  ntrans x y z h1 h2 := by rw [ltQ] at *; exact pltB_ntrans h1 h2
end
theorem sort_touch {α : Type} [Inhabited α] (enc : α → Value) (w : World) (blk off m : Nat) (dk : Array α) (os : Array Obj) : TouchB (fun k => k = blk) w (sortWorld enc w blk off m dk os) := by
  unfold sortWorld
  refine ⟨rfl, rfl, rfl, ?_, fun k hk hn => ?_⟩
  · rw [size_grow, Sort.size_putRow]; exact Nat.le_add_right _ _
  · rw [heap_grow_old _ _ (by rw [Sort.size_putRow]; exact hk)]
    simp [putRow, mapBlock, Sort.ahead, Array.getElem?_modify, show blk ≠ k from fun e => hn e.symm]
theorem sort46 {w : World} {blk c base : Nat} {Q : List Int} (hq : Q ≠ []) (hl : Q.length ≤ 200000) (hown : WOwn w base (.slice (some ⟨blk, 0, none⟩) Q.length c) Q) (hw : Wds Q) :
    Calls Try.prog 46 #[.slice (some ⟨blk, 0, none⟩) Q.length c, .func (.func 47) #[] #[]] w fun e w' => e = .returned (.tuple #[]) ∧ ∃ l', l'.Perm Q ∧ Srt l' ∧ (∀ j, (h : j < l'.length) → w'.cell? ⟨blk, j, none⟩ = some (.int .u64 l'[j])) ∧ TouchB (fun k => k = blk) w w' := by
  have hpos := List.length_pos_iff.2 hq
  haveI : Inhabited { q // q ∈ Q } := ⟨⟨Q[0], List.getElem_mem hpos⟩⟩
  have hrow : (Q.attach.map encQ) = Q.map (Value.int .u64) := by
    unfold encQ
    have : (fun q : { q // q ∈ Q } => Value.int .u64 q.1) = (Value.int .u64) ∘ Subtype.val := rfl
    rw [this, ← List.map_map, List.attach_map_subtype_val]
  unfold WOwn at hown
  rw [← hrow] at hown
  obtain ⟨g, cap, e, _, hlt, hcap, _, hl2, hH⟩ := Lib.holds_of_ownsRow hown (by simp)
  simp only [Value.slice.injEq, Option.some.injEq, Addr.mk.injEq] at e
  obtain ⟨⟨rfl, _⟩, _, rfl⟩ := e
  have hsz : Q.attach.toArray.size = Q.length := by simp
  have hcmp : CmpLays1 (α := { q // q ∈ Q }) Try.prog 47 #[] encQ cfQ blk 0 Q.attach.toArray.size w := by
    intro m os dk hs x y
    exact (cmp47 x.1 y.1 (hw _ x.2).1 (hw _ x.2).2 (hw _ y.2).1 (hw _ y.2).2 _).mono (fun e w' h => ⟨h.1, 0, #[], by rw [grow_empty]; exact h.2.symm⟩)
  have eg : ∀ args w, (callFunc 47 args).run Try.prog w = .ok (.enter 47 args) w := enters_of Try.func47 (by kernel_rfl) rfl
  have hp := Any.slices_SortFunc (α := { q // q ∈ Q }) Try.srtL encQ (fun _ => rfl) cfQ swoQ 47 #[] blk 0 c Q.attach.toArray w eg hcmp hH hlt (by rw [hsz]; omega)
  rw [hsz] at hp
  change Calls Try.prog 46 _ _ _ at hp
  refine hp.mono ?_
  rintro e w' ⟨rfl, d', n, os, ⟨h4, _, h5⟩, h3, rfl⟩
  refine ⟨rfl, d'.toList.map (·.1), ?_, ?_, ?_, sort_touch _ _ _ _ _ _ _⟩
  · have e1 : d'.extract 0 Q.length = d' := by rw [← hsz, ← h4]; simp
    have e2 : Q.attach.toArray.extract 0 Q.length = Q.attach.toArray := by rw [← hsz]; exact Array.extract_size
    rw [e1, e2] at h5
    have := h5.map (·.1)
    simpa using this
  · unfold Srt
    rw [List.pairwise_map, List.pairwise_iff_getElem]
    intro i j hi hj hij
    have h6 := h3 i j (Nat.zero_le _) hij (by rw [← hsz, ← h4]; simpa using hj)
    rw [getElem!_pos _ j (by simpa using hj), getElem!_pos _ i (by simpa using hi), ltQ] at h6
    simpa using h6
  · intro j hj
    have hj' : j < d'.size := by simpa using hj
    have := (holds_sortWorld (α := { q // q ∈ Q }) encQ _ blk 0 n Q.attach.toArray d' os hlt hH h4 j hj').1
    rw [Nat.zero_add, getElem!_pos d' j hj'] at this
    rw [this]
    simp [encQ]
theorem ins0 (p : Option Addr) (c : Nat) (fv : Value) (w : World) : Calls Try.prog 101 #[.slice p 0 c, .int .i64 0, .int .i64 0, fv] w fun e w' => e = .returned (.tuple #[]) ∧ w = w' := by
  go_enter Try.func101, Try.ntmps101
  go_wp2_with fail
  refine wp_loop_rounds 1 ?_
  rw [rounds_succ]
  go_wp2_with fail
  go_end0
  exact ⟨rfl, rfl⟩
theorem pdq0 (p : Option Addr) (c : Nat) (lim : Int) (fv : Value) (w : World) : Calls Try.prog 77 #[.slice p 0 c, .int .i64 0, .int .i64 0, .int .i64 lim, fv] w fun e w' => e = .returned (.tuple #[]) ∧ w = w' := by
  go_enter Try.func77, Try.ntmps77
  go_wp2_with fail
  refine wp_loop_rounds 1 ?_
  rw [rounds_succ]
  go_wp2_with fail
  refine (ins0 p c fv w).mono ?_
  rintro e w' ⟨rfl, rfl⟩
  go_wp2_with fail
  (try simp only [Exit.inBlock, Exit.then])
  refine bodyPost_ret (results_none rfl _ _ _) rfl ?_
  exact ⟨rfl, rfl⟩
theorem sort0 (p : Option Addr) (c : Nat) (fv : Value) (w : World) : Calls Try.prog 46 #[.slice p 0 c, fv] w fun e w' => e = .returned (.tuple #[]) ∧ w = w' := by
  have hl : ∀ W, Calls Try.prog 78 #[.int .u64 0] W fun e w' => e = .returned (.int .i64 (Lib.bitLen 0 : Nat)) ∧ w' = W := fun W =>
    Any.bits_Len (SlLaysF0.n15.bits (P := Try.prog) (ρ := Try.srtL_ren) { Try.srtL with }) 0 W (by omega) (by omega)
  go_enter Try.func46, Try.ntmps46
  go_wp2_with (first | (go_at_call 78; refine (hl _).mono ?_; rintro e w' ⟨rfl, rfl⟩) | (go_at_call 77; refine (pdq0 _ _ _ _ _).mono ?_; rintro e w' ⟨rfl, rfl⟩))
  go_end0
  exact ⟨rfl, rfl⟩
end Go.Proofs.Ytegffanlehaloaa.cl
