/- Several texts in one, one behind the other: CsC, CsE, CuC. No condition beyond theirs. -/
import Derived.Test.YtegffanlehaloaaGreatCsL
import Derived.Test.YtegffanlehaloaaGreatGw
import Derived.Lib.OwnBridge
import Derived.Test.YtegffanlehaloaaGreatGv
import Derived.Laws.EntriesVeiled

/- slices.SortFunc over words, by the places of pointers. Conditions: the row is the call's own. -/
namespace Go.Proofs.YtegffanlehaloaaGreat.cl
open Go.RowKit mem words Go.Sort
set_option linter.unusedVariables false
set_option linter.unusedSimpArgs false
set_option maxHeartbeats 4000000
set_option maxRecDepth 100000
theorem pIx_rng {v : Int} (v0 : 0 ≤ v) : 0 ≤ pIx v ∧ pIx v ≤ 2147483647 := by
  unfold pIx
  split
  · rename_i h
    have := ((pOk_iff v).1 h).2
    omega
  · omega
theorem cmp47 (x y : Int) (x0 : 0 ≤ x) (x1 : x ≤ 18446744073709551615) (y0 : 0 ≤ y) (y1 : y ≤ 18446744073709551615) (w : World) :
    Calls Tryz.prog 27 #[.int .u64 x, .int .u64 y] w fun e w' => e = .returned (.int .i64 (pcmp x y)) ∧ w = w' := by
  have HPx := Lib.hid (fun W => Pointer x x0 x1 W)
  have HPy := Lib.hid (fun W => Pointer y y0 y1 W)
  obtain ⟨a0, a1⟩ := pIx_rng x0
  obtain ⟨b0, b1⟩ := pIx_rng y0
  have HC : Hid (pcmp x y = if pOld x = pOld y then pIx x - pIx y else if pOld x = true then 1 else -1) := Lib.hid rfl
  generalize pcmp x y = c at *
  generalize pOk x = kx at *
  generalize pOk y = ky at *
  generalize pIx x = ix at *
  generalize pIx y = iy at *
  generalize pOld x = bx at *
  generalize pOld y = bY at *
  have hw : IntKind.i64.wrap (ix - iy) = ix - iy := IntWalk.i64_in _ (by omega)
  cases bx <;> cases bY
  · have HC2 : Hid (c = ix - iy) := Lib.hid (by have := HC.out; simpa using this)
    go_enter Tryz.func27, Tryz.ntmps27
    go_wp2_with (first | (go_at_call 22; (first | (with_reducible refine (HPx.out _).mono ?_) | (with_reducible refine (HPy.out _).mono ?_)); rintro e w' ⟨rfl, rfl⟩))
    go_ret
    exact ⟨by rw [HC2.out]; rfl, rfl⟩
  · have HC2 : Hid (c = -1) := Lib.hid (by have := HC.out; simpa using this)
    go_enter Tryz.func27, Tryz.ntmps27
    go_wp2_with (first | (go_at_call 22; (first | (with_reducible refine (HPx.out _).mono ?_) | (with_reducible refine (HPy.out _).mono ?_)); rintro e w' ⟨rfl, rfl⟩))
    go_ret
    exact ⟨by rw [HC2.out]; rfl, rfl⟩
  · have HC2 : Hid (c = 1) := Lib.hid (by have := HC.out; simpa using this)
    go_enter Tryz.func27, Tryz.ntmps27
    go_wp2_with (first | (go_at_call 22; (first | (with_reducible refine (HPx.out _).mono ?_) | (with_reducible refine (HPy.out _).mono ?_)); rintro e w' ⟨rfl, rfl⟩))
    go_ret
    exact ⟨by rw [HC2.out]; rfl, rfl⟩
  · have HC2 : Hid (c = ix - iy) := Lib.hid (by have := HC.out; simpa using this)
    go_enter Tryz.func27, Tryz.ntmps27
    go_wp2_with (first | (go_at_call 22; (first | (with_reducible refine (HPx.out _).mono ?_) | (with_reducible refine (HPy.out _).mono ?_)); rintro e w' ⟨rfl, rfl⟩))
    go_ret
    exact ⟨by rw [HC2.out]; rfl, rfl⟩
section
variable {Q : List Int}
def encQ (q : { q // q ∈ Q }) : Value := .int .u64 q.1
def cfQ (x y : { q // q ∈ Q }) : Int := pcmp x.1 y.1
theorem ltQ (x y : { q // q ∈ Q }) : ltOf cfQ x y = pltB x.1 y.1 := by unfold ltOf cfQ; exact pcmp_lt _ _
theorem swoQ : SWO (ltOf (cfQ (Q := Q))) where
  irrefl x := by rw [ltQ]; exact pltB_irrefl _
  trans x y z h1 h2 := by rw [ltQ] at *; exact pltB_trans h1 h2
  ntrans x y z h1 h2 := by rw [ltQ] at *; exact pltB_ntrans h1 h2
end
theorem sort_touch {α : Type} [Inhabited α] (enc : α → Value) (w : World) (blk off m : Nat) (dk : Array α) (os : Array Obj) : TouchB (fun k => k = blk) w (sortWorld enc w blk off m dk os) := by
  unfold sortWorld
  refine ⟨rfl, rfl, rfl, ?_, fun k hk hn => ?_⟩
  · rw [size_grow, Sort.size_putRow]; exact Nat.le_add_right _ _
  · rw [heap_grow_old _ _ (by rw [Sort.size_putRow]; exact hk)]
    simp [putRow, mapBlock, Sort.ahead, Array.getElem?_modify, show blk ≠ k from fun e => hn e.symm]
theorem sort46 {w : World} {blk c base : Nat} {Q : List Int} (hq : Q ≠ []) (hl : Q.length ≤ 200000) (hown : WOwn w base (.slice (some ⟨blk, 0, none⟩) Q.length c) Q) (hw : Wds Q) :
    Calls Tryz.prog 26 #[.slice (some ⟨blk, 0, none⟩) Q.length c, .func (.func 27) #[] #[]] w fun e w' => e = .returned (.tuple #[]) ∧ ∃ l', l'.Perm Q ∧ Srt l' ∧ (∀ j, (h : j < l'.length) → w'.cell? ⟨blk, j, none⟩ = some (.int .u64 l'[j])) ∧ TouchB (fun k => k = blk) w w' := by
  have hpos := List.length_pos_iff.2 hq
  haveI : Inhabited { q // q ∈ Q } := ⟨⟨Q[0], List.getElem_mem hpos⟩⟩
  have hrow : (Q.attach.map encQ) = Q.map (Value.int .u64) := by
    unfold encQ
    have : (fun q : { q // q ∈ Q } => Value.int .u64 q.1) = (Value.int .u64) ∘ Subtype.val := rfl
    rw [this, ← List.map_map, List.attach_map_subtype_val]
  unfold WOwn at hown
  rw [← hrow] at hown
  obtain ⟨g, cap, e, _, hlt, hcap, _, hl2, hH⟩ := Lib.holds_of_ownsRow hown (by simp)
  simp only [Value.slice.injEq, Option.some.injEq, Addr.mk.injEq] at e
  obtain ⟨⟨rfl, _⟩, _, rfl⟩ := e
  have hsz : Q.attach.toArray.size = Q.length := by simp
  have hcmp : CmpLays1 (α := { q // q ∈ Q }) Tryz.prog 27 #[] encQ cfQ blk 0 Q.attach.toArray.size w := by
    intro m os dk hs x y
    exact (cmp47 x.1 y.1 (hw _ x.2).1 (hw _ x.2).2 (hw _ y.2).1 (hw _ y.2).2 _).mono (fun e w' h => ⟨h.1, 0, #[], by rw [grow_empty]; exact h.2.symm⟩)
  have eg : ∀ args w, (callFunc 27 args).run Tryz.prog w = .ok (.enter 27 args) w := enters_of Tryz.func27 (by kernel_rfl) rfl
  have hp := Any.slices_SortFunc (α := { q // q ∈ Q }) Tryz.srtL encQ (fun _ => rfl) cfQ swoQ 27 #[] blk 0 c Q.attach.toArray w eg hcmp hH hlt (by rw [hsz]; omega)
  rw [hsz] at hp
  change Calls Tryz.prog 26 _ _ _ at hp
  refine hp.mono ?_
  rintro e w' ⟨rfl, d', n, os, ⟨h4, _, h5⟩, h3, rfl⟩
  refine ⟨rfl, d'.toList.map (·.1), ?_, ?_, ?_, sort_touch _ _ _ _ _ _ _⟩
  · have e1 : d'.extract 0 Q.length = d' := by rw [← hsz, ← h4]; simp
    have e2 : Q.attach.toArray.extract 0 Q.length = Q.attach.toArray := by rw [← hsz]; exact Array.extract_size
    rw [e1, e2] at h5
    have := h5.map (·.1)
    simpa using this
  · unfold Srt
    rw [List.pairwise_map, List.pairwise_iff_getElem]
    intro i j hi hj hij
    have h6 := h3 i j (Nat.zero_le _) hij (by rw [← hsz, ← h4]; simpa using hj)
    rw [getElem!_pos _ j (by simpa using hj), getElem!_pos _ i (by simpa using hi), ltQ] at h6
    simpa using h6
  · intro j hj
    have hj' : j < d'.size := by simpa using hj
    have := (holds_sortWorld (α := { q // q ∈ Q }) encQ _ blk 0 n Q.attach.toArray d' os hlt hH h4 j hj').1
    rw [Nat.zero_add, getElem!_pos d' j hj'] at this
    rw [this]
    simp [encQ]
theorem ins0 (p : Option Addr) (c : Nat) (fv : Value) (w : World) : Calls Tryz.prog 67 #[.slice p 0 c, .int .i64 0, .int .i64 0, fv] w fun e w' => e = .returned (.tuple #[]) ∧ w = w' := by
  go_enter Tryz.func67, Tryz.ntmps67
  go_wp2_with fail
  refine wp_loop_rounds 1 ?_
  rw [rounds_succ]
  go_wp2_with fail
  go_end0
  exact ⟨rfl, rfl⟩
theorem pdq0 (p : Option Addr) (c : Nat) (lim : Int) (fv : Value) (w : World) : Calls Tryz.prog 49 #[.slice p 0 c, .int .i64 0, .int .i64 0, .int .i64 lim, fv] w fun e w' => e = .returned (.tuple #[]) ∧ w = w' := by
  go_enter Tryz.func49, Tryz.ntmps49
  go_wp2_with fail
  refine wp_loop_rounds 1 ?_
  rw [rounds_succ]
  go_wp2_with fail
  refine (ins0 p c fv w).mono ?_
  rintro e w' ⟨rfl, rfl⟩
  go_wp2_with fail
  (try simp only [Exit.inBlock, Exit.then])
  refine bodyPost_ret (results_none rfl _ _ _) rfl ?_
  exact ⟨rfl, rfl⟩
theorem sort0 (p : Option Addr) (c : Nat) (fv : Value) (w : World) : Calls Tryz.prog 26 #[.slice p 0 c, fv] w fun e w' => e = .returned (.tuple #[]) ∧ w = w' := by
  have hl : ∀ W, Calls Tryz.prog 50 #[.int .u64 0] W fun e w' => e = .returned (.int .i64 (Lib.bitLen 0 : Nat)) ∧ w' = W := fun W =>
    Any.bits_Len (SlLaysF0.n15.bits (P := Tryz.prog) (ρ := Tryz.srtL_ren) { Tryz.srtL with }) 0 W (by omega) (by omega)
  go_enter Tryz.func26, Tryz.ntmps26
  go_wp2_with (first | (go_at_call 50; refine (hl _).mono ?_; rintro e w' ⟨rfl, rfl⟩) | (go_at_call 49; refine (pdq0 _ _ _ _ _).mono ?_; rintro e w' ⟨rfl, rfl⟩))
  go_end0
  exact ⟨rfl, rfl⟩
end Go.Proofs.YtegffanlehaloaaGreat.cl

/- Reach. Conditions: the areas and roots lie in memory. -/
namespace Go.Proofs.YtegffanlehaloaaGreat.cl
open Go.RowKit mem words
set_option linter.unusedVariables false
set_option linter.unusedSimpArgs false
set_option maxHeartbeats 4000000
set_option maxRecDepth 100000
attribute [local go_sem] Oper.semAt_some
theorem lit64 {T : List Value} {ds : List Deferred} (hl : T.length = 64) {a b c d : Value} (h2 : T[2]? = some a) (h7 : T[7]? = some b) (h8 : T[8]? = some c) (h11 : T[11]? = some d) : ∃ U : Nat → Value, U 2 = a ∧ U 7 = b ∧ U 8 = c ∧ U 11 = d ∧ ({ tmps := T.toArray, defers := ds } : Act) = { tmps := #[U 0, U 1, U 2, U 3, U 4, U 5, U 6, U 7, U 8, U 9, U 10, U 11, U 12, U 13, U 14, U 15, U 16, U 17, U 18, U 19, U 20, U 21, U 22, U 23, U 24, U 25, U 26, U 27, U 28, U 29, U 30, U 31, U 32, U 33, U 34, U 35, U 36, U 37, U 38, U 39, U 40, U 41, U 42, U 43, U 44, U 45, U 46, U 47, U 48, U 49, U 50, U 51, U 52, U 53, U 54, U 55, U 56, U 57, U 58, U 59, U 60, U 61, U 62, U 63], defers := ds } := by
  refine ⟨fun j => T[j]?.getD undef, by simp [h2], by simp [h7], by simp [h8], by simp [h11], ?_⟩
  have e : ∀ U : Nat → Value, ([U 0, U 1, U 2, U 3, U 4, U 5, U 6, U 7, U 8, U 9, U 10, U 11, U 12, U 13, U 14, U 15, U 16, U 17, U 18, U 19, U 20, U 21, U 22, U 23, U 24, U 25, U 26, U 27, U 28, U 29, U 30, U 31, U 32, U 33, U 34, U 35, U 36, U 37, U 38, U 39, U 40, U 41, U 42, U 43, U 44, U 45, U 46, U 47, U 48, U 49, U 50, U 51, U 52, U 53, U 54, U 55, U 56, U 57, U 58, U 59, U 60, U 61, U 62, U 63] : List Value) = (List.range 64).map U := fun U => rfl
  rw [e (fun j => T[j]?.getD undef)]
  congr 1
  congr 1
  refine List.ext_getElem (by simp [hl]) (fun j h1 h3 => ?_)
  simp [List.getElem?_eq_getElem h1]
def Fr64 (a' : Act) (a b c d : Value) (ds : List Deferred) : Prop := ∃ U : Nat → Value, U 2 = a ∧ U 7 = b ∧ U 8 = c ∧ U 11 = d ∧ a' = { tmps := #[U 0, U 1, U 2, U 3, U 4, U 5, U 6, U 7, U 8, U 9, U 10, U 11, U 12, U 13, U 14, U 15, U 16, U 17, U 18, U 19, U 20, U 21, U 22, U 23, U 24, U 25, U 26, U 27, U 28, U 29, U 30, U 31, U 32, U 33, U 34, U 35, U 36, U 37, U 38, U 39, U 40, U 41, U 42, U 43, U 44, U 45, U 46, U 47, U 48, U 49, U 50, U 51, U 52, U 53, U 54, U 55, U 56, U 57, U 58, U 59, U 60, U 61, U 62, U 63], defers := ds }
theorem results_two {fn : Func} {u v : Tmp} (h : fn.results = #[.tmp u, .tmp v]) (tmps : Array Value) (P : Program) (w : World) :
    (results fn tmps).run P w = .ok (.tuple #[tmps.getD u undef, tmps.getD v undef]) w := by
  simp only [results, h]
  simp [Sem.run_bind, Result.andThen]
def ReachP (m : Mm) (roots : List Int) (w : World) (e : Ending) (w' : World) : Prop := Below w.heap.size w w' ∧ ((∃ K v l', Sh m K ∧ (∀ r ∈ roots, Tm K r) ∧ e = .returned (.tuple #[v, .int .i64 0]) ∧ l'.Perm (met K roots) ∧ Srt l' ∧ WAt w' w'.heap.size v l') ∨ ((¬ ∃ K, Sh m K ∧ ∀ v ∈ roots, Tm K v) ∧ e = .returned (.tuple #[.slice none 0 0, .int .i64 6])))
/-- between two rounds of an object's words -/
def InRe (w : World) (base zm zl mp : Nat) (l ws : List Int) (bxs : List (Nat × Obj)) (q : Nat) (V : World) : Prop := ∃ vL, ReAt V base zm zl mp vL ((ws.take q).foldl metW l) bxs ∧ Below base w V
theorem InRe.own_from {w : World} {base zm zl mp : Nat} {l ws : List Int} {bxs : List (Nat × Obj)} {B : Nat} (hbx : ∀ p ∈ bxs, p.1 < B) (hm : mp < B) (hB : base ≤ B) : OwnFrom B (InRe w base zm zl mp l ws bxs) := by
  intro q V V' row hs hg hr
  obtain ⟨vL, h1, h2⟩ := hs
  exact ⟨vL, h1.grown2 hg hr (fun p hp => .inr (hbx p hp)) hm, h2.grown hg (Nat.le_of_lt h1.m.lt) (fun r e => Nat.le_trans hB (hr r e).1)⟩
structure EndQ (w W9 : World) (vL : Value) (l' : List Int) (Ds : List Nat) (V : World) : Prop where
  marks : ∀ k ∈ Ds, V.heap[k]? = some (.deferred (some [])) ∧ w.heap.size ≤ k
  nd : Ds.Nodup
  row : WAt V W9.heap.size vL l'
  size : W9.heap.size ≤ V.heap.size
  below : Below w.heap.size w V
theorem EndQ.step {w W9 : World} {vL : Value} {l' : List Int} {k : Nat} {Ds : List Nat} {V : World} (h : EndQ w W9 vL l' (k :: Ds) V) : V.heap[k]? = some (.deferred (some [])) ∧ EndQ w W9 vL l' Ds (V.putObj k (.deferred none)) := by
  obtain ⟨h1, h2⟩ := h.marks k List.mem_cons_self
  have hg := grownBy_putObj' V k (.deferred none)
  refine ⟨h1, fun j hj => ⟨(World.putObj_heap_other (fun e => (List.nodup_cons.1 h.nd).1 (by subst e; exact hj))).trans (h.marks j (List.mem_cons_of_mem _ hj)).1, (h.marks j (List.mem_cons_of_mem _ hj)).2⟩, (List.nodup_cons.1 h.nd).2, h.row.keeps (KeepsCells.put V k _ _ h1 rfl), Nat.le_trans h.size hg.size, h.below.grown hg h.below.size (fun r e => by cases e; exact h2)⟩
theorem reach_start {W1 : World} {base : Nat} (hb : base ≤ W1.heap.size) : MeetAt (((W1.alloc (.map #[] 0)).alloc (.cells #[.map (some W1.heap.size)] 50)).alloc (.cells #[.slice none 0 0] 22)) base (W1.heap.size + 1) (W1.heap.size + 1 + 1) W1.heap.size (.slice none 0 0) [] := by
  have h1 : ((W1.alloc (.map #[] 0)).alloc (.cells #[.map (some W1.heap.size)] 50)).heap.size = W1.heap.size + 1 + 1 := by rw [World.size_alloc, World.size_alloc]
  refine ⟨blk_alloc (blk_new (by rw [World.size_alloc])) _, blk_new h1.symm, WOwn.nil _ _, (MapIs.made (Value.int .u64) W1).same ?_, by omega, by omega, hb, by omega, by omega, by omega, by simp [Value.ownBlock], by simp [Value.ownBlock], by simp [Value.ownBlock]⟩
  rw [Below.heap_alloc _ _ _ (by rw [h1]; omega), Below.heap_alloc _ _ _ (by rw [World.size_alloc]; omega)]
theorem reach25 (w : World) (B : Nat) (v1 v2 : Value) (pr : Option Addr) (cr : Nat) (m : Mm) (roots : List Int) (hB : B ≤ w.heap.size) (h1 : WAt w B v1 m.y) (h2 : WAt w B v2 m.o) (w1 : Wds m.y) (w2 : Wds m.o) (lt : m.y.length + m.o.length ≤ 5000) (hr : WAt w B (.slice pr roots.length cr) roots) (wr : Wds roots) (lr : roots.length ≤ 100000) :
    Calls Tryz.prog 10 #[.agg #[v1, v2, .int .i64 m.at_], .slice pr roots.length cr] w (ReachP m roots w) := by
  have HFt := Lib.hid (fun W (hb : Below w.heap.size w W) => fits28 W B v1 v2 (.slice pr roots.length cr) m roots (Nat.le_trans hB hb.size) (h1.below hb hB) (h2.below hb hB) w1 w2 (by omega) (by omega) (hr.below hb hB) wr lr)
  obtain ⟨p1, c1, e1, _⟩ := id h1
  obtain ⟨p2, c2, e2, _⟩ := id h2
  subst e1 e2
  have hmm := @run_makeMap Tryz.prog
  have HRow := Lib.hid (fun W (hb : Below w.heap.size w W) => hr.below hb hB)
  have HAre := Lib.hid (fun (b : Bool) => show WAt w B (if b then .slice p2 m.o.length c2 else .slice p1 m.y.length c1) (m.s b) by cases b; exact h1; exact h2)
  have HWr := Lib.hid wr
  have HWm : Hid (∀ b, Wds (m.s b)) := Lib.hid (fun b => by cases b <;> assumption)
  have HBB := Lib.hid hB
  have hb0 : Below w.heap.size w (w.alloc (.cells #[.slice p1 m.y.length c1, .slice p2 m.o.length c2, .int .i64 m.at_] 24)) := belowA (Below.refl _ _) _
  have hx0 := World.alloc_heap_new w (.cells #[.slice p1 m.y.length c1, .slice p2 m.o.length c2, .int .i64 m.at_] 24)
  have hs0 : (w.alloc (.cells #[.slice p1 m.y.length c1, .slice p2 m.o.length c2, .int .i64 m.at_] 24)).heap.size = w.heap.size + 1 := World.size_alloc _ _
  clear h1 h2 hr wr w1 w2 hB
  refine (callsIn_wide (n := 5)).1 ?_
  refine callsIn_of_wp_marks Tryz.func10 rfl trivial ?_ rfl
  simp only [Tryz.ntmps10, List.size_toArray, List.length_cons, List.length_nil, Nat.reduceAdd, Nat.reduceSub, Array.replicate_succ, Array.replicate_zero, List.push_toArray, List.append_toArray, List.nil_append, List.cons_append]
  refine wpIn_wide.2 ?_
  go_wp2_with fail
  refine (HFt.out _ hb0).mono ?_
  generalize (w.alloc (.cells #[.slice p1 m.y.length c1, .slice p2 m.o.length c2, .int .i64 m.at_] 24)) = W0 at *
  rintro e W1 ⟨r, rfl, hr, hb⟩
  have HB1 := Lib.hid (hb0.trans (hb.mono hb0.size))
  have HX1 := Lib.hid ((hb.block w.heap.size (by rw [hs0]; omega)).trans hx0)
  have HR := Lib.hid hr
  clear hb hr hb0 hx0 hs0 HFt
  cases r
  · go_wp2_with fail
    exact ⟨_, results_two rfl _ _ _, HB1.out, .inr ⟨fun h => Bool.noConfusion (HR.out.2 h), rfl⟩⟩
  · obtain ⟨K, hK, hT⟩ := HR.out.1 rfl
    have HSh := Lib.hid hK
    have HTm := Lib.hid hT
    clear HR hK hT
    have hzb : w.heap.size < W1.heap.size := (Array.getElem?_eq_some_iff.1 HX1.out).1
    have hm0 := reach_start (W1 := W1) (base := w.heap.size) HB1.out.size
    have hbA : Below W1.heap.size W1 (((W1.alloc (.map #[] 0)).alloc (.cells #[.map (some W1.heap.size)] 50)).alloc (.cells #[.slice none 0 0] 22)) := belowA (belowA (belowA (Below.refl _ _) _) _) _
    have hsA : (((W1.alloc (.map #[] 0)).alloc (.cells #[.map (some W1.heap.size)] 50)).alloc (.cells #[.slice none 0 0] 22)).heap.size = W1.heap.size + 1 + 1 + 1 := by rw [World.size_alloc, World.size_alloc, World.size_alloc]
    have hr0 : ReAt (((W1.alloc (.map #[] 0)).alloc (.cells #[.map (some W1.heap.size)] 50)).alloc (.cells #[.slice none 0 0] 22)) w.heap.size (W1.heap.size + 1) (W1.heap.size + 1 + 1) W1.heap.size (.slice none 0 0) [] [(w.heap.size, .cells #[.slice p1 m.y.length c1, .slice p2 m.o.length c2, .int .i64 m.at_] 24)] := ⟨hm0, fun p hp => by
      obtain rfl : p = (w.heap.size, .cells #[.slice p1 m.y.length c1, .slice p2 m.o.length c2, .int .i64 m.at_] 24) := by simpa using hp
      refine ⟨(hbA.block _ hzb).trans HX1.out, ?_⟩
      rintro (e | e | e)
      · have e : w.heap.size = W1.heap.size + 1 + 1 := e
        omega
      · have e : w.heap.size = W1.heap.size := e
        omega
      · simp [Value.ownBlock] at e⟩
    have hr1 := hr0.alloc (.cells #[.func (.func 21) #[] #[.pointer (some ⟨W1.heap.size + 1, 0, none⟩), .pointer (some ⟨W1.heap.size + 1 + 1, 0, none⟩)]] 53)
    rw [hsA] at hr1
    have HR0 := Lib.hid hr1
    have HB2 := Lib.hid (HB1.out.trans ((belowA hbA (.cells #[.func (.func 21) #[] #[.pointer (some ⟨W1.heap.size + 1, 0, none⟩), .pointer (some ⟨W1.heap.size + 1 + 1, 0, none⟩)]] 53)).mono HB1.out.size))
    have HZ : Hid (W1.heap.size < ((((W1.alloc (.map #[] 0)).alloc (.cells #[.map (some W1.heap.size)] 50)).alloc (.cells #[.slice none 0 0] 22)).alloc (.cells #[.func (.func 21) #[] #[.pointer (some ⟨W1.heap.size + 1, 0, none⟩), .pointer (some ⟨W1.heap.size + 1 + 1, 0, none⟩)]] 53)).heap.size) := Lib.hid (by rw [World.size_alloc, hsA]; omega)
    have HZf : Hid (W1.heap.size + 1 + 1 + 1 ≠ w.heap.size ∧ w.heap.size ≤ W1.heap.size + 1 + 1 + 1) := Lib.hid ⟨by omega, by omega⟩
    clear hm0 hbA hsA hr0 hr1 hzb
    go_wp2_with fail
    generalize ((((W1.alloc (.map #[] 0)).alloc (.cells #[.map (some W1.heap.size)] 50)).alloc (.cells #[.slice none 0 0] 22)).alloc (.cells #[.func (.func 21) #[] #[.pointer (some ⟨W1.heap.size + 1, 0, none⟩), .pointer (some ⟨W1.heap.size + 1 + 1, 0, none⟩)]] 53)) = W2 at *
    generalize W1.heap.size + 1 + 1 + 1 = zf at *
    generalize W1.heap.size + 1 + 1 = zl at *
    generalize W1.heap.size + 1 = zm at *
    generalize W1.heap.size = mp at *
    obtain ⟨zb, hzb⟩ : ∃ zb, zb = w.heap.size := ⟨_, rfl⟩
    have HZb := Lib.hid hzb
    have HRb : Hid (ReAt W2 w.heap.size zm zl mp (.slice none 0 0) [] [(zf, .cells #[.func (.func 21) #[] #[.pointer (some ⟨zm, 0, none⟩), .pointer (some ⟨zl, 0, none⟩)]] 53), (zb, .cells #[.slice p1 m.y.length c1, .slice p2 m.o.length c2, .int .i64 m.at_] 24)]) := Lib.hid (by rw [hzb]; exact HR0.out)
    have HZfb : Hid (zf ≠ zb ∧ w.heap.size ≤ zf) := Lib.hid (by rw [hzb]; exact HZf.out)
    rw [← hzb]
    clear HR0 HX1 hzb HZf
    go_loopw [10, 25] (fun _ c wr => ∃ (i : Nat) (vL : Value), c = .int .i64 i ∧ i ≤ roots.length ∧ Hid (ReAt wr w.heap.size zm zl mp vL ((roots.take i).foldl metW []) [(zf, .cells #[.func (.func 21) #[] #[.pointer (some ⟨zm, 0, none⟩), .pointer (some ⟨zl, 0, none⟩)]] 53), (zb, .cells #[.slice p1 m.y.length c1, .slice p2 m.o.length c2, .int .i64 m.at_] 24)]) ∧ Hid (Below w.heap.size w wr)) (fun _ c _ => roots.length - (intOf c).toNat)
    case atStart => exact ⟨0, _, rfl, Nat.zero_le _, HRb, HB2⟩
    case round =>
      clear HRb HB2 HZ
      obtain ⟨i, vL, rfl, hi, HW, HB⟩ := hrel
      have HLs : Hid (Ls K ((roots.take i).foldl metW [])) := Lib.hid ((Ls.nil K).fold (fun v hv => ⟨HTm.out v (List.mem_of_mem_take hv), HWr.out v (List.mem_of_mem_take hv)⟩))
      by_cases hlt : i < roots.length
      · have rl : (i : Int) < (roots.length : Int) := by omega
        have rq : decide ((i : Int) < (roots.length : Int)) = true := decide_eq_true rl
        obtain ⟨gr, orr, e1, hgr, hcr⟩ := RowAt.nth' (HRow.out wr HB.out) (by omega)
        subst e1
        obtain ⟨r, hri⟩ : ∃ r, roots[i]? = some r := ⟨_, List.getElem?_eq_getElem hlt⟩
        have hcx := hcr i r hri
        have hrr := HWr.out r (List.mem_of_getElem? hri)
        have HMt := Lib.hid (meet41 HW.out.m r hrr.1 hrr.2 (Nat.le_trans (HLs.out.len HSh.out) (by omega)))
        have HTk : Hid ((roots.take (i + 1)).foldl metW [] = metW ((roots.take i).foldl metW []) r) := Lib.hid (fold_take hri)
        obtain ⟨cb, cbf⟩ := one_cell (HW.out.bx _ (.head _)).1
        clear hcr hri hgr hrr
        go_wp2_with fail
        refine HMt.out.mono ?_
        rintro e W3 ⟨rfl, vL', hm3, ht3, hn3⟩
        have HW3 := Lib.hid (HW.out.keep hm3 ht3 hn3)
        have HB3 := Lib.hid (HB.out.trans (ht3.below (fun k hk => HW.out.m.ge hk) HB.out.size))
        clear hm3 ht3 hn3 HMt cb cbf hcx
        go_wp2_with fail
        go_roundw
        case rel => exact ⟨i + 1, _, by go_num, by omega, by rw [HTk.out]; exact HW3, HB3⟩
        case measure => simp [intOf]; omega
      · obtain rfl : i = roots.length := by omega
        have rq : decide (((roots.length : Nat) : Int) < (roots.length : Int)) = false := decide_eq_false (by omega)
        have HRl : Hid (ReAt wr w.heap.size zm zl mp vL (roots.foldl metW []) [(zf, .cells #[.func (.func 21) #[] #[.pointer (some ⟨zm, 0, none⟩), .pointer (some ⟨zl, 0, none⟩)]] 53), (zb, .cells #[.slice p1 m.y.length c1, .slice p2 m.o.length c2, .int .i64 m.at_] 24)]) := Lib.hid (by have := HW.out; rwa [List.take_length] at this)
        have HLr : Hid (Ls K (roots.foldl metW [])) := Lib.hid (by have := HLs.out; rwa [List.take_length] at this)
        clear HW HLs hi hlt
        go_wp2_with fail
        refine wp_loop (I := fun a' w' => ∃ (i : Nat) (vL : Value) (l : List Int) (Ds : List Nat), Hid (ReAt w' w.heap.size zm zl mp vL l (([(zf, .cells #[.func (.func 21) #[] #[.pointer (some ⟨zm, 0, none⟩), .pointer (some ⟨zl, 0, none⟩)]] 53), (zb, .cells #[.slice p1 m.y.length c1, .slice p2 m.o.length c2, .int .i64 m.at_] 24)] : List (Nat × Obj)) ++ mkB Ds)) ∧ Hid (bfs (folB K) (5001 - i) i l = met K roots) ∧ Hid (Ls K l) ∧ i ≤ l.length ∧ Hid (Below w.heap.size w w') ∧ Hid (Ds.Nodup ∧ ∀ k ∈ Ds, w.heap.size ≤ k ∧ k ≠ zf ∧ k ≠ zb) ∧ Fr64 a' (.pointer (some ⟨zb, 0, none⟩)) (.pointer (some ⟨zl, 0, none⟩)) (.pointer (some ⟨zf, 0, none⟩)) (.int .i64 i) (mkD Ds)) (μ := fun a' _ => 5001 - (intOf (a'.tmps.getD 11 undef)).toNat) ?start ?round
        case start => exact ⟨0, vL, _, [], Lib.hid (HRl.out.fewer (fun p hp => by simpa [mkB] using hp)), Lib.hid rfl, HLr, Nat.zero_le _, HB, Lib.hid ⟨List.nodup_nil, fun k h => by simp at h⟩, lit64 rfl rfl rfl rfl rfl⟩
        case round =>
          clear HRl HLr HB
          rintro a' wq ⟨i, vL, l, Ds, HW, HBf, HLs, hi, HB, HDs, U, hU2, hU7, hU8, hU11, rfl⟩
          rw [hU2, hU7, hU8, hU11]
          clear hU2 hU7 hU8 hU11
          have hll : l.length ≤ 5000 := Nat.le_trans (HLs.out.len HSh.out) lt
          obtain ⟨lb, lbf⟩ := one_cell HW.out.m.bl
          by_cases hlt : i < l.length
          · obtain ⟨pL, cL, eL⟩ := HW.out.m.rl.shape
            subst eL
            have rl : (i : Int) < (l.length : Int) := by omega
            have rq : decide ((i : Int) < (l.length : Int)) = true := decide_eq_true rl
            obtain ⟨gL, oL, e1, hgL, hcL⟩ := RowAt.nth' HW.out.m.rl.row (by omega)
            subst e1
            obtain ⟨p, hpi⟩ : ∃ p, l[i]? = some p := ⟨_, List.getElem?_eq_getElem hlt⟩
            have hcp := hcL i p hpi
            have hpw := HLs.out.2 p (List.mem_of_getElem? hpi)
            obtain ⟨x, hx⟩ := hpw.1
            have HSt : Hid (bfs (folB K) (5001 - (i + 1)) (i + 1) ((fol x).foldl metW l) = met K roots) := Lib.hid (by
              rw [← HBf.out, show 5001 - i = (5001 - (i + 1)) + 1 by omega, bfs_step hpi]
              unfold folB
              rw [hx.ob HSh.out.pos])
            have HPp := Lib.hid (fun W => Pointer p hpw.2.1 hpw.2.2 W)
            rw [hx.1] at HPp
            have hpx : pIx p = ((pIx p).toNat : Int) := by rw [pIx_eq hx.1]; have := hpw.2.1; omega
            rw [hpx] at HPp
            have hbs : ∀ b, Objs (m.s b) (K.s b) := fun b => by cases b; exact HSh.out.y; exact HSh.out.o
            have hat := hx.2.1
            have hob := (hbs (pOld p)).2 x hat.mem
            have hbd := hat.bound
            rw [(hbs (pOld p)).1] at hbd
            have hxp := hob.pos
            have hms : ∀ b, (m.s b).length ≤ 5000 := fun b => by
              cases b
              · have : (m.s false).length = m.y.length := rfl
                omega
              · have : (m.s true).length = m.o.length := rfl
                omega
            have hml := hms (pOld p)
            have hok := (HSh.out.ok _ _ _ hat).1
            have HTx : Hid (∀ v ∈ fol x, Tm K v ∧ 0 ≤ v ∧ v ≤ 18446744073709551615) := Lib.hid (fun v hv => by
              refine ⟨((HSh.out.ok _ _ _ hat).2 v hv).1, HWm.out (pOld p) v ?_⟩
              rw [← (hbs (pOld p)).1]
              exact List.mem_flatten.2 ⟨x, hat.mem, List.mem_of_mem_drop hv⟩)
            obtain ⟨pF, cF, eF, hcF⟩ : ∃ pF cF, (if pOld p then Value.slice p2 m.o.length c2 else Value.slice p1 m.y.length c1) = .slice pF (m.s (pOld p)).length cF ∧ (m.s (pOld p)).length ≤ cF := by
              obtain ⟨p, c, e, h1, _⟩ := HAre.out (pOld p)
              exact ⟨p, c, e, h1⟩
            have hwa := HAre.out (pOld p)
            rw [eF] at hwa
            obtain ⟨gF, oF, e1, hgF, hcl⟩ := RowAt.nth' hwa (by omega)
            subst e1
            have HAr0 := fun W => area45 W (.slice p1 m.y.length c1) (.slice p2 m.o.length c2) p1 p2 m.y.length c1 m.o.length c2 m.at_ (pOld p) rfl rfl
            rw [eF] at HAr0
            have HAr := Lib.hid HAr0
            have hget : ∀ j y, x[j]? = some y → (m.s (pOld p))[(pIx p).toNat + j]? = some y := fun j y hj => by
              have := hat.get j (List.getElem?_eq_some_iff.1 hj).1
              rw [(hbs (pOld p)).1] at this
              rw [this, hj]
            have hgw : gF < w.heap.size := Nat.lt_of_lt_of_le hgF HBB.out
            have HCell := Lib.hid (fun W (hb : Below w.heap.size w W) (j : Nat) (y : Int) (hj : x[j]? = some y) => (hb.cell (p := ⟨gF, oF + ((pIx p).toNat + j), none⟩) hgw).trans (hcl _ y (hget j y hj)))
            have hx0 : x[0]? = some (x.headD 0) := headD_get hxp
            have hxr := HWm.out (pOld p) (x.headD 0) (List.mem_of_getElem? (hget 0 _ hx0))
            have HOb := Lib.hid (fun W (hb : Below w.heap.size w W) => object44 W gF oF (m.s (pOld p)).length cF (pIx p).toNat x hob hxr hbd hcF (by omega) ((hb.cell (p := ⟨gF, oF + (pIx p).toNat, none⟩) hgw).trans (by have := hcl _ _ (hget 0 _ hx0); rwa [Nat.add_zero] at this)))
            have hfle : frm x ≤ x.length := frm_le hob hok
            have hxl : x.length ≤ 200000 := by omega
            obtain ⟨q0, q1, q2, qf⟩ := three_cells (HW.out.bx _ (.tail _ (.head _))).1
            have HPi := Lib.hid hpi
            clear hcL hgL hpi hpw hx hpx hbs hat hob hbd hxp hms hml hok eF hcF hwa hgF hcl HAr0 hget hgw hx0 hxr
            generalize (m.s (pOld p)).length = nF at *
            generalize (pIx p).toNat = kx at *
            generalize pOld p = bO at *
            go_wp2_with fail
            refine (HPp.out _).mono ?_
            rintro e w' ⟨rfl, rfl⟩
            go_wp2_with fail
            refine (HAr.out _).mono ?_
            rintro e W4 ⟨rfl, hb4⟩
            have HW4 := Lib.hid (HW.out.below hb4)
            have HB4 := Lib.hid (HB.out.trans (hb4.mono HB.out.size))
            have HF := Lib.hid (followed43 W4 (some ⟨gF, oF + kx, none⟩) x.length (cF - kx) (frm x))
            clear hb4 q0 q1 q2 qf lb lbf hcp
            go_wp2_with fail
            refine (HOb.out _ HB4.out).mono ?_
            rintro e w' ⟨rfl, rfl⟩
            go_wp2_with fail
            refine HF.out.mono ?_
            rintro e Wf ⟨rfl, hWf⟩
            have HRf := Lib.hid ((HW4.out.alloc (.cells #[.slice (some ⟨gF, oF + kx, none⟩) x.length (cF - kx)] 22)).alloc (.cells #[.int .i64 (frm x)] 3))
            rw [← hWf, World.size_alloc] at HRf
            have hbf : Below W4.heap.size W4 Wf := by rw [hWf]; exact belowA (belowA (Below.refl _ _) _) _
            have HBf2 := Lib.hid (HB4.out.trans (hbf.mono HB4.out.size))
            have HszF : Hid (Wf.heap.size = W4.heap.size + 1 + 1) := Lib.hid (by rw [hWf, World.size_alloc, World.size_alloc])
            clear hWf hbf HF HW4 HB4 HAr HOb HPp
            generalize W4.heap.size = z4 at *
            go_wp2_with fail
            have hxlen : ((fol x).take (x.length - frm x)) = fol x := by
              apply List.take_of_length_le
              unfold fol
              rw [List.length_drop]
              exact Nat.le_refl _
            refine (wpIn_wide (n := 5)).1 ?_
            refine range_seq rfl (by decide) (gf := 47) (lb := #[.pointer (some ⟨z4 + 1, 0, none⟩), .pointer (some ⟨z4, 0, none⟩)]) rfl trivial (enters_of Tryz.func47 (by kernel_rfl) rfl) (followed75 4 (z4 + 1) z4 gF (oF + kx) x.length (cF - kx) (frm x) (by decide) x hfle hxl) (fun _ _ => trivial) (fun _ _ _ _ _ _ => trivial) (fun i => rfl)
              (InRe w w.heap.size zm zl mp l (fol x) ((z4 + 1, .cells #[.int .i64 (frm x)] 3) :: (z4, .cells #[.slice (some ⟨gF, oF + kx, none⟩) x.length (cF - kx)] 22) :: (([(zf, .cells #[.func (.func 21) #[] #[.pointer (some ⟨zm, 0, none⟩), .pointer (some ⟨zl, 0, none⟩)]] 53), (zb, .cells #[.slice p1 m.y.length c1, .slice p2 m.o.length c2, .int .i64 m.at_] 24)] : List (Nat × Obj)) ++ mkB Ds))) (fun _ _ _ => False) (InRe.own_from (fun q hq => (Array.getElem?_eq_some_iff.1 (HRf.out.bx q hq).1).1) HRf.out.m.fm.lt (Nat.le_of_lt HRf.out.m.lt)) (fun _ _ _ _ _ h _ _ => h)
              ?rd ⟨_, HRf.out, HBf2.out⟩ ?round ?done (fun _ _ _ _ _ h _ => h.elim)
            case rd =>
              rintro q V ⟨vL1, h1, h2⟩
              refine ⟨(one_cell (h1.bx _ (.head _)).1).1, (one_cell (h1.bx _ (.tail _ (.head _))).1).1, fun j _ hj => ?_⟩
              have h3 := HCell.out V h2 j _ (List.getElem?_eq_getElem hj)
              rw [List.getElem?_eq_getElem hj, Nat.add_assoc]
              exact h3
            case round =>
              intro lp q W V hI hq
              obtain ⟨vL1, hR, hB1⟩ := hI
              have hv : x[frm x + q]? = some (x[frm x + q]?.getD 0) := by rw [List.getElem?_eq_getElem (by omega)]; rfl
              unfold folEnc
              generalize x[frm x + q]?.getD 0 = v at hv ⊢
              have hvq : (fol x)[q]? = some v := by unfold fol; rw [List.getElem?_drop]; exact hv
              have hvw := HTx.out v (List.mem_of_getElem? hvq)
              have hLs1 : Ls K (((fol x).take q).foldl metW l) := HLs.out.fold (fun u hu => HTx.out u (List.mem_of_mem_take hu))
              have HMt := Lib.hid (meet41 hR.m v hvw.2.1 hvw.2.2 (Nat.le_trans (hLs1.len HSh.out) (by omega)))
              have HTk : Hid (((fol x).take (q + 1)).foldl metW l = metW (((fol x).take q).foldl metW l) v) := Lib.hid (fold_take hvq)
              obtain ⟨qb, qbf⟩ := one_cell (hR.bx (zf, _) (.tail _ (.tail _ (.head _)))).1
              have HA := Lib.hid (And.intro hR hB1)
              have hmB : mp < Wf.heap.size := HRf.out.m.fm.lt
              clear hR hB1 hv hvq hvw hLs1
              have hn1 : 1 ≤ 5 - 1 - 1 := by decide
              gi_wp2
              refine ⟨trivial, ?_⟩
              refine (CallsIn.inRound lp (callsIn_wide.2 HMt.out)).mono ?_
              rintro e V1 ⟨rfl, vL2, hm3, ht3, hn3⟩
              obtain ⟨hR, hB1⟩ := HA.out
              have HEnd : Hid (KeepsFrom Wf.heap.size V V1 ∧ True ∧ InRe w w.heap.size zm zl mp l (fol x) ((z4 + 1, .cells #[.int .i64 (frm x)] 3) :: (z4, .cells #[.slice (some ⟨gF, oF + kx, none⟩) x.length (cF - kx)] 22) :: (([(zf, .cells #[.func (.func 21) #[] #[.pointer (some ⟨zm, 0, none⟩), .pointer (some ⟨zl, 0, none⟩)]] 53), (zb, .cells #[.slice p1 m.y.length c1, .slice p2 m.o.length c2, .int .i64 m.at_] 24)] : List (Nat × Obj)) ++ mkB Ds)) (q + 1) V1) :=
                Lib.hid ⟨meet_from hR.m ht3 hmB, trivial, vL2, by rw [HTk.out]; exact hR.keep hm3 ht3 hn3, hB1.trans (ht3.below (fun k hk => hR.m.ge hk) hB1.size)⟩
              clear hR hB1 hm3 ht3 hn3 HA HMt qb qbf
              gi_wp2
              exact HEnd.out
            case done =>
              rintro Dm W hD ⟨vL2, h1, h2⟩ hK
              rw [hxlen] at h1
              have h9 := (h1.fewer (bx' := ([(zf, .cells #[.func (.func 21) #[] #[.pointer (some ⟨zm, 0, none⟩), .pointer (some ⟨zl, 0, none⟩)]] 53), (zb, .cells #[.slice p1 m.y.length c1, .slice p2 m.o.length c2, .int .i64 m.at_] 24)] : List (Nat × Obj)) ++ mkB Ds) (fun q hq => .tail _ (.tail _ hq))).mark hK (Nat.lt_of_lt_of_le HRf.out.m.fm.lt hD)
              have hall : ∀ j ∈ Ds, j < Wf.heap.size := fun j hj => (Array.getElem?_eq_some_iff.1 (HRf.out.bx (j, .deferred (some [])) (.tail _ (.tail _ (List.mem_append_right _ (mkB_mem hj))))).1).1
              have hzbw := (Array.getElem?_eq_some_iff.1 (HRf.out.bx (zb, _) (.tail _ (.tail _ (.tail _ (.head _))))).1).1
              have hzfw := (Array.getElem?_eq_some_iff.1 (HRf.out.bx (zf, _) (.tail _ (.tail _ (.head _)))).1).1
              have hzbw : zb < Wf.heap.size := hzbw
              have hzfw : zf < Wf.heap.size := hzfw
              have HEnd : Hid (ReAt W w.heap.size zm zl mp vL2 ((fol x).foldl metW l) (([(zf, .cells #[.func (.func 21) #[] #[.pointer (some ⟨zm, 0, none⟩), .pointer (some ⟨zl, 0, none⟩)]] 53), (zb, .cells #[.slice p1 m.y.length c1, .slice p2 m.o.length c2, .int .i64 m.at_] 24)] : List (Nat × Obj)) ++ mkB (Dm :: Ds)) ∧ Ls K ((fol x).foldl metW l) ∧ i + 1 ≤ ((fol x).foldl metW l).length ∧ Below w.heap.size w W ∧ ((Dm :: Ds).Nodup ∧ ∀ k ∈ Dm :: Ds, w.heap.size ≤ k ∧ k ≠ zf ∧ k ≠ zb)) := by
                refine Lib.hid ⟨h9.fewer (fun q hq => ?_), HLs.out.fold (fun u hu => HTx.out u hu), ?_, h2, List.nodup_cons.2 ⟨fun hj => by have := hall Dm hj; omega, HDs.out.1⟩, fun j hj => ?_⟩
                · rcases List.mem_cons.1 hq with rfl | hq
                  · exact .tail _ (.head _)
                  · rcases List.mem_cons.1 hq with rfl | hq
                    · exact .tail _ (.tail _ (.head _))
                    · rcases List.mem_cons.1 hq with rfl | hq
                      · exact .head _
                      · exact .tail _ (.tail _ (.tail _ hq))
                · obtain ⟨t, ht⟩ := fold_pre (ws := fol x) l
                  rw [ht, List.length_append]
                  omega
                · rcases List.mem_cons.1 hj with rfl | hj
                  · exact ⟨Nat.le_trans (Nat.le_of_lt HRf.out.m.lt) hD, by omega, by omega⟩
                  · exact HDs.out.2 j hj
              have hi5 : i < 5000 := by omega
              clear h1 h2 hK h9 hall hzbw hzfw
              go_wp2_with fail
              refine ⟨⟨i + 1, vL2, _, Dm :: Ds, Lib.hid HEnd.out.1, HSt, Lib.hid HEnd.out.2.1, HEnd.out.2.2.1, Lib.hid HEnd.out.2.2.2.1, Lib.hid HEnd.out.2.2.2.2, ?_⟩, ?_⟩
              · exact lit64 rfl rfl rfl rfl (by go_num)
              · simp [intOf]
                omega
          · have rq : decide ((i : Int) < (l.length : Int)) = false := decide_eq_false (by omega)
            have HMe : Hid (l = met K roots) := Lib.hid (by rw [← HBf.out]; exact (bfs_end (by omega)).symm)
            have HMk : Hid (∀ k ∈ Ds, wq.heap[k]? = some (.deferred (some [])) ∧ w.heap.size ≤ k) := Lib.hid (fun k hk => ⟨(HW.out.bx (k, .deferred (some [])) (List.mem_append_right _ (mkB_mem hk))).1, (HDs.out.2 k hk).1⟩)
            rcases HW.out.m.rl.form with ⟨e1, e2⟩ | ⟨g, c, e1, hbg, hgl, hlc, hcm⟩
            · have HQ : Hid (EndQ w wq (.slice none 0 0) [] Ds wq) := Lib.hid ⟨HMk.out, HDs.out.1, row_nil _ _ _ _ (by unfold maxLen; omega), Nat.le_refl _, HB.out⟩
              have HM0 : Hid ([] = met K roots) := Lib.hid (by rw [← HMe.out, e2])
              subst e1
              clear e2 HW HMe HMk HBf HLs HB HDs hll hi hlt
              go_wp2_with fail
              refine (sort0 _ _ _ _).mono ?_
              rintro e w' ⟨rfl, rfl⟩
              go_wp2_with fail
              refine leaves_marks (Q := EndQ w wq (.slice none 0 0) []) (fun D Ds V h => h.step) (fun V h => ⟨_, results_two rfl _ _ _, h.below, .inl ⟨K, _, [], HSh.out, HTm.out, rfl, by rw [← HM0.out], List.Pairwise.nil, h.row.more h.size⟩⟩) Ds wq HQ.out
            · have hown := HW.out.m.rl
              rw [e1] at hown
              have hne : l ≠ [] ∨ l = [] := by cases l; exact .inr rfl; exact .inl (by simp)
              have hdl := HW.out.m.dl
              rw [e1] at hdl
              have hgz : zl ≠ g := fun e => hdl (by rw [e]; rfl)
              have hmk : ∀ k ∈ Ds, k ≠ g := fun k hk e => (HW.out.bx (k, .deferred (some [])) (List.mem_append_right _ (mkB_mem hk))).2 (.inr (.inr (by rw [e1, e]; rfl)))
              have hzlt := (Array.getElem?_eq_some_iff.1 HW.out.m.bl).1
              have HBl := Lib.hid HW.out.m.bl
              have HOw := Lib.hid hown
              have HWl : Hid (Wds l) := Lib.hid (fun v hv => (HLs.out.2 v hv).2)
              have HG : Hid (zl ≠ g ∧ (∀ k ∈ Ds, k ≠ g) ∧ zl < wq.heap.size ∧ w.heap.size ≤ g ∧ l.length ≤ c ∧ c ≤ maxLen ∧ g < wq.heap.size) := Lib.hid ⟨hgz, hmk, hzlt, hbg, hlc, hcm, hgl⟩
              have HND := Lib.hid HDs.out.1
              subst e1
              clear hown hdl hgz hmk hzlt hbg hlc hcm hgl HW HBf HLs HDs hi
              rcases hne with hne | hne
              · have HSr := Lib.hid (sort46 hne (by omega) HOw.out HWl.out)
                clear hne
                go_wp2_with fail
                refine HSr.out.mono ?_
                rintro e W9 ⟨rfl, l', hp, hs, hc, ht⟩
                have HQ : Hid (EndQ w W9 (.slice (some ⟨g, 0, none⟩) l.length c) l' Ds W9) := Lib.hid (by
                  obtain ⟨a1, a2, a3, a4, a5, a6, a7⟩ := HG.out
                  refine ⟨fun k hk => ⟨(ht.block k (Array.getElem?_eq_some_iff.1 (HMk.out k hk).1).1 (a2 k hk)).trans (HMk.out k hk).1, (HMk.out k hk).2⟩, HND.out, ⟨_, c, by rw [hp.length_eq], by rw [hp.length_eq]; exact a5, a6, fun _ => ⟨g, 0, rfl, Nat.lt_of_lt_of_le a7 ht.size, fun j hj => by rw [Nat.zero_add]; exact hc j hj⟩⟩, Nat.le_refl _, HB.out.trans (ht.below (fun k hk => by subst hk; exact a4) HB.out.size)⟩)
                obtain ⟨lc, lcf⟩ := one_cell ((ht.block zl HG.out.2.2.1 HG.out.1).trans HBl.out)
                have HPm : Hid (l'.Perm (met K roots) ∧ Srt l') := Lib.hid ⟨by rw [← HMe.out]; exact hp, hs⟩
                clear hp hs hc ht lb lbf HSr
                go_wp2_with fail
                refine leaves_marks (Q := EndQ w W9 (.slice (some ⟨g, 0, none⟩) l.length c) l') (fun D Ds V h => h.step) (fun V h => ⟨_, results_two rfl _ _ _, h.below, .inl ⟨K, _, l', HSh.out, HTm.out, rfl, HPm.out.1, HPm.out.2, h.row.more h.size⟩⟩) Ds W9 HQ.out
              · have HM0 : Hid ([] = met K roots) := Lib.hid (by rw [← HMe.out, hne])
                have HQ : Hid (EndQ w wq (.slice (some ⟨g, 0, none⟩) 0 c) [] Ds wq) := Lib.hid ⟨HMk.out, HND.out, row_nil _ _ _ _ HG.out.2.2.2.2.2.1, Nat.le_refl _, HB.out⟩
                subst hne
                clear HMe HOw HWl HG HND HB HMk hll
                go_wp2_with fail
                refine (sort0 _ _ _ _).mono ?_
                rintro e w' ⟨rfl, rfl⟩
                go_wp2_with fail
                refine leaves_marks (Q := EndQ w wq (.slice (some ⟨g, 0, none⟩) 0 c) []) (fun D Ds V h => h.step) (fun V h => ⟨_, results_two rfl _ _ _, h.below, .inl ⟨K, _, [], HSh.out, HTm.out, rfl, by rw [← HM0.out], List.Pairwise.nil, h.row.more h.size⟩⟩) Ds wq HQ.out
end Go.Proofs.YtegffanlehaloaaGreat.cl
/- The collections of CollectTwice, one by one. Conditions: as said. -/
namespace Go.Proofs.YtegffanlehaloaaGreat.cl
open Go.RowKit mem words
set_option linter.unusedVariables false
set_option linter.unusedSimpArgs false
set_option maxHeartbeats 1000000
theorem own_len {w : World} {base : Nat} {q : Option Addr} {n c : Nat} {l : List Int} (h : WOwn w base (.slice q n c) l) : n = l.length := by
  obtain ⟨p, c', e⟩ := h.shape
  simp only [Value.slice.injEq] at e
  exact e.2.1
theorem MemAt.more {w : World} {B B' : Nat} {v1 v2 vr : Value} {m : Mm} {K : Bk} {roots : List Int} (h : MemAt w B v1 v2 vr m K roots) (hB : B ≤ B') : MemAt w B' v1 v2 vr m K roots :=
  ⟨h.y.more hB, h.o.more hB, h.wy, h.wo, h.t, h.sh, h.r.more hB, h.rt, h.rl⟩
/-- what a minor collection leaves -/
def StepM (m : Mm) (K : Bk) (roots : List Int) (W : World) (e : Ending) (w' : World) : Prop := Below W.heap.size W w' ∧ ∃ q0 c0 q1 c1 qT cT S D I, e = .returned (.tuple #[.agg #[.slice q0 S.y.flatten.length c0, .slice q1 S.o.flatten.length c1, .int .i64 S.y.flatten.length], .slice qT (roots.map (lk D I)).length cT, .int .i64 0]) ∧
  Done m K false roots S D I ∧ MemAt w' w'.heap.size (.slice q0 S.y.flatten.length c0) (.slice q1 S.o.flatten.length c1) (.slice qT (roots.map (lk D I)).length cT) ⟨S.y.flatten, S.o.flatten, S.y.flatten.length⟩ S (roots.map (lk D I))
theorem stepM {W : World} {B : Nat} {v1 v2 : Value} {pr : Option Addr} {cr : Nat} {m : Mm} {K : Bk} {roots : List Int} (hB : B ≤ W.heap.size) (h : MemAt W B v1 v2 (.slice pr roots.length cr) m K roots) (hwr : Wds roots) :
    Calls Tryz.prog 7 #[.agg #[v1, v2, .int .i64 m.at_], .slice pr roots.length cr] W (StepM m K roots W) := by
  refine (ans16 W B v1 v2 pr cr m roots hB h.y h.o h.wy h.wo h.t h.r hwr h.rl).mono ?_
  rintro e w' ⟨q0, m0, c0, q1, m1, c1, n2, qT, mT, cT, er, rfl, hq, hb⟩
  rcases hq with ⟨_, base, K', S, D, I, hbs, e1, e2, o1, o2, o3, hp, hi, hs⟩ | ⟨hn, _⟩
  · obtain rfl := Sh.book hp.sh h.sh
    obtain rfl := own_len o1
    obtain rfl := own_len o2
    obtain rfl := own_len o3
    subst e1 e2
    exact ⟨hb, q0, c0, q1, c1, qT, cT, S, D, I, rfl, done_of hp hi hs, minor_mem hp hi hs o1 o2 o3⟩
  · exact absurd ⟨K, h.sh, fun v hv => (h.rt v hv).1⟩ hn
theorem MemAt.wr {w : World} {B : Nat} {v1 v2 vr : Value} {m : Mm} {K : Bk} {roots : List Int} (h : MemAt w B v1 v2 vr m K roots) : Wds roots := fun v hv => (h.rt v hv).2
/-- the second one -/
def Step2 (m : Mm) (K : Bk) (roots : List Int) (W : World) (e : Ending) (w' : World) : Prop := Below W.heap.size W w' ∧ ∃ q0 c0 q1 c1 qT cT S o2 r2, e = .returned (.tuple #[.agg #[.slice q0 0 c0, .slice q1 o2.length c1, .int .i64 0], .slice qT r2.length cT, .int .i64 0]) ∧
  SameG K S roots r2 (met K roots) (met S r2) ∧ MemAt w' w'.heap.size (.slice q0 0 c0) (.slice q1 o2.length c1) (.slice qT r2.length cT) ⟨[], o2, 0⟩ S r2
theorem step2 {W : World} {B : Nat} {v1 v2 : Value} {pr : Option Addr} {cr : Nat} {m : Mm} {K : Bk} {roots : List Int} (hB : B ≤ W.heap.size) (h : MemAt W B v1 v2 (.slice pr roots.length cr) m K roots) (hm : m.at_ = m.y.length) :
    Calls Tryz.prog 7 #[.agg #[v1, v2, .int .i64 m.at_], .slice pr roots.length cr] W (Step2 m K roots W) := by
  refine (stepM hB h h.wr).mono ?_
  rintro e w' ⟨hb, q0, c0, q1, c1, qT, cT, S, D, I, rfl, hd, hM⟩
  have hy := none_young hd hm
  rw [hy] at hM
  rw [hy]
  exact ⟨hb, q0, c0, q1, c1, qT, cT, S, S.o.flatten, roots.map (lk D I), rfl, hd.same, hM⟩
/-- the third one -/
theorem step3 {W : World} {B : Nat} {v1 v2 : Value} {pr : Option Addr} {cr : Nat} {o2 : List Int} {K : Bk} {roots : List Int} (hB : B ≤ W.heap.size) (h : MemAt W B v1 v2 (.slice pr roots.length cr) ⟨[], o2, 0⟩ K roots) :
    Calls Tryz.prog 7 #[.agg #[v1, v2, .int .i64 0], .slice pr roots.length cr] W (fun e w' => Below W.heap.size W w' ∧ ∃ q0 c0 q1 c1 qT cT S, e = .returned (.tuple #[.agg #[.slice q0 0 c0, .slice q1 o2.length c1, .int .i64 0], .slice qT roots.length cT, .int .i64 0]) ∧
      SameG K S roots roots (met K roots) (met S roots) ∧ MemAt w' w'.heap.size (.slice q0 0 c0) (.slice q1 o2.length c1) (.slice qT roots.length cT) ⟨[], o2, 0⟩ S roots) := by
  refine (stepM hB h h.wr).mono ?_
  rintro e w' ⟨hb, q0, c0, q1, c1, qT, cT, S, D, I, rfl, hd, hM⟩
  obtain ⟨e1, e2, e3⟩ := none_moves hd rfl
  have hs := hd.same
  have e2 : S.o.flatten = o2 := e2
  rw [e1, e2, e3] at hM
  rw [e3] at hs
  rw [e1, e2, e3]
  exact ⟨hb, q0, c0, q1, c1, qT, cT, S, rfl, hs, hM⟩
/-- the full one -/
theorem step4 {W : World} {B : Nat} {v1 v2 : Value} {pr : Option Addr} {cr : Nat} {m : Mm} {K : Bk} {roots : List Int} (hB : B ≤ W.heap.size) (h : MemAt W B v1 v2 (.slice pr roots.length cr) m K roots) :
    Calls Tryz.prog 9 #[.agg #[v1, v2, .int .i64 m.at_], .slice pr roots.length cr] W (fun e w' => Below W.heap.size W w' ∧ ∃ q0 c0 q1 c1 qT cT S m4 r4, e = .returned (.tuple #[.agg #[.slice q0 m4.y.length c0, .slice q1 m4.o.length c1, .int .i64 m4.at_], .slice qT r4.length cT, .int .i64 0]) ∧
      SameG K S roots r4 (met K roots) (met S r4) ∧ (met S r4).Perm (ptrs m4 S) ∧ MemAt w' w'.heap.size (.slice q0 m4.y.length c0) (.slice q1 m4.o.length c1) (.slice qT r4.length cT) m4 S r4) := by
  refine (ans10 W B v1 v2 pr cr m roots hB h.y h.o h.wy h.wo h.t h.r h.wr h.rl).mono ?_
  rintro e w' ⟨q0, m0, c0, q1, m1, c1, n2, qT, mT, cT, er, rfl, hq, hb⟩
  rcases hq with ⟨_, base, K', S, D, I, hbs, e1, e2, o1, o2, o3, hp, hi, hs⟩ | ⟨hn, _⟩
  · obtain rfl := Sh.book hp.sh h.sh
    obtain rfl := own_len o1
    obtain rfl := own_len o2
    obtain rfl := own_len o3
    have e1 : n2 = 0 := e1
    subst e1 e2
    have hM := full_mem hp hi hs o1 o2 o3
    have hd : Done m K' true roots S D I := done_of hp hi hs
    have hall := full_all hp hi hs hM.ls hM.t
    exact ⟨hb, q0, c0, q1, c1, qT, cT, S, ⟨S.y.flatten, S.o.flatten, 0⟩, roots.map (lk D I), rfl, hd.same, hall, hM⟩
  · exact absurd ⟨K, h.sh, fun v hv => (h.rt v hv).1⟩ hn
/-- Reach of it -/
theorem reach5 {W : World} {B : Nat} {v1 v2 : Value} {pr : Option Addr} {cr : Nat} {m : Mm} {K : Bk} {roots : List Int} (hB : B ≤ W.heap.size) (h : MemAt W B v1 v2 (.slice pr roots.length cr) m K roots) (hp : (met K roots).Perm (ptrs m K)) :
    Calls Tryz.prog 10 #[.agg #[v1, v2, .int .i64 m.at_], .slice pr roots.length cr] W (fun e w' => Below W.heap.size W w' ∧ ∃ p c, e = .returned (.tuple #[.slice p (ptrs m K).length c, .int .i64 0]) ∧ WAt w' w'.heap.size (.slice p (ptrs m K).length c) (ptrs m K)) := by
  refine (reach25 W B v1 v2 pr cr m roots hB h.y h.o h.wy h.wo h.t h.r h.wr h.rl).mono ?_
  rintro e w' ⟨hb, ⟨K', v, l', h1, h2, rfl, h3, h4, h5⟩ | ⟨hn, rfl⟩⟩
  · obtain rfl := Sh.book h1 h.sh
    have ht := h.t
    have hl : l' = ptrs m K' := srt_uniq h.sh.pos (fun w hw => by
      obtain ⟨hx, h0, _⟩ := h.ls.2 w (h3.mem_iff.1 hw)
      exact ⟨h0, hx⟩) h4 (ptrs_srt (by omega) (by omega)) (h3.trans hp)
    subst hl
    obtain ⟨p, c, e, _⟩ := id h5
    subst e
    exact ⟨hb, p, c, rfl, h5⟩
  · exact absurd ⟨K, h.sh, fun v hv => (h.rt v hv).1⟩ hn
/-- and the reference's Objects -/
theorem objects12 {W : World} {B : Nat} {p1 p2 : Option Addr} {c1 c2 : Nat} {vr : Value} {m : Mm} {K : Bk} {roots : List Int} (hB : B ≤ W.heap.size) (h : MemAt W B (.slice p1 m.y.length c1) (.slice p2 m.o.length c2) vr m K roots) :
    Calls Tryz.prog 12 #[.agg #[.slice p1 m.y.length c1, .slice p2 m.o.length c2, .int .i64 m.at_]] W (RowP (ptrs m K) W) := by
  have hb1 : Below W.heap.size W (W.alloc (.cells #[.slice p1 m.y.length c1, .slice p2 m.o.length c2, .int .i64 m.at_] 24)) := belowA (Below.refl _ _) _
  have HO := Lib.hid ((h.below hb1 hB).opens (Nat.le_trans hB hb1.size))
  have HB1 := Lib.hid hb1
  have hX0 := World.alloc_heap_new W (.cells #[.slice p1 m.y.length c1, .slice p2 m.o.length c2, .int .i64 m.at_] 24)
  clear hb1 h
  go_enter Tryz.func12, Tryz.ntmps12
  go_wp2_with fail
  refine HO.out.mono ?_
  generalize (W.alloc (.cells #[.slice p1 m.y.length c1, .slice p2 m.o.length c2, .int .i64 m.at_] 24)) = W1 at *
  rintro e W2 ⟨hb2, p3, c3, p4, c4, rfl, hbk⟩
  have HB2 := Lib.hid (below_call HB1.out hb2)
  have hz := World.alloc_heap_new W2 (.cells #[.slice p1 m.y.length c1, .slice p2 m.o.length c2, .int .i64 m.at_, .slice p3 m.y.length c3, .slice p4 m.o.length c4] 38)
  have hb3 : Below W2.heap.size W2 (W2.alloc (.cells #[.slice p1 m.y.length c1, .slice p2 m.o.length c2, .int .i64 m.at_, .slice p3 m.y.length c3, .slice p4 m.o.length c4] 38)) := belowA (Below.refl _ _) _
  have HOb := Lib.hid (objects28 _ W2.heap.size p1 c1 p2 c2 p3 c3 p4 c4 m K hb3.size (hbk.below hb3 (Nat.le_refl _)))
  have HB3 := Lib.hid (below_call HB2.out hb3)
  obtain ⟨z0, z1, z2, z3, z4, zf⟩ := five_cells hz
  clear hb2 hbk hz hb3 HO hX0
  go_wp2_with fail
  refine HOb.out.mono ?_
  rintro e W3 ⟨v, rfl, hv, hb⟩
  obtain ⟨p, c, e, _⟩ := id hv
  subst e
  have HB4 := Lib.hid (below_call HB3.out hb)
  have HV := Lib.hid hv
  clear hv hb z0 z1 z2 z3 z4 zf HOb
  go_wp2_with fail
  go_ret
  exact ⟨_, rfl, HV.out, HB4.out⟩
end Go.Proofs.YtegffanlehaloaaGreat.cl
