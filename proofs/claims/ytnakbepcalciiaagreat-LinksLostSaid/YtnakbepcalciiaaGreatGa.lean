/- Several texts in one, one behind the other: Mem, TmA, TnY, TmB, TmC. No condition beyond theirs. -/
import Derived.Test.YtnakbepcalciiaaGreatRows
import Derived.WalkKit
import Derived.Maps.Own
import Derived.Maps.OwnOps
import Derived.Deep.Draws
import Derived.Lib.Hide
import Derived.Test.YtnakbepcalciiaaGreatFrame
import Derived.Deep.Slices
import Derived.Deep.Fields
import Derived.ChangeSame
import Derived.Deep.QuietTactic
import Derived.BigQuiet
import Derived.WalkSpells
import Derived.StillTailTactics
import Derived.Outline
import Derived.IntWalk

/- Memory that a call owns: what a step touches (TouchB), and maps as lists of entries (MapIs), over any program. No condition. -/
namespace Go.Proofs.YtnakbepcalciiaaGreat.mem
open Go.RowKit
set_option linter.unusedVariables false
set_option linter.unusedSimpArgs false
set_option linter.unusedSectionVars false

/-- what lay in memory is as it was, but for the blocks of S -/
structure TouchB (S : Nat → Prop) (w w' : World) : Prop where
  os : w'.os = w.os
  tape : w'.tape = w.tape
  output : w'.output = w.output
  size : w.heap.size ≤ w'.heap.size
  block : ∀ k, k < w.heap.size → ¬ S k → w'.heap[k]? = w.heap[k]?

theorem TouchB.refl (S : Nat → Prop) (w : World) : TouchB S w w := ⟨rfl, rfl, rfl, Nat.le_refl _, fun _ _ _ => rfl⟩
theorem TouchB.trans {S : Nat → Prop} {a b c : World} (h : TouchB S a b) {S' : Nat → Prop} (k : TouchB S' b c) (hs : ∀ i, i < a.heap.size → S' i → S i) : TouchB S a c :=
  ⟨k.os.trans h.os, k.tape.trans h.tape, k.output.trans h.output, Nat.le_trans h.size k.size, fun i hi hn => (k.block i (Nat.lt_of_lt_of_le hi h.size) (fun e => hn (hs i hi e))).trans (h.block i hi hn)⟩
theorem TouchB.mono {S S' : Nat → Prop} {a b : World} (h : TouchB S a b) (hs : ∀ i, i < a.heap.size → S i → S' i) : TouchB S' a b :=
  ⟨h.os, h.tape, h.output, h.size, fun i hi hn => h.block i hi (fun e => hn (hs i hi e))⟩
theorem TouchB.alloc {S : Nat → Prop} {a b : World} (h : TouchB S a b) (o : Obj) : TouchB S a (b.alloc o) :=
  h.trans (S' := fun _ => False) ⟨rfl, rfl, rfl, by simp, fun k hk _ => Below.heap_alloc _ _ _ hk⟩ (fun _ _ f => f.elim)
theorem TouchB.drew {S : Nat → Prop} {a b : World} (h : TouchB S a b) : TouchB S a b.drew := ⟨h.os, h.tape, h.output, h.size, h.block⟩
theorem TouchB.drewN {S : Nat → Prop} {a b : World} (h : TouchB S a b) (n : Nat) : TouchB S a (b.drewN n) := ⟨h.os, h.tape, h.output, h.size, h.block⟩
theorem TouchB.setCell {S : Nat → Prop} {a b : World} (h : TouchB S a b) (p : Addr) (u : Value) (hp : p.block < a.heap.size → S p.block) : TouchB S a (b.setCell p u) :=
  h.trans (S' := fun k => k = p.block) ⟨rfl, rfl, rfl, by simp, fun k _ hn => Below.heap_setCell _ _ _ _ hn⟩ (fun i hi e => by subst e; exact hp hi)
theorem TouchB.grown {S : Nat → Prop} {a b c : World} (h : TouchB S a b) {row : Option Nat} (hg : b.grownBy c row) (hr : ∀ k, row = some k → k < a.heap.size → S k) : TouchB S a c :=
  h.trans (S' := fun k => row = some k) ⟨hg.os, hg.tape, hg.output, hg.size, fun k hk hn => hg.block k hk (fun e => hn e.symm)⟩ (fun i hi e => hr i e hi)
theorem TouchB.below {S : Nat → Prop} {a b : World} (h : TouchB S a b) {B : Nat} (hS : ∀ k, S k → B ≤ k) (hB : B ≤ a.heap.size) : Below B a b :=
  ⟨h.os, h.tape, h.output, h.size, fun k hk => h.block k (by omega) (fun e => by have := hS k e; omega)⟩
theorem TouchB.ofBelow {S : Nat → Prop} {a b c : World} (h : TouchB S a b) {B : Nat} (hb : Below B b c) (hB : a.heap.size ≤ B) : TouchB S a c :=
  h.trans (S' := fun k => B ≤ k) ⟨hb.os, hb.tape, hb.output, hb.size, fun k hk hn => hb.block k (by omega)⟩ (fun i hi e => absurd hi (by omega))
theorem TouchB.cell {S : Nat → Prop} {a b : World} (h : TouchB S a b) {p : Addr} (hp : p.block < a.heap.size) (hn : ¬ S p.block) : b.cell? p = a.cell? p :=
  World.cell?_of_block (w := a) (h.block p.block hp hn)
theorem TouchB.frozen {S : Nat → Prop} {a b : World} (h : TouchB S a b) {p : Addr} (hp : p.block < a.heap.size) (hn : ¬ S p.block) : b.frozen? p = a.frozen? p :=
  World.frozen?_of_block (w := a) (h.block p.block hp hn)

/-- a row that the call owns, in a world that has not touched it -/
theorem row_same {w w' : World} {base : Nat} {e : TypeId} {size : Nat} {v : Value} {n : Nat} {xs : List Value} (h : w.ownsRow base e size v n xs) (hk : ∀ k, v.ownBlock = some k → w'.heap[k]? = w.heap[k]?) :
    w'.ownsRow base e size v n xs := by
  obtain ⟨hl, h | ⟨g, cap, cur, rfl, hb, hh, r⟩⟩ := h
  · exact ⟨hl, .inl h⟩
  · exact ⟨hl, .inr ⟨g, cap, cur, rfl, hb, by rw [hk g rfl]; exact hh, r⟩⟩
theorem row_base {w : World} {base base' : Nat} {e : TypeId} {size : Nat} {v : Value} {n : Nat} {xs : List Value} (h : w.ownsRow base e size v n xs) (hb : ∀ k, v.ownBlock = some k → base' ≤ k) :
    w.ownsRow base' e size v n xs := by
  obtain ⟨hl, h | ⟨g, cap, cur, rfl, hb', r⟩⟩ := h
  · exact ⟨hl, .inl h⟩
  · exact ⟨hl, .inr ⟨g, cap, cur, rfl, hb g rfl, r⟩⟩

/-! ### maps -/
section
variable {κ : Type} [DecidableEq κ]

/-- block m is a map whose entries are kvs, in this order -/
def MapIs (toV : κ → Value) (w : World) (m : Nat) (kvs : List (κ × Value)) : Prop :=
  ∃ es clock, w.heap[m]? = some (.map es clock) ∧ es.toList.map (fun e => (e.key, e.val)) = kvs.map (fun p => (toV p.1, p.2))

theorem MapIs.lt {toV : κ → Value} {w : World} {m : Nat} {kvs : List (κ × Value)} (h : MapIs toV w m kvs) : m < w.heap.size := by
  obtain ⟨es, clock, hh, _⟩ := h
  exact (Array.getElem?_eq_some_iff.1 hh).1
theorem MapIs.same {toV : κ → Value} {w w' : World} {m : Nat} {kvs : List (κ × Value)} (h : MapIs toV w m kvs) (hs : w'.heap[m]? = w.heap[m]?) : MapIs toV w' m kvs := by
  obtain ⟨es, clock, hh, r⟩ := h
  exact ⟨es, clock, hs.trans hh, r⟩
theorem MapIs.made (toV : κ → Value) (w : World) : MapIs toV (w.alloc (.map #[] 0)) w.heap.size [] :=
  ⟨#[], 0, (MapKept.heap_alloc w _).1, rfl⟩

/-- a key's type, and how its values are told apart -/
structure KeyKind (P : Program) (kt : TypeId) (toV : κ → Value) : Prop where
  kind : ∃ d, P.underlying kt = some d ∧ (d = .string ∨ (∃ k, d = .int k) ∨ d = .bool) ∧ ∀ a b, Instr.sameNow d (toV a) (toV b) = some (decide (a = b))
  bits : ∀ a, Instr.sameBits 10000 (toV a) (toV a) = true

theorem findNow_eq {d : TypeDesc} {toV : κ → Value} (hd : ∀ a b, Instr.sameNow d (toV a) (toV b) = some (decide (a = b))) (k : κ) :
    ∀ (es : List MapEntry) (kvs : List (κ × Value)) (i : Nat), es.map (fun e => (e.key, e.val)) = kvs.map (fun p => (toV p.1, p.2)) →
    Instr.findNow d (toV k) es i = some ((kvs.findIdx? (fun p => decide (k = p.1))).map (fun j => (i + j, ((kvs[j]?).map (·.2)).getD undef))) := by
  intro es
  induction es with
  | nil =>
    intro kvs i h
    cases kvs with
    | nil => rfl
    | cons _ _ => simp at h
  | cons e es ih =>
    intro kvs i h
    cases kvs with
    | nil => simp at h
    | cons p kvs =>
      simp only [List.map_cons, List.cons.injEq, Prod.mk.injEq] at h
      obtain ⟨⟨h1, h2⟩, h3⟩ := h
      simp only [Instr.findNow, h1, hd]
      by_cases hk : k = p.1
      · simp [hk, List.findIdx?_cons, h2]
      · simp only [hk, decide_false]
        rw [ih kvs (i + 1) h3, List.findIdx?_cons]
        simp [hk]
        cases List.findIdx? (fun p => decide (k = p.1)) kvs <;> simp; omega

def alFind (kvs : List (κ × Value)) (k : κ) : Option Value := (kvs.find? (fun p => decide (k = p.1))).map (·.2)
def alIdx (kvs : List (κ × Value)) (k : κ) : Option Nat := kvs.findIdx? (fun p => decide (k = p.1))
def alPut (kvs : List (κ × Value)) (k : κ) (v : Value) : List (κ × Value) :=
  match alIdx kvs k with
  | some i => kvs.modify i (fun p => (p.1, v))
  | none => kvs ++ [(k, v)]
def alDel (kvs : List (κ × Value)) (k : κ) : List (κ × Value) :=
  match alIdx kvs k with
  | some i => kvs.eraseIdx i
  | none => kvs

theorem alFind_idx (kvs : List (κ × Value)) (k : κ) : (alIdx kvs k).map (fun j => ((kvs[j]?).map (·.2)).getD undef) = alFind kvs k := by
  unfold alIdx alFind
  induction kvs with
  | nil => rfl
  | cons p kvs ih =>
    rw [List.findIdx?_cons, List.find?_cons]
    by_cases hk : k = p.1
    · simp [hk]
    · simp only [hk, decide_false, Bool.false_eq_true, if_false]
      rw [← ih]
      cases List.findIdx? (fun p => decide (k = p.1)) kvs <;> simp

theorem run_checkKey {P : Program} {kt : TypeId} {d : TypeDesc} (h : P.underlying kt = some d) (hd : d = .string ∨ (∃ k, d = .int k) ∨ d = .bool) (b : Bool) (v : Value) (w : World) :
    (Instr.checkKey b 10000 kt v).run P w = .ok () w := by
  have g : ∀ n, (Instr.checkKey b (n + 1) kt v).run P w = .ok () w := by
    intro n
    rcases hd with rfl | ⟨k, rfl⟩ | rfl
    all_goals simp [Instr.checkKey, run_underlying h]
  exact g 9999

theorem run_findKey {P : Program} {kt : TypeId} {toV : κ → Value} (K : KeyKind P kt toV) (k : κ) (es : List MapEntry) (kvs : List (κ × Value)) (h : es.map (fun e => (e.key, e.val)) = kvs.map (fun p => (toV p.1, p.2))) (w : World) :
    (Instr.findKey kt (toV k) es).run P w = .ok ((alIdx kvs k).map (fun j => (j, ((kvs[j]?).map (·.2)).getD undef))) w := by
  obtain ⟨d, hd, hdd, hs⟩ := K.kind
  simp [Instr.findKey, run_underlying hd, findNow_eq hs k es kvs 0 h, alIdx]

theorem run_lookup_ok {P : Program} {t kt et : TypeId} {toV : κ → Value} (K : KeyKind P kt toV) (ht : P.underlying t = some (.map kt et)) {w : World} {m : Nat} {kvs : List (κ × Value)} (hm : MapIs toV w m kvs) (k : κ)
    {z : Value} (hz : (zeroValue et).run P w = .ok z w) :
    (Instr.lookup t (.map (some m)) (toV k) true).run P w = .ok (.tuple #[(alFind kvs k).getD z, .bool (alFind kvs k).isSome]) w := by
  obtain ⟨es, clock, hh, he⟩ := hm
  obtain ⟨d, hd, hdd, hs⟩ := K.kind
  have hf := run_findKey K k es.toList kvs he w
  have hc := run_checkKey hd hdd es.isEmpty (toV k) w
  have hi := alFind_idx kvs k
  simp [Instr.lookup, run_underlying ht, getObj, Sem.run, hh, hc, hf, Result.andThen]
  cases hx : alIdx kvs k with
  | none => rw [hx] at hi; simp [← hi, hz, Result.andThen]
  | some j => rw [hx] at hi; simp [← hi]
theorem run_lookup {P : Program} {t kt et : TypeId} {toV : κ → Value} (K : KeyKind P kt toV) (ht : P.underlying t = some (.map kt et)) {w : World} {m : Nat} {kvs : List (κ × Value)} (hm : MapIs toV w m kvs) (k : κ)
    {z : Value} (hz : (zeroValue et).run P w = .ok z w) :
    (Instr.lookup t (.map (some m)) (toV k) false).run P w = .ok ((alFind kvs k).getD z) w := by
  obtain ⟨es, clock, hh, he⟩ := hm
  obtain ⟨d, hd, hdd, hs⟩ := K.kind
  have hf := run_findKey K k es.toList kvs he w
  have hc := run_checkKey hd hdd es.isEmpty (toV k) w
  have hi := alFind_idx kvs k
  simp [Instr.lookup, run_underlying ht, getObj, Sem.run, hh, hc, hf, Result.andThen]
  cases hx : alIdx kvs k with
  | none => rw [hx] at hi; simp [← hi, hz, Result.andThen]
  | some j => rw [hx] at hi; simp [← hi]

theorem alIdx_lt {kvs : List (κ × Value)} {k : κ} {j : Nat} (h : alIdx kvs k = some j) : ∃ v, kvs[j]? = some (k, v) := by
  unfold alIdx at h
  rw [List.findIdx?_eq_some_iff_getElem] at h
  obtain ⟨hl, hk, _⟩ := h
  refine ⟨kvs[j].2, ?_⟩
  rw [List.getElem?_eq_getElem hl]
  have := of_decide_eq_true hk
  rw [this]

theorem map_modify_entries (toV : κ → Value) (es : List MapEntry) (kvs : List (κ × Value)) (h : es.map (fun e => (e.key, e.val)) = kvs.map (fun p => (toV p.1, p.2))) (j : Nat) (k : κ) (v v0 : Value) (hj : kvs[j]? = some (k, v0)) :
    (es.modify j (fun e => { e with key := toV k, val := v })).map (fun e => (e.key, e.val)) = (kvs.modify j (fun p => (p.1, v))).map (fun p => (toV p.1, p.2)) := by
  induction kvs generalizing es j with
  | nil => simp at hj
  | cons p kvs ih =>
    cases es with
    | nil => simp at h
    | cons e es =>
      simp only [List.map_cons, List.cons.injEq] at h
      cases j with
      | zero =>
        simp only [List.getElem?_cons_zero, Option.some.injEq] at hj
        subst hj
        simp [List.modify_zero_cons, h.2]
      | succ j =>
        simp only [List.getElem?_cons_succ] at hj
        simp only [List.modify_succ_cons, List.map_cons, h.1, ih es h.2 j hj]

theorem set_touch (w : World) (m : Nat) (o : Obj) : TouchB (fun k => k = m) w { w with heap := w.heap.setIfInBounds m o } :=
  ⟨rfl, rfl, rfl, by simp, fun k hk hn => by
    show (w.heap.setIfInBounds m o)[k]? = _
    rw [Array.getElem?_setIfInBounds_ne (fun e => hn e.symm)]⟩
theorem set_heap (w : World) (m : Nat) (o : Obj) (h : m < w.heap.size) : ({ w with heap := w.heap.setIfInBounds m o } : World).heap[m]? = some o := by
  show (w.heap.setIfInBounds m o)[m]? = _
  rw [Array.getElem?_setIfInBounds_self_of_lt h]

theorem run_mapUpdate {P : Program} {t kt et : TypeId} {toV : κ → Value} (K : KeyKind P kt toV) (ht : P.underlying t = some (.map kt et)) {w : World} {m : Nat} {kvs : List (κ × Value)} (hm : MapIs toV w m kvs) (k : κ) (v : Value) :
    ∃ w', (Instr.mapUpdate t (.map (some m)) (toV k) v).run P w = .ok () w' ∧ MapIs toV w' m (alPut kvs k v) ∧ TouchB (fun i => i = m) w w' ∧ w'.heap.size = w.heap.size := by
  have hlt := hm.lt
  obtain ⟨es, clock, hh, he⟩ := hm
  obtain ⟨d, hd, hdd, hs⟩ := K.kind
  have hf := run_findKey K k es.toList kvs he w
  have hc := run_checkKey hd hdd false (toV k) w
  cases hx : alIdx kvs k with
  | none =>
    rw [hx] at hf
    refine ⟨{ w with heap := w.heap.setIfInBounds m (.map (es.push { key := toV k, val := v, born := clock }) (clock + 1)) }, ?_, ?_, set_touch w m _, by simp⟩
    · simp [Instr.mapUpdate, run_underlying ht, getObj, setObj, Sem.run, hh, hc, hf, Result.andThen]
    · refine ⟨_, _, set_heap w m _ hlt, ?_⟩
      simp [alPut, hx, he]
  | some j =>
    rw [hx] at hf
    obtain ⟨v0, hj⟩ := alIdx_lt hx
    have hek : es[j]?.map (fun e => (e.key, e.val)) = some (toV k, v0) := by
      have h1 := congrArg (fun l => l[j]?) he
      simp only [List.getElem?_map, Array.getElem?_toList, hj, Option.map_some] at h1
      exact h1
    have hek' : (es[j]?).map (·.key) = some (toV k) := by
      cases hh : es[j]? with
      | none => rw [hh] at hek; simp at hek
      | some e => rw [hh] at hek; simp only [Option.map_some, Option.some.injEq, Prod.mk.injEq] at hek; simp [hek.1]
    have hst : (Instr.keyThatStays (toV k) (toV k)).run P w = .ok (toV k) w := by
      unfold Instr.keyThatStays; rw [if_pos (K.bits k)]; rfl
    refine ⟨{ w with heap := w.heap.setIfInBounds m (.map (es.modify j fun e => { e with key := toV k, val := v }) clock) }, ?_, ?_, set_touch w m _, by simp⟩
    · simp [Instr.mapUpdate, run_underlying ht, getObj, setObj, Sem.run, hh, hc, hf, Result.andThen, hek', hst]
    · refine ⟨_, _, set_heap w m _ hlt, ?_⟩
      simp only [alPut, hx, Array.toList_modify]
      exact map_modify_entries toV es.toList kvs he j k v v0 hj

theorem map_eraseIdx' {α β : Type} (f : α → β) (l : List α) (j : Nat) : (l.eraseIdx j).map f = (l.map f).eraseIdx j := by
  induction l generalizing j with
  | nil => rfl
  | cons a l ih => cases j <;> simp [ih]

theorem run_delete {P : Program} {t kt et ty : TypeId} {toV : κ → Value} {at1 : TypeId} (K : KeyKind P kt toV) (ht : P.underlying t = some (.map kt et)) {w : World} {m : Nat} {kvs : List (κ × Value)} (hm : MapIs toV w m kvs) (k : κ) :
    ∃ w', (Builtin.delete_ #[t, at1] ty #[.map (some m), toV k]).run P w = .ok (.tuple #[]) w' ∧ MapIs toV w' m (alDel kvs k) ∧ TouchB (fun i => i = m) w w' ∧ w'.heap.size = w.heap.size := by
  have hlt := hm.lt
  obtain ⟨es, clock, hh, he⟩ := hm
  obtain ⟨d, hd, hdd, hs⟩ := K.kind
  have hf := run_findKey K k es.toList kvs he w
  have hc := run_checkKey hd hdd es.isEmpty (toV k) w
  cases hx : alIdx kvs k with
  | none =>
    rw [hx] at hf
    refine ⟨{ w with heap := w.heap.setIfInBounds m (.map es clock) }, ?_, ?_, set_touch w m _, by simp⟩
    · simp [Builtin.delete_, run_underlying ht, getObj, setObj, Sem.run, hh, hc, hf, Result.andThen]
    · refine ⟨_, _, set_heap w m _ hlt, ?_⟩
      simp [alDel, hx, he]
  | some j =>
    rw [hx] at hf
    refine ⟨{ w with heap := w.heap.setIfInBounds m (.map (es.eraseIdxIfInBounds j) clock) }, ?_, ?_, set_touch w m _, by simp⟩
    · simp [Builtin.delete_, run_underlying ht, getObj, setObj, Sem.run, hh, hc, hf, Result.andThen]
    · refine ⟨_, _, set_heap w m _ hlt, ?_⟩
      have e1 : (es.eraseIdxIfInBounds j).toList = es.toList.eraseIdx j := by
        unfold Array.eraseIdxIfInBounds
        split
        · simp
        · rename_i hn; rw [List.eraseIdx_of_length_le]; simpa using Nat.le_of_not_lt hn
      simp only [alDel, hx, e1, map_eraseIdx', he]

/-- at the operation, for the walk -/
theorem wpList_mapUpdate_al {P : Program} (w : World) {ops : Array Oper} {rest : List Oper} {o : Oper} {a : Act} {Q : Exit → Act → World → Prop}
    (hg : o.guard = none) (mo xo vo : Operand) (t : TypeId) (hop : o.op = Op.mapUpdate t mo xo vo)
    {kt et : TypeId} {toV : κ → Value} (K : KeyKind P kt toV) (ht : P.underlying t = some (.map kt et)) (m : Nat) (kvs : List (κ × Value)) (hm : MapIs toV w m kvs) (k : κ) (v : Value)
    (hmo : a.eval mo = .map (some m)) (hx : a.eval xo = toV k) (hv : a.eval vo = v)
    (hK : ∀ w', MapIs toV w' m (alPut kvs k v) → TouchB (fun i => i = m) w w' → w'.heap.size = w.heap.size → wpList P ops Q rest (a.put o.dst undef) w') :
    wpList P ops Q (o :: rest) a w := by
  refine wpList_plain hg fun K' hK' => ?_
  obtain ⟨w', hrun, r1, r2, r3⟩ := run_mapUpdate K ht hm k v
  unfold Oper.wp
  simp [execOp, hop, hmo, hx, hv, hrun, Result.andThen]
  exact hK' _ _ (hK w' r1 r2 r3)

theorem bytes_beq (a b : ByteArray) : (a == b) = true ↔ a = b := by
  obtain ⟨a⟩ := a
  obtain ⟨b⟩ := b
  show (a == b) = true ↔ _
  simp
theorem string_key {P : Program} {kt : TypeId} (h : P.underlying kt = some .string) : KeyKind P kt Value.string where
  kind := ⟨.string, h, .inl rfl, fun a b => by simp only [Instr.sameNow]; congr 1; rw [Bool.eq_iff_iff, bytes_beq]; simp⟩
  bits := fun a => by simp only [Instr.sameBits]; exact (bytes_beq a a).2 rfl
theorem int_key {P : Program} {kt : TypeId} {q : IntKind} (h : P.underlying kt = some (.int q)) : KeyKind P kt (Value.int q) where
  kind := ⟨.int q, h, .inr (.inl ⟨q, rfl⟩), fun a b => by simp only [Instr.sameNow, if_true]; rfl⟩
  bits := fun a => by simp [Instr.sameBits]
theorem bool_key {P : Program} {kt : TypeId} (h : P.underlying kt = some .bool) : KeyKind P kt Value.bool where
  kind := ⟨.bool, h, .inr (.inr rfl), fun a b => by simp only [Instr.sameNow]; rfl⟩
  bits := fun a => by simp [Instr.sameBits]
end
end Go.Proofs.YtnakbepcalciiaaGreat.mem

/- Terms as trees, by depth; how a list of terms lies in memory. No condition. -/
namespace Go.Proofs.YtnakbepcalciiaaGreat.tm
open Go.RowKit mem
set_option linter.unusedVariables false
set_option linter.unusedSimpArgs false

/-- a term's own fields -/
structure TF where
  kind : Int
  int : Int
  gen : Int
  name : ByteArray
  func : ByteArray
  arity : Int
  bytes : ByteArray
  bits : Int
/-- a term whose elements nest less than n deep -/
def Tm : Nat → Type
  | 0 => Empty
  | n + 1 => TF × List (Tm n)
def Tm.f {n : Nat} (t : Tm (n + 1)) : TF := Prod.fst t
def Tm.items {n : Nat} (t : Tm (n + 1)) : List (Tm n) := Prod.snd t
def Tm.mk {n : Nat} (f : TF) (l : List (Tm n)) : Tm (n + 1) := (f, l)
theorem Tm.ext {n : Nat} {a b : Tm (n + 1)} (h1 : a.f = b.f) (h2 : a.items = b.items) : a = b := Prod.ext h1 h2
theorem Tm.nil0 (l : List (Tm 0)) : l = [] := by
  cases l with
  | nil => rfl
  | cons a l => exact (nomatch (show Empty from a))

/-- the value of a term: v is the value of its Items -/
def aggV (f : TF) (v : Value) : Value := .agg #[.int .i64 f.kind, .int .i64 f.int, .int .i64 f.gen, .string f.name, .string f.func, .int .i64 f.arity, v, .string f.bytes, .int .i64 f.bits]
/-- the nine cells of a term -/
structure Cells (w : World) (g o : Nat) (f : TF) (v : Value) : Prop where
  c0 : w.cell? ⟨g, o, none⟩ = some (.int .i64 f.kind)
  c1 : w.cell? ⟨g, o + 1, none⟩ = some (.int .i64 f.int)
  c2 : w.cell? ⟨g, o + 1 + 1, none⟩ = some (.int .i64 f.gen)
  c3 : w.cell? ⟨g, o + 1 + 1 + 1, none⟩ = some (.string f.name)
  c4 : w.cell? ⟨g, o + 1 + 1 + 1 + 1, none⟩ = some (.string f.func)
  c5 : w.cell? ⟨g, o + 1 + 1 + 1 + 1 + 1, none⟩ = some (.int .i64 f.arity)
  c6 : w.cell? ⟨g, o + 1 + 1 + 1 + 1 + 1 + 1, none⟩ = some v
  c7 : w.cell? ⟨g, o + 1 + 1 + 1 + 1 + 1 + 1 + 1, none⟩ = some (.string f.bytes)
  c8 : w.cell? ⟨g, o + 1 + 1 + 1 + 1 + 1 + 1 + 1 + 1, none⟩ = some (.int .i64 f.bits)
theorem Cells.same {w w' : World} {g o : Nat} {f : TF} {v : Value} (h : Cells w g o f v) (hs : w'.heap[g]? = w.heap[g]?) : Cells w' g o f v := by
  have e : ∀ x, w'.cell? ⟨g, x, none⟩ = w.cell? ⟨g, x, none⟩ := fun x => World.cell?_of_block (w := w) (w' := w') (a := ⟨g, x, none⟩) hs
  exact ⟨(e _).trans h.c0, (e _).trans h.c1, (e _).trans h.c2, (e _).trans h.c3, (e _).trans h.c4, (e _).trans h.c5, (e _).trans h.c6, (e _).trans h.c7, (e _).trans h.c8⟩

/-- a slice of terms in blocks below B -/
def ItemsAt (w : World) (B : Nat) : (n : Nat) → Value → List (Tm n) → Prop
  | 0, v, _ => ∃ p c, v = .slice p 0 c ∧ c ≤ maxLen
  | n + 1, v, l => ∃ p c, v = .slice p l.length c ∧ l.length ≤ c ∧ c ≤ maxLen ∧ (l ≠ [] → ∃ g o, p = some ⟨g, o, none⟩ ∧ g < B ∧
      ∀ j, (h : j < l.length) → ∃ u, Cells w g (o + j * 9) (l[j]).f u ∧ ItemsAt w B n u (l[j]).items)
theorem ItemsAt.shape {w : World} {B n : Nat} {v : Value} {l : List (Tm n)} (h : ItemsAt w B n v l) : ∃ p c, v = .slice p l.length c ∧ l.length ≤ c ∧ c ≤ maxLen := by
  cases n with
  | zero =>
    obtain ⟨p, c, rfl, hc⟩ := h
    have := Tm.nil0 l
    subst this
    exact ⟨p, c, rfl, Nat.zero_le _, hc⟩
  | succ n => obtain ⟨p, c, e, h1, h2, _⟩ := h; exact ⟨p, c, e, h1, h2⟩
theorem ItemsAt.same {w w' : World} {B : Nat} (hs : ∀ g, g < B → w'.heap[g]? = w.heap[g]?) : ∀ {n : Nat} {v : Value} {l : List (Tm n)}, ItemsAt w B n v l → ItemsAt w' B n v l := by
  intro n
  induction n with
  | zero => intro v l h; exact h
  | succ n ih =>
    intro v l h
    obtain ⟨p, c, e, h1, h2, h3⟩ := h
    refine ⟨p, c, e, h1, h2, fun hn => ?_⟩
    obtain ⟨g, o, e, hg, hc⟩ := h3 hn
    refine ⟨g, o, e, hg, fun j hj => ?_⟩
    obtain ⟨u, hc1, hc2⟩ := hc j hj
    exact ⟨u, hc1.same (hs g hg), ih hc2⟩
theorem ItemsAt.below {w w' : World} {B B' : Nat} {n : Nat} {v : Value} {l : List (Tm n)} (h : ItemsAt w B n v l) (hb : Below B' w w') (hB : B ≤ B') : ItemsAt w' B n v l :=
  h.same fun g hg => hb.block g (by omega)
theorem ItemsAt.drewN {w : World} {B : Nat} {n : Nat} {v : Value} {l : List (Tm n)} (h : ItemsAt w B n v l) (m : Nat) : ItemsAt (w.drewN m) B n v l := ItemsAt.same (w := w) (w' := w.drewN m) (B := B) (fun _ _ => rfl) h
theorem ItemsAt.more {w : World} {B B' : Nat} (hB : B ≤ B') : ∀ {n : Nat} {v : Value} {l : List (Tm n)}, ItemsAt w B n v l → ItemsAt w B' n v l := by
  intro n
  induction n with
  | zero => intro v l h; exact h
  | succ n ih =>
    intro v l h
    obtain ⟨p, c, e, h1, h2, h3⟩ := h
    refine ⟨p, c, e, h1, h2, fun hn => ?_⟩
    obtain ⟨g, o, e, hg, hc⟩ := h3 hn
    refine ⟨g, o, e, by omega, fun j hj => ?_⟩
    obtain ⟨u, hc1, hc2⟩ := hc j hj
    exact ⟨u, hc1, ih hc2⟩
/-- an element -/
theorem ItemsAt.at_ {w : World} {B n : Nat} {v : Value} {l : List (Tm (n + 1))} (h : ItemsAt w B (n + 1) v l) (hne : l ≠ []) : ∃ g o c, v = .slice (some ⟨g, o, none⟩) l.length c ∧ l.length ≤ c ∧ c ≤ maxLen ∧ g < B ∧
    ∀ j, (h : j < l.length) → ∃ u, Cells w g (o + j * 9) (l[j]).f u ∧ ItemsAt w B n u (l[j]).items := by
  obtain ⟨p, c, e, h1, h2, h3⟩ := h
  obtain ⟨g, o, rfl, hg, hc⟩ := h3 hne
  exact ⟨g, o, c, e, h1, h2, hg, hc⟩
/-- the elements from k on -/
theorem ItemsAt.nil_any {w : World} {B n c : Nat} {p : Option Addr} (hc : c ≤ maxLen) : ItemsAt w B n (.slice p 0 c) ([] : List (Tm n)) := by
  cases n with
  | zero => exact ⟨p, c, rfl, hc⟩
  | succ n => exact ⟨p, c, rfl, Nat.zero_le _, hc, fun h => absurd rfl h⟩

/-! ### deeper -/
def liftT : (n : Nat) → Tm n → Tm (n + 1)
  | 0, t => (nomatch (show Empty from t))
  | n + 1, t => Tm.mk t.f (t.items.map (liftT n))
def liftL (n : Nat) (l : List (Tm n)) : List (Tm (n + 1)) := l.map (liftT n)
theorem liftT_f {n : Nat} (t : Tm (n + 1)) : (liftT (n + 1) t).f = t.f := rfl
theorem liftT_items {n : Nat} (t : Tm (n + 1)) : (liftT (n + 1) t).items = liftL n t.items := rfl
theorem ItemsAt.lift {w : World} {B : Nat} : ∀ {n : Nat} {v : Value} {l : List (Tm n)}, ItemsAt w B n v l → ItemsAt w B (n + 1) v (liftL n l) := by
  intro n
  induction n with
  | zero =>
    intro v l h
    obtain ⟨p, c, rfl, hc⟩ := h
    have := Tm.nil0 l
    subst this
    exact ⟨p, c, rfl, Nat.zero_le _, hc, fun h => absurd rfl h⟩
  | succ n ih =>
    intro v l h
    obtain ⟨p, c, e, h1, h2, h3⟩ := h
    have hl : (liftL (n + 1) l).length = l.length := by simp [liftL]
    refine ⟨p, c, by rw [hl]; exact e, by rw [hl]; exact h1, h2, fun hn => ?_⟩
    obtain ⟨g, o, e, hg, hc⟩ := h3 (fun e => hn (by rw [e]; rfl))
    refine ⟨g, o, e, hg, fun j hj => ?_⟩
    rw [hl] at hj
    obtain ⟨u, hc1, hc2⟩ := hc j hj
    have he : (liftL (n + 1) l)[j]'(by rw [hl]; exact hj) = liftT (n + 1) l[j] := by simp [liftL]
    rw [he]
    exact ⟨u, hc1, ih hc2⟩
theorem ItemsAt.to {w : World} {B n m : Nat} {v : Value} {l : List (Tm n)} (h : ItemsAt w B n v l) (hm : n ≤ m) : ∃ l' : List (Tm m), ItemsAt w B m v l' := by
  induction m with
  | zero =>
    obtain rfl : n = 0 := by omega
    exact ⟨l, h⟩
  | succ m ih =>
    by_cases e : n = m + 1
    · subst e; exact ⟨l, h⟩
    · obtain ⟨l', h'⟩ := ih (by omega)
      exact ⟨_, h'.lift⟩
end Go.Proofs.YtnakbepcalciiaaGreat.tm

/- How the laws' terms lie in memory. No condition. -/
namespace Go.Proofs.YtnakbepcalciiaaGreat.tm
open Go.RowKit mem Go.ChangeShapes Go.WideShapes Go.ChangeAt Go.Deep
set_option maxRecDepth 100000
set_option linter.unusedVariables false
set_option linter.unusedSimpArgs false
variable {H : Type} {enc : TypeId × Value → H} {W : World}
theorem list_ofT {α : Type} (P : Nat → α → Prop) : ∀ n, (∀ i, i < n → ∃ a, P i a) → ∃ l : List α, l.length = n ∧ ∀ i, (h : i < l.length) → P i l[i] := by
  intro n
  induction n with
  | zero => intro _; exact ⟨[], rfl, fun i h => absurd h (by simp)⟩
  | succ n ih =>
    intro h
    obtain ⟨l, hl, hp⟩ := ih (fun i hi => h i (by omega))
    obtain ⟨a, ha⟩ := h n (by omega)
    refine ⟨l ++ [a], by simp [hl], fun i hi => ?_⟩
    by_cases hin : i < l.length
    · rw [List.getElem_append_left hin]; exact hp i hin
    · have : i = n := by simp at hi; omega
      subst this
      rw [List.getElem_append_right (by omega)]
      simpa using ha
/-- nine cells that read as a term -/
theorem open_nine {n : Nat} {cs : List Value} {x : DataW H × List MemPlace} (ih : ∀ v x, DataW.trod enc Tryz.prog W 0 (fun _ => true) true n 28 [v] = some x → ∃ l : List (Tm n), ItemsAt W W.heap.size n v l)
    (h : DataW.trod enc Tryz.prog W 0 (fun _ => true) true (n + 1) 30 cs = some x) : ∃ (t : Tm (n + 1)) (v : Value), cs = [.int .i64 t.f.kind, .int .i64 t.f.int, .int .i64 t.f.gen, .string t.f.name, .string t.f.func, .int .i64 t.f.arity, v, .string t.f.bytes, .int .i64 t.f.bits] ∧ ItemsAt W W.heap.size n v t.items := by
  obtain ⟨ys, n', hn', hy, hlen, hyl, hf⟩ := DataW.trod_struct Tryz.underlying30 h
  obtain rfl : n = n' := by omega
  have hl9 : cs.length = 9 := hlen
  match cs, hl9 with
  | [b0, b1, b2, b3, b4, b5, b6, b7, b8], _ =>
  have hl : ys.length = 9 := hyl
  match ys, hl with
  | [y0, y1, y2, y3, y4, y5, y6, y7, y8], _ =>
  have t0 : DataW.trod enc Tryz.prog W 0 (fun _ => true) true n 3 [b0] = some y0 := hf 0 _ rfl
  have t1 : DataW.trod enc Tryz.prog W 0 (fun _ => true) true n 2 [b1] = some y1 := hf 1 _ rfl
  have t2 : DataW.trod enc Tryz.prog W 0 (fun _ => true) true n 2 [b2] = some y2 := hf 2 _ rfl
  have t3 : DataW.trod enc Tryz.prog W 0 (fun _ => true) true n 9 [b3] = some y3 := hf 3 _ rfl
  have t4 : DataW.trod enc Tryz.prog W 0 (fun _ => true) true n 9 [b4] = some y4 := hf 4 _ rfl
  have t5 : DataW.trod enc Tryz.prog W 0 (fun _ => true) true n 3 [b5] = some y5 := hf 5 _ rfl
  have t6 : DataW.trod enc Tryz.prog W 0 (fun _ => true) true n 28 [b6] = some y6 := hf 6 _ rfl
  have t7 : DataW.trod enc Tryz.prog W 0 (fun _ => true) true n 9 [b7] = some y7 := hf 7 _ rfl
  have t8 : DataW.trod enc Tryz.prog W 0 (fun _ => true) true n 3 [b8] = some y8 := hf 8 _ rfl
  obtain ⟨l, hl⟩ := ih b6 y6 t6
  obtain ⟨k0, e0, _⟩ := DataW.trod_int Tryz.underlying3 t0
  obtain ⟨k1, e1, _⟩ := DataW.trod_int Tryz.underlying2 t1
  obtain ⟨k2, e2, _⟩ := DataW.trod_int Tryz.underlying2 t2
  obtain ⟨k5, e5, _⟩ := DataW.trod_int Tryz.underlying3 t5
  obtain ⟨k8, e8, _⟩ := DataW.trod_int Tryz.underlying3 t8
  obtain ⟨s3, e3, _⟩ := DataW.trod_string Tryz.underlying9 t3
  obtain ⟨s4, e4, _⟩ := DataW.trod_string Tryz.underlying9 t4
  obtain ⟨s7, e7, _⟩ := DataW.trod_string Tryz.underlying9 t7
  simp only [List.cons.injEq, and_true] at e0 e1 e2 e3 e4 e5 e7 e8
  subst e0; subst e1; subst e2; subst e3; subst e4; subst e5; subst e7; subst e8
  exact ⟨Tm.mk ⟨k0, k1, k2, s3, s4, k5, s7, k8⟩ l, b6, rfl, hl⟩
theorem open_items : ∀ (n : Nat) (v : Value) (x : DataW H × List MemPlace), DataW.trod enc Tryz.prog W 0 (fun _ => true) true n 28 [v] = some x → ∃ l : List (Tm n), ItemsAt W W.heap.size n v l := by
  intro n
  induction n using Nat.strongRecOn with
  | ind n ih =>
    intro v x h
    rcases DataW.trod_slice Tryz.underlying28 h with ⟨hcs, hx⟩ | ⟨a, len, cap, elems, rest, m, hm, hcs, hx, hb, hlc, hcm, hel, hat, _, _⟩
    · simp only [List.cons.injEq, and_true] at hcs
      subst hcs
      exact ⟨[], ItemsAt.nil_any (Nat.zero_le _)⟩
    · simp only [List.cons.injEq, and_true] at hcs
      subst hcs
      subst hm
      have hC : Tryz.prog.cellsOf 30 = 9 := by kernel_rfl
      cases m with
      | zero =>
        cases len with
        | zero => exact ⟨[], ItemsAt.nil_any hcm⟩
        | succ len =>
          have h0 := hat 0 (by omega)
          have e0 : elems[0]? = some (elems[0]'(by omega)) := List.getElem?_eq_getElem (by omega)
          rw [e0] at h0
          cases hc : W.cells? 0 (a.add (0 * Tryz.prog.cellsOf 30)) (Tryz.prog.cellsOf 30) with
          | none => rw [hc] at h0; simp at h0
          | some cs => rw [hc] at h0; simp [DataW.trod] at h0
      | succ m =>
        have hex : ∀ i, i < len → ∃ t : Tm (m + 1), ∃ u, (∀ k, k < 9 → W.cell? (a.add (i * 9 + k)) = [Value.int .i64 t.f.kind, .int .i64 t.f.int, .int .i64 t.f.gen, .string t.f.name, .string t.f.func, .int .i64 t.f.arity, u, .string t.f.bytes, .int .i64 t.f.bits][k]?) ∧ ItemsAt W W.heap.size m u t.items := by
          intro i hi
          have h0 := hat i hi
          have e0 : elems[i]? = some (elems[i]'(by omega)) := List.getElem?_eq_getElem (by omega)
          rw [e0] at h0
          cases hc : W.cells? 0 (a.add (i * Tryz.prog.cellsOf 30)) (Tryz.prog.cellsOf 30) with
          | none => rw [hc] at h0; simp at h0
          | some cs =>
            rw [hc] at h0
            simp only [Option.bind_some] at h0
            obtain ⟨t, u, rfl, hI⟩ := open_nine (fun v x => ih m (by omega) v x) h0
            refine ⟨t, u, fun k hk => ?_, hI⟩
            obtain ⟨_, _, hcell⟩ := World.cells?_some hc
            have := hcell k (by rw [hC]; exact hk)
            rw [hC, Go.Deep.add_add] at this
            exact this
        obtain ⟨l, hl, hP⟩ := list_ofT _ len hex
        obtain ⟨g, o, pth⟩ := a
        suffices hs : ItemsAt W W.heap.size (m + 1) (.slice (some ⟨g, o, pth⟩) len cap) l from ⟨_, hs.lift⟩
        refine ⟨some ⟨g, o, pth⟩, cap, by rw [hl], by omega, hcm, fun hne => ?_⟩
        have hpos : 0 < l.length := List.length_pos_iff.2 hne
        obtain ⟨u0, hc0, _⟩ := hP 0 hpos
        have x0 := hc0 0 (by omega)
        have hpth : pth = none := by
          cases pth with
          | none => rfl
          | some q =>
            exfalso
            have x1 : W.cell? ⟨g, o, some q⟩ = some _ := x0
            unfold World.cell? at x1
            split at x1 <;> simp at x1
        subst hpth
        refine ⟨g, o, rfl, ?_, fun j hj => ?_⟩
        · have := World.block_lt_of_cell? W _ x0; rw [Addr.add_lit] at this; exact this
        · obtain ⟨u, hc, hI⟩ := hP j hj
          have hcc := fun k hk => by have := hc k hk; rwa [Addr.add_lit] at this
          refine ⟨u, ⟨?_, ?_, ?_, ?_, ?_, ?_, ?_, ?_, ?_⟩, hI⟩
          · exact hcc 0 (by omega)
          · exact hcc 1 (by omega)
          · exact hcc 2 (by omega)
          · exact hcc 3 (by omega)
          · exact hcc 4 (by omega)
          · exact hcc 5 (by omega)
          · exact hcc 6 (by omega)
          · exact hcc 7 (by omega)
          · exact hcc 8 (by omega)
/-- a list of terms that came in -/
theorem open_list {b : Nat} {v : Value} {d : DataW H} {ps : List MemPlace} (hv : Value.okWide Tryz.prog W .any b 28 v) (h : DataW.Trod enc Tryz.prog W 0 (fun _ => true) true 28 v d ps) : ∃ n, ∃ l : List (Tm n), ItemsAt W W.heap.size n v l := by
  obtain ⟨a0, len, cap, rfl⟩ := okWide_slice Tryz.underlying28 hv
  obtain ⟨fuel, hf⟩ := h
  have hf' : DataW.trod enc Tryz.prog W 0 (fun _ => true) true fuel 28 [.slice a0 len cap] = some (d, ps) := by simpa [Value.cells] using hf
  exact ⟨fuel, open_items fuel _ _ hf'⟩
/-- a term that came in -/
theorem open_term {b : Nat} {v : Value} {d : DataW H} {ps : List MemPlace} (hv : Value.okWide Tryz.prog W .any b 30 v) (h : DataW.Trod enc Tryz.prog W 0 (fun _ => true) true 30 v d ps) : ∃ n, ∃ (t : Tm (n + 1)) (u : Value), v = aggV t.f u ∧ ItemsAt W W.heap.size n u t.items := by
  obtain ⟨cs, rfl, hcs⟩ := okWide_struct Tryz.underlying30 hv
  obtain ⟨fuel, hf⟩ := h
  cases fuel with
  | zero => simp [DataW.trod] at hf
  | succ n =>
    have hf' : DataW.trod enc Tryz.prog W 0 (fun _ => true) true (n + 1) 30 cs.toList = some (d, ps) := by simpa [Value.cells] using hf
    obtain ⟨t, u, e, hI⟩ := open_nine (fun v x => open_items n v x) hf'
    refine ⟨n, t, u, ?_, hI⟩
    unfold aggV
    congr 1
    exact Array.ext' e
/-- two terms at one depth -/
def liftTm {n m : Nat} (h : n ≤ m) (t : Tm (n + 1)) : Prop := True
theorem term_lift {w : World} {B n : Nat} {u : Value} {t : Tm (n + 1)} (h : ItemsAt w B n u t.items) (m : Nat) (hm : n ≤ m) : ∃ t' : Tm (m + 1), t'.f = t.f ∧ ItemsAt w B m u t'.items := by
  obtain ⟨l, hl⟩ := h.to hm
  exact ⟨Tm.mk t.f l, rfl, hl⟩
end Go.Proofs.YtnakbepcalciiaaGreat.tm

/- stagehandkit's Same and SameList. Conditions: the terms lie in memory. -/
namespace Go.Proofs.YtnakbepcalciiaaGreat.tm
open Go.RowKit mem
set_option linter.unusedVariables false
set_option linter.unusedSimpArgs false
set_option maxHeartbeats 1000000
set_option maxRecDepth 100000

noncomputable def eqB {α : Type} (a b : α) : Bool := @decide (a = b) (Classical.propDecidable _)
theorem eqB_t {α : Type} {a b : α} (h : a = b) : eqB a b = true := @decide_eq_true _ (Classical.propDecidable _) h
theorem eqB_f {α : Type} {a b : α} (h : a ≠ b) : eqB a b = false := @decide_eq_false _ (Classical.propDecidable _) h
theorem ret1 {k : IntKind} {a b : Int} (h : a = b) : Ending.returned (.int k a) = .returned (.int k b) := by rw [h]
theorem ret1b {a b : Bool} (h : a = b) : Ending.returned (.bool a) = .returned (.bool b) := by rw [h]
def BPost (b : Bool) (w : World) (e : Ending) (w' : World) : Prop := e = .returned (.bool b) ∧ Below w.heap.size w w'

theorem str_ne' {a b : ByteArray} (h : a ≠ b) : ¬ a.toList = b.toList := by
  intro e
  rw [ByteArray.toList_eq, ByteArray.toList_eq] at e
  exact h (ByteArray.ext (Array.ext' e))
theorem str_ne {a b : ByteArray} (h : a ≠ b) : (a.toList == b.toList) = false := by
  cases hh : a.toList == b.toList with
  | false => rfl
  | true => exact absurd (eq_of_beq hh) (str_ne' h)
theorem bytes_self (a : ByteArray) : (a == a) = true := (bytes_beq a a).2 rfl
theorem bytes_ne {a b : ByteArray} (h : a ≠ b) : (a == b) = false := by
  cases hh : a == b with
  | false => rfl
  | true => exact absurd ((bytes_beq a b).1 hh) h
/-- a term by value -/
def SameS (n : Nat) : Prop := ∀ (w : World) (B : Nat) (v1 v2 : Value) (a b : List (Tm n)), B ≤ w.heap.size → ItemsAt w B n v1 a → ItemsAt w B n v2 b → Calls Tryz.prog 25 #[v1, v2] w (BPost (eqB a b) w)
theorem same_one {n : Nat} (ih : SameS n) (w : World) (B : Nat) (v1 v2 : Value) (a b : Tm (n + 1)) (hB : B ≤ w.heap.size) (h1 : ItemsAt w B n v1 a.items) (h2 : ItemsAt w B n v2 b.items) :
    Calls Tryz.prog 21 #[aggV a.f v1, aggV b.f v2] w (BPost (eqB a b) w) := by
  have hno : a.f ≠ b.f → eqB a b = false := fun h => eqB_f (fun e => h (by rw [e]))
  have hin : a.f = b.f → eqB a b = eqB a.items b.items := fun h => by
    by_cases e : a.items = b.items
    · rw [eqB_t e, eqB_t (Tm.ext h e)]
    · rw [eqB_f e, eqB_f (fun e2 => e (by rw [e2]))]
  have hI := fun (W : World) (hb : Below w.heap.size w W) => ih W B v1 v2 a.items b.items (Nat.le_trans hB hb.size) (h1.below hb hB) (h2.below hb hB)
  clear ih h1 h2
  generalize a.items = l1 at *
  generalize b.items = l2 at *
  generalize eqB a b = r at *
  generalize a.f = x at *
  generalize b.f = y at *
  obtain ⟨k1, i1, g1, n1, f1, a1, b1, s1⟩ := x
  obtain ⟨k2, i2, g2, n2, f2, a2, b2, s2⟩ := y
  unfold aggV
  dsimp only
  by_cases e : k1 ≠ k2
  · have hq : (k1 == k2) = false := by simp [e]
    rw [hno (by intro h; simp only [TF.mk.injEq] at h; simp_all)]
    clear hno hin hI e
    go_enter Tryz.func21, Tryz.ntmps21
    go_wp2_with fail
    go_ret
    exact ⟨rfl, ((Below.refl _ _).alloc (Nat.le_refl _) _).alloc (by simp) _⟩
  have e := Classical.not_not.1 e
  subst e
  have qk : (k1 == k1) = true := by first | exact bytes_self _ | simp
  by_cases e : i1 ≠ i2
  · have hq : (i1 == i2) = false := by simp [e]
    rw [hno (by intro h; simp only [TF.mk.injEq] at h; simp_all)]
    clear hno hin hI e
    go_enter Tryz.func21, Tryz.ntmps21
    go_wp2_with fail
    go_ret
    exact ⟨rfl, ((Below.refl _ _).alloc (Nat.le_refl _) _).alloc (by simp) _⟩
  have e := Classical.not_not.1 e
  subst e
  have qi : (i1 == i1) = true := by first | exact bytes_self _ | simp
  by_cases e : g1 ≠ g2
  · have hq : (g1 == g2) = false := by simp [e]
    rw [hno (by intro h; simp only [TF.mk.injEq] at h; simp_all)]
    clear hno hin hI e
    go_enter Tryz.func21, Tryz.ntmps21
    go_wp2_with fail
    go_ret
    exact ⟨rfl, ((Below.refl _ _).alloc (Nat.le_refl _) _).alloc (by simp) _⟩
  have e := Classical.not_not.1 e
  subst e
  have qg : (g1 == g1) = true := by first | exact bytes_self _ | simp
  by_cases e : n1 ≠ n2
  · have hq : (n1.toList == n2.toList) = false := str_ne e
    have hq2 : ¬ n1.toList = n2.toList := str_ne' e
    rw [hno (by intro h; simp only [TF.mk.injEq] at h; simp_all)]
    clear hno hin hI e
    go_enter Tryz.func21, Tryz.ntmps21
    go_wp2_with fail
    go_ret
    exact ⟨rfl, ((Below.refl _ _).alloc (Nat.le_refl _) _).alloc (by simp) _⟩
  have e := Classical.not_not.1 e
  subst e
  have qn : (n1 == n1) = true := by first | exact bytes_self _ | simp
  by_cases e : f1 ≠ f2
  · have hq : (f1.toList == f2.toList) = false := str_ne e
    have hq2 : ¬ f1.toList = f2.toList := str_ne' e
    rw [hno (by intro h; simp only [TF.mk.injEq] at h; simp_all)]
    clear hno hin hI e
    go_enter Tryz.func21, Tryz.ntmps21
    go_wp2_with fail
    go_ret
    exact ⟨rfl, ((Below.refl _ _).alloc (Nat.le_refl _) _).alloc (by simp) _⟩
  have e := Classical.not_not.1 e
  subst e
  have qf : (f1 == f1) = true := by first | exact bytes_self _ | simp
  by_cases e : a1 ≠ a2
  · have hq : (a1 == a2) = false := by simp [e]
    rw [hno (by intro h; simp only [TF.mk.injEq] at h; simp_all)]
    clear hno hin hI e
    go_enter Tryz.func21, Tryz.ntmps21
    go_wp2_with fail
    go_ret
    exact ⟨rfl, ((Below.refl _ _).alloc (Nat.le_refl _) _).alloc (by simp) _⟩
  have e := Classical.not_not.1 e
  subst e
  have qa : (a1 == a1) = true := by first | exact bytes_self _ | simp
  by_cases e : b1 ≠ b2
  · have hq : (b1.toList == b2.toList) = false := str_ne e
    have hq2 : ¬ b1.toList = b2.toList := str_ne' e
    rw [hno (by intro h; simp only [TF.mk.injEq] at h; simp_all)]
    clear hno hin hI e
    go_enter Tryz.func21, Tryz.ntmps21
    go_wp2_with fail
    go_ret
    exact ⟨rfl, ((Below.refl _ _).alloc (Nat.le_refl _) _).alloc (by simp) _⟩
  have e := Classical.not_not.1 e
  subst e
  have qb : (b1 == b1) = true := by first | exact bytes_self _ | simp
  by_cases e : s1 ≠ s2
  · have hq : (s1 == s2) = false := by simp [e]
    rw [hno (by intro h; simp only [TF.mk.injEq] at h; simp_all)]
    clear hno hin hI e
    go_enter Tryz.func21, Tryz.ntmps21
    go_wp2_with fail
    go_ret
    exact ⟨rfl, ((Below.refl _ _).alloc (Nat.le_refl _) _).alloc (by simp) _⟩
  have e := Classical.not_not.1 e
  subst e
  have qs : (s1 == s1) = true := by first | exact bytes_self _ | simp
  rw [hin rfl]
  clear hno hin
  go_enter Tryz.func21, Tryz.ntmps21
  go_wp2_with fail
  refine (hI _ (((Below.refl _ _).alloc (Nat.le_refl _) _).alloc (by simp) _)).mono ?_
  rintro e w' ⟨rfl, hb⟩
  go_wp2_with fail
  go_ret
  exact ⟨rfl, (((Below.refl _ _).alloc (Nat.le_refl _) _).alloc (by simp) _).trans (hb.mono (by simp; omega))⟩
end Go.Proofs.YtnakbepcalciiaaGreat.tm

/- stagehandkit's SameList. Conditions: the terms lie in memory. -/
namespace Go.Proofs.YtnakbepcalciiaaGreat.tm
open Go.RowKit mem
set_option linter.unusedVariables false
set_option linter.unusedSimpArgs false
set_option maxHeartbeats 1000000
set_option maxRecDepth 100000

theorem take_step {α : Type} {a b : List α} {k : Nat} (h : a.take k = b.take k) (ha : k < a.length) (hb : k < b.length) (e : a[k] = b[k]) : a.take (k + 1) = b.take (k + 1) := by
  rw [List.take_succ_eq_append_getElem ha, List.take_succ_eq_append_getElem hb, h, e]
theorem take_ne {α : Type} {a b : List α} {k : Nat} (ha : k < a.length) (hb : k < b.length) (e : a[k] ≠ b[k]) : a ≠ b := by
  intro h; subst h; exact e rfl
theorem sameZero : SameS 0 := by
  intro w B v1 v2 a b hB h1 h2
  obtain ⟨p1, c1, rfl, hc1⟩ := h1
  obtain ⟨p2, c2, rfl, hc2⟩ := h2
  rw [Tm.nil0 a, Tm.nil0 b, eqB_t rfl]
  go_enter Tryz.func25, Tryz.ntmps25
  go_wp2_with fail
  refine wp_loop_rounds 1 ?_
  rw [rounds_succ]
  go_wp2_with fail
  go_ret
  exact ⟨rfl, Below.refl _ _⟩
theorem sameSucc {n : Nat} (ih : SameS n) : SameS (n + 1) := by
  intro w B v1 v2 a b hB h1 h2
  obtain ⟨p1, c1, e1, hc1, hm1⟩ := h1.shape
  obtain ⟨p2, c2, e2, hc2, hm2⟩ := h2.shape
  unfold maxLen at hm1 hm2
  by_cases hl : a.length = b.length
  · have hd : (((a.length : Nat) : Int) != ((b.length : Nat) : Int)) = false := by simp [hl]
    have HL := Lib.hid hl; clear hl
    have H1 := Lib.hid h1; clear h1
    have H2 := Lib.hid h2; clear h2
    subst e1; subst e2
    go_enter Tryz.func25, Tryz.ntmps25
    go_wp2_with fail
    go_loopw [5] (fun s wr => ∃ k : Nat, s = .int .i64 k ∧ k ≤ a.length ∧ Hid (a.take k = b.take k) ∧ Below w.heap.size w wr) (fun s _ => a.length - (intOf s).toNat)
    case atStart => exact ⟨0, rfl, by omega, Lib.hid rfl, Below.refl _ _⟩
    case round =>
      obtain ⟨k, rfl, hk, ht, hb⟩ := hrel
      by_cases hlt : k < a.length
      · have hkb : k < b.length := by have := HL.out; omega
        obtain ⟨g1, o1, c1', e1, _, _, hg1, hx1⟩ := (H1.out.below hb hB).at_ (by intro e; subst e; simp at hlt)
        obtain ⟨g2, o2, c2', e2, _, _, hg2, hx2⟩ := (H2.out.below hb hB).at_ (by intro e; subst e; simp at hkb)
        simp only [Value.slice.injEq] at e1 e2
        obtain ⟨rfl, _, rfl⟩ := e1
        obtain ⟨rfl, _, rfl⟩ := e2
        obtain ⟨u1, hC1, hI1⟩ := hx1 k hlt
        obtain ⟨u2, hC2, hI2⟩ := hx2 k hkb
        have hS := fun (W : World) (hW : Below w.heap.size wr W) => same_one ih W B u1 u2 a[k] b[k] (by have := hW.size; have := hb.size; omega) (hI1.below hW hB) (hI2.below hW hB)
        obtain ⟨x0, x1, x2, x3, x4, x5, x6, x7, x8⟩ := hC1
        obtain ⟨y0, y1, y2, y3, y4, y5, y6, y7, y8⟩ := hC2
        have hys : a[k] = b[k] → a.take (k + 1) = b.take (k + 1) := fun e => take_step ht.out hlt hkb e
        have hno : a[k] ≠ b[k] → eqB a b = false := fun e => eqB_f (take_ne hlt hkb e)
        have HYS := Lib.hid hys; clear hys
        have HNO := Lib.hid hno; clear hno
        clear hx1 hx2 hI1 hI2
        unfold aggV at hS
        have HS := Lib.hid hS; clear hS
        generalize a[k] = x at *
        generalize b[k] = y at *
        generalize x.f = xf at *
        generalize y.f = yf at *
        have hb' : Below w.heap.size wr wr.drew := ⟨rfl, rfl, rfl, Nat.le_refl _, fun _ _ => rfl⟩
        go_wp2_with fail
        go_still_tail 8, (by kernel_rfl)
        change wpList _ _ _ _ _ wr.drew
        have hS := HS.out wr.drew hb'
        have hb2 : Below w.heap.size w wr.drew := hb.trans hb'
        clear x0 x1 x2 x3 x4 x5 x6 x7 x8 y0 y1 y2 y3 y4 y5 y6 y7 y8
        have hz := hb2.size
        generalize wr.drew = w2 at *
        go_wp2_with fail
        refine hS.mono ?_
        rintro e w3 ⟨rfl, hb3⟩
        have hb4 : Below w.heap.size w w3 := hb2.trans (hb3.mono hz)
        by_cases e : x = y
        · rw [eqB_t e]
          have HT := Lib.hid (HYS.out e)
          clear hS
          go_wp2_with fail
          go_roundw
          case rel => exact ⟨k + 1, by go_num, by omega, HT, hb4⟩
          case measure => simp [intOf]; omega
        · rw [eqB_f e]
          have HN := Lib.hid (HNO.out e)
          clear hS
          go_wp2_with fail
          go_ret
          exact ⟨ret1b HN.out.symm, hb4⟩
      · have hfin : a = b := by
          have := ht.out
          rwa [List.take_of_length_le (by omega), List.take_of_length_le (by have := HL.out; omega)] at this
        have HF := Lib.hid (eqB_t hfin); clear hfin
        go_wp2_with fail
        go_ret
        exact ⟨ret1b HF.out.symm, hb⟩
  · have hd : (((a.length : Nat) : Int) != ((b.length : Nat) : Int)) = true := by simp; omega
    have hfin := eqB_f (fun e : a = b => hl (by rw [e]))
    have HF := Lib.hid hfin; clear hfin
    subst e1; subst e2
    go_enter Tryz.func25, Tryz.ntmps25
    go_wp2_with fail
    go_ret
    exact ⟨ret1b HF.out.symm, Below.refl _ _⟩
theorem sameList (n : Nat) : SameS n := by
  induction n with
  | zero => exact sameZero
  | succ n ih => exact sameSucc ih
theorem sameOne {n : Nat} (w : World) (B : Nat) (v1 v2 : Value) (a b : Tm (n + 1)) (hB : B ≤ w.heap.size) (h1 : ItemsAt w B n v1 a.items) (h2 : ItemsAt w B n v2 b.items) :
    Calls Tryz.prog 21 #[aggV a.f v1, aggV b.f v2] w (BPost (eqB a b) w) := same_one (sameList n) w B v1 v2 a b hB h1 h2
end Go.Proofs.YtnakbepcalciiaaGreat.tm
