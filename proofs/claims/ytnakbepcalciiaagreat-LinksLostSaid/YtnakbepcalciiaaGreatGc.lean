/- Several texts in one, one behind the other: MapR, Rec, LkA, TmT. No condition beyond theirs. -/
import Derived.Test.YtnakbepcalciiaaGreatGa
import Derived.Maps.RangeWalk
import Derived.Maps.AppendAt
import Derived.Lib.Bytealg
import Derived.Laws.Cover1
import Derived.WalkSpells
/- Maps of the call's own, of any keys, as lists of entries; ranging over them in whatever order. Conditions: as said. -/
namespace Go.Proofs.YtnakbepcalciiaaGreat.mem
open Go.RowKit
open Go.ChangeMaps (setBlock)
set_option linter.unusedVariables false
set_option linter.unusedSimpArgs false
set_option linter.unusedSectionVars false
set_option maxHeartbeats 1000000
section
variable {κ : Type} [DecidableEq κ]
/-- keys of any type: found by their values -/
structure KeyAny (P : Program) (kt : TypeId) (toV : κ → Value) : Prop where
  check : ∀ (b : Bool) (k : κ) (w : World), (Instr.checkKey b 10000 kt (toV k)).run P w = .ok () w
  find : ∀ (k : κ) (es : List MapEntry) (kvs : List (κ × Value)), es.map (fun e => (e.key, e.val)) = kvs.map (fun p => (toV p.1, p.2)) → ∀ w : World, (Instr.findKey kt (toV k) es).run P w = .ok ((alIdx kvs k).map (fun j => (j, ((kvs[j]?).map (·.2)).getD undef))) w
  bits : ∀ a, Instr.sameBits 10000 (toV a) (toV a) = true
theorem KeyKind.any {P : Program} {kt : TypeId} {toV : κ → Value} (K : KeyKind P kt toV) : KeyAny P kt toV := by
  obtain ⟨d, hd, hdd, hs⟩ := K.kind
  exact ⟨fun b k w => run_checkKey hd hdd b (toV k) w, fun k es kvs h w => run_findKey K k es kvs h w, K.bits⟩
theorem run_findAsking {P : Program} {kt : TypeId} {toV : κ → Value} (he : ∀ a b (w : World), (Op.equal kt (toV a) (toV b)).run P w = .ok (decide (a = b)) w) (k : κ) (w : World) :
    ∀ (es : List MapEntry) (kvs : List (κ × Value)) (i : Nat), es.map (fun e => (e.key, e.val)) = kvs.map (fun p => (toV p.1, p.2)) →
    (Instr.findAsking kt (toV k) es i).run P w = .ok ((kvs.findIdx? (fun p => decide (k = p.1))).map (fun j => (i + j, ((kvs[j]?).map (·.2)).getD undef))) w := by
  intro es
  induction es with
  | nil =>
    intro kvs i h
    cases kvs with
    | nil => rfl
    | cons _ _ => simp at h
  | cons e es ih =>
    intro kvs i h
    cases kvs with
    | nil => simp at h
    | cons p kvs =>
      simp only [List.map_cons, List.cons.injEq, Prod.mk.injEq] at h
      obtain ⟨⟨h1, h2⟩, h3⟩ := h
      simp only [Instr.findAsking, Sem.run_bind, h1, he, Result.andThen]
      by_cases hk : k = p.1
      · simp [hk, List.findIdx?_cons, h2]
      · simp only [hk, decide_false, Bool.false_eq_true, if_false]
        rw [ih kvs (i + 1) h3, List.findIdx?_cons]
        simp [hk]
        cases List.findIdx? (fun p => decide (k = p.1)) kvs <;> simp; omega
/-- keys that are compared field by field -/
theorem KeyAny.of_equal {P : Program} {kt : TypeId} {toV : κ → Value} {d : TypeDesc} (hd : P.underlying kt = some d) (hn : ∀ a b, Instr.sameNow d (toV a) (toV b) = none) (he : ∀ a b (w : World), (Op.equal kt (toV a) (toV b)).run P w = .ok (decide (a = b)) w) (hc : ∀ (b : Bool) (k : κ) (w : World), (Instr.checkKey b 10000 kt (toV k)).run P w = .ok () w) (hb : ∀ a, Instr.sameBits 10000 (toV a) (toV a) = true) : KeyAny P kt toV where
  check := hc
  bits := hb
  find := fun k es kvs h w => by
    cases es with
    | nil =>
      cases kvs with
      | nil => simp [Instr.findKey, run_underlying hd, Instr.findNow, alIdx]
      | cons _ _ => simp at h
    | cons e es =>
      cases kvs with
      | nil => simp at h
      | cons p kvs =>
        have h1 : e.key = toV p.1 := by simp only [List.map_cons, List.cons.injEq, Prod.mk.injEq] at h; exact h.1.1
        have hf : Instr.findNow d (toV k) (e :: es) 0 = none := by simp only [Instr.findNow, h1, hn]
        simp only [Instr.findKey, Sem.run_bind, run_underlying hd, Result.andThen, hf]
        rw [run_findAsking he k w (e :: es) (p :: kvs) 0 h]
        simp [alIdx]
/-- block m is a map with the entries kvs, of stamps apart -/
def MapR (toV : κ → Value) (w : World) (m : Nat) (kvs : List (κ × Value)) : Prop :=
  ∃ es clock, w.heap[m]? = some (.map es clock) ∧ es.toList.map (fun e => (e.key, e.val)) = kvs.map (fun p => (toV p.1, p.2)) ∧ (∀ e ∈ es.toList, e.born < clock) ∧ (es.toList.map (·.born)).Nodup
theorem MapR.is {toV : κ → Value} {w : World} {m : Nat} {kvs : List (κ × Value)} (h : MapR toV w m kvs) : MapIs toV w m kvs := by
  obtain ⟨es, clock, hh, he, _⟩ := h
  exact ⟨es, clock, hh, he⟩
theorem MapR.lt {toV : κ → Value} {w : World} {m : Nat} {kvs : List (κ × Value)} (h : MapR toV w m kvs) : m < w.heap.size := h.is.lt
theorem MapR.same {toV : κ → Value} {w w' : World} {m : Nat} {kvs : List (κ × Value)} (h : MapR toV w m kvs) (hs : w'.heap[m]? = w.heap[m]?) : MapR toV w' m kvs := by
  obtain ⟨es, clock, hh, r⟩ := h
  exact ⟨es, clock, hs.trans hh, r⟩
theorem MapR.made (toV : κ → Value) (w : World) : MapR toV (w.alloc (.map #[] 0)) w.heap.size [] :=
  ⟨#[], 0, (MapKept.heap_alloc w _).1, rfl, fun e h => by simp at h, by simp⟩
theorem MapR.len_run {toV : κ → Value} {w : World} {m : Nat} {kvs : List (κ × Value)} (h : MapR toV w m kvs) : ∃ es clock, w.heap[m]? = some (.map es clock) ∧ es.size = kvs.length := by
  obtain ⟨es, clock, hh, he, _⟩ := h
  refine ⟨es, clock, hh, ?_⟩
  have := congrArg List.length he
  simpa using this
theorem run_lookup_any_ok {P : Program} {t kt et : TypeId} {toV : κ → Value} (K : KeyAny P kt toV) (ht : P.underlying t = some (.map kt et)) {w : World} {m : Nat} {kvs : List (κ × Value)} (hm : MapIs toV w m kvs) (k : κ)
    {z : Value} (hz : (zeroValue et).run P w = .ok z w) :
    (Instr.lookup t (.map (some m)) (toV k) true).run P w = .ok (.tuple #[(alFind kvs k).getD z, .bool (alFind kvs k).isSome]) w := by
  obtain ⟨es, clock, hh, he⟩ := hm
  have hf := K.find k es.toList kvs he w
  have hc := K.check es.isEmpty k w
  have hi := alFind_idx kvs k
  simp [Instr.lookup, run_underlying ht, getObj, Sem.run, hh, hc, hf, Result.andThen]
  cases hx : alIdx kvs k with
  | none => rw [hx] at hi; simp [← hi, hz, Result.andThen]
  | some j => rw [hx] at hi; simp [← hi]
theorem run_lookup_any {P : Program} {t kt et : TypeId} {toV : κ → Value} (K : KeyAny P kt toV) (ht : P.underlying t = some (.map kt et)) {w : World} {m : Nat} {kvs : List (κ × Value)} (hm : MapIs toV w m kvs) (k : κ)
    {z : Value} (hz : (zeroValue et).run P w = .ok z w) :
    (Instr.lookup t (.map (some m)) (toV k) false).run P w = .ok ((alFind kvs k).getD z) w := by
  obtain ⟨es, clock, hh, he⟩ := hm
  have hf := K.find k es.toList kvs he w
  have hc := K.check es.isEmpty k w
  have hi := alFind_idx kvs k
  simp [Instr.lookup, run_underlying ht, getObj, Sem.run, hh, hc, hf, Result.andThen]
  cases hx : alIdx kvs k with
  | none => rw [hx] at hi; simp [← hi, hz, Result.andThen]
  | some j => rw [hx] at hi; simp [← hi]
theorem mem_modify {β : Type} {f : β → β} : ∀ {l : List β} {j : Nat} {x : β}, x ∈ l.modify j f → x ∈ l ∨ ∃ y ∈ l, x = f y := by
  intro l
  induction l with
  | nil => intro j x h; simp at h
  | cons a l ih =>
    intro j x h
    cases j with
    | zero =>
      rw [List.modify_zero_cons] at h
      rcases List.mem_cons.1 h with rfl | h
      · exact .inr ⟨a, List.mem_cons_self, rfl⟩
      · exact .inl (List.mem_cons_of_mem _ h)
    | succ j =>
      rw [List.modify_succ_cons] at h
      rcases List.mem_cons.1 h with rfl | h
      · exact .inl List.mem_cons_self
      · rcases ih h with h | ⟨y, hy, e⟩
        · exact .inl (List.mem_cons_of_mem _ h)
        · exact .inr ⟨y, List.mem_cons_of_mem _ hy, e⟩
theorem map_modify_same {β γ : Type} {f : β → β} {g : β → γ} (hf : ∀ x, g (f x) = g x) : ∀ (l : List β) (j : Nat), (l.modify j f).map g = l.map g := by
  intro l
  induction l with
  | nil => intro j; simp
  | cons a l ih =>
    intro j
    cases j with
    | zero => simp [List.modify_zero_cons, hf]
    | succ j => simp [List.modify_succ_cons, ih]
theorem run_mapUpdate_any {P : Program} {t kt et : TypeId} {toV : κ → Value} (K : KeyAny P kt toV) (ht : P.underlying t = some (.map kt et)) {w : World} {m : Nat} {kvs : List (κ × Value)} (hm : MapR toV w m kvs) (k : κ) (v : Value) :
    ∃ w', (Instr.mapUpdate t (.map (some m)) (toV k) v).run P w = .ok () w' ∧ MapR toV w' m (alPut kvs k v) ∧ TouchB (fun i => i = m) w w' ∧ w'.heap.size = w.heap.size := by
  have hlt := hm.lt
  obtain ⟨es, clock, hh, he, hb, hn⟩ := hm
  have hf := K.find k es.toList kvs he w
  have hc := K.check false k w
  cases hx : alIdx kvs k with
  | none =>
    rw [hx] at hf
    refine ⟨{ w with heap := w.heap.setIfInBounds m (.map (es.push { key := toV k, val := v, born := clock }) (clock + 1)) }, ?_, ?_, set_touch w m _, by simp⟩
    · simp [Instr.mapUpdate, run_underlying ht, getObj, setObj, Sem.run, hh, hc, hf, Result.andThen]
    · refine ⟨_, _, set_heap w m _ hlt, ?_, ?_, ?_⟩
      · simp [alPut, hx, he]
      · intro e h
        rw [Array.toList_push] at h
        rcases List.mem_append.1 h with h | h
        · have := hb e h; omega
        · obtain rfl : e = { key := toV k, val := v, born := clock } := by simpa using h
          exact Nat.lt_succ_self _
      · rw [Array.toList_push, List.map_append, List.nodup_append]
        refine ⟨hn, by simp, fun a ha b hb' e => ?_⟩
        obtain ⟨x, hx, rfl⟩ := List.mem_map.1 ha
        have h1 := hb x hx
        obtain rfl : b = clock := by simpa using hb'
        omega
  | some j =>
    rw [hx] at hf
    obtain ⟨v0, hj⟩ := alIdx_lt hx
    have hek : es[j]?.map (fun e => (e.key, e.val)) = some (toV k, v0) := by
      have h1 := congrArg (fun l => l[j]?) he
      simp only [List.getElem?_map, Array.getElem?_toList, hj, Option.map_some] at h1
      exact h1
    have hek' : (es[j]?).map (·.key) = some (toV k) := by
      cases hh : es[j]? with
      | none => rw [hh] at hek; simp at hek
      | some e => rw [hh] at hek; simp only [Option.map_some, Option.some.injEq, Prod.mk.injEq] at hek; simp [hek.1]
    have hst : (Instr.keyThatStays (toV k) (toV k)).run P w = .ok (toV k) w := by
      unfold Instr.keyThatStays; rw [if_pos (K.bits k)]; rfl
    refine ⟨{ w with heap := w.heap.setIfInBounds m (.map (es.modify j fun e => { e with key := toV k, val := v }) clock) }, ?_, ?_, set_touch w m _, by simp⟩
    · simp [Instr.mapUpdate, run_underlying ht, getObj, setObj, Sem.run, hh, hc, hf, Result.andThen, hek', hst]
    · refine ⟨_, _, set_heap w m _ hlt, ?_, ?_, ?_⟩
      · simp only [alPut, hx, Array.toList_modify]
        exact map_modify_entries toV es.toList kvs he j k v v0 hj
      · intro e h
        rw [Array.toList_modify] at h
        rcases mem_modify h with h | ⟨y, hy, rfl⟩
        · exact hb e h
        · exact hb y hy
      · rw [Array.toList_modify, map_modify_same (f := fun e : MapEntry => { e with key := toV k, val := v }) (g := fun e : MapEntry => e.born) (fun _ => rfl)]
        exact hn
theorem run_delete_any {P : Program} {t kt et ty : TypeId} {toV : κ → Value} {at1 : TypeId} (K : KeyAny P kt toV) (ht : P.underlying t = some (.map kt et)) {w : World} {m : Nat} {kvs : List (κ × Value)} (hm : MapR toV w m kvs) (k : κ) :
    ∃ w', (Builtin.delete_ #[t, at1] ty #[.map (some m), toV k]).run P w = .ok (.tuple #[]) w' ∧ MapR toV w' m (alDel kvs k) ∧ TouchB (fun i => i = m) w w' ∧ w'.heap.size = w.heap.size := by
  have hlt := hm.lt
  obtain ⟨es, clock, hh, he, hb, hn⟩ := hm
  have hf := K.find k es.toList kvs he w
  have hc := K.check es.isEmpty k w
  cases hx : alIdx kvs k with
  | none =>
    rw [hx] at hf
    refine ⟨{ w with heap := w.heap.setIfInBounds m (.map es clock) }, ?_, ?_, set_touch w m _, by simp⟩
    · simp [Builtin.delete_, run_underlying ht, getObj, setObj, Sem.run, hh, hc, hf, Result.andThen]
    · refine ⟨_, _, set_heap w m _ hlt, ?_, hb, hn⟩
      simp [alDel, hx, he]
  | some j =>
    rw [hx] at hf
    have e1 : (es.eraseIdxIfInBounds j).toList = es.toList.eraseIdx j := by
      unfold Array.eraseIdxIfInBounds
      split
      · simp
      · rename_i hn; rw [List.eraseIdx_of_length_le]; simpa using Nat.le_of_not_lt hn
    refine ⟨{ w with heap := w.heap.setIfInBounds m (.map (es.eraseIdxIfInBounds j) clock) }, ?_, ?_, set_touch w m _, by simp⟩
    · simp [Builtin.delete_, run_underlying ht, getObj, setObj, Sem.run, hh, hc, hf, Result.andThen]
    · refine ⟨_, _, set_heap w m _ hlt, ?_, ?_, ?_⟩
      · simp only [alDel, hx, e1, map_eraseIdx', he]
      · intro e h
        rw [e1] at h
        exact hb e ((List.eraseIdx_sublist _ _).subset h)
      · rw [e1, map_eraseIdx']
        exact hn.sublist (List.eraseIdx_sublist _ _)
/-- at the operation, for the walk -/
theorem wpList_mapUpdate_r {P : Program} (w : World) {ops : Array Oper} {rest : List Oper} {o : Oper} {a : Act} {Q : Exit → Act → World → Prop}
    (hg : o.guard = none) (mo xo vo : Operand) (t : TypeId) (hop : o.op = Op.mapUpdate t mo xo vo)
    {kt et : TypeId} {toV : κ → Value} (K : KeyAny P kt toV) (ht : P.underlying t = some (.map kt et)) (m : Nat) (kvs : List (κ × Value)) (hm : MapR toV w m kvs) (k : κ) (v : Value)
    (hmo : a.eval mo = .map (some m)) (hx : a.eval xo = toV k) (hv : a.eval vo = v)
    (hK : ∀ w', MapR toV w' m (alPut kvs k v) → TouchB (fun i => i = m) w w' → w'.heap.size = w.heap.size → wpList P ops Q rest (a.put o.dst undef) w') :
    wpList P ops Q (o :: rest) a w := by
  refine wpList_plain hg fun K' hK' => ?_
  obtain ⟨w', hrun, r1, r2, r3⟩ := run_mapUpdate_any K ht hm k v
  unfold Oper.wp
  simp [execOp, hop, hmo, hx, hv, hrun, Result.andThen]
  exact hK' _ _ (hK w' r1 r2 r3)
theorem wpList_delete_r {P : Program} (w : World) {ops : Array Oper} {rest : List Oper} {o : Oper} {a : Act} {Q : Exit → Act → World → Prop}
    (hg : o.guard = none) (mo xo : Operand) (t at1 : TypeId) (hop : o.op = Op.call { callee := Callee.builtin Builtin.delete, args := #[mo, xo], argTypes := #[t, at1] })
    {kt et : TypeId} {toV : κ → Value} (K : KeyAny P kt toV) (ht : P.underlying t = some (.map kt et)) (m : Nat) (kvs : List (κ × Value)) (hm : MapR toV w m kvs) (k : κ)
    (hmo : a.eval mo = .map (some m)) (hx : a.eval xo = toV k)
    (hK : ∀ w', MapR toV w' m (alDel kvs k) → TouchB (fun i => i = m) w w' → w'.heap.size = w.heap.size → wpList P ops Q rest (a.put o.dst (.tuple #[])) w') :
    wpList P ops Q (o :: rest) a w := by
  refine wpList_plain hg fun K' hK' => ?_
  obtain ⟨w', hrun, r1, r2, r3⟩ := run_delete_any (ty := o.type) (at1 := at1) K ht hm k
  unfold Oper.wp
  simp [execOp, hop, resolve, invoke, builtin, hmo, hx, hrun, Result.andThen]
  exact hK' _ _ (hK w' r1 r2 r3)
/-! ### ranging -/
/-- block r ranges over the map m, of whose entries kvs those of left are still to come -/
def RangeR (toV : κ → Value) (w : World) (m r : Nat) (kvs left : List (κ × Value)) : Prop :=
  ∃ es clock since seen c0, w.heap[m]? = some (.map es clock) ∧ es.toList.map (fun e => (e.key, e.val)) = kvs.map (fun p => (toV p.1, p.2)) ∧ (∀ e ∈ es.toList, e.born < clock) ∧ (es.toList.map (·.born)).Nodup ∧
    w.heap[r]? = some (.mapIter (some m) since seen c0) ∧ (∀ e ∈ es.toList, e.born < since) ∧ since ≤ c0 ∧ since ≤ clock ∧ (es.toList.filter (fun e => !seen.contains e.born)).map (fun e => (e.key, e.val)) = left.map (fun p => (toV p.1, p.2))
theorem RangeR.map {toV : κ → Value} {w : World} {m r : Nat} {kvs left : List (κ × Value)} (h : RangeR toV w m r kvs left) : MapR toV w m kvs := by
  obtain ⟨es, clock, since, seen, c0, h1, h2, h3, h4, _⟩ := h
  exact ⟨es, clock, h1, h2, h3, h4⟩
theorem RangeR.lt {toV : κ → Value} {w : World} {m r : Nat} {kvs left : List (κ × Value)} (h : RangeR toV w m r kvs left) : r < w.heap.size := by
  obtain ⟨es, clock, since, seen, c0, _, _, _, _, h5, _⟩ := h
  exact (Array.getElem?_eq_some_iff.1 h5).1
theorem RangeR.same {toV : κ → Value} {w w' : World} {m r : Nat} {kvs left : List (κ × Value)} (h : RangeR toV w m r kvs left) (hm : w'.heap[m]? = w.heap[m]?) (hr : w'.heap[r]? = w.heap[r]?) : RangeR toV w' m r kvs left := by
  obtain ⟨es, clock, since, seen, c0, h1, h2, h3, h4, h5, q⟩ := h
  exact ⟨es, clock, since, seen, c0, hm.trans h1, h2, h3, h4, hr.trans h5, q⟩
theorem RangeR.start {P : Program} {t kt et : TypeId} {toV : κ → Value} (ht : P.underlying t = some (.map kt et)) {w : World} {m : Nat} {kvs : List (κ × Value)} (h : MapR toV w m kvs) :
    ∃ w', (Instr.range t (.map (some m))).run P w = .ok (.pointer (some ⟨w.heap.size, 0, none⟩)) w' ∧ RangeR toV w' m w.heap.size kvs kvs ∧ w.grownBy w' none ∧ w'.heap.size = w.heap.size + 1 := by
  have hlt := h.lt
  obtain ⟨es, clock, hb, h2, h3, h4⟩ := h
  refine ⟨_, run_range_map w t kt et m es clock ht hb, ⟨es, clock, clock, #[], clock, ((MapKept.heap_alloc w _).2 m hlt).trans hb, h2, h3, h4, (MapKept.heap_alloc w _).1, h3, Nat.le_refl _, Nat.le_refl _, ?_⟩, World.grownBy_alloc w _ none, by simp⟩
  rw [← h2]
  congr 1
  rw [List.filter_eq_self]
  intro e _
  simp
theorem map_split {β γ δ : Type} {f : β → δ} {g : γ → δ} : ∀ {A : List β} {x : β} {B : List β} {L : List γ}, (A ++ x :: B).map f = L.map g → ∃ L1 y L2, L = L1 ++ y :: L2 ∧ f x = g y ∧ (A ++ B).map f = (L1 ++ L2).map g := by
  intro A
  induction A with
  | nil =>
    intro x B L h
    cases L with
    | nil => simp at h
    | cons y L =>
      simp only [List.nil_append, List.map_cons, List.cons.injEq] at h
      exact ⟨[], y, L, rfl, h.1, by simpa using h.2⟩
  | cons a A ih =>
    intro x B L h
    cases L with
    | nil => simp at h
    | cons z L =>
      rw [List.cons_append, List.map_cons, List.map_cons, List.cons.injEq] at h
      obtain ⟨L1, y, L2, rfl, e1, e2⟩ := ih h.2
      exact ⟨z :: L1, y, L2, rfl, e1, by rw [List.cons_append, List.cons_append, List.map_cons, List.map_cons, h.1, e2]⟩
theorem RangeR.next {P : Program} {toV : κ → Value} {w : World} {m r : Nat} {kvs left : List (κ × Value)} (h : RangeR toV w m r kvs left) (hne : r ≠ m) (ty : TypeId) :
    (left = [] ∧ (Instr.next (.pointer (some ⟨r, 0, none⟩)) false ty).run P w = .ok (.tuple #[.bool false]) w) ∨
    ∃ L1 k v L2 w', left = L1 ++ (k, v) :: L2 ∧ (Instr.next (.pointer (some ⟨r, 0, none⟩)) false ty).run P w = .ok (.tuple #[.bool true, toV k, v]) w' ∧ RangeR toV w' m r kvs (L1 ++ L2) ∧
      w.grownBy w' (some r) ∧ w'.heap.size = w.heap.size ∧ (Instr.entry (.pointer (some ⟨r, 0, none⟩))).run P w' = .ok (.tuple #[toV k, v]) w' := by
  obtain ⟨es, clock, since, seen, c0, hb, h2, h3, h4, hr, hold, hsc, hsk, hl⟩ := h
  have hlo : (leftOf es seen).toList = es.toList.filter (fun e => !seen.contains e.born) := by unfold leftOf; rw [Array.toList_filter]
  rcases run_next_at (P := P) w ty r m since c0 seen es clock hr hb hold hsc with ⟨h0, hrun⟩ | ⟨e, he, w1, hal, hrun⟩
  · refine .inl ⟨?_, hrun⟩
    have : (leftOf es seen).toList = [] := List.eq_nil_of_length_eq_zero (by rw [Array.length_toList]; exact h0)
    rw [← hlo, this] at hl
    cases left with
    | nil => rfl
    | cons a l => simp at hl
  · rw [hlo] at he
    have hem : e ∈ es.toList := (List.mem_filter.1 he).1
    obtain ⟨A, B, hAB⟩ := List.append_of_mem he
    rw [hAB] at hl
    obtain ⟨L1, y, L2, rfl, e1, e2⟩ := map_split hl
    obtain ⟨k, v⟩ := y
    simp only [Prod.mk.injEq] at e1
    obtain ⟨e1, e1'⟩ := e1
    have hr1 : w1.heap[r]? = some (.mapIter (some m) since seen c0) := by rcases hal with rfl | rfl <;> exact hr
    have hb1 : w1.heap[m]? = some (.map es clock) := by rcases hal with rfl | rfl <;> exact hb
    have hset := MapKept.heap_set (o' := .mapIter (some m) since (seen.push e.born) clock) hr1
    have hb' : (setBlock w1 r (.mapIter (some m) since (seen.push e.born) clock)).heap[m]? = some (.map es clock) := (hset.2 m (fun e1 => hne e1.symm)).trans hb1
    refine .inr ⟨L1, k, v, L2, _, rfl, by rw [← e1, ← e1']; exact hrun, ⟨es, clock, since, seen.push e.born, clock, hb', h2, h3, h4, hset.1, hold, hsk, hsk, ?_⟩, ?_, ?_, by rw [← e1, ← e1']; exact run_entry_at _ r m since seen es clock e hset.1 hb' hem h4⟩
    · rw [← e2]
      congr 1
      have hff : es.toList.filter (fun x => !(seen.push e.born).contains x.born) = (es.toList.filter (fun x => !seen.contains x.born)).filter (fun x => !(x.born == e.born)) := by
        rw [List.filter_filter]
        refine List.filter_congr (fun x _ => ?_)
        rw [contains_push]
        cases seen.contains x.born <;> cases (x.born == e.born) <;> rfl
      rw [hff, hAB, List.filter_append, List.filter_cons]
      have hnd : ((A ++ e :: B).map (·.born)).Nodup := by
        rw [← hAB]
        exact h4.sublist ((List.filter_sublist).map _)
      rw [List.map_append, List.map_cons, List.nodup_append] at hnd
      obtain ⟨_, n2, n3⟩ := hnd
      have n4 := (List.nodup_cons.1 n2).1
      rw [if_neg (by simp)]
      congr 1
      · rw [List.filter_eq_self]
        intro x hx
        have := n3 x.born (List.mem_map.2 ⟨x, hx, rfl⟩) e.born List.mem_cons_self
        simpa using this
      · rw [List.filter_eq_self]
        intro x hx
        have : x.born ≠ e.born := fun eq => n4 (eq ▸ List.mem_map.2 ⟨x, hx, rfl⟩)
        simpa using this
    · rcases hal with rfl | rfl <;> exact ⟨rfl, rfl, rfl, by simp [setBlock], fun i _ hi => hset.2 i (fun e1 => hi (by rw [e1]))⟩
    · rcases hal with rfl | rfl <;> simp [setBlock]
theorem wpList_range_r {P : Program} (w : World) {ops : Array Oper} {rest : List Oper} {o : Oper} {a : Act} {Q : Exit → Act → World → Prop} (hg : o.guard = none) (mo : Operand) (t : TypeId) (hop : o.op = Op.range t mo) {kt et : TypeId} {toV : κ → Value} (ht : P.underlying t = some (.map kt et)) (m : Nat) (kvs : List (κ × Value))
    (hmo : a.eval mo = .map (some m)) (hm : MapR toV w m kvs)
    (hK : ∀ w', RangeR toV w' m w.heap.size kvs kvs → w.grownBy w' none → w'.heap.size = w.heap.size + 1 → wpList P ops Q rest (a.put o.dst (.pointer (some ⟨w.heap.size, 0, none⟩))) w') :
    wpList P ops Q (o :: rest) a w := by
  refine wpList_plain hg fun K' hK' => ?_
  obtain ⟨w', hrun, r1, r2, r3⟩ := RangeR.start ht hm
  unfold Oper.wp
  simp [execOp, hop, hmo, hrun, Result.andThen]
  exact hK' _ _ (hK w' r1 r2 r3)
theorem wpList_next_r {P : Program} (w : World) {ops : Array Oper} {rest : List Oper} {o : Oper} {a : Act} {Q : Exit → Act → World → Prop} (hg : o.guard = none) (it : Operand) (hop : o.op = Op.next it false) {toV : κ → Value} (m r : Nat) (hne : r ≠ m) (kvs left : List (κ × Value))
    (hit : a.eval it = .pointer (some ⟨r, 0, none⟩)) (h : RangeR toV w m r kvs left)
    (hDone : left = [] → wpList P ops Q rest (a.put o.dst (.tuple #[.bool false])) w)
    (hMore : ∀ L1 k v L2 w', left = L1 ++ (k, v) :: L2 → RangeR toV w' m r kvs (L1 ++ L2) → w.grownBy w' (some r) → w'.heap.size = w.heap.size → (Instr.entry (.pointer (some ⟨r, 0, none⟩))).run P w' = .ok (.tuple #[toV k, v]) w' → wpList P ops Q rest (a.put o.dst (.tuple #[.bool true, toV k, v])) w') :
    wpList P ops Q (o :: rest) a w := by
  refine wpList_plain hg fun K' hK' => ?_
  unfold Oper.wp
  rcases h.next (P := P) hne o.type with ⟨h0, hrun⟩ | ⟨L1, k, v, L2, w', hl, hrun, hrg, hgr, hsz, hen⟩
  · simp [execOp, hop, hit, hrun, Result.andThen]
    exact hK' _ _ (hDone h0)
  · simp [execOp, hop, hit, hrun, Result.andThen]
    exact hK' _ _ (hMore L1 k v L2 w' hl hrg hgr hsz hen)
end
end Go.Proofs.YtnakbepcalciiaaGreat.mem
/- Rows of records: a slice of any element type, read, owned, appended to. Conditions: as said. -/
namespace Go.Proofs.YtnakbepcalciiaaGreat.rec
open Go.RowKit mem
set_option linter.unusedVariables false
set_option linter.unusedSimpArgs false
set_option linter.unusedSectionVars false
set_option maxHeartbeats 1000000
set_option maxRecDepth 100000

/-- an element type e of s cells, and a type sl of its slices -/
structure ElTy (sl e : TypeId) (s : Nat) : Prop where
  und : Tryz.prog.underlying sl = some (.slice e)
  info : ∃ i z, Tryz.prog.info? e = some i ∧ i.zero = some z ∧ i.size = s ∧ z.cells.size = s ∧ i.bytes ≤ 10000
  pos : 0 < s
section
variable {α : Type} {enc : α → List Value} {s : Nat}
def EncOK (enc : α → List Value) (s : Nat) (l : List α) : Prop := ∀ a ∈ l, (enc a).length = s ∧ ∀ u ∈ enc a, u.oneCell' = true
theorem EncOK.nil : EncOK enc s [] := fun a h => by simp at h
theorem EncOK.append {l m : List α} (h : EncOK enc s l) (k : EncOK enc s m) : EncOK enc s (l ++ m) := fun a ha => by
  rcases List.mem_append.1 ha with ha | ha
  · exact h a ha
  · exact k a ha
theorem EncOK.sub {l m : List α} (h : EncOK enc s l) (hm : ∀ a ∈ m, a ∈ l) : EncOK enc s m := fun a ha => h a (hm a ha)
theorem flat_len : ∀ {l : List α}, EncOK enc s l → (l.flatMap enc).length = l.length * s := by
  intro l
  induction l with
  | nil => intro _; simp
  | cons a l ih =>
    intro h
    rw [List.flatMap_cons, List.length_append, (h a List.mem_cons_self).1, ih (fun b hb => h b (List.mem_cons_of_mem _ hb)), List.length_cons, Nat.succ_mul, Nat.add_comm]
theorem flat_get : ∀ {l : List α}, EncOK enc s l → ∀ {j : Nat} {a : α}, l[j]? = some a → ∀ {k : Nat}, k < s → (l.flatMap enc)[j * s + k]? = (enc a)[k]? := by
  intro l
  induction l with
  | nil => intro _ j a h; simp at h
  | cons b l ih =>
    intro h j a hj k hk
    have hb := (h b List.mem_cons_self).1
    rw [List.flatMap_cons]
    cases j with
    | zero =>
      obtain rfl : b = a := by simpa using hj
      rw [Nat.zero_mul, Nat.zero_add, List.getElem?_append_left (by omega)]
    | succ j =>
      rw [List.getElem?_cons_succ] at hj
      rw [List.getElem?_append_right (by rw [Nat.succ_mul]; omega), hb, ← ih (fun c hc => h c (List.mem_cons_of_mem _ hc)) hj hk]
      congr 1
      rw [Nat.succ_mul]
      omega
theorem flat_inv {l : List α} (hs : 0 < s) {i : Nat} (hi : i < l.length * s) : ∃ j k a, i = j * s + k ∧ k < s ∧ l[j]? = some a := by
  have hj : i / s < l.length := (Nat.div_lt_iff_lt_mul hs).2 hi
  refine ⟨i / s, i % s, l[i / s], ?_, Nat.mod_lt _ hs, List.getElem?_eq_getElem hj⟩
  rw [Nat.mul_comm]
  exact (Nat.div_add_mod i s).symm
/-- a slice of records in a block below B -/
def RecAt (enc : α → List Value) (s : Nat) (w : World) (B : Nat) (v : Value) (l : List α) : Prop :=
  ∃ p c, v = .slice p l.length c ∧ l.length ≤ c ∧ c ≤ maxLen ∧ (l ≠ [] → ∃ g o, p = some ⟨g, o, none⟩ ∧ g < B ∧ ∀ j a, l[j]? = some a → ∀ k u, (enc a)[k]? = some u → w.cell? ⟨g, o + (j * s + k), none⟩ = some u)
/-- a slice of records that the call owns -/
def RecOwn (enc : α → List Value) (e : TypeId) (s : Nat) (w : World) (base : Nat) (v : Value) (l : List α) : Prop := w.ownsRow base e s v l.length (l.flatMap enc)
theorem RecAt.shape {w : World} {B : Nat} {v : Value} {l : List α} (h : RecAt enc s w B v l) : ∃ p c, v = .slice p l.length c ∧ l.length ≤ c ∧ c ≤ maxLen := by
  obtain ⟨p, c, e, h1, h2, _⟩ := h
  exact ⟨p, c, e, h1, h2⟩
theorem RecAt.same {w w' : World} {B : Nat} {v : Value} {l : List α} (h : RecAt enc s w B v l) (hs : ∀ g, g < B → w'.heap[g]? = w.heap[g]?) : RecAt enc s w' B v l := by
  obtain ⟨p, c, e, h1, h2, h3⟩ := h
  refine ⟨p, c, e, h1, h2, fun hn => ?_⟩
  obtain ⟨g, o, e, hg, hc⟩ := h3 hn
  exact ⟨g, o, e, hg, fun j a hj k u hu => (World.cell?_of_block (w := w) (w' := w') (a := ⟨g, o + (j * s + k), none⟩) (hs g hg)).trans (hc j a hj k u hu)⟩
/-- the same where the slice's own block has not changed -/
theorem RecAt.block {w w' : World} {B : Nat} {v : Value} {l : List α} (h : RecAt enc s w B v l) (hs : ∀ g, v.ownBlock = some g → w'.heap[g]? = w.heap[g]?) : RecAt enc s w' B v l := by
  obtain ⟨p, c, e, h1, h2, h3⟩ := h
  refine ⟨p, c, e, h1, h2, fun hn => ?_⟩
  obtain ⟨g, o, e', hg, hc⟩ := h3 hn
  exact ⟨g, o, e', hg, fun j a hj k u hu => (World.cell?_of_block (w := w) (w' := w') (a := ⟨g, o + (j * s + k), none⟩) (hs g (by rw [e, e']; rfl))).trans (hc j a hj k u hu)⟩
theorem RecAt.below {w w' : World} {B B' : Nat} {v : Value} {l : List α} (h : RecAt enc s w B v l) (hb : Below B' w w') (hB : B ≤ B') : RecAt enc s w' B v l := h.same fun g hg => hb.block g (by omega)
theorem RecAt.more {w : World} {B B' : Nat} {v : Value} {l : List α} (h : RecAt enc s w B v l) (hB : B ≤ B') : RecAt enc s w B' v l := by
  obtain ⟨p, c, e, h1, h2, h3⟩ := h
  refine ⟨p, c, e, h1, h2, fun hn => ?_⟩
  obtain ⟨g, o, e, hg, hc⟩ := h3 hn
  exact ⟨g, o, e, by omega, hc⟩
theorem RecAt.drewN {w : World} {B : Nat} {v : Value} {l : List α} (h : RecAt enc s w B v l) (m : Nat) : RecAt enc s (w.drewN m) B v l := h.same (fun _ _ => rfl)
theorem RecAt.nil (w : World) (B : Nat) (p : Option Addr) (c : Nat) (hc : c ≤ maxLen) : RecAt enc s w B (.slice p 0 c) ([] : List α) := ⟨p, c, rfl, Nat.zero_le _, hc, fun h => absurd rfl h⟩
/-- where the rows lie -/
theorem RecAt.nth {w : World} {B : Nat} {p : Option Addr} {n c : Nat} {l : List α} (h : RecAt enc s w B (.slice p n c) l) (h0 : 0 < l.length) : ∃ g o, p = some ⟨g, o, none⟩ ∧ n = l.length ∧ g < B ∧ ∀ j a, l[j]? = some a → ∀ k u, (enc a)[k]? = some u → w.cell? ⟨g, o + (j * s + k), none⟩ = some u := by
  obtain ⟨p', c', e, h1, h2, h3⟩ := h
  simp only [Value.slice.injEq] at e
  obtain ⟨rfl, rfl, rfl⟩ := e
  obtain ⟨g, o, e, hg, hc⟩ := h3 (List.length_pos_iff.1 h0)
  exact ⟨g, o, e, rfl, hg, hc⟩
theorem RecAt.take {w : World} {B : Nat} {p : Option Addr} {n c : Nat} {l : List α} (h : RecAt enc s w B (.slice p n c) l) {k : Nat} (hk : k ≤ l.length) : RecAt enc s w B (.slice p k c) (l.take k) := by
  obtain ⟨p', c', e, h1, h2, h3⟩ := h
  simp only [Value.slice.injEq] at e
  obtain ⟨rfl, rfl, rfl⟩ := e
  have hl : (l.take k).length = k := by rw [List.length_take]; omega
  refine ⟨p, c, by rw [hl], by rw [hl]; omega, h2, fun hn => ?_⟩
  have h0 : 0 < (l.take k).length := List.length_pos_iff.2 hn
  obtain ⟨g, o, e', hg, hc⟩ := h3 (by intro e; subst e; simp at h0)
  refine ⟨g, o, e', hg, fun j a hj => hc j a ?_⟩
  have hjk := (List.getElem?_eq_some_iff.1 hj).1
  rw [← hj, List.getElem?_take, if_pos (by omega)]
theorem RecAt.drop {w : World} {B g o n c : Nat} {l : List α} (h : RecAt enc s w B (.slice (some ⟨g, o, none⟩) n c) l) {k : Nat} (hk : k ≤ l.length) : RecAt enc s w B (.slice (some ⟨g, o + k * s, none⟩) (n - k) (c - k)) (l.drop k) := by
  obtain ⟨p', c', e, h1, h2, h3⟩ := h
  simp only [Value.slice.injEq] at e
  obtain ⟨rfl, rfl, rfl⟩ := e
  have hl : (l.drop k).length = l.length - k := List.length_drop
  refine ⟨_, c - k, by rw [hl], by rw [hl]; omega, by omega, fun hn => ?_⟩
  have h0 : 0 < (l.drop k).length := List.length_pos_iff.2 hn
  obtain ⟨g', o', e', hg, hc⟩ := h3 (by intro e; subst e; simp at h0)
  simp only [Option.some.injEq, Addr.mk.injEq, and_true] at e'
  obtain ⟨rfl, rfl⟩ := e'
  refine ⟨g, o + k * s, rfl, hg, fun j a hj q u hu => ?_⟩
  rw [List.getElem?_drop] at hj
  have := hc (k + j) a hj q u hu
  rw [Nat.add_mul] at this
  rw [← this]
  congr 2
  omega
/-- a new block that holds the records -/
theorem RecAt.fresh {w : World} {g : Nat} {e : TypeId} {l : List α} {fz : Nat × Nat} (hE : EncOK enc s l) (hs : 0 < s) (h : w.heap[g]? = some (.cells (l.flatMap enc).toArray e fz)) {c : Nat} (hc : l.length ≤ c) (hm : c ≤ maxLen) : RecAt enc s w (g + 1) (.slice (some ⟨g, 0, none⟩) l.length c) l := by
  refine ⟨_, c, rfl, hc, hm, fun _ => ⟨g, 0, rfl, by omega, fun j a hj k u hu => ?_⟩⟩
  have hk : k < s := by
    have := (List.getElem?_eq_some_iff.1 hu).1
    rwa [(hE a (List.mem_of_getElem? hj)).1] at this
  have hg := flat_get hE hj hk
  rw [hu] at hg
  rw [Nat.zero_add]
  unfold World.cell?
  simp [h, hg]
theorem RecOwn.shape {e : TypeId} {w : World} {base : Nat} {v : Value} {l : List α} (h : RecOwn enc e s w base v l) : ∃ p c, v = .slice p l.length c ∧ l.length ≤ c ∧ c ≤ maxLen := by
  rcases h.2 with ⟨h1, h2⟩ | ⟨g, cap, cur, h1, _, _, h2, h3, _⟩
  · exact ⟨none, 0, by rw [h1, h2], by omega, Nat.zero_le _⟩
  · exact ⟨_, cap, h1, h2, h3⟩
theorem RecOwn.lt {e : TypeId} {w : World} {base : Nat} {v : Value} {l : List α} (h : RecOwn enc e s w base v l) {k : Nat} (hk : v.ownBlock = some k) : base ≤ k ∧ k < w.heap.size := by
  rcases h.2 with ⟨h1, _⟩ | ⟨g, cap, cur, h1, hb, hh, _⟩
  · subst h1; simp [Value.ownBlock] at hk
  · subst h1
    obtain rfl : g = k := by simpa [Value.ownBlock] using hk
    exact ⟨hb, (Array.getElem?_eq_some_iff.1 hh).1⟩
theorem RecOwn.nil (e : TypeId) (w : World) (base : Nat) : RecOwn enc e s w base (.slice none 0 0) ([] : List α) := ⟨by simp, .inl ⟨rfl, rfl⟩⟩
theorem RecOwn.same {e : TypeId} {w w' : World} {base : Nat} {v : Value} {l : List α} (h : RecOwn enc e s w base v l) (hk : ∀ k, v.ownBlock = some k → w'.heap[k]? = w.heap[k]?) : RecOwn enc e s w' base v l := row_same h hk
theorem RecOwn.base {e : TypeId} {w : World} {base base' : Nat} {v : Value} {l : List α} (h : RecOwn enc e s w base v l) (hb : ∀ k, v.ownBlock = some k → base' ≤ k) : RecOwn enc e s w base' v l := row_base h hb
theorem RecOwn.below {e : TypeId} {w w' : World} {base : Nat} {v : Value} {l : List α} (h : RecOwn enc e s w base v l) (hb : Below w.heap.size w w') : RecOwn enc e s w' base v l := h.same fun k hk => hb.block k (h.lt hk).2
theorem RecOwn.row {e : TypeId} {w : World} {base : Nat} {v : Value} {l : List α} (hE : EncOK enc s l) (h : RecOwn enc e s w base v l) : RecAt enc s w w.heap.size v l := by
  obtain ⟨h0, h1 | ⟨g, cap, cur, rfl, hb, hh, h2, h3, h4, h5⟩⟩ := id h
  · obtain ⟨rfl, h2⟩ := h1
    obtain rfl := List.eq_nil_of_length_eq_zero h2
    exact RecAt.nil _ _ _ _ (Nat.zero_le _)
  · refine ⟨_, cap, rfl, h2, h3, fun hn => ⟨g, 0, rfl, (Array.getElem?_eq_some_iff.1 hh).1, fun j a hj k u hu => ?_⟩⟩
    have hk : k < s := by
      have := (List.getElem?_eq_some_iff.1 hu).1
      rwa [(hE a (List.mem_of_getElem? hj)).1] at this
    have hg := flat_get hE hj hk
    rw [hu] at hg
    have hlt : j * s + k < l.length * s := by
      have := (List.getElem?_eq_some_iff.1 hg).1
      rw [flat_len hE] at this
      exact this
    rw [Nat.zero_add, World.ownsRow.cellAt h _ hlt, hg]
/-- what an append to a row of the call's own leaves -/
structure AppR (enc : α → List Value) (e : TypeId) (s : Nat) (w : World) (base : Nat) (v : Value) (l xs : List α) (v' : Value) (w' : World) : Prop where
  own : RecOwn enc e s w' base v' (l ++ xs)
  grown : w.grownBy w' v.ownBlock
  at_ : v'.ownBlock = v.ownBlock ∨ v'.ownBlock = some w.heap.size
theorem AppR.other {e : TypeId} {w w' : World} {base : Nat} {v v' : Value} {l xs : List α} (h : AppR enc e s w base v l xs v' w') {k : Nat} (hk : k < w.heap.size) (hn : v.ownBlock ≠ some k) : w'.heap[k]? = w.heap[k]? := h.grown.block k hk (fun e => hn e.symm)
theorem AppR.place {e : TypeId} {w w' : World} {base : Nat} {v v' : Value} {l xs : List α} (h : AppR enc e s w base v l xs v' w') {k : Nat} (hk : k < w.heap.size) (hn : v.ownBlock ≠ some k) : v'.ownBlock ≠ some k := by
  intro e
  rcases h.at_ with h1 | h1
  · exact hn (h1 ▸ e)
  · rw [h1] at e
    have := Option.some.inj e
    omega
theorem AppR.touch {e : TypeId} {w0 w w' : World} {base : Nat} {v v' : Value} {l xs : List α} {S : Nat → Prop} (h : AppR enc e s w base v l xs v' w') (ht : TouchB S w0 w) (hs : ∀ k, v.ownBlock = some k → k < w0.heap.size → S k) : TouchB S w0 w' := ht.grown h.grown hs
theorem AppR.belowB {e : TypeId} {w0 w w' : World} {base B : Nat} {v v' : Value} {l xs : List α} (h : AppR enc e s w base v l xs v' w') (hb : Below B w0 w) (hB : B ≤ w.heap.size) (hs : ∀ k, v.ownBlock = some k → B ≤ k) : Below B w0 w' := hb.grown h.grown hB hs
theorem run_append_none_rec {sl e : TypeId} (T : ElTy sl e s) (w : World) (v : Value) (p : Option Addr) (n c c' : Nat) (hv : v = .slice p n c) (hc : n ≤ c) (ty : TypeId) :
    (Builtin.append_ #[sl, sl] ty #[v, .slice none 0 c']).run Tryz.prog w = .ok v w := by
  subst hv
  obtain ⟨hund, ⟨i, z, hi, hz, hs, hzs, hby⟩, hpos⟩ := T
  unfold Builtin.append_
  have hsz : (Go.sizeOf e).run Tryz.prog w = .ok s w := by rw [← hs]; simp [Go.sizeOf, typeInfo, Sem.run, hi, Result.andThen]
  simp [go_sem, run_underlying hund, hund, hi, hz, hs, hby, hc, hsz, Result.andThen]
  cases p <;> rfl
theorem run_append_rec {sl e : TypeId} (T : ElTy sl e s) {w : World} {base : Nat} {v : Value} {l : List α} (h : RecOwn enc e s w base v l) (hb : base ≤ w.heap.size) (ty : TypeId) {B : Nat} {vx : Value} {xs : List α} (hx : RecAt enc s w B vx xs) (hE : EncOK enc s xs) (hn : l.length + xs.length ≤ 1000000000) :
    ∃ v' w', (Builtin.append_ #[sl, sl] ty #[v, vx]).run Tryz.prog w = .ok v' w' ∧ AppR enc e s w base v l xs v' w' := by
  obtain ⟨p, c, rfl, h1, h2, h3⟩ := hx
  cases hxs : xs with
  | nil =>
    subst hxs
    cases p with
    | none =>
      obtain ⟨pv, cv, ev, hc, _⟩ := h.shape
      exact ⟨v, w, run_append_none_rec T w v pv l.length cv _ ev hc ty, by rw [List.append_nil]; exact h, ⟨rfl, rfl, rfl, Nat.le_refl _, fun _ _ _ => rfl⟩, .inl rfl⟩
    | some ad =>
      obtain ⟨hund, ⟨i, z, hi, hz, hs, hzs, hby⟩, hpos⟩ := T
      obtain ⟨v', w', hr, hown, hg, _, hat⟩ := run_append_own_at (P := Tryz.prog) w base sl ty e i z s i.bytes hund hi hz hs rfl hzs hpos v l.length (l.flatMap enc) h ad 0 c [] (by simp) (fun j u hu => by simp at hu) (fun u hu => by simp at hu) (by unfold maxLen; simp at hn; omega) (by
        simp at hn
        refine Nat.le_trans (Nat.mul_le_mul hn hby) (by decide)) hb
      refine ⟨v', w', hr, ?_, hg, hat⟩
      unfold RecOwn
      rw [List.append_nil]
      simpa using hown
  | cons x0 xs0 =>
    subst hxs
    obtain ⟨g, o, rfl, hg, hc⟩ := h3 (by simp)
    obtain ⟨hund, ⟨i, z, hi, hz, hs, hzs, hby⟩, hpos⟩ := T
    have hfl := flat_len hE
    obtain ⟨v', w', hr, hown, hg, _, hat⟩ := run_append_own_at (P := Tryz.prog) w base sl ty e i z s i.bytes hund hi hz hs rfl hzs hpos v l.length (l.flatMap enc) h ⟨g, o, none⟩ (x0 :: xs0).length c ((x0 :: xs0).flatMap enc) hfl (fun j u hu => by
        have hj := (List.getElem?_eq_some_iff.1 hu).1
        rw [hfl] at hj
        obtain ⟨q, k, a, rfl, hk, hq⟩ := flat_inv hpos hj
        rw [flat_get hE hq hk] at hu
        have := hc q a hq k u hu
        rw [Addr.add_lit]
        exact this) (fun u hu => by
        obtain ⟨a, ha, hu⟩ := List.mem_flatMap.1 hu
        exact (hE a ha).2 u hu) (by unfold maxLen; omega) (by refine Nat.le_trans (Nat.mul_le_mul hn hby) (by decide)) hb
    refine ⟨v', w', hr, ?_, hg, hat⟩
    unfold RecOwn
    rw [List.length_append, List.flatMap_append]
    exact hown
/-- at the operation, for the walk -/
theorem wpList_append_rec {sl e : TypeId} (T : ElTy sl e s) {w : World} {ops : Array Oper} {rest : List Oper} {o : Oper} {a : Act} {Q : Exit → Act → World → Prop} (hgd : o.guard = none) (x y : Operand)
    (ho : o.op = .call { callee := .builtin .append, args := #[x, y], argTypes := #[sl, sl] }) {base : Nat} {v : Value} {l : List α} (hs : a.eval x = v) (hown : RecOwn enc e s w base v l) (hb : base ≤ w.heap.size)
    {B : Nat} {vx : Value} {xs : List α} (hx : a.eval y = vx) (hrow : RecAt enc s w B vx xs) (hE : EncOK enc s xs) (hn : l.length + xs.length ≤ 1000000000)
    (h : ∀ v' w', AppR enc e s w base v l xs v' w' → wpList Tryz.prog ops Q rest (a.put o.dst v') w') : wpList Tryz.prog ops Q (o :: rest) a w := by
  refine wpList_plain hgd fun K hK => ?_
  obtain ⟨v', w', hr, h2⟩ := run_append_rec T hown hb o.type hrow hE hn
  unfold Oper.wp execOp
  simp only [ho, resolve, invoke, builtin, Sem.run_bind, Sem.run_pure, Result.andThen_ok, List.map_toArray, List.map_cons, List.map_nil, hs, hx, hr]
  exact hK _ _ (h v' w' h2)
end
end Go.Proofs.YtnakbepcalciiaaGreat.rec
/- Identities of processes and refs, pairs of them and monitors: their values, and the maps that they are keys of. No condition. -/
namespace Go.Proofs.YtnakbepcalciiaaGreat.lk
open Go.RowKit mem rec
set_option linter.unusedVariables false
set_option linter.unusedSimpArgs false
set_option maxHeartbeats 4000000
set_option maxRecDepth 100000
/-- kind, node, incarnation, number -/
abbrev Id := Int × ByteArray × Int × Int
abbrev Pr := Id × Id
abbrev Mn := Id × Id × Id
def idL (x : Id) : List Value := [.int .i64 x.1, .string x.2.1, .int .i64 x.2.2.1, .int .i64 x.2.2.2]
def prL (p : Pr) : List Value := idL p.1 ++ idL p.2
def mnL (m : Mn) : List Value := idL m.1 ++ idL m.2.1 ++ idL m.2.2
def idV (x : Id) : Value := .agg #[.int .i64 x.1, .string x.2.1, .int .i64 x.2.2.1, .int .i64 x.2.2.2]
def prV (p : Pr) : Value := .agg #[.int .i64 p.1.1, .string p.1.2.1, .int .i64 p.1.2.2.1, .int .i64 p.1.2.2.2, .int .i64 p.2.1, .string p.2.2.1, .int .i64 p.2.2.2.1, .int .i64 p.2.2.2.2]
def mnV (m : Mn) : Value := .agg #[.int .i64 m.1.1, .string m.1.2.1, .int .i64 m.1.2.2.1, .int .i64 m.1.2.2.2, .int .i64 m.2.1.1, .string m.2.1.2.1, .int .i64 m.2.1.2.2.1, .int .i64 m.2.1.2.2.2, .int .i64 m.2.2.1, .string m.2.2.2.1, .int .i64 m.2.2.2.2.1, .int .i64 m.2.2.2.2.2]
theorem bytes_dec (a b : ByteArray) : (a == b) = decide (a = b) := by
  rw [Bool.eq_iff_iff, bytes_beq]; simp
theorem str_dec (a b : ByteArray) : (a.toList == b.toList) = decide (a = b) := by
  by_cases h : a = b
  · subst h; simp
  · rw [decide_eq_false h]
    cases hb : (a.toList == b.toList)
    · rfl
    · have e : a.toList = b.toList := by simpa using hb
      rw [ByteArray.toList_eq, ByteArray.toList_eq] at e
      exact absurd (ByteArray.ext (Array.ext' e)) h
theorem eqIn_id (d : Nat) (a b : Id) (w : World) : (Op.equalIn (d + 1 + 1) 147 (idV a) (idV b)).run Tryz.prog w = .ok (decide (a = b)) w := by
  obtain ⟨a1, a2, a3, a4⟩ := a
  obtain ⟨b1, b2, b3, b4⟩ := b
  have hS : Tryz.prog.underlying 147 = some (.struct (Tryz.prog.fieldsOf 147)) := by kernel_rfl
  have hp : Tryz.prog.stoodInHeld 147 = false := by kernel_rfl
  have u3 := Tryz.underlying3
  have a3' := Tryz.isAgg3
  have z3 := Tryz.sizeOf3
  have u9 := Tryz.underlying9
  have a9 := Tryz.isAgg9
  have z9 := Tryz.sizeOf9
  have u2 := Tryz.underlying2
  have a2' := Tryz.isAgg2
  have z2 := Tryz.sizeOf2
  unfold idV
  rw [run_equalIn_agg w (d + 1) 147 _ _ hS hp]
  simp only [Program.fieldsOf, Tryz.underlying147]
  go_simp
  have hl : (a2.toList = b2.toList) = (a2 = b2) := by
    have := str_dec a2 b2
    by_cases h : a2 = b2
    · subst h; simp
    · rw [decide_eq_false h] at this
      simp only [h, eq_iff_iff, iff_false]
      intro e
      rw [e] at this
      simp at this
  simp only [hl]
  by_cases h1 : a1 = b1 <;> by_cases h2 : a2 = b2 <;> by_cases h3 : a3 = b3 <;> by_cases h4 : a4 = b4 <;> simp [h1, h2, h3, h4]
theorem eq_id (a b : Id) (w : World) : (Op.equal 147 (idV a) (idV b)).run Tryz.prog w = .ok (decide (a = b)) w := eqIn_id 9998 a b w
theorem eq_pr (a b : Pr) (w : World) : (Op.equal 149 (prV a) (prV b)).run Tryz.prog w = .ok (decide (a = b)) w := by
  obtain ⟨a1, a2⟩ := a
  obtain ⟨b1, b2⟩ := b
  have hS : Tryz.prog.underlying 149 = some (.struct (Tryz.prog.fieldsOf 149)) := by kernel_rfl
  have hp : Tryz.prog.stoodInHeld 149 = false := by kernel_rfl
  have a147 := Tryz.isAgg147
  have z147 := Tryz.sizeOf147
  have e := eqIn_id 9997
  unfold idV at e
  unfold Op.equal prV
  rw [show Op.maxDepth = 9997 + 1 + 1 + 1 from rfl, run_equalIn_agg w (9997 + 1 + 1) 149 _ _ hS hp]
  simp only [Program.fieldsOf, Tryz.underlying149]
  go_simp
  by_cases h1 : a1 = b1 <;> by_cases h2 : a2 = b2 <;> simp [h1, h2]
theorem check_plain (n : Nat) (b : Bool) {t : TypeId} {d : TypeDesc} (h : Tryz.prog.underlying t = some d) (hd : d = .string ∨ (∃ k, d = .int k) ∨ d = .bool) (v : Value) (w : World) : (Instr.checkKey b (n + 1) t v).run Tryz.prog w = .ok () w := by
  rcases hd with rfl | ⟨k, rfl⟩ | rfl
  all_goals simp [Instr.checkKey, run_underlying h]
theorem checkIn_id (n : Nat) (b : Bool) (k : Id) (w : World) : (Instr.checkKey b (n + 1 + 1) 147 (idV k)).run Tryz.prog w = .ok () w := by
  have a3' := Tryz.isAgg3
  have z3 := Tryz.sizeOf3
  have a9 := Tryz.isAgg9
  have z9 := Tryz.sizeOf9
  have a2' := Tryz.isAgg2
  have z2 := Tryz.sizeOf2
  have c3 := fun v w => check_plain n b Tryz.underlying3 (.inr (.inl ⟨_, rfl⟩)) v w
  have c9 := fun v w => check_plain n b Tryz.underlying9 (.inl rfl) v w
  have c2 := fun v w => check_plain n b Tryz.underlying2 (.inr (.inl ⟨_, rfl⟩)) v w
  unfold idV Instr.checkKey
  simp only [Sem.run_bind, run_underlying Tryz.underlying147, Result.andThen_ok]
  go_simp
theorem check_id (b : Bool) (k : Id) (w : World) : (Instr.checkKey b 10000 147 (idV k)).run Tryz.prog w = .ok () w := checkIn_id 9998 b k w
theorem check_pr (b : Bool) (k : Pr) (w : World) : (Instr.checkKey b 10000 149 (prV k)).run Tryz.prog w = .ok () w := by
  have a147 := Tryz.isAgg147
  have z147 := Tryz.sizeOf147
  have c := fun k w => checkIn_id 9997 b k w
  unfold idV at c
  rw [show (10000 : Nat) = 9997 + 1 + 1 + 1 from rfl]
  unfold prV Instr.checkKey
  simp only [Sem.run_bind, run_underlying Tryz.underlying149, Result.andThen_ok]
  go_simp
theorem bits_id (a : Id) : Instr.sameBits 10000 (idV a) (idV a) = true := by
  unfold idV
  rw [show (10000 : Nat) = 9998 + 1 + 1 from rfl]
  simp [Instr.sameBits, (bytes_beq _ _).2 rfl]
theorem bits_pr (a : Pr) : Instr.sameBits 10000 (prV a) (prV a) = true := by
  unfold prV
  rw [show (10000 : Nat) = 9998 + 1 + 1 from rfl]
  simp [Instr.sameBits, (bytes_beq _ _).2 rfl]
theorem key_pr : KeyAny Tryz.prog 149 prV := KeyAny.of_equal Tryz.underlying149 (fun _ _ => rfl) eq_pr check_pr bits_pr
theorem key_id : KeyAny Tryz.prog 147 idV := KeyAny.of_equal Tryz.underlying147 (fun _ _ => rfl) eq_id check_id bits_id
end Go.Proofs.YtnakbepcalciiaaGreat.lk

/- Comparisons of numbers and strings. No condition. -/
namespace Go.Proofs.YtnakbepcalciiaaGreat.tm
open Go.RowKit mem
set_option linter.unusedVariables false
set_option linter.unusedSimpArgs false
set_option maxHeartbeats 1000000
set_option maxRecDepth 100000

def cmpI (a b : Int) : Int := if a < b then -1 else if b < a then 1 else 0
def cmpB (a b : ByteArray) : Int := Lib.compareBytes a.data.toList b.data.toList
theorem ret1i {a b : Int} (h : a = b) : Ending.returned (.int .i64 a) = .returned (.int .i64 b) := by rw [h]
theorem cb_less : ∀ x y : List UInt8, Op.bytesLess x y = decide (Lib.compareBytes x y = -1)
  | [], [] => rfl
  | [], _ :: _ => rfl
  | _ :: _, [] => rfl
  | a :: x, b :: y => by
    unfold Op.bytesLess Lib.compareBytes
    by_cases h : a < b
    · simp [h]
    · by_cases h2 : b < a
      · have : a ≠ b := fun e => by subst e; exact h h2
        simp [h, h2, this]
      · have e : a = b := by
          apply UInt8.toNat_inj.1
          have h1 : ¬ a.toNat < b.toNat := h
          have h3 : ¬ b.toNat < a.toNat := h2
          omega
        subst e
        simp [h, cb_less x y]
theorem cb_eq : ∀ x y : List UInt8, (x == y) = decide (Lib.compareBytes x y = 0)
  | [], [] => rfl
  | [], _ :: _ => rfl
  | _ :: _, [] => rfl
  | a :: x, b :: y => by
    unfold Lib.compareBytes
    have ih := cb_eq x y
    by_cases h : a < b
    · have : a ≠ b := fun e => by subst e; exact absurd h (Nat.lt_irrefl _)
      simp [h, this]
    · by_cases h2 : b < a
      · have : a ≠ b := fun e => by subst e; exact h h2
        simp [h, h2, this]
      · have e : a = b := by
          apply UInt8.toNat_inj.1
          have h1 : ¬ a.toNat < b.toNat := h
          have h3 : ¬ b.toNat < a.toNat := h2
          omega
        subst e
        simp only [List.cons_beq_cons, beq_self_eq_true, Bool.true_and, h, if_false]
        exact ih
theorem cb_three : ∀ x y : List UInt8, Lib.compareBytes x y = -1 ∨ Lib.compareBytes x y = 0 ∨ Lib.compareBytes x y = 1
  | [], [] => .inr (.inl rfl)
  | [], _ :: _ => .inl rfl
  | _ :: _, [] => .inr (.inr rfl)
  | a :: x, b :: y => by
    unfold Lib.compareBytes
    by_cases h : a < b
    · rw [if_pos h]; exact .inl rfl
    · rw [if_neg h]
      by_cases h2 : b < a
      · rw [if_pos h2]; exact .inr (.inr rfl)
      · rw [if_neg h2]; exact cb_three x y
theorem cmpB_cases (a b : ByteArray) : (cmpB a b = -1 ∧ Op.bytesLess a.toList b.toList = true) ∨ (cmpB a b = 0 ∧ Op.bytesLess a.toList b.toList = false ∧ (a.toList == b.toList) = true) ∨ (cmpB a b = 1 ∧ Op.bytesLess a.toList b.toList = false ∧ (a.toList == b.toList) = false) := by
  unfold cmpB
  rw [ByteArray.toList_eq, ByteArray.toList_eq, cb_less, cb_eq]
  rcases cb_three a.data.toList b.data.toList with h | h | h <;> simp [h]
theorem isNaN77 (x : Int) (w : World) : Calls Tryz.prog 268 #[.int .i64 x] w fun e w' => e = .returned (.bool false) ∧ w = w' := by
  have q : (x != x) = false := by simp
  go_enter Tryz.func268, Tryz.ntmps268
  go_wp2_with fail
  go_ret
  exact ⟨rfl, rfl⟩
theorem isNaN81 (x : Int) (w : World) : Calls Tryz.prog 272 #[.int .i64 x] w fun e w' => e = .returned (.bool false) ∧ w = w' := by
  have q : (x != x) = false := by simp
  go_enter Tryz.func272, Tryz.ntmps272
  go_wp2_with fail
  go_ret
  exact ⟨rfl, rfl⟩
theorem isNaN86 (x : Int) (w : World) : Calls Tryz.prog 281 #[.int .u8 x] w fun e w' => e = .returned (.bool false) ∧ w = w' := by
  have q : (x != x) = false := by simp
  go_enter Tryz.func281, Tryz.ntmps281
  go_wp2_with fail
  go_ret
  exact ⟨rfl, rfl⟩
theorem cmpInt (a b : Int) (w : World) : Calls Tryz.prog 230 #[.int .i64 a, .int .i64 b] w fun e w' => e = .returned (.int .i64 (cmpI a b)) ∧ w = w' := by
  unfold cmpI
  by_cases h : a < b
  · rw [if_pos h]
    have q1 : decide (a < b) = true := decide_eq_true h
    go_enter Tryz.func230, Tryz.ntmps230
    go_wp2_with (go_at_call 268; refine (isNaN77 _ _).mono ?_; rintro e w' ⟨rfl, rfl⟩)
    go_ret
    exact ⟨rfl, rfl⟩
  · rw [if_neg h]
    have q1 : decide (a < b) = false := decide_eq_false h
    by_cases h2 : b < a
    · rw [if_pos h2]
      have q2 : decide (b < a) = true := decide_eq_true h2
      go_enter Tryz.func230, Tryz.ntmps230
      go_wp2_with (go_at_call 268; refine (isNaN77 _ _).mono ?_; rintro e w' ⟨rfl, rfl⟩)
      go_ret
      exact ⟨rfl, rfl⟩
    · rw [if_neg h2]
      have q2 : decide (b < a) = false := decide_eq_false h2
      go_enter Tryz.func230, Tryz.ntmps230
      go_wp2_with (go_at_call 268; refine (isNaN77 _ _).mono ?_; rintro e w' ⟨rfl, rfl⟩)
      go_ret
      exact ⟨rfl, rfl⟩
theorem cmpInt64 (a b : Int) (w : World) : Calls Tryz.prog 236 #[.int .i64 a, .int .i64 b] w fun e w' => e = .returned (.int .i64 (cmpI a b)) ∧ w = w' := by
  unfold cmpI
  by_cases h : a < b
  · rw [if_pos h]
    have q1 : decide (a < b) = true := decide_eq_true h
    go_enter Tryz.func236, Tryz.ntmps236
    go_wp2_with (go_at_call 272; refine (isNaN81 _ _).mono ?_; rintro e w' ⟨rfl, rfl⟩)
    go_ret
    exact ⟨rfl, rfl⟩
  · rw [if_neg h]
    have q1 : decide (a < b) = false := decide_eq_false h
    by_cases h2 : b < a
    · rw [if_pos h2]
      have q2 : decide (b < a) = true := decide_eq_true h2
      go_enter Tryz.func236, Tryz.ntmps236
      go_wp2_with (go_at_call 272; refine (isNaN81 _ _).mono ?_; rintro e w' ⟨rfl, rfl⟩)
      go_ret
      exact ⟨rfl, rfl⟩
    · rw [if_neg h2]
      have q2 : decide (b < a) = false := decide_eq_false h2
      go_enter Tryz.func236, Tryz.ntmps236
      go_wp2_with (go_at_call 272; refine (isNaN81 _ _).mono ?_; rintro e w' ⟨rfl, rfl⟩)
      go_ret
      exact ⟨rfl, rfl⟩
theorem cmpByte (a b : Int) (w : World) : Calls Tryz.prog 270 #[.int .u8 a, .int .u8 b] w fun e w' => e = .returned (.int .i64 (cmpI a b)) ∧ w = w' := by
  unfold cmpI
  by_cases h : a < b
  · rw [if_pos h]
    have q1 : decide (a < b) = true := decide_eq_true h
    go_enter Tryz.func270, Tryz.ntmps270
    go_wp2_with (go_at_call 281; refine (isNaN86 _ _).mono ?_; rintro e w' ⟨rfl, rfl⟩)
    go_ret
    exact ⟨rfl, rfl⟩
  · rw [if_neg h]
    have q1 : decide (a < b) = false := decide_eq_false h
    by_cases h2 : b < a
    · rw [if_pos h2]
      have q2 : decide (b < a) = true := decide_eq_true h2
      go_enter Tryz.func270, Tryz.ntmps270
      go_wp2_with (go_at_call 281; refine (isNaN86 _ _).mono ?_; rintro e w' ⟨rfl, rfl⟩)
      go_ret
      exact ⟨rfl, rfl⟩
    · rw [if_neg h2]
      have q2 : decide (b < a) = false := decide_eq_false h2
      go_enter Tryz.func270, Tryz.ntmps270
      go_wp2_with (go_at_call 281; refine (isNaN86 _ _).mono ?_; rintro e w' ⟨rfl, rfl⟩)
      go_ret
      exact ⟨rfl, rfl⟩
theorem ints (a b : Int) (w : World) : Calls Tryz.prog 183 #[.int .i64 a, .int .i64 b] w fun e w' => e = .returned (.int .i64 (cmpI a b)) ∧ w = w' := by
  unfold cmpI
  by_cases h : a < b
  · rw [if_pos h]
    have q1 : decide (a < b) = true := decide_eq_true h
    go_enter Tryz.func183, Tryz.ntmps183
    go_wp2_with fail
    go_ret
    exact ⟨rfl, rfl⟩
  · rw [if_neg h]
    have q1 : decide (a < b) = false := decide_eq_false h
    by_cases h2 : b < a
    · rw [if_pos h2]
      have q2 : decide (b < a) = true := decide_eq_true h2
      go_enter Tryz.func183, Tryz.ntmps183
      go_wp2_with fail
      go_ret
      exact ⟨rfl, rfl⟩
    · rw [if_neg h2]
      have q2 : decide (b < a) = false := decide_eq_false h2
      go_enter Tryz.func183, Tryz.ntmps183
      go_wp2_with fail
      go_ret
      exact ⟨rfl, rfl⟩
theorem texts (a b : ByteArray) (w : World) : Calls Tryz.prog 184 #[.string a, .string b] w fun e w' => e = .returned (.int .i64 (cmpB a b)) ∧ w = w' := by
  rcases cmpB_cases a b with ⟨h, q1⟩ | ⟨h, q1, q2⟩ | ⟨h, q1, q2⟩
  all_goals
    rw [h]
    clear h
    go_enter Tryz.func184, Tryz.ntmps184
    go_wp2_with fail
    go_ret
    exact ⟨rfl, rfl⟩
theorem cmpString80 (a b : ByteArray) (w : World) : Calls Tryz.prog 271 #[.string a, .string b] w fun e w' => e = .returned (.int .i64 (cmpB a b)) ∧ w = w' := by
  go_enter Tryz.func271, Tryz.ntmps271
  go_wp2_with fail
  rw [run_callFunc_extern Tryz.func282 (by kernel_rfl) (by kernel_rfl) (by kernel_rfl) (e := Extern.BytealgCompare.compare) (by kernel_rfl), Lib.run_compareString]
  simp only [Result.andThen]
  rw [Oper.upon_value]
  go_wp2_with fail
  go_ret
  exact ⟨rfl, rfl⟩
theorem cmpString (a b : ByteArray) (w : World) : Calls Tryz.prog 235 #[.string a, .string b] w fun e w' => e = .returned (.int .i64 (cmpB a b)) ∧ w = w' := by
  go_enter Tryz.func235, Tryz.ntmps235
  go_wp2_with (go_at_call 271; refine (cmpString80 _ _ _).mono ?_; rintro e w' ⟨rfl, rfl⟩)
  go_ret
  exact ⟨rfl, rfl⟩
end Go.Proofs.YtnakbepcalciiaaGreat.tm
