/- Several texts in one, one behind the other: Rec, LkA, TmA, TmB, TmC, TmD. No condition beyond theirs. -/
import Derived.Test.YtnakbepcalciiaaGreatGa
import Derived.Maps.AppendAt
import Derived.Deep.QuietTactic
import Derived.BigQuiet
import Derived.WalkSpells
import Derived.StillTailTactics
import Derived.Outline
import Derived.IntWalk
/- Rows of records: a slice of any element type, read, owned, appended to. Conditions: as said. -/
namespace Go.Proofs.YtnakbepcalciiaaGreat.rec
open Go.RowKit mem
set_option linter.unusedVariables false
set_option linter.unusedSimpArgs false
set_option linter.unusedSectionVars false
set_option maxHeartbeats 1000000
set_option maxRecDepth 100000

/-- an element type e of s cells, and a type sl of its slices -/
structure ElTy (sl e : TypeId) (s : Nat) : Prop where
  und : Tryz.prog.underlying sl = some (.slice e)
  info : ∃ i z, Tryz.prog.info? e = some i ∧ i.zero = some z ∧ i.size = s ∧ z.cells.size = s ∧ i.bytes ≤ 10000
  pos : 0 < s
section
variable {α : Type} {enc : α → List Value} {s : Nat}
def EncOK (enc : α → List Value) (s : Nat) (l : List α) : Prop := ∀ a ∈ l, (enc a).length = s ∧ ∀ u ∈ enc a, u.oneCell' = true
theorem EncOK.nil : EncOK enc s [] := fun a h => by simp at h
theorem EncOK.append {l m : List α} (h : EncOK enc s l) (k : EncOK enc s m) : EncOK enc s (l ++ m) := fun a ha => by
  rcases List.mem_append.1 ha with ha | ha
  · exact h a ha
  · exact k a ha
theorem EncOK.sub {l m : List α} (h : EncOK enc s l) (hm : ∀ a ∈ m, a ∈ l) : EncOK enc s m := fun a ha => h a (hm a ha)
theorem flat_len : ∀ {l : List α}, EncOK enc s l → (l.flatMap enc).length = l.length * s := by
  intro l
  induction l with
  | nil => intro _; simp
  | cons a l ih =>
    intro h
    rw [List.flatMap_cons, List.length_append, (h a List.mem_cons_self).1, ih (fun b hb => h b (List.mem_cons_of_mem _ hb)), List.length_cons, Nat.succ_mul, Nat.add_comm]
theorem flat_get : ∀ {l : List α}, EncOK enc s l → ∀ {j : Nat} {a : α}, l[j]? = some a → ∀ {k : Nat}, k < s → (l.flatMap enc)[j * s + k]? = (enc a)[k]? := by
  intro l
  induction l with
  | nil => intro _ j a h; simp at h
  | cons b l ih =>
    intro h j a hj k hk
    have hb := (h b List.mem_cons_self).1
    rw [List.flatMap_cons]
    cases j with
    | zero =>
      obtain rfl : b = a := by simpa using hj
      rw [Nat.zero_mul, Nat.zero_add, List.getElem?_append_left (by omega)]
    | succ j =>
      rw [List.getElem?_cons_succ] at hj
      rw [List.getElem?_append_right (by rw [Nat.succ_mul]; omega), hb, ← ih (fun c hc => h c (List.mem_cons_of_mem _ hc)) hj hk]
      congr 1
      rw [Nat.succ_mul]
      omega
theorem flat_inv {l : List α} (hs : 0 < s) {i : Nat} (hi : i < l.length * s) : ∃ j k a, i = j * s + k ∧ k < s ∧ l[j]? = some a := by
  have hj : i / s < l.length := (Nat.div_lt_iff_lt_mul hs).2 hi
  refine ⟨i / s, i % s, l[i / s], ?_, Nat.mod_lt _ hs, List.getElem?_eq_getElem hj⟩
  rw [Nat.mul_comm]
  exact (Nat.div_add_mod i s).symm
/-- a slice of records in a block below B -/
def RecAt (enc : α → List Value) (s : Nat) (w : World) (B : Nat) (v : Value) (l : List α) : Prop :=
  ∃ p c, v = .slice p l.length c ∧ l.length ≤ c ∧ c ≤ maxLen ∧ (l ≠ [] → ∃ g o, p = some ⟨g, o, none⟩ ∧ g < B ∧ ∀ j a, l[j]? = some a → ∀ k u, (enc a)[k]? = some u → w.cell? ⟨g, o + (j * s + k), none⟩ = some u)
/-- a slice of records that the call owns -/
def RecOwn (enc : α → List Value) (e : TypeId) (s : Nat) (w : World) (base : Nat) (v : Value) (l : List α) : Prop := w.ownsRow base e s v l.length (l.flatMap enc)
theorem RecAt.shape {w : World} {B : Nat} {v : Value} {l : List α} (h : RecAt enc s w B v l) : ∃ p c, v = .slice p l.length c ∧ l.length ≤ c ∧ c ≤ maxLen := by
  obtain ⟨p, c, e, h1, h2, _⟩ := h
  exact ⟨p, c, e, h1, h2⟩
theorem RecAt.same {w w' : World} {B : Nat} {v : Value} {l : List α} (h : RecAt enc s w B v l) (hs : ∀ g, g < B → w'.heap[g]? = w.heap[g]?) : RecAt enc s w' B v l := by
  obtain ⟨p, c, e, h1, h2, h3⟩ := h
  refine ⟨p, c, e, h1, h2, fun hn => ?_⟩
  obtain ⟨g, o, e, hg, hc⟩ := h3 hn
  exact ⟨g, o, e, hg, fun j a hj k u hu => (World.cell?_of_block (w := w) (w' := w') (a := ⟨g, o + (j * s + k), none⟩) (hs g hg)).trans (hc j a hj k u hu)⟩
/-- the same where the slice's own block has not changed -/
theorem RecAt.block {w w' : World} {B : Nat} {v : Value} {l : List α} (h : RecAt enc s w B v l) (hs : ∀ g, v.ownBlock = some g → w'.heap[g]? = w.heap[g]?) : RecAt enc s w' B v l := by
  obtain ⟨p, c, e, h1, h2, h3⟩ := h
  refine ⟨p, c, e, h1, h2, fun hn => ?_⟩
  obtain ⟨g, o, e', hg, hc⟩ := h3 hn
  exact ⟨g, o, e', hg, fun j a hj k u hu => (World.cell?_of_block (w := w) (w' := w') (a := ⟨g, o + (j * s + k), none⟩) (hs g (by rw [e, e']; rfl))).trans (hc j a hj k u hu)⟩
theorem RecAt.below {w w' : World} {B B' : Nat} {v : Value} {l : List α} (h : RecAt enc s w B v l) (hb : Below B' w w') (hB : B ≤ B') : RecAt enc s w' B v l := h.same fun g hg => hb.block g (by omega)
theorem RecAt.more {w : World} {B B' : Nat} {v : Value} {l : List α} (h : RecAt enc s w B v l) (hB : B ≤ B') : RecAt enc s w B' v l := by
  obtain ⟨p, c, e, h1, h2, h3⟩ := h
  refine ⟨p, c, e, h1, h2, fun hn => ?_⟩
  obtain ⟨g, o, e, hg, hc⟩ := h3 hn
  exact ⟨g, o, e, by omega, hc⟩
theorem RecAt.drewN {w : World} {B : Nat} {v : Value} {l : List α} (h : RecAt enc s w B v l) (m : Nat) : RecAt enc s (w.drewN m) B v l := h.same (fun _ _ => rfl)
theorem RecAt.nil (w : World) (B : Nat) (p : Option Addr) (c : Nat) (hc : c ≤ maxLen) : RecAt enc s w B (.slice p 0 c) ([] : List α) := ⟨p, c, rfl, Nat.zero_le _, hc, fun h => absurd rfl h⟩
/-- where the rows lie -/
theorem RecAt.nth {w : World} {B : Nat} {p : Option Addr} {n c : Nat} {l : List α} (h : RecAt enc s w B (.slice p n c) l) (h0 : 0 < l.length) : ∃ g o, p = some ⟨g, o, none⟩ ∧ n = l.length ∧ g < B ∧ ∀ j a, l[j]? = some a → ∀ k u, (enc a)[k]? = some u → w.cell? ⟨g, o + (j * s + k), none⟩ = some u := by
  obtain ⟨p', c', e, h1, h2, h3⟩ := h
  simp only [Value.slice.injEq] at e
  obtain ⟨rfl, rfl, rfl⟩ := e
  obtain ⟨g, o, e, hg, hc⟩ := h3 (List.length_pos_iff.1 h0)
  exact ⟨g, o, e, rfl, hg, hc⟩
theorem RecAt.take {w : World} {B : Nat} {p : Option Addr} {n c : Nat} {l : List α} (h : RecAt enc s w B (.slice p n c) l) {k : Nat} (hk : k ≤ l.length) : RecAt enc s w B (.slice p k c) (l.take k) := by
  obtain ⟨p', c', e, h1, h2, h3⟩ := h
  simp only [Value.slice.injEq] at e
  obtain ⟨rfl, rfl, rfl⟩ := e
  have hl : (l.take k).length = k := by rw [List.length_take]; omega
  refine ⟨p, c, by rw [hl], by rw [hl]; omega, h2, fun hn => ?_⟩
  have h0 : 0 < (l.take k).length := List.length_pos_iff.2 hn
  obtain ⟨g, o, e', hg, hc⟩ := h3 (by intro e; subst e; simp at h0)
  refine ⟨g, o, e', hg, fun j a hj => hc j a ?_⟩
  have hjk := (List.getElem?_eq_some_iff.1 hj).1
  rw [← hj, List.getElem?_take, if_pos (by omega)]
theorem RecAt.drop {w : World} {B g o n c : Nat} {l : List α} (h : RecAt enc s w B (.slice (some ⟨g, o, none⟩) n c) l) {k : Nat} (hk : k ≤ l.length) : RecAt enc s w B (.slice (some ⟨g, o + k * s, none⟩) (n - k) (c - k)) (l.drop k) := by
  obtain ⟨p', c', e, h1, h2, h3⟩ := h
  simp only [Value.slice.injEq] at e
  obtain ⟨rfl, rfl, rfl⟩ := e
  have hl : (l.drop k).length = l.length - k := List.length_drop
  refine ⟨_, c - k, by rw [hl], by rw [hl]; omega, by omega, fun hn => ?_⟩
  have h0 : 0 < (l.drop k).length := List.length_pos_iff.2 hn
  obtain ⟨g', o', e', hg, hc⟩ := h3 (by intro e; subst e; simp at h0)
  simp only [Option.some.injEq, Addr.mk.injEq, and_true] at e'
  obtain ⟨rfl, rfl⟩ := e'
  refine ⟨g, o + k * s, rfl, hg, fun j a hj q u hu => ?_⟩
  rw [List.getElem?_drop] at hj
  have := hc (k + j) a hj q u hu
  rw [Nat.add_mul] at this
  rw [← this]
  congr 2
  omega
/-- a new block that holds the records -/
theorem RecAt.fresh {w : World} {g : Nat} {e : TypeId} {l : List α} {fz : Nat × Nat} (hE : EncOK enc s l) (hs : 0 < s) (h : w.heap[g]? = some (.cells (l.flatMap enc).toArray e fz)) {c : Nat} (hc : l.length ≤ c) (hm : c ≤ maxLen) : RecAt enc s w (g + 1) (.slice (some ⟨g, 0, none⟩) l.length c) l := by
  refine ⟨_, c, rfl, hc, hm, fun _ => ⟨g, 0, rfl, by omega, fun j a hj k u hu => ?_⟩⟩
  have hk : k < s := by
    have := (List.getElem?_eq_some_iff.1 hu).1
    rwa [(hE a (List.mem_of_getElem? hj)).1] at this
  have hg := flat_get hE hj hk
  rw [hu] at hg
  rw [Nat.zero_add]
  unfold World.cell?
  simp [h, hg]
theorem RecOwn.shape {e : TypeId} {w : World} {base : Nat} {v : Value} {l : List α} (h : RecOwn enc e s w base v l) : ∃ p c, v = .slice p l.length c ∧ l.length ≤ c ∧ c ≤ maxLen := by
  rcases h.2 with ⟨h1, h2⟩ | ⟨g, cap, cur, h1, _, _, h2, h3, _⟩
  · exact ⟨none, 0, by rw [h1, h2], by omega, Nat.zero_le _⟩
  · exact ⟨_, cap, h1, h2, h3⟩
theorem RecOwn.lt {e : TypeId} {w : World} {base : Nat} {v : Value} {l : List α} (h : RecOwn enc e s w base v l) {k : Nat} (hk : v.ownBlock = some k) : base ≤ k ∧ k < w.heap.size := by
  rcases h.2 with ⟨h1, _⟩ | ⟨g, cap, cur, h1, hb, hh, _⟩
  · subst h1; simp [Value.ownBlock] at hk
  · subst h1
    obtain rfl : g = k := by simpa [Value.ownBlock] using hk
    exact ⟨hb, (Array.getElem?_eq_some_iff.1 hh).1⟩
theorem RecOwn.nil (e : TypeId) (w : World) (base : Nat) : RecOwn enc e s w base (.slice none 0 0) ([] : List α) := ⟨by simp, .inl ⟨rfl, rfl⟩⟩
theorem RecOwn.same {e : TypeId} {w w' : World} {base : Nat} {v : Value} {l : List α} (h : RecOwn enc e s w base v l) (hk : ∀ k, v.ownBlock = some k → w'.heap[k]? = w.heap[k]?) : RecOwn enc e s w' base v l := row_same h hk
theorem RecOwn.base {e : TypeId} {w : World} {base base' : Nat} {v : Value} {l : List α} (h : RecOwn enc e s w base v l) (hb : ∀ k, v.ownBlock = some k → base' ≤ k) : RecOwn enc e s w base' v l := row_base h hb
theorem RecOwn.below {e : TypeId} {w w' : World} {base : Nat} {v : Value} {l : List α} (h : RecOwn enc e s w base v l) (hb : Below w.heap.size w w') : RecOwn enc e s w' base v l := h.same fun k hk => hb.block k (h.lt hk).2
theorem RecOwn.row {e : TypeId} {w : World} {base : Nat} {v : Value} {l : List α} (hE : EncOK enc s l) (h : RecOwn enc e s w base v l) : RecAt enc s w w.heap.size v l := by
  obtain ⟨h0, h1 | ⟨g, cap, cur, rfl, hb, hh, h2, h3, h4, h5⟩⟩ := id h
  · obtain ⟨rfl, h2⟩ := h1
    obtain rfl := List.eq_nil_of_length_eq_zero h2
    exact RecAt.nil _ _ _ _ (Nat.zero_le _)
  · refine ⟨_, cap, rfl, h2, h3, fun hn => ⟨g, 0, rfl, (Array.getElem?_eq_some_iff.1 hh).1, fun j a hj k u hu => ?_⟩⟩
    have hk : k < s := by
      have := (List.getElem?_eq_some_iff.1 hu).1
      rwa [(hE a (List.mem_of_getElem? hj)).1] at this
    have hg := flat_get hE hj hk
    rw [hu] at hg
    have hlt : j * s + k < l.length * s := by
      have := (List.getElem?_eq_some_iff.1 hg).1
      rw [flat_len hE] at this
      exact this
    rw [Nat.zero_add, World.ownsRow.cellAt h _ hlt, hg]
/-- what an append to a row of the call's own leaves -/
structure AppR (enc : α → List Value) (e : TypeId) (s : Nat) (w : World) (base : Nat) (v : Value) (l xs : List α) (v' : Value) (w' : World) : Prop where
  own : RecOwn enc e s w' base v' (l ++ xs)
  grown : w.grownBy w' v.ownBlock
  at_ : v'.ownBlock = v.ownBlock ∨ v'.ownBlock = some w.heap.size
theorem AppR.other {e : TypeId} {w w' : World} {base : Nat} {v v' : Value} {l xs : List α} (h : AppR enc e s w base v l xs v' w') {k : Nat} (hk : k < w.heap.size) (hn : v.ownBlock ≠ some k) : w'.heap[k]? = w.heap[k]? := h.grown.block k hk (fun e => hn e.symm)
theorem AppR.place {e : TypeId} {w w' : World} {base : Nat} {v v' : Value} {l xs : List α} (h : AppR enc e s w base v l xs v' w') {k : Nat} (hk : k < w.heap.size) (hn : v.ownBlock ≠ some k) : v'.ownBlock ≠ some k := by
  intro e
  rcases h.at_ with h1 | h1
  · exact hn (h1 ▸ e)
  · rw [h1] at e
    have := Option.some.inj e
    omega
theorem AppR.touch {e : TypeId} {w0 w w' : World} {base : Nat} {v v' : Value} {l xs : List α} {S : Nat → Prop} (h : AppR enc e s w base v l xs v' w') (ht : TouchB S w0 w) (hs : ∀ k, v.ownBlock = some k → k < w0.heap.size → S k) : TouchB S w0 w' := ht.grown h.grown hs
theorem AppR.belowB {e : TypeId} {w0 w w' : World} {base B : Nat} {v v' : Value} {l xs : List α} (h : AppR enc e s w base v l xs v' w') (hb : Below B w0 w) (hB : B ≤ w.heap.size) (hs : ∀ k, v.ownBlock = some k → B ≤ k) : Below B w0 w' := hb.grown h.grown hB hs
theorem run_append_none_rec {sl e : TypeId} (T : ElTy sl e s) (w : World) (v : Value) (p : Option Addr) (n c c' : Nat) (hv : v = .slice p n c) (hc : n ≤ c) (ty : TypeId) :
    (Builtin.append_ #[sl, sl] ty #[v, .slice none 0 c']).run Tryz.prog w = .ok v w := by
  subst hv
  obtain ⟨hund, ⟨i, z, hi, hz, hs, hzs, hby⟩, hpos⟩ := T
  unfold Builtin.append_
  have hsz : (Go.sizeOf e).run Tryz.prog w = .ok s w := by rw [← hs]; simp [Go.sizeOf, typeInfo, Sem.run, hi, Result.andThen]
  simp [go_sem, run_underlying hund, hund, hi, hz, hs, hby, hc, hsz, Result.andThen]
  cases p <;> rfl
theorem run_append_rec {sl e : TypeId} (T : ElTy sl e s) {w : World} {base : Nat} {v : Value} {l : List α} (h : RecOwn enc e s w base v l) (hb : base ≤ w.heap.size) (ty : TypeId) {B : Nat} {vx : Value} {xs : List α} (hx : RecAt enc s w B vx xs) (hE : EncOK enc s xs) (hn : l.length + xs.length ≤ 1000000000) :
    ∃ v' w', (Builtin.append_ #[sl, sl] ty #[v, vx]).run Tryz.prog w = .ok v' w' ∧ AppR enc e s w base v l xs v' w' := by
  obtain ⟨p, c, rfl, h1, h2, h3⟩ := hx
  cases hxs : xs with
  | nil =>
    subst hxs
    cases p with
    | none =>
      obtain ⟨pv, cv, ev, hc, _⟩ := h.shape
      exact ⟨v, w, run_append_none_rec T w v pv l.length cv _ ev hc ty, by rw [List.append_nil]; exact h, ⟨rfl, rfl, rfl, Nat.le_refl _, fun _ _ _ => rfl⟩, .inl rfl⟩
    | some ad =>
      obtain ⟨hund, ⟨i, z, hi, hz, hs, hzs, hby⟩, hpos⟩ := T
      obtain ⟨v', w', hr, hown, hg, _, hat⟩ := run_append_own_at (P := Tryz.prog) w base sl ty e i z s i.bytes hund hi hz hs rfl hzs hpos v l.length (l.flatMap enc) h ad 0 c [] (by simp) (fun j u hu => by simp at hu) (fun u hu => by simp at hu) (by unfold maxLen; simp at hn; omega) (by
        simp at hn
        refine Nat.le_trans (Nat.mul_le_mul hn hby) (by decide)) hb
      refine ⟨v', w', hr, ?_, hg, hat⟩
      unfold RecOwn
      rw [List.append_nil]
      simpa using hown
  | cons x0 xs0 =>
    subst hxs
    obtain ⟨g, o, rfl, hg, hc⟩ := h3 (by simp)
    obtain ⟨hund, ⟨i, z, hi, hz, hs, hzs, hby⟩, hpos⟩ := T
    have hfl := flat_len hE
    obtain ⟨v', w', hr, hown, hg, _, hat⟩ := run_append_own_at (P := Tryz.prog) w base sl ty e i z s i.bytes hund hi hz hs rfl hzs hpos v l.length (l.flatMap enc) h ⟨g, o, none⟩ (x0 :: xs0).length c ((x0 :: xs0).flatMap enc) hfl (fun j u hu => by
        have hj := (List.getElem?_eq_some_iff.1 hu).1
        rw [hfl] at hj
        obtain ⟨q, k, a, rfl, hk, hq⟩ := flat_inv hpos hj
        rw [flat_get hE hq hk] at hu
        have := hc q a hq k u hu
        rw [Addr.add_lit]
        exact this) (fun u hu => by
        obtain ⟨a, ha, hu⟩ := List.mem_flatMap.1 hu
        exact (hE a ha).2 u hu) (by unfold maxLen; omega) (by refine Nat.le_trans (Nat.mul_le_mul hn hby) (by decide)) hb
    refine ⟨v', w', hr, ?_, hg, hat⟩
    unfold RecOwn
    rw [List.length_append, List.flatMap_append]
    exact hown
/-- at the operation, for the walk -/
theorem wpList_append_rec {sl e : TypeId} (T : ElTy sl e s) {w : World} {ops : Array Oper} {rest : List Oper} {o : Oper} {a : Act} {Q : Exit → Act → World → Prop} (hgd : o.guard = none) (x y : Operand)
    (ho : o.op = .call { callee := .builtin .append, args := #[x, y], argTypes := #[sl, sl] }) {base : Nat} {v : Value} {l : List α} (hs : a.eval x = v) (hown : RecOwn enc e s w base v l) (hb : base ≤ w.heap.size)
    {B : Nat} {vx : Value} {xs : List α} (hx : a.eval y = vx) (hrow : RecAt enc s w B vx xs) (hE : EncOK enc s xs) (hn : l.length + xs.length ≤ 1000000000)
    (h : ∀ v' w', AppR enc e s w base v l xs v' w' → wpList Tryz.prog ops Q rest (a.put o.dst v') w') : wpList Tryz.prog ops Q (o :: rest) a w := by
  refine wpList_plain hgd fun K hK => ?_
  obtain ⟨v', w', hr, h2⟩ := run_append_rec T hown hb o.type hrow hE hn
  unfold Oper.wp execOp
  simp only [ho, resolve, invoke, builtin, Sem.run_bind, Sem.run_pure, Result.andThen_ok, List.map_toArray, List.map_cons, List.map_nil, hs, hx, hr]
  exact hK _ _ (h v' w' h2)
end
end Go.Proofs.YtnakbepcalciiaaGreat.rec
/- Identities of processes and refs, pairs of them and monitors: their values, and the maps that they are keys of. No condition. -/
namespace Go.Proofs.YtnakbepcalciiaaGreat.lk
open Go.RowKit mem rec
set_option linter.unusedVariables false
set_option linter.unusedSimpArgs false
set_option maxHeartbeats 4000000
set_option maxRecDepth 100000
/-- kind, node, incarnation, number -/
abbrev Id := Int × ByteArray × Int × Int
abbrev Pr := Id × Id
abbrev Mn := Id × Id × Id
def idL (x : Id) : List Value := [.int .i64 x.1, .string x.2.1, .int .i64 x.2.2.1, .int .i64 x.2.2.2]
def prL (p : Pr) : List Value := idL p.1 ++ idL p.2
def mnL (m : Mn) : List Value := idL m.1 ++ idL m.2.1 ++ idL m.2.2
def idV (x : Id) : Value := .agg #[.int .i64 x.1, .string x.2.1, .int .i64 x.2.2.1, .int .i64 x.2.2.2]
def prV (p : Pr) : Value := .agg #[.int .i64 p.1.1, .string p.1.2.1, .int .i64 p.1.2.2.1, .int .i64 p.1.2.2.2, .int .i64 p.2.1, .string p.2.2.1, .int .i64 p.2.2.2.1, .int .i64 p.2.2.2.2]
def mnV (m : Mn) : Value := .agg #[.int .i64 m.1.1, .string m.1.2.1, .int .i64 m.1.2.2.1, .int .i64 m.1.2.2.2, .int .i64 m.2.1.1, .string m.2.1.2.1, .int .i64 m.2.1.2.2.1, .int .i64 m.2.1.2.2.2, .int .i64 m.2.2.1, .string m.2.2.2.1, .int .i64 m.2.2.2.2.1, .int .i64 m.2.2.2.2.2]
theorem bytes_dec (a b : ByteArray) : (a == b) = decide (a = b) := by
  rw [Bool.eq_iff_iff, bytes_beq]; simp
theorem str_dec (a b : ByteArray) : (a.toList == b.toList) = decide (a = b) := by
  by_cases h : a = b
  · subst h; simp
  · rw [decide_eq_false h]
    cases hb : (a.toList == b.toList)
    · rfl
    · have e : a.toList = b.toList := by simpa using hb
      rw [ByteArray.toList_eq, ByteArray.toList_eq] at e
      exact absurd (ByteArray.ext (Array.ext' e)) h
theorem eqIn_id (d : Nat) (a b : Id) (w : World) : (Op.equalIn (d + 1 + 1) 147 (idV a) (idV b)).run Tryz.prog w = .ok (decide (a = b)) w := by
  obtain ⟨a1, a2, a3, a4⟩ := a
  obtain ⟨b1, b2, b3, b4⟩ := b
  have hS : Tryz.prog.underlying 147 = some (.struct (Tryz.prog.fieldsOf 147)) := by kernel_rfl
  have hp : Tryz.prog.stoodInHeld 147 = false := by kernel_rfl
  have u3 := Tryz.underlying3
  have a3' := Tryz.isAgg3
  have z3 := Tryz.sizeOf3
  have u9 := Tryz.underlying9
  have a9 := Tryz.isAgg9
  have z9 := Tryz.sizeOf9
  have u2 := Tryz.underlying2
  have a2' := Tryz.isAgg2
  have z2 := Tryz.sizeOf2
  unfold idV
  rw [run_equalIn_agg w (d + 1) 147 _ _ hS hp]
  simp only [Program.fieldsOf, Tryz.underlying147]
  go_simp
  have hl : (a2.toList = b2.toList) = (a2 = b2) := by
    have := str_dec a2 b2
    by_cases h : a2 = b2
    · subst h; simp
    · rw [decide_eq_false h] at this
      simp only [h, eq_iff_iff, iff_false]
      intro e
      rw [e] at this
      simp at this
  simp only [hl]
  by_cases h1 : a1 = b1 <;> by_cases h2 : a2 = b2 <;> by_cases h3 : a3 = b3 <;> by_cases h4 : a4 = b4 <;> simp [h1, h2, h3, h4]
theorem eq_id (a b : Id) (w : World) : (Op.equal 147 (idV a) (idV b)).run Tryz.prog w = .ok (decide (a = b)) w := eqIn_id 9998 a b w
theorem eq_pr (a b : Pr) (w : World) : (Op.equal 149 (prV a) (prV b)).run Tryz.prog w = .ok (decide (a = b)) w := by
  obtain ⟨a1, a2⟩ := a
  obtain ⟨b1, b2⟩ := b
  have hS : Tryz.prog.underlying 149 = some (.struct (Tryz.prog.fieldsOf 149)) := by kernel_rfl
  have hp : Tryz.prog.stoodInHeld 149 = false := by kernel_rfl
  have a147 := Tryz.isAgg147
  have z147 := Tryz.sizeOf147
  have e := eqIn_id 9997
  unfold idV at e
  unfold Op.equal prV
  rw [show Op.maxDepth = 9997 + 1 + 1 + 1 from rfl, run_equalIn_agg w (9997 + 1 + 1) 149 _ _ hS hp]
  simp only [Program.fieldsOf, Tryz.underlying149]
  go_simp
  by_cases h1 : a1 = b1 <;> by_cases h2 : a2 = b2 <;> simp [h1, h2]
theorem check_plain (n : Nat) (b : Bool) {t : TypeId} {d : TypeDesc} (h : Tryz.prog.underlying t = some d) (hd : d = .string ∨ (∃ k, d = .int k) ∨ d = .bool) (v : Value) (w : World) : (Instr.checkKey b (n + 1) t v).run Tryz.prog w = .ok () w := by
  rcases hd with rfl | ⟨k, rfl⟩ | rfl
  all_goals simp [Instr.checkKey, run_underlying h]
theorem checkIn_id (n : Nat) (b : Bool) (k : Id) (w : World) : (Instr.checkKey b (n + 1 + 1) 147 (idV k)).run Tryz.prog w = .ok () w := by
  have a3' := Tryz.isAgg3
  have z3 := Tryz.sizeOf3
  have a9 := Tryz.isAgg9
  have z9 := Tryz.sizeOf9
  have a2' := Tryz.isAgg2
  have z2 := Tryz.sizeOf2
  have c3 := fun v w => check_plain n b Tryz.underlying3 (.inr (.inl ⟨_, rfl⟩)) v w
  have c9 := fun v w => check_plain n b Tryz.underlying9 (.inl rfl) v w
  have c2 := fun v w => check_plain n b Tryz.underlying2 (.inr (.inl ⟨_, rfl⟩)) v w
  unfold idV Instr.checkKey
  simp only [Sem.run_bind, run_underlying Tryz.underlying147, Result.andThen_ok]
  go_simp
theorem check_id (b : Bool) (k : Id) (w : World) : (Instr.checkKey b 10000 147 (idV k)).run Tryz.prog w = .ok () w := checkIn_id 9998 b k w
theorem check_pr (b : Bool) (k : Pr) (w : World) : (Instr.checkKey b 10000 149 (prV k)).run Tryz.prog w = .ok () w := by
  have a147 := Tryz.isAgg147
  have z147 := Tryz.sizeOf147
  have c := fun k w => checkIn_id 9997 b k w
  unfold idV at c
  rw [show (10000 : Nat) = 9997 + 1 + 1 + 1 from rfl]
  unfold prV Instr.checkKey
  simp only [Sem.run_bind, run_underlying Tryz.underlying149, Result.andThen_ok]
  go_simp
theorem bits_id (a : Id) : Instr.sameBits 10000 (idV a) (idV a) = true := by
  unfold idV
  rw [show (10000 : Nat) = 9998 + 1 + 1 from rfl]
  simp [Instr.sameBits, (bytes_beq _ _).2 rfl]
theorem bits_pr (a : Pr) : Instr.sameBits 10000 (prV a) (prV a) = true := by
  unfold prV
  rw [show (10000 : Nat) = 9998 + 1 + 1 from rfl]
  simp [Instr.sameBits, (bytes_beq _ _).2 rfl]
theorem key_pr : KeyAny Tryz.prog 149 prV := KeyAny.of_equal Tryz.underlying149 (fun _ _ => rfl) eq_pr check_pr bits_pr
theorem key_id : KeyAny Tryz.prog 147 idV := KeyAny.of_equal Tryz.underlying147 (fun _ _ => rfl) eq_id check_id bits_id
end Go.Proofs.YtnakbepcalciiaaGreat.lk

/- Terms as trees, by depth; how a list of terms lies in memory. No condition. -/
namespace Go.Proofs.YtnakbepcalciiaaGreat.tm
open Go.RowKit mem
set_option linter.unusedVariables false
set_option linter.unusedSimpArgs false

/-- a term's own fields -/
structure TF where
  kind : Int
  int : Int
  gen : Int
  name : ByteArray
  func : ByteArray
  arity : Int
  bytes : ByteArray
  bits : Int
/-- a term whose elements nest less than n deep -/
def Tm : Nat → Type
  | 0 => Empty
  | n + 1 => TF × List (Tm n)
def Tm.f {n : Nat} (t : Tm (n + 1)) : TF := Prod.fst t
def Tm.items {n : Nat} (t : Tm (n + 1)) : List (Tm n) := Prod.snd t
def Tm.mk {n : Nat} (f : TF) (l : List (Tm n)) : Tm (n + 1) := (f, l)
theorem Tm.ext {n : Nat} {a b : Tm (n + 1)} (h1 : a.f = b.f) (h2 : a.items = b.items) : a = b := Prod.ext h1 h2
theorem Tm.nil0 (l : List (Tm 0)) : l = [] := by
  cases l with
  | nil => rfl
  | cons a l => exact (nomatch (show Empty from a))

/-- the value of a term: v is the value of its Items -/
def aggV (f : TF) (v : Value) : Value := .agg #[.int .i64 f.kind, .int .i64 f.int, .int .i64 f.gen, .string f.name, .string f.func, .int .i64 f.arity, v, .string f.bytes, .int .i64 f.bits]
/-- the nine cells of a term -/
structure Cells (w : World) (g o : Nat) (f : TF) (v : Value) : Prop where
  c0 : w.cell? ⟨g, o, none⟩ = some (.int .i64 f.kind)
  c1 : w.cell? ⟨g, o + 1, none⟩ = some (.int .i64 f.int)
  c2 : w.cell? ⟨g, o + 1 + 1, none⟩ = some (.int .i64 f.gen)
  c3 : w.cell? ⟨g, o + 1 + 1 + 1, none⟩ = some (.string f.name)
  c4 : w.cell? ⟨g, o + 1 + 1 + 1 + 1, none⟩ = some (.string f.func)
  c5 : w.cell? ⟨g, o + 1 + 1 + 1 + 1 + 1, none⟩ = some (.int .i64 f.arity)
  c6 : w.cell? ⟨g, o + 1 + 1 + 1 + 1 + 1 + 1, none⟩ = some v
  c7 : w.cell? ⟨g, o + 1 + 1 + 1 + 1 + 1 + 1 + 1, none⟩ = some (.string f.bytes)
  c8 : w.cell? ⟨g, o + 1 + 1 + 1 + 1 + 1 + 1 + 1 + 1, none⟩ = some (.int .i64 f.bits)
theorem Cells.same {w w' : World} {g o : Nat} {f : TF} {v : Value} (h : Cells w g o f v) (hs : w'.heap[g]? = w.heap[g]?) : Cells w' g o f v := by
  have e : ∀ x, w'.cell? ⟨g, x, none⟩ = w.cell? ⟨g, x, none⟩ := fun x => World.cell?_of_block (w := w) (w' := w') (a := ⟨g, x, none⟩) hs
  exact ⟨(e _).trans h.c0, (e _).trans h.c1, (e _).trans h.c2, (e _).trans h.c3, (e _).trans h.c4, (e _).trans h.c5, (e _).trans h.c6, (e _).trans h.c7, (e _).trans h.c8⟩

/-- a slice of terms in blocks below B -/
def ItemsAt (w : World) (B : Nat) : (n : Nat) → Value → List (Tm n) → Prop
  | 0, v, _ => ∃ p c, v = .slice p 0 c ∧ c ≤ maxLen
  | n + 1, v, l => ∃ p c, v = .slice p l.length c ∧ l.length ≤ c ∧ c ≤ maxLen ∧ (l ≠ [] → ∃ g o, p = some ⟨g, o, none⟩ ∧ g < B ∧
      ∀ j, (h : j < l.length) → ∃ u, Cells w g (o + j * 9) (l[j]).f u ∧ ItemsAt w B n u (l[j]).items)
theorem ItemsAt.shape {w : World} {B n : Nat} {v : Value} {l : List (Tm n)} (h : ItemsAt w B n v l) : ∃ p c, v = .slice p l.length c ∧ l.length ≤ c ∧ c ≤ maxLen := by
  cases n with
  | zero =>
    obtain ⟨p, c, rfl, hc⟩ := h
    have := Tm.nil0 l
    subst this
    exact ⟨p, c, rfl, Nat.zero_le _, hc⟩
  | succ n => obtain ⟨p, c, e, h1, h2, _⟩ := h; exact ⟨p, c, e, h1, h2⟩
theorem ItemsAt.same {w w' : World} {B : Nat} (hs : ∀ g, g < B → w'.heap[g]? = w.heap[g]?) : ∀ {n : Nat} {v : Value} {l : List (Tm n)}, ItemsAt w B n v l → ItemsAt w' B n v l := by
  intro n
  induction n with
  | zero => intro v l h; exact h
  | succ n ih =>
    intro v l h
    obtain ⟨p, c, e, h1, h2, h3⟩ := h
    refine ⟨p, c, e, h1, h2, fun hn => ?_⟩
    obtain ⟨g, o, e, hg, hc⟩ := h3 hn
    refine ⟨g, o, e, hg, fun j hj => ?_⟩
    obtain ⟨u, hc1, hc2⟩ := hc j hj
    exact ⟨u, hc1.same (hs g hg), ih hc2⟩
theorem ItemsAt.below {w w' : World} {B B' : Nat} {n : Nat} {v : Value} {l : List (Tm n)} (h : ItemsAt w B n v l) (hb : Below B' w w') (hB : B ≤ B') : ItemsAt w' B n v l :=
  h.same fun g hg => hb.block g (by omega)
theorem ItemsAt.drewN {w : World} {B : Nat} {n : Nat} {v : Value} {l : List (Tm n)} (h : ItemsAt w B n v l) (m : Nat) : ItemsAt (w.drewN m) B n v l := ItemsAt.same (w := w) (w' := w.drewN m) (B := B) (fun _ _ => rfl) h
theorem ItemsAt.more {w : World} {B B' : Nat} (hB : B ≤ B') : ∀ {n : Nat} {v : Value} {l : List (Tm n)}, ItemsAt w B n v l → ItemsAt w B' n v l := by
  intro n
  induction n with
  | zero => intro v l h; exact h
  | succ n ih =>
    intro v l h
    obtain ⟨p, c, e, h1, h2, h3⟩ := h
    refine ⟨p, c, e, h1, h2, fun hn => ?_⟩
    obtain ⟨g, o, e, hg, hc⟩ := h3 hn
    refine ⟨g, o, e, by omega, fun j hj => ?_⟩
    obtain ⟨u, hc1, hc2⟩ := hc j hj
    exact ⟨u, hc1, ih hc2⟩
/-- an element -/
theorem ItemsAt.at_ {w : World} {B n : Nat} {v : Value} {l : List (Tm (n + 1))} (h : ItemsAt w B (n + 1) v l) (hne : l ≠ []) : ∃ g o c, v = .slice (some ⟨g, o, none⟩) l.length c ∧ l.length ≤ c ∧ c ≤ maxLen ∧ g < B ∧
    ∀ j, (h : j < l.length) → ∃ u, Cells w g (o + j * 9) (l[j]).f u ∧ ItemsAt w B n u (l[j]).items := by
  obtain ⟨p, c, e, h1, h2, h3⟩ := h
  obtain ⟨g, o, rfl, hg, hc⟩ := h3 hne
  exact ⟨g, o, c, e, h1, h2, hg, hc⟩
/-- the elements from k on -/
theorem ItemsAt.nil_any {w : World} {B n c : Nat} {p : Option Addr} (hc : c ≤ maxLen) : ItemsAt w B n (.slice p 0 c) ([] : List (Tm n)) := by
  cases n with
  | zero => exact ⟨p, c, rfl, hc⟩
  | succ n => exact ⟨p, c, rfl, Nat.zero_le _, hc, fun h => absurd rfl h⟩

/-! ### deeper -/
def liftT : (n : Nat) → Tm n → Tm (n + 1)
  | 0, t => (nomatch (show Empty from t))
  | n + 1, t => Tm.mk t.f (t.items.map (liftT n))
def liftL (n : Nat) (l : List (Tm n)) : List (Tm (n + 1)) := l.map (liftT n)
theorem liftT_f {n : Nat} (t : Tm (n + 1)) : (liftT (n + 1) t).f = t.f := rfl
theorem liftT_items {n : Nat} (t : Tm (n + 1)) : (liftT (n + 1) t).items = liftL n t.items := rfl
theorem ItemsAt.lift {w : World} {B : Nat} : ∀ {n : Nat} {v : Value} {l : List (Tm n)}, ItemsAt w B n v l → ItemsAt w B (n + 1) v (liftL n l) := by
  intro n
  induction n with
  | zero =>
    intro v l h
    obtain ⟨p, c, rfl, hc⟩ := h
    have := Tm.nil0 l
    subst this
    exact ⟨p, c, rfl, Nat.zero_le _, hc, fun h => absurd rfl h⟩
  | succ n ih =>
    intro v l h
    obtain ⟨p, c, e, h1, h2, h3⟩ := h
    have hl : (liftL (n + 1) l).length = l.length := by simp [liftL]
    refine ⟨p, c, by rw [hl]; exact e, by rw [hl]; exact h1, h2, fun hn => ?_⟩
    obtain ⟨g, o, e, hg, hc⟩ := h3 (fun e => hn (by rw [e]; rfl))
    refine ⟨g, o, e, hg, fun j hj => ?_⟩
    rw [hl] at hj
    obtain ⟨u, hc1, hc2⟩ := hc j hj
    have he : (liftL (n + 1) l)[j]'(by rw [hl]; exact hj) = liftT (n + 1) l[j] := by simp [liftL]
    rw [he]
    exact ⟨u, hc1, ih hc2⟩
theorem ItemsAt.to {w : World} {B n m : Nat} {v : Value} {l : List (Tm n)} (h : ItemsAt w B n v l) (hm : n ≤ m) : ∃ l' : List (Tm m), ItemsAt w B m v l' := by
  induction m with
  | zero =>
    obtain rfl : n = 0 := by omega
    exact ⟨l, h⟩
  | succ m ih =>
    by_cases e : n = m + 1
    · subst e; exact ⟨l, h⟩
    · obtain ⟨l', h'⟩ := ih (by omega)
      exact ⟨_, h'.lift⟩
end Go.Proofs.YtnakbepcalciiaaGreat.tm

/- stagehandkit's Same and SameList. Conditions: the terms lie in memory. -/
namespace Go.Proofs.YtnakbepcalciiaaGreat.tm
open Go.RowKit mem
set_option linter.unusedVariables false
set_option linter.unusedSimpArgs false
set_option maxHeartbeats 1000000
set_option maxRecDepth 100000

noncomputable def eqB {α : Type} (a b : α) : Bool := @decide (a = b) (Classical.propDecidable _)
theorem eqB_t {α : Type} {a b : α} (h : a = b) : eqB a b = true := @decide_eq_true _ (Classical.propDecidable _) h
theorem eqB_f {α : Type} {a b : α} (h : a ≠ b) : eqB a b = false := @decide_eq_false _ (Classical.propDecidable _) h
theorem ret1 {k : IntKind} {a b : Int} (h : a = b) : Ending.returned (.int k a) = .returned (.int k b) := by rw [h]
theorem ret1b {a b : Bool} (h : a = b) : Ending.returned (.bool a) = .returned (.bool b) := by rw [h]
def BPost (b : Bool) (w : World) (e : Ending) (w' : World) : Prop := e = .returned (.bool b) ∧ Below w.heap.size w w'

theorem str_ne' {a b : ByteArray} (h : a ≠ b) : ¬ a.toList = b.toList := by
  intro e
  rw [ByteArray.toList_eq, ByteArray.toList_eq] at e
  exact h (ByteArray.ext (Array.ext' e))
theorem str_ne {a b : ByteArray} (h : a ≠ b) : (a.toList == b.toList) = false := by
  cases hh : a.toList == b.toList with
  | false => rfl
  | true => exact absurd (eq_of_beq hh) (str_ne' h)
theorem bytes_self (a : ByteArray) : (a == a) = true := (bytes_beq a a).2 rfl
theorem bytes_ne {a b : ByteArray} (h : a ≠ b) : (a == b) = false := by
  cases hh : a == b with
  | false => rfl
  | true => exact absurd ((bytes_beq a b).1 hh) h
/-- a term by value -/
def SameS (n : Nat) : Prop := ∀ (w : World) (B : Nat) (v1 v2 : Value) (a b : List (Tm n)), B ≤ w.heap.size → ItemsAt w B n v1 a → ItemsAt w B n v2 b → Calls Tryz.prog 25 #[v1, v2] w (BPost (eqB a b) w)
theorem same_one {n : Nat} (ih : SameS n) (w : World) (B : Nat) (v1 v2 : Value) (a b : Tm (n + 1)) (hB : B ≤ w.heap.size) (h1 : ItemsAt w B n v1 a.items) (h2 : ItemsAt w B n v2 b.items) :
    Calls Tryz.prog 21 #[aggV a.f v1, aggV b.f v2] w (BPost (eqB a b) w) := by
  have hno : a.f ≠ b.f → eqB a b = false := fun h => eqB_f (fun e => h (by rw [e]))
  have hin : a.f = b.f → eqB a b = eqB a.items b.items := fun h => by
    by_cases e : a.items = b.items
    · rw [eqB_t e, eqB_t (Tm.ext h e)]
    · rw [eqB_f e, eqB_f (fun e2 => e (by rw [e2]))]
  have hI := fun (W : World) (hb : Below w.heap.size w W) => ih W B v1 v2 a.items b.items (Nat.le_trans hB hb.size) (h1.below hb hB) (h2.below hb hB)
  clear ih h1 h2
  generalize a.items = l1 at *
  generalize b.items = l2 at *
  generalize eqB a b = r at *
  generalize a.f = x at *
  generalize b.f = y at *
  obtain ⟨k1, i1, g1, n1, f1, a1, b1, s1⟩ := x
  obtain ⟨k2, i2, g2, n2, f2, a2, b2, s2⟩ := y
  unfold aggV
  dsimp only
  by_cases e : k1 ≠ k2
  · have hq : (k1 == k2) = false := by simp [e]
    rw [hno (by intro h; simp only [TF.mk.injEq] at h; simp_all)]
    clear hno hin hI e
    go_enter Tryz.func21, Tryz.ntmps21
    go_wp2_with fail
    go_ret
    exact ⟨rfl, ((Below.refl _ _).alloc (Nat.le_refl _) _).alloc (by simp) _⟩
  have e := Classical.not_not.1 e
  subst e
  have qk : (k1 == k1) = true := by first | exact bytes_self _ | simp
  by_cases e : i1 ≠ i2
  · have hq : (i1 == i2) = false := by simp [e]
    rw [hno (by intro h; simp only [TF.mk.injEq] at h; simp_all)]
    clear hno hin hI e
    go_enter Tryz.func21, Tryz.ntmps21
    go_wp2_with fail
    go_ret
    exact ⟨rfl, ((Below.refl _ _).alloc (Nat.le_refl _) _).alloc (by simp) _⟩
  have e := Classical.not_not.1 e
  subst e
  have qi : (i1 == i1) = true := by first | exact bytes_self _ | simp
  by_cases e : g1 ≠ g2
  · have hq : (g1 == g2) = false := by simp [e]
    rw [hno (by intro h; simp only [TF.mk.injEq] at h; simp_all)]
    clear hno hin hI e
    go_enter Tryz.func21, Tryz.ntmps21
    go_wp2_with fail
    go_ret
    exact ⟨rfl, ((Below.refl _ _).alloc (Nat.le_refl _) _).alloc (by simp) _⟩
  have e := Classical.not_not.1 e
  subst e
  have qg : (g1 == g1) = true := by first | exact bytes_self _ | simp
  by_cases e : n1 ≠ n2
  · have hq : (n1.toList == n2.toList) = false := str_ne e
    have hq2 : ¬ n1.toList = n2.toList := str_ne' e
    rw [hno (by intro h; simp only [TF.mk.injEq] at h; simp_all)]
    clear hno hin hI e
    go_enter Tryz.func21, Tryz.ntmps21
    go_wp2_with fail
    go_ret
    exact ⟨rfl, ((Below.refl _ _).alloc (Nat.le_refl _) _).alloc (by simp) _⟩
  have e := Classical.not_not.1 e
  subst e
  have qn : (n1 == n1) = true := by first | exact bytes_self _ | simp
  by_cases e : f1 ≠ f2
  · have hq : (f1.toList == f2.toList) = false := str_ne e
    have hq2 : ¬ f1.toList = f2.toList := str_ne' e
    rw [hno (by intro h; simp only [TF.mk.injEq] at h; simp_all)]
    clear hno hin hI e
    go_enter Tryz.func21, Tryz.ntmps21
    go_wp2_with fail
    go_ret
    exact ⟨rfl, ((Below.refl _ _).alloc (Nat.le_refl _) _).alloc (by simp) _⟩
  have e := Classical.not_not.1 e
  subst e
  have qf : (f1 == f1) = true := by first | exact bytes_self _ | simp
  by_cases e : a1 ≠ a2
  · have hq : (a1 == a2) = false := by simp [e]
    rw [hno (by intro h; simp only [TF.mk.injEq] at h; simp_all)]
    clear hno hin hI e
    go_enter Tryz.func21, Tryz.ntmps21
    go_wp2_with fail
    go_ret
    exact ⟨rfl, ((Below.refl _ _).alloc (Nat.le_refl _) _).alloc (by simp) _⟩
  have e := Classical.not_not.1 e
  subst e
  have qa : (a1 == a1) = true := by first | exact bytes_self _ | simp
  by_cases e : b1 ≠ b2
  · have hq : (b1.toList == b2.toList) = false := str_ne e
    have hq2 : ¬ b1.toList = b2.toList := str_ne' e
    rw [hno (by intro h; simp only [TF.mk.injEq] at h; simp_all)]
    clear hno hin hI e
    go_enter Tryz.func21, Tryz.ntmps21
    go_wp2_with fail
    go_ret
    exact ⟨rfl, ((Below.refl _ _).alloc (Nat.le_refl _) _).alloc (by simp) _⟩
  have e := Classical.not_not.1 e
  subst e
  have qb : (b1 == b1) = true := by first | exact bytes_self _ | simp
  by_cases e : s1 ≠ s2
  · have hq : (s1 == s2) = false := by simp [e]
    rw [hno (by intro h; simp only [TF.mk.injEq] at h; simp_all)]
    clear hno hin hI e
    go_enter Tryz.func21, Tryz.ntmps21
    go_wp2_with fail
    go_ret
    exact ⟨rfl, ((Below.refl _ _).alloc (Nat.le_refl _) _).alloc (by simp) _⟩
  have e := Classical.not_not.1 e
  subst e
  have qs : (s1 == s1) = true := by first | exact bytes_self _ | simp
  rw [hin rfl]
  clear hno hin
  go_enter Tryz.func21, Tryz.ntmps21
  go_wp2_with fail
  refine (hI _ (((Below.refl _ _).alloc (Nat.le_refl _) _).alloc (by simp) _)).mono ?_
  rintro e w' ⟨rfl, hb⟩
  go_wp2_with fail
  go_ret
  exact ⟨rfl, (((Below.refl _ _).alloc (Nat.le_refl _) _).alloc (by simp) _).trans (hb.mono (by simp; omega))⟩
end Go.Proofs.YtnakbepcalciiaaGreat.tm

/- stagehandkit's SameList. Conditions: the terms lie in memory. -/
namespace Go.Proofs.YtnakbepcalciiaaGreat.tm
open Go.RowKit mem
set_option linter.unusedVariables false
set_option linter.unusedSimpArgs false
set_option maxHeartbeats 1000000
set_option maxRecDepth 100000

theorem take_step {α : Type} {a b : List α} {k : Nat} (h : a.take k = b.take k) (ha : k < a.length) (hb : k < b.length) (e : a[k] = b[k]) : a.take (k + 1) = b.take (k + 1) := by
  rw [List.take_succ_eq_append_getElem ha, List.take_succ_eq_append_getElem hb, h, e]
theorem take_ne {α : Type} {a b : List α} {k : Nat} (ha : k < a.length) (hb : k < b.length) (e : a[k] ≠ b[k]) : a ≠ b := by
  intro h; subst h; exact e rfl
theorem sameZero : SameS 0 := by
  intro w B v1 v2 a b hB h1 h2
  obtain ⟨p1, c1, rfl, hc1⟩ := h1
  obtain ⟨p2, c2, rfl, hc2⟩ := h2
  rw [Tm.nil0 a, Tm.nil0 b, eqB_t rfl]
  go_enter Tryz.func25, Tryz.ntmps25
  go_wp2_with fail
  refine wp_loop_rounds 1 ?_
  rw [rounds_succ]
  go_wp2_with fail
  go_ret
  exact ⟨rfl, Below.refl _ _⟩
theorem sameSucc {n : Nat} (ih : SameS n) : SameS (n + 1) := by
  intro w B v1 v2 a b hB h1 h2
  obtain ⟨p1, c1, e1, hc1, hm1⟩ := h1.shape
  obtain ⟨p2, c2, e2, hc2, hm2⟩ := h2.shape
  unfold maxLen at hm1 hm2
  by_cases hl : a.length = b.length
  · have hd : (((a.length : Nat) : Int) != ((b.length : Nat) : Int)) = false := by simp [hl]
    have HL := Lib.hid hl; clear hl
    have H1 := Lib.hid h1; clear h1
    have H2 := Lib.hid h2; clear h2
    subst e1; subst e2
    go_enter Tryz.func25, Tryz.ntmps25
    go_wp2_with fail
    go_loopw [5] (fun s wr => ∃ k : Nat, s = .int .i64 k ∧ k ≤ a.length ∧ Hid (a.take k = b.take k) ∧ Below w.heap.size w wr) (fun s _ => a.length - (intOf s).toNat)
    case atStart => exact ⟨0, rfl, by omega, Lib.hid rfl, Below.refl _ _⟩
    case round =>
      obtain ⟨k, rfl, hk, ht, hb⟩ := hrel
      by_cases hlt : k < a.length
      · have hkb : k < b.length := by have := HL.out; omega
        obtain ⟨g1, o1, c1', e1, _, _, hg1, hx1⟩ := (H1.out.below hb hB).at_ (by intro e; subst e; simp at hlt)
        obtain ⟨g2, o2, c2', e2, _, _, hg2, hx2⟩ := (H2.out.below hb hB).at_ (by intro e; subst e; simp at hkb)
        simp only [Value.slice.injEq] at e1 e2
        obtain ⟨rfl, _, rfl⟩ := e1
        obtain ⟨rfl, _, rfl⟩ := e2
        obtain ⟨u1, hC1, hI1⟩ := hx1 k hlt
        obtain ⟨u2, hC2, hI2⟩ := hx2 k hkb
        have hS := fun (W : World) (hW : Below w.heap.size wr W) => same_one ih W B u1 u2 a[k] b[k] (by have := hW.size; have := hb.size; omega) (hI1.below hW hB) (hI2.below hW hB)
        obtain ⟨x0, x1, x2, x3, x4, x5, x6, x7, x8⟩ := hC1
        obtain ⟨y0, y1, y2, y3, y4, y5, y6, y7, y8⟩ := hC2
        have hys : a[k] = b[k] → a.take (k + 1) = b.take (k + 1) := fun e => take_step ht.out hlt hkb e
        have hno : a[k] ≠ b[k] → eqB a b = false := fun e => eqB_f (take_ne hlt hkb e)
        have HYS := Lib.hid hys; clear hys
        have HNO := Lib.hid hno; clear hno
        clear hx1 hx2 hI1 hI2
        unfold aggV at hS
        have HS := Lib.hid hS; clear hS
        generalize a[k] = x at *
        generalize b[k] = y at *
        generalize x.f = xf at *
        generalize y.f = yf at *
        have hb' : Below w.heap.size wr wr.drew := ⟨rfl, rfl, rfl, Nat.le_refl _, fun _ _ => rfl⟩
        go_wp2_with fail
        go_still_tail 8, (by kernel_rfl)
        change wpList _ _ _ _ _ wr.drew
        have hS := HS.out wr.drew hb'
        have hb2 : Below w.heap.size w wr.drew := hb.trans hb'
        clear x0 x1 x2 x3 x4 x5 x6 x7 x8 y0 y1 y2 y3 y4 y5 y6 y7 y8
        have hz := hb2.size
        generalize wr.drew = w2 at *
        go_wp2_with fail
        refine hS.mono ?_
        rintro e w3 ⟨rfl, hb3⟩
        have hb4 : Below w.heap.size w w3 := hb2.trans (hb3.mono hz)
        by_cases e : x = y
        · rw [eqB_t e]
          have HT := Lib.hid (HYS.out e)
          clear hS
          go_wp2_with fail
          go_roundw
          case rel => exact ⟨k + 1, by go_num, by omega, HT, hb4⟩
          case measure => simp [intOf]; omega
        · rw [eqB_f e]
          have HN := Lib.hid (HNO.out e)
          clear hS
          go_wp2_with fail
          go_ret
          exact ⟨ret1b HN.out.symm, hb4⟩
      · have hfin : a = b := by
          have := ht.out
          rwa [List.take_of_length_le (by omega), List.take_of_length_le (by have := HL.out; omega)] at this
        have HF := Lib.hid (eqB_t hfin); clear hfin
        go_wp2_with fail
        go_ret
        exact ⟨ret1b HF.out.symm, hb⟩
  · have hd : (((a.length : Nat) : Int) != ((b.length : Nat) : Int)) = true := by simp; omega
    have hfin := eqB_f (fun e : a = b => hl (by rw [e]))
    have HF := Lib.hid hfin; clear hfin
    subst e1; subst e2
    go_enter Tryz.func25, Tryz.ntmps25
    go_wp2_with fail
    go_ret
    exact ⟨ret1b HF.out.symm, Below.refl _ _⟩
theorem sameList (n : Nat) : SameS n := by
  induction n with
  | zero => exact sameZero
  | succ n ih => exact sameSucc ih
theorem sameOne {n : Nat} (w : World) (B : Nat) (v1 v2 : Value) (a b : Tm (n + 1)) (hB : B ≤ w.heap.size) (h1 : ItemsAt w B n v1 a.items) (h2 : ItemsAt w B n v2 b.items) :
    Calls Tryz.prog 21 #[aggV a.f v1, aggV b.f v2] w (BPost (eqB a b) w) := same_one (sameList n) w B v1 v2 a b hB h1 h2
end Go.Proofs.YtnakbepcalciiaaGreat.tm

/- stagehandkit's left and Great. Conditions: the terms lie in memory. -/
namespace Go.Proofs.YtnakbepcalciiaaGreat.tm
open Go.RowKit mem
set_option linter.unusedVariables false
set_option linter.unusedSimpArgs false
set_option maxHeartbeats 1000000
set_option maxRecDepth 100000

def leftB (f : TF) (m : Int) : Prop := m < (f.name.size : Int) ∨ m < (f.func.size : Int) ∨ m < (f.bytes.size : Int)
def leftN (f : TF) (m : Int) : Int := m - 1 - (f.name.size : Int) / 8 - (f.func.size : Int) / 8 - (f.bytes.size : Int) / 8
instance (f : TF) (m : Int) : Decidable (leftB f m) := by unfold leftB; infer_instance
def leftStep {n : Nat} (r : List (Tm n) → Int → Int) (m : Int) (t : Tm (n + 1)) : Int := if m < 0 then m else if leftB t.f m then -1 else r t.items (leftN t.f m)
def leftS : (n : Nat) → List (Tm n) → Int → Int
  | 0, _, m => m
  | n + 1, l, m => l.foldl (leftStep (leftS n)) m
theorem leftN_bd (f : TF) (m : Int) (h0 : 0 ≤ m) (h : ¬ leftB f m) : -1 ≤ leftN f m ∧ leftN f m < m := by
  unfold leftB at h; unfold leftN; omega
theorem fold_neg {n : Nat} (r : List (Tm n) → Int → Int) (m : Int) (h : m < 0) : ∀ (l : List (Tm (n + 1))), l.foldl (leftStep r) m = m := by
  intro l
  induction l with
  | nil => rfl
  | cons t l ih => rw [List.foldl_cons]; unfold leftStep at *; rw [if_pos h]; exact ih
theorem leftS_bd : ∀ (n : Nat) (l : List (Tm n)) (m : Int), -1 ≤ m → -1 ≤ leftS n l m ∧ leftS n l m ≤ m := by
  intro n
  induction n with
  | zero => intro l m h; exact ⟨h, Int.le_refl _⟩
  | succ n ih =>
    intro l
    induction l with
    | nil => intro m h; exact ⟨h, Int.le_refl _⟩
    | cons t l ih2 =>
      intro m h
      have e : leftS (n + 1) (t :: l) m = leftS (n + 1) l (leftStep (leftS n) m t) := rfl
      rw [e]
      have hs : -1 ≤ leftStep (leftS n) m t ∧ leftStep (leftS n) m t ≤ m := by
        unfold leftStep
        split
        · exact ⟨h, Int.le_refl _⟩
        · rename_i h0
          split
          · omega
          · rename_i h1
            have := leftN_bd t.f m (by omega) h1
            have := ih t.items (leftN t.f m) this.1
            omega
      have := ih2 _ hs.1
      omega
theorem left_snoc {n : Nat} (l : List (Tm (n + 1))) (m : Int) (k : Nat) (h : k < l.length) : leftS (n + 1) (l.take (k + 1)) m = leftStep (leftS n) (leftS (n + 1) (l.take k) m) l[k] := by
  unfold leftS
  rw [List.take_succ_eq_append_getElem h, List.foldl_append]; rfl
theorem left_end {n : Nat} (l : List (Tm (n + 1))) (m : Int) (k : Nat) (h : k ≤ l.length) (hn : leftS (n + 1) (l.take k) m < 0) : leftS (n + 1) l m = leftS (n + 1) (l.take k) m := by
  have e : leftS (n + 1) l m = (l.drop k).foldl (leftStep (leftS n)) (leftS (n + 1) (l.take k) m) := by
    show l.foldl _ m = _
    conv => lhs; rw [← List.take_append_drop k l]
    rw [List.foldl_append]; rfl
  rw [e, fold_neg _ _ hn]
def LeftC (n : Nat) : Prop := ∀ (w : World) (B : Nat) (v : Value) (l : List (Tm n)) (m : Int), B ≤ w.heap.size → -1 ≤ m → m ≤ 10000 → ItemsAt w B n v l → Calls Tryz.prog 84 #[v, .int .i64 m] w fun e w' => e = .returned (.int .i64 (leftS n l m)) ∧ Below w.heap.size w w'
theorem leftZero : LeftC 0 := by
  intro w B v l m hB hm0 hm h
  obtain ⟨p, c, rfl, hc⟩ := h
  go_enter Tryz.func84, Tryz.ntmps84
  go_wp2_with fail
  refine wp_loop_rounds 1 ?_
  rw [rounds_succ]
  go_wp2_with fail
  all_goals
    go_ret
    exact ⟨rfl, Below.refl _ _⟩
theorem leftSucc {n : Nat} (ih : LeftC n) : LeftC (n + 1) := by
  intro w B v l m hB hm0 hm h
  obtain ⟨p, c, e, hc, hcm⟩ := h.shape
  subst e
  unfold maxLen at hcm
  have HI := Lib.hid h; clear h
  go_enter Tryz.func84, Tryz.ntmps84
  go_wp2_with fail
  go_loopw [1, 5] (fun s1 s wr => ∃ k : Nat, s = .int .i64 k ∧ k ≤ l.length ∧ s1 = .int .i64 (leftS (n + 1) (l.take k) m) ∧ Below w.heap.size w wr) (fun _ s _ => l.length - (intOf s).toNat)
  case atStart => exact ⟨0, rfl, by omega, rfl, Below.refl _ _⟩
  case round =>
    obtain ⟨k, rfl, hk, rfl, hb⟩ := hrel
    obtain ⟨hm1, hm2⟩ := leftS_bd (n + 1) (l.take k) m hm0
    by_cases hlt : k < l.length
    · have hs := left_snoc l m k hlt
      by_cases hneg : leftS (n + 1) (l.take k) m < 0
      · have he := left_end l m k hk hneg
        have HE := Lib.hid he; clear he
        have hq : decide (0 ≤ leftS (n + 1) (l.take k) m) = false := decide_eq_false (by omega)
        clear hs
        generalize leftS (n + 1) (l.take k) m = q at *
        go_wp2_with fail
        go_ret
        exact ⟨ret1 HE.out.symm, hb⟩
      · have hq : decide (0 ≤ leftS (n + 1) (l.take k) m) = true := decide_eq_true (by omega)
        obtain ⟨g, o, c', e, _, _, hg, hx⟩ := (HI.out.below hb hB).at_ (by intro e; subst e; simp at hlt)
        simp only [Value.slice.injEq] at e
        obtain ⟨rfl, _, rfl⟩ := e
        obtain ⟨u, hC, hI⟩ := hx k hlt
        obtain ⟨pu, cu, rfl, hcu, hcm2⟩ := hI.shape
        obtain ⟨x0, x1, x2, x3, x4, x5, x6, x7, x8⟩ := hC
        unfold leftStep at hs
        rw [if_neg hneg] at hs
        have hend : ∀ z : Int, leftS (n + 1) (l.take (k + 1)) m = z → z < 0 → leftS (n + 1) l m = z := fun z hz hz0 => by
          rw [left_end l m (k + 1) (by omega) (by rw [hz]; exact hz0), hz]
        have HEND := Lib.hid hend; clear hend
        have HS := Lib.hid hs; clear hs
        clear hx
        generalize leftS (n + 1) (l.take k) m = q at *
        generalize l[k] = t at *
        have hih := fun (W : World) (hW : Below w.heap.size w W) (hW2 : Below wr.heap.size wr W) (hq0 : ¬ leftB t.f q) => ih W B _ t.items (leftN t.f q) (Nat.le_trans hB hW.size) (leftN_bd t.f q (by omega) hq0).1 (by have := (leftN_bd t.f q (by omega) hq0).2; omega) (hI.below hW2 (Nat.le_trans hB hb.size))
        have HIH := Lib.hid hih; clear hih
        clear hI
        have hsz := hb.size
        generalize t.items = its at *
        generalize hf : t.f = f at *
        clear hf
        have hb3 : ∀ (o1 : Obj), Below w.heap.size w (wr.alloc o1) := fun o1 => hb.alloc hsz o1
        by_cases h3 : q < (f.name.size : Int)
        · have hL : leftB f q := .inl h3
          have HR := Lib.hid (HEND.out (-1) (by rw [HS.out, if_pos hL]) (by omega))
          clear HS HEND HIH
          go_wp2_with fail
          go_ret
          exact ⟨ret1 HR.out.symm, hb3 _⟩
        by_cases h4 : q < (f.func.size : Int)
        · have hL : leftB f q := .inr (.inl h4)
          have HR := Lib.hid (HEND.out (-1) (by rw [HS.out, if_pos hL]) (by omega))
          clear HS HEND HIH
          go_wp2_with fail
          go_ret
          exact ⟨ret1 HR.out.symm, hb3 _⟩
        by_cases h5 : q < (f.bytes.size : Int)
        · have hL : leftB f q := .inr (.inr h5)
          have HR := Lib.hid (HEND.out (-1) (by rw [HS.out, if_pos hL]) (by omega))
          clear HS HEND HIH
          go_wp2_with fail
          go_ret
          exact ⟨ret1 HR.out.symm, hb3 _⟩
        have hL : ¬ leftB f q := by unfold leftB; omega
        have HS2 : Hid (leftS (n + 1) (l.take (k + 1)) m = leftS n its (leftN f q)) := Lib.hid (by rw [HS.out, if_neg hL])
        have hih := fun (W : World) hW hW2 => HIH.out W hW hW2 hL
        unfold leftN at hih
        have HIH2 := Lib.hid hih; clear hih
        clear HS HEND HIH
        go_wp2_with fail
        refine (HIH2.out _ (hb3 _) ((Below.refl _ _).alloc (Nat.le_refl _) _)).mono ?_
        rintro e w3 ⟨rfl, hb4⟩
        have hb5 := (hb3 (.cells #[.int .i64 0] 30)).size
        have hb6 : Below w.heap.size w w3 := (hb3 _).trans (hb4.mono (by simp; omega))
        have HS3 : Hid (leftS (n + 1) (l.take (k + 1)) m = leftS n its (q - 1 - (f.name.size : Int) / 8 - (f.func.size : Int) / 8 - (f.bytes.size : Int) / 8)) := HS2
        go_wp2_with fail
        go_roundw
        case rel => exact ⟨k + 1, by go_num, by omega, by rw [HS3.out], hb6⟩
        case measure => simp [intOf]; omega
    · have hkk : l.take k = l := List.take_of_length_le (by omega)
      rw [hkk] at *
      clear hkk
      have hq : decide (k < l.length) = false := decide_eq_false hlt
      go_wp2_with fail
      go_ret
      exact ⟨rfl, hb⟩
theorem leftAll (n : Nat) : LeftC n := by
  induction n with
  | zero => exact leftZero
  | succ n ih => exact leftSucc ih
def greatS (n : Nat) (l : List (Tm n)) (m : Int) : Bool := decide (leftS n l m < 0)
theorem Great {n : Nat} (w : World) (B : Nat) (v : Value) (l : List (Tm n)) (m : Int) (hB : B ≤ w.heap.size) (hm0 : -1 ≤ m) (hm : m ≤ 10000) (h : ItemsAt w B n v l) : Calls Tryz.prog 26 #[v, .int .i64 m] w (BPost (greatS n l m) w) := by
  have hL := leftAll n w B v l m hB hm0 hm h
  unfold greatS
  generalize leftS n l m = q at *
  clear h
  go_enter Tryz.func26, Tryz.ntmps26
  go_wp2_with fail
  refine hL.mono ?_
  rintro e w1 ⟨rfl, hb⟩
  go_wp2_with fail
  go_ret
  exact ⟨rfl, hb⟩
end Go.Proofs.YtnakbepcalciiaaGreat.tm
