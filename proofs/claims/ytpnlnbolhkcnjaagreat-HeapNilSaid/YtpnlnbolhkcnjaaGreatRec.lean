/- Rows of records: a slice of any element type, read, owned, appended to. Conditions: as said. -/
import Derived.Test.YtpnlnbolhkcnjaaGreatMem
import Derived.Maps.AppendAt
namespace Go.Proofs.YtpnlnbolhkcnjaaGreat.rec
open Go.RowKit mem
set_option linter.unusedVariables false
set_option linter.unusedSimpArgs false
set_option linter.unusedSectionVars false
set_option maxHeartbeats 1000000
set_option maxRecDepth 100000

/-- an element type e of s cells, and a type sl of its slices -/
structure ElTy (sl e : TypeId) (s : Nat) : Prop where
  und : Tryz.prog.underlying sl = some (.slice e)
  info : ∃ i z, Tryz.prog.info? e = some i ∧ i.zero = some z ∧ i.size = s ∧ z.cells.size = s ∧ i.bytes ≤ 10000
  pos : 0 < s
section
variable {α : Type} {enc : α → List Value} {s : Nat}
def EncOK (enc : α → List Value) (s : Nat) (l : List α) : Prop := ∀ a ∈ l, (enc a).length = s ∧ ∀ u ∈ enc a, u.oneCell' = true
theorem EncOK.nil : EncOK enc s [] := fun a h => by simp at h
theorem EncOK.append {l m : List α} (h : EncOK enc s l) (k : EncOK enc s m) : EncOK enc s (l ++ m) := fun a ha => by
  rcases List.mem_append.1 ha with ha | ha
  · exact h a ha
  · exact k a ha
theorem EncOK.sub {l m : List α} (h : EncOK enc s l) (hm : ∀ a ∈ m, a ∈ l) : EncOK enc s m := fun a ha => h a (hm a ha)
theorem flat_len : ∀ {l : List α}, EncOK enc s l → (l.flatMap enc).length = l.length * s := by
  intro l
  induction l with
  | nil => intro _; simp
  | cons a l ih =>
    intro h
    rw [List.flatMap_cons, List.length_append, (h a List.mem_cons_self).1, ih (fun b hb => h b (List.mem_cons_of_mem _ hb)), List.length_cons, Nat.succ_mul, Nat.add_comm]
theorem flat_get : ∀ {l : List α}, EncOK enc s l → ∀ {j : Nat} {a : α}, l[j]? = some a → ∀ {k : Nat}, k < s → (l.flatMap enc)[j * s + k]? = (enc a)[k]? := by
  intro l
  induction l with
  | nil => intro _ j a h; simp at h
  | cons b l ih =>
    intro h j a hj k hk
    have hb := (h b List.mem_cons_self).1
    rw [List.flatMap_cons]
    cases j with
    | zero =>
      obtain rfl : b = a := by simpa using hj
      rw [Nat.zero_mul, Nat.zero_add, List.getElem?_append_left (by omega)]
    | succ j =>
      rw [List.getElem?_cons_succ] at hj
      rw [List.getElem?_append_right (by rw [Nat.succ_mul]; omega), hb, ← ih (fun c hc => h c (List.mem_cons_of_mem _ hc)) hj hk]
      congr 1
      rw [Nat.succ_mul]
      omega
theorem flat_inv {l : List α} (hs : 0 < s) {i : Nat} (hi : i < l.length * s) : ∃ j k a, i = j * s + k ∧ k < s ∧ l[j]? = some a := by
  have hj : i / s < l.length := (Nat.div_lt_iff_lt_mul hs).2 hi
  refine ⟨i / s, i % s, l[i / s], ?_, Nat.mod_lt _ hs, List.getElem?_eq_getElem hj⟩
  rw [Nat.mul_comm]
  exact (Nat.div_add_mod i s).symm
/-- a slice of records in a block below B -/
def RecAt (enc : α → List Value) (s : Nat) (w : World) (B : Nat) (v : Value) (l : List α) : Prop :=
  ∃ p c, v = .slice p l.length c ∧ l.length ≤ c ∧ c ≤ maxLen ∧ (l ≠ [] → ∃ g o, p = some ⟨g, o, none⟩ ∧ g < B ∧ ∀ j a, l[j]? = some a → ∀ k u, (enc a)[k]? = some u → w.cell? ⟨g, o + (j * s + k), none⟩ = some u)
/-- a slice of records that the call owns -/
def RecOwn (enc : α → List Value) (e : TypeId) (s : Nat) (w : World) (base : Nat) (v : Value) (l : List α) : Prop := w.ownsRow base e s v l.length (l.flatMap enc)
theorem RecAt.shape {w : World} {B : Nat} {v : Value} {l : List α} (h : RecAt enc s w B v l) : ∃ p c, v = .slice p l.length c ∧ l.length ≤ c ∧ c ≤ maxLen := by
  obtain ⟨p, c, e, h1, h2, _⟩ := h
  exact ⟨p, c, e, h1, h2⟩
theorem RecAt.same {w w' : World} {B : Nat} {v : Value} {l : List α} (h : RecAt enc s w B v l) (hs : ∀ g, g < B → w'.heap[g]? = w.heap[g]?) : RecAt enc s w' B v l := by
  obtain ⟨p, c, e, h1, h2, h3⟩ := h
  refine ⟨p, c, e, h1, h2, fun hn => ?_⟩
  obtain ⟨g, o, e, hg, hc⟩ := h3 hn
  exact ⟨g, o, e, hg, fun j a hj k u hu => (World.cell?_of_block (w := w) (w' := w') (a := ⟨g, o + (j * s + k), none⟩) (hs g hg)).trans (hc j a hj k u hu)⟩
/-- the same where the slice's own block has not changed -/
theorem RecAt.block {w w' : World} {B : Nat} {v : Value} {l : List α} (h : RecAt enc s w B v l) (hs : ∀ g, v.ownBlock = some g → w'.heap[g]? = w.heap[g]?) : RecAt enc s w' B v l := by
  obtain ⟨p, c, e, h1, h2, h3⟩ := h
  refine ⟨p, c, e, h1, h2, fun hn => ?_⟩
  obtain ⟨g, o, e', hg, hc⟩ := h3 hn
  exact ⟨g, o, e', hg, fun j a hj k u hu => (World.cell?_of_block (w := w) (w' := w') (a := ⟨g, o + (j * s + k), none⟩) (hs g (by rw [e, e']; rfl))).trans (hc j a hj k u hu)⟩
theorem RecAt.below {w w' : World} {B B' : Nat} {v : Value} {l : List α} (h : RecAt enc s w B v l) (hb : Below B' w w') (hB : B ≤ B') : RecAt enc s w' B v l := h.same fun g hg => hb.block g (by omega)
theorem RecAt.more {w : World} {B B' : Nat} {v : Value} {l : List α} (h : RecAt enc s w B v l) (hB : B ≤ B') : RecAt enc s w B' v l := by
  obtain ⟨p, c, e, h1, h2, h3⟩ := h
  refine ⟨p, c, e, h1, h2, fun hn => ?_⟩
  obtain ⟨g, o, e, hg, hc⟩ := h3 hn
  exact ⟨g, o, e, by omega, hc⟩
theorem RecAt.drewN {w : World} {B : Nat} {v : Value} {l : List α} (h : RecAt enc s w B v l) (m : Nat) : RecAt enc s (w.drewN m) B v l := h.same (fun _ _ => rfl)
theorem RecAt.nil (w : World) (B : Nat) (p : Option Addr) (c : Nat) (hc : c ≤ maxLen) : RecAt enc s w B (.slice p 0 c) ([] : List α) := ⟨p, c, rfl, Nat.zero_le _, hc, fun h => absurd rfl h⟩
/-- where the rows lie -/
theorem RecAt.nth {w : World} {B : Nat} {p : Option Addr} {n c : Nat} {l : List α} (h : RecAt enc s w B (.slice p n c) l) (h0 : 0 < l.length) : ∃ g o, p = some ⟨g, o, none⟩ ∧ n = l.length ∧ g < B ∧ ∀ j a, l[j]? = some a → ∀ k u, (enc a)[k]? = some u → w.cell? ⟨g, o + (j * s + k), none⟩ = some u := by
  obtain ⟨p', c', e, h1, h2, h3⟩ := h
  simp only [Value.slice.injEq] at e
  obtain ⟨rfl, rfl, rfl⟩ := e
  obtain ⟨g, o, e, hg, hc⟩ := h3 (List.length_pos_iff.1 h0)
  exact ⟨g, o, e, rfl, hg, hc⟩
theorem RecAt.take {w : World} {B : Nat} {p : Option Addr} {n c : Nat} {l : List α} (h : RecAt enc s w B (.slice p n c) l) {k : Nat} (hk : k ≤ l.length) : RecAt enc s w B (.slice p k c) (l.take k) := by
  obtain ⟨p', c', e, h1, h2, h3⟩ := h
  simp only [Value.slice.injEq] at e
  obtain ⟨rfl, rfl, rfl⟩ := e
  have hl : (l.take k).length = k := by rw [List.length_take]; omega
  refine ⟨p, c, by rw [hl], by rw [hl]; omega, h2, fun hn => ?_⟩
  have h0 : 0 < (l.take k).length := List.length_pos_iff.2 hn
  obtain ⟨g, o, e', hg, hc⟩ := h3 (by intro e; subst e; simp at h0)
  refine ⟨g, o, e', hg, fun j a hj => hc j a ?_⟩
  have hjk := (List.getElem?_eq_some_iff.1 hj).1
  rw [← hj, List.getElem?_take, if_pos (by omega)]
theorem RecAt.drop {w : World} {B g o n c : Nat} {l : List α} (h : RecAt enc s w B (.slice (some ⟨g, o, none⟩) n c) l) {k : Nat} (hk : k ≤ l.length) : RecAt enc s w B (.slice (some ⟨g, o + k * s, none⟩) (n - k) (c - k)) (l.drop k) := by
  obtain ⟨p', c', e, h1, h2, h3⟩ := h
  simp only [Value.slice.injEq] at e
  obtain ⟨rfl, rfl, rfl⟩ := e
  have hl : (l.drop k).length = l.length - k := List.length_drop
  refine ⟨_, c - k, by rw [hl], by rw [hl]; omega, by omega, fun hn => ?_⟩
  have h0 : 0 < (l.drop k).length := List.length_pos_iff.2 hn
  obtain ⟨g', o', e', hg, hc⟩ := h3 (by intro e; subst e; simp at h0)
  simp only [Option.some.injEq, Addr.mk.injEq, and_true] at e'
  obtain ⟨rfl, rfl⟩ := e'
  refine ⟨g, o + k * s, rfl, hg, fun j a hj q u hu => ?_⟩
  rw [List.getElem?_drop] at hj
  have := hc (k + j) a hj q u hu
  rw [Nat.add_mul] at this
  rw [← this]
  congr 2
  omega
/-- a new block that holds the records -/
theorem RecAt.fresh {w : World} {g : Nat} {e : TypeId} {l : List α} {fz : Nat × Nat} (hE : EncOK enc s l) (hs : 0 < s) (h : w.heap[g]? = some (.cells (l.flatMap enc).toArray e fz)) {c : Nat} (hc : l.length ≤ c) (hm : c ≤ maxLen) : RecAt enc s w (g + 1) (.slice (some ⟨g, 0, none⟩) l.length c) l := by
  refine ⟨_, c, rfl, hc, hm, fun _ => ⟨g, 0, rfl, by omega, fun j a hj k u hu => ?_⟩⟩
  have hk : k < s := by
    have := (List.getElem?_eq_some_iff.1 hu).1
    rwa [(hE a (List.mem_of_getElem? hj)).1] at this
  have hg := flat_get hE hj hk
  rw [hu] at hg
  rw [Nat.zero_add]
  unfold World.cell?
  simp [h, hg]
theorem RecOwn.shape {e : TypeId} {w : World} {base : Nat} {v : Value} {l : List α} (h : RecOwn enc e s w base v l) : ∃ p c, v = .slice p l.length c ∧ l.length ≤ c ∧ c ≤ maxLen := by
  rcases h.2 with ⟨h1, h2⟩ | ⟨g, cap, cur, h1, _, _, h2, h3, _⟩
  · exact ⟨none, 0, by rw [h1, h2], by omega, Nat.zero_le _⟩
  · exact ⟨_, cap, h1, h2, h3⟩
theorem RecOwn.lt {e : TypeId} {w : World} {base : Nat} {v : Value} {l : List α} (h : RecOwn enc e s w base v l) {k : Nat} (hk : v.ownBlock = some k) : base ≤ k ∧ k < w.heap.size := by
  rcases h.2 with ⟨h1, _⟩ | ⟨g, cap, cur, h1, hb, hh, _⟩
  · subst h1; simp [Value.ownBlock] at hk
  · subst h1
    obtain rfl : g = k := by simpa [Value.ownBlock] using hk
    exact ⟨hb, (Array.getElem?_eq_some_iff.1 hh).1⟩
theorem RecOwn.nil (e : TypeId) (w : World) (base : Nat) : RecOwn enc e s w base (.slice none 0 0) ([] : List α) := ⟨by simp, .inl ⟨rfl, rfl⟩⟩
theorem RecOwn.same {e : TypeId} {w w' : World} {base : Nat} {v : Value} {l : List α} (h : RecOwn enc e s w base v l) (hk : ∀ k, v.ownBlock = some k → w'.heap[k]? = w.heap[k]?) : RecOwn enc e s w' base v l := row_same h hk
theorem RecOwn.base {e : TypeId} {w : World} {base base' : Nat} {v : Value} {l : List α} (h : RecOwn enc e s w base v l) (hb : ∀ k, v.ownBlock = some k → base' ≤ k) : RecOwn enc e s w base' v l := row_base h hb
theorem RecOwn.below {e : TypeId} {w w' : World} {base : Nat} {v : Value} {l : List α} (h : RecOwn enc e s w base v l) (hb : Below w.heap.size w w') : RecOwn enc e s w' base v l := h.same fun k hk => hb.block k (h.lt hk).2
theorem RecOwn.row {e : TypeId} {w : World} {base : Nat} {v : Value} {l : List α} (hE : EncOK enc s l) (h : RecOwn enc e s w base v l) : RecAt enc s w w.heap.size v l := by
  obtain ⟨h0, h1 | ⟨g, cap, cur, rfl, hb, hh, h2, h3, h4, h5⟩⟩ := id h
  · obtain ⟨rfl, h2⟩ := h1
    obtain rfl := List.eq_nil_of_length_eq_zero h2
    exact RecAt.nil _ _ _ _ (Nat.zero_le _)
  · refine ⟨_, cap, rfl, h2, h3, fun hn => ⟨g, 0, rfl, (Array.getElem?_eq_some_iff.1 hh).1, fun j a hj k u hu => ?_⟩⟩
    have hk : k < s := by
      have := (List.getElem?_eq_some_iff.1 hu).1
      rwa [(hE a (List.mem_of_getElem? hj)).1] at this
    have hg := flat_get hE hj hk
    rw [hu] at hg
    have hlt : j * s + k < l.length * s := by
      have := (List.getElem?_eq_some_iff.1 hg).1
      rw [flat_len hE] at this
      exact this
    rw [Nat.zero_add, World.ownsRow.cellAt h _ hlt, hg]
/-- what an append to a row of the call's own leaves -/
structure AppR (enc : α → List Value) (e : TypeId) (s : Nat) (w : World) (base : Nat) (v : Value) (l xs : List α) (v' : Value) (w' : World) : Prop where
  own : RecOwn enc e s w' base v' (l ++ xs)
  grown : w.grownBy w' v.ownBlock
  at_ : v'.ownBlock = v.ownBlock ∨ v'.ownBlock = some w.heap.size
theorem AppR.other {e : TypeId} {w w' : World} {base : Nat} {v v' : Value} {l xs : List α} (h : AppR enc e s w base v l xs v' w') {k : Nat} (hk : k < w.heap.size) (hn : v.ownBlock ≠ some k) : w'.heap[k]? = w.heap[k]? := h.grown.block k hk (fun e => hn e.symm)
theorem AppR.place {e : TypeId} {w w' : World} {base : Nat} {v v' : Value} {l xs : List α} (h : AppR enc e s w base v l xs v' w') {k : Nat} (hk : k < w.heap.size) (hn : v.ownBlock ≠ some k) : v'.ownBlock ≠ some k := by
  intro e
  rcases h.at_ with h1 | h1
  · exact hn (h1 ▸ e)
  · rw [h1] at e
    have := Option.some.inj e
    omega
theorem AppR.touch {e : TypeId} {w0 w w' : World} {base : Nat} {v v' : Value} {l xs : List α} {S : Nat → Prop} (h : AppR enc e s w base v l xs v' w') (ht : TouchB S w0 w) (hs : ∀ k, v.ownBlock = some k → k < w0.heap.size → S k) : TouchB S w0 w' := ht.grown h.grown hs
theorem AppR.belowB {e : TypeId} {w0 w w' : World} {base B : Nat} {v v' : Value} {l xs : List α} (h : AppR enc e s w base v l xs v' w') (hb : Below B w0 w) (hB : B ≤ w.heap.size) (hs : ∀ k, v.ownBlock = some k → B ≤ k) : Below B w0 w' := hb.grown h.grown hB hs
theorem run_append_none_rec {sl e : TypeId} (T : ElTy sl e s) (w : World) (v : Value) (p : Option Addr) (n c c' : Nat) (hv : v = .slice p n c) (hc : n ≤ c) (ty : TypeId) :
    (Builtin.append_ #[sl, sl] ty #[v, .slice none 0 c']).run Tryz.prog w = .ok v w := by
  subst hv
  obtain ⟨hund, ⟨i, z, hi, hz, hs, hzs, hby⟩, hpos⟩ := T
  unfold Builtin.append_
  have hsz : (Go.sizeOf e).run Tryz.prog w = .ok s w := by rw [← hs]; simp [Go.sizeOf, typeInfo, Sem.run, hi, Result.andThen]
  simp [go_sem, run_underlying hund, hund, hi, hz, hs, hby, hc, hsz, Result.andThen]
  cases p <;> rfl
theorem run_append_rec {sl e : TypeId} (T : ElTy sl e s) {w : World} {base : Nat} {v : Value} {l : List α} (h : RecOwn enc e s w base v l) (hb : base ≤ w.heap.size) (ty : TypeId) {B : Nat} {vx : Value} {xs : List α} (hx : RecAt enc s w B vx xs) (hE : EncOK enc s xs) (hn : l.length + xs.length ≤ 1000000000) :
    ∃ v' w', (Builtin.append_ #[sl, sl] ty #[v, vx]).run Tryz.prog w = .ok v' w' ∧ AppR enc e s w base v l xs v' w' := by
  obtain ⟨p, c, rfl, h1, h2, h3⟩ := hx
  cases hxs : xs with
  | nil =>
    subst hxs
    cases p with
    | none =>
      obtain ⟨pv, cv, ev, hc, _⟩ := h.shape
      exact ⟨v, w, run_append_none_rec T w v pv l.length cv _ ev hc ty, by rw [List.append_nil]; exact h, ⟨rfl, rfl, rfl, Nat.le_refl _, fun _ _ _ => rfl⟩, .inl rfl⟩
    | some ad =>
      obtain ⟨hund, ⟨i, z, hi, hz, hs, hzs, hby⟩, hpos⟩ := T
      obtain ⟨v', w', hr, hown, hg, _, hat⟩ := run_append_own_at (P := Tryz.prog) w base sl ty e i z s i.bytes hund hi hz hs rfl hzs hpos v l.length (l.flatMap enc) h ad 0 c [] (by simp) (fun j u hu => by simp at hu) (fun u hu => by simp at hu) (by unfold maxLen; simp at hn; omega) (by
        simp at hn
        refine Nat.le_trans (Nat.mul_le_mul hn hby) (by decide)) hb
      refine ⟨v', w', hr, ?_, hg, hat⟩
      unfold RecOwn
      rw [List.append_nil]
      simpa using hown
  | cons x0 xs0 =>
    subst hxs
    obtain ⟨g, o, rfl, hg, hc⟩ := h3 (by simp)
    obtain ⟨hund, ⟨i, z, hi, hz, hs, hzs, hby⟩, hpos⟩ := T
    have hfl := flat_len hE
    obtain ⟨v', w', hr, hown, hg, _, hat⟩ := run_append_own_at (P := Tryz.prog) w base sl ty e i z s i.bytes hund hi hz hs rfl hzs hpos v l.length (l.flatMap enc) h ⟨g, o, none⟩ (x0 :: xs0).length c ((x0 :: xs0).flatMap enc) hfl (fun j u hu => by
        have hj := (List.getElem?_eq_some_iff.1 hu).1
        rw [hfl] at hj
        obtain ⟨q, k, a, rfl, hk, hq⟩ := flat_inv hpos hj
        rw [flat_get hE hq hk] at hu
        have := hc q a hq k u hu
        rw [Addr.add_lit]
        exact this) (fun u hu => by
        obtain ⟨a, ha, hu⟩ := List.mem_flatMap.1 hu
        exact (hE a ha).2 u hu) (by unfold maxLen; omega) (by refine Nat.le_trans (Nat.mul_le_mul hn hby) (by decide)) hb
    refine ⟨v', w', hr, ?_, hg, hat⟩
    unfold RecOwn
    rw [List.length_append, List.flatMap_append]
    exact hown
/-- at the operation, for the walk -/
theorem wpList_append_rec {sl e : TypeId} (T : ElTy sl e s) {w : World} {ops : Array Oper} {rest : List Oper} {o : Oper} {a : Act} {Q : Exit → Act → World → Prop} (hgd : o.guard = none) (x y : Operand)
    (ho : o.op = .call { callee := .builtin .append, args := #[x, y], argTypes := #[sl, sl] }) {base : Nat} {v : Value} {l : List α} (hs : a.eval x = v) (hown : RecOwn enc e s w base v l) (hb : base ≤ w.heap.size)
    {B : Nat} {vx : Value} {xs : List α} (hx : a.eval y = vx) (hrow : RecAt enc s w B vx xs) (hE : EncOK enc s xs) (hn : l.length + xs.length ≤ 1000000000)
    (h : ∀ v' w', AppR enc e s w base v l xs v' w' → wpList Tryz.prog ops Q rest (a.put o.dst v') w') : wpList Tryz.prog ops Q (o :: rest) a w := by
  refine wpList_plain hgd fun K hK => ?_
  obtain ⟨v', w', hr, h2⟩ := run_append_rec T hown hb o.type hrow hE hn
  unfold Oper.wp execOp
  simp only [ho, resolve, invoke, builtin, Sem.run_bind, Sem.run_pure, Result.andThen_ok, List.map_toArray, List.map_cons, List.map_nil, hs, hx, hr]
  exact hK _ _ (h v' w' h2)
end
end Go.Proofs.YtpnlnbolhkcnjaaGreat.rec
