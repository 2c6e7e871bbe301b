/- Several texts in one, one behind the other: TnZ, LkMd, LkMi. No condition beyond theirs. -/
import Derived.Test.YtnakbepcalciiaaGreatHf
import Derived.Test.YtnakbepcalciiaaGreatHg
import Derived.Test.YtnakbepcalciiaaGreatHa
import Derived.Test.YtnakbepcalciiaaGreatGt
import Derived.Test.YtnakbepcalciiaaGreatGv
import Derived.Test.YtnakbepcalciiaaGreatGa
import Derived.Maps.AppendAt
import Derived.Deep.MidRow

/- What the laws of the chapter share: the bound of Great, two terms in a row, what was lent. Conditions: as said. -/
namespace Go.Proofs.YtnakbepcalciiaaGreat.tm
open Go.RowKit mem names
set_option linter.unusedVariables false
set_option linter.unusedSimpArgs false
set_option maxHeartbeats 1000000
set_option maxRecDepth 100000

theorem left_nodes : ∀ (n : Nat) (l : List (Tm n)) (m : Int), 0 ≤ leftS n l m → (nodesL n l : Int) ≤ m - leftS n l m := by
  intro n
  induction n with
  | zero => intro l m h; rw [Tm.nil0 l] at *; simp [nodesL, leftS]
  | succ n ih =>
    intro l
    induction l with
    | nil => intro m h; simp [nodesL, leftS]
    | cons t l ihl =>
      intro m h
      rw [nodesL_cons]
      have e : leftS (n + 1) (t :: l) m = leftS (n + 1) l (leftStep (leftS n) m t) := rfl
      rw [e] at h ⊢
      by_cases h0 : leftStep (leftS n) m t < 0
      · have := fold_neg (leftS n) _ h0 l
        have e2 : leftS (n + 1) l (leftStep (leftS n) m t) = leftStep (leftS n) m t := this
        rw [e2] at h; omega
      · have k1 := ihl _ h
        have k2 : (nodesT t : Int) ≤ m - leftStep (leftS n) m t := by
          unfold leftStep at h0 ⊢
          by_cases hm : m < 0
          · rw [if_pos hm] at h0; omega
          · rw [if_neg hm] at h0 ⊢
            by_cases hb : leftB t.f m
            · rw [if_pos hb] at h0; omega
            · rw [if_neg hb] at h0 ⊢
              have k3 := ih t.items (leftN t.f m) (by omega)
              have k4 := leftN_bd t.f m (by omega) hb
              unfold nodesT
              omega
        omega
theorem great_nodes {n : Nat} {l : List (Tm n)} {m : Int} (h : greatS n l m = false) : (nodesL n l : Int) ≤ m := by
  unfold greatS at h
  have h' := of_decide_eq_false h
  have := left_nodes n l m (by omega)
  omega
/-- two terms in a new block -/
theorem two_itemsG {n : Nat} (w w0 : World) (t1 t2 : Tm (n + 1)) (u1 u2 : Value) (B : Nat) (hB : B ≤ w.heap.size) (h1 : ItemsAt w B n u1 t1.items) (h2 : ItemsAt w B n u2 t2.items) : ItemsAt (w.alloc (.cells #[.int .i64 t1.f.kind, .int .i64 t1.f.int, .int .i64 t1.f.gen, .string t1.f.name, .string t1.f.func, .int .i64 t1.f.arity, u1, .string t1.f.bytes, .int .i64 t1.f.bits, .int .i64 t2.f.kind, .int .i64 t2.f.int, .int .i64 t2.f.gen, .string t2.f.name, .string t2.f.func, .int .i64 t2.f.arity, u2, .string t2.f.bytes, .int .i64 t2.f.bits] 30)) (w.heap.size + 1) (n + 1) (.slice (some ⟨w.heap.size, 0, none⟩) 2 2) [t1, t2] := by
  have hA := (MapKept.heap_alloc w (.cells #[.int .i64 t1.f.kind, .int .i64 t1.f.int, .int .i64 t1.f.gen, .string t1.f.name, .string t1.f.func, .int .i64 t1.f.arity, u1, .string t1.f.bytes, .int .i64 t1.f.bits, .int .i64 t2.f.kind, .int .i64 t2.f.int, .int .i64 t2.f.gen, .string t2.f.name, .string t2.f.func, .int .i64 t2.f.arity, u2, .string t2.f.bytes, .int .i64 t2.f.bits] 30)).1
  have hb : Below w.heap.size w (w.alloc (.cells #[.int .i64 t1.f.kind, .int .i64 t1.f.int, .int .i64 t1.f.gen, .string t1.f.name, .string t1.f.func, .int .i64 t1.f.arity, u1, .string t1.f.bytes, .int .i64 t1.f.bits, .int .i64 t2.f.kind, .int .i64 t2.f.int, .int .i64 t2.f.gen, .string t2.f.name, .string t2.f.func, .int .i64 t2.f.arity, u2, .string t2.f.bytes, .int .i64 t2.f.bits] 30)) := (Below.refl _ _).alloc (Nat.le_refl _) _
  refine ⟨_, _, rfl, Nat.le_refl _, by unfold maxLen; simp, fun _ => ⟨_, 0, rfl, by omega, fun j hj => ?_⟩⟩
  rcases (show j = 0 ∨ j = 1 by simp at hj; omega) with rfl | rfl
  · refine ⟨u1, Cells.of fun i hi => ?_, ((h1.below hb hB).more (by omega))⟩
    rw [cell_of_row _ _ _ _ _ _ hA]
    show _ = (nineL t1.f u1)[i]?
    rcases (show i = 0 ∨ i = 1 ∨ i = 2 ∨ i = 3 ∨ i = 4 ∨ i = 5 ∨ i = 6 ∨ i = 7 ∨ i = 8 by omega) with rfl | rfl | rfl | rfl | rfl | rfl | rfl | rfl | rfl <;> rfl
  · refine ⟨u2, Cells.of fun i hi => ?_, ((h2.below hb hB).more (by omega))⟩
    rw [cell_of_row _ _ _ _ _ _ hA]
    show _ = (nineL t2.f u2)[i]?
    rcases (show i = 0 ∨ i = 1 ∨ i = 2 ∨ i = 3 ∨ i = 4 ∨ i = 5 ∨ i = 6 ∨ i = 7 ∨ i = 8 by omega) with rfl | rfl | rfl | rfl | rfl | rfl | rfl | rfl | rfl <;> rfl
/-- a lent term as it lies -/
def LentW (W : World) (B n : Nat) (v0 v : Value) (l : List (Tm n)) : Prop := ∃ F : Nat → Prop, (∀ g, F g → g < W.heap.size) ∧ LentIn W B F n v0 v l ∧ B ≤ W.heap.size
theorem LentW.below {W W' : World} {B n : Nat} {v0 v : Value} {l : List (Tm n)} (h : LentW W B n v0 v l) (hb : Below W.heap.size W W') : LentW W' B n v0 v l := by
  obtain ⟨F, h1, h2, h3⟩ := h
  exact ⟨F, fun g hg => Nat.lt_of_lt_of_le (h1 g hg) hb.size, h2.mono (fun g hg => hb.block g (h1 g hg)) (fun g hg => hb.block g (by omega)) (fun _ h => h), Nat.le_trans h3 hb.size⟩
theorem LentW.of {w w' : World} {B : Nat} {F : Nat → Prop} {n : Nat} {v0 v : Value} {l : List (Tm n)} (h : LentNew w w' B F n v0 v l) (hB : B ≤ w.heap.size) : LentW w' B n v0 v l :=
  ⟨F, fun g hg => (h.inr g hg).2, h.items, Nat.le_trans hB h.below.size⟩
theorem LentW.items {W : World} {B n : Nat} {v0 v : Value} {l : List (Tm n)} (h : LentW W B n v0 v l) : ItemsAt W W.heap.size n v l := by
  obtain ⟨F, h1, h2, h3⟩ := h
  exact h2.toIn.toAt h1
def LTW {n : Nat} (B : Nat) (f : TF) (v0 : Value) (l : List (Tm n)) (w : World) (e : Ending) (w' : World) : Prop := ∃ p' c', e = .returned (aggV f (.slice p' l.length c')) ∧ LentW w' B n v0 (.slice p' l.length c') l ∧ Below w.heap.size w w'
end Go.Proofs.YtnakbepcalciiaaGreat.tm
/- append of records: the bound is in bytes. Conditions: as said. -/
namespace Go.Proofs.YtnakbepcalciiaaGreat.rec
open Go.RowKit mem
set_option linter.unusedVariables false
set_option linter.unusedSimpArgs false
set_option linter.unusedSectionVars false
set_option maxHeartbeats 1000000
set_option maxRecDepth 100000

/-- an element type e of s cells, and a type sl of its slices -/
structure ElTyB (sl e : TypeId) (s by_ : Nat) : Prop where
  und : Tryz.prog.underlying sl = some (.slice e)
  info : ∃ i z, Tryz.prog.info? e = some i ∧ i.zero = some z ∧ i.size = s ∧ z.cells.size = s ∧ i.bytes = by_
  pos : 0 < s
theorem ElTyB.el {sl e : TypeId} {s by_ : Nat} (h : ElTyB sl e s by_) (hb : by_ ≤ 10000 := by decide) : ElTy sl e s := ⟨h.und, by obtain ⟨i, z, h1, h2, h3, h4, h5⟩ := h.info; exact ⟨i, z, h1, h2, h3, h4, by omega⟩, h.pos⟩
section
variable {α : Type} {enc : α → List Value} {s : Nat}
theorem run_append_recB {sl e by_ : TypeId} (T : ElTyB sl e s by_) {w : World} {base : Nat} {v : Value} {l : List α} (h : RecOwn enc e s w base v l) (hb : base ≤ w.heap.size) (ty : TypeId) {B : Nat} {vx : Value} {xs : List α} (hx : RecAt enc s w B vx xs) (hE : EncOK enc s xs) (hn : (l.length + xs.length) * by_ ≤ 140737488355328) (hb0 : 0 < by_) (hb1 : by_ ≤ 10000) :
    ∃ v' w', (Builtin.append_ #[sl, sl] ty #[v, vx]).run Tryz.prog w = .ok v' w' ∧ AppR enc e s w base v l xs v' w' := by
  obtain ⟨p, c, rfl, h1, h2, h3⟩ := hx
  cases hxs : xs with
  | nil =>
    subst hxs
    cases p with
    | none =>
      obtain ⟨pv, cv, ev, hc, _⟩ := h.shape
      exact ⟨v, w, run_append_none_rec (T.el hb1) w v pv l.length cv _ ev hc ty, by rw [List.append_nil]; exact h, ⟨rfl, rfl, rfl, Nat.le_refl _, fun _ _ _ => rfl⟩, .inl rfl⟩
    | some ad =>
      obtain ⟨hund, ⟨i, z, hi, hz, hs, hzs, rfl⟩, hpos⟩ := T
      obtain ⟨v', w', hr, hown, hg, _, hat⟩ := run_append_own_at (P := Tryz.prog) w base sl ty e i z s i.bytes hund hi hz hs rfl hzs hpos v l.length (l.flatMap enc) h ad 0 c [] (by simp) (fun j u hu => by simp at hu) (fun u hu => by simp at hu) (by have := Nat.le_mul_of_pos_right (l.length + 0) hb0; simp at hn this; unfold maxLen; simp; omega) (by simpa using hn) hb
      refine ⟨v', w', hr, ?_, hg, hat⟩
      unfold RecOwn
      rw [List.append_nil]
      simpa using hown
  | cons x0 xs0 =>
    subst hxs
    obtain ⟨g, o, rfl, hg, hc⟩ := h3 (by simp)
    obtain ⟨hund, ⟨i, z, hi, hz, hs, hzs, rfl⟩, hpos⟩ := T
    have hfl := flat_len hE
    obtain ⟨v', w', hr, hown, hg, _, hat⟩ := run_append_own_at (P := Tryz.prog) w base sl ty e i z s i.bytes hund hi hz hs rfl hzs hpos v l.length (l.flatMap enc) h ⟨g, o, none⟩ (x0 :: xs0).length c ((x0 :: xs0).flatMap enc) hfl (fun j u hu => by
        have hj := (List.getElem?_eq_some_iff.1 hu).1
        rw [hfl] at hj
        obtain ⟨q, k, a, rfl, hk, hq⟩ := flat_inv hpos hj
        rw [flat_get hE hq hk] at hu
        have := hc q a hq k u hu
        rw [Addr.add_lit]
        exact this) (fun u hu => by
        obtain ⟨a, ha, hu⟩ := List.mem_flatMap.1 hu
        exact (hE a ha).2 u hu) (by have := Nat.le_mul_of_pos_right (l.length + (x0 :: xs0).length) hb0; unfold maxLen; omega) hn hb
    refine ⟨v', w', hr, ?_, hg, hat⟩
    unfold RecOwn
    rw [List.length_append, List.flatMap_append]
    exact hown
theorem wpList_append_recB {sl e by_ : TypeId} (T : ElTyB sl e s by_) {w : World} {ops : Array Oper} {rest : List Oper} {o : Oper} {a : Act} {Q : Exit → Act → World → Prop} (hgd : o.guard = none) (x y : Operand)
    (ho : o.op = .call { callee := .builtin .append, args := #[x, y], argTypes := #[sl, sl] }) {base : Nat} {v : Value} {l : List α} (hs : a.eval x = v) (hown : RecOwn enc e s w base v l) (hb : base ≤ w.heap.size)
    {B : Nat} {vx : Value} {xs : List α} (hx : a.eval y = vx) (hrow : RecAt enc s w B vx xs) (hE : EncOK enc s xs) (hn : (l.length + xs.length) * by_ ≤ 140737488355328) (hb0 : 0 < by_) (hb1 : by_ ≤ 10000)
    (h : ∀ v' w', AppR enc e s w base v l xs v' w' → wpList Tryz.prog ops Q rest (a.put o.dst v') w') : wpList Tryz.prog ops Q (o :: rest) a w := by
  refine wpList_plain hgd fun K hK => ?_
  obtain ⟨v', w', hr, h2⟩ := run_append_recB T hown hb o.type hrow hE hn hb0 hb1
  unfold Oper.wp execOp
  simp only [ho, resolve, invoke, builtin, Sem.run_bind, Sem.run_pure, Result.andThen_ok, List.map_toArray, List.map_cons, List.map_nil, hs, hx, hr]
  exact hK _ _ (h v' w' h2)
theorem step_append_recB {sl e by_ : TypeId} (T : ElTyB sl e s by_) {w : World} {ops : Array Oper} {o : Oper} {a : Act} {K : Act → World → Prop} {Q : Exit → Act → World → Prop} {E : Prop} (hgd : o.guard = none) (x y : Operand)
    (ho : o.op = .call { callee := .builtin .append, args := #[x, y], argTypes := #[sl, sl] }) {base : Nat} {v : Value} {l : List α} (hs : a.eval x = v) (hown : RecOwn enc e s w base v l) (hb : base ≤ w.heap.size)
    {B : Nat} {vx : Value} {xs : List α} (hx : a.eval y = vx) (hrow : RecAt enc s w B vx xs) (hE : EncOK enc s xs) (hn : (l.length + xs.length) * by_ ≤ 140737488355328) (hb0 : 0 < by_) (hb1 : by_ ≤ 10000)
    (hK : ∀ v' w', AppR enc e s w base v l xs v' w' → K (a.put o.dst v') w') : if Region.wanted o (yielded ops a.tmps) = true then Oper.wp Tryz.prog o a w K Q else E := by
  have hw : Region.wanted o (yielded ops a.tmps) = true := by simp [Region.wanted, hgd]
  rw [if_pos hw]
  obtain ⟨v', w', hr, h2⟩ := run_append_recB T hown hb o.type hrow hE hn hb0 hb1
  unfold Oper.wp execOp
  simp only [ho, resolve, invoke, builtin, Sem.run_bind, Sem.run_pure, Result.andThen_ok, List.map_toArray, List.map_cons, List.map_nil, hs, hx, hr]
  exact hK _ _ h2
end
theorem eltyB_of {sl e s b : Nat} {z : Value} (hu : Tryz.prog.underlying sl = some (.slice e)) (hi : (Tryz.prog.info? e).map (fun i => (i.zero, i.size, i.bytes)) = some (some z, s, b)) (hz : z.cells.size = s) (hs : 0 < s) : ElTyB sl e s b := by
  cases hq : Tryz.prog.info? e with
  | none => rw [hq] at hi; simp at hi
  | some i =>
    rw [hq] at hi
    simp only [Option.map_some, Option.some.injEq, Prod.mk.injEq] at hi
    exact ⟨hu, ⟨i, z, hq, hi.1, hi.2.1, hz, hi.2.2⟩, hs⟩
theorem elB30 : ElTyB 28 30 9 112 := eltyB_of Tryz.underlying28 lk.info30 rfl (by decide)
theorem elB47 : ElTyB 45 47 27 336 := eltyB_of Tryz.underlying45 lk.info47 rfl (by decide)
end Go.Proofs.YtnakbepcalciiaaGreat.rec
/- Rows of terms that are gathered from records; ranges of cells. No condition. -/
namespace Go.Proofs.YtnakbepcalciiaaGreat.lk
open Go.RowKit mem rec tm names pm
set_option linter.unusedVariables false
set_option linter.unusedSimpArgs false
set_option maxHeartbeats 1000000
/-- a term with the slice of its elements -/
def tE {n : Nat} (r : Tm (n + 1) × Value) : List Value := nineL r.1.f r.2
theorem tE_len {n : Nat} (r : Tm (n + 1) × Value) : (tE r).length = 9 := rfl
def tEok {n : Nat} (W : World) (B : Nat) (r : Tm (n + 1) × Value) : Prop := ItemsAt W B n r.2 r.1.items
theorem tE_one {n : Nat} {W : World} {B : Nat} {r : Tm (n + 1) × Value} (h : tEok W B r) : ∀ u ∈ tE r, u.oneCell' = true := by
  obtain ⟨t, u⟩ := r
  obtain ⟨p, c, e, _, _⟩ := h.shape
  dsimp only at e
  subst e
  intro x hx
  simp only [tE, nineL, List.mem_cons, List.mem_nil_iff, or_false] at hx
  rcases hx with rfl | rfl | rfl | rfl | rfl | rfl | rfl | rfl | rfl <;> rfl
/-- a row of terms as a list of terms -/
theorem row_terms {n : Nat} {w : World} {B : Nat} {v : Value} {rs : List (Tm (n + 1) × Value)} (h : RecAt tE 9 w B v rs) (hk : ∀ r ∈ rs, tEok w B r) : ItemsAt w B (n + 1) v (rs.map (·.1)) := by
  obtain ⟨p, c, rfl, h1, h2, h3⟩ := h
  refine ⟨p, c, by simp, by simpa using h1, h2, fun hn => ?_⟩
  obtain ⟨g, o, rfl, hg, hc⟩ := h3 (by simpa using hn)
  refine ⟨g, o, rfl, hg, fun j hj => ?_⟩
  have hj' : j < rs.length := by simpa using hj
  have hh := hc j rs[j] (List.getElem?_eq_getElem hj')
  have e : (rs.map (·.1))[j] = rs[j].1 := by simp
  rw [e]
  refine ⟨rs[j].2, ?_, hk _ (List.getElem_mem hj')⟩
  simp only [← Nat.add_assoc] at hh
  exact ⟨hh 0 _ rfl, hh 1 _ rfl, hh 2 _ rfl, hh 3 _ rfl, hh 4 _ rfl, hh 5 _ rfl, hh 6 _ rfl, hh 7 _ rfl, hh 8 _ rfl⟩
theorem range_part {w : World} {b o : Nat} {x y v : List Value} (h : w.rangeAt b o (x ++ (y ++ v))) {k : Nat} (hk : x.length = k) : w.rangeAt b (o + k) y := fun j u hu => by
  have := h (k + j) u (by rw [List.getElem?_append_right (by omega), show k + j - x.length = j by omega, List.getElem?_append_left (List.getElem?_eq_some_iff.1 hu).1]; exact hu)
  rw [← Nat.add_assoc] at this
  exact this
theorem range_same {w w' : World} {b o : Nat} {x : List Value} (h : w.rangeAt b o x) (hb : w'.heap[b]? = w.heap[b]?) : w'.rangeAt b o x := fun j u hu => (World.cell?_of_block (w := w) (w' := w') (a := ⟨b, o + j, none⟩) hb).trans (h j u hu)
theorem range_row {w : World} {b : Nat} {x : List Value} {t : TypeId} {fr : Nat × Nat} (h : w.heap[b]? = some (.cells x.toArray t fr)) : w.rangeAt b 0 x := fun j u hu => by
  rw [cell_of_row w b (0 + j) x.toArray t fr h]
  simpa using hu
theorem rec_range {α : Type} {enc : α → List Value} {s : Nat} {w : World} {g o i : Nat} {a : α} (h : ∀ k u, (enc a)[k]? = some u → w.cell? ⟨g, o + (i * s + k), none⟩ = some u) : w.rangeAt g (o + i * s) (enc a) := fun j u hu => by
  have := h j u hu
  rwa [← Nat.add_assoc] at this
/-- the ranges of a row's records, in every later world -/
theorem RecAt_range {α : Type} {enc : α → List Value} {s : Nat} {w : World} {B g o n c : Nat} {l : List α} (h : RecAt enc s w B (.slice (some ⟨g, o, none⟩) n c) l) {i : Nat} {a : α} (ha : l[i]? = some a) : w.rangeAt g (o + i * s) (enc a) := by
  have hl : 0 < l.length := by have := (List.getElem?_eq_some_iff.1 ha).1; omega
  obtain ⟨g', o', e, _, _, hc⟩ := h.nth hl
  simp only [Option.some.injEq, Addr.mk.injEq, and_true] at e
  obtain ⟨rfl, rfl⟩ := e
  exact rec_range (hc i a ha)
end Go.Proofs.YtnakbepcalciiaaGreat.lk
