/- Several texts in one, one behind the other: TnZ, LkMi. No condition beyond theirs. -/
import Derived.Test.YtnakbepcalciiaaGreatHf
import Derived.Test.YtnakbepcalciiaaGreatHg
import Derived.Test.YtnakbepcalciiaaGreatHa
import Derived.Test.YtnakbepcalciiaaGreatHe
import Derived.Test.YtnakbepcalciiaaGreatGv
import Derived.Deep.MidRow

/- What the laws of the chapter share: the bound of Great, two terms in a row, what was lent. Conditions: as said. -/
namespace Go.Proofs.YtnakbepcalciiaaGreat.tm
open Go.RowKit mem names
set_option linter.unusedVariables false
set_option linter.unusedSimpArgs false
set_option maxHeartbeats 1000000
set_option maxRecDepth 100000

theorem left_nodes : ∀ (n : Nat) (l : List (Tm n)) (m : Int), 0 ≤ leftS n l m → (nodesL n l : Int) ≤ m - leftS n l m := by
  intro n
  induction n with
  | zero => intro l m h; rw [Tm.nil0 l] at *; simp [nodesL, leftS]
  | succ n ih =>
    intro l
    induction l with
    | nil => intro m h; simp [nodesL, leftS]
    | cons t l ihl =>
      intro m h
      rw [nodesL_cons]
      have e : leftS (n + 1) (t :: l) m = leftS (n + 1) l (leftStep (leftS n) m t) := rfl
      rw [e] at h ⊢
      by_cases h0 : leftStep (leftS n) m t < 0
      · have := fold_neg (leftS n) _ h0 l
        have e2 : leftS (n + 1) l (leftStep (leftS n) m t) = leftStep (leftS n) m t := this
        rw [e2] at h; omega
      · have k1 := ihl _ h
        have k2 : (nodesT t : Int) ≤ m - leftStep (leftS n) m t := by
          unfold leftStep at h0 ⊢
          by_cases hm : m < 0
          · rw [if_pos hm] at h0; omega
          · rw [if_neg hm] at h0 ⊢
            by_cases hb : leftB t.f m
            · rw [if_pos hb] at h0; omega
            · rw [if_neg hb] at h0 ⊢
              have k3 := ih t.items (leftN t.f m) (by omega)
              have k4 := leftN_bd t.f m (by omega) hb
              unfold nodesT
              omega
        omega
theorem great_nodes {n : Nat} {l : List (Tm n)} {m : Int} (h : greatS n l m = false) : (nodesL n l : Int) ≤ m := by
  unfold greatS at h
  have h' := of_decide_eq_false h
  have := left_nodes n l m (by omega)
  omega
/-- two terms in a new block -/
theorem two_itemsG {n : Nat} (w w0 : World) (t1 t2 : Tm (n + 1)) (u1 u2 : Value) (B : Nat) (hB : B ≤ w.heap.size) (h1 : ItemsAt w B n u1 t1.items) (h2 : ItemsAt w B n u2 t2.items) : ItemsAt (w.alloc (.cells #[.int .i64 t1.f.kind, .int .i64 t1.f.int, .int .i64 t1.f.gen, .string t1.f.name, .string t1.f.func, .int .i64 t1.f.arity, u1, .string t1.f.bytes, .int .i64 t1.f.bits, .int .i64 t2.f.kind, .int .i64 t2.f.int, .int .i64 t2.f.gen, .string t2.f.name, .string t2.f.func, .int .i64 t2.f.arity, u2, .string t2.f.bytes, .int .i64 t2.f.bits] 30)) (w.heap.size + 1) (n + 1) (.slice (some ⟨w.heap.size, 0, none⟩) 2 2) [t1, t2] := by
  have hA := (MapKept.heap_alloc w (.cells #[.int .i64 t1.f.kind, .int .i64 t1.f.int, .int .i64 t1.f.gen, .string t1.f.name, .string t1.f.func, .int .i64 t1.f.arity, u1, .string t1.f.bytes, .int .i64 t1.f.bits, .int .i64 t2.f.kind, .int .i64 t2.f.int, .int .i64 t2.f.gen, .string t2.f.name, .string t2.f.func, .int .i64 t2.f.arity, u2, .string t2.f.bytes, .int .i64 t2.f.bits] 30)).1
  have hb : Below w.heap.size w (w.alloc (.cells #[.int .i64 t1.f.kind, .int .i64 t1.f.int, .int .i64 t1.f.gen, .string t1.f.name, .string t1.f.func, .int .i64 t1.f.arity, u1, .string t1.f.bytes, .int .i64 t1.f.bits, .int .i64 t2.f.kind, .int .i64 t2.f.int, .int .i64 t2.f.gen, .string t2.f.name, .string t2.f.func, .int .i64 t2.f.arity, u2, .string t2.f.bytes, .int .i64 t2.f.bits] 30)) := (Below.refl _ _).alloc (Nat.le_refl _) _
  refine ⟨_, _, rfl, Nat.le_refl _, by unfold maxLen; simp, fun _ => ⟨_, 0, rfl, by omega, fun j hj => ?_⟩⟩
  rcases (show j = 0 ∨ j = 1 by simp at hj; omega) with rfl | rfl
  · refine ⟨u1, Cells.of fun i hi => ?_, ((h1.below hb hB).more (by omega))⟩
    rw [cell_of_row _ _ _ _ _ _ hA]
    show _ = (nineL t1.f u1)[i]?
    rcases (show i = 0 ∨ i = 1 ∨ i = 2 ∨ i = 3 ∨ i = 4 ∨ i = 5 ∨ i = 6 ∨ i = 7 ∨ i = 8 by omega) with rfl | rfl | rfl | rfl | rfl | rfl | rfl | rfl | rfl <;> rfl
  · refine ⟨u2, Cells.of fun i hi => ?_, ((h2.below hb hB).more (by omega))⟩
    rw [cell_of_row _ _ _ _ _ _ hA]
    show _ = (nineL t2.f u2)[i]?
    rcases (show i = 0 ∨ i = 1 ∨ i = 2 ∨ i = 3 ∨ i = 4 ∨ i = 5 ∨ i = 6 ∨ i = 7 ∨ i = 8 by omega) with rfl | rfl | rfl | rfl | rfl | rfl | rfl | rfl | rfl <;> rfl
/-- a lent term as it lies -/
def LentW (W : World) (B n : Nat) (v0 v : Value) (l : List (Tm n)) : Prop := ∃ F : Nat → Prop, (∀ g, F g → g < W.heap.size) ∧ LentIn W B F n v0 v l ∧ B ≤ W.heap.size
theorem LentW.below {W W' : World} {B n : Nat} {v0 v : Value} {l : List (Tm n)} (h : LentW W B n v0 v l) (hb : Below W.heap.size W W') : LentW W' B n v0 v l := by
  obtain ⟨F, h1, h2, h3⟩ := h
  exact ⟨F, fun g hg => Nat.lt_of_lt_of_le (h1 g hg) hb.size, h2.mono (fun g hg => hb.block g (h1 g hg)) (fun g hg => hb.block g (by omega)) (fun _ h => h), Nat.le_trans h3 hb.size⟩
theorem LentW.of {w w' : World} {B : Nat} {F : Nat → Prop} {n : Nat} {v0 v : Value} {l : List (Tm n)} (h : LentNew w w' B F n v0 v l) (hB : B ≤ w.heap.size) : LentW w' B n v0 v l :=
  ⟨F, fun g hg => (h.inr g hg).2, h.items, Nat.le_trans hB h.below.size⟩
theorem LentW.items {W : World} {B n : Nat} {v0 v : Value} {l : List (Tm n)} (h : LentW W B n v0 v l) : ItemsAt W W.heap.size n v l := by
  obtain ⟨F, h1, h2, h3⟩ := h
  exact h2.toIn.toAt h1
def LTW {n : Nat} (B : Nat) (f : TF) (v0 : Value) (l : List (Tm n)) (w : World) (e : Ending) (w' : World) : Prop := ∃ p' c', e = .returned (aggV f (.slice p' l.length c')) ∧ LentW w' B n v0 (.slice p' l.length c') l ∧ Below w.heap.size w w'
end Go.Proofs.YtnakbepcalciiaaGreat.tm
/- Rows of terms that are gathered from records; ranges of cells. No condition. -/
namespace Go.Proofs.YtnakbepcalciiaaGreat.lk
open Go.RowKit mem rec tm names pm
set_option linter.unusedVariables false
set_option linter.unusedSimpArgs false
set_option maxHeartbeats 1000000
/-- a term with the slice of its elements -/
def tE {n : Nat} (r : Tm (n + 1) × Value) : List Value := nineL r.1.f r.2
theorem tE_len {n : Nat} (r : Tm (n + 1) × Value) : (tE r).length = 9 := rfl
def tEok {n : Nat} (W : World) (B : Nat) (r : Tm (n + 1) × Value) : Prop := ItemsAt W B n r.2 r.1.items
theorem tE_one {n : Nat} {W : World} {B : Nat} {r : Tm (n + 1) × Value} (h : tEok W B r) : ∀ u ∈ tE r, u.oneCell' = true := by
  obtain ⟨t, u⟩ := r
  obtain ⟨p, c, e, _, _⟩ := h.shape
  dsimp only at e
  subst e
  intro x hx
  simp only [tE, nineL, List.mem_cons, List.mem_nil_iff, or_false] at hx
  rcases hx with rfl | rfl | rfl | rfl | rfl | rfl | rfl | rfl | rfl <;> rfl
/-- a row of terms as a list of terms -/
theorem row_terms {n : Nat} {w : World} {B : Nat} {v : Value} {rs : List (Tm (n + 1) × Value)} (h : RecAt tE 9 w B v rs) (hk : ∀ r ∈ rs, tEok w B r) : ItemsAt w B (n + 1) v (rs.map (·.1)) := by
  obtain ⟨p, c, rfl, h1, h2, h3⟩ := h
  refine ⟨p, c, by simp, by simpa using h1, h2, fun hn => ?_⟩
  obtain ⟨g, o, rfl, hg, hc⟩ := h3 (by simpa using hn)
  refine ⟨g, o, rfl, hg, fun j hj => ?_⟩
  have hj' : j < rs.length := by simpa using hj
  have hh := hc j rs[j] (List.getElem?_eq_getElem hj')
  have e : (rs.map (·.1))[j] = rs[j].1 := by simp
  rw [e]
  refine ⟨rs[j].2, ?_, hk _ (List.getElem_mem hj')⟩
  simp only [← Nat.add_assoc] at hh
  exact ⟨hh 0 _ rfl, hh 1 _ rfl, hh 2 _ rfl, hh 3 _ rfl, hh 4 _ rfl, hh 5 _ rfl, hh 6 _ rfl, hh 7 _ rfl, hh 8 _ rfl⟩
theorem range_part {w : World} {b o : Nat} {x y v : List Value} (h : w.rangeAt b o (x ++ (y ++ v))) {k : Nat} (hk : x.length = k) : w.rangeAt b (o + k) y := fun j u hu => by
  have := h (k + j) u (by rw [List.getElem?_append_right (by omega), show k + j - x.length = j by omega, List.getElem?_append_left (List.getElem?_eq_some_iff.1 hu).1]; exact hu)
  rw [← Nat.add_assoc] at this
  exact this
theorem range_same {w w' : World} {b o : Nat} {x : List Value} (h : w.rangeAt b o x) (hb : w'.heap[b]? = w.heap[b]?) : w'.rangeAt b o x := fun j u hu => (World.cell?_of_block (w := w) (w' := w') (a := ⟨b, o + j, none⟩) hb).trans (h j u hu)
theorem range_row {w : World} {b : Nat} {x : List Value} {t : TypeId} {fr : Nat × Nat} (h : w.heap[b]? = some (.cells x.toArray t fr)) : w.rangeAt b 0 x := fun j u hu => by
  rw [cell_of_row w b (0 + j) x.toArray t fr h]
  simpa using hu
theorem rec_range {α : Type} {enc : α → List Value} {s : Nat} {w : World} {g o i : Nat} {a : α} (h : ∀ k u, (enc a)[k]? = some u → w.cell? ⟨g, o + (i * s + k), none⟩ = some u) : w.rangeAt g (o + i * s) (enc a) := fun j u hu => by
  have := h j u hu
  rwa [← Nat.add_assoc] at this
/-- the ranges of a row's records, in every later world -/
theorem RecAt_range {α : Type} {enc : α → List Value} {s : Nat} {w : World} {B g o n c : Nat} {l : List α} (h : RecAt enc s w B (.slice (some ⟨g, o, none⟩) n c) l) {i : Nat} {a : α} (ha : l[i]? = some a) : w.rangeAt g (o + i * s) (enc a) := by
  have hl : 0 < l.length := by have := (List.getElem?_eq_some_iff.1 ha).1; omega
  obtain ⟨g', o', e, _, _, hc⟩ := h.nth hl
  simp only [Option.some.injEq, Addr.mk.injEq, and_true] at e
  obtain ⟨rfl, rfl⟩ := e
  exact rec_range (hc i a ha)
end Go.Proofs.YtnakbepcalciiaaGreat.lk
