
/- Terms in memory of one's own: where they lie, and that only they lie there. No condition. -/
import Derived.Test.YtfbggmbmgohiiaaGreatTmE
import Derived.Laws.OwnMore
namespace Go.Proofs.YtfbggmbmgohiiaaGreat.tm
open Go.RowKit mem names
set_option linter.unusedVariables false
set_option linter.unusedSimpArgs false
set_option maxHeartbeats 1000000
set_option maxRecDepth 100000

theorem info24 : (Tryz.prog.info? 24).map (fun i => (i.zero, i.size, i.bytes)) = some (some (.agg #[.int .i64 0, .int .i64 0, .int .i64 0, .string ⟨#[]⟩, .string ⟨#[]⟩, .int .i64 0, .slice none 0 0, .string ⟨#[]⟩, .int .i64 0]), 9, 112) := by kernel_rfl
/-- the nine values of a term -/
def nineL (f : TF) (v : Value) : List Value := [.int .i64 f.kind, .int .i64 f.int, .int .i64 f.gen, .string f.name, .string f.func, .int .i64 f.arity, v, .string f.bytes, .int .i64 f.bits]
/-- a row of terms -/
def flatR (rs : List (TF × Value)) : List Value := rs.flatMap (fun r => nineL r.1 r.2)
theorem flatR_len (rs : List (TF × Value)) : (flatR rs).length = rs.length * 9 := by
  induction rs with
  | nil => rfl
  | cons r rs ih => simp [flatR, nineL] at ih ⊢; omega
theorem flatR_append (a b : List (TF × Value)) : flatR (a ++ b) = flatR a ++ flatR b := by simp [flatR]
theorem flatR_get : ∀ (rs : List (TF × Value)) (j : Nat) (h : j < rs.length) (i : Nat), i < 9 → (flatR rs)[j * 9 + i]? = (nineL rs[j].1 rs[j].2)[i]?
  | r :: rs, 0, h, i, hi => by
    show (nineL r.1 r.2 ++ flatR rs)[0 * 9 + i]? = _
    rw [List.getElem?_append_left (by simp [nineL]; omega)]; simp
  | r :: rs, j + 1, h, i, hi => by
    show (nineL r.1 r.2 ++ flatR rs)[(j + 1) * 9 + i]? = _
    rw [List.getElem?_append_right (by simp [nineL]; omega), show (j + 1) * 9 + i - (nineL r.1 r.2).length = j * 9 + i by simp [nineL]; omega]
    exact flatR_get rs j (by simpa using h) i hi
theorem Cells.of {w : World} {g o : Nat} {f : TF} {v : Value} (h : ∀ i, i < 9 → w.cell? ⟨g, o + i, none⟩ = (nineL f v)[i]?) : Cells w g o f v :=
  ⟨h 0 (by omega), h 1 (by omega), h 2 (by omega), h 3 (by omega), h 4 (by omega), h 5 (by omega), h 6 (by omega), h 7 (by omega), h 8 (by omega)⟩
theorem Cells.all {w : World} {g o : Nat} {f : TF} {v : Value} (h : Cells w g o f v) : ∀ i, i < 9 → w.cell? ⟨g, o + i, none⟩ = (nineL f v)[i]? := by
  intro i hi
  rcases (show i = 0 ∨ i = 1 ∨ i = 2 ∨ i = 3 ∨ i = 4 ∨ i = 5 ∨ i = 6 ∨ i = 7 ∨ i = 8 by omega) with rfl | rfl | rfl | rfl | rfl | rfl | rfl | rfl | rfl
  · exact h.c0
  · exact h.c1
  · exact h.c2
  · exact h.c3
  · exact h.c4
  · exact h.c5
  · exact h.c6
  · exact h.c7
  · exact h.c8
/-- a row of one's own: its terms -/
theorem row_cells {w : World} {base g n cap : Nat} {rs : List (TF × Value)} (h : w.ownsRow base 24 9 (.slice (some ⟨g, 0, none⟩) n cap) n (flatR rs)) (hn : rs.length = n) (j : Nat) (hj : j < rs.length) : Cells w g (j * 9) rs[j].1 rs[j].2 := by
  refine Cells.of fun i hi => ?_
  rw [h.cellAt (j * 9 + i) (by omega)]
  exact flatR_get rs j hj i hi

/-! ### terms in certain blocks -/
def ItemsIn (w : World) (F : Nat → Prop) : (n : Nat) → Value → List (Tm n) → Prop
  | 0, v, _ => ∃ p c, v = .slice p 0 c ∧ c ≤ maxLen
  | n + 1, v, l => ∃ p c, v = .slice p l.length c ∧ l.length ≤ c ∧ c ≤ maxLen ∧ (l ≠ [] → ∃ g o, p = some ⟨g, o, none⟩ ∧ F g ∧
      ∀ j, (h : j < l.length) → ∃ u, Cells w g (o + j * 9) (l[j]).f u ∧ ItemsIn w F n u (l[j]).items)
theorem ItemsIn.mono {w w' : World} {F F' : Nat → Prop} (hs : ∀ g, F g → w'.heap[g]? = w.heap[g]?) (hF : ∀ g, F g → F' g) : ∀ {n : Nat} {v : Value} {l : List (Tm n)}, ItemsIn w F n v l → ItemsIn w' F' n v l := by
  intro n
  induction n with
  | zero => intro v l h; exact h
  | succ n ih =>
    intro v l h
    obtain ⟨p, c, e, h1, h2, h3⟩ := h
    refine ⟨p, c, e, h1, h2, fun hn => ?_⟩
    obtain ⟨g, o, e, hg, hc⟩ := h3 hn
    refine ⟨g, o, e, hF g hg, fun j hj => ?_⟩
    obtain ⟨u, hc1, hc2⟩ := hc j hj
    exact ⟨u, hc1.same (hs g hg), ih hc2⟩
theorem ItemsIn.toAt {w : World} {F : Nat → Prop} {B : Nat} (hF : ∀ g, F g → g < B) : ∀ {n : Nat} {v : Value} {l : List (Tm n)}, ItemsIn w F n v l → ItemsAt w B n v l := by
  intro n
  induction n with
  | zero => intro v l h; exact h
  | succ n ih =>
    intro v l h
    obtain ⟨p, c, e, h1, h2, h3⟩ := h
    refine ⟨p, c, e, h1, h2, fun hn => ?_⟩
    obtain ⟨g, o, e, hg, hc⟩ := h3 hn
    refine ⟨g, o, e, hF g hg, fun j hj => ?_⟩
    obtain ⟨u, hc1, hc2⟩ := hc j hj
    exact ⟨u, hc1, ih hc2⟩
theorem ItemsAt.toIn {w : World} {B : Nat} : ∀ {n : Nat} {v : Value} {l : List (Tm n)}, ItemsAt w B n v l → ItemsIn w (fun g => g < B) n v l := by
  intro n
  induction n with
  | zero => intro v l h; exact h
  | succ n ih =>
    intro v l h
    obtain ⟨p, c, e, h1, h2, h3⟩ := h
    refine ⟨p, c, e, h1, h2, fun hn => ?_⟩
    obtain ⟨g, o, e, hg, hc⟩ := h3 hn
    refine ⟨g, o, e, hg, fun j hj => ?_⟩
    obtain ⟨u, hc1, hc2⟩ := hc j hj
    exact ⟨u, hc1, ih hc2⟩
theorem ItemsIn.nil_any {w : World} {F : Nat → Prop} {n c : Nat} {p : Option Addr} (hc : c ≤ maxLen) : ItemsIn w F n (.slice p 0 c) ([] : List (Tm n)) := by
  cases n with
  | zero => exact ⟨p, c, rfl, hc⟩
  | succ n => exact ⟨p, c, rfl, Nat.zero_le _, hc, fun h => absurd rfl h⟩

/-! ### blocks of terms alone -/
/-- a slice of terms that lie in F's blocks, behind g -/
def PtrOK (w : World) (F : Nat → Prop) (g : Nat) (u : Value) : Prop :=
  ∃ p len c, u = .slice p len c ∧ (len = 0 ∨ ∃ g' k cur fz, p = some ⟨g', k * 9, none⟩ ∧ F g' ∧ g < g' ∧ w.heap[g']? = some (.cells cur 24 fz) ∧ (k + len) * 9 ≤ cur.size ∧ len ≤ maxLen)
/-- F's blocks hold terms, whose elements lie in later ones -/
def Typed (w : World) (F : Nat → Prop) : Prop :=
  ∀ g, F g → ∃ cur N, w.heap[g]? = some (.cells cur 24 (0, 0)) ∧ cur.size = N * 9 ∧ ∀ j, j < N → ∃ f u, Cells w g (j * 9) f u ∧ PtrOK w F g u
theorem PtrOK.nil {w : World} {F : Nat → Prop} {g : Nat} : PtrOK w F g nilV := ⟨none, 0, 0, rfl, .inl rfl⟩
theorem PtrOK.mono {w w' : World} {F F' : Nat → Prop} {g : Nat} {u : Value} (h : PtrOK w F g u) (hs : ∀ g, F g → w'.heap[g]? = w.heap[g]?) (hF : ∀ g, F g → F' g) : PtrOK w' F' g u := by
  obtain ⟨p, len, c, e, h⟩ := h
  refine ⟨p, len, c, e, ?_⟩
  rcases h with h | ⟨g', k, cur, fz, e, h1, h2, h3, h4⟩
  · exact .inl h
  · exact .inr ⟨g', k, cur, fz, e, hF _ h1, h2, (hs _ h1).trans h3, h4⟩
theorem PtrOK.less {w : World} {F : Nat → Prop} {g g' : Nat} {u : Value} (h : PtrOK w F g u) (hg : g' ≤ g) : PtrOK w F g' u := by
  obtain ⟨p, len, c, e, h⟩ := h
  refine ⟨p, len, c, e, ?_⟩
  rcases h with h | ⟨g1, k, cur, fz, e, h1, h2, h3, h4⟩
  · exact .inl h
  · exact .inr ⟨g1, k, cur, fz, e, h1, by omega, h3, h4⟩
theorem Typed.same {w w' : World} {F : Nat → Prop} (h : Typed w F) (hs : ∀ g, F g → w'.heap[g]? = w.heap[g]?) : Typed w' F := by
  intro g hg
  obtain ⟨cur, N, h1, h2, h3⟩ := h g hg
  refine ⟨cur, N, (hs g hg).trans h1, h2, fun j hj => ?_⟩
  obtain ⟨f, u, hc, hp⟩ := h3 j hj
  exact ⟨f, u, hc.same (hs g hg), hp.mono hs (fun _ h => h)⟩
theorem Typed.union {w : World} {F F' : Nat → Prop} (h : Typed w F) (h' : Typed w F') : Typed w (fun g => F g ∨ F' g) := by
  intro g hg
  rcases hg with hg | hg
  · obtain ⟨cur, N, h1, h2, h3⟩ := h g hg
    refine ⟨cur, N, h1, h2, fun j hj => ?_⟩
    obtain ⟨f, u, hc, hp⟩ := h3 j hj
    exact ⟨f, u, hc, hp.mono (fun _ _ => rfl) (fun _ h => .inl h)⟩
  · obtain ⟨cur, N, h1, h2, h3⟩ := h' g hg
    refine ⟨cur, N, h1, h2, fun j hj => ?_⟩
    obtain ⟨f, u, hc, hp⟩ := h3 j hj
    exact ⟨f, u, hc, hp.mono (fun _ _ => rfl) (fun _ h => .inr h)⟩
theorem Typed.add {w : World} {F : Nat → Prop} (h : Typed w F) {g0 : Nat} {cur : Array Value} {N : Nat} (h1 : w.heap[g0]? = some (.cells cur 24 (0, 0))) (h2 : cur.size = N * 9) (h3 : ∀ j, j < N → ∃ f u, Cells w g0 (j * 9) f u ∧ PtrOK w F g0 u) : Typed w (fun g => F g ∨ g = g0) := by
  intro g hg
  rcases hg with hg | rfl
  · obtain ⟨cur, N, h1, h2, h3⟩ := h g hg
    refine ⟨cur, N, h1, h2, fun j hj => ?_⟩
    obtain ⟨f, u, hc, hp⟩ := h3 j hj
    exact ⟨f, u, hc, hp.mono (fun _ _ => rfl) (fun _ h => .inl h)⟩
  · refine ⟨cur, N, h1, h2, fun j hj => ?_⟩
    obtain ⟨f, u, hc, hp⟩ := h3 j hj
    exact ⟨f, u, hc, hp.mono (fun _ _ => rfl) (fun _ h => .inl h)⟩
/-- the elements of a slice that has been made -/
structure NewAt (w w' : World) (F : Nat → Prop) (n : Nat) (u : Value) (l : List (Tm n)) : Prop where
  items : ItemsIn w' F n u l
  inr : ∀ g, F g → w.heap.size ≤ g ∧ g < w'.heap.size
  typed : Typed w' F
  ptr : ∀ g, g < w.heap.size → PtrOK w' F g u
  below : Below w.heap.size w w'
theorem grown_same {w w' : World} {g : Nat} {F : Nat → Prop} (h : w.grownBy w' (some g)) (hF : ∀ k, F k → k ≠ g ∧ k < w.heap.size) : ∀ k, F k → w'.heap[k]? = w.heap[k]? :=
  fun k hk => h.block k (hF k hk).2 (fun e => (hF k hk).1 (by simpa using e))
section
variable {P : Program} {w : World}
theorem wpList_append_fits {ops : Array Oper} {rest : List Oper} {o : Oper} {a : Act} {Q : Exit → Act → World → Prop} (hgd : o.guard = none) (s x : Operand) (t : TypeId)
    (ho : o.op = .call { callee := .builtin .append, args := #[s, x], argTypes := #[t, t] })
    (base : Nat) (e : TypeId) (i : TypeInfo) (size : Nat) (ht : P.underlying t = some (.slice e)) (hi : P.info? e = some i) (hsize : i.size = size)
    (g n cap : Nat) (xs : List Value) (hs : a.eval s = .slice (some ⟨g, 0, none⟩) n cap) (hown : w.ownsRow base e size (.slice (some ⟨g, 0, none⟩) n cap) n xs)
    (ad : Addr) (m c : Nat) (news : List Value) (hx : a.eval x = .slice (some ad) m c) (hl : news.length = m * size) (hnews : ∀ j u, news[j]? = some u → w.cell? (ad.add j) = some u) (h1 : ∀ u ∈ news, u.oneCell' = true)
    (hroom : n + m ≤ cap)
    (h : ∀ w', w'.ownsRow base e size (.slice (some ⟨g, 0, none⟩) (n + m) cap) (n + m) (xs ++ news) → w.grownBy w' (some g) → wpList P ops Q rest (a.put o.dst (.slice (some ⟨g, 0, none⟩) (n + m) cap)) w') :
    wpList P ops Q (o :: rest) a w := by
  refine wpList_plain hgd fun K hK => ?_
  obtain ⟨w', hr, h2, h3⟩ := run_append_fits (P := P) w base t o.type e i size ht hi hsize g n cap xs hown ad m c news hl hnews h1 hroom
  unfold Oper.wp execOp
  simp only [ho, resolve, invoke, builtin, Sem.run_bind, Sem.run_pure, Result.andThen_ok, List.map_toArray, List.map_cons, List.map_nil, hs, hx, hr]
  exact hK _ _ (h w' h2 h3)
end
/-- nine values that were just laid -/
theorem nine_cell (w : World) (f : TF) (v : Value) : ∀ j u, (nineL f v)[j]? = some u → (w.alloc (cells9 f v)).cell? ((⟨w.heap.size, 0, none⟩ : Addr).add j) = some u := by
  intro j u hj
  have hA := (MapKept.heap_alloc w (cells9 f v)).1
  unfold cells9 at hA ⊢
  rw [Addr.add_lit, Nat.zero_add, cell_of_row _ _ _ _ _ _ hA, ← hj]
  unfold nineL
  simp
theorem nine_one (f : TF) (p : Option Addr) (len c : Nat) : ∀ u ∈ nineL f (.slice p len c), u.oneCell' = true := by
  intro u hu
  simp [nineL] at hu
  rcases hu with rfl | rfl | rfl | rfl | rfl | rfl | rfl | rfl | rfl <;> rfl
end Go.Proofs.YtfbggmbmgohiiaaGreat.tm
