/- Several texts in one, one behind the other: TnH, TnI, TnJ, TnK. No condition beyond theirs. -/
import Derived.Test.YthgfdpamnepnfaaGa
import Derived.Laws.OwnMore
import Derived.Test.YthgfdpamnepnfaaGg
import Derived.Test.YthgfdpamnepnfaaGf
import Derived.Test.YthgfdpamnepnfaaGk
import Derived.Laws.MakeOwn
/- Terms in memory of one's own: where they lie, and that only they lie there. No condition. -/
namespace Go.Proofs.Ythgfdpamnepnfaa.tm
open Go.RowKit mem names
set_option linter.unusedVariables false
set_option linter.unusedSimpArgs false
set_option maxHeartbeats 1000000
set_option maxRecDepth 100000

theorem info24 : (Try.prog.info? 24).map (fun i => (i.zero, i.size, i.bytes)) = some (some (.agg #[.int .i64 0, .int .i64 0, .int .i64 0, .string ⟨#[]⟩, .string ⟨#[]⟩, .int .i64 0, .slice none 0 0, .string ⟨#[]⟩, .int .i64 0]), 9, 112) := by kernel_rfl
/-- the nine values of a term -/
def nineL (f : TF) (v : Value) : List Value := [.int .i64 f.kind, .int .i64 f.int, .int .i64 f.gen, .string f.name, .string f.func, .int .i64 f.arity, v, .string f.bytes, .int .i64 f.bits]
/-- a row of terms -/
def flatR (rs : List (TF × Value)) : List Value := rs.flatMap (fun r => nineL r.1 r.2)
theorem flatR_len (rs : List (TF × Value)) : (flatR rs).length = rs.length * 9 := by
  induction rs with
  | nil => rfl
  | cons r rs ih => simp [flatR, nineL] at ih ⊢; omega
theorem flatR_append (a b : List (TF × Value)) : flatR (a ++ b) = flatR a ++ flatR b := by simp [flatR]
theorem flatR_get : ∀ (rs : List (TF × Value)) (j : Nat) (h : j < rs.length) (i : Nat), i < 9 → (flatR rs)[j * 9 + i]? = (nineL rs[j].1 rs[j].2)[i]?
  | r :: rs, 0, h, i, hi => by
    show (nineL r.1 r.2 ++ flatR rs)[0 * 9 + i]? = _
    rw [List.getElem?_append_left (by simp [nineL]; omega)]; simp
  | r :: rs, j + 1, h, i, hi => by
    show (nineL r.1 r.2 ++ flatR rs)[(j + 1) * 9 + i]? = _
    rw [List.getElem?_append_right (by simp [nineL]; omega), show (j + 1) * 9 + i - (nineL r.1 r.2).length = j * 9 + i by simp [nineL]; omega]
    exact flatR_get rs j (by simpa using h) i hi
theorem Cells.of {w : World} {g o : Nat} {f : TF} {v : Value} (h : ∀ i, i < 9 → w.cell? ⟨g, o + i, none⟩ = (nineL f v)[i]?) : Cells w g o f v :=
  ⟨h 0 (by omega), h 1 (by omega), h 2 (by omega), h 3 (by omega), h 4 (by omega), h 5 (by omega), h 6 (by omega), h 7 (by omega), h 8 (by omega)⟩
theorem Cells.all {w : World} {g o : Nat} {f : TF} {v : Value} (h : Cells w g o f v) : ∀ i, i < 9 → w.cell? ⟨g, o + i, none⟩ = (nineL f v)[i]? := by
  intro i hi
  rcases (show i = 0 ∨ i = 1 ∨ i = 2 ∨ i = 3 ∨ i = 4 ∨ i = 5 ∨ i = 6 ∨ i = 7 ∨ i = 8 by omega) with rfl | rfl | rfl | rfl | rfl | rfl | rfl | rfl | rfl
  · exact h.c0
  · exact h.c1
  · exact h.c2
  · exact h.c3
  · exact h.c4
  · exact h.c5
  · exact h.c6
  · exact h.c7
  · exact h.c8
/-- a row of one's own: its terms -/
theorem row_cells {w : World} {base g n cap : Nat} {rs : List (TF × Value)} (h : w.ownsRow base 24 9 (.slice (some ⟨g, 0, none⟩) n cap) n (flatR rs)) (hn : rs.length = n) (j : Nat) (hj : j < rs.length) : Cells w g (j * 9) rs[j].1 rs[j].2 := by
  refine Cells.of fun i hi => ?_
  rw [h.cellAt (j * 9 + i) (by omega)]
  exact flatR_get rs j hj i hi

/-! ### terms in certain blocks -/
def ItemsIn (w : World) (F : Nat → Prop) : (n : Nat) → Value → List (Tm n) → Prop
  | 0, v, _ => ∃ p c, v = .slice p 0 c ∧ c ≤ maxLen
  | n + 1, v, l => ∃ p c, v = .slice p l.length c ∧ l.length ≤ c ∧ c ≤ maxLen ∧ (l ≠ [] → ∃ g o, p = some ⟨g, o, none⟩ ∧ F g ∧
      ∀ j, (h : j < l.length) → ∃ u, Cells w g (o + j * 9) (l[j]).f u ∧ ItemsIn w F n u (l[j]).items)
theorem ItemsIn.mono {w w' : World} {F F' : Nat → Prop} (hs : ∀ g, F g → w'.heap[g]? = w.heap[g]?) (hF : ∀ g, F g → F' g) : ∀ {n : Nat} {v : Value} {l : List (Tm n)}, ItemsIn w F n v l → ItemsIn w' F' n v l := by
  intro n
  induction n with
  | zero => intro v l h; exact h
  | succ n ih =>
    intro v l h
    obtain ⟨p, c, e, h1, h2, h3⟩ := h
    refine ⟨p, c, e, h1, h2, fun hn => ?_⟩
    obtain ⟨g, o, e, hg, hc⟩ := h3 hn
    refine ⟨g, o, e, hF g hg, fun j hj => ?_⟩
    obtain ⟨u, hc1, hc2⟩ := hc j hj
    exact ⟨u, hc1.same (hs g hg), ih hc2⟩
theorem ItemsIn.toAt {w : World} {F : Nat → Prop} {B : Nat} (hF : ∀ g, F g → g < B) : ∀ {n : Nat} {v : Value} {l : List (Tm n)}, ItemsIn w F n v l → ItemsAt w B n v l := by
  intro n
  induction n with
  | zero => intro v l h; exact h
  | succ n ih =>
    intro v l h
    obtain ⟨p, c, e, h1, h2, h3⟩ := h
    refine ⟨p, c, e, h1, h2, fun hn => ?_⟩
    obtain ⟨g, o, e, hg, hc⟩ := h3 hn
    refine ⟨g, o, e, hF g hg, fun j hj => ?_⟩
    obtain ⟨u, hc1, hc2⟩ := hc j hj
    exact ⟨u, hc1, ih hc2⟩
theorem ItemsAt.toIn {w : World} {B : Nat} : ∀ {n : Nat} {v : Value} {l : List (Tm n)}, ItemsAt w B n v l → ItemsIn w (fun g => g < B) n v l := by
  intro n
  induction n with
  | zero => intro v l h; exact h
  | succ n ih =>
    intro v l h
    obtain ⟨p, c, e, h1, h2, h3⟩ := h
    refine ⟨p, c, e, h1, h2, fun hn => ?_⟩
    obtain ⟨g, o, e, hg, hc⟩ := h3 hn
    refine ⟨g, o, e, hg, fun j hj => ?_⟩
    obtain ⟨u, hc1, hc2⟩ := hc j hj
    exact ⟨u, hc1, ih hc2⟩
theorem ItemsIn.nil_any {w : World} {F : Nat → Prop} {n c : Nat} {p : Option Addr} (hc : c ≤ maxLen) : ItemsIn w F n (.slice p 0 c) ([] : List (Tm n)) := by
  cases n with
  | zero => exact ⟨p, c, rfl, hc⟩
  | succ n => exact ⟨p, c, rfl, Nat.zero_le _, hc, fun h => absurd rfl h⟩

/-! ### blocks of terms alone -/
/-- a slice of terms that lie in F's blocks, behind g -/
def PtrOK (w : World) (F : Nat → Prop) (g : Nat) (u : Value) : Prop :=
  ∃ p len c, u = .slice p len c ∧ (len = 0 ∨ ∃ g' k cur fz, p = some ⟨g', k * 9, none⟩ ∧ F g' ∧ g < g' ∧ w.heap[g']? = some (.cells cur 24 fz) ∧ (k + len) * 9 ≤ cur.size ∧ len ≤ maxLen)
/-- F's blocks hold terms, whose elements lie in later ones -/
def Typed (w : World) (F : Nat → Prop) : Prop :=
  ∀ g, F g → ∃ cur N, w.heap[g]? = some (.cells cur 24 (0, 0)) ∧ cur.size = N * 9 ∧ ∀ j, j < N → ∃ f u, Cells w g (j * 9) f u ∧ PtrOK w F g u
theorem PtrOK.nil {w : World} {F : Nat → Prop} {g : Nat} : PtrOK w F g nilV := ⟨none, 0, 0, rfl, .inl rfl⟩
theorem PtrOK.mono {w w' : World} {F F' : Nat → Prop} {g : Nat} {u : Value} (h : PtrOK w F g u) (hs : ∀ g, F g → w'.heap[g]? = w.heap[g]?) (hF : ∀ g, F g → F' g) : PtrOK w' F' g u := by
  obtain ⟨p, len, c, e, h⟩ := h
  refine ⟨p, len, c, e, ?_⟩
  rcases h with h | ⟨g', k, cur, fz, e, h1, h2, h3, h4⟩
  · exact .inl h
  · exact .inr ⟨g', k, cur, fz, e, hF _ h1, h2, (hs _ h1).trans h3, h4⟩
theorem PtrOK.less {w : World} {F : Nat → Prop} {g g' : Nat} {u : Value} (h : PtrOK w F g u) (hg : g' ≤ g) : PtrOK w F g' u := by
  obtain ⟨p, len, c, e, h⟩ := h
  refine ⟨p, len, c, e, ?_⟩
  rcases h with h | ⟨g1, k, cur, fz, e, h1, h2, h3, h4⟩
  · exact .inl h
  · exact .inr ⟨g1, k, cur, fz, e, h1, by omega, h3, h4⟩
theorem Typed.same {w w' : World} {F : Nat → Prop} (h : Typed w F) (hs : ∀ g, F g → w'.heap[g]? = w.heap[g]?) : Typed w' F := by
  intro g hg
  obtain ⟨cur, N, h1, h2, h3⟩ := h g hg
  refine ⟨cur, N, (hs g hg).trans h1, h2, fun j hj => ?_⟩
  obtain ⟨f, u, hc, hp⟩ := h3 j hj
  exact ⟨f, u, hc.same (hs g hg), hp.mono hs (fun _ h => h)⟩
theorem Typed.union {w : World} {F F' : Nat → Prop} (h : Typed w F) (h' : Typed w F') : Typed w (fun g => F g ∨ F' g) := by
  intro g hg
  rcases hg with hg | hg
  · obtain ⟨cur, N, h1, h2, h3⟩ := h g hg
    refine ⟨cur, N, h1, h2, fun j hj => ?_⟩
    obtain ⟨f, u, hc, hp⟩ := h3 j hj
    exact ⟨f, u, hc, hp.mono (fun _ _ => rfl) (fun _ h => .inl h)⟩
  · obtain ⟨cur, N, h1, h2, h3⟩ := h' g hg
    refine ⟨cur, N, h1, h2, fun j hj => ?_⟩
    obtain ⟨f, u, hc, hp⟩ := h3 j hj
    exact ⟨f, u, hc, hp.mono (fun _ _ => rfl) (fun _ h => .inr h)⟩
theorem Typed.add {w : World} {F : Nat → Prop} (h : Typed w F) {g0 : Nat} {cur : Array Value} {N : Nat} (h1 : w.heap[g0]? = some (.cells cur 24 (0, 0))) (h2 : cur.size = N * 9) (h3 : ∀ j, j < N → ∃ f u, Cells w g0 (j * 9) f u ∧ PtrOK w F g0 u) : Typed w (fun g => F g ∨ g = g0) := by
  intro g hg
  rcases hg with hg | rfl
  · obtain ⟨cur, N, h1, h2, h3⟩ := h g hg
    refine ⟨cur, N, h1, h2, fun j hj => ?_⟩
    obtain ⟨f, u, hc, hp⟩ := h3 j hj
    exact ⟨f, u, hc, hp.mono (fun _ _ => rfl) (fun _ h => .inl h)⟩
  · refine ⟨cur, N, h1, h2, fun j hj => ?_⟩
    obtain ⟨f, u, hc, hp⟩ := h3 j hj
    exact ⟨f, u, hc, hp.mono (fun _ _ => rfl) (fun _ h => .inl h)⟩
/-- the elements of a slice that has been made -/
structure NewAt (w w' : World) (F : Nat → Prop) (n : Nat) (u : Value) (l : List (Tm n)) : Prop where
  items : ItemsIn w' F n u l
  inr : ∀ g, F g → w.heap.size ≤ g ∧ g < w'.heap.size
  typed : Typed w' F
  ptr : ∀ g, g < w.heap.size → PtrOK w' F g u
  below : Below w.heap.size w w'
theorem grown_same {w w' : World} {g : Nat} {F : Nat → Prop} (h : w.grownBy w' (some g)) (hF : ∀ k, F k → k ≠ g ∧ k < w.heap.size) : ∀ k, F k → w'.heap[k]? = w.heap[k]? :=
  fun k hk => h.block k (hF k hk).2 (fun e => (hF k hk).1 (by simpa using e))
section
variable {P : Program} {w : World}
theorem wpList_append_fits {ops : Array Oper} {rest : List Oper} {o : Oper} {a : Act} {Q : Exit → Act → World → Prop} (hgd : o.guard = none) (s x : Operand) (t : TypeId)
    (ho : o.op = .call { callee := .builtin .append, args := #[s, x], argTypes := #[t, t] })
    (base : Nat) (e : TypeId) (i : TypeInfo) (size : Nat) (ht : P.underlying t = some (.slice e)) (hi : P.info? e = some i) (hsize : i.size = size)
    (g n cap : Nat) (xs : List Value) (hs : a.eval s = .slice (some ⟨g, 0, none⟩) n cap) (hown : w.ownsRow base e size (.slice (some ⟨g, 0, none⟩) n cap) n xs)
    (ad : Addr) (m c : Nat) (news : List Value) (hx : a.eval x = .slice (some ad) m c) (hl : news.length = m * size) (hnews : ∀ j u, news[j]? = some u → w.cell? (ad.add j) = some u) (h1 : ∀ u ∈ news, u.oneCell' = true)
    (hroom : n + m ≤ cap)
    (h : ∀ w', w'.ownsRow base e size (.slice (some ⟨g, 0, none⟩) (n + m) cap) (n + m) (xs ++ news) → w.grownBy w' (some g) → wpList P ops Q rest (a.put o.dst (.slice (some ⟨g, 0, none⟩) (n + m) cap)) w') :
    wpList P ops Q (o :: rest) a w := by
  refine wpList_plain hgd fun K hK => ?_
  obtain ⟨w', hr, h2, h3⟩ := run_append_fits (P := P) w base t o.type e i size ht hi hsize g n cap xs hown ad m c news hl hnews h1 hroom
  unfold Oper.wp execOp
  simp only [ho, resolve, invoke, builtin, Sem.run_bind, Sem.run_pure, Result.andThen_ok, List.map_toArray, List.map_cons, List.map_nil, hs, hx, hr]
  exact hK _ _ (h w' h2 h3)
end
/-- nine values that were just laid -/
theorem nine_cell (w : World) (f : TF) (v : Value) : ∀ j u, (nineL f v)[j]? = some u → (w.alloc (cells9 f v)).cell? ((⟨w.heap.size, 0, none⟩ : Addr).add j) = some u := by
  intro j u hj
  have hA := (MapKept.heap_alloc w (cells9 f v)).1
  unfold cells9 at hA ⊢
  rw [Addr.add_lit, Nat.zero_add, cell_of_row _ _ _ _ _ _ hA, ← hj]
  unfold nineL
  simp
theorem nine_one (f : TF) (p : Option Addr) (len c : Nat) : ∀ u ∈ nineL f (.slice p len c), u.oneCell' = true := by
  intro u hu
  simp [nineL] at hu
  rcases hu with rfl | rfl | rfl | rfl | rfl | rfl | rfl | rfl | rfl <;> rfl
end Go.Proofs.Ythgfdpamnepnfaa.tm
/- Copies of terms. Conditions: the terms lie in memory. -/
namespace Go.Proofs.Ythgfdpamnepnfaa.tm
open Go.RowKit mem names
set_option linter.unusedVariables false
set_option linter.unusedSimpArgs false
set_option maxHeartbeats 4000000
set_option maxRecDepth 100000

theorem NewAt.touch {w W0 w1 w' : World} {F S : Nat → Prop} {n : Nat} {u : Value} {l : List (Tm n)} (h : NewAt W0 w1 F n u l) (ht : TouchB S w1 w') (hS : ∀ g, F g → ¬ S g) (hb : Below w.heap.size w w') (hw : w.heap.size ≤ W0.heap.size) : NewAt w w' F n u l := by
  have hs : ∀ g, F g → w'.heap[g]? = w1.heap[g]? := fun g hg => ht.block g (h.inr g hg).2 (hS g hg)
  refine ⟨h.items.mono hs (fun _ h => h), fun g hg => ?_, h.typed.same hs, fun g hg => ?_, hb⟩
  · have := h.inr g hg
    have := ht.size
    omega
  · exact (h.ptr g (by omega)).mono hs (fun _ h => h)
/-- a list has been copied -/
def LPost {n : Nat} (l : List (Tm n)) (w : World) (e : Ending) (w' : World) : Prop := ∃ F g, e = .returned (.slice (some ⟨g, 0, none⟩) l.length l.length) ∧ NewAt w w' F n (.slice (some ⟨g, 0, none⟩) l.length l.length) l ∧ F g
/-- a term has been copied -/
def TPost {n : Nat} (f : TF) (l : List (Tm n)) (w : World) (e : Ending) (w' : World) : Prop := ∃ F g, e = .returned (aggV f (.slice (some ⟨g, 0, none⟩) l.length l.length)) ∧ NewAt w w' F n (.slice (some ⟨g, 0, none⟩) l.length l.length) l ∧ F g
theorem copyT {n : Nat} (x : TF) (p : Option Addr) (len c : Nat) (l : List (Tm n)) (w : World) (hC : ∀ W, Below w.heap.size w W → Calls Try.prog 66 #[.slice p len c] W (LPost l W)) :
    Calls Try.prog 42 #[aggV x (.slice p len c)] w (TPost x l w) := by
  have HC := Lib.hid hC
  clear hC
  obtain ⟨k, i, gg, nm, fn, ar, by_, bt⟩ := x
  unfold aggV
  dsimp only
  go_enter Try.func42, Try.ntmps42
  go_wp2_with fail
  obtain ⟨hN1, hN2, hbw, hsz⟩ := boxes2 w ⟨k, i, gg, nm, fn, ar, by_, bt⟩ zeroF (.slice p len c) nilV
  unfold cells9 zeroF nilV at hN1 hN2 hbw hsz
  dsimp only at hN1 hN2 hbw hsz
  generalize ((w.alloc (.cells #[.int .i64 k, .int .i64 i, .int .i64 gg, .string nm, .string fn, .int .i64 ar, .slice p len c, .string by_, .int .i64 bt] 24)).alloc (.cells #[.int .i64 0, .int .i64 0, .int .i64 0, .string ⟨#[]⟩, .string ⟨#[]⟩, .int .i64 0, .slice none 0 0, .string ⟨#[]⟩, .int .i64 0] 24)) = W0 at *
  have HZ : Hid (W0.heap.size = w.heap.size + 2) := Lib.hid hsz
  have HZ1 : w.heap.size < W0.heap.size := by omega
  have HZ2 : w.heap.size + 1 < W0.heap.size := by omega
  clear hsz
  have HN1 := Lib.hid hN1
  have HN2 := Lib.hid hN2
  obtain ⟨x0, x1, x2, x3, x4, x5, x6, x7, x8, xz⟩ := hN1
  obtain ⟨y0, y1, y2, y3, y4, y5, y6, y7, y8, yz⟩ := hN2
  dsimp only at x0 x1 x2 x3 x4 x5 x6 x7 x8 y0 y1 y2 y3 y4 y5 y6 y7 y8
  have HCW := Lib.hid (HC.out W0 hbw)
  clear HC
  go_wp2_with fail
  refine HCW.out.mono ?_
  rintro e w1 ⟨F, g, rfl, hnew, hFg⟩
  have HNew := Lib.hid hnew
  have hb := hnew.below
  have HM1 := Lib.hid (HN1.out.below hb HZ1)
  have HM2 := Lib.hid (HN2.out.below hb HZ2)
  have hzz1 : w.heap.size < w1.heap.size := Nat.lt_of_lt_of_le HZ1 hb.size
  have hzz2 : w.heap.size + 1 < w1.heap.size := Nat.lt_of_lt_of_le HZ2 hb.size
  have hbb := hbw.trans (hb.mono hbw.size)
  clear x0 x1 x2 x3 x4 x5 x6 x7 x8 xz y0 y1 y2 y3 y4 y5 y6 y7 y8 yz hnew hb
  obtain ⟨x0, x1, x2, x3, x4, x5, x6, x7, x8, xz⟩ := HM1.out
  obtain ⟨y0, y1, y2, y3, y4, y5, y6, y7, y8, yz⟩ := HM2.out
  dsimp only at x0 x1 x2 x3 x4 x5 x6 x7 x8 y0 y1 y2 y3 y4 y5 y6 y7 y8
  go_wp2_with fail
  have hz2 := HZ.out
  have hinr := HNew.out.inr
  refine bodyPost_ret (v := (.agg #[.int .i64 k, .int .i64 i, .int .i64 gg, .string nm, .string fn, .int .i64 ar, .slice (some ⟨g, 0, none⟩) l.length l.length, .string by_, .int .i64 bt])) (by simp [results, Try.results42, go_sem, *]) rfl ⟨F, g, rfl, HNew.out.touch (S := fun k => k = w.heap.size ∨ k = w.heap.size + 1) (by (repeat' (first | with_reducible exact TouchB.refl _ _ | with_reducible refine TouchB.setCell ?_ _ _ (fun _ => Or.inl rfl) | with_reducible refine TouchB.setCell ?_ _ _ (fun _ => Or.inr rfl)))) (fun q hq => by have := hinr q hq; omega) (by (repeat' (first | with_reducible exact hbb | with_reducible refine Below.setCell ?_ ?_ _ | (simp; done) | (simp; omega)))) (by omega), hFg⟩
end Go.Proofs.Ythgfdpamnepnfaa.tm
/- A row of terms that grows within its room. No condition. -/
namespace Go.Proofs.Ythgfdpamnepnfaa.tm
open Go.RowKit mem names
set_option linter.unusedVariables false
set_option linter.unusedSimpArgs false
set_option maxHeartbeats 4000000
set_option maxRecDepth 100000

def EMono (B : Nat) (E : World → (Nat → Prop) → Nat → TF → Value → Prop) : Prop :=
  ∀ (w w' : World) (F F' : Nat → Prop) (j : Nat) (f : TF) (u : Value), (∀ g, F g → w'.heap[g]? = w.heap[g]?) → (∀ g, g < B → w'.heap[g]? = w.heap[g]?) → (∀ g, F g → F' g) → E w F j f u → E w' F' j f u
structure RowInv (E : World → (Nat → Prop) → Nat → TF → Value → Prop) (w wr : World) (cap k : Nat) (rs : List (TF × Value)) (F : Nat → Prop) : Prop where
  own : wr.ownsRow w.heap.size 24 9 (.slice (some ⟨w.heap.size, 0, none⟩) k cap) k (flatR rs)
  len : rs.length = k
  elt : ∀ j, (h : j < rs.length) → E wr F j rs[j].1 rs[j].2 ∧ PtrOK wr F w.heap.size rs[j].2
  typed : Typed wr F
  inr : ∀ g, F g → w.heap.size < g ∧ g < wr.heap.size
  below : Below w.heap.size w wr
  lt : w.heap.size < wr.heap.size
variable {E : World → (Nat → Prop) → Nat → TF → Value → Prop} {w wr : World} {cap k : Nat} {rs : List (TF × Value)} {F : Nat → Prop}
theorem RowInv.start (cs : Array Value) (hc : cap ≤ maxLen) (hs : cs.size = cap * 9) : RowInv E w (w.alloc (.cells cs 24)) cap 0 [] (fun _ => False) :=
  ⟨World.ownsRow_made w cs cap (Nat.le_refl _) hc hs, rfl, fun j h => by simp at h, fun g h => h.elim, fun g h => h.elim, (Below.refl _ _).alloc (Nat.le_refl _) _, by simp⟩
theorem RowInv.ownAt (h : RowInv E w wr cap k rs F) {w3 : World} (hb : Below wr.heap.size wr w3) : w3.ownsRow w.heap.size 24 9 (.slice (some ⟨w.heap.size, 0, none⟩) k cap) k (flatR rs) :=
  row_same h.own fun q hq => hb.block q (by
    have e : w.heap.size = q := by simpa [Value.ownBlock] using hq
    have := h.lt
    omega)
theorem RowInv.next (hE : EMono w.heap.size E) (h : RowInv E w wr cap k rs F) {w3 w4 : World} {F' : Nat → Prop} {f : TF} {u : Value} (hb : Below wr.heap.size wr w3) (h1 : E w3 F' k f u) (h2 : PtrOK w3 F' w.heap.size u) (h3 : Typed w3 F') (h4 : ∀ g, F' g → wr.heap.size ≤ g ∧ g < w3.heap.size)
    (hg : w3.grownBy w4 (some w.heap.size)) (hown : w4.ownsRow w.heap.size 24 9 (.slice (some ⟨w.heap.size, 0, none⟩) (k + 1) cap) (k + 1) (flatR rs ++ nineL f u)) : RowInv E w w4 cap (k + 1) (rs ++ [(f, u)]) (fun g => F g ∨ F' g) := by
  have hlt := h.lt
  have hsz := hb.size
  have hs3 : ∀ g, F g → w3.heap[g]? = wr.heap[g]? := fun g hg => hb.block g (h.inr g hg).2
  have hs4 : ∀ g, F g → w4.heap[g]? = wr.heap[g]? := fun g hF => (hg.block g (by have := (h.inr g hF).2; omega) (by have := (h.inr g hF).1; simp; omega)).trans (hs3 g hF)
  have hs4' : ∀ g, F' g → w4.heap[g]? = w3.heap[g]? := fun g hF => hg.block g (h4 g hF).2 (by have := (h4 g hF).1; simp; omega)
  have hl := h.len
  have hg4 := hg.size
  refine ⟨?_, by simp [hl], fun j hj => ?_, ?_, fun g hF => ?_, ?_, by omega⟩
  · rw [flatR_append]
    have e : flatR [(f, u)] = nineL f u := by simp [flatR]
    rw [e]; exact hown
  · by_cases e : j < rs.length
    · rw [List.getElem_append_left e]
      obtain ⟨a1, a2⟩ := h.elt j e
      exact ⟨hE _ _ _ _ _ _ _ hs4 (fun g hg' => (hg.block g (by omega) (by simp; omega)).trans (hb.block g (by omega))) (fun _ h => .inl h) a1, a2.mono hs4 (fun _ h => .inl h)⟩
    · have ej : j = rs.length := by simp at hj; omega
      subst ej
      rw [List.getElem_append_right (Nat.le_refl _)]
      simp only [Nat.sub_self, List.getElem_cons_zero]
      refine ⟨?_, h2.mono hs4' (fun _ h => .inr h)⟩
      rw [hl]
      exact hE _ _ _ _ _ _ _ hs4' (fun g hg' => hg.block g (by omega) (by simp; omega)) (fun _ h => .inr h) h1
  · exact (h.typed.same hs4).union (h3.same hs4')
  · rcases hF with hF | hF
    · have := h.inr g hF; omega
    · have := h4 g hF; omega
  · have hb1 := h.below.trans (hb.mono (by omega))
    exact ⟨hg.os.trans hb1.os, hg.tape.trans hb1.tape, hg.output.trans hb1.output, Nat.le_trans hb1.size hg.size, fun q hq => (hg.block q (by omega) (by simp; omega)).trans (hb1.block q hq)⟩
theorem RowInv.cells (h : RowInv E w wr cap k rs F) (j : Nat) (hj : j < rs.length) : Cells wr w.heap.size (j * 9) rs[j].1 rs[j].2 := row_cells h.own h.len j hj
/-- the whole room is used -/
theorem RowInv.full (h : RowInv E w wr cap k rs F) (hk : k = cap) : Typed wr (fun g => F g ∨ g = w.heap.size) := by
  have hown := h.own
  rcases hown.2 with ⟨h', _⟩ | ⟨g', cap', cur, h', hbg, hg, hnc, hcm, hcs, htake⟩
  · simp at h'
  · simp only [Value.slice.injEq, Option.some.injEq, Addr.mk.injEq, and_true, true_and] at h'
    obtain ⟨rfl, rfl⟩ := h'
    refine h.typed.add hg hcs fun j hj => ?_
    have hj' : j < rs.length := by rw [h.len]; omega
    exact ⟨_, _, h.cells j hj', (h.elt j hj').2⟩
theorem RowInv.root (h : RowInv E w wr cap k rs F) (m : Nat) (hm : m ≤ cap) (g : Nat) (hgw : g < w.heap.size) : PtrOK wr (fun g => F g ∨ g = w.heap.size) g (.slice (some ⟨w.heap.size, 0, none⟩) m cap) := by
  have hown := h.own
  rcases hown.2 with ⟨h', _⟩ | ⟨g', cap', cur, h', hbg, hg, hnc, hcm, hcs, htake⟩
  · simp at h'
  · simp only [Value.slice.injEq, Option.some.injEq, Addr.mk.injEq, and_true, true_and] at h'
    obtain ⟨rfl, rfl⟩ := h'
    exact ⟨_, _, _, rfl, .inr ⟨_, 0, cur, _, by rw [Nat.zero_mul], .inr rfl, hgw, hg, by rw [Nat.zero_add, hcs]; omega, by omega⟩⟩

/-! ### elements that have been copied -/
def EltIn (w : World) (F : Nat → Prop) : (n : Nat) → Tm n → TF → Value → Prop
  | 0, _, _, _ => False
  | n + 1, t, f, u => t.f = f ∧ ItemsIn w F n u t.items
theorem EltIn.mono {w w' : World} {F F' : Nat → Prop} (hs : ∀ g, F g → w'.heap[g]? = w.heap[g]?) (hF : ∀ g, F g → F' g) {n : Nat} {t : Tm n} {f : TF} {u : Value} (h : EltIn w F n t f u) : EltIn w' F' n t f u := by
  cases n with
  | zero => exact h
  | succ n => exact ⟨h.1, h.2.mono hs hF⟩
def EltL {n : Nat} (l : List (Tm n)) (w : World) (F : Nat → Prop) (j : Nat) (f : TF) (u : Value) : Prop := ∃ h : j < l.length, EltIn w F n l[j] f u
theorem eltL_mono {n : Nat} (l : List (Tm n)) (B : Nat) : EMono B (EltL l) := fun w w' F F' j f u h1 h2 h3 ⟨h, he⟩ => ⟨h, he.mono h1 h3⟩
theorem ItemsIn.mk {n : Nat} {w : World} {F : Nat → Prop} {g cap : Nat} (l : List (Tm n)) (rs : List (TF × Value)) (hl : rs.length = l.length) (hc : l.length ≤ cap) (hm : cap ≤ maxLen) (hF : F g) (h : ∀ j, (hj : j < rs.length) → Cells w g (j * 9) rs[j].1 rs[j].2 ∧ EltL l w F j rs[j].1 rs[j].2) : ItemsIn w F n (.slice (some ⟨g, 0, none⟩) l.length cap) l := by
  cases n with
  | zero =>
    have := Tm.nil0 l
    subst this
    exact ⟨_, _, rfl, hm⟩
  | succ n =>
    refine ⟨_, _, rfl, hc, hm, fun _ => ⟨g, 0, rfl, hF, fun j hj => ?_⟩⟩
    obtain ⟨h1, _, h2, h3⟩ := h j (by omega)
    refine ⟨_, ?_, h3⟩
    rw [Nat.zero_add, h2]
    exact h1
theorem make24 (W : World) (c : Int) (cap : Nat) (h : c = cap) (hc : cap ≤ 1000000000000) : (Instr.makeSlice 22 (.int .i64 0) (.int .i64 c)).run Try.prog W = .ok (.slice (some ⟨W.heap.size, 0, none⟩) 0 cap) (W.alloc (.cells (madeCells #[.int .i64 0, .int .i64 0, .int .i64 0, .string ⟨#[]⟩, .string ⟨#[]⟩, .int .i64 0, .slice none 0 0, .string ⟨#[]⟩, .int .i64 0] (cap * 9)) 24)) := by
  obtain ⟨i0, hi, hz, hs, hb⟩ := info_parts info24
  subst h
  have := run_make (P := Try.prog) W 22 24 i0 _ Try.underlying22 hi hz .i64 .i64 0 (cap : Int) (by omega) (by omega) (by rw [hb]; omega) (by omega)
  rw [hs] at this
  simp only [Int.toNat_natCast, Int.toNat_zero] at this
  exact this
end Go.Proofs.Ythgfdpamnepnfaa.tm
/- terms.copies, terms.Copy. Conditions: the terms lie in memory; they are few enough. -/
namespace Go.Proofs.Ythgfdpamnepnfaa.tm
open Go.RowKit mem names
set_option linter.unusedVariables false
set_option linter.unusedSimpArgs false
set_option maxHeartbeats 4000000
set_option maxRecDepth 100000

def CopyS (n : Nat) : Prop := ∀ (w : World) (B : Nat) (v : Value) (t : Tm (n + 1)), B ≤ w.heap.size → ItemsAt w B n v t.items → nodesT t ≤ 100000000 → Calls Try.prog 42 #[aggV t.f v] w (TPost t.f t.items w)
def CopiesS (n : Nat) : Prop := ∀ (w : World) (B : Nat) (v : Value) (l : List (Tm n)), B ≤ w.heap.size → ItemsAt w B n v l → nodesL n l ≤ 100000000 → Calls Try.prog 66 #[v] w (LPost l w)
/-- what a copied element gives -/
def EPost {n : Nat} (l : List (Tm n)) (j : Nat) (x : TF) (m : Nat) (w : World) (e : Ending) (w' : World) : Prop :=
  ∃ F g, e = .returned (aggV x (.slice (some ⟨g, 0, none⟩) m m)) ∧ EltL l w' F j x (.slice (some ⟨g, 0, none⟩) m m) ∧ (∀ q, F q → w.heap.size ≤ q ∧ q < w'.heap.size) ∧ Typed w' F ∧ (∀ q, q < w.heap.size → PtrOK w' F q (.slice (some ⟨g, 0, none⟩) m m)) ∧ Below w.heap.size w w'
theorem copyEl {n : Nat} (ih : ∀ m, n = m + 1 → CopyS m) (w : World) (B : Nat) (p : Option Addr) (len c : Nat) (l : List (Tm n)) (hB : B ≤ w.heap.size) (h1 : ItemsAt w B n (.slice p len c) l) (hs : nodesL n l ≤ 100000000) :
    ∀ j, (hj : j < l.length) → ∃ g o x q m d, p = some ⟨g, o, none⟩ ∧ g < w.heap.size ∧ Cells w g (o + j * 9) x (.slice q m d) ∧ ∀ W, Below w.heap.size w W → Calls Try.prog 42 #[aggV x (.slice q m d)] W (EPost l j x m W) := by
  cases n with
  | zero => intro j hj; rw [Tm.nil0 l] at hj; exact absurd hj (by simp)
  | succ n =>
    intro j hj
    obtain ⟨g, o, d, e, _, _, hg, hx⟩ := h1.at_ (by intro e; subst e; simp at hj)
    obtain ⟨u, hC, hI⟩ := hx j hj
    simp only [Value.slice.injEq] at e
    obtain ⟨q, c', rfl, _, _⟩ := hI.shape
    have hn := nodes_mem hj
    refine ⟨g, o, l[j].f, q, _, c', e.1, by omega, hC, fun W hb => ?_⟩
    refine (ih n rfl W B _ l[j] (Nat.le_trans hB hb.size) (hI.below hb hB) (by omega)).mono ?_
    rintro e w' ⟨F, g', rfl, hn, hF⟩
    exact ⟨F, g', rfl, ⟨hj, rfl, hn.items⟩, hn.inr, hn.typed, hn.ptr, hn.below⟩
set_option maxHeartbeats 400000 in
theorem copiesStep {n : Nat} (ih : ∀ m, n = m + 1 → CopyS m) : CopiesS n := by
  intro w B v l hB h1 hs
  have hlen := nodes_len n l
  obtain ⟨p, c, rfl, hc, hm⟩ := h1.shape
  have HP := Lib.hid (copyEl ih w B p l.length c l hB h1 hs)
  have hle : l.length ≤ 100000000 := by omega
  have hle2 : (l.length : Int) ≤ 100000000 := by omega
  have hmk := fun W => make24 W (l.length : Int) l.length rfl (by omega)
  clear ih h1 hs hlen hc hm
  obtain ⟨i0, hi0, hz0, hz1, hz2⟩ := info_parts info24
  go_enter Try.func66, Try.ntmps66
  go_wp2_with fail
  have HI : RowInv (EltL l) w (w.alloc (.cells (madeCells #[.int .i64 0, .int .i64 0, .int .i64 0, .string ⟨#[]⟩, .string ⟨#[]⟩, .int .i64 0, .slice none 0 0, .string ⟨#[]⟩, .int .i64 0] (l.length * 9)) 24)) l.length 0 [] (fun _ => False) := RowInv.start _ (by unfold maxLen; omega) (size_madeCells _ _)
  generalize (w.alloc (.cells (madeCells #[.int .i64 0, .int .i64 0, .int .i64 0, .string ⟨#[]⟩, .string ⟨#[]⟩, .int .i64 0, .slice none 0 0, .string ⟨#[]⟩, .int .i64 0] (l.length * 9)) 24)) = w0 at *
  go_loopw [3, 11] (fun s t wr => ∃ (k : Nat) (rs : List (TF × Value)) (F : Nat → Prop), s = .slice (some ⟨w.heap.size, 0, none⟩) k l.length ∧ t = .int .i64 k ∧ k ≤ l.length ∧ Hid (RowInv (EltL l) w wr l.length k rs F)) (fun _ t _ => l.length - (intOf t).toNat)
  case atStart => exact ⟨0, [], fun _ => False, rfl, rfl, by omega, Lib.hid HI⟩
  case round =>
    obtain ⟨k, rs, F, rfl, rfl, hk, HR⟩ := hrel
    by_cases hlt : k < l.length
    · obtain ⟨g, o, x, q, m, d, rfl, hg, hC, hCall⟩ := HP.out k hlt
      have HCall := Lib.hid hCall
      clear hCall
      have hC := hC.same (HR.out.below.block g hg)
      have hgr : g < wr.heap.size := Nat.lt_of_lt_of_le hg HR.out.below.size
      obtain ⟨x0, x1, x2, x3, x4, x5, x6, x7, x8⟩ := hC
      obtain ⟨kk, ii, gg, nm, fn, ar, by_, bt⟩ := x
      dsimp only at x0 x1 x2 x3 x4 x5 x6 x7 x8
      unfold EPost aggV at HCall
      dsimp only at HCall
      go_wp2_with fail
      have hb1 : Below wr.heap.size wr (wr.alloc (cells9 ⟨kk, ii, gg, nm, fn, ar, by_, bt⟩ (.slice q m d))) := (Below.refl _ _).alloc (Nat.le_refl _) _
      refine (HCall.out _ (HR.out.below.trans (hb1.mono HR.out.below.size))).mono ?_
      rintro e w2 ⟨F', g', rfl, hE, hin, hty, hpt, hb2⟩
      have hb2' : Below wr.heap.size wr w2 := hb1.trans (hb2.mono (by simp))
      have hb3 : Below w2.heap.size w2 (w2.alloc (cells9 ⟨kk, ii, gg, nm, fn, ar, by_, bt⟩ (.slice (some ⟨g', 0, none⟩) m m))) := (Below.refl _ _).alloc (Nat.le_refl _) _
      have hbw3 : Below wr.heap.size wr (w2.alloc (cells9 ⟨kk, ii, gg, nm, fn, ar, by_, bt⟩ (.slice (some ⟨g', 0, none⟩) m m))) := hb2'.trans (hb3.mono hb2'.size)
      have HS : ∀ g, F' g → (w2.alloc (cells9 ⟨kk, ii, gg, nm, fn, ar, by_, bt⟩ (.slice (some ⟨g', 0, none⟩) m m))).heap[g]? = w2.heap[g]? := fun g hg => hb3.block g (hin g hg).2
      have HE := Lib.hid (eltL_mono l w.heap.size _ _ _ _ _ _ _ HS (fun g hg => hb3.block g (Nat.lt_of_lt_of_le hg (Nat.le_trans HR.out.below.size hb2'.size))) (fun _ h => h) hE)
      have HPt := Lib.hid ((hpt w.heap.size (by have := HR.out.lt; simp; omega)).mono HS (fun _ h => h))
      have HTy := Lib.hid (hty.same HS)
      have HIn : Hid (∀ g, F' g → wr.heap.size ≤ g ∧ g < (w2.alloc (cells9 ⟨kk, ii, gg, nm, fn, ar, by_, bt⟩ (.slice (some ⟨g', 0, none⟩) m m))).heap.size) := Lib.hid (fun g hg => by have := hin g hg; simp at this ⊢; omega)
      have HOwn := Lib.hid (HR.out.ownAt hbw3)
      have HNC := Lib.hid (nine_cell w2 ⟨kk, ii, gg, nm, fn, ar, by_, bt⟩ (.slice (some ⟨g', 0, none⟩) m m))
      have HNO := Lib.hid (nine_one ⟨kk, ii, gg, nm, fn, ar, by_, bt⟩ (some ⟨g', 0, none⟩) m m)
      have HBW := Lib.hid hbw3
      clear hE hin hty hpt hb2 hb1 hb2' hb3 hbw3 HS
      unfold cells9 at HE HPt HTy HIn HOwn HNC HBW
      dsimp only at HE HPt HTy HIn HOwn HNC HBW
      go_wp2_with (at_builtin; refine wpList_append_fits rfl (.tmp 15) (.tmp 18) 22 rfl w.heap.size 24 i0 9 Try.underlying22 hi0 hz1 w.heap.size k l.length (flatR rs) rfl HOwn.out ⟨w2.heap.size, 0, none⟩ 1 1 (nineL ⟨kk, ii, gg, nm, fn, ar, by_, bt⟩ (.slice (some ⟨g', 0, none⟩) m m)) rfl rfl HNC.out HNO.out (by omega) ?_; intro w4 hown4 hg4)
      have HNext := Lib.hid (HR.out.next (eltL_mono l w.heap.size) HBW.out HE.out HPt.out HTy.out HIn.out hg4 hown4)
      go_roundw
      case rel => exact ⟨k + 1, _, _, rfl, by go_num, by omega, HNext⟩
      case measure => simp [intOf]; omega
    · obtain rfl : k = l.length := by omega
      have HT := Lib.hid (HR.out.full rfl)
      have HRt := Lib.hid (fun q hq => HR.out.root l.length (Nat.le_refl _) q hq)
      have hr := HR.out
      go_wp2_with fail
      go_ret
      refine ⟨fun g => F g ∨ g = w.heap.size, w.heap.size, rfl, ⟨?_, fun q hq => ?_, HT.out, HRt.out, hr.below⟩, .inr rfl⟩
      · exact ItemsIn.mk l rs hr.len (Nat.le_refl _) (by unfold maxLen; omega) (.inr rfl) (fun j hj => ⟨hr.cells j hj, eltL_mono l w.heap.size wr wr F _ _ _ _ (fun _ _ => rfl) (fun _ _ => rfl) (fun _ h => .inl h) (hr.elt j hj).1⟩)
      · rcases hq with hq | rfl
        · have := hr.inr q hq; omega
        · exact ⟨Nat.le_refl _, hr.lt⟩
theorem copyStep {n : Nat} (hC : CopiesS n) : CopyS n := by
  intro w B v t hB h1 hs
  obtain ⟨p, c, rfl, hc, hm⟩ := h1.shape
  refine copyT t.f p t.items.length c t.items w (fun W hb => hC W B _ t.items (Nat.le_trans hB hb.size) (h1.below hb hB) (by unfold nodesT at hs; omega))
theorem copiesAll : ∀ n, CopiesS n
  | 0 => copiesStep (fun m h => by omega)
  | n + 1 => copiesStep (fun m h => by obtain rfl : n = m := by omega
                                       exact copyStep (copiesAll n))
theorem copyAll (n : Nat) : CopyS n := copyStep (copiesAll n)
end Go.Proofs.Ythgfdpamnepnfaa.tm
