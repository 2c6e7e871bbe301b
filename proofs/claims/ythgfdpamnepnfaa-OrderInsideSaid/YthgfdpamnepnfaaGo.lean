/- Several texts in one, one behind the other: TnP, TnQ, TnR, TnS. No condition beyond theirs. -/
import Derived.Test.YthgfdpamnepnfaaGl
import Derived.Test.YthgfdpamnepnfaaGh
import Derived.Test.YthgfdpamnepnfaaGi
import Derived.BigRegion
import Derived.Deep.RegionHeld3
/- Sorting in place: the row, exchanges. Conditions: as said. -/
namespace Go.Proofs.Ythgfdpamnepnfaa.tm
open Go.RowKit mem names
set_option linter.unusedVariables false
set_option linter.unusedSimpArgs false
set_option maxHeartbeats 1000000
set_option maxRecDepth 100000

/-- nine stores -/
def set9 (w : World) (b o : Nat) (f : TF) (v : Value) : World :=
  ((((((((w.setCell ⟨b, o, none⟩ (.int .i64 f.kind)).setCell ⟨b, o + 1, none⟩ (.int .i64 f.int)).setCell ⟨b, o + 2, none⟩ (.int .i64 f.gen)).setCell ⟨b, o + 3, none⟩ (.string f.name)).setCell ⟨b, o + 4, none⟩ (.string f.func)).setCell ⟨b, o + 5, none⟩ (.int .i64 f.arity)).setCell ⟨b, o + 6, none⟩ v).setCell ⟨b, o + 7, none⟩ (.string f.bytes)).setCell ⟨b, o + 8, none⟩ (.int .i64 f.bits)
theorem flatR_set : ∀ (d : List (TF × Value)) (j : Nat) (f : TF) (v : Value), j < d.length →
    (((((((((flatR d).set (j * 9) (.int .i64 f.kind)).set (j * 9 + 1) (.int .i64 f.int)).set (j * 9 + 2) (.int .i64 f.gen)).set (j * 9 + 3) (.string f.name)).set (j * 9 + 4) (.string f.func)).set (j * 9 + 5) (.int .i64 f.arity)).set (j * 9 + 6) v).set (j * 9 + 7) (.string f.bytes)).set (j * 9 + 8) (.int .i64 f.bits) = flatR (d.set j (f, v))
  | r :: d, 0, f, v, _ => rfl
  | r :: d, j + 1, f, v, h => by
    have ih := flatR_set d j f v (by simpa using h)
    have e : ∀ (l : List Value) (k : Nat) (x : Value), (nineL r.1 r.2 ++ l).set ((j + 1) * 9 + k) x = nineL r.1 r.2 ++ l.set (j * 9 + k) x := fun l k x => by
      rw [List.set_append_right _ _ (by simp [nineL]; omega)]
      congr 2
      simp [nineL]; omega
    have e0 : ∀ (l : List Value) (x : Value), (nineL r.1 r.2 ++ l).set ((j + 1) * 9) x = nineL r.1 r.2 ++ l.set (j * 9) x := fun l x => e l 0 x
    show (((((((((nineL r.1 r.2 ++ flatR d).set _ _).set _ _).set _ _).set _ _).set _ _).set _ _).set _ _).set _ _).set _ _ = nineL r.1 r.2 ++ flatR (d.set j (f, v))
    rw [e0, e, e, e, e, e, e, e, e, ih]
theorem set9_row {w : World} {base b n cap : Nat} {d : List (TF × Value)} (h : w.ownsRow base 24 9 (.slice (some ⟨b, 0, none⟩) n cap) n (flatR d)) (j : Nat) (hj : j < d.length) (f : TF) (v : Value) :
    (set9 w b (j * 9) f v).ownsRow base 24 9 (.slice (some ⟨b, 0, none⟩) n cap) n (flatR (d.set j (f, v))) := by
  rw [← flatR_set d j f v hj]
  unfold set9
  exact ((((((((h.stored _ _).1.stored _ _).1.stored _ _).1.stored _ _).1.stored _ _).1.stored _ _).1.stored _ _).1.stored _ _).1.stored _ _ |>.1
theorem set9_touch (w : World) (b o : Nat) (f : TF) (v : Value) : TouchB (fun k => k = b) w (set9 w b o f v) := by
  unfold set9
  repeat' (first | with_reducible exact TouchB.refl _ _ | with_reducible refine TouchB.setCell ?_ _ _ (fun _ => rfl))
structure RowW {α : Type} (enc : α → TF × Value) (w0 wr : World) (b n cap : Nat) (d : List α) : Prop where
  own : wr.ownsRow 0 24 9 (.slice (some ⟨b, 0, none⟩) n cap) n (flatR (d.map enc))
  len : d.length = n
  touch : TouchB (fun k => k = b) w0 wr
variable {α : Type} {enc : α → TF × Value} {w0 wr : World} {b n cap : Nat} {d : List α}
theorem RowW.lt (h : RowW enc w0 wr b n cap d) : b < wr.heap.size := by
  rcases h.own.2 with ⟨h', _⟩ | ⟨g', cap', cur, h', hbg, hg, _⟩
  · simp at h'
  · simp only [Value.slice.injEq, Option.some.injEq, Addr.mk.injEq, and_true, true_and] at h'
    obtain ⟨rfl, rfl⟩ := h'
    exact (Array.getElem?_eq_some_iff.1 hg).1
theorem RowW.room (h : RowW enc w0 wr b n cap d) : n ≤ cap ∧ cap ≤ maxLen := by
  rcases h.own.2 with ⟨h', _⟩ | ⟨g', cap', cur, h', hbg, hg, h1, h2, _⟩
  · simp at h'
  · simp only [Value.slice.injEq, Option.some.injEq, Addr.mk.injEq, and_true, true_and] at h'
    obtain ⟨rfl, rfl⟩ := h'
    exact ⟨h1, h2⟩
theorem RowW.cells (h : RowW enc w0 wr b n cap d) (j : Nat) (hj : j < d.length) : Cells wr b (j * 9) (enc d[j]).1 (enc d[j]).2 := by
  have := row_cells h.own (by simp [h.len]) j (by simpa using hj)
  simpa using this
theorem RowW.frozen (h : RowW enc w0 wr b n cap d) (o : Nat) : wr.frozen? ⟨b, o, none⟩ = false := h.own.frozenAt o
theorem RowW.below (h : RowW enc w0 wr b n cap d) {w' : World} (hb : Below wr.heap.size wr w') (hw : w0.heap.size ≤ wr.heap.size) : RowW enc w0 w' b n cap d :=
  ⟨row_same h.own (fun q hq => hb.block q (by
    have e : b = q := by simpa [Value.ownBlock] using hq
    have := h.lt
    omega)), h.len, h.touch.ofBelow hb hw⟩
theorem RowW.drewN (h : RowW enc w0 wr b n cap d) (k : Nat) : RowW enc w0 (wr.drewN k) b n cap d := ⟨h.own, h.len, h.touch.drewN k⟩
theorem RowW.set (h : RowW enc w0 wr b n cap d) (j : Nat) (hj : j < d.length) (x : α) : RowW enc w0 (set9 wr b (j * 9) (enc x).1 (enc x).2) b n cap (d.set j x) := by
  refine ⟨?_, by simp [h.len], h.touch.trans (set9_touch _ _ _ _ _) (fun _ _ e => e)⟩
  rw [List.map_set]
  exact set9_row h.own j (by simpa using hj) _ _
/-- two places are exchanged -/
theorem RowW.swap (h : RowW enc w0 wr b n cap d) (i j : Nat) (hi : i < d.length) (hj : j < d.length) :
    RowW enc w0 (set9 (set9 wr b (i * 9) (enc d[j]).1 (enc d[j]).2) b (j * 9) (enc d[i]).1 (enc d[i]).2).drew b n cap ((d.set i d[j]).set j d[i]) :=
  ((h.set i hi d[j]).set j (by simpa using hj) d[i]).drewN 1
theorem swap_adj (P Q : List α) (y x : α) : (((P ++ y :: x :: Q).set P.length x).set (P.length + 1) y) = P ++ x :: y :: Q := by
  rw [List.set_append_right _ _ (Nat.le_refl _), List.set_append_right _ _ (by omega)]
  simp
theorem swap_adj' (P Q : List α) (y x : α) : (((P ++ y :: x :: Q).set (P.length + 1) y).set P.length x) = P ++ x :: y :: Q := by
  rw [List.set_append_right _ _ (by omega), List.set_append_right _ _ (Nat.le_refl _)]
  simp
/-- what is asked of a comparison: in every world of the sort -/
structure CmpW (enc : α → TF × Value) (w0 : World) (b : Nat) (g : Nat) (S : α → Prop) (c : α → α → Int) : Prop where
  shape : ∀ x, S x → ∃ p m k, (enc x).2 = .slice p m k
  call : ∀ W x y, TouchB (fun k => k = b) w0 W → S x → S y → Calls Try.prog g #[aggV (enc x).1 (enc x).2, aggV (enc y).1 (enc y).2] W (IPostC (c x y) W)
end Go.Proofs.Ythgfdpamnepnfaa.tm
/- slices.insertionSortCmpFunc at terms. Conditions: the comparison is a total preorder; the tags grow. -/
namespace Go.Proofs.Ythgfdpamnepnfaa.tm
open Go.RowKit mem names
set_option linter.unusedVariables false
set_option linter.unusedSimpArgs false
set_option maxHeartbeats 1000000
set_option maxRecDepth 100000

variable {α : Type} {enc : α → TF × Value} {w0 wr w : World} {b n cap : Nat} {d : List α} {S : α → Prop} {c : α → α → Int} {tg : α → Nat}
/-- less, or equal and earlier -/
def tlt (c : α → α → Int) (tg : α → Nat) (x y : α) : Prop := c x y < 0 ∨ (c x y = 0 ∧ tg x < tg y)
theorem tlt_trans (h : TP S c) {x y z : α} (hx : S x) (hy : S y) (hz : S z) (h1 : tlt c tg x y) (h2 : tlt c tg y z) : tlt c tg x z := by
  have k1 : c x y ≤ 0 := by rcases h1 with h | h <;> omega
  have k2 : c y z ≤ 0 := by rcases h2 with h | h <;> omega
  have k3 := h.trans x y z hx hy hz k1 k2
  by_cases e : c x z = 0
  · have := h.zero hx hy hz k1 k2 e
    rcases h1 with h1 | h1
    · omega
    · rcases h2 with h2 | h2
      · omega
      · exact .inr ⟨e, by omega⟩
  · exact .inl (by omega)
/-- one element is put in -/
structure InsInv (S : α → Prop) (c : α → α → Int) (tg : α → Nat) (S1 : List α) (x : α) (S2 : List α) : Prop where
  sorted : (S1 ++ S2).Pairwise (tlt c tg)
  tags : ∀ s ∈ S1 ++ S2, tg s < tg x
  less : ∀ s ∈ S2, tlt c tg x s
  ok : ∀ s ∈ S1 ++ x :: S2, S s
theorem InsInv.step {S1 S2 : List α} {x y : α} (h : InsInv S c tg (S1 ++ [y]) x S2) (hlt : c x y < 0) : InsInv S c tg S1 x (y :: S2) := by
  obtain ⟨h1, h2, h3, h4⟩ := h
  refine ⟨by simpa using h1, fun s hs => h2 s (by simpa using hs), fun s hs => ?_, fun s hs => h4 s (by simp at hs ⊢; rcases hs with h | h | h | h <;> simp [h])⟩
  rcases List.mem_cons.1 hs with rfl | hs
  · exact .inl hlt
  · exact h3 s hs
theorem InsInv.stop {S1 S2 : List α} {x : α} (htp : TP S c) (h : InsInv S c tg S1 x S2) (hs : ∀ T y, S1 = T ++ [y] → 0 ≤ c x y) : (S1 ++ x :: S2).Pairwise (tlt c tg) := by
  obtain ⟨h1, h2, h3, h4⟩ := h
  rw [List.pairwise_append] at h1 ⊢
  refine ⟨h1.1, List.pairwise_cons.2 ⟨h3, h1.2.1⟩, fun s hs1 t ht => ?_⟩
  rcases List.mem_cons.1 ht with rfl | ht
  · rcases List.eq_nil_or_concat S1 with rfl | ⟨T, y, rfl⟩
    · simp at hs1
    · rw [List.concat_eq_append] at *
      have hy := hs T y rfl
      have e := htp.anti t y
      have hyt : tlt c tg y t := by
        by_cases e0 : c y t = 0
        · exact .inr ⟨e0, h2 y (by simp)⟩
        · exact .inl (by omega)
      rcases List.mem_append.1 hs1 with hs2 | hs2
      · have : tlt c tg s y := (List.pairwise_append.1 h1.1).2.2 s hs2 y (by simp)
        exact tlt_trans htp (h4 s (by simp [hs2])) (h4 y (by simp)) (h4 t (by simp)) this hyt
      · simp at hs2; subst hs2; exact hyt
  · exact h1.2.2 s hs1 t ht
def SortPost (c : α → α → Int) (tg : α → Nat) (enc : α → TF × Value) (w0 : World) (b n cap : Nat) (A M C : List α) (e : Ending) (w' : World) : Prop :=
  e = .returned (.tuple #[]) ∧ ∃ M', M'.Perm M ∧ M'.Pairwise (tlt c tg) ∧ RowW enc w0 w' b n cap (A ++ M' ++ C)
theorem getElem_mid (P Q : List α) (x : α) {i : Nat} (hi : i = P.length) (h : i < (P ++ x :: Q).length) : (P ++ x :: Q)[i] = x := by
  subst hi
  rw [List.getElem_append_right (Nat.le_refl _)]
  simp
def InRow (enc : α → TF × Value) (w0 wr : World) (b n cap : Nat) (A C : List α) (S : α → Prop) (c : α → α → Int) (tg : α → Nat) (T U : List α) (x : α) (a j : Nat) : Prop :=
  ∃ S1 S2, a + S1.length = j ∧ InsInv S c tg S1 x S2 ∧ (S1 ++ S2).Perm T ∧ RowW enc w0 wr b n cap (A ++ (S1 ++ x :: S2 ++ U) ++ C)
theorem RowW.cellsAt {P Q : List α} {x : α} (h : RowW enc w0 wr b n cap (P ++ x :: Q)) {i : Nat} (hi : P.length = i) : Cells wr b (i * 9) (enc x).1 (enc x).2 := by
  have := h.cells i (by simp; omega)
  rwa [getElem_mid P Q x hi.symm] at this
theorem RowW.swapAdj {P Q : List α} {x y : α} (h : RowW enc w0 wr b n cap (P ++ y :: x :: Q)) {jp : Nat} (hi : P.length = jp) : RowW enc w0 (set9 (set9 wr b ((jp + 1) * 9) (enc y).1 (enc y).2) b (jp * 9) (enc x).1 (enc x).2).drew b n cap (P ++ x :: y :: Q) := by
  subst hi
  have := h.swap (P.length + 1) P.length (by simp) (by simp)
  rw [getElem_mid P (x :: Q) y rfl, show (P ++ y :: x :: Q)[P.length + 1]'(by simp) = x by rw [List.getElem_append_right (by omega)]; simp, swap_adj'] at this
  exact this
theorem InRow.drewN {A C T U : List α} {x : α} {a j : Nat} (h : InRow enc w0 wr b n cap A C S c tg T U x a j) (q : Nat) : InRow enc w0 (wr.drewN q) b n cap A C S c tg T U x a j := by
  obtain ⟨S1, S2, h1, h2, h3, h4⟩ := h
  exact ⟨S1, S2, h1, h2, h3, h4.drewN q⟩
def OutRow (enc : α → TF × Value) (w0 wr : World) (b n cap : Nat) (A M C : List α) (c : α → α → Int) (tg : α → Nat) (a i : Nat) : Prop :=
  ∃ T0 T U, a + T.length = i ∧ M = T0 ++ U ∧ T.Perm T0 ∧ T.Pairwise (tlt c tg) ∧ RowW enc w0 wr b n cap (A ++ (T ++ U) ++ C)
/-- the next element is taken in hand -/
theorem OutRow.take {A M C : List α} {a i e : Nat} (h : OutRow enc w0 wr b n cap A M C c tg a i) (he : a + M.length = e) (hi : i < e) (hS : ∀ x ∈ M, S x) (hT : M.Pairwise (fun x y => tg x < tg y)) :
    ∃ T0 T U x, a + T0.length = i ∧ M = T0 ++ x :: U ∧ T.Perm T0 ∧ S x ∧ InRow enc w0 wr b n cap A C S c tg T U x a i := by
  obtain ⟨T0, T, U, h1, h2, h3, h4, h5⟩ := h
  have hl := h3.length_eq
  cases U with
  | nil => subst h2; simp at he; omega
  | cons x U =>
    have hx : S x := hS x (by rw [h2]; simp)
    refine ⟨T0, T, U, x, by omega, h2, h3, hx, T, [], h1, ⟨by simpa using h4, fun s hs => ?_, fun s hs => by simp at hs, fun s hs => ?_⟩, by simp, by simpa using h5⟩
    · rw [List.append_nil] at hs
      rw [h2, List.pairwise_append] at hT
      exact hT.2.2 s (h3.mem_iff.1 hs) x (by simp)
    · rcases List.mem_append.1 hs with hs | hs
      · exact hS s (by rw [h2]; simp [h3.mem_iff.1 hs])
      · simp at hs; subst hs; exact hx
/-- the next element has been put in -/
theorem InRow.done {A M C T0 T U : List α} {x : α} {a i j : Nat} (htp : TP S c) (h : InRow enc w0 wr b n cap A C S c tg T U x a j) (hM : M = T0 ++ x :: U) (hT : T.Perm T0) (hi : a + T0.length = i) (hs : ∀ S1 S2, a + S1.length = j → RowW enc w0 wr b n cap (A ++ (S1 ++ x :: S2 ++ U) ++ C) → ∀ R y, S1 = R ++ [y] → 0 ≤ c x y) : OutRow enc w0 wr b n cap A M C c tg a (i + 1) := by
  obtain ⟨S1, S2, h1, h2, h3, h4⟩ := h
  have hl := (h3.trans hT).length_eq
  refine ⟨T0 ++ [x], S1 ++ x :: S2, U, by simp at hl ⊢; omega, by simp [hM], ?_, h2.stop htp (hs S1 S2 h1 h4), h4⟩
  exact (List.perm_middle).trans ((List.Perm.cons x (h3.trans hT)).trans (List.perm_append_singleton x T0).symm)
/-- the element before the one in hand -/
theorem InRow.before {A C T U : List α} {x : α} {a j : Nat} (h : InRow enc w0 wr b n cap A C S c tg T U x a j) (hA : A.length = a) (hj : a < j) : ∃ jp P y Q, j = jp + 1 ∧ P.length = jp ∧ S x ∧ S y ∧ RowW enc w0 wr b n cap (P ++ y :: x :: Q) ∧ jp + 1 < n ∧
    (∀ S1 S2, a + S1.length = j → RowW enc w0 wr b n cap (A ++ (S1 ++ x :: S2 ++ U) ++ C) → ∀ R y', S1 = R ++ [y'] → RowW enc w0 wr b n cap (P ++ y :: x :: Q) → True) ∧
    (c x y < 0 → ∀ w', RowW enc w0 w' b n cap (P ++ x :: y :: Q) → InRow enc w0 w' b n cap A C S c tg T U x a jp) ∧
    (∀ w', RowW enc w0 w' b n cap (P ++ y :: x :: Q) → InRow enc w0 w' b n cap A C S c tg T U x a j) ∧
    (0 ≤ c x y → ∀ M T0 w', TP S c → RowW enc w0 w' b n cap (P ++ y :: x :: Q) → M = T0 ++ x :: U → T.Perm T0 → OutRow enc w0 w' b n cap A M C c tg a (a + T0.length + 1)) := by
  obtain ⟨S1, S2, h1, h2, h3, h4⟩ := h
  rcases List.eq_nil_or_concat S1 with rfl | ⟨R, y, rfl⟩
  · simp at h1; omega
  rw [List.concat_eq_append] at *
  have eq : ∀ (p q : α), A ++ (R ++ p :: q :: S2 ++ U) ++ C = (A ++ R) ++ p :: q :: (S2 ++ U ++ C) := fun p q => by simp
  have eq1 : A ++ (R ++ [y] ++ x :: S2 ++ U) ++ C = (A ++ R) ++ y :: x :: (S2 ++ U ++ C) := by simp
  have h4' := h4
  rw [eq1] at h4'
  have hl := h4'.len
  have h1' : a + R.length + 1 = j := by simp at h1; omega
  refine ⟨a + R.length, A ++ R, y, S2 ++ U ++ C, h1'.symm, by simp [hA], h2.ok x (by simp), h2.ok y (by simp), h4', by simp at hl; omega, fun _ _ _ _ _ _ _ _ => trivial, fun hlt w' hw => ?_, fun w' hw => ?_, fun hge M T0 w' htp hw hM hT => ?_⟩
  · refine ⟨R, y :: S2, rfl, h2.step hlt, by simpa using h3, ?_⟩
    rw [eq x y]; exact hw
  · refine ⟨R ++ [y], S2, by simp; omega, h2, h3, ?_⟩
    rw [eq1]; exact hw
  · have hll := (h3.trans hT).length_eq
    refine ⟨T0 ++ [x], R ++ [y] ++ x :: S2, U, by simp at hll ⊢; omega, by simp [hM], ?_, h2.stop htp (fun R' y' e => ?_), ?_⟩
    · exact (List.perm_middle).trans ((List.Perm.cons x (h3.trans hT)).trans (List.perm_append_singleton x T0).symm)
    · have := List.append_inj_right' e (by simp)
      simp at this; subst this; exact hge
    · rw [eq1]; exact hw
set_option maxHeartbeats 2000000 in
theorem insSort (hC : CmpW enc w0 b 14 S c) (htp : TP S c) (A M C : List α) (hS : ∀ x ∈ M, S x) (hT : M.Pairwise (fun x y => tg x < tg y)) (h : RowW enc w0 w b n cap (A ++ M ++ C)) (a e : Nat) (ha : A.length = a) (he : a + M.length = e) (hn : n ≤ 1000000) :
    Calls Try.prog 82 #[.slice (some ⟨b, 0, none⟩) n cap, .int .i64 a, .int .i64 e, .func (.func 14) #[] #[]] w (SortPost c tg enc w0 b n cap A M C) := by
  have hlen := h.len
  have hen : e ≤ n := by rw [← hlen]; simp; omega
  by_cases hM : M = []
  · subst hM
    simp at he
    subst he
    go_enter Try.func82, Try.ntmps82
    go_wp2_with fail
    refine wp_loop_rounds 1 ?_
    rw [rounds_succ]
    go_wp2_with fail
    go_end0
    exact ⟨rfl, [], by simp, by simp, by simpa using h⟩
  have hae : a < e := by have := List.length_pos_iff.2 hM; omega
  have HTake := Lib.hid (fun wr i (h : OutRow enc w0 wr b n cap A M C c tg a i) (hi : i < e) => h.take he hi hS hT)
  have HStart : Hid (OutRow enc w0 w b n cap A M C c tg a (a + 1)) := Lib.hid (by
    cases M with
    | nil => exact absurd rfl hM
    | cons x M => exact ⟨[x], [x], M, rfl, rfl, List.Perm.refl _, by simp, by simpa using h⟩)
  have HEnd : Hid (∀ wr, OutRow enc w0 wr b n cap A M C c tg a e → ∃ M', M'.Perm M ∧ M'.Pairwise (tlt c tg) ∧ RowW enc w0 wr b n cap (A ++ M' ++ C)) := Lib.hid (by
    rintro wr ⟨T0, T, U, h1, h2, h3, h4, h5⟩
    have hl := h3.length_eq
    have hU : U = [] := by
      have := congrArg List.length h2
      simp at this
      exact List.eq_nil_of_length_eq_zero (by omega)
    subst hU
    rw [List.append_nil] at h2 h5
    subst h2
    exact ⟨T, h3, h4, h5⟩)
  have HA := Lib.hid ha
  have HSh := Lib.hid hC.shape
  have HCall := Lib.hid hC.call
  have HTP := Lib.hid htp
  clear hS hT ha he hlen h hM hC htp
  go_enter Try.func82, Try.ntmps82
  go_wp2_with fail
  go_loopw [8] (fun s wr => ∃ i : Nat, s = .int .i64 i ∧ a < i ∧ i ≤ e ∧ Hid (OutRow enc w0 wr b n cap A M C c tg a i)) (fun s _ => e - (intOf s).toNat)
  case atStart => exact ⟨a + 1, by go_num, by omega, by omega, HStart⟩
  case round =>
    obtain ⟨i, rfl, hai, hie, HR⟩ := hrel
    by_cases hlt : i < e
    · obtain ⟨T0, T, U, x, hi0, hM, hT, hSx, hIn⟩ := HTake.out wr i HR.out hlt
      have HM := Lib.hid hM
      have HT := Lib.hid hT
      have HIn := Lib.hid hIn
      have HI0 := Lib.hid hi0
      have hsx := HSh.out x hSx
      clear hM hT hIn HR hi0
      go_wp2_with fail
      obtain ⟨wo, rfl⟩ : ∃ wo : World, wo = wr := ⟨_, rfl⟩
      go_loopw [9] (fun s wr => ∃ j : Nat, s = .int .i64 j ∧ a ≤ j ∧ j ≤ i ∧ Hid (InRow enc w0 wr b n cap A C S c tg T U x a j)) (fun s _ => (intOf s).toNat)
      case atStart => exact ⟨i, rfl, by omega, by omega, HIn⟩
      case round =>
        obtain ⟨j, rfl, haj, hji, HJ⟩ := hrel
        by_cases hlj : a < j
        · obtain ⟨jp, P, y, Q, rfl, hP, _, hSy, hRow, hjn, _, hMove, _, hDone⟩ := HJ.out.before HA.out hlj
          have HMove := Lib.hid hMove
          have HDone := Lib.hid hDone
          have HRow := Lib.hid hRow
          have HP := Lib.hid hP
          have hsy := HSh.out y hSy
          have hcx : Cells wr b ((jp + 1) * 9) (enc x).1 (enc x).2 := RowW.cellsAt (P := P ++ [y]) (Q := Q) (by simpa using hRow) (by simp [hP])
          have hcy : Cells wr b (jp * 9) (enc y).1 (enc y).2 := hRow.cellsAt hP
          have hbl : b < wr.heap.size := hRow.lt
          have HC := Lib.hid (HCall.out wr.drew x y (hRow.touch.drewN 1) hSx hSy)
          have HFz : Hid (∀ o, wr.frozen? ⟨b, o, none⟩ = false) := Lib.hid (fun o => hRow.frozen o)
          obtain ⟨p1, m1, c1, ex⟩ := hsx
          obtain ⟨p2, m2, c2, ey⟩ := hsy
          have hZc : ∃ z, c x y = z := ⟨_, rfl⟩
          obtain ⟨z, hz⟩ := hZc
          have HZ := Lib.hid hz
          rw [hz] at HC
          obtain ⟨X, eX⟩ : ∃ X, enc x = X := ⟨_, rfl⟩
          obtain ⟨Y, eY⟩ : ∃ Y, enc y = Y := ⟨_, rfl⟩
          have HEX := Lib.hid eX
          have HEY := Lib.hid eY
          rw [eX] at hcx HC ex
          rw [eY] at hcy HC ey
          obtain ⟨⟨k1, i1, g1, n1, fn1, a1, by1, s1⟩, v1⟩ := X
          obtain ⟨⟨k2, i2, g2, n2, fn2, a2, by2, s2⟩, v2⟩ := Y
          dsimp only at hcx hcy HC ex ey
          subst ex
          subst ey
          clear eX eY hz hP hRow hMove hDone
          have HA1 := Lib.hid hcx
          have HB1 := Lib.hid hcy
          unfold aggV IPostC at HC
          dsimp only at HC
          obtain ⟨x0, x1, x2, x3, x4, x5, x6, x7, x8⟩ := hcx
          obtain ⟨y0, y1, y2, y3, y4, y5, y6, y7, y8⟩ := hcy
          dsimp only at x0 x1 x2 x3 x4 x5 x6 x7 x8 y0 y1 y2 y3 y4 y5 y6 y7 y8
          have r1 : (a : Int) < (jp : Int) + 1 := by omega
          have r2 : (jp : Int) + 1 < (n : Int) := by omega
          have r3 : (jp : Int) < (n : Int) := by omega
          have r4 : (0 : Int) ≤ (jp : Int) + 1 := by omega
          have r5 : ((jp : Int) + 1).toNat = jp + 1 := by omega
          have r6 : IntKind.i64.wrap (jp : Int) = (jp : Int) := IntWalk.i64_in _ (by omega)
          by_cases hlz : z < 0
          · have q1 : decide (z < 0) = true := decide_eq_true hlz
            go_wp2_with fail
            go_region_held3 (fun w' => (w'.cell? ⟨b, (jp + 1) * 9, none⟩ = some (.int .i64 k1) ∧ w'.cell? ⟨b, (jp + 1) * 9 + 1, none⟩ = some (.int .i64 i1) ∧ w'.cell? ⟨b, (jp + 1) * 9 + 1 + 1, none⟩ = some (.int .i64 g1) ∧ w'.cell? ⟨b, (jp + 1) * 9 + 1 + 1 + 1, none⟩ = some (.string n1) ∧ w'.cell? ⟨b, (jp + 1) * 9 + 1 + 1 + 1 + 1, none⟩ = some (.string fn1) ∧ w'.cell? ⟨b, (jp + 1) * 9 + 1 + 1 + 1 + 1 + 1, none⟩ = some (.int .i64 a1) ∧ w'.cell? ⟨b, (jp + 1) * 9 + 1 + 1 + 1 + 1 + 1 + 1, none⟩ = some (.slice p1 m1 c1) ∧ w'.cell? ⟨b, (jp + 1) * 9 + 1 + 1 + 1 + 1 + 1 + 1 + 1, none⟩ = some (.string by1) ∧ w'.cell? ⟨b, (jp + 1) * 9 + 1 + 1 + 1 + 1 + 1 + 1 + 1 + 1, none⟩ = some (.int .i64 s1)) ∧ w'.cell? ⟨b, jp * 9, none⟩ = some (.int .i64 k2) ∧ w'.cell? ⟨b, jp * 9 + 1, none⟩ = some (.int .i64 i2) ∧ w'.cell? ⟨b, jp * 9 + 1 + 1, none⟩ = some (.int .i64 g2) ∧ w'.cell? ⟨b, jp * 9 + 1 + 1 + 1, none⟩ = some (.string n2) ∧ w'.cell? ⟨b, jp * 9 + 1 + 1 + 1 + 1, none⟩ = some (.string fn2) ∧ w'.cell? ⟨b, jp * 9 + 1 + 1 + 1 + 1 + 1, none⟩ = some (.int .i64 a2) ∧ w'.cell? ⟨b, jp * 9 + 1 + 1 + 1 + 1 + 1 + 1, none⟩ = some (.slice p2 m2 c2) ∧ w'.cell? ⟨b, jp * 9 + 1 + 1 + 1 + 1 + 1 + 1 + 1, none⟩ = some (.string by2) ∧ w'.cell? ⟨b, jp * 9 + 1 + 1 + 1 + 1 + 1 + 1 + 1 + 1, none⟩ = some (.int .i64 s2)) (go_keep)
              (first
                | (go_at_call 14; (with_reducible refine HC.out.mono ?_); rintro e5 w5 ⟨rfl, hb5⟩; have HA5 := Lib.hid (HA1.out.same (hb5.block b hbl)); have HB5 := Lib.hid (HB1.out.same (hb5.block b hbl)); obtain ⟨z0, z1, z2, z3, z4, z5, z6, z7, z8⟩ := HA5.out; obtain ⟨t0, t1, t2, t3, t4, t5, t6, t7, t8⟩ := HB5.out; dsimp only at z0 z1 z2 z3 z4 z5 z6 z7 z8 t0 t1 t2 t3 t4 t5 t6 t7 t8))
            have hr5 : RowW enc w0 w5 b n cap (P ++ y :: x :: Q) := (HRow.out.drewN 1).below hb5 HRow.out.touch.size
            have hfin := hr5.swapAdj HP.out
            rw [HEX.out, HEY.out] at hfin
            unfold set9 at hfin
            dsimp only at hfin
            have HFin := Lib.hid (HMove.out (by rw [HZ.out]; exact hlz) _ hfin)
            have hfz5 : ∀ o, w5.frozen? ⟨b, o, none⟩ = false := fun o => hr5.frozen o
            clear hr5 hfin hb5 HC HA1 HB1 HA5 HB5 HRow HDone HMove HFz x0 x1 x2 x3 x4 x5 x6 x7 x8 y0 y1 y2 y3 y4 y5 y6 y7 y8
            go_wp2_with fail
            go_big_region
            go_wp2_with fail
            go_roundw
            case rel => exact ⟨jp, by go_num, by omega, by omega, HFin⟩
            case measure => simp [intOf]
          · have q1 : decide (z < 0) = false := decide_eq_false hlz
            go_wp2_with fail
            go_region_held3 (fun w' => (w'.cell? ⟨b, (jp + 1) * 9, none⟩ = some (.int .i64 k1) ∧ w'.cell? ⟨b, (jp + 1) * 9 + 1, none⟩ = some (.int .i64 i1) ∧ w'.cell? ⟨b, (jp + 1) * 9 + 1 + 1, none⟩ = some (.int .i64 g1) ∧ w'.cell? ⟨b, (jp + 1) * 9 + 1 + 1 + 1, none⟩ = some (.string n1) ∧ w'.cell? ⟨b, (jp + 1) * 9 + 1 + 1 + 1 + 1, none⟩ = some (.string fn1) ∧ w'.cell? ⟨b, (jp + 1) * 9 + 1 + 1 + 1 + 1 + 1, none⟩ = some (.int .i64 a1) ∧ w'.cell? ⟨b, (jp + 1) * 9 + 1 + 1 + 1 + 1 + 1 + 1, none⟩ = some (.slice p1 m1 c1) ∧ w'.cell? ⟨b, (jp + 1) * 9 + 1 + 1 + 1 + 1 + 1 + 1 + 1, none⟩ = some (.string by1) ∧ w'.cell? ⟨b, (jp + 1) * 9 + 1 + 1 + 1 + 1 + 1 + 1 + 1 + 1, none⟩ = some (.int .i64 s1)) ∧ w'.cell? ⟨b, jp * 9, none⟩ = some (.int .i64 k2) ∧ w'.cell? ⟨b, jp * 9 + 1, none⟩ = some (.int .i64 i2) ∧ w'.cell? ⟨b, jp * 9 + 1 + 1, none⟩ = some (.int .i64 g2) ∧ w'.cell? ⟨b, jp * 9 + 1 + 1 + 1, none⟩ = some (.string n2) ∧ w'.cell? ⟨b, jp * 9 + 1 + 1 + 1 + 1, none⟩ = some (.string fn2) ∧ w'.cell? ⟨b, jp * 9 + 1 + 1 + 1 + 1 + 1, none⟩ = some (.int .i64 a2) ∧ w'.cell? ⟨b, jp * 9 + 1 + 1 + 1 + 1 + 1 + 1, none⟩ = some (.slice p2 m2 c2) ∧ w'.cell? ⟨b, jp * 9 + 1 + 1 + 1 + 1 + 1 + 1 + 1, none⟩ = some (.string by2) ∧ w'.cell? ⟨b, jp * 9 + 1 + 1 + 1 + 1 + 1 + 1 + 1 + 1, none⟩ = some (.int .i64 s2)) (go_keep)
              (first
                | (go_at_call 14; (with_reducible refine HC.out.mono ?_); rintro e5 w5 ⟨rfl, hb5⟩; have HA5 := Lib.hid (HA1.out.same (hb5.block b hbl)); have HB5 := Lib.hid (HB1.out.same (hb5.block b hbl)); obtain ⟨z0, z1, z2, z3, z4, z5, z6, z7, z8⟩ := HA5.out; obtain ⟨t0, t1, t2, t3, t4, t5, t6, t7, t8⟩ := HB5.out; dsimp only at z0 z1 z2 z3 z4 z5 z6 z7 z8 t0 t1 t2 t3 t4 t5 t6 t7 t8))
            have hr5 : RowW enc w0 w5 b n cap (P ++ y :: x :: Q) := (HRow.out.drewN 1).below hb5 HRow.out.touch.size
            have HFin := Lib.hid (HDone.out (by rw [HZ.out]; omega) M T0 w5 HTP.out hr5 HM.out HT.out)
            rw [HI0.out] at HFin
            clear hr5 hb5 HC HA1 HB1 HA5 HB5 HRow HDone HMove HFz x0 x1 x2 x3 x4 x5 x6 x7 x8 y0 y1 y2 y3 y4 y5 y6 y7 y8
            go_wp2_with fail
            go_roundw
            case rel => exact ⟨i + 1, by go_num, by omega, by omega, HFin⟩
            case measure => simp [intOf]; omega
        · have hja : j = a := by omega
          have HJA := Lib.hid hja
          have q1 : ¬ ((a : Int) < (j : Int)) := by omega
          have q2 : decide ((a : Int) < (j : Int)) = false := decide_eq_false q1
          have q3 : ¬ a < j := by omega
          have q4 : decide (a < j) = false := decide_eq_false q3
          clear hja hlj
          have HJ2 := Lib.hid (HJ.out.drewN 1)
          go_wp2_with fail
          go_big_region
          change Hid (InRow enc w0 wr.drew b n cap A C S c tg T U x a j) at HJ2
          generalize wr.drew = w5 at *
          go_wp2_with fail
          go_roundw
          case rel => exact ⟨i + 1, by go_num, by omega, by omega, Lib.hid (HJ2.out.done HTP.out HM.out HT.out HI0.out (fun S1 S2 h1 _ R y e => by subst e; have := HJA.out; simp at h1; omega))⟩
          case measure => simp [intOf]; omega
    · obtain rfl : i = e := by omega
      go_wp2_with fail
      go_end0
      exact ⟨rfl, HEnd.out _ HR.out⟩
end Go.Proofs.Ythgfdpamnepnfaa.tm
/- Stable order: one list alone is it. No condition. -/
namespace Go.Proofs.Ythgfdpamnepnfaa.tm
set_option linter.unusedVariables false
set_option linter.unusedSimpArgs false

theorem tpV {n : Nat} : TP (fun _ : Tm (n + 1) => True) (cmpV (n := n)) := by
  have h := (ordT (n + 1)).tp
  refine ⟨fun a b => ?_, fun a b => ?_, fun a b d _ _ _ x y => ?_⟩
  · unfold cmpV
    repeat' split
    all_goals first | exact h.range a b | simp
  · have e := h.anti a b
    unfold cmpV
    by_cases ha : validT a = true <;> by_cases hb : validT b = true <;> simp [ha, hb, e]
  · unfold cmpV at *
    by_cases ha : validT a = true <;> by_cases hb : validT b = true <;> by_cases hd : validT d = true <;> simp [ha, hb, hd] at x y ⊢
    exact h.trans a b d (valid_formed ha) (valid_formed hb) (valid_formed hd) x y
variable {β : Type} {c : β → β → Int}
def leB (c : β → β → Int) (x y : β) : Bool := decide (c x y ≤ 0)
theorem sort_unique (h : TP (fun _ => True) c) (l : List β) (p : List (Nat × β)) (hp : (p.map fun x => (x.2, x.1)).Perm l.zipIdx) (hs : p.Pairwise (tlt (fun x y : Nat × β => c x.2 y.2) (fun x => x.1))) : p.map (fun x => x.2) = l.mergeSort (leB c) := by
  rw [← List.mergeSort_zipIdx]
  have htr : ∀ a b d, leB c a b = true → leB c b d = true → leB c a d = true := fun a b d x y => by
    unfold leB at *
    rw [decide_eq_true_eq] at *
    exact h.trans a b d trivial trivial trivial x y
  have hto : ∀ a b, (leB c a b || leB c b a) = true := fun a b => by
    unfold leB
    have := h.anti a b
    rw [Bool.or_eq_true, decide_eq_true_eq, decide_eq_true_eq]; omega
  have e : (p.map fun x => (x.2, x.1)) = l.zipIdx.mergeSort (List.zipIdxLE (leB c)) := by
    refine List.Perm.eq_of_pairwise (le := fun a b => List.zipIdxLE (leB c) a b = true) ?_ ?_ ?_ (hp.trans (List.mergeSort_perm _ _).symm)
    · rintro ⟨a, i⟩ ⟨b, j⟩ ha hb h1 h2
      have hij : i = j := by
        unfold List.zipIdxLE leB at h1 h2
        have := h.anti a b
        simp only [decide_eq_true_eq] at h1 h2
        repeat' split at h1
        all_goals (repeat' split at h2)
        all_goals first | (cases h1; done) | (cases h2; done) | (simp at h1 h2; omega) | omega
      subst hij
      have ha' := hp.mem_iff.1 ha
      have hb' := List.mem_mergeSort.1 hb
      rw [List.mk_mem_zipIdx_iff_getElem?] at ha' hb'
      rw [ha'] at hb'
      simp only [Option.some.injEq] at hb'
      rw [hb']
    · rw [List.pairwise_map]
      refine hs.imp ?_
      rintro ⟨i, a⟩ ⟨j, b⟩ h1
      unfold tlt at h1
      unfold List.zipIdxLE leB
      dsimp only at h1 ⊢
      have := h.anti a b
      rcases h1 with h1 | ⟨h1, h2⟩
      · rw [if_pos (by rw [decide_eq_true_eq]; omega), if_neg (by rw [decide_eq_true_eq]; omega)]
      · rw [if_pos (by rw [decide_eq_true_eq]; omega), if_pos (by rw [decide_eq_true_eq]; omega)]
        exact decide_eq_true (by omega)
    · exact List.pairwise_mergeSort (List.zipIdxLE_trans htr) (List.zipIdxLE_total hto) _
  rw [← e, List.map_map]
  rfl
end Go.Proofs.Ythgfdpamnepnfaa.tm
/- order.Sort. Conditions: the terms lie in memory; they are few enough. -/
namespace Go.Proofs.Ythgfdpamnepnfaa.tm
open Go.RowKit mem names
set_option linter.unusedVariables false
set_option linter.unusedSimpArgs false
set_option maxHeartbeats 1000000
set_option maxRecDepth 100000

/-- what slices.SortStableFunc does with at most N terms -/
def StableS (N : Nat) : Prop := ∀ (α : Type) (enc : α → TF × Value) (w0 w : World) (b n cap : Nat) (S : α → Prop) (c : α → α → Int) (tg : α → Nat) (M : List α), CmpW enc w0 b 14 S c → TP S c → (∀ x ∈ M, S x) → M.Pairwise (fun x y => tg x < tg y) → RowW enc w0 w b n cap M → n ≤ N →
  Calls Try.prog 43 #[.slice (some ⟨b, 0, none⟩) n cap, .func (.func 14) #[] #[]] w (SortPost c tg enc w0 b n cap [] M [])
theorem stable19 : StableS 19 := by
  intro α enc w0 w b n cap S c tg M hC htp hS hT h hn
  have hI := fun (w : World) (h : RowW enc w0 w b n cap M) => insSort (w := w) (cap := cap) hC htp [] M [] hS hT (by simpa using h) 0 n rfl (by have := h.len; omega) (by omega)
  have HI := Lib.hid hI
  have HR := Lib.hid h
  have hS67 : ∀ w, RowW enc w0 w b n cap M → Calls Try.prog 67 #[.slice (some ⟨b, 0, none⟩) n cap, .int .i64 n, .func (.func 14) #[] #[]] w (SortPost c tg enc w0 b n cap [] M []) := by
    intro w hw
    have HW := Lib.hid (HI.out w hw)
    clear hw hI HI h hS hT htp hC HR
    have q1 : ¬ (20 : Int) ≤ (n : Int) := by omega
    have q2 : decide ((20 : Int) ≤ (n : Int)) = false := decide_eq_false q1
    have q3 : ¬ (20 : Int) < (n : Int) := by omega
    have q4 : decide ((20 : Int) < (n : Int)) = false := decide_eq_false q3
    go_enter Try.func67, Try.ntmps67
    go_wp2_with fail
    refine wp_loop_rounds 1 ?_
    rw [rounds_succ]
    go_wp2_with fail
    refine HW.out.mono ?_
    rintro e w1 ⟨rfl, hp⟩
    go_wp2_with fail
    refine wp_loop_rounds 1 ?_
    rw [rounds_succ]
    go_wp2_with fail
    go_end0
    exact ⟨rfl, hp⟩
  have H67 := Lib.hid (hS67 w h)
  clear hI HI h hS hT htp hC HR hS67
  go_enter Try.func43, Try.ntmps43
  go_wp2_with fail
  refine H67.out.mono ?_
  rintro e w1 ⟨rfl, hp⟩
  go_wp2_with fail
  go_end0
  exact ⟨rfl, hp⟩
noncomputable def sortL {n : Nat} (l : List (Tm (n + 1))) : List (Tm (n + 1)) := l.mergeSort (leB cmpV)
/-- a term with a tag and with the value of its elements -/
abbrev Tag (n : Nat) := Nat × Tm (n + 1) × Value
def encT {n : Nat} (x : Tag n) : TF × Value := (x.2.1.f, x.2.2)
noncomputable def cmpT {n : Nat} (x y : Tag n) : Int := cmpV x.2.1 y.2.1
def TagOK (w : World) (F : Nat → Prop) (g : Nat) {n : Nat} (x : Tag n) : Prop := ItemsIn w F n x.2.2 x.2.1.items ∧ PtrOK w F g x.2.2 ∧ 300 * (nodesT x.2.1 : Int) ≤ 1000000000000
theorem tagged {n : Nat} {w : World} {F : Nat → Prop} {g : Nat} : ∀ (l : List (Tm (n + 1))) (rs : List (TF × Value)) (k : Nat), rs.length = l.length → (∀ j, (h : j < l.length) → (h' : j < rs.length) → EltIn w F (n + 1) l[j] rs[j].1 rs[j].2 ∧ PtrOK w F g rs[j].2 ∧ 300 * (nodesT l[j] : Int) ≤ 1000000000000) →
    ∃ e : List (Tag n), e.map encT = rs ∧ e.map (fun x => x.2.1) = l ∧ e.map (fun x => x.1) = List.range' k l.length ∧ ∀ x ∈ e, TagOK w F g x
  | [], [], k, _, _ => ⟨[], rfl, rfl, rfl, by simp⟩
  | t :: l, (f, u) :: rs, k, hl, h => by
    obtain ⟨e, h1, h2, h3, h4⟩ := tagged l rs (k + 1) (by simpa using hl) (fun j a b => h (j + 1) (by simpa using a) (by simpa using b))
    obtain ⟨⟨a1, a2⟩, a3, a4⟩ := h 0 (by simp) (by simp)
    refine ⟨(k, t, u) :: e, ?_, by simp [h2], by simp [h3, List.range'_succ], fun x hx => ?_⟩
    · rw [List.map_cons, h1]
      show (t.f, u) :: rs = (f, u) :: rs
      rw [show t.f = f from a1]
    · rcases List.mem_cons.1 hx with rfl | hx
      · exact ⟨a2, a3, a4⟩
      · exact h4 x hx
theorem zip_tags {n : Nat} : ∀ (e : List (Tag n)) (k : Nat), e.map (fun x => x.1) = List.range' k e.length → e.map (fun x => (x.2.1, x.1)) = (e.map (fun x => x.2.1)).zipIdx k
  | [], _, _ => rfl
  | x :: e, k, h => by
    rw [List.map_cons, List.length_cons, List.range'_succ] at h
    simp only [List.cons.injEq] at h
    rw [List.map_cons, List.map_cons, List.zipIdx_cons, ← zip_tags e (k + 1) h.2, h.1]
theorem tagged_sorted {n : Nat} (e M : List (Tag n)) (he : e.map (fun x => x.1) = List.range' 0 e.length) (hp : M.Perm e) (hs : M.Pairwise (tlt cmpT (fun x => x.1))) : M.map (fun x => x.2.1) = sortL (e.map (fun x => x.2.1)) := by
  have h := sort_unique (tpV (n := n)) (e.map (fun x => x.2.1)) (M.map (fun x => (x.1, x.2.1))) ?_ ?_
  · rw [List.map_map] at h
    exact h
  · rw [List.map_map, ← zip_tags e 0 he]
    exact hp.map _
  · rw [List.pairwise_map]
    exact hs
theorem tag_pairwise {n : Nat} (e : List (Tag n)) (he : e.map (fun x => x.1) = List.range' 0 e.length) : e.Pairwise (fun x y => x.1 < y.1) := by
  rw [← List.pairwise_map (f := fun x : Tag n => x.1) (R := (· < ·)), he]
  exact List.pairwise_lt_range'
theorem tagCmp {n : Nat} (w0 : World) (F : Nat → Prop) (b : Nat) (hF : ∀ g, F g → b < g ∧ g < w0.heap.size) : CmpW (encT (n := n)) w0 b 14 (TagOK w0 F b) cmpT := by
  refine ⟨fun x hx => ?_, fun W x y ht hx hy => ?_⟩
  · obtain ⟨p, c, e, _⟩ := (hx.1.toAt (B := w0.heap.size) (fun g hg => (hF g hg).2)).shape
    exact ⟨p, _, c, e⟩
  · have hs : ∀ g, F g → W.heap[g]? = w0.heap[g]? := fun g hg => ht.block g (hF g hg).2 (by have := (hF g hg).1; omega)
    exact Compare W w0.heap.size _ _ x.2.1 y.2.1 ht.size ((hx.1.mono hs (fun _ h => h)).toAt (fun g hg => (hF g hg).2)) ((hy.1.mono hs (fun _ h => h)).toAt (fun g hg => (hF g hg).2)) hx.2.2 hy.2.2
/-- what is made of a row that was sorted -/
theorem sorted_new {n : Nat} {w w0 w1 : World} {F : Nat → Prop} {l : List (Tm (n + 1))} (e M : List (Tag n)) (hw : w.heap.size < w0.heap.size) (hb : Below w.heap.size w w0) (hF : ∀ g, F g → w.heap.size < g ∧ g < w0.heap.size) (hty : Typed w0 F) (hok : ∀ x ∈ e, TagOK w0 F w.heap.size x) (hl : e.map (fun x => x.2.1) = l) (htag : e.map (fun x => x.1) = List.range' 0 l.length)
    (hp : M.Perm e) (hs : M.Pairwise (tlt cmpT (fun x => x.1))) (hr : RowW encT w0 w1 w.heap.size l.length l.length M) : NewAt w w1 (fun g => F g ∨ g = w.heap.size) (n + 1) (.slice (some ⟨w.heap.size, 0, none⟩) (sortL l).length (sortL l).length) (sortL l) := by
  have hle : e.length = l.length := by rw [← hl]; simp
  have hsl : (sortL l).length = l.length := by unfold sortL; exact List.length_mergeSort l
  have hM := tagged_sorted e M (by rw [hle]; exact htag) hp hs
  rw [hl] at hM
  have hml : M.length = l.length := by rw [hp.length_eq, hle]
  have hsame : ∀ g, F g → w1.heap[g]? = w0.heap[g]? := fun g hg => hr.touch.block g (hF g hg).2 (by have := (hF g hg).1; omega)
  have hroom := hr.room
  have hcells := fun j hj => hr.cells j hj
  refine ⟨?_, fun g hg => ?_, ?_, fun g hg => ?_, ?_⟩
  · refine ⟨_, _, rfl, Nat.le_refl _, by rw [hsl]; exact hroom.2, fun _ => ⟨_, 0, rfl, .inr rfl, fun j hj => ?_⟩⟩
    have hj' : j < M.length := by omega
    have ej : (sortL l)[j] = M[j].2.1 := by simp only [← hM, List.getElem_map]
    refine ⟨M[j].2.2, ?_, ?_⟩
    · rw [ej, Nat.zero_add]; exact hcells j hj'
    · rw [ej]
      exact (hok M[j] (hp.mem_iff.1 (List.getElem_mem hj'))).1.mono hsame (fun _ h => .inl h)
  · have := hr.touch.size
    rcases hg with hg | rfl
    · have := hF g hg; omega
    · omega
  · rcases hr.own.2 with ⟨h', _⟩ | ⟨g', cap', cur, h', hbg, hg, hnc, hcm, hcs, htake⟩
    · simp at h'
    · simp only [Value.slice.injEq, Option.some.injEq, Addr.mk.injEq, and_true, true_and] at h'
      obtain ⟨rfl, rfl⟩ := h'
      refine (hty.same hsame).add hg hcs fun j hj => ?_
      have hj' : j < M.length := by omega
      exact ⟨_, _, hcells j hj', (hok M[j] (hp.mem_iff.1 (List.getElem_mem hj'))).2.1.mono hsame (fun _ h => h)⟩
  · rw [hsl]
    rcases hr.own.2 with ⟨h', _⟩ | ⟨g', cap', cur, h', hbg, hg', hnc, hcm, hcs, htake⟩
    · simp at h'
    · simp only [Value.slice.injEq, Option.some.injEq, Addr.mk.injEq, and_true, true_and] at h'
      obtain ⟨rfl, rfl⟩ := h'
      exact ⟨_, _, _, rfl, .inr ⟨_, 0, cur, _, by rw [Nat.zero_mul], .inr rfl, hg, hg', by rw [Nat.zero_add, hcs]; omega, by omega⟩⟩
  · exact (hr.touch.trans (S := fun k => k = w.heap.size) (TouchB.refl (fun _ => False) _) (fun _ _ f => f.elim)) |> (fun ht => ⟨ht.os.trans hb.os, ht.tape.trans hb.tape, ht.output.trans hb.output, Nat.le_trans hb.size ht.size, fun k hk => (ht.block k (by omega) (by omega)).trans (hb.block k hk)⟩)
set_option maxHeartbeats 4000000 in
theorem sortW {n N : Nat} (hst : StableS N) (w : World) (B : Nat) (v : Value) (l : List (Tm (n + 1))) (hB : B ≤ w.heap.size) (h1 : ItemsAt w B (n + 1) v l) (hs : nodesL (n + 1) l ≤ 100000000) (hN : l.length ≤ N) (hN2 : N ≤ 1000000) :
    Calls Try.prog 18 #[v] w (LPost (sortL l) w) := by
  have ih : ∀ m, n + 1 = m + 1 → CopyS m := fun m _ => copyAll m
  have HSt := Lib.hid hst
  clear hst
  have hlen := nodes_len (n + 1) l
  obtain ⟨p, c, rfl, hc, hm⟩ := h1.shape
  have HP := Lib.hid (copyEl ih w B p l.length c l hB h1 hs)
  have hle : l.length ≤ 100000000 := by omega
  have hle2 : (l.length : Int) ≤ 100000000 := by omega
  have hmk := fun W => make24 W (l.length : Int) l.length rfl (by omega)
  have HS0 := Lib.hid hs
  have HN := Lib.hid hN
  clear ih h1 hs hlen hc hm hN
  obtain ⟨i0, hi0, hz0, hz1, hz2⟩ := info_parts info24
  go_enter Try.func18, Try.ntmps18
  go_wp2_with fail
  have HI : RowInv (EltL l) w (w.alloc (.cells (madeCells #[.int .i64 0, .int .i64 0, .int .i64 0, .string ⟨#[]⟩, .string ⟨#[]⟩, .int .i64 0, .slice none 0 0, .string ⟨#[]⟩, .int .i64 0] (l.length * 9)) 24)) l.length 0 [] (fun _ => False) := RowInv.start _ (by unfold maxLen; omega) (size_madeCells _ _)
  generalize (w.alloc (.cells (madeCells #[.int .i64 0, .int .i64 0, .int .i64 0, .string ⟨#[]⟩, .string ⟨#[]⟩, .int .i64 0, .slice none 0 0, .string ⟨#[]⟩, .int .i64 0] (l.length * 9)) 24)) = w0 at *
  go_loopw [3, 11] (fun s t wr => ∃ (k : Nat) (rs : List (TF × Value)) (F : Nat → Prop), s = .slice (some ⟨w.heap.size, 0, none⟩) k l.length ∧ t = .int .i64 k ∧ k ≤ l.length ∧ Hid (RowInv (EltL l) w wr l.length k rs F)) (fun _ t _ => l.length - (intOf t).toNat)
  case atStart => exact ⟨0, [], fun _ => False, rfl, rfl, by omega, Lib.hid HI⟩
  case round =>
    obtain ⟨k, rs, F, rfl, rfl, hk, HR⟩ := hrel
    by_cases hlt : k < l.length
    · obtain ⟨g, o, x, q, m, d, rfl, hg, hC, hCall⟩ := HP.out k hlt
      have HCall := Lib.hid hCall
      clear hCall
      have hC := hC.same (HR.out.below.block g hg)
      have hgr : g < wr.heap.size := Nat.lt_of_lt_of_le hg HR.out.below.size
      obtain ⟨x0, x1, x2, x3, x4, x5, x6, x7, x8⟩ := hC
      obtain ⟨kk, ii, gg, nm, fn, ar, by_, bt⟩ := x
      dsimp only at x0 x1 x2 x3 x4 x5 x6 x7 x8
      unfold EPost aggV at HCall
      dsimp only at HCall
      go_wp2_with fail
      have hb1 : Below wr.heap.size wr (wr.alloc (cells9 ⟨kk, ii, gg, nm, fn, ar, by_, bt⟩ (.slice q m d))) := (Below.refl _ _).alloc (Nat.le_refl _) _
      refine (HCall.out _ (HR.out.below.trans (hb1.mono HR.out.below.size))).mono ?_
      rintro e w2 ⟨F', g', rfl, hE, hin, hty, hpt, hb2⟩
      have hb2' : Below wr.heap.size wr w2 := hb1.trans (hb2.mono (by simp))
      have hb3 : Below w2.heap.size w2 (w2.alloc (cells9 ⟨kk, ii, gg, nm, fn, ar, by_, bt⟩ (.slice (some ⟨g', 0, none⟩) m m))) := (Below.refl _ _).alloc (Nat.le_refl _) _
      have hbw3 : Below wr.heap.size wr (w2.alloc (cells9 ⟨kk, ii, gg, nm, fn, ar, by_, bt⟩ (.slice (some ⟨g', 0, none⟩) m m))) := hb2'.trans (hb3.mono hb2'.size)
      have HS : ∀ g, F' g → (w2.alloc (cells9 ⟨kk, ii, gg, nm, fn, ar, by_, bt⟩ (.slice (some ⟨g', 0, none⟩) m m))).heap[g]? = w2.heap[g]? := fun g hg => hb3.block g (hin g hg).2
      have HE := Lib.hid (eltL_mono l w.heap.size _ _ _ _ _ _ _ HS (fun g hg => hb3.block g (Nat.lt_of_lt_of_le hg (Nat.le_trans HR.out.below.size hb2'.size))) (fun _ h => h) hE)
      have HPt := Lib.hid ((hpt w.heap.size (by have := HR.out.lt; simp; omega)).mono HS (fun _ h => h))
      have HTy := Lib.hid (hty.same HS)
      have HIn : Hid (∀ g, F' g → wr.heap.size ≤ g ∧ g < (w2.alloc (cells9 ⟨kk, ii, gg, nm, fn, ar, by_, bt⟩ (.slice (some ⟨g', 0, none⟩) m m))).heap.size) := Lib.hid (fun g hg => by have := hin g hg; simp at this ⊢; omega)
      have HOwn := Lib.hid (HR.out.ownAt hbw3)
      have HNC := Lib.hid (nine_cell w2 ⟨kk, ii, gg, nm, fn, ar, by_, bt⟩ (.slice (some ⟨g', 0, none⟩) m m))
      have HNO := Lib.hid (nine_one ⟨kk, ii, gg, nm, fn, ar, by_, bt⟩ (some ⟨g', 0, none⟩) m m)
      have HBW := Lib.hid hbw3
      clear hE hin hty hpt hb2 hb1 hb2' hb3 hbw3 HS
      unfold cells9 at HE HPt HTy HIn HOwn HNC HBW
      dsimp only at HE HPt HTy HIn HOwn HNC HBW
      go_wp2_with (at_builtin; refine wpList_append_fits rfl (.tmp 15) (.tmp 18) 22 rfl w.heap.size 24 i0 9 Try.underlying22 hi0 hz1 w.heap.size k l.length (flatR rs) rfl HOwn.out ⟨w2.heap.size, 0, none⟩ 1 1 (nineL ⟨kk, ii, gg, nm, fn, ar, by_, bt⟩ (.slice (some ⟨g', 0, none⟩) m m)) rfl rfl HNC.out HNO.out (by omega) ?_; intro w4 hown4 hg4)
      have HNext := Lib.hid (HR.out.next (eltL_mono l w.heap.size) HBW.out HE.out HPt.out HTy.out HIn.out hg4 hown4)
      go_roundw
      case rel => exact ⟨k + 1, _, _, rfl, by go_num, by omega, HNext⟩
      case measure => simp [intOf]; omega
    · obtain rfl : k = l.length := by omega
      have hr := HR.out
      have hns := fun j (h : j < l.length) => nodes_mem h
      obtain ⟨e, k1, k2, k3, k4⟩ := tagged (w := wr) (F := F) (g := w.heap.size) l rs 0 hr.len (fun j h h' => ⟨(hr.elt j h').1.2, (hr.elt j h').2, by have := hns j h; have := HS0.out; omega⟩)
      have hel : e.length = l.length := by rw [← k2]; simp
      have hrow : RowW encT wr wr w.heap.size l.length l.length e := ⟨by rw [k1]; exact row_base hr.own (fun k _ => Nat.zero_le _), hel, TouchB.refl _ _⟩
      have HC := Lib.hid (HSt.out _ encT wr wr w.heap.size l.length l.length (TagOK wr F w.heap.size) cmpT (fun x => x.1) e (tagCmp wr F w.heap.size hr.inr) (TP.mono (TP.comap (tpV (n := n)) (fun x : Tag n => x.2.1)) (fun _ _ => trivial)) k4 (tag_pairwise e (by rw [hel]; exact k3)) hrow HN.out)
      have HFin := Lib.hid (fun w1 M hp hs (hr1 : RowW encT wr w1 w.heap.size l.length l.length M) => sorted_new (l := l) e M hr.lt hr.below hr.inr hr.typed k4 k2 k3 hp hs hr1)
      have HSL : Hid ((sortL l).length = l.length) := Lib.hid (List.length_mergeSort l)
      clear hr hns k1 k2 k3 k4 hrow
      go_wp2_with fail
      refine HC.out.mono ?_
      rintro e1 w1 ⟨rfl, M, hp, hs1, hr1⟩
      have HF := Lib.hid (HFin.out w1 M hp hs1 (by simpa using hr1))
      clear hp hs1 hr1
      go_wp2_with fail
      go_ret
      exact ⟨fun g => F g ∨ g = w.heap.size, w.heap.size, by rw [HSL.out]; rfl, HF.out, .inr rfl⟩
end Go.Proofs.Ythgfdpamnepnfaa.tm
