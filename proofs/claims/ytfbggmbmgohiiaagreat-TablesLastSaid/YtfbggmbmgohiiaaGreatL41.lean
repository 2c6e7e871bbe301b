/- Texts of this seat, one behind the other: TcT, TnR, TcU, TcV, TcW. No condition beyond theirs. -/
import Derived.Test.YtfbggmbmgohiiaaGreatL02
import Derived.Test.YtfbggmbmgohiiaaGreatL01
import Derived.Test.YtfbggmbmgohiiaaGreatL09
import Derived.Test.YtfbggmbmgohiiaaGreatL34
import Derived.Test.YtfbggmbmgohiiaaGreatL33
import Derived.Test.YtfbggmbmgohiiaaGreatL40
import Derived.Test.YtfbggmbmgohiiaaGreatL39
/- Sorted rows of keys and values: plain laws. Conditions: as said. -/
namespace Go.Proofs.YtfbggmbmgohiiaaGreat.tb
open tm
set_option linter.unusedVariables false
set_option linter.unusedSimpArgs false
set_option maxHeartbeats 1000000
section
variable {K V : Type} {c : K → K → Int} {S : K → Prop}
/-- a comparison of keys: total, and 0 only for the same key -/
structure Ord (S : K → Prop) (c : K → K → Int) : Prop where
  tp : TP (fun _ => True) c
  eq : ∀ a b, S a → S b → c a b = 0 → a = b
theorem Ord.lt_trans (h : Ord S c) {a b d : K} (h1 : c a b < 0) (h2 : c b d < 0) : c a d < 0 := by
  have t := h.tp.trans a b d trivial trivial trivial (by omega) (by omega)
  by_cases e : c a d = 0
  · have := h.tp.zero (a := a) (b := b) (d := d) trivial trivial trivial (by omega) (by omega) e
    omega
  · omega
noncomputable def posR (c : K → K → Int) (R : List (K × V)) (k : K) : Nat := R.findIdx (fun x => !decide (c x.1 k < 0))
noncomputable def hasR (c : K → K → Int) (R : List (K × V)) (k : K) : Bool := (R[posR c R k]?).elim false (fun x => eqB x.1 k)
noncomputable def putR (c : K → K → Int) (R : List (K × V)) (k : K) (v : V) : List (K × V) := R.take (posR c R k) ++ (k, v) :: R.drop (if hasR c R k then posR c R k + 1 else posR c R k)
noncomputable def delR (c : K → K → Int) (R : List (K × V)) (k : K) : List (K × V) := if hasR c R k then R.take (posR c R k) ++ R.drop (posR c R k + 1) else R
noncomputable def getR (c : K → K → Int) (R : List (K × V)) (k : K) : Option V := if hasR c R k then (R[posR c R k]?).map (·.2) else none
def SortR (c : K → K → Int) (R : List (K × V)) : Prop := R.Pairwise (fun a b => c a.1 b.1 < 0)
theorem posR_le (R : List (K × V)) (k : K) : posR c R k ≤ R.length := List.findIdx_le_length
theorem posR_take {R : List (K × V)} {k : K} {x : K × V} (hx : x ∈ R.take (posR c R k)) : c x.1 k < 0 := by
  obtain ⟨i, hi, rfl⟩ := List.mem_iff_getElem.1 hx
  rw [List.length_take] at hi
  rw [List.getElem_take]
  have := List.not_of_lt_findIdx (p := fun x : K × V => !decide (c x.1 k < 0)) (xs := R) (i := i) (by unfold posR at hi; omega)
  simpa using this
theorem posR_drop (h : Ord S c) {R : List (K × V)} (hs : SortR c R) {k : K} {x : K × V} (hx : x ∈ R.drop (posR c R k)) : ¬ c x.1 k < 0 := by
  obtain ⟨i, hi, rfl⟩ := List.mem_iff_getElem.1 hx
  rw [List.length_drop] at hi
  rw [List.getElem_drop]
  have hp : posR c R k < R.length := by omega
  have h0 : ¬ c (R[posR c R k]).1 k < 0 := by
    have hq : R.findIdx (fun x : K × V => !decide (c x.1 k < 0)) < R.length := hp
    have h2 : (!decide (c (R[posR c R k]).1 k < 0)) = true := List.findIdx_getElem (p := fun x : K × V => !decide (c x.1 k < 0)) (xs := R) (w := hq)
    intro h3
    simp only [Bool.not_eq_true', decide_eq_false_iff_not] at h2
    exact h2 h3
  intro hlt
  by_cases e : i = 0
  · subst e; exact h0 hlt
  · exact h0 (h.lt_trans (List.pairwise_iff_getElem.1 hs (posR c R k) (posR c R k + i) hp (by omega) (by omega)) hlt)
theorem hasR_some {R : List (K × V)} {k : K} (h : hasR c R k = true) : ∃ hp : posR c R k < R.length, (R[posR c R k]).1 = k := by
  unfold hasR at h
  by_cases hp : posR c R k < R.length
  · rw [List.getElem?_eq_getElem hp] at h
    exact ⟨hp, of_eqB h⟩
  · rw [List.getElem?_eq_none (by omega)] at h
    cases h
theorem hasR_iff (h : Ord S c) {R : List (K × V)} (hs : SortR c R) {k : K} : hasR c R k = true ↔ ∃ v, (k, v) ∈ R := by
  constructor
  · intro hh
    obtain ⟨hp, e⟩ := hasR_some hh
    refine ⟨(R[posR c R k]).2, ?_⟩
    have hm := List.getElem_mem hp
    have e2 : (k, (R[posR c R k]).2) = R[posR c R k] := Prod.ext e.symm rfl
    exact e2 ▸ hm
  · rintro ⟨v, hv⟩
    obtain ⟨j, hj, ej⟩ := List.mem_iff_getElem.1 hv
    have hnl : ¬ c k k < 0 := by have := h.tp.refl k; omega
    have hge : ¬ j < posR c R k := fun hlt => by
      have : c (R[j]).1 k < 0 := posR_take (R := R) (k := k) (List.mem_iff_getElem.2 ⟨j, by rw [List.length_take]; omega, by rw [List.getElem_take]⟩)
      rw [ej] at this
      exact hnl this
    have hp : posR c R k < R.length := by omega
    have h0 : ¬ c (R[posR c R k]).1 k < 0 := posR_drop h hs (List.mem_iff_getElem.2 ⟨0, by rw [List.length_drop]; omega, by rw [List.getElem_drop]; simp⟩)
    have e : j = posR c R k := by
      refine Classical.byContradiction fun hne => h0 ?_
      have := List.pairwise_iff_getElem.1 hs (posR c R k) j hp hj (by omega)
      rwa [ej] at this
    unfold hasR
    rw [List.getElem?_eq_getElem hp]
    refine eqB_t ?_
    subst e
    rw [ej]
theorem keysR_ne {R : List (K × V)} (h : Ord S c) {k : K} {x : K × V} (hx : c x.1 k < 0 ∨ c k x.1 < 0) : x.1 ≠ k := fun e => by
  have := h.tp.refl k
  rw [e] at hx
  omega
theorem splitR_at {α : Type} {R : List α} {p : Nat} (hp : p < R.length) : R = R.take p ++ R[p] :: R.drop (p + 1) := by
  rw [List.getElem_cons_drop hp, List.take_append_drop]
/-- with the key: what lies before it and behind it -/
theorem splitR_has (h : Ord S c) {R : List (K × V)} (hs : SortR c R) {k : K} (hh : hasR c R k = true) : ∃ A v C, R = A ++ (k, v) :: C ∧ posR c R k = A.length ∧ (∀ x ∈ A, c x.1 k < 0) ∧ (∀ x ∈ C, c k x.1 < 0) := by
  obtain ⟨hp, e⟩ := hasR_some hh
  have e2 : R[posR c R k] = (k, (R[posR c R k]).2) := Prod.ext e rfl
  have hsp := splitR_at hp
  rw [e2] at hsp
  refine ⟨_, _, _, hsp, by rw [List.length_take]; omega, fun x hx => posR_take hx, fun x hx => ?_⟩
  unfold SortR at hs
  rw [hsp] at hs
  have h3 := (List.pairwise_append.1 hs).2.1
  exact (List.pairwise_cons.1 h3).1 x hx
/-- without the key -/
theorem splitR_no (h : Ord S c) {R : List (K × V)} (hs : SortR c R) {k : K} (hk : S k) (hS : ∀ x ∈ R, S x.1) (hh : hasR c R k = false) : ∃ A C, R = A ++ C ∧ posR c R k = A.length ∧ (∀ x ∈ A, c x.1 k < 0) ∧ (∀ x ∈ C, c k x.1 < 0) := by
  refine ⟨_, _, (List.take_append_drop (posR c R k) R).symm, by rw [List.length_take]; have := posR_le (c := c) R k; omega, fun x hx => posR_take hx, fun x hx => ?_⟩
  have h1 := posR_drop h hs hx
  have h2 := h.tp.anti x.1 k
  by_cases e : c x.1 k = 0
  · have hm := List.mem_of_mem_drop hx
    have := h.eq _ _ (hS x hm) hk e
    have hc := (hasR_iff h hs (k := k)).2 ⟨x.2, by rw [← this]; exact hm⟩
    rw [hh] at hc
    cases hc
  · omega
theorem putR_has {R : List (K × V)} {k : K} {v v0 : V} {A C : List (K × V)} (hh : hasR c R k = true) (e : R = A ++ (k, v0) :: C) (hp : posR c R k = A.length) : putR c R k v = A ++ (k, v) :: C := by
  unfold putR
  rw [hh, if_pos rfl, hp, e]
  simp
theorem putR_no {R : List (K × V)} {k : K} {v : V} {A C : List (K × V)} (hh : hasR c R k = false) (e : R = A ++ C) (hp : posR c R k = A.length) : putR c R k v = A ++ (k, v) :: C := by
  unfold putR
  rw [hh, if_neg (by decide), hp, e]
  simp
theorem putR_mem (h : Ord S c) {R : List (K × V)} (hs : SortR c R) {k : K} (hk : S k) (hS : ∀ x ∈ R, S x.1) (v : V) (a : K) (b : V) : (a, b) ∈ putR c R k v ↔ (a = k ∧ b = v) ∨ (a ≠ k ∧ (a, b) ∈ R) := by
  cases hh : hasR c R k
  · obtain ⟨A, C, e, hp, h1, h2⟩ := splitR_no h hs hk hS hh
    rw [putR_no hh e hp, e]
    simp only [List.mem_append, List.mem_cons, Prod.mk.injEq]
    constructor
    · rintro (h3 | ⟨rfl, rfl⟩ | h3)
      · exact .inr ⟨keysR_ne (R := R) h (.inl (h1 _ h3)), .inl h3⟩
      · exact .inl ⟨rfl, rfl⟩
      · exact .inr ⟨keysR_ne (R := R) h (.inr (h2 _ h3)), .inr h3⟩
    · rintro (⟨rfl, rfl⟩ | ⟨h3, h4 | h4⟩)
      · exact .inr (.inl ⟨rfl, rfl⟩)
      · exact .inl h4
      · exact .inr (.inr h4)
  · obtain ⟨A, v0, C, e, hp, h1, h2⟩ := splitR_has h hs hh
    rw [putR_has hh e hp, e]
    simp only [List.mem_append, List.mem_cons, Prod.mk.injEq]
    constructor
    · rintro (h3 | ⟨rfl, rfl⟩ | h3)
      · exact .inr ⟨keysR_ne (R := R) h (.inl (h1 _ h3)), .inl h3⟩
      · exact .inl ⟨rfl, rfl⟩
      · exact .inr ⟨keysR_ne (R := R) h (.inr (h2 _ h3)), .inr (.inr h3)⟩
    · rintro (⟨rfl, rfl⟩ | ⟨h3, h4 | ⟨rfl, rfl⟩ | h4⟩)
      · exact .inr (.inl ⟨rfl, rfl⟩)
      · exact .inl h4
      · exact absurd rfl h3
      · exact .inr (.inr h4)
theorem putR_sort (h : Ord S c) {R : List (K × V)} (hs : SortR c R) {k : K} (hk : S k) (hS : ∀ x ∈ R, S x.1) (v : V) : SortR c (putR c R k v) := by
  have key : ∀ {A C : List (K × V)}, A.Pairwise (fun a b => c a.1 b.1 < 0) → C.Pairwise (fun a b => c a.1 b.1 < 0) → (∀ x ∈ A, c x.1 k < 0) → (∀ x ∈ C, c k x.1 < 0) → SortR c (A ++ (k, v) :: C) := fun {A C} hA hC h1 h2 => by
    refine List.pairwise_append.2 ⟨hA, List.pairwise_cons.2 ⟨fun x hx => h2 x hx, hC⟩, fun x hx y hy => ?_⟩
    rcases List.mem_cons.1 hy with rfl | hy
    · exact h1 x hx
    · exact h.lt_trans (h1 x hx) (h2 y hy)
  cases hh : hasR c R k
  · obtain ⟨A, C, e, hp, h1, h2⟩ := splitR_no h hs hk hS hh
    rw [putR_no hh e hp]
    unfold SortR at hs
    rw [e] at hs
    have hq := List.pairwise_append.1 hs
    exact key hq.1 hq.2.1 h1 h2
  · obtain ⟨A, v0, C, e, hp, h1, h2⟩ := splitR_has h hs hh
    rw [putR_has hh e hp]
    unfold SortR at hs
    rw [e] at hs
    have hq := List.pairwise_append.1 hs
    exact key hq.1 (List.pairwise_cons.1 hq.2.1).2 h1 h2
theorem putR_len (h : Ord S c) {R : List (K × V)} (hs : SortR c R) {k : K} (hk : S k) (hS : ∀ x ∈ R, S x.1) (v : V) : (putR c R k v).length = if hasR c R k then R.length else R.length + 1 := by
  cases hh : hasR c R k
  · obtain ⟨A, C, e, hp, h1, h2⟩ := splitR_no h hs hk hS hh
    rw [putR_no hh e hp, e]
    simp
    omega
  · obtain ⟨A, v0, C, e, hp, h1, h2⟩ := splitR_has h hs hh
    rw [putR_has hh e hp, e]
    simp
theorem delR_mem (h : Ord S c) {R : List (K × V)} (hs : SortR c R) {k : K} (a : K) (b : V) : (a, b) ∈ delR c R k ↔ a ≠ k ∧ (a, b) ∈ R := by
  unfold delR
  cases hh : hasR c R k
  · rw [if_neg (by decide)]
    refine ⟨fun hm => ⟨fun e => ?_, hm⟩, fun hm => hm.2⟩
    subst e
    have := (hasR_iff h hs (k := a)).2 ⟨b, hm⟩
    rw [hh] at this
    cases this
  · obtain ⟨A, v0, C, e, hp, h1, h2⟩ := splitR_has h hs hh
    rw [if_pos rfl, hp, e]
    simp only [List.take_left', List.mem_append, List.mem_cons, Prod.mk.injEq]
    have e2 : (A ++ (k, v0) :: C).drop (A.length + 1) = C := by simp
    rw [e2]
    constructor
    · rintro (h3 | h3)
      · exact ⟨keysR_ne (R := R) h (.inl (h1 _ h3)), .inl h3⟩
      · exact ⟨keysR_ne (R := R) h (.inr (h2 _ h3)), .inr (.inr h3)⟩
    · rintro ⟨h3, h4 | ⟨rfl, rfl⟩ | h4⟩
      · exact .inl h4
      · exact absurd rfl h3
      · exact .inr h4
theorem delR_sort {R : List (K × V)} (hs : SortR c R) {k : K} : SortR c (delR c R k) := by
  unfold delR
  split
  · refine hs.sublist ?_
    have : (R.take (posR c R k) ++ R.drop (posR c R k + 1)).Sublist (R.take (posR c R k) ++ R.drop (posR c R k)) := List.Sublist.append (List.Sublist.refl _) (by rw [← List.drop_drop]; exact List.drop_sublist _ _)
    rwa [List.take_append_drop] at this
  · exact hs
theorem delR_len {R : List (K × V)} {k : K} : (delR c R k).length = if hasR c R k then R.length - 1 else R.length := by
  unfold delR
  cases hh : hasR c R k
  · rfl
  · obtain ⟨hp, _⟩ := hasR_some hh
    rw [if_pos rfl, if_pos rfl, List.length_append, List.length_take, List.length_drop]
    omega
theorem getR_iff (h : Ord S c) {R : List (K × V)} (hs : SortR c R) {k : K} {v : V} : getR c R k = some v ↔ (k, v) ∈ R := by
  unfold getR
  cases hh : hasR c R k
  · rw [if_neg (by decide)]
    refine ⟨fun e => (nomatch e), fun hm => ?_⟩
    have := (hasR_iff h hs (k := k)).2 ⟨v, hm⟩
    rw [hh] at this
    cases this
  · obtain ⟨A, v0, C, e, hp, h1, h2⟩ := splitR_has h hs hh
    rw [if_pos rfl, hp, e]
    have e3 : (A ++ (k, v0) :: C)[A.length]? = some (k, v0) := by simp
    rw [e3]
    simp only [Option.map_some, Option.some.injEq, List.mem_append, List.mem_cons, Prod.mk.injEq, true_and]
    constructor
    · rintro rfl; exact .inr (.inl rfl)
    · rintro (h3 | h3 | h3)
      · exact absurd rfl (keysR_ne (R := R) (x := (k, v)) h (.inl (h1 _ h3)))
      · exact h3.symm
      · exact absurd rfl (keysR_ne (R := R) (x := (k, v)) h (.inr (h2 _ h3)))
theorem keysR_nodup (h : Ord S c) {R : List (K × V)} (hs : SortR c R) : (R.map (·.1)).Nodup := by
  refine List.pairwise_map.2 (hs.imp fun {a b} hab => fun e => ?_)
  have := h.tp.refl b.1
  rw [e] at hab
  omega
end
end Go.Proofs.YtfbggmbmgohiiaaGreat.tb

/- Stable order: one list alone is it. No condition. -/
namespace Go.Proofs.YtfbggmbmgohiiaaGreat.tm
set_option linter.unusedVariables false
set_option linter.unusedSimpArgs false

theorem tpV {n : Nat} : TP (fun _ : Tm (n + 1) => True) (cmpV (n := n)) := by
  have h := (ordT (n + 1)).tp
  refine ⟨fun a b => ?_, fun a b => ?_, fun a b d _ _ _ x y => ?_⟩
  · unfold cmpV
    repeat' split
    all_goals first | exact h.range a b | simp
  · have e := h.anti a b
    unfold cmpV
    by_cases ha : validT a = true <;> by_cases hb : validT b = true <;> simp [ha, hb, e]
  · unfold cmpV at *
    by_cases ha : validT a = true <;> by_cases hb : validT b = true <;> by_cases hd : validT d = true <;> simp [ha, hb, hd] at x y ⊢
    exact h.trans a b d (valid_formed ha) (valid_formed hb) (valid_formed hd) x y
variable {β : Type} {c : β → β → Int}
def leB (c : β → β → Int) (x y : β) : Bool := decide (c x y ≤ 0)
end Go.Proofs.YtfbggmbmgohiiaaGreat.tm
/- A table's rows as plain rows. Conditions: as said. -/
namespace Go.Proofs.YtfbggmbmgohiiaaGreat.tb
open Go.RowKit mem rec tm names
set_option linter.unusedVariables false
set_option linter.unusedSimpArgs false
set_option maxHeartbeats 1000000
set_option maxRecDepth 100000
section
variable {N : Nat}
noncomputable def cmpH {N : Nat} (hs : Bool) : Tm (N + 1) → Tm (N + 1) → Int := if hs then thenC (fun x y => cmpI (hashT x) (hashT y)) cmpV else cmpV
abbrev Vd {N : Nat} : Tm (N + 1) → Prop := fun k => validT k = true
theorem cmpV_eq {a b : Tm (N + 1)} (ha : validT a = true) (hb : validT b = true) (h : cmpV a b = 0) : a = b := by
  unfold cmpV at h
  rw [if_pos ha, if_pos hb] at h
  exact (ordT (N + 1)).eq a b (valid_formed ha) (valid_formed hb) h
theorem ordH (hs : Bool) : Ord (Vd (N := N)) (cmpH hs) := by
  cases hs
  · exact ⟨tpV, fun a b ha hb h => cmpV_eq ha hb h⟩
  · refine ⟨(TP.comap tpI hashT).then tpV, fun a b ha hb h => ?_⟩
    have h : thenC (fun x y => cmpI (hashT x) (hashT y)) cmpV a b = 0 := h
    unfold thenC at h
    split at h
    · exact cmpV_eq ha hb h
    · contradiction
theorem befH (hs : Bool) (x y : Tm (N + 1)) : befB hs x y (hashT x) (hK hs y) = decide (cmpH hs x y < 0) := by
  cases hs
  · rfl
  · unfold befB hK
    rw [if_pos rfl, if_pos rfl]
    show _ = decide ((if cmpI (hashT x) (hashT y) = 0 then cmpV x y else cmpI (hashT x) (hashT y)) < 0)
    by_cases h1 : hashT x < hashT y
    · have h2 := cmpI_lt.2 h1
      have h3 : ¬ cmpI (hashT x) (hashT y) = 0 := by omega
      rw [if_neg h3, decide_eq_true h2, decide_eq_true h1]
      rfl
    · by_cases h2 : hashT x = hashT y
      · rw [if_pos (cmpI_z.2 h2), decide_eq_false h1, h2]
        simp
      · have h3 : ¬ cmpI (hashT x) (hashT y) < 0 := fun h => h1 (cmpI_lt.1 h)
        rw [if_neg (fun h => h2 (cmpI_z.1 h)), decide_eq_false h1, decide_eq_false h3]
        simp [h2]
def absR (t : TabE N) : List (Tm (N + 1) × Tm (N + 1)) := t.rows.map (fun r => (r.k, r.v))
structure GoodT (t : TabE N) : Prop where
  hh : ∀ r ∈ t.rows, r.h = hashT r.k
  vd : ∀ r ∈ t.rows, validT r.k = true
  sd : SortR (cmpH t.hs) (absR t)
  nd : ∀ r ∈ t.rows, nodesT r.k ≤ 100000000 ∧ nodesT r.v ≤ 100000000
theorem findIdx_eq {α : Type} {p q : α → Bool} : ∀ {l : List α}, (∀ x ∈ l, p x = q x) → l.findIdx p = l.findIdx q
  | [], _ => rfl
  | a :: l, h => by rw [List.findIdx_cons, List.findIdx_cons, h a List.mem_cons_self, findIdx_eq (l := l) (fun x hx => h x (List.mem_cons_of_mem _ hx))]
theorem findIdx_map' {α β : Type} (f : α → β) (p : β → Bool) : ∀ l : List α, (l.map f).findIdx p = l.findIdx (fun x => p (f x))
  | [] => rfl
  | a :: l => by rw [List.map_cons, List.findIdx_cons, List.findIdx_cons, findIdx_map' f p l]
variable {t : TabE N} {k v : Tm (N + 1)}
theorem GoodT.pos (h : GoodT t) (k : Tm (N + 1)) : posK t k = posR (cmpH t.hs) (absR t) k := by
  unfold posK keyAt posR absR
  rw [findIdx_map']
  refine findIdx_eq fun x hx => ?_
  rw [h.hh x hx, befH]
theorem GoodT.has (h : GoodT t) (k : Tm (N + 1)) : hasK t k = hasR (cmpH t.hs) (absR t) k := by
  unfold hasK hasR
  rw [h.pos k]
  unfold absR
  rw [List.getElem?_map]
  cases t.rows[posR (cmpH t.hs) (t.rows.map (fun r => (r.k, r.v))) k]? <;> rfl
theorem GoodT.find (h : GoodT t) (hl : t.rows.length ≤ 1000000) (k : Tm (N + 1)) : FindOK t k := by
  refine ⟨fun x hx => by have := (h.nd x hx).1; omega, hl, fun i j hj hij hp => ?_⟩
  have hi : i < t.rows.length := by omega
  have e1 := h.hh _ (List.getElem_mem hj)
  have e2 := h.hh _ (List.getElem_mem hi)
  dsimp only at hp ⊢
  rw [e1, befH] at hp
  rw [e2, befH]
  have hp := of_decide_eq_true hp
  have h3 := List.pairwise_iff_getElem.1 h.sd i j (by unfold absR; rw [List.length_map]; exact hi) (by unfold absR; rw [List.length_map]; exact hj) hij
  unfold absR at h3
  rw [List.getElem_map, List.getElem_map] at h3
  exact decide_eq_true ((ordH t.hs).lt_trans h3 hp)
theorem GoodT.keys (h : GoodT t) : ∀ x ∈ absR t, Vd x.1 := fun x hx => by
  obtain ⟨r, hr, rfl⟩ := List.mem_map.1 hx
  exact h.vd r hr
theorem GoodT.hasp (h : GoodT t) (hh : hasK t k = true) : ∃ hp : posK t k < t.rows.length, (t.rows[posK t k]).k = k := by
  unfold hasK at hh
  by_cases hp : posK t k < t.rows.length
  · rw [List.getElem?_eq_getElem hp] at hh
    exact ⟨hp, of_eqB hh⟩
  · rw [List.getElem?_eq_none (by omega)] at hh
    cases hh
theorem setV_ins {l : List (RowE N)} {i : Nat} (hi : i ≤ l.length) (a : RowE N) (v : Tm (N + 1)) (u : Value) : setV (insK l i a) i v u = l.take i ++ { a with v := v, uv := u } :: l.drop i := by
  have hl : (l.take i).length = i := by rw [List.length_take]; omega
  have e : (insK l i a)[i]? = some a := by
    unfold insK
    rw [List.append_assoc, List.getElem?_append_right (by omega), hl, Nat.sub_self]
    rfl
  unfold setV
  rw [e]
  unfold insK
  dsimp only
  rw [List.append_assoc, List.set_append_right _ _ (by omega), hl, Nat.sub_self]
  rfl
noncomputable def putRows (t : TabE N) (k v : Tm (N + 1)) (uk uv : Value) : List (RowE N) := setV (midRows t k uk) (posK t k) v uv
theorem put_rows_mem (h : GoodT t) {uk uv : Value} {r : RowE N} (hr : r ∈ putRows t k v uk uv) : (r.k = k ∧ r.v = v ∧ r.h = hashT k) ∨ ∃ r0 ∈ t.rows, r.k = r0.k ∧ r.h = r0.h ∧ r.v = r0.v := by
  unfold putRows midRows at hr
  cases hh : hasK t k
  · rw [hh, if_neg (by decide), setV_ins (posK_le t k)] at hr
    rcases List.mem_append.1 hr with hr | hr
    · exact .inr ⟨r, List.mem_of_mem_take hr, rfl, rfl, rfl⟩
    · rcases List.mem_cons.1 hr with rfl | hr
      · exact .inl ⟨rfl, rfl, rfl⟩
      · exact .inr ⟨r, List.mem_of_mem_drop hr, rfl, rfl, rfl⟩
  · rw [hh, if_pos rfl] at hr
    obtain ⟨hp, e⟩ := h.hasp hh
    rw [setV_of hp] at hr
    rcases List.mem_or_eq_of_mem_set hr with hr | rfl
    · exact .inr ⟨r, hr, rfl, rfl, rfl⟩
    · exact .inl ⟨e, rfl, (h.hh _ (List.getElem_mem hp)).trans (congrArg hashT e)⟩
theorem put_rows_abs (h : GoodT t) (uk uv : Value) : (putRows t k v uk uv).map (fun r => (r.k, r.v)) = putR (cmpH t.hs) (absR t) k v := by
  unfold putRows midRows putR
  rw [← h.has, ← h.pos]
  cases hh : hasK t k
  · rw [if_neg (by decide), if_neg (by decide), setV_ins (posK_le t k)]
    unfold absR
    rw [List.map_append, List.map_cons, List.map_take, List.map_drop]
    rfl
  · rw [if_pos rfl, if_pos rfl]
    obtain ⟨hp, e⟩ := h.hasp hh
    rw [setV_of hp, List.set_eq_take_append_cons_drop, if_pos hp]
    unfold absR
    rw [List.map_append, List.map_cons, List.map_take, List.map_drop, e]
theorem GoodT.put (h : GoodT t) (hk : validT k = true) (nk : nodesT k ≤ 100000000) (nv : nodesT v ≤ 100000000) {uk uv vr : Value} : GoodT { t with vr := vr, rows := putRows t k v uk uv } := by
  refine ⟨fun r hr => ?_, fun r hr => ?_, ?_, fun r hr => ?_⟩
  · rcases put_rows_mem h hr with ⟨e, _, e2⟩ | ⟨r0, hr0, e1, e2, _⟩
    · rw [e, e2]
    · rw [e1, e2]; exact h.hh r0 hr0
  · rcases put_rows_mem h hr with ⟨e, _⟩ | ⟨r0, hr0, e1, _⟩
    · rw [e]; exact hk
    · rw [e1]; exact h.vd r0 hr0
  · have e : absR { t with vr := vr, rows := putRows t k v uk uv } = putR (cmpH t.hs) (absR t) k v := put_rows_abs h uk uv
    rw [e]
    exact putR_sort (ordH t.hs) h.sd hk h.keys v
  · rcases put_rows_mem h hr with ⟨e, e2, _⟩ | ⟨r0, hr0, e1, _, e2⟩
    · rw [e, e2]; exact ⟨nk, nv⟩
    · rw [e1, e2]; exact h.nd r0 hr0
theorem GoodT.del (h : GoodT t) (hh : hasK t k = true) {vr : Value} : GoodT { t with vr := vr, rows := t.rows.take (posK t k) ++ t.rows.drop (posK t k + 1) } ∧ absR { t with vr := vr, rows := t.rows.take (posK t k) ++ t.rows.drop (posK t k + 1) } = delR (cmpH t.hs) (absR t) k := by
  have hm : ∀ r ∈ t.rows.take (posK t k) ++ t.rows.drop (posK t k + 1), r ∈ t.rows := fun r hr => by
    rcases List.mem_append.1 hr with hr | hr
    · exact List.mem_of_mem_take hr
    · exact List.mem_of_mem_drop hr
  have e : absR { t with vr := vr, rows := t.rows.take (posK t k) ++ t.rows.drop (posK t k + 1) } = delR (cmpH t.hs) (absR t) k := by
    unfold delR
    rw [← h.has, hh, if_pos rfl, ← h.pos]
    unfold absR
    dsimp only
    rw [List.map_append, List.map_take, List.map_drop]
  refine ⟨⟨fun r hr => h.hh r (hm r hr), fun r hr => h.vd r (hm r hr), ?_, fun r hr => h.nd r (hm r hr)⟩, e⟩
  rw [e]
  exact delR_sort h.sd
end
end Go.Proofs.YtfbggmbmgohiiaaGreat.tb
/- Del. Conditions: the object and the terms lie in memory. -/
namespace Go.Proofs.YtfbggmbmgohiiaaGreat.tb
open Go.RowKit mem rec tm names
set_option linter.unusedVariables false
set_option linter.unusedSimpArgs false
set_option maxHeartbeats 4000000
set_option maxRecDepth 100000
def DelQ {N : Nat} (w : World) (B : Nat) (F : Nat → Prop) (t : TabE N) (k : Tm (N + 1)) (W : World) : Prop := ∃ vr, TabQ w B F t W F vr (t.rows.take (posK t k) ++ t.rows.drop (posK t k + 1))
section
variable {N : Nat} {w w' : World} {B : Nat} {F : Nat → Prop} {s : TbSt N} {t : TabE N} {k : Tm (N + 1)}
theorem del_step (h : TabAt w B F t) (hty : Typed w F) (hfl : ∀ g, F g → g < w.heap.size) (hlen : t.rows.length ≤ 1000000) (hp : posK t k < t.rows.length) :
    ∃ g cap, t.vr = .slice (some ⟨g, 0, none⟩) t.rows.length cap ∧ ∀ W, Below w.heap.size w W → Calls Tryz.prog 57 #[.slice (some ⟨g, 0, none⟩) t.rows.length cap, .int .i64 (posK t k), .int .i64 ((posK t k : Int) + 1)] W fun e w' => e = .returned (.slice (some ⟨g, 0, none⟩) (t.rows.length - 1) cap) ∧ TouchB (fun q => q = g) W w' ∧ w'.cell? ⟨t.b, 19, none⟩ = some (.slice (some ⟨g, 0, none⟩) t.rows.length cap) ∧ w'.frozen? ⟨t.b, 19, none⟩ = false ∧ DelQ w B F t k (w'.setCell ⟨t.b, 19, none⟩ (.slice (some ⟨g, 0, none⟩) (t.rows.length - 1) cap)) := by
  obtain ⟨g, cap, cur, hv, hbg, hg, hnc, hcm, hcs, htk⟩ := own_parts h.rows (by omega)
  refine ⟨g, cap, hv, fun W hb => ?_⟩
  have hW := h.below hb hfl
  have hown := hW.rows
  rw [hv] at hown
  have hne : g ≠ t.b := ty_ne (tyOf_of hg) (tyOf_of h.blk) (by decide)
  have hgw : g < w.heap.size := (Array.getElem?_eq_some_iff.1 hg).1
  refine (delete57 hown hW.enc hlen hp).mono ?_
  rintro e w' ⟨rfl, hown2, hT⟩
  have hblk : w'.heap[t.b]? = some (.cells (tabL t).toArray 98) := (hT.block _ hW.lt (fun e => hne e.symm)).trans hW.blk
  obtain ⟨_, _, _, hc19, hfz⟩ := tab_cells hblk
  refine ⟨rfl, hT, hc19.trans (by rw [hv]), hfz 19, .slice (some ⟨g, 0, none⟩) (t.rows.length - 1) cap, ?_⟩
  have hset : ∀ q, q ≠ t.b → (w'.setCell ⟨t.b, 19, none⟩ (.slice (some ⟨g, 0, none⟩) (t.rows.length - 1) cap)).heap[q]? = w'.heap[q]? := fun q hq => Below.heap_setCell _ _ _ _ hq
  have hFne : ∀ q, F q → q ≠ t.b ∧ q ≠ g := fun q hq => ⟨ty_ne (typed_ty hty hq) (tyOf_of h.blk) (by decide), ty_ne (typed_ty hty hq) (tyOf_of hg) (by decide)⟩
  have hFs : ∀ q, F q → (w'.setCell ⟨t.b, 19, none⟩ (.slice (some ⟨g, 0, none⟩) (t.rows.length - 1) cap)).heap[q]? = w.heap[q]? := fun q hq => (hset q (hFne q hq).1).trans ((hT.block q (Nat.lt_of_lt_of_le (hfl q hq) hb.size) (hFne q hq).2).trans (hb.block q (hfl q hq)))
  have hsz : (w'.setCell ⟨t.b, 19, none⟩ (.slice (some ⟨g, 0, none⟩) (t.rows.length - 1) cap)).heap.size = w'.heap.size := by simp
  refine ⟨⟨?_, ?_, h.iref.mono hFs (fun _ q => q), h.iown.mono hFs (fun _ q => q), ?_, h.low⟩, ?_, fun _ q => q, hty.same hFs, ?_, fun q hq => ?_⟩
  · exact (set_block hblk _).trans (by rw [tab_set t _ (t.rows.take (posK t k) ++ t.rows.drop (posK t k + 1))])
  · exact hown2.same (fun q hq => hset q (fun e => by
      have : q = g := (Option.some.inj hq).symm
      exact hne (this.symm.trans e)))
  · intro r hr
    have hr : r ∈ t.rows.take (posK t k) ++ t.rows.drop (posK t k + 1) := hr
    have hm : r ∈ t.rows := by
      rcases List.mem_append.1 hr with hr | hr
      · exact List.mem_of_mem_take hr
      · exact List.mem_of_mem_drop hr
    have := h.irow r hm
    exact ⟨this.1.mono hFs (fun _ q => q), this.2.mono hFs (fun _ q => q)⟩
  · exact TouchB.setCell (((TouchB.refl _ _).ofBelow hb (Nat.le_refl _)).trans hT (fun q _ e => .inr (by rw [hv, e]; rfl))) _ _ (fun _ => .inl rfl)
  · intro q hq
    rw [hsz]
    exact Nat.lt_of_lt_of_le (hfl q hq) (Nat.le_trans hb.size hT.size)
  · exact .inl (by rw [hv]; exact hq)
theorem del22e (h : TbAt w B F s) (hlen : s.tabs.length ≤ 1000) {r k : Tm (N + 1)} {ur uk : Value} {B2 : Nat} (hB : B2 ≤ w.heap.size) (hI : ItemsAt w B2 N ur r.items) (hJ : ItemsAt w B2 N uk k.items) (hnk : nodesT k ≤ 100000000) {er : Int} (he : er ≠ 0) (hKR : KeyR s.tabs r k none er) :
    Calls Tryz.prog 22 #[.pointer (some ⟨s.z, 0, none⟩), aggV r.f ur, aggV k.f uk] w fun e w' => e = .returned (.tuple #[.bool false, .int .i64 er]) ∧ Below w.heap.size w w' := by
  have HKy := Lib.hid (fun (W : World) (hW : Below w.heap.size w W) => keyed55 (h.below hW) hlen (Nat.le_trans hB hW.size) (hI.below hW hB) (hJ.below hW hB) (by omega) (po := none) (er := er) hKR)
  obtain ⟨pr, cr, er1, _, _⟩ := hI.shape
  obtain ⟨pk, ck, ek, _, _⟩ := hJ.shape
  rw [er1] at HKy ⊢
  rw [ek] at HKy ⊢
  clear h hlen hB hI hJ hnk hKR er1 ek
  generalize s.z = z at *
  generalize r.items.length = nr at *
  generalize k.items.length = nk at *
  generalize r.f = fr at *
  generalize k.f = fk at *
  obtain ⟨rk, ri, rg, rn, rf, ra, rb, rs⟩ := fr
  obtain ⟨kk, ki, kg, kn, kf, ka, kb, ks⟩ := fk
  unfold aggV at *
  dsimp only at *
  have hsz9 : (Tryz.prog.info? 24).map (·.size) = some 9 := by kernel_rfl
  obtain ⟨hb0, hz4, hz5⟩ := two_boxes w (.cells #[.int .i64 rk, .int .i64 ri, .int .i64 rg, .string rn, .string rf, .int .i64 ra, .slice pr nr cr, .string rb, .int .i64 rs] 24) (.cells #[.int .i64 kk, .int .i64 ki, .int .i64 kg, .string kn, .string kf, .int .i64 ka, .slice pk nk ck, .string kb, .int .i64 ks] 24)
  go_enter Tryz.func22, Tryz.ntmps22
  go_upto_region 1 with (fail)
  generalize ((w.alloc (.cells #[.int .i64 rk, .int .i64 ri, .int .i64 rg, .string rn, .string rf, .int .i64 ra, .slice pr nr cr, .string rb, .int .i64 rs] 24)).alloc (.cells #[.int .i64 kk, .int .i64 ki, .int .i64 kg, .string kn, .string kf, .int .i64 ka, .slice pk nk ck, .string kb, .int .i64 ks] 24)) = W1 at *
  have HL4 := Lib.hid (row_rng hz4)
  have HL5 := Lib.hid (row_rng hz5)
  have HZ5 := Lib.hid hz5
  have hlt := (Array.getElem?_eq_some_iff.1 hz5).1
  have HB0 := Lib.hid hb0
  clear hz4 hz5 hb0
  go_wp2_with (first
    | (refine wpList_load_mid rfl 24 (.tmp 4) rfl w.heap.size 0 rfl [.int .i64 rk, .int .i64 ri, .int .i64 rg, .string rn, .string rf, .int .i64 ra, .slice pr nr cr, .string rb, .int .i64 rs] _ HL4.out Tryz.underlying24 rfl hsz9 ?_)
    | (refine wpList_load_mid rfl 24 (.tmp 5) rfl (w.heap.size + 1) 0 rfl [.int .i64 kk, .int .i64 ki, .int .i64 kg, .string kn, .string kf, .int .i64 ka, .slice pk nk ck, .string kb, .int .i64 ks] _ HL5.out Tryz.underlying24 rfl hsz9 ?_))
  refine (HKy.out _ HB0.out).mono ?_
  rintro e w2 ⟨rfl, hb2⟩
  have HB2 := Lib.hid (HB0.out.trans (hb2.mono HB0.out.size))
  have HZ5' := Lib.hid ((hb2.block _ hlt).trans HZ5.out)
  have hlt2 := Nat.lt_of_lt_of_le hlt hb2.size
  clear HL4 HL5 hb2 HKy HB0 HZ5 hlt
  go_wp2_with fail
  go_ret2
  exact ⟨rfl, HB2.out⟩
theorem del22n (h : TbAt w B F s) (hlen : s.tabs.length ≤ 1000) {r k : Tm (N + 1)} {ur uk : Value} {B2 : Nat} (hB : B2 ≤ w.heap.size) (hI : ItemsAt w B2 N ur r.items) (hJ : ItemsAt w B2 N uk k.items) (hnk : nodesT k ≤ 100000000) (hvk : validT k = true) {i : Nat} (hi : i < s.tabs.length) (hr : refAt s.tabs r = some i) (hok : FindOK s.tabs[i] k) (hno : hasK s.tabs[i] k = false) :
    Calls Tryz.prog 22 #[.pointer (some ⟨s.z, 0, none⟩), aggV r.f ur, aggV k.f uk] w fun e w' => e = .returned (.tuple #[.bool false, .int .i64 0]) ∧ Below w.heap.size w w' := by
  have ht := h.tabs _ (List.getElem_mem hi)
  have hKR : KeyR s.tabs r k (some ⟨(s.tabs[i]).b, 0, none⟩) 0 := .inr ⟨hvk, .inr ⟨i, hi, hr, rfl, rfl⟩⟩
  have HFi := Lib.hid (fun (W : World) (hW : Below w.heap.size w W) => find56 (ht.below hW h.fl) (fun g hg => Nat.lt_of_lt_of_le (h.fl g hg) hW.size) (Nat.le_trans hB hW.size) (hJ.below hW hB) (by omega) hok)
  have HKy := Lib.hid (fun (W : World) (hW : Below w.heap.size w W) => keyed55 (h.below hW) hlen (Nat.le_trans hB hW.size) (hI.below hW hB) (hJ.below hW hB) (by omega) (po := some ⟨(s.tabs[i]).b, 0, none⟩) (er := 0) hKR)
  obtain ⟨pr, cr, er1, _, _⟩ := hI.shape
  obtain ⟨pk, ck, ek, _, _⟩ := hJ.shape
  rw [er1] at HKy ⊢
  rw [ek] at HKy HFi ⊢
  rw [hno] at HFi
  generalize posK s.tabs[i] k = pos at *
  generalize (s.tabs[i]).b = tb at *
  clear h hlen hB hI hJ hnk hKR er1 ek ht hok hno hr hi hvk
  generalize s.z = z at *
  generalize r.items.length = nr at *
  generalize k.items.length = nk at *
  generalize r.f = fr at *
  generalize k.f = fk at *
  obtain ⟨rk, ri, rg, rn, rf, ra, rb, rs⟩ := fr
  obtain ⟨kk, ki, kg, kn, kf, ka, kb, ks⟩ := fk
  unfold aggV at *
  dsimp only at *
  have hsz9 : (Tryz.prog.info? 24).map (·.size) = some 9 := by kernel_rfl
  obtain ⟨hb0, hz4, hz5⟩ := two_boxes w (.cells #[.int .i64 rk, .int .i64 ri, .int .i64 rg, .string rn, .string rf, .int .i64 ra, .slice pr nr cr, .string rb, .int .i64 rs] 24) (.cells #[.int .i64 kk, .int .i64 ki, .int .i64 kg, .string kn, .string kf, .int .i64 ka, .slice pk nk ck, .string kb, .int .i64 ks] 24)
  go_enter Tryz.func22, Tryz.ntmps22
  go_upto_region 1 with (fail)
  generalize ((w.alloc (.cells #[.int .i64 rk, .int .i64 ri, .int .i64 rg, .string rn, .string rf, .int .i64 ra, .slice pr nr cr, .string rb, .int .i64 rs] 24)).alloc (.cells #[.int .i64 kk, .int .i64 ki, .int .i64 kg, .string kn, .string kf, .int .i64 ka, .slice pk nk ck, .string kb, .int .i64 ks] 24)) = W1 at *
  have HL4 := Lib.hid (row_rng hz4)
  have HL5 := Lib.hid (row_rng hz5)
  have HZ5 := Lib.hid hz5
  have hlt := (Array.getElem?_eq_some_iff.1 hz5).1
  have HB0 := Lib.hid hb0
  clear hz4 hz5 hb0
  go_wp2_with (first
    | (refine wpList_load_mid rfl 24 (.tmp 4) rfl w.heap.size 0 rfl [.int .i64 rk, .int .i64 ri, .int .i64 rg, .string rn, .string rf, .int .i64 ra, .slice pr nr cr, .string rb, .int .i64 rs] _ HL4.out Tryz.underlying24 rfl hsz9 ?_)
    | (refine wpList_load_mid rfl 24 (.tmp 5) rfl (w.heap.size + 1) 0 rfl [.int .i64 kk, .int .i64 ki, .int .i64 kg, .string kn, .string kf, .int .i64 ka, .slice pk nk ck, .string kb, .int .i64 ks] _ HL5.out Tryz.underlying24 rfl hsz9 ?_))
  refine (HKy.out _ HB0.out).mono ?_
  rintro e w2 ⟨rfl, hb2⟩
  have HB2 := Lib.hid (HB0.out.trans (hb2.mono HB0.out.size))
  have HZ5' := Lib.hid ((hb2.block _ hlt).trans HZ5.out)
  have hlt2 := Nat.lt_of_lt_of_le hlt hb2.size
  clear HL4 HL5 hb2 HKy HB0 HZ5 hlt
  have HL5 := Lib.hid (row_rng HZ5'.out)
  go_wp2_with (first
    | (refine wpList_load_mid rfl 24 (.tmp 5) rfl (w.heap.size + 1) 0 rfl [.int .i64 kk, .int .i64 ki, .int .i64 kg, .string kn, .string kf, .int .i64 ka, .slice pk nk ck, .string kb, .int .i64 ks] _ HL5.out Tryz.underlying24 rfl hsz9 ?_))
  refine (HFi.out _ HB2.out).mono ?_
  rintro e w3 ⟨rfl, hb3⟩
  have HB3 := Lib.hid (HB2.out.trans (hb3.mono HB2.out.size))
  clear hb3 HB2 HL5 HFi HZ5' hlt2
  go_wp2_with fail
  go_ret2
  exact ⟨rfl, HB3.out⟩
theorem del22y (h : TbAt w B F s) (hlen : s.tabs.length ≤ 1000) {r k : Tm (N + 1)} {ur uk : Value} {B2 : Nat} (hB : B2 ≤ w.heap.size) (hI : ItemsAt w B2 N ur r.items) (hJ : ItemsAt w B2 N uk k.items) (hnk : nodesT k ≤ 100000000) (hvk : validT k = true) {i : Nat} (hi : i < s.tabs.length) (hr : refAt s.tabs r = some i) (hok : FindOK s.tabs[i] k) (hyes : hasK s.tabs[i] k = true) (hp : posK s.tabs[i] k < (s.tabs[i]).rows.length) :
    Calls Tryz.prog 22 #[.pointer (some ⟨s.z, 0, none⟩), aggV r.f ur, aggV k.f uk] w fun e w' => e = .returned (.tuple #[.bool true, .int .i64 0]) ∧ DelQ w B F s.tabs[i] k w' := by
  have ht := h.tabs _ (List.getElem_mem hi)
  have hKR : KeyR s.tabs r k (some ⟨(s.tabs[i]).b, 0, none⟩) 0 := .inr ⟨hvk, .inr ⟨i, hi, hr, rfl, rfl⟩⟩
  have HFi := Lib.hid (fun (W : World) (hW : Below w.heap.size w W) => find56 (ht.below hW h.fl) (fun g hg => Nat.lt_of_lt_of_le (h.fl g hg) hW.size) (Nat.le_trans hB hW.size) (hJ.below hW hB) (by omega) hok)
  have HKy := Lib.hid (fun (W : World) (hW : Below w.heap.size w W) => keyed55 (h.below hW) hlen (Nat.le_trans hB hW.size) (hI.below hW hB) (hJ.below hW hB) (by omega) (po := some ⟨(s.tabs[i]).b, 0, none⟩) (er := 0) hKR)
  obtain ⟨pr, cr, er1, _, _⟩ := hI.shape
  obtain ⟨pk, ck, ek, _, _⟩ := hJ.shape
  rw [er1] at HKy ⊢
  rw [ek] at HKy HFi ⊢
  rw [hyes] at HFi
  obtain ⟨g, cap, ev, hst⟩ := del_step ht h.ty h.fl hok.len hp
  have htb := ht.lt
  have HSt := Lib.hid hst
  have hgt := ty_ne (ownTy ht.rows (k := g) (by rw [ev]; rfl)) (tyOf_of ht.blk) (by decide)
  have HC19 : Hid (∀ W, Below w.heap.size w W → W.cell? ⟨(s.tabs[i]).b, 19, none⟩ = some (.slice (some ⟨g, 0, none⟩) (s.tabs[i]).rows.length cap)) := Lib.hid (fun W hW => by rw [← ev]; exact cell_keep hW htb (tab_cells ht.blk).2.2.2.1)
  have hpz : (posK s.tabs[i] k : Int) < ((s.tabs[i]).rows.length : Int) := by omega
  have hlr := hok.len
  clear hst ev hgt
  generalize DelQ w B F s.tabs[i] k = Dq at *
  generalize posK s.tabs[i] k = pos at *
  generalize (s.tabs[i]).rows.length = n at *
  generalize (s.tabs[i]).b = tb at *
  clear h hlen hB hI hJ hnk hKR er1 ek ht hok hyes hr hi hvk
  generalize s.z = z at *
  generalize r.items.length = nr at *
  generalize k.items.length = nk at *
  generalize r.f = fr at *
  generalize k.f = fk at *
  obtain ⟨rk, ri, rg, rn, rf, ra, rb, rs⟩ := fr
  obtain ⟨kk, ki, kg, kn, kf, ka, kb, ks⟩ := fk
  unfold aggV at *
  dsimp only at *
  have hsz9 : (Tryz.prog.info? 24).map (·.size) = some 9 := by kernel_rfl
  obtain ⟨hb0, hz4, hz5⟩ := two_boxes w (.cells #[.int .i64 rk, .int .i64 ri, .int .i64 rg, .string rn, .string rf, .int .i64 ra, .slice pr nr cr, .string rb, .int .i64 rs] 24) (.cells #[.int .i64 kk, .int .i64 ki, .int .i64 kg, .string kn, .string kf, .int .i64 ka, .slice pk nk ck, .string kb, .int .i64 ks] 24)
  go_enter Tryz.func22, Tryz.ntmps22
  go_upto_region 1 with (fail)
  generalize ((w.alloc (.cells #[.int .i64 rk, .int .i64 ri, .int .i64 rg, .string rn, .string rf, .int .i64 ra, .slice pr nr cr, .string rb, .int .i64 rs] 24)).alloc (.cells #[.int .i64 kk, .int .i64 ki, .int .i64 kg, .string kn, .string kf, .int .i64 ka, .slice pk nk ck, .string kb, .int .i64 ks] 24)) = W1 at *
  have HL4 := Lib.hid (row_rng hz4)
  have HL5 := Lib.hid (row_rng hz5)
  have HZ5 := Lib.hid hz5
  have hlt := (Array.getElem?_eq_some_iff.1 hz5).1
  have HB0 := Lib.hid hb0
  clear hz4 hz5 hb0
  go_wp2_with (first
    | (refine wpList_load_mid rfl 24 (.tmp 4) rfl w.heap.size 0 rfl [.int .i64 rk, .int .i64 ri, .int .i64 rg, .string rn, .string rf, .int .i64 ra, .slice pr nr cr, .string rb, .int .i64 rs] _ HL4.out Tryz.underlying24 rfl hsz9 ?_)
    | (refine wpList_load_mid rfl 24 (.tmp 5) rfl (w.heap.size + 1) 0 rfl [.int .i64 kk, .int .i64 ki, .int .i64 kg, .string kn, .string kf, .int .i64 ka, .slice pk nk ck, .string kb, .int .i64 ks] _ HL5.out Tryz.underlying24 rfl hsz9 ?_))
  refine (HKy.out _ HB0.out).mono ?_
  rintro e w2 ⟨rfl, hb2⟩
  have HB2 := Lib.hid (HB0.out.trans (hb2.mono HB0.out.size))
  have HZ5' := Lib.hid ((hb2.block _ hlt).trans HZ5.out)
  have hlt2 := Nat.lt_of_lt_of_le hlt hb2.size
  clear HL4 HL5 hb2 HKy HB0 HZ5 hlt
  have HL5 := Lib.hid (row_rng HZ5'.out)
  go_wp2_with (first
    | (refine wpList_load_mid rfl 24 (.tmp 5) rfl (w.heap.size + 1) 0 rfl [.int .i64 kk, .int .i64 ki, .int .i64 kg, .string kn, .string kf, .int .i64 ka, .slice pk nk ck, .string kb, .int .i64 ks] _ HL5.out Tryz.underlying24 rfl hsz9 ?_))
  refine (HFi.out _ HB2.out).mono ?_
  rintro e w3 ⟨rfl, hb3⟩
  have HB3 := Lib.hid (HB2.out.trans (hb3.mono HB2.out.size))
  clear hb3 HB2 HL5 HFi HZ5' hlt2
  have hc19 := HC19.out _ HB3.out
  have hpw : IntKind.i64.wrap ((pos : Int) + 1) = (pos : Int) + 1 := IntWalk.i64_in _ (by omega)
  go_wp2_with fail
  refine (HSt.out _ HB3.out).mono ?_
  rintro e w4 ⟨rfl, hT, hc, hf, hq⟩
  have HQ := Lib.hid hq
  clear hq hc19
  go_wp2_with fail
  go_ret2
  exact ⟨rfl, HQ.out⟩
end
end Go.Proofs.YtfbggmbmgohiiaaGreat.tb
/- The object as a list of tables; Put, Get, Del, Size, Make in one form each. Conditions: the object and the terms lie in memory. -/
namespace Go.Proofs.YtfbggmbmgohiiaaGreat.tb
open Go.RowKit mem rec tm names
set_option linter.unusedVariables false
set_option linter.unusedSimpArgs false
set_option maxHeartbeats 1000000
set_option maxRecDepth 100000
structure TabA (N : Nat) where
  ref : Tm (N + 1)
  own : Tm (N + 1)
  hs : Bool
  rows : List (Tm (N + 1) × Tm (N + 1))
def absT {N : Nat} (t : TabE N) : TabA N := ⟨t.ref, t.own, t.hs, absR t⟩
def StG {N : Nat} (B z : Nat) (A : List (TabA N)) (W : World) : Prop := ∃ F vl tabs, TbAt W B F ⟨z, vl, tabs⟩ ∧ tabs.map absT = A ∧ ∀ t ∈ tabs, GoodT t
noncomputable def refA {N : Nat} (A : List (TabA N)) (r : Tm (N + 1)) : Option Nat := A.findIdx? (fun x => eqB x.ref r)
/-- the table with a name -/
noncomputable def tabA {N : Nat} (A : List (TabA N)) (r : Tm (N + 1)) : Option (TabA N) := (refA A r).bind (fun i => A[i]?)
structure SmA {N : Nat} (A : List (TabA N)) : Prop where
  len : A.length ≤ 1000
  rows : ∀ a ∈ A, a.rows.length ≤ 1000000
/-- the rows of the table with a name are turned -/
noncomputable def updA {N : Nat} (A : List (TabA N)) (r : Tm (N + 1)) (f : TabA N → List (Tm (N + 1) × Tm (N + 1))) : List (TabA N) := match refA A r with
  | none => A
  | some i => match A[i]? with
    | none => A
    | some a => A.set i { a with rows := f a }
noncomputable def putE {N : Nat} (A : List (TabA N)) (r k v : Tm (N + 1)) : Int := if validT v then (if validT k then (match refA A r with | none => 4 | some _ => 0) else 2) else 2
noncomputable def putA {N : Nat} (A : List (TabA N)) (r k v : Tm (N + 1)) : List (TabA N) := if validT v && validT k then updA A r (fun a => putR (cmpH a.hs) a.rows k v) else A
noncomputable def getX {N : Nat} (A : List (TabA N)) (r k : Tm (N + 1)) : Tm (N + 1) × Bool × Int := if validT k then (match tabA A r with
  | none => (zT, false, 4)
  | some a => match getR (cmpH a.hs) a.rows k with
    | none => (zT, false, 0)
    | some v => (v, true, 0)) else (zT, false, 2)
noncomputable def delX {N : Nat} (A : List (TabA N)) (r k : Tm (N + 1)) : Bool × Int := if validT k then (match tabA A r with
  | none => (false, 4)
  | some a => (hasR (cmpH a.hs) a.rows k, 0)) else (false, 2)
noncomputable def delA {N : Nat} (A : List (TabA N)) (r k : Tm (N + 1)) : List (TabA N) := if validT k then updA A r (fun a => delR (cmpH a.hs) a.rows k) else A
noncomputable def sizeX {N : Nat} (A : List (TabA N)) (r : Tm (N + 1)) : Int × Int := match tabA A r with
  | none => (0, 4)
  | some a => (a.rows.length, 0)
noncomputable def makeE {N : Nat} (A : List (TabA N)) (r o : Tm (N + 1)) : Int := if decide (r.f.kind = 3) && decide (o.f.kind = 6) && validT r && validT o then (match refA A r with
  | some _ => 8
  | none => if 64 ≤ A.length then 5 else 0) else 2
noncomputable def makeA {N : Nat} (A : List (TabA N)) (r o : Tm (N + 1)) (hs : Bool) : List (TabA N) := if makeE A r o = 0 then A ++ [⟨r, o, hs, []⟩] else A
section
variable {N : Nat} {B z : Nat} {A : List (TabA N)} {W W' : World}
theorem StG.below (h : StG B z A W) (hb : Below W.heap.size W W') : StG B z A W' := by
  obtain ⟨F, vl, tabs, h1, h2⟩ := h
  exact ⟨F, vl, tabs, h1.below hb, h2⟩
theorem StG.lt (h : StG B z A W) : z < W.heap.size := by
  obtain ⟨F, vl, tabs, h1, h2⟩ := h
  exact h1.zlt
theorem refA_map (tabs : List (TabE N)) (r : Tm (N + 1)) : refA (tabs.map absT) r = refAt tabs r := by
  unfold refA refAt
  rw [List.findIdx?_map]
  rfl
theorem NewI.nil (w w' : World) : NewI w w' (fun _ => False) N nilV (zT : Tm (N + 1)).items := ⟨ItemsIn.nil_any (by decide), fun g hg => hg.elim, fun g hg => hg.elim⟩
/-- what stands behind the abstract tables -/
theorem StG.open (h : StG B z A W) (hs : SmA A) (r : Tm (N + 1)) : ∃ F vl tabs, TbAt W B F ⟨z, vl, tabs⟩ ∧ tabs.map absT = A ∧ (∀ t ∈ tabs, GoodT t) ∧ tabs.length ≤ 1000 ∧
    ((refA A r = none ∧ refAt tabs r = none ∧ tabA A r = none) ∨ ∃ i, ∃ hi : i < tabs.length, refA A r = some i ∧ refAt tabs r = some i ∧ A[i]? = some (absT tabs[i]) ∧ tabA A r = some (absT tabs[i]) ∧ GoodT tabs[i] ∧ (tabs[i]).rows.length ≤ 1000000) := by
  obtain ⟨F, vl, tabs, h1, rfl, h3⟩ := h
  refine ⟨F, vl, tabs, h1, rfl, h3, by have := hs.len; rwa [List.length_map] at this, ?_⟩
  cases hr : refAt tabs r with
  | none =>
    have e : refA (tabs.map absT) r = none := by rw [refA_map, hr]
    exact .inl ⟨e, rfl, by unfold tabA; rw [e]; rfl⟩
  | some i =>
    have e : refA (tabs.map absT) r = some i := by rw [refA_map, hr]
    obtain ⟨hi, _⟩ := refAt_lt hr
    have ea : (tabs.map absT)[i]? = some (absT tabs[i]) := by rw [List.getElem?_map, List.getElem?_eq_getElem hi]; rfl
    have hl := hs.rows (absT tabs[i]) (List.mem_map.2 ⟨_, List.getElem_mem hi, rfl⟩)
    refine .inr ⟨i, hi, e, rfl, ea, by unfold tabA; rw [e]; exact ea, h3 _ (List.getElem_mem hi), ?_⟩
    unfold absT absR at hl
    rwa [List.length_map] at hl
theorem StG.set {tabs : List (TabE N)} (hg : ∀ t ∈ tabs, GoodT t) {i : Nat} {t' : TabE N} (h' : GoodT t') : ∀ t ∈ tabs.set i t', GoodT t := fun t ht => by
  rcases List.mem_or_eq_of_mem_set ht with ht | rfl
  · exact hg t ht
  · exact h'
theorem set_abs {tabs : List (TabE N)} {i : Nat} {t' : TabE N} : (tabs.set i t').map absT = (tabs.map absT).set i (absT t') := by
  refine List.ext_getElem? fun j => ?_
  rw [List.getElem?_map, List.getElem?_set, List.getElem?_set, List.length_map, List.getElem?_map]
  split
  · split <;> rfl
  · rfl
variable {r k v o : Tm (N + 1)} {ur uk uv uo : Value} {B2 : Nat}
theorem g_put (h : StG B z A W) (hs : SmA A) (hB : B ≤ W.heap.size) (hB2 : B2 ≤ B) (hI : ItemsAt W B2 N ur r.items) (hJ : ItemsAt W B2 N uk k.items) (hV : ItemsAt W B2 N uv v.items) (hnk : nodesT k ≤ 100000000) (hnv : nodesT v ≤ 100000000) :
    Calls Tryz.prog 24 #[.pointer (some ⟨z, 0, none⟩), aggV r.f ur, aggV k.f uk, aggV v.f uv] W fun e w' => e = .returned (.int .i64 (putE A r k v)) ∧ StG B z (putA A r k v) w' ∧ TT progT B W w' := by
  obtain ⟨F, vl, tabs, h1, h2, h3, hl, hc⟩ := h.open hs r
  have hBw := Nat.le_trans hB2 hB
  have old : ∀ {e : Ending} {w' : World}, Below W.heap.size W w' → StG B z A w' ∧ TT progT B W w' := fun hb => ⟨h.below hb, TT.new hb⟩
  cases hv : validT v
  · have e1 : putE A r k v = 2 := by unfold putE; rw [hv, if_neg (by decide)]
    have e2 : putA A r k v = A := by unfold putA; rw [hv]; rfl
    rw [e1, e2]
    refine (put24v h1 hl hBw hI hJ hV hnk hnv hv).mono ?_
    rintro e w' ⟨rfl, hb⟩
    exact ⟨rfl, old (e := .returned (.int .i64 2)) hb⟩
  · cases hk : validT k
    · have e1 : putE A r k v = 2 := by unfold putE; rw [hv, hk, if_pos rfl, if_neg (by decide)]
      have e2 : putA A r k v = A := by unfold putA; rw [hv, hk]; rfl
      rw [e1, e2]
      refine (put24e h1 hl hBw hI hJ hV hnk hnv hv (er := 2) (by decide) (.inl ⟨hk, rfl, rfl⟩)).mono ?_
      rintro e w' ⟨rfl, hb⟩
      exact ⟨rfl, old (e := .returned (.int .i64 2)) hb⟩
    · rcases hc with ⟨c1, c2, c3⟩ | ⟨i, hi, c1, c2, c3, c4, c5, c6⟩
      · have e1 : putE A r k v = 4 := by unfold putE; rw [hv, hk, if_pos rfl, if_pos rfl, c1]
        have e2 : putA A r k v = A := by unfold putA updA; rw [hv, hk, c1]; rfl
        rw [e1, e2]
        refine (put24e h1 hl hBw hI hJ hV hnk hnv hv (er := 4) (by decide) (.inr ⟨hk, .inl ⟨c2, rfl, rfl⟩⟩)).mono ?_
        rintro e w' ⟨rfl, hb⟩
        exact ⟨rfl, old (e := .returned (.int .i64 4)) hb⟩
      · have e1 : putE A r k v = 0 := by unfold putE; rw [hv, hk, if_pos rfl, if_pos rfl, c1]
        have e2 : putA A r k v = A.set i { absT tabs[i] with rows := putR (cmpH (absT tabs[i]).hs) (absT tabs[i]).rows k v } := by
          unfold putA updA
          rw [hv, hk, c1]
          dsimp only
          rw [c3]
          rfl
        rw [e1, e2]
        refine (put24y h1 hB hl hB2 hI hJ hV hnk hnv hk hv hi c2 (c5.find c6 k)).mono ?_
        rintro e w' ⟨rfl, F1, uk', uv', vr, hq⟩
        obtain ⟨h4, h5⟩ := hq.upd h1 hi
        refine ⟨rfl, ⟨F1, vl, _, h4, ?_, StG.set h3 (c5.put hk hnk hnv)⟩, h5⟩
        rw [set_abs, h2]
        show A.set i ⟨_, _, _, (putRows tabs[i] k v uk' uv').map (fun r => (r.k, r.v))⟩ = _
        rw [put_rows_abs c5]
        rfl
def GetG {N : Nat} (x : Tm (N + 1) × Bool × Int) (W : World) (e : Ending) (w' : World) : Prop := ∃ F1 u, e = .returned (.tuple #[aggV x.1.f u, .bool x.2.1, .int .i64 x.2.2]) ∧ Below W.heap.size W w' ∧ NewI W w' F1 N u x.1.items
theorem g_get (h : StG B z A W) (hs : SmA A) (hB2 : B2 ≤ W.heap.size) (hI : ItemsAt W B2 N ur r.items) (hJ : ItemsAt W B2 N uk k.items) (hnk : nodesT k ≤ 100000000) :
    Calls Tryz.prog 32 #[.pointer (some ⟨z, 0, none⟩), aggV r.f ur, aggV k.f uk] W (GetG (getX A r k) W) := by
  obtain ⟨F, vl, tabs, h1, h2, h3, hl, hc⟩ := h.open hs r
  cases hk : validT k
  · have e1 : getX A r k = (zT, false, 2) := by unfold getX; rw [hk, if_neg (by decide)]
    rw [e1]
    refine (get32e h1 hl hB2 hI hJ hnk (er := 2) (by decide) (.inl ⟨hk, rfl, rfl⟩)).mono ?_
    rintro e w' ⟨rfl, hb⟩
    exact ⟨_, nilV, rfl, hb, NewI.nil W w'⟩
  · rcases hc with ⟨c1, c2, c3⟩ | ⟨i, hi, c1, c2, c3, c4, c5, c6⟩
    · have e1 : getX A r k = (zT, false, 4) := by unfold getX; rw [hk, if_pos rfl, c3]
      rw [e1]
      refine (get32e h1 hl hB2 hI hJ hnk (er := 4) (by decide) (.inr ⟨hk, .inl ⟨c2, rfl, rfl⟩⟩)).mono ?_
      rintro e w' ⟨rfl, hb⟩
      exact ⟨_, nilV, rfl, hb, NewI.nil W w'⟩
    · have eh := c5.has k
      cases hh : hasK tabs[i] k
      · have e0 : getR (cmpH (absT tabs[i]).hs) (absT tabs[i]).rows k = none := by
          show getR (cmpH (tabs[i]).hs) (absR tabs[i]) k = none
          unfold getR
          rw [← eh, hh, if_neg (by decide)]
        have e1 : getX A r k = (zT, false, 0) := by unfold getX; rw [hk, if_pos rfl, c4]; dsimp only; rw [e0]
        rw [e1]
        refine (get32n h1 hl hB2 hI hJ hnk hk hi c2 (c5.find c6 k) hh).mono ?_
        rintro e w' ⟨rfl, hb⟩
        exact ⟨_, nilV, rfl, hb, NewI.nil W w'⟩
      · obtain ⟨hp, _⟩ := c5.hasp hh
        have e0 : getR (cmpH (absT tabs[i]).hs) (absT tabs[i]).rows k = some ((tabs[i]).rows[posK tabs[i] k]).v := by
          show getR (cmpH (tabs[i]).hs) (absR tabs[i]) k = _
          unfold getR
          rw [← eh, hh, if_pos rfl, ← c5.pos k]
          unfold absR
          rw [List.getElem?_map, List.getElem?_eq_getElem hp]
          rfl
        have e1 : getX A r k = (((tabs[i]).rows[posK tabs[i] k]).v, true, 0) := by unfold getX; rw [hk, if_pos rfl, c4]; dsimp only; rw [e0]
        rw [e1]
        refine (get32y h1 hl hB2 hI hJ hnk hk hi c2 (c5.find c6 k) hh hp (c5.nd _ (List.getElem_mem hp)).2).mono ?_
        rintro e w' ⟨F1, u, he, hb, hN⟩
        exact ⟨F1, u, he, hb, hN⟩
theorem g_del (h : StG B z A W) (hs : SmA A) (hB2 : B2 ≤ W.heap.size) (hI : ItemsAt W B2 N ur r.items) (hJ : ItemsAt W B2 N uk k.items) (hnk : nodesT k ≤ 100000000) :
    Calls Tryz.prog 22 #[.pointer (some ⟨z, 0, none⟩), aggV r.f ur, aggV k.f uk] W fun e w' => e = .returned (.tuple #[.bool (delX A r k).1, .int .i64 (delX A r k).2]) ∧ StG B z (delA A r k) w' ∧ TT progT B W w' := by
  obtain ⟨F, vl, tabs, h1, h2, h3, hl, hc⟩ := h.open hs r
  cases hk : validT k
  · have e1 : delX A r k = (false, 2) := by unfold delX; rw [hk, if_neg (by decide)]
    have e2 : delA A r k = A := by unfold delA; rw [hk, if_neg (by decide)]
    rw [e1, e2]
    refine (del22e h1 hl hB2 hI hJ hnk (er := 2) (by decide) (.inl ⟨hk, rfl, rfl⟩)).mono ?_
    rintro e w' ⟨rfl, hb⟩
    exact ⟨rfl, h.below hb, TT.new hb⟩
  · rcases hc with ⟨c1, c2, c3⟩ | ⟨i, hi, c1, c2, c3, c4, c5, c6⟩
    · have e1 : delX A r k = (false, 4) := by unfold delX; rw [hk, if_pos rfl, c3]
      have e2 : delA A r k = A := by unfold delA updA; rw [hk, if_pos rfl, c1]
      rw [e1, e2]
      refine (del22e h1 hl hB2 hI hJ hnk (er := 4) (by decide) (.inr ⟨hk, .inl ⟨c2, rfl, rfl⟩⟩)).mono ?_
      rintro e w' ⟨rfl, hb⟩
      exact ⟨rfl, h.below hb, TT.new hb⟩
    · have eh : hasK tabs[i] k = hasR (cmpH (absT tabs[i]).hs) (absT tabs[i]).rows k := c5.has k
      have e2 : delA A r k = A.set i { absT tabs[i] with rows := delR (cmpH (absT tabs[i]).hs) (absT tabs[i]).rows k } := by
        unfold delA updA
        rw [hk, if_pos rfl, c1]
        dsimp only
        rw [c3]
      have e1 : delX A r k = (hasK tabs[i] k, 0) := by unfold delX; rw [hk, if_pos rfl, c4]; dsimp only; rw [eh]
      rw [e1]
      cases hh : hasK tabs[i] k
      · have e3 : delA A r k = A := by
          rw [e2]
          have : delR (cmpH (absT tabs[i]).hs) (absT tabs[i]).rows k = (absT tabs[i]).rows := by unfold delR; rw [← eh, hh, if_neg (by decide)]
          rw [this]
          refine List.ext_getElem? fun j => ?_
          rw [List.getElem?_set]
          split
          · rename_i e; subst e; split
            · exact c3.symm
            · rename_i hn; rw [List.getElem?_eq_none (by omega)]
          · rfl
        rw [e3]
        refine (del22n h1 hl hB2 hI hJ hnk hk hi c2 (c5.find c6 k) hh).mono ?_
        rintro e w' ⟨rfl, hb⟩
        exact ⟨rfl, h.below hb, TT.new hb⟩
      · obtain ⟨hp, _⟩ := c5.hasp hh
        rw [e2]
        refine (del22y h1 hl hB2 hI hJ hnk hk hi c2 (c5.find c6 k) hh hp).mono ?_
        rintro e w' ⟨rfl, vr, hq⟩
        obtain ⟨h4, h5⟩ := hq.upd h1 hi
        obtain ⟨h6, h7⟩ := c5.del hh (vr := vr)
        refine ⟨rfl, ⟨F, vl, _, h4, ?_, StG.set h3 h6⟩, h5⟩
        rw [set_abs, h2]
        show A.set i ⟨_, _, _, absR _⟩ = _
        rw [h7]
        rfl
theorem g_size (h : StG B z A W) (hs : SmA A) (hB2 : B2 ≤ W.heap.size) (hI : ItemsAt W B2 N ur r.items) :
    Calls Tryz.prog 31 #[.pointer (some ⟨z, 0, none⟩), aggV r.f ur] W fun e w' => e = .returned (.tuple #[.int .i64 (sizeX A r).1, .int .i64 (sizeX A r).2]) ∧ Below W.heap.size W w' := by
  obtain ⟨F, vl, tabs, h1, h2, h3, hl, hc⟩ := h.open hs r
  rcases hc with ⟨c1, c2, c3⟩ | ⟨i, hi, c1, c2, c3, c4, c5, c6⟩
  · have e1 : sizeX A r = (0, 4) := by unfold sizeX; rw [c3]
    rw [e1]
    exact size31 h1 hl hB2 hI (.inl ⟨c2, rfl, rfl⟩)
  · have e1 : sizeX A r = (((tabs[i]).rows.length : Int), (0 : Int)) := by
      unfold sizeX
      rw [c4]
      show (((absR tabs[i]).length : Int), (0 : Int)) = _
      unfold absR
      rw [List.length_map]
    rw [e1]
    exact size31 h1 hl hB2 hI (.inr ⟨i, hi, c2, rfl, rfl⟩)
theorem g_make (h : StG B z A W) (hs : SmA A) (hB : B ≤ W.heap.size) (hB2 : B2 ≤ B) (hI : ItemsAt W B2 N ur r.items) (hJ : ItemsAt W B2 N uo o.items) (hnr : nodesT r ≤ 100000000) (hno : nodesT o ≤ 100000000) (hf : Bool) :
    Calls Tryz.prog 17 #[.pointer (some ⟨z, 0, none⟩), aggV r.f ur, aggV o.f uo, .bool hf] W fun e w' => e = .returned (.int .i64 (makeE A r o)) ∧ StG B z (makeA A r o hf) w' ∧ TT progT B W w' := by
  obtain ⟨F, vl, tabs, h1, h2, h3, hl, hc⟩ := h.open hs r
  have hBw := Nat.le_trans hB2 hB
  obtain ⟨po, er, hTR⟩ := TabR.of tabs r
  have her : er ≠ 1 := by rcases hTR with ⟨_, _, rfl⟩ | ⟨_, _, _, _, rfl⟩ <;> decide
  have old : makeE A r o ≠ 0 → ∀ {n : Int}, makeE A r o = n → ∀ {e : Ending} {w' : World}, e = .returned (.int .i64 n) ∧ Below W.heap.size W w' → e = .returned (.int .i64 (makeE A r o)) ∧ StG B z (makeA A r o hf) w' ∧ TT progT B W w' := fun hne n hn e w' ⟨he, hb⟩ => by
    have e2 : makeA A r o hf = A := by unfold makeA; rw [if_neg hne]
    rw [e2, hn]
    exact ⟨he, h.below hb, TT.new hb⟩
  have bad : (decide (r.f.kind = 3) && decide (o.f.kind = 6) && validT r && validT o) = false → makeE A r o = 2 := fun hq => by unfold makeE; rw [hq, if_neg (by decide)]
  have good : (decide (r.f.kind = 3) && decide (o.f.kind = 6) && validT r && validT o) = true → makeE A r o = (match refA A r with | some _ => 8 | none => if 64 ≤ A.length then 5 else 0) := fun hq => by unfold makeE; rw [hq, if_pos rfl]
  by_cases k1 : r.f.kind = 3
  rotate_left
  · have hm := bad (by rw [decide_eq_false k1]; rfl)
    exact (make17a h1 hl hBw hI hJ hnr hno hf her hTR k1).mono (fun e w' hp => old (by omega) hm hp)
  by_cases k2 : o.f.kind = 6
  rotate_left
  · have hm := bad (by rw [decide_eq_false k2]; simp)
    exact (make17b h1 hl hBw hI hJ hnr hno hf her hTR k1 k2).mono (fun e w' hp => old (by omega) hm hp)
  cases k3 : validT r
  · have hm := bad (by rw [k3]; simp)
    exact (make17c h1 hl hBw hI hJ hnr hno hf her hTR k1 k2 k3).mono (fun e w' hp => old (by omega) hm hp)
  cases k4 : validT o
  · have hm := bad (by rw [k4]; simp)
    exact (make17d h1 hl hBw hI hJ hnr hno hf her hTR k1 k2 k3 k4).mono (fun e w' hp => old (by omega) hm hp)
  have hg := good (by rw [decide_eq_true k1, decide_eq_true k2, k3, k4]; rfl)
  rcases hc with ⟨c1, c2, c3⟩ | ⟨i, hi, c1, c2, c3, c4, c5, c6⟩
  · rw [c1] at hg
    dsimp only at hg
    have hle : A.length = tabs.length := by rw [← h2, List.length_map]
    by_cases hfull : 64 ≤ A.length
    · rw [if_pos hfull] at hg
      have he0 : er ≠ 0 := by
        rcases hTR with ⟨_, _, rfl⟩ | ⟨i, _, e, _, _⟩
        · decide
        · rw [c2] at e; cases e
      exact (make17f h1 hl hBw hI hJ hnr hno hf her hTR k1 k2 k3 k4 he0 (by show 64 ≤ tabs.length; omega)).mono (fun e w' hp => old (by omega) hg hp)
    · rw [if_neg hfull] at hg
      have e2 : makeA A r o hf = A ++ [⟨r, o, hf, []⟩] := by unfold makeA; rw [if_pos hg]
      rw [hg, e2]
      refine (make17y h1 hB hl hB2 hI hJ hnr hno k3 k4 k1 k2 hf (by show tabs.length < 64; omega) c2).mono ?_
      rintro e w' ⟨rfl, F1, ur', uo', vl', b, h4, h5, _⟩
      refine ⟨rfl, ⟨F1, vl', _, h4, ?_, fun t ht => ?_⟩, h5⟩
      · rw [List.map_append, h2]; rfl
      · rcases List.mem_append.1 ht with ht | ht
        · exact h3 t ht
        · obtain rfl := List.mem_singleton.1 ht
          exact ⟨fun r hr => (nomatch hr), fun r hr => (nomatch hr), List.Pairwise.nil, fun r hr => (nomatch hr)⟩
  · rw [c1] at hg
    dsimp only at hg
    exact (make17t h1 hB hl hB2 hI hJ hnr hno k3 k4 k1 k2 hf hi c2).mono (fun e w' hp => old (by omega) hg hp)
end
end Go.Proofs.YtfbggmbmgohiiaaGreat.tb
