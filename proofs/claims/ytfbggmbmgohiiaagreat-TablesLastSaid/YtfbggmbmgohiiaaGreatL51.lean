/- Texts of this seat, one behind the other: TcY, TcX, TdA, TcZ, TdB. No condition beyond theirs. -/
import Derived.Test.YtfbggmbmgohiiaaGreatL41
import Derived.Test.YtfbggmbmgohiiaaGreatL45
import Derived.Test.YtfbggmbmgohiiaaGreatL46
import Derived.Test.YtfbggmbmgohiiaaGreatL50
import Derived.Test.YtfbggmbmgohiiaaGreatL03
import Derived.Test.YtfbggmbmgohiiaaGreatL49
/- TablesLast: the plain laws. Conditions: as said. -/
namespace Go.Proofs.YtfbggmbmgohiiaaGreat.tb
open Go.RowKit mem rec tm names
set_option linter.unusedVariables false
set_option linter.unusedSimpArgs false
set_option maxHeartbeats 1000000
set_option maxRecDepth 100000
/-! ### flat terms -/
theorem valid_flatN {N : Nat} {f : TF} (h1 : inB f.kind 0 10 = true) (h2 : okF f 0 (lastK N ([] : List (Tm N))) = true) (h3 : { bareF f with kind := 0 } = zeroF) (h4 : sizeF f 0 ≤ 2000) : validT (Tm.mk (n := N) f []) = true := by
  have e1 : (Tm.mk (n := N) f []).f = f := rfl
  have e2 : (Tm.mk (n := N) f []).items = [] := rfl
  have h3' : bareOK f 0 = true := by
    unfold bareOK
    rw [eqB_t h3]
    simp
  have e3 : formedL N [] = true := by unfold formedL; cases N <;> rfl
  have e4 : wholeL N [] = 0 := by unfold wholeL; cases N <;> rfl
  unfold validT formedT okT wholeT
  rw [e1, e2, e3, e4]
  simp only [List.length_nil, h1, h2, h3', Bool.and_self, Bool.true_and, decide_eq_true_eq]
  omega
theorem lastK_nil {N : Nat} : lastK N ([] : List (Tm N)) = lastK 0 ([] : List (Tm 0)) := by cases N <;> rfl
theorem ref_validN {N : Nat} (k : Int) (h : 1 ≤ k ∧ k ≤ 1000) : validT (refT (N := N) k) = true := by
  refine valid_flatN (by kernel_rfl) ?_ rfl (by show (1 : Int) ≤ 2000; decide)
  rw [lastK_nil]
  have h1 : inB k 1 1000 = true := by unfold inB; simp; omega
  unfold okF
  simp only
  have hv : vName nmN = true := by kernel_rfl
  have h2 : ∀ a b : Int, a ≤ 1 → 1000 ≤ b → inB k a b = true := fun a b ha hb => by unfold inB; simp; omega
  have h5 : inB 1 1 2147483647 = true := by kernel_rfl
  simp [h2, hv, h5]
  try (unfold inB; simp; omega)
theorem pid_validN {N : Nat} (k : Int) (h : 1 ≤ k ∧ k ≤ 1000) : validT (pidT (N := N) k) = true := by
  refine valid_flatN (by kernel_rfl) ?_ rfl (by show (1 : Int) ≤ 2000; decide)
  rw [lastK_nil]
  unfold okF
  simp only
  have hv : vName nmN = true := by kernel_rfl
  have h2 : ∀ a b : Int, a ≤ 1 → 1000 ≤ b → inB k a b = true := fun a b ha hb => by unfold inB; simp; omega
  have h5 : inB 1 1 2147483647 = true := by kernel_rfl
  simp [h2, hv, h5]
  try (unfold inB; simp; omega)
theorem int_validN {N : Nat} (k : Int) : validT (intT (N := N) k) = true := valid_flatN (by kernel_rfl) (by rw [lastK_nil]; kernel_rfl) rfl (by show (1 : Int) ≤ 2000; decide)
theorem flat_nodesN {N : Nat} (f : TF) : nodesT (Tm.mk (n := N) f []) ≤ 100000000 := by
  unfold nodesT
  have : (Tm.mk (n := N) f []).items = [] := rfl
  rw [this]
  cases N <;> (unfold nodesL; simp)
theorem refT_ne {N : Nat} {a b : Int} (h : a ≠ b) : refT (N := N) a ≠ refT b := fun e => h (congrArg (fun t : Tm (N + 1) => t.f.int) e)
/-! ### two tables -/
section
variable {N : Nat}
def two {N : Nat} (hs : Bool) (R : List (Tm (N + 1) × Tm (N + 1))) : List (TabA N) := [⟨refT 1, pidT 1, hs, R⟩, ⟨refT 2, pidT 1, !hs, []⟩]
variable {hs : Bool} {R : List (Tm (N + 1) × Tm (N + 1))} {k v : Tm (N + 1)}
theorem two_at1 : refA (two (N := N) hs R) (refT 1) = some 0 := by
  unfold refA two
  rw [List.findIdx?_cons, eqB_t rfl]
  rfl
theorem two_at2 : refA (two (N := N) hs R) (refT 2) = some 1 := by
  unfold refA two
  rw [List.findIdx?_cons, eqB_f (refT_ne (by decide)), List.findIdx?_cons, eqB_t rfl]
  rfl
theorem two_tab1 : tabA (two (N := N) hs R) (refT 1) = some ⟨refT 1, pidT 1, hs, R⟩ := by unfold tabA; rw [two_at1]; rfl
theorem two_tab2 : tabA (two (N := N) hs R) (refT 2) = some ⟨refT 2, pidT 1, !hs, []⟩ := by unfold tabA; rw [two_at2]; rfl
theorem two_upd (f : TabA N → List (Tm (N + 1) × Tm (N + 1))) : updA (two hs R) (refT 1) f = two hs (f ⟨refT 1, pidT 1, hs, R⟩) := by unfold updA; rw [two_at1]; rfl
theorem two_putE (hk : validT k = true) (hv : validT v = true) : putE (two hs R) (refT 1) k v = 0 := by unfold putE; rw [hk, hv, if_pos rfl, if_pos rfl, two_at1]
theorem two_putA (hk : validT k = true) (hv : validT v = true) : putA (two hs R) (refT 1) k v = two hs (putR (cmpH hs) R k v) := by unfold putA; rw [hk, hv, two_upd]; rfl
theorem two_get (hk : validT k = true) : getX (two hs R) (refT 1) k = match getR (cmpH hs) R k with
    | none => (zT, false, 0)
    | some v => (v, true, 0) := by unfold getX; rw [hk, if_pos rfl, two_tab1]; rfl
theorem two_delX (hk : validT k = true) : delX (two hs R) (refT 1) k = (hasR (cmpH hs) R k, 0) := by unfold delX; rw [hk, if_pos rfl, two_tab1]
theorem two_delA (hk : validT k = true) : delA (two hs R) (refT 1) k = two hs (delR (cmpH hs) R k) := by unfold delA; rw [hk, if_pos rfl, two_upd]
theorem two_size1 : sizeX (two hs R) (refT 1) = ((R.length : Int), (0 : Int)) := by unfold sizeX; rw [two_tab1]
theorem two_size2 : sizeX (two (N := N) hs R) (refT 2) = (0, 0) := by unfold sizeX; rw [two_tab2]; rfl
theorem two_sm (h : R.length ≤ 1000000) : SmA (two (N := N) hs R) := ⟨by simp [two], fun a ha => by
  simp [two] at ha
  rcases ha with rfl | rfl
  · exact h
  · simp⟩
theorem two_make1 : makeE ([] : List (TabA N)) (refT 1) (pidT 1) = 0 := by
  unfold makeE refA
  rw [ref_validN 1 (by decide), pid_validN 1 (by decide)]
  rfl
theorem two_make1A (hs : Bool) : makeA ([] : List (TabA N)) (refT 1) (pidT 1) hs = [⟨refT 1, pidT 1, hs, []⟩] := by unfold makeA; rw [if_pos two_make1]; rfl
theorem two_make2 : makeE ([⟨refT 1, pidT 1, hs, []⟩] : List (TabA N)) (refT 2) (pidT 1) = 0 := by
  unfold makeE refA
  rw [ref_validN 2 (by decide), pid_validN 1 (by decide), List.findIdx?_cons, eqB_f (refT_ne (by decide))]
  rfl
theorem two_make2A : makeA ([⟨refT 1, pidT 1, hs, []⟩] : List (TabA N)) (refT 2) (pidT 1) (!hs) = two hs [] := by unfold makeA; rw [if_pos two_make2]; rfl
/-! ### what has been put -/
noncomputable def rowsI (hs : Bool) (l : List (Tm (N + 1))) : Nat → List (Tm (N + 1) × Tm (N + 1))
  | 0 => []
  | i + 1 => match l[i]? with
    | none => rowsI hs l i
    | some k => putR (cmpH hs) (rowsI hs l i) k (intT i)
theorem rowsI_succ {l : List (Tm (N + 1))} {i : Nat} (h : i < l.length) : rowsI hs l (i + 1) = putR (cmpH hs) (rowsI hs l i) l[i] (intT i) := by
  show (match l[i]? with | none => _ | some k => _) = _
  rw [List.getElem?_eq_getElem h]
/-- the rows that are put lie in order, and their keys are valid -/
structure GoodR (hs : Bool) (R : List (Tm (N + 1) × Tm (N + 1))) : Prop where
  sd : SortR (cmpH hs) R
  vd : ∀ x ∈ R, Vd x.1
theorem GoodR.nil : GoodR (N := N) hs [] := ⟨List.Pairwise.nil, fun x hx => (nomatch hx)⟩
theorem GoodR.put (h : GoodR hs R) (hk : validT k = true) (v : Tm (N + 1)) : GoodR hs (putR (cmpH hs) R k v) := by
  refine ⟨putR_sort (ordH hs) h.sd hk h.vd v, fun x hx => ?_⟩
  obtain ⟨a, b⟩ := x
  rcases (putR_mem (ordH hs) h.sd hk h.vd v a b).1 hx with ⟨rfl, _⟩ | ⟨_, hx⟩
  · exact hk
  · exact h.vd _ hx
theorem GoodR.del (h : GoodR hs R) : GoodR hs (delR (cmpH hs) R k) := by
  refine ⟨delR_sort h.sd, fun x hx => ?_⟩
  obtain ⟨a, b⟩ := x
  exact h.vd _ ((delR_mem (ordH hs) h.sd a b).1 hx).2
theorem GoodR.getput (h : GoodR hs R) (hk : validT k = true) (v a : Tm (N + 1)) : getR (cmpH hs) (putR (cmpH hs) R k v) a = if eqB k a then some v else getR (cmpH hs) R a := by
  refine Option.ext fun b => ?_
  rw [getR_iff (ordH hs) (h.put hk v).sd, putR_mem (ordH hs) h.sd hk h.vd]
  by_cases e : k = a
  · subst e
    rw [eqB_t rfl, if_pos rfl]
    simp [eq_comm]
  · rw [eqB_f e, if_neg (by decide), getR_iff (ordH hs) h.sd]
    simp [Ne.symm e]
theorem GoodR.getdel (h : GoodR hs R) (a : Tm (N + 1)) : getR (cmpH hs) (delR (cmpH hs) R k) a = if eqB k a then none else getR (cmpH hs) R a := by
  refine Option.ext fun b => ?_
  rw [getR_iff (ordH hs) h.del.sd, delR_mem (ordH hs) h.sd]
  by_cases e : k = a
  · subst e
    rw [eqB_t rfl, if_pos rfl]
    simp
  · rw [eqB_f e, if_neg (by decide), getR_iff (ordH hs) h.sd]
    simp [Ne.symm e]
theorem GoodR.has (h : GoodR hs R) : hasR (cmpH hs) R k = true ↔ ∃ v, getR (cmpH hs) R k = some v := by
  rw [hasR_iff (ordH hs) h.sd]
  exact ⟨fun ⟨v, hv⟩ => ⟨v, (getR_iff (ordH hs) h.sd).2 hv⟩, fun ⟨v, hv⟩ => ⟨v, (getR_iff (ordH hs) h.sd).1 hv⟩⟩
/-- the last of the first i that is k -/
noncomputable def lastF (l : List (Tm (N + 1))) (k : Tm (N + 1)) : Nat → Option Nat
  | 0 => none
  | i + 1 => if (l[i]?).elim false (fun x => eqB x k) then some i else lastF l k i
theorem rows_good {l : List (Tm (N + 1))} : ∀ i, i ≤ l.length → (∀ j, j < i → ∀ x, l[j]? = some x → validT x = true) → GoodR hs (rowsI hs l i) ∧ (rowsI hs l i).length ≤ i ∧ ∀ k, getR (cmpH hs) (rowsI hs l i) k = (lastF l k i).map (fun j : Nat => intT (N := N) (j : Int))
  | 0, _, _ => ⟨GoodR.nil, Nat.le_refl _, fun k => by
      unfold getR
      have : hasR (cmpH hs) (rowsI hs l 0) k = false := rfl
      rw [this, if_neg (by decide)]
      rfl⟩
  | i + 1, h, hv => by
    obtain ⟨h1, h2, h3⟩ := rows_good i (by omega) (fun j hj => hv j (by omega))
    have hk := hv i (by omega) _ (List.getElem?_eq_getElem (by omega : i < l.length))
    rw [rowsI_succ (by omega)]
    refine ⟨h1.put hk _, ?_, fun k => ?_⟩
    · rw [putR_len (ordH hs) h1.sd hk h1.vd]
      split <;> omega
    · have e : lastF l k (i + 1) = if eqB l[i] k = true then some i else lastF l k i := by
        show (if (l[i]?).elim false (fun x => eqB x k) then some i else lastF l k i) = _
        rw [List.getElem?_eq_getElem (by omega : i < l.length)]
        rfl
      rw [h1.getput hk, h3, e]
      by_cases hq : eqB l[i] k = true
      · rw [if_pos hq, if_pos hq]; rfl
      · rw [if_neg hq, if_neg hq]
theorem all_pre {l : List (Tm (N + 1))} (hv : ∀ x ∈ l, validT x = true) (i : Nat) : ∀ j, j < i → ∀ x, l[j]? = some x → validT x = true := fun j _ x hx => hv x (List.mem_of_getElem? hx)
theorem lastF_some {l : List (Tm (N + 1))} {k : Tm (N + 1)} : ∀ i, (∃ j, j < i ∧ l[j]? = some k) → ∃ j, lastF l k i = some j
  | 0, ⟨j, h, _⟩ => by omega
  | i + 1, ⟨j, h, e⟩ => by
    unfold lastF
    by_cases hq : (l[i]?).elim false (fun x => eqB x k) = true
    · rw [if_pos hq]; exact ⟨_, rfl⟩
    · rw [if_neg hq]
      refine lastF_some i ⟨j, ?_, e⟩
      by_cases hj : j = i
      · subst hj
        rw [e] at hq
        exact absurd (eqB_t rfl) hq
      · omega
theorem lastF_mem {l : List (Tm (N + 1))} {k : Tm (N + 1)} : ∀ i j, lastF l k i = some j → k ∈ l
  | 0, j, h => by cases h
  | i + 1, j, h => by
    unfold lastF at h
    split at h
    · rename_i hq
      cases hl : l[i]? with
      | none => rw [hl] at hq; cases hq
      | some x =>
        rw [hl] at hq
        have := of_eqB hq
        subst this
        exact List.mem_of_getElem? hl
    · exact lastF_mem i j h
/-! ### the list without repetitions -/
theorem uniq_inv {α : Type} {c : α → α → Int} (h : TP (fun _ => True) c) {d : List α} (hs : d.Pairwise (fun a b => c a b ≤ 0)) : ∀ k, k < d.length → (uniqP c d (k + 1)).Pairwise (fun a b => c a b < 0) ∧ (∀ x ∈ uniqP c d (k + 1), ∀ y, d[k]? = some y → c x y ≤ 0) ∧ ∀ j, j ≤ k → ∀ y, d[j]? = some y → ∃ x ∈ uniqP c d (k + 1), c x y = 0
  | 0, hk => by
    have e : uniqP c d (0 + 1) = [d[0]] := by
      show d.take 1 = _
      cases d with
      | nil => simp at hk
      | cons a d => rfl
    rw [e]
    refine ⟨List.pairwise_singleton _ _, fun x hx y hy => ?_, fun j hj y hy => ?_⟩
    · rw [List.getElem?_eq_getElem hk] at hy
      obtain rfl := Option.some.inj hy
      obtain rfl := List.mem_singleton.1 hx
      have := h.refl d[0]
      omega
    · obtain rfl : j = 0 := by omega
      rw [List.getElem?_eq_getElem hk] at hy
      obtain rfl := Option.some.inj hy
      exact ⟨_, List.mem_singleton.2 rfl, h.refl _⟩
  | k + 1, hk => by
    obtain ⟨h1, h2, h3⟩ := uniq_inv h hs k (by omega)
    have ek : d[k]? = some d[k] := List.getElem?_eq_getElem (by omega)
    have ek1 : d[k + 1]? = some d[k + 1] := List.getElem?_eq_getElem hk
    have hle : c d[k] d[k + 1] ≤ 0 := List.pairwise_iff_getElem.1 hs k (k + 1) (by omega) hk (by omega)
    have ha := h.anti d[k] d[k + 1]
    have hall : ∀ x ∈ uniqP c d (k + 1), c x d[k + 1] ≤ 0 := fun x hx => h.trans x d[k] d[k + 1] trivial trivial trivial (h2 x hx _ ek) hle
    by_cases hz : c d[k + 1] d[k] = 0
    · rw [uniqP_skip ek1 ek hz]
      refine ⟨h1, fun x hx y hy => ?_, fun j hj y hy => ?_⟩
      · rw [ek1] at hy; obtain rfl := Option.some.inj hy; exact hall x hx
      · by_cases e : j = k + 1
        · subst e
          rw [ek1] at hy
          obtain rfl := Option.some.inj hy
          obtain ⟨x, hx, hc⟩ := h3 k (Nat.le_refl _) _ ek
          refine ⟨x, hx, ?_⟩
          have := h.eqv (a := x) (b := d[k]) (d := d[k + 1]) trivial trivial trivial hc
          omega
        · exact h3 j (by omega) y hy
    · rw [uniqP_keep ek1 ek hz]
      have hlt : c d[k] d[k + 1] < 0 := by omega
      refine ⟨List.pairwise_append.2 ⟨h1, List.pairwise_singleton _ _, fun x hx y hy => ?_⟩, fun x hx y hy => ?_, fun j hj y hy => ?_⟩
      · obtain rfl := List.mem_singleton.1 hy
        have h4 := h2 x hx _ ek
        by_cases e : c x d[k + 1] = 0
        · have := h.zero (a := x) (b := d[k]) (d := d[k + 1]) trivial trivial trivial h4 hle e
          omega
        · have := hall x hx; omega
      · rw [ek1] at hy; obtain rfl := Option.some.inj hy
        rcases List.mem_append.1 hx with hx | hx
        · exact hall x hx
        · obtain rfl := List.mem_singleton.1 hx
          have := h.refl d[k + 1]; omega
      · by_cases e : j = k + 1
        · subst e
          rw [ek1] at hy
          obtain rfl := Option.some.inj hy
          exact ⟨_, List.mem_append.2 (.inr (List.mem_singleton.2 rfl)), h.refl _⟩
        · obtain ⟨x, hx, hc⟩ := h3 j (by omega) y hy
          exact ⟨x, List.mem_append.2 (.inl hx), hc⟩
theorem uniq_of {l : List (Tm (N + 1))} (hv : ∀ x ∈ l, validT x = true) : (uniqL (sortL l)).Nodup ∧ ∀ x, x ∈ uniqL (sortL l) ↔ x ∈ l := by
  have htp := tpV (n := N)
  have hmem : ∀ x, x ∈ sortL l ↔ x ∈ l := fun x => by unfold sortL; exact List.mem_mergeSort
  have hs : (sortL l).Pairwise (fun a b => cmpV a b ≤ 0) := by
    have := List.pairwise_mergeSort (le := leB cmpV) (fun a b d x y => by
      unfold leB at *
      rw [decide_eq_true_eq] at *
      exact htp.trans a b d trivial trivial trivial x y) (fun a b => by
      unfold leB
      have := htp.anti a b
      rw [Bool.or_eq_true, decide_eq_true_eq, decide_eq_true_eq]; omega) l
    refine this.imp fun {a b} h => ?_
    unfold leB at h
    exact of_decide_eq_true h
  by_cases h0 : (sortL l).length = 0
  · have e : sortL l = [] := List.eq_nil_of_length_eq_zero h0
    rw [e]
    refine ⟨List.nodup_nil, fun x => ⟨fun h => (nomatch h), fun h => ?_⟩⟩
    have := (hmem x).2 h
    rw [e] at this
    cases this
  · obtain ⟨k, hk⟩ : ∃ k, (sortL l).length = k + 1 := ⟨(sortL l).length - 1, by omega⟩
    obtain ⟨h1, _, h3⟩ := uniq_inv htp hs k (by omega)
    have eU : uniqL (sortL l) = uniqP cmpV (sortL l) (k + 1) := by unfold uniqL; rw [hk]
    rw [eU]
    refine ⟨h1.imp fun {a b} h e => by subst e; have := htp.refl a; omega, fun x => ⟨fun h => (hmem x).1 (uniqP_mem _ x h), fun h => ?_⟩⟩
    obtain ⟨j, hj, ej⟩ := List.mem_iff_getElem.1 ((hmem x).2 h)
    obtain ⟨y, hy, hc⟩ := h3 j (by omega) x (by rw [List.getElem?_eq_getElem hj, ej])
    have hyv := hv y ((hmem y).1 (uniqP_mem _ y hy))
    have := cmpV_eq hyv (hv x h) hc
    rw [← this]; exact hy
/-! ### what is deleted -/
noncomputable def rowsD (hs : Bool) (R : List (Tm (N + 1) × Tm (N + 1))) (U : List (Tm (N + 1))) : Nat → List (Tm (N + 1) × Tm (N + 1))
  | 0 => R
  | i + 1 => match U[i]? with
    | none => rowsD hs R U i
    | some k => delR (cmpH hs) (rowsD hs R U i) k
theorem rowsD_succ {U : List (Tm (N + 1))} {i : Nat} (h : i < U.length) : rowsD hs R U (i + 1) = delR (cmpH hs) (rowsD hs R U i) U[i] := by
  show (match U[i]? with | none => _ | some k => _) = _
  rw [List.getElem?_eq_getElem h]
theorem keys_len (h : GoodR hs R) {U : List (Tm (N + 1))} (hn : U.Nodup) (hm : ∀ x, x ∈ U ↔ ∃ v, getR (cmpH hs) R x = some v) : R.length = U.length := by
  have hp : (R.map (·.1)).Perm U := (List.perm_ext_iff_of_nodup (keysR_nodup (ordH hs) h.sd) hn).2 fun a => by
    rw [hm]
    constructor
    · intro ha
      obtain ⟨x, hx, rfl⟩ := List.mem_map.1 ha
      exact ⟨x.2, (getR_iff (ordH hs) h.sd).2 hx⟩
    · rintro ⟨v, hv⟩
      exact List.mem_map.2 ⟨_, (getR_iff (ordH hs) h.sd).1 hv, rfl⟩
  have := hp.length_eq
  rwa [List.length_map] at this
theorem rowsD_get (h : GoodR hs R) {U : List (Tm (N + 1))} : ∀ i, i ≤ U.length → GoodR hs (rowsD hs R U i) ∧ ∀ a, getR (cmpH hs) (rowsD hs R U i) a = if eqB (a ∈ U.take i) True then none else getR (cmpH hs) R a
  | 0, _ => ⟨h, fun a => by
      have : ¬ (a ∈ U.take 0) := by simp
      rw [eqB_f (fun e => this (of_eq_true e)), if_neg (by decide)]
      rfl⟩
  | i + 1, hi => by
    obtain ⟨h1, h2⟩ := rowsD_get h (U := U) i (by omega)
    rw [rowsD_succ (by omega)]
    refine ⟨h1.del, fun a => ?_⟩
    rw [h1.getdel, h2]
    have hm : a ∈ U.take (i + 1) ↔ a ∈ U.take i ∨ a = U[i] := by
      rw [List.take_succ_eq_append_getElem (by omega), List.mem_append, List.mem_singleton]
    by_cases e1 : U[i] = a
    · have e2 : (a ∈ U.take (i + 1)) = True := eq_true (hm.2 (.inr e1.symm))
      rw [eqB_t e1, if_pos rfl, eqB_t e2, if_pos rfl]
    · rw [eqB_f e1, if_neg (by decide)]
      have e3 : (a ∈ U.take (i + 1)) = (a ∈ U.take i) := propext ⟨fun q => (hm.1 q).resolve_right (fun q => e1 q.symm), fun q => hm.2 (.inl q)⟩
      rw [e3]
/-- what the law's last loop finds -/
theorem last_loop {l : List (Tm (N + 1))} (hv : ∀ x ∈ l, validT x = true) {i : Nat} (hi : i < (uniqL (sortL l)).length) :
    hasR (cmpH hs) (rowsD hs (rowsI hs l l.length) (uniqL (sortL l)) i) (uniqL (sortL l))[i] = true ∧ getR (cmpH hs) (rowsD hs (rowsI hs l l.length) (uniqL (sortL l)) (i + 1)) (uniqL (sortL l))[i] = none ∧ (rowsD hs (rowsI hs l l.length) (uniqL (sortL l)) (i + 1)).length = (uniqL (sortL l)).length - 1 - i ∧ validT (uniqL (sortL l))[i] = true := by
  obtain ⟨hnd, hmem⟩ := uniq_of hv
  obtain ⟨h1, _, h3⟩ := rows_good (hs := hs) (l := l) l.length (Nat.le_refl _) (all_pre hv _)
  generalize hU : uniqL (sortL l) = U at *
  generalize hR : rowsI hs l l.length = R at *
  obtain ⟨g1, g2⟩ := rowsD_get h1 (U := U) i (by omega)
  obtain ⟨k1, k2⟩ := rowsD_get h1 (U := U) (i + 1) (by omega)
  have hnin : ¬ U[i] ∈ U.take i := fun hq => by
    obtain ⟨j, hj, ej⟩ := List.mem_iff_getElem.1 hq
    rw [List.length_take] at hj
    rw [List.getElem_take] at ej
    have := (List.getElem_inj hnd).1 ej
    omega
  have hget : ∀ x, x ∈ U ↔ ∃ v, getR (cmpH hs) R x = some v := fun x => by
    rw [hmem, h3]
    constructor
    · intro hx
      obtain ⟨j, hj, ej⟩ := List.mem_iff_getElem.1 hx
      obtain ⟨q, hq⟩ := lastF_some (k := x) l.length ⟨j, hj, by rw [List.getElem?_eq_getElem hj, ej]⟩
      exact ⟨_, by rw [hq]; rfl⟩
    · rintro ⟨v, hv⟩
      cases hq : lastF l x l.length with
      | none => rw [hq] at hv; cases hv
      | some j => exact lastF_mem _ _ hq
  refine ⟨?_, ?_, ?_, hv _ ((hmem _).1 (List.getElem_mem hi))⟩
  · rw [g1.has, g2, eqB_f (fun e => hnin (of_eq_true e)), if_neg (by decide)]
    exact (hget _).1 (List.getElem_mem hi)
  · have : U[i] ∈ U.take (i + 1) := List.mem_iff_getElem.2 ⟨i, by rw [List.length_take]; omega, by rw [List.getElem_take]⟩
    rw [k2, eqB_t (eq_true this), if_pos rfl]
  · have hd : (U.drop (i + 1)).Nodup := hnd.sublist (List.drop_sublist _ _)
    have hdis : ∀ a, a ∈ U.drop (i + 1) → ¬ a ∈ U.take (i + 1) := fun a ha hb => by
      obtain ⟨p, hp, ep⟩ := List.mem_iff_getElem.1 ha
      obtain ⟨q, hq, eq⟩ := List.mem_iff_getElem.1 hb
      rw [List.length_drop] at hp
      rw [List.length_take] at hq
      rw [List.getElem_drop] at ep
      rw [List.getElem_take] at eq
      have := (List.getElem_inj hnd).1 (ep.trans eq.symm)
      omega
    rw [keys_len k1 (U := U.drop (i + 1)) hd fun a => ?_, List.length_drop]
    · omega
    · rw [k2]
      by_cases ha : a ∈ U.take (i + 1)
      · rw [eqB_t (eq_true ha), if_pos rfl]
        exact ⟨fun q => absurd ha (hdis a q), fun ⟨v, q⟩ => by cases q⟩
      · rw [eqB_f (fun e => ha (of_eq_true e)), if_neg (by decide), ← hget]
        refine ⟨fun q => List.mem_of_mem_drop q, fun q => ?_⟩
        rw [← List.take_append_drop (i + 1) U] at q
        exact (List.mem_append.1 q).resolve_left ha
theorem last_len {l : List (Tm (N + 1))} (hv : ∀ x ∈ l, validT x = true) : (rowsI hs l l.length).length = (uniqL (sortL l)).length := by
  obtain ⟨hnd, hmem⟩ := uniq_of hv
  obtain ⟨h1, _, h3⟩ := rows_good (hs := hs) (l := l) l.length (Nat.le_refl _) (all_pre hv _)
  refine keys_len h1 hnd fun x => ?_
  rw [hmem, h3]
  constructor
  · intro hx
    obtain ⟨j, hj, ej⟩ := List.mem_iff_getElem.1 hx
    obtain ⟨q, hq⟩ := lastF_some (k := x) l.length ⟨j, hj, by rw [List.getElem?_eq_getElem hj, ej]⟩
    exact ⟨_, by rw [hq]; rfl⟩
  · rintro ⟨v, hv⟩
    cases hq : lastF l x l.length with
    | none => rw [hq] at hv; cases hv
    | some j => exact lastF_mem _ _ hq
end
end Go.Proofs.YtfbggmbmgohiiaaGreat.tb
/- The reference's Sort and Unique: where their terms lie. Conditions: the terms lie in memory; they are few enough. -/
namespace Go.Proofs.YtfbggmbmgohiiaaGreat.tmt
open Go.RowKit mem names tm
set_option linter.unusedVariables false
set_option linter.unusedSimpArgs false
set_option maxHeartbeats 4000000
set_option maxRecDepth 100000
def Ty24 (w : World) (g : Nat) : Prop := ∃ c f, w.heap[g]? = some (.cells c 24 f)
/-- a slice of terms in blocks below B, which lie below Z or are blocks of terms -/
def ItemsT (Z : Nat) (w : World) (B : Nat) (n : Nat) (v : Value) (l : List (Tm n)) : Prop := ItemsIn w (fun g => g < B ∧ (g < Z ∨ Ty24 w g)) n v l
theorem ItemsT.A {Z : Nat} {w : World} {B n : Nat} {v : Value} {l : List (Tm n)} (h : ItemsT Z w B n v l) : ItemsAt w B n v l := ItemsIn.toAt (fun g hg => hg.1) h
theorem ItemsT.of {w : World} {B n : Nat} {v : Value} {l : List (Tm n)} (h : ItemsAt w B n v l) : ItemsT B w B n v l := ItemsIn.mono (fun _ _ => rfl) (fun g hg => ⟨hg, .inl hg⟩) h.toIn
theorem ItemsT.shape {Z : Nat} {w : World} {B n : Nat} {v : Value} {l : List (Tm n)} (h : ItemsT Z w B n v l) : ∃ p c, v = .slice p l.length c ∧ l.length ≤ c ∧ c ≤ maxLen := h.A.shape
theorem ItemsT.keep {Z : Nat} {w w' : World} {B n : Nat} {v : Value} {l : List (Tm n)} (h : ItemsT Z w B n v l) (hs : ∀ g, g < B → (g < Z ∨ Ty24 w g) → w'.heap[g]? = w.heap[g]?) : ItemsT Z w' B n v l :=
  ItemsIn.mono (w := w) (fun g hg => hs g hg.1 hg.2) (fun g hg => ⟨hg.1, hg.2.elim .inl (fun ⟨c, f, e⟩ => .inr ⟨c, f, (hs g hg.1 hg.2).trans e⟩)⟩) h
theorem ItemsT.same {Z : Nat} {w w' : World} {B n : Nat} {v : Value} {l : List (Tm n)} (h : ItemsT Z w B n v l) (hs : ∀ g, g < B → w'.heap[g]? = w.heap[g]?) : ItemsT Z w' B n v l := h.keep (fun g hg _ => hs g hg)
theorem ItemsT.below {Z : Nat} {w w' : World} {B B' : Nat} {n : Nat} {v : Value} {l : List (Tm n)} (h : ItemsT Z w B n v l) (hb : Below B' w w') (hB : B ≤ B') : ItemsT Z w' B n v l := h.same fun g hg => hb.block g (by omega)
theorem ItemsT.more {Z : Nat} {w : World} {B B' : Nat} {n : Nat} {v : Value} {l : List (Tm n)} (h : ItemsT Z w B n v l) (hB : B ≤ B') : ItemsT Z w B' n v l := ItemsIn.mono (fun _ _ => rfl) (fun g hg => ⟨by omega, hg.2⟩) h
theorem ItemsT.nil_any {Z : Nat} {w : World} {B n c : Nat} {p : Option Addr} (hc : c ≤ maxLen) : ItemsT Z w B n (.slice p 0 c) ([] : List (Tm n)) := ItemsIn.nil_any hc
theorem ItemsT.at_ {Z : Nat} {w : World} {B n : Nat} {v : Value} {l : List (Tm (n + 1))} (h : ItemsT Z w B (n + 1) v l) (hne : l ≠ []) : ∃ g o c, v = .slice (some ⟨g, o, none⟩) l.length c ∧ l.length ≤ c ∧ c ≤ maxLen ∧ g < B ∧
    ∀ j, (h : j < l.length) → ∃ u, Cells w g (o + j * 9) (l[j]).f u ∧ ItemsT Z w B n u (l[j]).items := by
  obtain ⟨p, c, e, h1, h2, h3⟩ := h
  obtain ⟨g, o, rfl, hg, hc⟩ := h3 hne
  exact ⟨g, o, c, e, h1, h2, hg.1, hc⟩
variable {n : Nat} {w w' : World} {B Z : Nat}
theorem ItemsT.take_ {l : List (Tm (n + 1))} {g o c : Nat} (h : ItemsT Z w B (n + 1) (.slice (some ⟨g, o, none⟩) l.length c) l) (k : Nat) (hk : k ≤ l.length) : ItemsT Z w B (n + 1) (.slice (some ⟨g, o, none⟩) k c) (l.take k) := by
  obtain ⟨p, c', e, h1, h2, h3⟩ := h
  simp only [Value.slice.injEq, true_and] at e
  obtain ⟨rfl, rfl⟩ := e
  refine ⟨some ⟨g, o, none⟩, c, by simp [Nat.min_eq_left hk], by simp; omega, h2, fun hn => ?_⟩
  obtain ⟨g', o', e, hg, hc⟩ := h3 (by intro e; subst e; simp at hn)
  refine ⟨g', o', e, hg, fun j hj => ?_⟩
  have hj' : j < l.length := by simp at hj; omega
  obtain ⟨u, hu⟩ := hc j hj'
  exact ⟨u, by simpa using hu⟩
theorem ItemsT.drop_ {l : List (Tm (n + 1))} {g o c : Nat} (h : ItemsT Z w B (n + 1) (.slice (some ⟨g, o, none⟩) l.length c) l) (k : Nat) (hk : k ≤ l.length) : ItemsT Z w B (n + 1) (.slice (some ⟨g, o + k * 9, none⟩) (l.length - k) (c - k)) (l.drop k) := by
  obtain ⟨p, c', e, h1, h2, h3⟩ := h
  simp only [Value.slice.injEq, true_and] at e
  obtain ⟨rfl, rfl⟩ := e
  refine ⟨some ⟨g, o + k * 9, none⟩, c - k, by simp, by simp; omega, by omega, fun hn => ?_⟩
  obtain ⟨g', o', e, hg, hc⟩ := h3 (by intro e; subst e; simp at hn)
  simp only [Option.some.injEq, Addr.mk.injEq, and_true] at e
  obtain ⟨rfl, rfl⟩ := e
  refine ⟨_, _, rfl, hg, fun j hj => ?_⟩
  have hj' : k + j < l.length := by simp at hj; omega
  obtain ⟨u, hu1, hu2⟩ := hc (k + j) hj'
  refine ⟨u, ?_, by simpa using hu2⟩
  rw [show o + k * 9 + j * 9 = o + (k + j) * 9 by omega]
  simpa using hu1
/-- the cells of a list, as a row -/
theorem ItemsT.rows {l : List (Tm (n + 1))} {g o c : Nat} (h : ItemsT Z w B (n + 1) (.slice (some ⟨g, o, none⟩) l.length c) l) : ∃ rs : List (TF × Value), rs.length = l.length ∧ (∀ j, (h1 : j < rs.length) → (h2 : j < l.length) → rs[j].1 = l[j].f ∧ ItemsT Z w B n rs[j].2 l[j].items) ∧
    (∀ j u, (flatR rs)[j]? = some u → w.cell? ((⟨g, o, none⟩ : Addr).add j) = some u) ∧ ∀ u ∈ flatR rs, u.oneCell' = true := by
  obtain ⟨p, c', e, h1, h2, h3⟩ := h
  simp only [Value.slice.injEq, true_and] at e
  obtain ⟨rfl, rfl⟩ := e
  have key : ∀ k, k ≤ l.length → ∃ rs : List (TF × Value), rs.length = k ∧ ∀ j, (h1 : j < rs.length) → (h2 : j < l.length) → rs[j].1 = l[j].f ∧ ItemsT Z w B n rs[j].2 l[j].items ∧ Cells w g (o + j * 9) rs[j].1 rs[j].2 := by
    intro k
    induction k with
    | zero => intro _; exact ⟨[], rfl, fun j h => by simp at h⟩
    | succ k ih =>
      intro hk
      obtain ⟨rs, hl, hr⟩ := ih (by omega)
      obtain ⟨g', o', e, hg, hc⟩ := h3 (by intro e; subst e; simp at hk)
      simp only [Option.some.injEq, Addr.mk.injEq, and_true] at e
      obtain ⟨rfl, rfl⟩ := e
      obtain ⟨u, hu1, hu2⟩ := hc k (by omega)
      refine ⟨rs ++ [((l[k]'(by omega)).f, u)], by simp [hl], fun j h1 h2 => ?_⟩
      by_cases hj : j < rs.length
      · rw [List.getElem_append_left hj]; exact hr j hj h2
      · have : j = k := by simp at h1; omega
        subst this
        rw [List.getElem_append_right (by omega)]
        simp only [hl, Nat.sub_self, List.getElem_cons_zero]
        first | exact ⟨rfl, hu2, hu1⟩ | exact ⟨trivial, hu2, hu1⟩
  obtain ⟨rs, hl, hr⟩ := key l.length (Nat.le_refl _)
  refine ⟨rs, hl, fun j h1 h2 => ⟨(hr j h1 h2).1, (hr j h1 h2).2.1⟩, fun j u hj => ?_, fun u hu => ?_⟩
  · rw [Addr.add_lit]
    have hjl : j < (flatR rs).length := (List.getElem?_eq_some_iff.1 hj).1
    rw [flatR_len] at hjl
    have hq : j / 9 < rs.length := by omega
    have := (hr (j / 9) hq (by omega)).2.2.all (j % 9) (Nat.mod_lt _ (by omega))
    rw [← flatR_get rs (j / 9) hq (j % 9) (Nat.mod_lt _ (by omega))] at this
    rw [show j / 9 * 9 + j % 9 = j by omega, show o + j / 9 * 9 + j % 9 = o + j by omega] at this
    rw [this, hj]
  · unfold flatR at hu
    rw [List.mem_flatMap] at hu
    obtain ⟨r, hr1, hr2⟩ := hu
    obtain ⟨j, hj, rfl⟩ := List.getElem_of_mem hr1
    obtain ⟨_, hi, _⟩ := hr j hj (by omega)
    obtain ⟨q, c2, e, _⟩ := hi.shape
    rw [e] at hr2
    exact nine_one _ _ _ _ u hr2
/-- a growing row of terms, whose elements lie below B -/
def RRowT {n : Nat} (Z : Nat) (wr : World) (B base : Nat) (v : Value) (rs : List (TF × Value)) (O : List (Tm (n + 1))) : Prop :=
  wr.ownsRow base 24 9 v O.length (flatR rs) ∧ rs.length = O.length ∧ ∀ j, (h1 : j < rs.length) → (h2 : j < O.length) → rs[j].1 = O[j].f ∧ ItemsT Z wr B n rs[j].2 O[j].items
theorem RRowT.nil (wr : World) (B base : Nat) : RRowT (n := n) Z wr B base (.slice none 0 0) [] [] := ⟨World.ownsRow_nil _ _ _ _, rfl, fun j h => by simp at h⟩
theorem RRowT.items {wr : World} {B base : Nat} {v : Value} {rs : List (TF × Value)} {O : List (Tm (n + 1))} (h : RRowT Z wr B base v rs O) (hB : B ≤ wr.heap.size) : ItemsT Z wr wr.heap.size (n + 1) v O := by
  obtain ⟨h1, h2, h3⟩ := h
  rcases h1.2 with ⟨rfl, h0⟩ | ⟨g, cap, cur, rfl, hbg, hg, hc, hm, hs, ht⟩
  · have : O = [] := List.eq_nil_of_length_eq_zero h0
    subst this
    exact ItemsT.nil_any (by unfold maxLen; omega)
  · refine ⟨_, _, rfl, hc, hm, fun _ => ⟨g, 0, rfl, ⟨(Array.getElem?_eq_some_iff.1 hg).1, .inr ⟨_, _, hg⟩⟩, fun j hj => ?_⟩⟩
    have hj' : j < rs.length := by omega
    have := row_cells h1 (by omega) j hj'
    refine ⟨rs[j].2, ?_, (h3 j hj' hj).2.more hB⟩
    rw [Nat.zero_add, ← (h3 j hj' hj).1]
    exact this
theorem RRowT.below {wr w' : World} {B base : Nat} {v : Value} {rs : List (TF × Value)} {O : List (Tm (n + 1))} (h : RRowT Z wr B base v rs O) (hb : Below wr.heap.size wr w') (hB : B ≤ wr.heap.size) : RRowT Z w' B base v rs O := by
  obtain ⟨h1, h2, h3⟩ := h
  refine ⟨row_same h1 (fun k hk => hb.block k ?_), h2, fun j a b => ⟨(h3 j a b).1, (h3 j a b).2.below hb hB⟩⟩
  rcases h1.2 with ⟨rfl, h0⟩ | ⟨g, cap, cur, rfl, hbg, hg, _⟩
  · simp [Value.ownBlock] at hk
  · simp [Value.ownBlock] at hk
    subst hk
    exact (Array.getElem?_eq_some_iff.1 hg).1
/-- an append of further terms -/
theorem RRowT.push {wr w' : World} {B base : Nat} {v v' : Value} {rs rs' : List (TF × Value)} {O O' : List (Tm (n + 1))} (h : RRowT Z wr B base v rs O) (hl : rs'.length = O'.length) (h' : ∀ j, (h1 : j < rs'.length) → (h2 : j < O'.length) → rs'[j].1 = O'[j].f ∧ ItemsT Z wr B n rs'[j].2 O'[j].items)
    (hown : w'.ownsRow base 24 9 v' (O.length + O'.length) (flatR rs ++ flatR rs')) (hg : wr.grownBy w' v.ownBlock) (hv : ∀ k, v.ownBlock = some k → B ≤ k) (hB : B ≤ wr.heap.size) : RRowT Z w' B base v' (rs ++ rs') (O ++ O') := by
  obtain ⟨h1, h2, h3⟩ := h
  have hs : ∀ g, g < B → w'.heap[g]? = wr.heap[g]? := fun g hg' => hg.block g (by omega) (fun e => by have := hv g e.symm; omega)
  refine ⟨by rw [List.length_append, flatR_append]; exact hown, by simp [h2, hl], fun j a b => ?_⟩
  by_cases hj : j < rs.length
  · rw [List.getElem_append_left hj, List.getElem_append_left (by omega)]
    exact ⟨(h3 j hj (by omega)).1, (h3 j hj (by omega)).2.same hs⟩
  · rw [List.getElem_append_right (by omega), List.getElem_append_right (by omega)]
    have e : j - rs.length = j - O.length := by omega
    have := h' (j - O.length) (by simp at a b; omega) (by simp at a b; omega)
    simp only [e]
    exact ⟨this.1, this.2.same hs⟩
theorem RRowT.own_ge {wr : World} {B base : Nat} {v : Value} {rs : List (TF × Value)} {O : List (Tm (n + 1))} (h : RRowT Z wr B base v rs O) : ∀ k, v.ownBlock = some k → base ≤ k := by
  intro k hk
  rcases h.1.2 with ⟨rfl, h0⟩ | ⟨g, cap, cur, rfl, hbg, hg, _⟩
  · simp [Value.ownBlock] at hk
  · simp [Value.ownBlock] at hk
    omega
theorem RRowT.shape {wr : World} {B base : Nat} {v : Value} {rs : List (TF × Value)} {O : List (Tm (n + 1))} (h : RRowT Z wr B base v rs O) : ∃ p c, v = .slice p O.length c := by
  rcases h.1.2 with ⟨rfl, h0⟩ | ⟨g, cap, cur, rfl, _⟩
  · exact ⟨_, _, by rw [h0]⟩
  · exact ⟨_, _, rfl⟩
def RPostT {n : Nat} (Z : Nat) (l : List (Tm (n + 1))) (w : World) (e : Ending) (w' : World) : Prop := ∃ p c, e = .returned (.slice p l.length c) ∧ ItemsT Z w' w'.heap.size (n + 1) (.slice p l.length c) l ∧ Below w.heap.size w w'
def RPost2T {n : Nat} (Z : Nat) (l : List (Tm (n + 1))) (w W : World) (e : Ending) (w' : World) : Prop := ∃ p c, e = .returned (.slice p l.length c) ∧ ItemsT Z w' w'.heap.size (n + 1) (.slice p l.length c) l ∧ Below W.heap.size W w' ∧ Below w.heap.size w w'
theorem RPostT.on {n : Nat} {l : List (Tm (n + 1))} {w W w' : World} {e : Ending} (hb : Below w.heap.size w W) (h : RPostT Z l W e w') : RPost2T Z l w W e w' := by
  obtain ⟨p, c, h1, h2, h3⟩ := h
  exact ⟨p, c, h1, h2, h3, hb.trans (h3.mono hb.size)⟩
def RSortST (Z N : Nat) : Prop := ∀ (n : Nat) (w : World) (B : Nat) (v : Value) (l : List (Tm (n + 1))), B ≤ w.heap.size → ItemsT Z w B (n + 1) v l → nodesL (n + 1) l ≤ 100000000 → l.length ≤ N → Calls Tryz.prog 63 #[v] w (RPostT Z (sortL l) w)
theorem rsortSmallT {n : Nat} (w : World) (B : Nat) (v : Value) (l : List (Tm (n + 1))) (hB : B ≤ w.heap.size) (h1 : ItemsT Z w B (n + 1) v l) (hl : l.length < 2) : Calls Tryz.prog 63 #[v] w (RPostT Z (sortL l) w) := by
  rw [sortL_small hl]
  obtain ⟨i0, hi0, hz0, hz1, hz2⟩ := info_parts info24
  by_cases hn : l = []
  · subst hn
    obtain ⟨p, c, rfl, hc, hm⟩ := h1.shape
    have HN : Hid (ItemsT Z w w.heap.size (n + 1) (.slice none 0 0) ([] : List (Tm (n + 1)))) := Lib.hid (ItemsT.nil_any (by unfold maxLen; omega))
    simp only [List.length_nil]
    unfold RPostT
    simp only [List.length_nil]
    cases p with
    | none =>
      clear h1 hl hm hc
      go_enter Tryz.func63, Tryz.ntmps63
      go_wp2_with (at_builtin; refine wpList_append_none24 rfl _ _ 22 rfl w.heap.size 24 i0 9 c Tryz.underlying22 hi0 (.slice none 0 0) 0 [] rfl (World.ownsRow_nil _ _ _ _) rfl ?_)
      go_ret
      exact ⟨none, 0, rfl, HN.out, Below.refl _ _⟩
    | some ad =>
      clear h1 hl hm hc
      go_enter Tryz.func63, Tryz.ntmps63
      go_wp2_with (at_builtin; refine wpList_append_own_at _ rfl _ _ 22 rfl w.heap.size 24 i0 (.agg #[.int .i64 0, .int .i64 0, .int .i64 0, .string ⟨#[]⟩, .string ⟨#[]⟩, .int .i64 0, .slice none 0 0, .string ⟨#[]⟩, .int .i64 0]) 9 112 Tryz.underlying22 hi0 hz0 hz1 hz2 rfl (by decide) (.slice none 0 0) 0 [] rfl (World.ownsRow_nil _ _ _ _) ad 0 c [] rfl rfl (fun j u hj => by simp at hj) (by simp) (by unfold maxLen; omega) (by omega) (Nat.le_refl _) ?_; intro v' w1 hown hg hv0 _; obtain rfl := hv0.2 ⟨rfl, rfl⟩)
      go_ret
      exact ⟨none, 0, rfl, ItemsT.nil_any (by unfold maxLen; omega), ((TouchB.refl (fun _ => False) _).grown hg (fun k hk => by simp [Value.ownBlock] at hk)).below (fun k h => h.elim) (Nat.le_refl _)⟩
  · obtain ⟨g, o, c, rfl, hc, hm, hg, _⟩ := h1.at_ hn
    obtain ⟨rs, hrl, hrs, hcells, hone⟩ := h1.rows
    have HL : Hid ((flatR rs).length = l.length * 9) := Lib.hid (by rw [flatR_len, hrl])
    have HC := Lib.hid hcells
    have HO := Lib.hid hone
    have HP := Lib.hid (fun v' w' (hown : w'.ownsRow w.heap.size 24 9 v' ((0 : Nat) + l.length) (flatR [] ++ flatR rs)) (hg : w.grownBy w' (Value.slice none 0 0).ownBlock) => (RRowT.nil (n := n) (Z := Z) w B w.heap.size).push hrl hrs (by simpa using hown) hg (fun k hk => by simp [Value.ownBlock] at hk) hB)
    unfold RPostT
    have hle : (l.length : Int) < 2 := by omega
    have hl0 : 0 < l.length := List.length_pos_iff.2 hn
    clear h1 hrs hcells hone hrl hn
    go_enter Tryz.func63, Tryz.ntmps63
    go_wp2_with (at_builtin; refine wpList_append_own_at _ rfl _ _ 22 rfl w.heap.size 24 i0 (.agg #[.int .i64 0, .int .i64 0, .int .i64 0, .string ⟨#[]⟩, .string ⟨#[]⟩, .int .i64 0, .slice none 0 0, .string ⟨#[]⟩, .int .i64 0]) 9 112 Tryz.underlying22 hi0 hz0 hz1 hz2 rfl (by decide) (.slice none 0 0) 0 (flatR []) rfl (World.ownsRow_nil _ _ _ _) ⟨g, o, none⟩ l.length c (flatR rs) rfl HL.out HC.out HO.out (by unfold maxLen; omega) (by omega) (Nat.le_refl _) ?_; intro v' w1 hown hg hv0 hblk; have hR := HP.out v' w1 hown hg; obtain ⟨p', c', rfl⟩ := hR.shape; simp only [List.nil_append] at *)
    go_ret
    have hb : Below w.heap.size w w1 := ((TouchB.refl (fun _ => False) _).grown hg (fun k hk => by simp [Value.ownBlock] at hk)).below (fun k h => h.elim) (Nat.le_refl _)
    exact ⟨p', c', rfl, hR.items (Nat.le_trans hB hb.size), hb⟩
theorem RRowT.push1 {n : Nat} {W w' : World} {B base : Nat} {p : Option Addr} {m c : Nat} {rs : List (TF × Value)} {O : List (Tm (n + 1))} {f : TF} {u v' : Value} {t : Tm (n + 1)} (h : RRowT Z W B base (.slice p m c) rs O) (hm : O.length = m) (hf : t.f = f) (hi : ItemsT Z W B n u t.items) (hbase : B ≤ base) (hB : B ≤ W.heap.size)
    (hown : w'.ownsRow base 24 9 v' (m + 1) (flatR rs ++ nineL f u)) (hg : W.grownBy w' (Value.slice p m c).ownBlock) : RRowT Z w' B base v' (rs ++ [(f, u)]) (O ++ [t]) := by
  subst hm
  refine h.push (rs' := [(f, u)]) (O' := [t]) rfl (fun j h1 h2 => ?_) ?_ hg (fun k hk => Nat.le_trans hbase (h.own_ge k hk)) hB
  · obtain rfl : j = 0 := by simp at h1; omega
    exact ⟨hf.symm, hi⟩
  · have e : flatR [(f, u)] = nineL f u := by simp [flatR]
    rw [e]; exact hown
theorem ItemsT.elt {n : Nat} {w : World} {B g o c : Nat} {l : List (Tm (n + 1))} (h : ItemsT Z w B (n + 1) (.slice (some ⟨g, o, none⟩) l.length c) l) (i : Nat) (hi : i < l.length) : ∃ t x q m d, l[i]? = some t ∧ t.f = x ∧ Cells w g (o + i * 9) x (.slice q m d) ∧ ItemsT Z w B n (.slice q m d) t.items := by
  obtain ⟨p, c', e, h1, h2, h3⟩ := h
  simp only [Value.slice.injEq, true_and] at e
  obtain ⟨rfl, rfl⟩ := e
  obtain ⟨g', o', e, hg, hc⟩ := h3 (by intro e; subst e; simp at hi)
  simp only [Option.some.injEq, Addr.mk.injEq, and_true] at e
  obtain ⟨rfl, rfl⟩ := e
  obtain ⟨u, hu1, hu2⟩ := hc i hi
  obtain ⟨q, d, rfl, _⟩ := ItemsT.shape (Z := Z) (w := w) (B := B) hu2
  exact ⟨l[i], l[i].f, q, _, d, List.getElem?_eq_getElem hi, rfl, hu1, hu2⟩
theorem ItemsT.addr {n : Nat} {w : World} {B c : Nat} {p : Option Addr} {l : List (Tm (n + 1))} (h : ItemsT Z w B (n + 1) (.slice p l.length c) l) (hl : 0 < l.length) : ∃ g o, p = some ⟨g, o, none⟩ ∧ g < B := by
  obtain ⟨g, o, c', e, _, _, hg, _⟩ := h.at_ (by intro e; subst e; simp at hl)
  simp only [Value.slice.injEq, true_and] at e
  exact ⟨g, o, e.1, hg⟩
set_option maxHeartbeats 8000000 in
theorem rsortStepT {N : Nat} (ih : RSortST Z N) {n : Nat} (w : World) (B : Nat) (v : Value) (l : List (Tm (n + 1))) (hB : B ≤ w.heap.size) (h1 : ItemsT Z w B (n + 1) v l) (hs : nodesL (n + 1) l ≤ 100000000) (hl : l.length ≤ N + 1) (h2 : 2 ≤ l.length) : Calls Tryz.prog 63 #[v] w (RPostT Z (sortL l) w) := by
  obtain ⟨i0, hi0, hz0, hz1, hz2⟩ := info_parts info24
  obtain ⟨g, o, c, rfl, hc, hm, hg, _⟩ := h1.at_ (by intro e; subst e; simp at h2)
  obtain ⟨h, hh⟩ : ∃ h, h = l.length / 2 := ⟨_, rfl⟩
  have hnl := nodes_len (n + 1) l
  have hna := nodesL_append (l.take h) (l.drop h)
  rw [List.take_append_drop] at hna
  have HA := Lib.hid (fun W (hb : Below w.heap.size w W) => (ih n W B _ (l.take h) (Nat.le_trans hB hb.size) ((h1.take_ h (by omega)).below hb hB) (by omega) (by simp; omega)).mono (fun e w' hp => RPostT.on hb hp))
  have HB := Lib.hid (fun W (hb : Below w.heap.size w W) => (ih n W B _ (l.drop h) (Nat.le_trans hB hb.size) ((h1.drop_ h (by omega)).below hb hB) (by omega) (by simp; omega)).mono (fun e w' hp => RPostT.on hb hp))
  have hla : (sortL (l.take h)).length = h := by rw [sortL_len]; simp; omega
  have hlb : (sortL (l.drop h)).length = l.length - h := by rw [sortL_len]; simp
  have hT : (sortL (l.take h)).merge (sortL (l.drop h)) (leB cmpV) = sortL l := sort_halves (tpV (n := n)) l h (by omega)
  have n1 : nodesL (n + 1) (sortL (l.take h)) ≤ 100000000 := by rw [sortL_nodes]; omega
  have n2 : nodesL (n + 1) (sortL (l.drop h)) ≤ 100000000 := by rw [sortL_nodes]; omega
  obtain ⟨A, hA⟩ : ∃ A, sortL (l.take h) = A := ⟨_, rfl⟩
  obtain ⟨D, hD⟩ : ∃ D, sortL (l.drop h) = D := ⟨_, rfl⟩
  obtain ⟨T, hTT⟩ : ∃ T, sortL l = T := ⟨_, rfl⟩
  rw [hA] at HA hla hT n1
  rw [hD] at HB hlb hT n2
  rw [hTT] at hT ⊢
  have HN1 := Lib.hid (fun i t (hi : A[i]? = some t) => nodes_get hi)
  have HN2 := Lib.hid (fun i t (hi : D[i]? = some t) => nodes_get hi)
  have HT : Hid (MInv A D T [] 0 0) := Lib.hid ⟨by simpa using hT, rfl⟩
  have HN1' := Lib.hid n1
  have HN2' := Lib.hid n2
  have ha0 : 0 < A.length := by omega
  have hd0 : 0 < D.length := by omega
  have ha1 : A.length ≤ 100000000 := by omega
  have hd1 : D.length ≤ 100000000 := by omega
  have e1 : (l.length : Int) / 2 = (h : Int) := by omega
  have e2 : (l.length : Int).tdiv 2 = (h : Int) := by rw [Int.tdiv_eq_ediv_of_nonneg (by omega)]; exact e1
  have e3 : IntKind.i64.wrap (h : Int) = (h : Int) := IntWalk.i64_in _ (by omega)
  have e4 : (l.length : Int) - (h : Int) = ((l.length - h : Nat) : Int) := by omega
  have e5 : (h : Int) ≤ (c : Int) := by omega
  have e6 : (0 : Int) ≤ (h : Int) := by omega
  have e7 : (h : Int) ≤ (l.length : Int) := by omega
  have e8 : (2 : Int) ≤ (l.length : Int) := by omega
  have e9 : ¬ ((l.length : Int) < 2) := by omega
  have e10 : h < c := by omega
  unfold RPost2T at HA HB
  unfold RPostT
  clear hA hD hTT hT n1 n2 hna hla hlb hh hs h1 ih hm hg hB hl hnl
  go_enter Tryz.func63, Tryz.ntmps63
  go_upto_region 3 with fail
  go_cut [3, 4] from 13 to 24 (fun s t wc => ∃ ga oa ca gb ob cb, s = .slice (some ⟨ga, oa, none⟩) A.length ca ∧ t = .slice (some ⟨gb, ob, none⟩) D.length cb ∧ ga < wc.heap.size ∧ gb < wc.heap.size ∧ ItemsT Z wc wc.heap.size (n + 1) (.slice (some ⟨ga, oa, none⟩) A.length ca) A ∧ ItemsT Z wc wc.heap.size (n + 1) (.slice (some ⟨gb, ob, none⟩) D.length cb) D ∧ Below w.heap.size w wc)
  case first =>
    go_region_held3 (fun w' => Below w.heap.size w w') (first | exact Below.drewN (Below.refl _ _) 1 | exact Below.drewN (by assumption) 1 | assumption | go_keep)
      (first
        | (go_at_call 63; (with_reducible refine (HA.out _ (by assumption)).mono ?_); rintro e w3 ⟨pa, ca, rfl, hIa, hba, hba2⟩)
        | (go_at_call 63; (with_reducible refine (HB.out _ (by assumption)).mono ?_); rintro e w4 ⟨pb, cb, rfl, hIb, hbb, hbb2⟩))
    all_goals
      go_wp2_with fail
      go_meet
      obtain ⟨ga, oa, rfl, hga⟩ := hIa.addr ha0
      obtain ⟨gb, ob, rfl, hgb⟩ := hIb.addr hd0
      first
        | exact ⟨ga, oa, ca, gb, ob, cb, rfl, rfl, Nat.lt_of_lt_of_le hga hbb.size, hgb, (hIa.below hbb (Nat.le_refl _)).more hbb.size, hIb, hbb2⟩
        | exact ⟨ga, oa, ca, gb, ob, cb, rfl, rfl, hga, Nat.lt_of_lt_of_le hgb hba.size, hIa, (hIb.below hba (Nat.le_refl _)).more hba.size, hba2⟩
  case rest =>
    obtain ⟨ga, oa, ca, gb, ob, cb, rfl, rfl, hla, hlb, hIa, hIb, hbw⟩ := hcut
    have HEA := Lib.hid (fun i (hi : i < A.length) => hIa.elt i hi)
    have HED := Lib.hid (fun i (hi : i < D.length) => hIb.elt i hi)
    have HBW0 := Lib.hid hbw
    have HR0 : Hid (RRowT (n := n) Z wc wc.heap.size wc.heap.size (.slice none 0 0) [] []) := Lib.hid (RRowT.nil (Z := Z) _ _ _)
    clear hIa hIb hbw e1 e2 e3 e4 e5 e6 e7 e8 e9 e10 HA HB
    go_wp2_with fail
    go_loopw [5, 6, 7] (fun s x y wr => ∃ (i k m : Nat) (O : List (Tm (n + 1))) (rs : List (TF × Value)) (p : Option Addr) (c : Nat), s = .slice p m c ∧ x = .int .i64 i ∧ y = .int .i64 k ∧ i ≤ A.length ∧ k ≤ D.length ∧ m ≤ i + k ∧ Hid (MInv A D T O i k) ∧ Hid (O.length = m) ∧ Hid (RRowT Z wr wc.heap.size wc.heap.size (.slice p m c) rs O) ∧ Hid (Below wc.heap.size wc wr)) (fun _ x y _ => A.length + D.length - (intOf x).toNat - (intOf y).toNat)
    case atStart => exact ⟨0, 0, 0, [], [], none, 0, rfl, by go_num, by go_num, by omega, by omega, by omega, HT, Lib.hid rfl, HR0, Lib.hid (Below.refl _ _)⟩
    case round =>
      obtain ⟨i, k, m, O, rs, p, c', rfl, rfl, rfl, hia, hkd, hmik, HI, HOL, HR, HB⟩ := hrel
      have hgla : ga < wr.heap.size := Nat.lt_of_lt_of_le hla HB.out.size
      have hglb : gb < wr.heap.size := Nat.lt_of_lt_of_le hlb HB.out.size
      by_cases h1 : i < A.length
      · by_cases h2 : k < D.length
        · have hbl := HB.out
          obtain ⟨t1, x1, p1, m1, c1, hA1, hf1, hC1, hI1⟩ := HEA.out i (by omega)
          have HTf1 := Lib.hid hf1
          have HIt1 := Lib.hid hI1
          have HAt1 := Lib.hid hA1
          obtain ⟨k1, i1, g1, n1, fn1, a1, by1, s1⟩ := x1
          have hC1 := hC1.same (hbl.block ga hla)
          have HC1 := Lib.hid hC1
          obtain ⟨x0, x1, x2, x3, x4, x5, x6, x7, x8⟩ := hC1
          dsimp only at x0 x1 x2 x3 x4 x5 x6 x7 x8
          clear hA1 hf1 hI1
          obtain ⟨t2, x2, p2, m2, c2, hA2, hf2, hC2, hI2⟩ := HED.out k (by omega)
          have HTf2 := Lib.hid hf2
          have HIt2 := Lib.hid hI2
          have HAt2 := Lib.hid hA2
          obtain ⟨k2, i2, g2, n2, fn2, a2, by2, s2⟩ := x2
          have hC2 := hC2.same (hbl.block gb hlb)
          have HC2 := Lib.hid hC2
          obtain ⟨y0, y1, y2, y3, y4, y5, y6, y7, y8⟩ := hC2
          dsimp only at y0 y1 y2 y3 y4 y5 y6 y7 y8
          clear hA2 hf2 hI2
          clear hbl
          have HCmp := Lib.hid (RCompare wr.drew wc.heap.size _ _ t1 t2 (HB.out.drewN 1).size (HIt1.out.A.below (HB.out.drewN 1) (Nat.le_refl _)) (HIt2.out.A.below (HB.out.drewN 1) (Nat.le_refl _)) (by have := HN1.out i t1 HAt1.out; have := HN1'.out; omega) (by have := HN2.out k t2 HAt2.out; have := HN2'.out; omega))
          have HL := Lib.hid (fun (hz : cmpV t1 t2 ≤ 0) => HI.out.left' HAt1.out (fun t hq => by rw [HAt2.out] at hq; simp only [Option.some.injEq] at hq; subst hq; exact hz) (by omega))
          have HRt := Lib.hid (fun (hz : ¬ cmpV t1 t2 ≤ 0) => HI.out.right' HAt2.out (fun t hq => by rw [HAt1.out] at hq; simp only [Option.some.injEq] at hq; subst hq; exact hz) (by omega))
          rw [HTf1.out, HTf2.out] at HCmp
          generalize cmpV t1 t2 = z at *
          unfold aggV IPostC at HCmp
          dsimp only at HCmp
          have r1 : (i : Int) < (A.length : Int) := by omega
          have r2 : (k : Int) < (D.length : Int) := by omega
          have r3 : ((k : Int) == (D.length : Int)) = false := by have : ¬ (k : Int) = (D.length : Int) := by omega
                                                                  simpa using this
          have r4 : decide (i < A.length) = true := decide_eq_true h1
          have r5 : (0 : Int) ≤ (i : Int) := by omega
          have r6 : (0 : Int) ≤ (k : Int) := by omega
          have r7 : (k == D.length) = false := by have : ¬ k = D.length := by omega
                                                  simpa using this
          by_cases hz : z ≤ 0
          · have q1 : decide (z ≤ 0) = true := decide_eq_true hz
            have HInv := Lib.hid (HL.out hz)
            clear HL HRt
            go_wp2_with fail
            go_region_held3 (fun w' => (w'.cell? ⟨ga, oa + i * 9, none⟩ = some (.int .i64 k1) ∧ w'.cell? ⟨ga, oa + i * 9 + 1, none⟩ = some (.int .i64 i1) ∧ w'.cell? ⟨ga, oa + i * 9 + 1 + 1, none⟩ = some (.int .i64 g1) ∧ w'.cell? ⟨ga, oa + i * 9 + 1 + 1 + 1, none⟩ = some (.string n1) ∧ w'.cell? ⟨ga, oa + i * 9 + 1 + 1 + 1 + 1, none⟩ = some (.string fn1) ∧ w'.cell? ⟨ga, oa + i * 9 + 1 + 1 + 1 + 1 + 1, none⟩ = some (.int .i64 a1) ∧ w'.cell? ⟨ga, oa + i * 9 + 1 + 1 + 1 + 1 + 1 + 1, none⟩ = some (.slice p1 m1 c1) ∧ w'.cell? ⟨ga, oa + i * 9 + 1 + 1 + 1 + 1 + 1 + 1 + 1, none⟩ = some (.string by1) ∧ w'.cell? ⟨ga, oa + i * 9 + 1 + 1 + 1 + 1 + 1 + 1 + 1 + 1, none⟩ = some (.int .i64 s1)) ∧ w'.cell? ⟨gb, ob + k * 9, none⟩ = some (.int .i64 k2) ∧ w'.cell? ⟨gb, ob + k * 9 + 1, none⟩ = some (.int .i64 i2) ∧ w'.cell? ⟨gb, ob + k * 9 + 1 + 1, none⟩ = some (.int .i64 g2) ∧ w'.cell? ⟨gb, ob + k * 9 + 1 + 1 + 1, none⟩ = some (.string n2) ∧ w'.cell? ⟨gb, ob + k * 9 + 1 + 1 + 1 + 1, none⟩ = some (.string fn2) ∧ w'.cell? ⟨gb, ob + k * 9 + 1 + 1 + 1 + 1 + 1, none⟩ = some (.int .i64 a2) ∧ w'.cell? ⟨gb, ob + k * 9 + 1 + 1 + 1 + 1 + 1 + 1, none⟩ = some (.slice p2 m2 c2) ∧ w'.cell? ⟨gb, ob + k * 9 + 1 + 1 + 1 + 1 + 1 + 1 + 1, none⟩ = some (.string by2) ∧ w'.cell? ⟨gb, ob + k * 9 + 1 + 1 + 1 + 1 + 1 + 1 + 1 + 1, none⟩ = some (.int .i64 s2)) (go_keep)
              (first
                | (go_at_call 54; (with_reducible refine HCmp.out.mono ?_); rintro e5 w5 ⟨rfl, hb5⟩; have HA5 := Lib.hid (HC1.out.same (hb5.block ga hgla)); have HB5 := Lib.hid (HC2.out.same (hb5.block gb hglb)); obtain ⟨z0, z1, z2, z3, z4, z5, z6, z7, z8⟩ := HA5.out; obtain ⟨u0, u1, u2, u3, u4, u5, u6, u7, u8⟩ := HB5.out; dsimp only at z0 z1 z2 z3 z4 z5 z6 z7 z8 u0 u1 u2 u3 u4 u5 u6 u7 u8))
            have HRW : Hid (RRowT Z w5 wc.heap.size wc.heap.size (.slice p m c') rs O) := Lib.hid ((HR.out.below (Below.drewN (Below.refl _ _) 1) HB.out.size).below hb5 (HB.out.drewN 1).size)
            have HBW : Hid (Below wc.heap.size wc w5) := Lib.hid ((HB.out.drewN 1).trans (hb5.mono (HB.out.drewN 1).size))
            clear hb5 HCmp HR HB x0 x1 x2 x3 x4 x5 x6 x7 x8 y0 y1 y2 y3 y4 y5 y6 y7 y8 HA5 HB5
            have HRN := Lib.hid (HRW.out.below ((Below.refl _ w5).alloc (Nat.le_refl _) (cells9 ⟨k1, i1, g1, n1, fn1, a1, by1, s1⟩ (.slice p1 m1 c1))) HBW.out.size)
            have HM1 : Hid (m + 1 ≤ maxLen) := Lib.hid (by unfold maxLen; omega)
            have HM2 : Hid ((m + 1) * 112 ≤ 140737488355328) := Lib.hid (by omega)
            have HNC := Lib.hid (nine_cell w5 ⟨k1, i1, g1, n1, fn1, a1, by1, s1⟩ (.slice p1 m1 c1))
            have HNO := Lib.hid (nine_one ⟨k1, i1, g1, n1, fn1, a1, by1, s1⟩ p1 m1 c1)
            have HBA : Hid (Below wc.heap.size wc (w5.alloc (cells9 ⟨k1, i1, g1, n1, fn1, a1, by1, s1⟩ (.slice p1 m1 c1)))) := Lib.hid (HBW.out.alloc HBW.out.size _)
            have HEl := Lib.hid (HIt1.out.below HBA.out (Nat.le_refl _))
            have HOwn := Lib.hid HRN.out.1
            rw [HOL.out] at HOwn
            unfold cells9 at HRN HNC HEl HBA HOwn
            dsimp only at HRN HNC HEl HBA HOwn
            go_wp2_with (at_builtin; refine wpList_append_own_at _ rfl (.tmp 57) (.tmp 62) 22 rfl wc.heap.size 24 i0 (.agg #[.int .i64 0, .int .i64 0, .int .i64 0, .string ⟨#[]⟩, .string ⟨#[]⟩, .int .i64 0, .slice none 0 0, .string ⟨#[]⟩, .int .i64 0]) 9 112 Tryz.underlying22 hi0 hz0 hz1 hz2 rfl (by decide) (.slice p m c') m (flatR rs) rfl HOwn.out ⟨w5.heap.size, 0, none⟩ 1 1 (nineL ⟨k1, i1, g1, n1, fn1, a1, by1, s1⟩ (.slice p1 m1 c1)) rfl rfl HNC.out HNO.out HM1.out HM2.out HBA.out.size ?_; intro v' w4 hown4 hg4 _ _; have HR4 := Lib.hid (HRN.out.push1 HOL.out HTf1.out HEl.out (Nat.le_refl _) HBA.out.size hown4 hg4); have HB4 : Hid (Below wc.heap.size wc w4) := Lib.hid (HBA.out.grown hg4 HBA.out.size (fun k hk => HRN.out.own_ge k hk)); have HOL4 : Hid ((O ++ [t1]).length = m + 1) := Lib.hid (by simp [HOL.out]); obtain ⟨p4, c4, rfl⟩ := HR4.out.shape; rw [HOL4.out] at HR4 ⊢; clear hown4 hg4)
            go_roundw
            case rel => exact ⟨i + 1, k, m + 1, _, _, p4, c4, by go_num, by go_num, by go_num, by omega, by omega, by omega, HInv, HOL4, HR4, HB4⟩
            case measure => simp [intOf]; omega
          · have q1 : decide (z ≤ 0) = false := decide_eq_false hz
            have HInv := Lib.hid (HRt.out hz)
            clear HL HRt
            go_wp2_with fail
            go_region_held3 (fun w' => (w'.cell? ⟨ga, oa + i * 9, none⟩ = some (.int .i64 k1) ∧ w'.cell? ⟨ga, oa + i * 9 + 1, none⟩ = some (.int .i64 i1) ∧ w'.cell? ⟨ga, oa + i * 9 + 1 + 1, none⟩ = some (.int .i64 g1) ∧ w'.cell? ⟨ga, oa + i * 9 + 1 + 1 + 1, none⟩ = some (.string n1) ∧ w'.cell? ⟨ga, oa + i * 9 + 1 + 1 + 1 + 1, none⟩ = some (.string fn1) ∧ w'.cell? ⟨ga, oa + i * 9 + 1 + 1 + 1 + 1 + 1, none⟩ = some (.int .i64 a1) ∧ w'.cell? ⟨ga, oa + i * 9 + 1 + 1 + 1 + 1 + 1 + 1, none⟩ = some (.slice p1 m1 c1) ∧ w'.cell? ⟨ga, oa + i * 9 + 1 + 1 + 1 + 1 + 1 + 1 + 1, none⟩ = some (.string by1) ∧ w'.cell? ⟨ga, oa + i * 9 + 1 + 1 + 1 + 1 + 1 + 1 + 1 + 1, none⟩ = some (.int .i64 s1)) ∧ w'.cell? ⟨gb, ob + k * 9, none⟩ = some (.int .i64 k2) ∧ w'.cell? ⟨gb, ob + k * 9 + 1, none⟩ = some (.int .i64 i2) ∧ w'.cell? ⟨gb, ob + k * 9 + 1 + 1, none⟩ = some (.int .i64 g2) ∧ w'.cell? ⟨gb, ob + k * 9 + 1 + 1 + 1, none⟩ = some (.string n2) ∧ w'.cell? ⟨gb, ob + k * 9 + 1 + 1 + 1 + 1, none⟩ = some (.string fn2) ∧ w'.cell? ⟨gb, ob + k * 9 + 1 + 1 + 1 + 1 + 1, none⟩ = some (.int .i64 a2) ∧ w'.cell? ⟨gb, ob + k * 9 + 1 + 1 + 1 + 1 + 1 + 1, none⟩ = some (.slice p2 m2 c2) ∧ w'.cell? ⟨gb, ob + k * 9 + 1 + 1 + 1 + 1 + 1 + 1 + 1, none⟩ = some (.string by2) ∧ w'.cell? ⟨gb, ob + k * 9 + 1 + 1 + 1 + 1 + 1 + 1 + 1 + 1, none⟩ = some (.int .i64 s2)) (go_keep)
              (first
                | (go_at_call 54; (with_reducible refine HCmp.out.mono ?_); rintro e5 w5 ⟨rfl, hb5⟩; have HA5 := Lib.hid (HC1.out.same (hb5.block ga hgla)); have HB5 := Lib.hid (HC2.out.same (hb5.block gb hglb)); obtain ⟨z0, z1, z2, z3, z4, z5, z6, z7, z8⟩ := HA5.out; obtain ⟨u0, u1, u2, u3, u4, u5, u6, u7, u8⟩ := HB5.out; dsimp only at z0 z1 z2 z3 z4 z5 z6 z7 z8 u0 u1 u2 u3 u4 u5 u6 u7 u8))
            have HRW : Hid (RRowT Z w5 wc.heap.size wc.heap.size (.slice p m c') rs O) := Lib.hid ((HR.out.below (Below.drewN (Below.refl _ _) 1) HB.out.size).below hb5 (HB.out.drewN 1).size)
            have HBW : Hid (Below wc.heap.size wc w5) := Lib.hid ((HB.out.drewN 1).trans (hb5.mono (HB.out.drewN 1).size))
            clear hb5 HCmp HR HB x0 x1 x2 x3 x4 x5 x6 x7 x8 y0 y1 y2 y3 y4 y5 y6 y7 y8 HA5 HB5
            have HRN := Lib.hid (HRW.out.below ((Below.refl _ w5).alloc (Nat.le_refl _) (cells9 ⟨k2, i2, g2, n2, fn2, a2, by2, s2⟩ (.slice p2 m2 c2))) HBW.out.size)
            have HM1 : Hid (m + 1 ≤ maxLen) := Lib.hid (by unfold maxLen; omega)
            have HM2 : Hid ((m + 1) * 112 ≤ 140737488355328) := Lib.hid (by omega)
            have HNC := Lib.hid (nine_cell w5 ⟨k2, i2, g2, n2, fn2, a2, by2, s2⟩ (.slice p2 m2 c2))
            have HNO := Lib.hid (nine_one ⟨k2, i2, g2, n2, fn2, a2, by2, s2⟩ p2 m2 c2)
            have HBA : Hid (Below wc.heap.size wc (w5.alloc (cells9 ⟨k2, i2, g2, n2, fn2, a2, by2, s2⟩ (.slice p2 m2 c2)))) := Lib.hid (HBW.out.alloc HBW.out.size _)
            have HEl := Lib.hid (HIt2.out.below HBA.out (Nat.le_refl _))
            have HOwn := Lib.hid HRN.out.1
            rw [HOL.out] at HOwn
            unfold cells9 at HRN HNC HEl HBA HOwn
            dsimp only at HRN HNC HEl HBA HOwn
            go_wp2_with (at_builtin; refine wpList_append_own_at _ rfl (.tmp 66) (.tmp 71) 22 rfl wc.heap.size 24 i0 (.agg #[.int .i64 0, .int .i64 0, .int .i64 0, .string ⟨#[]⟩, .string ⟨#[]⟩, .int .i64 0, .slice none 0 0, .string ⟨#[]⟩, .int .i64 0]) 9 112 Tryz.underlying22 hi0 hz0 hz1 hz2 rfl (by decide) (.slice p m c') m (flatR rs) rfl HOwn.out ⟨w5.heap.size, 0, none⟩ 1 1 (nineL ⟨k2, i2, g2, n2, fn2, a2, by2, s2⟩ (.slice p2 m2 c2)) rfl rfl HNC.out HNO.out HM1.out HM2.out HBA.out.size ?_; intro v' w4 hown4 hg4 _ _; have HR4 := Lib.hid (HRN.out.push1 HOL.out HTf2.out HEl.out (Nat.le_refl _) HBA.out.size hown4 hg4); have HB4 : Hid (Below wc.heap.size wc w4) := Lib.hid (HBA.out.grown hg4 HBA.out.size (fun k hk => HRN.out.own_ge k hk)); have HOL4 : Hid ((O ++ [t2]).length = m + 1) := Lib.hid (by simp [HOL.out]); obtain ⟨p4, c4, rfl⟩ := HR4.out.shape; rw [HOL4.out] at HR4 ⊢; clear hown4 hg4)
            go_roundw
            case rel => exact ⟨i, k + 1, m + 1, _, _, p4, c4, by go_num, by go_num, by go_num, by omega, by omega, by omega, HInv, HOL4, HR4, HB4⟩
            case measure => simp [intOf]; omega
        · have hkk : k = D.length := by omega
          have hbl := HB.out
          obtain ⟨t1, x1, p1, m1, c1, hA1, hf1, hC1, hI1⟩ := HEA.out i (by omega)
          have HTf1 := Lib.hid hf1
          have HIt1 := Lib.hid hI1
          have HAt1 := Lib.hid hA1
          obtain ⟨k1, i1, g1, n1, fn1, a1, by1, s1⟩ := x1
          have hC1 := hC1.same (hbl.block ga hla)
          have HC1 := Lib.hid hC1
          obtain ⟨x0, x1, x2, x3, x4, x5, x6, x7, x8⟩ := hC1
          dsimp only at x0 x1 x2 x3 x4 x5 x6 x7 x8
          clear hA1 hf1 hI1
          clear hbl
          have HInv := Lib.hid (HI.out.left' HAt1.out (fun t hq => by rw [List.getElem?_eq_none (by omega)] at hq; cases hq) (by omega))
          obtain rfl := hkk
          have r1 : (i : Int) < (A.length : Int) := by omega
          have r4 : decide (i < A.length) = true := decide_eq_true h1
          have r5 : (0 : Int) ≤ (i : Int) := by omega
          go_wp2_with fail
          go_big_region
          have HRW : Hid (RRowT Z wr.drew wc.heap.size wc.heap.size (.slice p m c') rs O) := Lib.hid (HR.out.below (Below.drewN (Below.refl _ _) 1) HB.out.size)
          have HBW : Hid (Below wc.heap.size wc wr.drew) := Lib.hid (HB.out.drewN 1)
          clear HR HB
          have hC1 := HC1.out
          clear x0 x1 x2 x3 x4 x5 x6 x7 x8
          have HCd : Hid (Cells wr.drew ga (oa + i * 9) ⟨k1, i1, g1, n1, fn1, a1, by1, s1⟩ (.slice p1 m1 c1)) := Lib.hid (hC1.same rfl)
          clear hC1
          generalize wr.drew = w5 at *
          obtain ⟨x0, x1, x2, x3, x4, x5, x6, x7, x8⟩ := HCd.out
          dsimp only at x0 x1 x2 x3 x4 x5 x6 x7 x8
          have HRN := Lib.hid (HRW.out.below ((Below.refl _ w5).alloc (Nat.le_refl _) (cells9 ⟨k1, i1, g1, n1, fn1, a1, by1, s1⟩ (.slice p1 m1 c1))) HBW.out.size)
          have HM1 : Hid (m + 1 ≤ maxLen) := Lib.hid (by unfold maxLen; omega)
          have HM2 : Hid ((m + 1) * 112 ≤ 140737488355328) := Lib.hid (by omega)
          have HNC := Lib.hid (nine_cell w5 ⟨k1, i1, g1, n1, fn1, a1, by1, s1⟩ (.slice p1 m1 c1))
          have HNO := Lib.hid (nine_one ⟨k1, i1, g1, n1, fn1, a1, by1, s1⟩ p1 m1 c1)
          have HBA : Hid (Below wc.heap.size wc (w5.alloc (cells9 ⟨k1, i1, g1, n1, fn1, a1, by1, s1⟩ (.slice p1 m1 c1)))) := Lib.hid (HBW.out.alloc HBW.out.size _)
          have HEl := Lib.hid (HIt1.out.below HBA.out (Nat.le_refl _))
          have HOwn := Lib.hid HRN.out.1
          rw [HOL.out] at HOwn
          unfold cells9 at HRN HNC HEl HBA HOwn
          dsimp only at HRN HNC HEl HBA HOwn
          go_wp2_with (at_builtin; refine wpList_append_own_at _ rfl (.tmp 57) (.tmp 62) 22 rfl wc.heap.size 24 i0 (.agg #[.int .i64 0, .int .i64 0, .int .i64 0, .string ⟨#[]⟩, .string ⟨#[]⟩, .int .i64 0, .slice none 0 0, .string ⟨#[]⟩, .int .i64 0]) 9 112 Tryz.underlying22 hi0 hz0 hz1 hz2 rfl (by decide) (.slice p m c') m (flatR rs) rfl HOwn.out ⟨w5.heap.size, 0, none⟩ 1 1 (nineL ⟨k1, i1, g1, n1, fn1, a1, by1, s1⟩ (.slice p1 m1 c1)) rfl rfl HNC.out HNO.out HM1.out HM2.out HBA.out.size ?_; intro v' w4 hown4 hg4 _ _; have HR4 := Lib.hid (HRN.out.push1 HOL.out HTf1.out HEl.out (Nat.le_refl _) HBA.out.size hown4 hg4); have HB4 : Hid (Below wc.heap.size wc w4) := Lib.hid (HBA.out.grown hg4 HBA.out.size (fun k hk => HRN.out.own_ge k hk)); have HOL4 : Hid ((O ++ [t1]).length = m + 1) := Lib.hid (by simp [HOL.out]); obtain ⟨p4, c4, rfl⟩ := HR4.out.shape; rw [HOL4.out] at HR4 ⊢; clear hown4 hg4)
          go_roundw
          case rel => exact ⟨i + 1, D.length, m + 1, _, _, p4, c4, by go_num, by go_num, by go_num, by omega, by omega, by omega, HInv, HOL4, HR4, HB4⟩
          case measure => simp [intOf]; omega
      · have hii : i = A.length := by omega
        by_cases h2 : k < D.length
        · have hbl := HB.out
          obtain ⟨t2, x2, p2, m2, c2, hA2, hf2, hC2, hI2⟩ := HED.out k (by omega)
          have HTf2 := Lib.hid hf2
          have HIt2 := Lib.hid hI2
          have HAt2 := Lib.hid hA2
          obtain ⟨k2, i2, g2, n2, fn2, a2, by2, s2⟩ := x2
          have hC2 := hC2.same (hbl.block gb hlb)
          have HC2 := Lib.hid hC2
          obtain ⟨y0, y1, y2, y3, y4, y5, y6, y7, y8⟩ := hC2
          dsimp only at y0 y1 y2 y3 y4 y5 y6 y7 y8
          clear hA2 hf2 hI2
          clear hbl
          have HInv := Lib.hid (HI.out.right' HAt2.out (fun t hq => by rw [List.getElem?_eq_none (by omega)] at hq; cases hq) (by omega))
          obtain rfl := hii
          have r2 : (k : Int) < (D.length : Int) := by omega
          have r3 : ((k : Int) == (D.length : Int)) = false := by have : ¬ (k : Int) = (D.length : Int) := by omega
                                                                  simpa using this
          have r7 : (k == D.length) = false := by have : ¬ k = D.length := by omega
                                                  simpa using this
          have r6 : (0 : Int) ≤ (k : Int) := by omega
          go_wp2_with fail
          go_big_region
          have HRW : Hid (RRowT Z wr.drew wc.heap.size wc.heap.size (.slice p m c') rs O) := Lib.hid (HR.out.below (Below.drewN (Below.refl _ _) 1) HB.out.size)
          have HBW : Hid (Below wc.heap.size wc wr.drew) := Lib.hid (HB.out.drewN 1)
          clear HR HB
          have hC2 := HC2.out
          clear y0 y1 y2 y3 y4 y5 y6 y7 y8
          have HCd : Hid (Cells wr.drew gb (ob + k * 9) ⟨k2, i2, g2, n2, fn2, a2, by2, s2⟩ (.slice p2 m2 c2)) := Lib.hid (hC2.same rfl)
          clear hC2
          generalize wr.drew = w5 at *
          obtain ⟨y0, y1, y2, y3, y4, y5, y6, y7, y8⟩ := HCd.out
          dsimp only at y0 y1 y2 y3 y4 y5 y6 y7 y8
          have HRN := Lib.hid (HRW.out.below ((Below.refl _ w5).alloc (Nat.le_refl _) (cells9 ⟨k2, i2, g2, n2, fn2, a2, by2, s2⟩ (.slice p2 m2 c2))) HBW.out.size)
          have HM1 : Hid (m + 1 ≤ maxLen) := Lib.hid (by unfold maxLen; omega)
          have HM2 : Hid ((m + 1) * 112 ≤ 140737488355328) := Lib.hid (by omega)
          have HNC := Lib.hid (nine_cell w5 ⟨k2, i2, g2, n2, fn2, a2, by2, s2⟩ (.slice p2 m2 c2))
          have HNO := Lib.hid (nine_one ⟨k2, i2, g2, n2, fn2, a2, by2, s2⟩ p2 m2 c2)
          have HBA : Hid (Below wc.heap.size wc (w5.alloc (cells9 ⟨k2, i2, g2, n2, fn2, a2, by2, s2⟩ (.slice p2 m2 c2)))) := Lib.hid (HBW.out.alloc HBW.out.size _)
          have HEl := Lib.hid (HIt2.out.below HBA.out (Nat.le_refl _))
          have HOwn := Lib.hid HRN.out.1
          rw [HOL.out] at HOwn
          unfold cells9 at HRN HNC HEl HBA HOwn
          dsimp only at HRN HNC HEl HBA HOwn
          go_wp2_with (at_builtin; refine wpList_append_own_at _ rfl (.tmp 66) (.tmp 71) 22 rfl wc.heap.size 24 i0 (.agg #[.int .i64 0, .int .i64 0, .int .i64 0, .string ⟨#[]⟩, .string ⟨#[]⟩, .int .i64 0, .slice none 0 0, .string ⟨#[]⟩, .int .i64 0]) 9 112 Tryz.underlying22 hi0 hz0 hz1 hz2 rfl (by decide) (.slice p m c') m (flatR rs) rfl HOwn.out ⟨w5.heap.size, 0, none⟩ 1 1 (nineL ⟨k2, i2, g2, n2, fn2, a2, by2, s2⟩ (.slice p2 m2 c2)) rfl rfl HNC.out HNO.out HM1.out HM2.out HBA.out.size ?_; intro v' w4 hown4 hg4 _ _; have HR4 := Lib.hid (HRN.out.push1 HOL.out HTf2.out HEl.out (Nat.le_refl _) HBA.out.size hown4 hg4); have HB4 : Hid (Below wc.heap.size wc w4) := Lib.hid (HBA.out.grown hg4 HBA.out.size (fun k hk => HRN.out.own_ge k hk)); have HOL4 : Hid ((O ++ [t2]).length = m + 1) := Lib.hid (by simp [HOL.out]); obtain ⟨p4, c4, rfl⟩ := HR4.out.shape; rw [HOL4.out] at HR4 ⊢; clear hown4 hg4)
          go_roundw
          case rel => exact ⟨A.length, k + 1, m + 1, _, _, p4, c4, by go_num, by go_num, by go_num, by omega, by omega, by omega, HInv, HOL4, HR4, HB4⟩
          case measure => simp [intOf]; omega
        · have hkk : k = D.length := by omega
          subst hii hkk
          have HE := Lib.hid HI.out.done
          have HItm := Lib.hid (HR.out.items HB.out.size)
          have HBF := Lib.hid (HBW0.out.trans (HB.out.mono HBW0.out.size))
          go_wp2_with fail
          go_ret
          exact ⟨p, c', by rw [← HE.out, HOL.out]; rfl, by rw [← HE.out, HOL.out]; exact HItm.out, HBF.out⟩
theorem rsortAllT (Z : Nat) : ∀ N, RSortST Z N
  | 0 => fun n w B v l hB h1 hs hl => rsortSmallT w B v l hB h1 (by omega)
  | N + 1 => fun n w B v l hB h1 hs hl => by
    by_cases h2 : 2 ≤ l.length
    · exact rsortStepT (rsortAllT Z N) w B v l hB h1 hs hl h2
    · exact rsortSmallT w B v l hB h1 (by omega)
theorem rsortWT {n : Nat} (w : World) (B : Nat) (v : Value) (l : List (Tm (n + 1))) (hB : B ≤ w.heap.size) (h1 : ItemsT Z w B (n + 1) v l) (hs : nodesL (n + 1) l ≤ 100000000) : Calls Tryz.prog 63 #[v] w (RPostT Z (sortL l) w) :=
  rsortAllT Z l.length n w B v l hB h1 hs (Nat.le_refl _)
set_option maxHeartbeats 8000000 in
theorem RUniqueT {n : Nat} (w : World) (B : Nat) (v : Value) (l : List (Tm (n + 1))) (hB : B ≤ w.heap.size) (h1 : ItemsT Z w B (n + 1) v l) (hs : nodesL (n + 1) l ≤ 100000000) : Calls Tryz.prog 30 #[v] w (RPostT Z (uniqL (sortL l)) w) := by
  obtain ⟨i0, hi0, hz0, hz1, hz2⟩ := info_parts info24
  have HSort := Lib.hid (rsortWT w B v l hB h1 hs)
  have hnl := nodes_len (n + 1) l
  have n1 : nodesL (n + 1) (sortL l) ≤ 100000000 := by rw [sortL_nodes]; omega
  have hsl := sortL_len l
  obtain ⟨A, hA⟩ : ∃ A, sortL l = A := ⟨_, rfl⟩
  rw [hA] at HSort n1 hsl ⊢
  have ha1 : A.length ≤ 100000000 := by omega
  have HN1 := Lib.hid (fun i t (hi : A[i]? = some t) => nodes_get hi)
  have HN1' := Lib.hid n1
  have HU : Hid (uniqL A = uniqP cmpV A A.length) := Lib.hid rfl
  obtain ⟨T, hT⟩ : ∃ T, uniqL A = T := ⟨_, rfl⟩
  rw [hT] at HU ⊢
  obtain ⟨p0, c0, rfl, _, _⟩ := h1.shape
  unfold RPostT at HSort ⊢
  clear h1 hs hB hnl n1 hsl hA hT
  go_enter Tryz.func30, Tryz.ntmps30
  go_wp2_with fail
  refine HSort.out.mono ?_
  rintro e wc ⟨pa, ca, rfl, hIa, hbw⟩
  have HIA := Lib.hid hIa
  have HBW0 := Lib.hid hbw
  have HR0 : Hid (RRowT (n := n) Z wc wc.heap.size wc.heap.size (.slice none 0 0) [] []) := Lib.hid (RRowT.nil (Z := Z) _ _ _)
  have HT0 : Hid (uniqP cmpV A 0 = []) := Lib.hid rfl
  clear hIa hbw HSort
  go_wp2_with fail
  go_loopw [4, 5] (fun s x wr => ∃ (i m : Nat) (O : List (Tm (n + 1))) (rs : List (TF × Value)) (p : Option Addr) (c : Nat), s = .slice p m c ∧ x = .int .i64 i ∧ i ≤ A.length ∧ m ≤ i ∧ Hid (uniqP cmpV A i = O) ∧ Hid (O.length = m) ∧ Hid (RRowT Z wr wc.heap.size wc.heap.size (.slice p m c) rs O) ∧ Hid (Below wc.heap.size wc wr)) (fun _ x _ => A.length - (intOf x).toNat)
  case atStart => exact ⟨0, 0, [], [], none, 0, rfl, by go_num, by omega, by omega, HT0, Lib.hid rfl, HR0, Lib.hid (Below.refl _ _)⟩
  case round =>
    obtain ⟨i, m, O, rs, p, c', rfl, rfl, hia, hmi, HI, HOL, HR, HB⟩ := hrel
    by_cases h1 : i < A.length
    · obtain ⟨ga, oa, rfl, hla⟩ := HIA.out.addr (by omega)
      have HEA := Lib.hid (fun i (hi : i < A.length) => HIA.out.elt i hi)
      have hgla : ga < wr.heap.size := Nat.lt_of_lt_of_le hla HB.out.size
      have hbl := HB.out
      by_cases h0 : i = 0
      · subst h0
        obtain ⟨t1, x1, p1, m1, c1, hA1, hf1, hC1, hI1⟩ := HEA.out 0 (by omega)
        have HTf1 := Lib.hid hf1
        have HIt1 := Lib.hid hI1
        have HAt1 := Lib.hid hA1
        obtain ⟨k1, i1, g1, n1, fn1, a1, by1, s1⟩ := x1
        have hC1 := hC1.same (hbl.block ga hla)
        have HC1 := Lib.hid hC1
        obtain ⟨x0, x1, x2, x3, x4, x5, x6, x7, x8⟩ := hC1
        dsimp only at x0 x1 x2 x3 x4 x5 x6 x7 x8
        clear hA1 hf1 hI1
        clear hbl
        have HInv : Hid (uniqP cmpV A (0 + 1) = O ++ [t1]) := Lib.hid (by have := uniqL_first HAt1.out; rw [← HI.out]; exact this)
        have r1 : (0 : Int) < (A.length : Int) := by omega
        go_wp2_with fail
        go_big_region
        have HRW : Hid (RRowT Z wr.drew wc.heap.size wc.heap.size (.slice p m c') rs O) := Lib.hid (HR.out.below (Below.drewN (Below.refl _ _) 1) HB.out.size)
        have HBW : Hid (Below wc.heap.size wc wr.drew) := Lib.hid (HB.out.drewN 1)
        clear HR HB
        have hC1 := HC1.out
        clear x0 x1 x2 x3 x4 x5 x6 x7 x8
        have HCd : Hid (Cells wr.drew ga (oa + 0 * 9) ⟨k1, i1, g1, n1, fn1, a1, by1, s1⟩ (.slice p1 m1 c1)) := Lib.hid (hC1.same rfl)
        clear hC1
        generalize wr.drew = w5 at *
        obtain ⟨x0, x1, x2, x3, x4, x5, x6, x7, x8⟩ := HCd.out
        dsimp only at x0 x1 x2 x3 x4 x5 x6 x7 x8
        simp only [Nat.zero_mul, Nat.add_zero] at x0 x1 x2 x3 x4 x5 x6 x7 x8
        have HRN := Lib.hid (HRW.out.below ((Below.refl _ w5).alloc (Nat.le_refl _) (cells9 ⟨k1, i1, g1, n1, fn1, a1, by1, s1⟩ (.slice p1 m1 c1))) HBW.out.size)
        have HM1 : Hid (m + 1 ≤ maxLen) := Lib.hid (by unfold maxLen; omega)
        have HM2 : Hid ((m + 1) * 112 ≤ 140737488355328) := Lib.hid (by omega)
        have HNC := Lib.hid (nine_cell w5 ⟨k1, i1, g1, n1, fn1, a1, by1, s1⟩ (.slice p1 m1 c1))
        have HNO := Lib.hid (nine_one ⟨k1, i1, g1, n1, fn1, a1, by1, s1⟩ p1 m1 c1)
        have HBA : Hid (Below wc.heap.size wc (w5.alloc (cells9 ⟨k1, i1, g1, n1, fn1, a1, by1, s1⟩ (.slice p1 m1 c1)))) := Lib.hid (HBW.out.alloc HBW.out.size _)
        have HEl := Lib.hid (HIt1.out.below HBA.out (Nat.le_refl _))
        have HOwn := Lib.hid HRN.out.1
        rw [HOL.out] at HOwn
        unfold cells9 at HRN HNC HEl HBA HOwn
        dsimp only at HRN HNC HEl HBA HOwn
        go_wp2_with (at_builtin; refine wpList_append_own_at _ rfl (.tmp 29) (.tmp 34) 22 rfl wc.heap.size 24 i0 (.agg #[.int .i64 0, .int .i64 0, .int .i64 0, .string ⟨#[]⟩, .string ⟨#[]⟩, .int .i64 0, .slice none 0 0, .string ⟨#[]⟩, .int .i64 0]) 9 112 Tryz.underlying22 hi0 hz0 hz1 hz2 rfl (by decide) (.slice p m c') m (flatR rs) rfl HOwn.out ⟨w5.heap.size, 0, none⟩ 1 1 (nineL ⟨k1, i1, g1, n1, fn1, a1, by1, s1⟩ (.slice p1 m1 c1)) rfl rfl HNC.out HNO.out HM1.out HM2.out HBA.out.size ?_; intro v' w4 hown4 hg4 _ _; have HR4 := Lib.hid (HRN.out.push1 HOL.out HTf1.out HEl.out (Nat.le_refl _) HBA.out.size hown4 hg4); have HB4 : Hid (Below wc.heap.size wc w4) := Lib.hid (HBA.out.grown hg4 HBA.out.size (fun k hk => HRN.out.own_ge k hk)); have HOL4 : Hid ((O ++ [t1]).length = m + 1) := Lib.hid (by simp [HOL.out]); obtain ⟨p4, c4, rfl⟩ := HR4.out.shape; rw [HOL4.out] at HR4 ⊢; clear hown4 hg4)
        go_roundw
        case rel => exact ⟨0 + 1, m + 1, _, _, p4, c4, by go_num, by go_num, by omega, by omega, HInv, HOL4, HR4, HB4⟩
        case measure => simp [intOf]; omega
      · obtain ⟨ip, hip⟩ : ∃ ip, i = ip + 1 := ⟨i - 1, by omega⟩
        have hip1 : ip < A.length := by omega
        obtain ⟨t1, x1, p1, m1, c1, hA1, hf1, hC1, hI1⟩ := HEA.out i (by omega)
        have HTf1 := Lib.hid hf1
        have HIt1 := Lib.hid hI1
        have HAt1 := Lib.hid hA1
        obtain ⟨k1, i1, g1, n1, fn1, a1, by1, s1⟩ := x1
        have hC1 := hC1.same (hbl.block ga hla)
        have HC1 := Lib.hid hC1
        obtain ⟨x0, x1, x2, x3, x4, x5, x6, x7, x8⟩ := hC1
        dsimp only at x0 x1 x2 x3 x4 x5 x6 x7 x8
        clear hA1 hf1 hI1
        obtain ⟨t2, x2, p2, m2, c2, hA2, hf2, hC2, hI2⟩ := HEA.out ip (by omega)
        have HTf2 := Lib.hid hf2
        have HIt2 := Lib.hid hI2
        have HAt2 := Lib.hid hA2
        obtain ⟨k2, i2, g2, n2, fn2, a2, by2, s2⟩ := x2
        have hC2 := hC2.same (hbl.block ga hla)
        have HC2 := Lib.hid hC2
        obtain ⟨y0, y1, y2, y3, y4, y5, y6, y7, y8⟩ := hC2
        dsimp only at y0 y1 y2 y3 y4 y5 y6 y7 y8
        clear hA2 hf2 hI2
        clear hbl
        have HCmp := Lib.hid (RCompare wr.drew wc.heap.size _ _ t2 t1 (HB.out.drewN 1).size (HIt2.out.A.below (HB.out.drewN 1) (Nat.le_refl _)) (HIt1.out.A.below (HB.out.drewN 1) (Nat.le_refl _)) (by have := HN1.out ip t2 HAt2.out; have := HN1'.out; omega) (by have := HN1.out i t1 HAt1.out; have := HN1'.out; omega))
        have HZ : Hid (cmpV t1 t2 = - cmpV t2 t1) := Lib.hid ((tpV (n := n)).anti t2 t1)
        have HK := Lib.hid (fun (hz : cmpV t2 t1 ≠ 0) => by
          have := uniqP_keep (c := cmpV) (d := A) (k := ip) (by rw [← hip]; exact HAt1.out) HAt2.out (by rw [HZ.out]; omega)
          rw [show ip + 2 = i + 1 by omega, show ip + 1 = i by omega, HI.out] at this
          exact this)
        have HS := Lib.hid (fun (hz : cmpV t2 t1 = 0) => by
          have := uniqP_skip (c := cmpV) (d := A) (k := ip) (by rw [← hip]; exact HAt1.out) HAt2.out (by rw [HZ.out]; omega)
          rw [show ip + 2 = i + 1 by omega, show ip + 1 = i by omega, HI.out] at this
          exact this)
        rw [HTf1.out, HTf2.out] at HCmp
        clear HZ
        generalize cmpV t2 t1 = z at *
        unfold aggV IPostC at HCmp
        dsimp only at HCmp
        have r0 : (i : Int) - 1 = (ip : Int) := by omega
        have r1 : (i : Int) < (A.length : Int) := by omega
        have r2 : (ip : Int) < (A.length : Int) := by omega
        have r3 : ((i : Int) == 0) = false := by have : ¬ (i : Int) = 0 := by omega
                                                 simpa using this
        have r5 : (0 : Int) ≤ (i : Int) := by omega
        have r6 : (0 : Int) ≤ (ip : Int) := by omega
        have r7 : IntKind.i64.wrap (ip : Int) = (ip : Int) := IntWalk.i64_in _ (by omega)
        have b1 : ip < i := by omega
        clear hip
        by_cases hz : z = 0
        · have q1 : (z != 0) = false := by simp [hz]
          have HInv := Lib.hid (HS.out hz)
          clear HS HK hz
          go_wp2_with fail
          go_region_held3 (fun w' => (w'.cell? ⟨ga, oa + i * 9, none⟩ = some (.int .i64 k1) ∧ w'.cell? ⟨ga, oa + i * 9 + 1, none⟩ = some (.int .i64 i1) ∧ w'.cell? ⟨ga, oa + i * 9 + 1 + 1, none⟩ = some (.int .i64 g1) ∧ w'.cell? ⟨ga, oa + i * 9 + 1 + 1 + 1, none⟩ = some (.string n1) ∧ w'.cell? ⟨ga, oa + i * 9 + 1 + 1 + 1 + 1, none⟩ = some (.string fn1) ∧ w'.cell? ⟨ga, oa + i * 9 + 1 + 1 + 1 + 1 + 1, none⟩ = some (.int .i64 a1) ∧ w'.cell? ⟨ga, oa + i * 9 + 1 + 1 + 1 + 1 + 1 + 1, none⟩ = some (.slice p1 m1 c1) ∧ w'.cell? ⟨ga, oa + i * 9 + 1 + 1 + 1 + 1 + 1 + 1 + 1, none⟩ = some (.string by1) ∧ w'.cell? ⟨ga, oa + i * 9 + 1 + 1 + 1 + 1 + 1 + 1 + 1 + 1, none⟩ = some (.int .i64 s1)) ∧ w'.cell? ⟨ga, oa + ip * 9, none⟩ = some (.int .i64 k2) ∧ w'.cell? ⟨ga, oa + ip * 9 + 1, none⟩ = some (.int .i64 i2) ∧ w'.cell? ⟨ga, oa + ip * 9 + 1 + 1, none⟩ = some (.int .i64 g2) ∧ w'.cell? ⟨ga, oa + ip * 9 + 1 + 1 + 1, none⟩ = some (.string n2) ∧ w'.cell? ⟨ga, oa + ip * 9 + 1 + 1 + 1 + 1, none⟩ = some (.string fn2) ∧ w'.cell? ⟨ga, oa + ip * 9 + 1 + 1 + 1 + 1 + 1, none⟩ = some (.int .i64 a2) ∧ w'.cell? ⟨ga, oa + ip * 9 + 1 + 1 + 1 + 1 + 1 + 1, none⟩ = some (.slice p2 m2 c2) ∧ w'.cell? ⟨ga, oa + ip * 9 + 1 + 1 + 1 + 1 + 1 + 1 + 1, none⟩ = some (.string by2) ∧ w'.cell? ⟨ga, oa + ip * 9 + 1 + 1 + 1 + 1 + 1 + 1 + 1 + 1, none⟩ = some (.int .i64 s2)) (go_keep)
            (first
              | (go_at_call 54; (with_reducible refine HCmp.out.mono ?_); rintro e5 w5 ⟨rfl, hb5⟩; have HA5 := Lib.hid (HC1.out.same (hb5.block ga hgla)); have HB5 := Lib.hid (HC2.out.same (hb5.block ga hgla)); obtain ⟨z0, z1, z2, z3, z4, z5, z6, z7, z8⟩ := HA5.out; obtain ⟨u0, u1, u2, u3, u4, u5, u6, u7, u8⟩ := HB5.out; dsimp only at z0 z1 z2 z3 z4 z5 z6 z7 z8 u0 u1 u2 u3 u4 u5 u6 u7 u8))
          have HRW : Hid (RRowT Z w5 wc.heap.size wc.heap.size (.slice p m c') rs O) := Lib.hid ((HR.out.below (Below.drewN (Below.refl _ _) 1) HB.out.size).below hb5 (HB.out.drewN 1).size)
          have HBW : Hid (Below wc.heap.size wc w5) := Lib.hid ((HB.out.drewN 1).trans (hb5.mono (HB.out.drewN 1).size))
          clear hb5 HCmp HR HB x0 x1 x2 x3 x4 x5 x6 x7 x8 y0 y1 y2 y3 y4 y5 y6 y7 y8 HA5 HB5
          go_wp2_with fail
          go_roundw
          case rel => exact ⟨i + 1, m, O, rs, p, c', rfl, by go_num, by omega, by omega, HInv, HOL, HRW, HBW⟩
          case measure => simp [intOf]; omega
        · have q1 : (z != 0) = true := by simpa using hz
          have HInv := Lib.hid (HK.out hz)
          clear HS HK hz
          go_wp2_with fail
          go_region_held3 (fun w' => (w'.cell? ⟨ga, oa + i * 9, none⟩ = some (.int .i64 k1) ∧ w'.cell? ⟨ga, oa + i * 9 + 1, none⟩ = some (.int .i64 i1) ∧ w'.cell? ⟨ga, oa + i * 9 + 1 + 1, none⟩ = some (.int .i64 g1) ∧ w'.cell? ⟨ga, oa + i * 9 + 1 + 1 + 1, none⟩ = some (.string n1) ∧ w'.cell? ⟨ga, oa + i * 9 + 1 + 1 + 1 + 1, none⟩ = some (.string fn1) ∧ w'.cell? ⟨ga, oa + i * 9 + 1 + 1 + 1 + 1 + 1, none⟩ = some (.int .i64 a1) ∧ w'.cell? ⟨ga, oa + i * 9 + 1 + 1 + 1 + 1 + 1 + 1, none⟩ = some (.slice p1 m1 c1) ∧ w'.cell? ⟨ga, oa + i * 9 + 1 + 1 + 1 + 1 + 1 + 1 + 1, none⟩ = some (.string by1) ∧ w'.cell? ⟨ga, oa + i * 9 + 1 + 1 + 1 + 1 + 1 + 1 + 1 + 1, none⟩ = some (.int .i64 s1)) ∧ w'.cell? ⟨ga, oa + ip * 9, none⟩ = some (.int .i64 k2) ∧ w'.cell? ⟨ga, oa + ip * 9 + 1, none⟩ = some (.int .i64 i2) ∧ w'.cell? ⟨ga, oa + ip * 9 + 1 + 1, none⟩ = some (.int .i64 g2) ∧ w'.cell? ⟨ga, oa + ip * 9 + 1 + 1 + 1, none⟩ = some (.string n2) ∧ w'.cell? ⟨ga, oa + ip * 9 + 1 + 1 + 1 + 1, none⟩ = some (.string fn2) ∧ w'.cell? ⟨ga, oa + ip * 9 + 1 + 1 + 1 + 1 + 1, none⟩ = some (.int .i64 a2) ∧ w'.cell? ⟨ga, oa + ip * 9 + 1 + 1 + 1 + 1 + 1 + 1, none⟩ = some (.slice p2 m2 c2) ∧ w'.cell? ⟨ga, oa + ip * 9 + 1 + 1 + 1 + 1 + 1 + 1 + 1, none⟩ = some (.string by2) ∧ w'.cell? ⟨ga, oa + ip * 9 + 1 + 1 + 1 + 1 + 1 + 1 + 1 + 1, none⟩ = some (.int .i64 s2)) (go_keep)
            (first
              | (go_at_call 54; (with_reducible refine HCmp.out.mono ?_); rintro e5 w5 ⟨rfl, hb5⟩; have HA5 := Lib.hid (HC1.out.same (hb5.block ga hgla)); have HB5 := Lib.hid (HC2.out.same (hb5.block ga hgla)); obtain ⟨z0, z1, z2, z3, z4, z5, z6, z7, z8⟩ := HA5.out; obtain ⟨u0, u1, u2, u3, u4, u5, u6, u7, u8⟩ := HB5.out; dsimp only at z0 z1 z2 z3 z4 z5 z6 z7 z8 u0 u1 u2 u3 u4 u5 u6 u7 u8))
          have HRW : Hid (RRowT Z w5 wc.heap.size wc.heap.size (.slice p m c') rs O) := Lib.hid ((HR.out.below (Below.drewN (Below.refl _ _) 1) HB.out.size).below hb5 (HB.out.drewN 1).size)
          have HBW : Hid (Below wc.heap.size wc w5) := Lib.hid ((HB.out.drewN 1).trans (hb5.mono (HB.out.drewN 1).size))
          clear hb5 HCmp HR HB x0 x1 x2 x3 x4 x5 x6 x7 x8 y0 y1 y2 y3 y4 y5 y6 y7 y8 HA5 HB5
          have HRN := Lib.hid (HRW.out.below ((Below.refl _ w5).alloc (Nat.le_refl _) (cells9 ⟨k1, i1, g1, n1, fn1, a1, by1, s1⟩ (.slice p1 m1 c1))) HBW.out.size)
          have HM1 : Hid (m + 1 ≤ maxLen) := Lib.hid (by unfold maxLen; omega)
          have HM2 : Hid ((m + 1) * 112 ≤ 140737488355328) := Lib.hid (by omega)
          have HNC := Lib.hid (nine_cell w5 ⟨k1, i1, g1, n1, fn1, a1, by1, s1⟩ (.slice p1 m1 c1))
          have HNO := Lib.hid (nine_one ⟨k1, i1, g1, n1, fn1, a1, by1, s1⟩ p1 m1 c1)
          have HBA : Hid (Below wc.heap.size wc (w5.alloc (cells9 ⟨k1, i1, g1, n1, fn1, a1, by1, s1⟩ (.slice p1 m1 c1)))) := Lib.hid (HBW.out.alloc HBW.out.size _)
          have HEl := Lib.hid (HIt1.out.below HBA.out (Nat.le_refl _))
          have HOwn := Lib.hid HRN.out.1
          rw [HOL.out] at HOwn
          unfold cells9 at HRN HNC HEl HBA HOwn
          dsimp only at HRN HNC HEl HBA HOwn
          go_wp2_with (at_builtin; refine wpList_append_own_at _ rfl (.tmp 29) (.tmp 34) 22 rfl wc.heap.size 24 i0 (.agg #[.int .i64 0, .int .i64 0, .int .i64 0, .string ⟨#[]⟩, .string ⟨#[]⟩, .int .i64 0, .slice none 0 0, .string ⟨#[]⟩, .int .i64 0]) 9 112 Tryz.underlying22 hi0 hz0 hz1 hz2 rfl (by decide) (.slice p m c') m (flatR rs) rfl HOwn.out ⟨w5.heap.size, 0, none⟩ 1 1 (nineL ⟨k1, i1, g1, n1, fn1, a1, by1, s1⟩ (.slice p1 m1 c1)) rfl rfl HNC.out HNO.out HM1.out HM2.out HBA.out.size ?_; intro v' w4 hown4 hg4 _ _; have HR4 := Lib.hid (HRN.out.push1 HOL.out HTf1.out HEl.out (Nat.le_refl _) HBA.out.size hown4 hg4); have HB4 : Hid (Below wc.heap.size wc w4) := Lib.hid (HBA.out.grown hg4 HBA.out.size (fun k hk => HRN.out.own_ge k hk)); have HOL4 : Hid ((O ++ [t1]).length = m + 1) := Lib.hid (by simp [HOL.out]); obtain ⟨p4, c4, rfl⟩ := HR4.out.shape; rw [HOL4.out] at HR4 ⊢; clear hown4 hg4)
          go_roundw
          case rel => exact ⟨i + 1, m + 1, _, _, p4, c4, by go_num, by go_num, by omega, by omega, HInv, HOL4, HR4, HB4⟩
          case measure => simp [intOf]; omega
    · obtain rfl : i = A.length := by omega
      have HE : Hid (O = T) := Lib.hid (by rw [HU.out, HI.out])
      have HItm := Lib.hid (HR.out.items HB.out.size)
      have HBF := Lib.hid (HBW0.out.trans (HB.out.mono HBW0.out.size))
      go_wp2_with fail
      go_ret
      exact ⟨p, c', by rw [← HE.out, HOL.out]; rfl, by rw [← HE.out, HOL.out]; exact HItm.out, HBF.out⟩
end Go.Proofs.YtfbggmbmgohiiaaGreat.tmt
/- TablesLast: the calls of the law. Conditions: the object lies in memory. -/
namespace Go.Proofs.YtfbggmbmgohiiaaGreat.tb
open Go.RowKit mem rec tm names
set_option linter.unusedVariables false
set_option linter.unusedSimpArgs false
set_option maxHeartbeats 1000000
set_option maxRecDepth 100000
/-- the object as it lies in a law's walk, and what the walk has touched -/
structure LSt {N : Nat} (w : World) (z : Nat) (A : List (TabA N)) (W : World) : Prop where
  st : StG w.heap.size z A W
  tt : TT progT w.heap.size w W
section
variable {N : Nat} {w W W' : World} {z : Nat} {A A' : List (TabA N)}
theorem LSt.below (h : LSt w z A W) (hb : Below W.heap.size W W') : LSt w z A W' := ⟨h.st.below hb, h.tt.ofBelow hb⟩
theorem LSt.base (h : LSt w z A W) : Below w.heap.size w W := h.tt.below (Nat.le_refl _)
theorem LSt.size (h : LSt w z A W) : w.heap.size ≤ W.heap.size := h.base.size
theorem l_new (hb : Below w.heap.size w W) : Calls Tryz.prog 16 #[] W fun e w' => ∃ z, e = .returned (.pointer (some ⟨z, 0, none⟩)) ∧ LSt (N := N) w z [] w' := by
  refine (new16 (N := N) W w.heap.size hb.size).mono ?_
  rintro e w' ⟨rfl, h1, h2⟩
  exact ⟨_, rfl, ⟨_, nilV, [], h1, rfl, fun t ht => (nomatch ht)⟩, (TT.new hb).ofBelow h2⟩
theorem l_make (h : LSt w z A W) (hs : SmA A) (r o : TF) (hf : Bool) {e0 : Int} {A' : List (TabA N)} (h1 : makeE A (Tm.mk r []) (Tm.mk o []) = e0) (h2 : makeA A (Tm.mk r []) (Tm.mk o []) hf = A') :
    Calls Tryz.prog 17 #[.pointer (some ⟨z, 0, none⟩), aggV r nilV, aggV o nilV, .bool hf] W fun e w' => e = .returned (.int .i64 e0) ∧ LSt w z A' w' := by
  subst h1 h2
  refine (g_make h.st hs h.size (B2 := 0) (Nat.zero_le _) (r := Tm.mk r []) (o := Tm.mk o []) (flat_items W 0) (flat_items W 0) (flat_nodesN r) (flat_nodesN o) hf).mono ?_
  rintro e w' ⟨rfl, h3, h4⟩
  exact ⟨rfl, h3, h.tt.trans h4⟩
theorem l_size (h : LSt w z A W) (hs : SmA A) (r : TF) {n0 e0 : Int} (h1 : sizeX A (Tm.mk r []) = (n0, e0)) :
    Calls Tryz.prog 31 #[.pointer (some ⟨z, 0, none⟩), aggV r nilV] W fun e w' => e = .returned (.tuple #[.int .i64 n0, .int .i64 e0]) ∧ Below W.heap.size W w' := by
  have := g_size h.st hs (B2 := 0) (Nat.zero_le _) (r := Tm.mk r []) (ur := nilV) (flat_items W 0)
  rw [h1] at this
  exact this
/-- what lies below, or in blocks of terms, stays -/
theorem items_tt {B n : Nat} {v : Value} {l : List (Tm n)} (h : tmt.ItemsT w.heap.size W B n v l) (hw : Below w.heap.size w W) (hB : B ≤ W.heap.size) (ht : TT progT w.heap.size W W') : tmt.ItemsT w.heap.size W' W'.heap.size n v l := by
  refine (h.keep fun g hg hg2 => ?_).more (Nat.le_trans hB ht.size)
  rcases hg2 with hg2 | ⟨c, f, e⟩
  · exact (ht.below hw.size).block g hg2
  · exact ht.keep (by omega) (fun t ht' hT => by
      rw [tyOf_of e] at ht'
      obtain rfl := Option.some.inj ht'
      rcases hT with hT | hT | hT | hT <;> exact absurd hT (by decide))
variable {hs : Bool} {l : List (Tm (N + 1))} {R : List (Tm (N + 1) × Tm (N + 1))} {U : List (Tm (N + 1))}
theorem rowsD_len : ∀ i, (rowsD hs R U i).length ≤ R.length
  | 0 => Nat.le_refl _
  | i + 1 => by
    have := rowsD_len i
    show (match U[i]? with | none => _ | some k => _ : List _).length ≤ _
    split
    · exact this
    · rw [delR_len]
      split <;> omega
theorem l_put {i : Nat} (h : LSt w z (two hs (rowsI hs l i)) W) (hi : i < l.length) (h100 : l.length ≤ 100) (hv : ∀ j, j < i → ∀ x, l[j]? = some x → validT x = true) {t : Tm (N + 1)} (ht : l[i]? = some t) (hvi : validT t = true) {u : Value} (hI : ItemsAt W w.heap.size N u t.items) (hn : nodesT t ≤ 100000000) :
    Calls Tryz.prog 24 #[.pointer (some ⟨z, 0, none⟩), aggV (refT (N := N) 1).f nilV, aggV t.f u, aggV (intT (N := N) (i : Int)).f nilV] W fun e w' => e = .returned (.int .i64 0) ∧ LSt w z (two hs (rowsI hs l (i + 1))) w' := by
  obtain ⟨h1, h2, _⟩ := rows_good (hs := hs) i (by omega) hv
  have e2 : rowsI hs l (i + 1) = putR (cmpH hs) (rowsI hs l i) t (intT i) := by
    rw [rowsI_succ hi]
    rw [List.getElem?_eq_getElem hi] at ht
    rw [Option.some.inj ht]
  refine (g_put h.st (two_sm (by omega)) h.size (B2 := w.heap.size) (Nat.le_refl _) (r := refT 1) (v := intT (i : Int)) (flat_items W _) hI (flat_items W _) hn (flat_nodesN _)).mono ?_
  rintro e w' ⟨rfl, h3, h4⟩
  rw [two_putE hvi (int_validN _)]
  rw [two_putA hvi (int_validN _), ← e2] at h3
  exact ⟨rfl, h3, h.tt.trans h4⟩
theorem l_last (h : LSt w z (two hs (rowsI hs l l.length)) W) (h100 : l.length ≤ 100) (hv : ∀ x ∈ l, validT x = true) {t : Tm (N + 1)} (ht : t ∈ l) {j : Nat} (hj : lastF l t l.length = some j) {u : Value} (hI : ItemsAt W W.heap.size N u t.items) (hn : nodesT t ≤ 100000000) :
    Calls Tryz.prog 32 #[.pointer (some ⟨z, 0, none⟩), aggV (refT (N := N) 1).f nilV, aggV t.f u] W fun e w' => ∃ x, e = .returned (.tuple #[.agg #[.int .i64 1, .int .i64 j, .int .i64 0, .string ⟨#[]⟩, .string ⟨#[]⟩, .int .i64 0, x, .string ⟨#[]⟩, .int .i64 0], .bool true, .int .i64 0]) ∧ x.oneCell' = true ∧ Below W.heap.size W w' := by
  obtain ⟨h1, h2, h3⟩ := rows_good (hs := hs) (l := l) l.length (Nat.le_refl _) (all_pre hv _)
  refine (g_get h.st (two_sm (by omega)) (B2 := W.heap.size) (Nat.le_refl _) (r := refT 1) (ur := nilV) (flat_items W _) hI hn).mono ?_
  rintro e w' ⟨F1, x, rfl, hb, hN⟩
  have e1 : getX (two hs (rowsI hs l l.length)) (refT 1) t = (intT (j : Int), true, 0) := by
    rw [two_get (hv t ht), h3, hj]
    rfl
  rw [e1] at hN ⊢
  exact ⟨x, rfl, in_one hN.items, hb⟩
theorem l_del {i : Nat} (h : LSt w z (two hs (rowsD hs (rowsI hs l l.length) (uniqL (sortL l)) i)) W) (h100 : l.length ≤ 100) (hv : ∀ x ∈ l, validT x = true) {t : Tm (N + 1)} (ht : (uniqL (sortL l))[i]? = some t) {u : Value} (hI : ItemsAt W W.heap.size N u t.items) (hn : nodesT t ≤ 100000000) :
    Calls Tryz.prog 22 #[.pointer (some ⟨z, 0, none⟩), aggV (refT (N := N) 1).f nilV, aggV t.f u] W fun e w' => e = .returned (.tuple #[.bool true, .int .i64 0]) ∧ LSt w z (two hs (rowsD hs (rowsI hs l l.length) (uniqL (sortL l)) (i + 1))) w' ∧ TT progT w.heap.size W w' := by
  obtain ⟨hi, rfl⟩ := List.getElem?_eq_some_iff.1 ht
  obtain ⟨h1, h2, h3⟩ := rows_good (hs := hs) (l := l) l.length (Nat.le_refl _) (all_pre hv _)
  obtain ⟨k1, k2, k3, k4⟩ := last_loop (hs := hs) hv hi
  have hl := rowsD_len (hs := hs) (R := rowsI hs l l.length) (U := uniqL (sortL l)) i
  refine (g_del h.st (two_sm (by omega)) (B2 := W.heap.size) (Nat.le_refl _) (r := refT 1) (ur := nilV) (flat_items W _) hI hn).mono ?_
  rintro e w' ⟨rfl, h4, h5⟩
  rw [two_delX k4, k1]
  rw [two_delA k4, ← rowsD_succ hi] at h4
  exact ⟨rfl, ⟨h4, h.tt.trans h5⟩, h5⟩
theorem l_gone {i : Nat} (h : LSt w z (two hs (rowsD hs (rowsI hs l l.length) (uniqL (sortL l)) (i + 1))) W) (h100 : l.length ≤ 100) (hv : ∀ x ∈ l, validT x = true) {t : Tm (N + 1)} (ht : (uniqL (sortL l))[i]? = some t) {u : Value} (hI : ItemsAt W W.heap.size N u t.items) (hn : nodesT t ≤ 100000000) :
    Calls Tryz.prog 32 #[.pointer (some ⟨z, 0, none⟩), aggV (refT (N := N) 1).f nilV, aggV t.f u] W fun e w' => ∃ x, e = .returned (.tuple #[.agg #[.int .i64 0, .int .i64 0, .int .i64 0, .string ⟨#[]⟩, .string ⟨#[]⟩, .int .i64 0, x, .string ⟨#[]⟩, .int .i64 0], .bool false, .int .i64 0]) ∧ x.oneCell' = true ∧ Below W.heap.size W w' := by
  obtain ⟨hi, rfl⟩ := List.getElem?_eq_some_iff.1 ht
  obtain ⟨h1, h2, h3⟩ := rows_good (hs := hs) (l := l) l.length (Nat.le_refl _) (all_pre hv _)
  obtain ⟨k1, k2, k3, k4⟩ := last_loop (hs := hs) hv hi
  have hl := rowsD_len (hs := hs) (R := rowsI hs l l.length) (U := uniqL (sortL l)) (i + 1)
  refine (g_get h.st (two_sm (by omega)) (B2 := W.heap.size) (Nat.le_refl _) (r := refT 1) (ur := nilV) (flat_items W _) hI hn).mono ?_
  rintro e w' ⟨F1, x, rfl, hb, hN⟩
  have e1 : getX (two hs (rowsD hs (rowsI hs l l.length) (uniqL (sortL l)) (i + 1))) (refT 1) (uniqL (sortL l))[i] = (zT, false, 0) := by
    rw [two_get k4, k2]
  rw [e1] at hN ⊢
  exact ⟨x, rfl, in_one hN.items, hb⟩
theorem l_left {i : Nat} (h : LSt w z (two hs (rowsD hs (rowsI hs l l.length) (uniqL (sortL l)) (i + 1))) W) (h100 : l.length ≤ 100) (hv : ∀ x ∈ l, validT x = true) (hi : i < (uniqL (sortL l)).length) :
    Calls Tryz.prog 31 #[.pointer (some ⟨z, 0, none⟩), aggV (refT (N := N) 1).f nilV] W fun e w' => e = .returned (.tuple #[.int .i64 (((uniqL (sortL l)).length : Int) - 1 - (i : Int)), .int .i64 0]) ∧ Below W.heap.size W w' := by
  obtain ⟨h1, h2, h3⟩ := rows_good (hs := hs) (l := l) l.length (Nat.le_refl _) (all_pre hv _)
  obtain ⟨k1, k2, k3, k4⟩ := last_loop (hs := hs) hv hi
  have hl := rowsD_len (hs := hs) (R := rowsI hs l l.length) (U := uniqL (sortL l)) (i + 1)
  refine l_size h (two_sm (by omega)) (refT (N := N) 1).f ?_
  have e := two_size1 (N := N) (hs := hs) (R := rowsD hs (rowsI hs l l.length) (uniqL (sortL l)) (i + 1))
  refine e.trans ?_
  rw [k3]
  congr 1
  omega
theorem l_size1 (h : LSt w z (two hs (rowsI hs l l.length)) W) (h100 : l.length ≤ 100) (hv : ∀ x ∈ l, validT x = true) :
    Calls Tryz.prog 31 #[.pointer (some ⟨z, 0, none⟩), aggV (refT (N := N) 1).f nilV] W fun e w' => e = .returned (.tuple #[.int .i64 (uniqL (sortL l)).length, .int .i64 0]) ∧ Below W.heap.size W w' := by
  obtain ⟨h1, h2, h3⟩ := rows_good (hs := hs) (l := l) l.length (Nat.le_refl _) (all_pre hv _)
  refine l_size h (two_sm (by omega)) (refT (N := N) 1).f ?_
  exact two_size1.trans (by rw [last_len hv])
theorem l_size2 (h : LSt w z (two hs (rowsI hs l l.length)) W) (h100 : l.length ≤ 100) (hv : ∀ x ∈ l, validT x = true) :
    Calls Tryz.prog 31 #[.pointer (some ⟨z, 0, none⟩), aggV (refT (N := N) 2).f nilV] W fun e w' => e = .returned (.tuple #[.int .i64 0, .int .i64 0]) ∧ Below W.heap.size W w' := by
  obtain ⟨h1, h2, h3⟩ := rows_good (hs := hs) (l := l) l.length (Nat.le_refl _) (all_pre hv _)
  exact l_size h (two_sm (by omega)) (refT (N := N) 2).f two_size2
theorem l_make1 (h : LSt (N := N) w z [] W) (hs : Bool) : Calls Tryz.prog 17 #[.pointer (some ⟨z, 0, none⟩), aggV (refT (N := N) 1).f nilV, aggV (pidT (N := N) 1).f nilV, .bool hs] W fun e w' => e = .returned (.int .i64 0) ∧ LSt (N := N) w z [⟨refT 1, pidT 1, hs, []⟩] w' :=
  l_make h ⟨by simp, fun a ha => (nomatch ha)⟩ _ _ hs two_make1 (two_make1A hs)
theorem l_make2 (h : LSt (N := N) w z [⟨refT 1, pidT 1, hs, []⟩] W) : Calls Tryz.prog 17 #[.pointer (some ⟨z, 0, none⟩), aggV (refT (N := N) 2).f nilV, aggV (pidT (N := N) 1).f nilV, .bool (!hs)] W fun e w' => e = .returned (.int .i64 0) ∧ LSt (N := N) w z (two hs (rowsI hs l 0)) w' :=
  l_make h ⟨by simp, fun a ha => by obtain rfl := List.mem_singleton.1 ha; simp⟩ _ _ (!hs) two_make2 two_make2A
end
end Go.Proofs.YtfbggmbmgohiiaaGreat.tb

/- What the laws of the chapter share: the bound of Great, two terms in a row, what was lent. Conditions: as said. -/
namespace Go.Proofs.YtfbggmbmgohiiaaGreat.tm
open Go.RowKit mem names
set_option linter.unusedVariables false
set_option linter.unusedSimpArgs false
set_option maxHeartbeats 1000000
set_option maxRecDepth 100000

theorem left_nodes : ∀ (n : Nat) (l : List (Tm n)) (m : Int), 0 ≤ leftS n l m → (nodesL n l : Int) ≤ m - leftS n l m := by
  intro n
  induction n with
  | zero => intro l m h; rw [Tm.nil0 l] at *; simp [nodesL, leftS]
  | succ n ih =>
    intro l
    induction l with
    | nil => intro m h; simp [nodesL, leftS]
    | cons t l ihl =>
      intro m h
      rw [nodesL_cons]
      have e : leftS (n + 1) (t :: l) m = leftS (n + 1) l (leftStep (leftS n) m t) := rfl
      rw [e] at h ⊢
      by_cases h0 : leftStep (leftS n) m t < 0
      · have := fold_neg (leftS n) _ h0 l
        have e2 : leftS (n + 1) l (leftStep (leftS n) m t) = leftStep (leftS n) m t := this
        rw [e2] at h; omega
      · have k1 := ihl _ h
        have k2 : (nodesT t : Int) ≤ m - leftStep (leftS n) m t := by
          unfold leftStep at h0 ⊢
          by_cases hm : m < 0
          · rw [if_pos hm] at h0; omega
          · rw [if_neg hm] at h0 ⊢
            by_cases hb : leftB t.f m
            · rw [if_pos hb] at h0; omega
            · rw [if_neg hb] at h0 ⊢
              have k3 := ih t.items (leftN t.f m) (by omega)
              have k4 := leftN_bd t.f m (by omega) hb
              unfold nodesT
              omega
        omega
theorem great_nodes {n : Nat} {l : List (Tm n)} {m : Int} (h : greatS n l m = false) : (nodesL n l : Int) ≤ m := by
  unfold greatS at h
  have h' := of_decide_eq_false h
  have := left_nodes n l m (by omega)
  omega
/-- a lent term as it lies -/
def LentW (W : World) (B n : Nat) (v0 v : Value) (l : List (Tm n)) : Prop := ∃ F : Nat → Prop, (∀ g, F g → g < W.heap.size) ∧ LentIn W B F n v0 v l ∧ B ≤ W.heap.size
theorem LentW.below {W W' : World} {B n : Nat} {v0 v : Value} {l : List (Tm n)} (h : LentW W B n v0 v l) (hb : Below W.heap.size W W') : LentW W' B n v0 v l := by
  obtain ⟨F, h1, h2, h3⟩ := h
  exact ⟨F, fun g hg => Nat.lt_of_lt_of_le (h1 g hg) hb.size, h2.mono (fun g hg => hb.block g (h1 g hg)) (fun g hg => hb.block g (by omega)) (fun _ h => h), Nat.le_trans h3 hb.size⟩
theorem LentW.of {w w' : World} {B : Nat} {F : Nat → Prop} {n : Nat} {v0 v : Value} {l : List (Tm n)} (h : LentNew w w' B F n v0 v l) (hB : B ≤ w.heap.size) : LentW w' B n v0 v l :=
  ⟨F, fun g hg => (h.inr g hg).2, h.items, Nat.le_trans hB h.below.size⟩
theorem LentW.items {W : World} {B n : Nat} {v0 v : Value} {l : List (Tm n)} (h : LentW W B n v0 v l) : ItemsAt W W.heap.size n v l := by
  obtain ⟨F, h1, h2, h3⟩ := h
  exact h2.toIn.toAt h1
end Go.Proofs.YtfbggmbmgohiiaaGreat.tm
/- TablesLast: the walk. Conditions: the terms lie in memory. -/
namespace Go.Proofs.YtfbggmbmgohiiaaGreat.tb
open Go.RowKit mem rec tm names
set_option linter.unusedVariables false
set_option linter.unusedSimpArgs false
set_option maxHeartbeats 4000000
set_option maxRecDepth 100000
def La1 {N : Nat} (w : World) (z : Nat) (hs : Bool) (l : List (Tm (N + 1))) (mm : Nat) (iv : Value) (wr : World) : Prop := ∃ i : Nat, iv = .int .i64 (i : Int) ∧ i ≤ l.length ∧ mm = l.length - i ∧ LSt w z (two hs (rowsI hs l i)) wr ∧ ∀ j, j < i → ∀ x, l[j]? = some x → validT x = true
def La2 {N : Nat} (w : World) (z : Nat) (hs : Bool) (l : List (Tm (N + 1))) (U : List (Tm (N + 1))) (uv : Value) (mm : Nat) (iv : Value) (wr : World) : Prop := ∃ i : Nat, iv = .int .i64 (i : Int) ∧ i ≤ l.length ∧ mm = l.length - i ∧ LSt w z (two hs (rowsI hs l l.length)) wr ∧ tmt.ItemsT w.heap.size wr wr.heap.size (N + 1) uv U
def La3 {N : Nat} (wo : World) (l : List (Tm (N + 1))) (t : Tm (N + 1)) (i : Nat) (mm : Nat) (lv kv : Value) (wr : World) : Prop := ∃ la k : Nat, lv = .int .i64 (la : Int) ∧ kv = .int .i64 (k : Int) ∧ i ≤ k ∧ k ≤ l.length ∧ mm = l.length - k ∧ lastF l t (if i = k then i + 1 else k) = some la ∧ Below wo.heap.size wo wr
def La4 {N : Nat} (w : World) (z : Nat) (hs : Bool) (l : List (Tm (N + 1))) (U : List (Tm (N + 1))) (uv : Value) (mm : Nat) (iv : Value) (wr : World) : Prop := ∃ i : Nat, iv = .int .i64 (i : Int) ∧ i ≤ U.length ∧ mm = U.length - i ∧ LSt w z (two hs (rowsD hs (rowsI hs l l.length) U i)) wr ∧ tmt.ItemsT w.heap.size wr wr.heap.size (N + 1) uv U
theorem lastF_step {N : Nat} {l : List (Tm (N + 1))} {t y : Tm (N + 1)} {i k la : Nat} (hik : i ≤ k) (hi : l[i]? = some t) (hk : l[k]? = some y) (h : lastF l t (if i = k then i + 1 else k) = some la) : lastF l t (if i = k + 1 then i + 1 else k + 1) = some (if eqB t y then k else la) := by
  rw [if_neg (by omega)]
  have e : lastF l t (k + 1) = if eqB y t then some k else lastF l t k := by
    show (if (l[k]?).elim false (fun x => eqB x t) then some k else lastF l t k) = _
    rw [hk]; rfl
  by_cases hq : t = y
  · subst hq
    rw [e, eqB_t rfl, if_pos rfl, if_pos rfl]
  · rw [eqB_f hq, if_neg (by decide), e, eqB_f (Ne.symm hq), if_neg (by decide)]
    have hne : ¬ i = k := fun e => by subst e; rw [hi] at hk; exact hq (Option.some.inj hk)
    rwa [if_neg hne] at h
theorem lastF_zero {N : Nat} {l : List (Tm (N + 1))} {t : Tm (N + 1)} {i : Nat} (hi : l[i]? = some t) : lastF l t (if i = i then i + 1 else i) = some i := by
  rw [if_pos rfl]
  show (if (l[i]?).elim false (fun x => eqB x t) then some i else lastF l t i) = _
  rw [hi]
  show (if eqB t t = true then _ else _) = _
  rw [eqB_t rfl, if_pos rfl]
theorem eltR {N : Nat} {w : World} {B g o c : Nat} {l : List (Tm (N + 1))} (h : ItemsAt w B (N + 1) (.slice (some ⟨g, o, none⟩) l.length c) l) (hg : g < w.heap.size) {i : Nat} (hi : i < l.length) :
    ∃ t x q m d, l[i]? = some t ∧ t.f = x ∧ ItemsAt w B N (.slice q m d) t.items ∧ ∀ W, Below w.heap.size w W → W.rangeAt g (o + i * 9) (nineL x (.slice q m d)) := by
  obtain ⟨t, x, q, m, d, h1, h2, h3, h4⟩ := h.elt i hi
  exact ⟨t, x, q, m, d, h1, h2, h4, fun W hW => rng_same (cells_rng h3) (hW.block g hg)⟩
theorem alloc_of {X W : World} (hb : Below X.heap.size X W) (O : Obj) : Below X.heap.size X (W.alloc O) ∧ (W.alloc O).heap[W.heap.size]? = some O ∧ X.heap.size ≤ W.heap.size := ⟨belowA hb O hb.size, alloc_new W O, hb.size⟩
theorem setRow_of {X W : World} {g : Nat} (hb : Below X.heap.size X W) (hg : X.heap.size ≤ g) (C : Array Value) : Below X.heap.size X (W.setRow g C) := hb.trans ((touch_setRow W g C).below (fun q e => by omega) hb.size)
theorem rng_tt {N : Nat} {w W W' : World} {B g o c : Nat} {l : List (Tm (N + 1))} (h : tmt.ItemsT w.heap.size W B (N + 1) (.slice (some ⟨g, o, none⟩) l.length c) l) (hl : 0 < l.length) (hw : Below w.heap.size w W) (hB : B ≤ W.heap.size) (ht : TT progT w.heap.size W W') : W'.heap[g]? = W.heap[g]? := by
  obtain ⟨p, c', e, _, _, h3⟩ := h
  simp only [Value.slice.injEq, true_and] at e
  obtain ⟨rfl, rfl⟩ := e
  obtain ⟨g', o', e, hg, _⟩ := h3 (fun e => by subst e; simp at hl)
  simp only [Option.some.injEq, Addr.mk.injEq, and_true] at e
  obtain ⟨rfl, rfl⟩ := e
  rcases hg.2 with hg2 | ⟨cc, f, e⟩
  · exact (ht.below hw.size).block g hg2
  · exact ht.keep (by have := hg.1; omega) (fun t ht' hT => by
      rw [tyOf_of e] at ht'
      obtain rfl := Option.some.inj ht'
      rcases hT with hT | hT | hT | hT <;> exact absurd hT (by decide))
theorem lawLast {N : Nat} (w : World) (v : Value) (l : List (Tm (N + 1))) (hs : Bool) (I : ItemsAt w w.heap.size (N + 1) v l) : Calls Tryz.prog 5 #[v, .bool hs] w (BPost true w) := by
  have HSh := Lib.hid (fun W => shown9 W)
  have HGr := Lib.hid (fun (W : World) (hW : Below w.heap.size w W) => Great W w.heap.size v l 6000 hW.size (by decide) (by decide) (I.below hW (Nat.le_refl _)))
  have HNd := Lib.hid (fun (h : greatS (N + 1) l 6000 = false) => great_nodes h)
  have HUq := Lib.hid (fun (hn : nodesL (N + 1) l ≤ 6000) (W : World) (hW : Below w.heap.size w W) => tmt.RUniqueT (Z := w.heap.size) W w.heap.size v l hW.size (tmt.ItemsT.of (I.below hW (Nat.le_refl _))) (by omega))
  have HI := Lib.hid I
  obtain ⟨RV, hRV⟩ : ∃ x, aggV (refT (N := N) 1).f nilV = x := ⟨_, rfl⟩
  obtain ⟨R2, hR2⟩ : ∃ x, aggV (refT (N := N) 2).f nilV = x := ⟨_, rfl⟩
  obtain ⟨PV, hPV⟩ : ∃ x, aggV (pidT (N := N) 1).f nilV = x := ⟨_, rfl⟩
  have HRf1 : Hid (∀ W, Calls Tryz.prog 18 #[.int .i64 1] W (fun e w' => e = .returned RV ∧ Below W.heap.size W w')) := Lib.hid (fun W => by rw [← hRV]; exact ref18 (N := N) 1 W)
  have HRf2 : Hid (∀ W, Calls Tryz.prog 18 #[.int .i64 2] W (fun e w' => e = .returned R2 ∧ Below W.heap.size W w')) := Lib.hid (fun W => by rw [← hR2]; exact ref18 (N := N) 2 W)
  have HPd : Hid (∀ W, Calls Tryz.prog 19 #[.int .i64 1] W (fun e w' => e = .returned PV ∧ Below W.heap.size W w')) := Lib.hid (fun W => by rw [← hPV]; exact pid19 (N := N) 1 W)
  have HNw := Lib.hid (fun (W : World) (hW : Below w.heap.size w W) => l_new (N := N) hW)
  have HMk1 := Lib.hid (fun (z : Nat) (W : World) (h : LSt (N := N) w z [] W) => l_make1 h hs)
  have HMk2 := Lib.hid (fun (z : Nat) (W : World) (h : LSt (N := N) w z [⟨refT 1, pidT 1, hs, []⟩] W) => l_make2 (l := l) h)
  have HPut := Lib.hid (fun (h100 : l.length ≤ 100) (z : Nat) (W : World) (i : Nat) (h : LSt w z (two hs (rowsI hs l i)) W) (hi : i < l.length) hv t ht hvi u hI hn => l_put h hi h100 hv (t := t) ht hvi (u := u) hI hn)
  have HLast := Lib.hid (fun (h100 : l.length ≤ 100) (hv : ∀ x ∈ l, validT x = true) (z : Nat) (W : World) (h : LSt w z (two hs (rowsI hs l l.length)) W) t ht j hj u hI hn => l_last h h100 hv (t := t) ht (j := j) hj (u := u) hI hn)
  have HDel := Lib.hid (fun (h100 : l.length ≤ 100) (hv : ∀ x ∈ l, validT x = true) (z : Nat) (W : World) (i : Nat) (h : LSt w z (two hs (rowsD hs (rowsI hs l l.length) (uniqL (sortL l)) i)) W) t ht u hI hn => l_del h h100 hv (t := t) ht (u := u) hI hn)
  have HGone := Lib.hid (fun (h100 : l.length ≤ 100) (hv : ∀ x ∈ l, validT x = true) (z : Nat) (W : World) (i : Nat) (h : LSt w z (two hs (rowsD hs (rowsI hs l l.length) (uniqL (sortL l)) (i + 1))) W) t ht u hI hn => l_gone h h100 hv (t := t) ht (u := u) hI hn)
  have HLeft := Lib.hid (fun (h100 : l.length ≤ 100) (hv : ∀ x ∈ l, validT x = true) (z : Nat) (W : World) (i : Nat) (h : LSt w z (two hs (rowsD hs (rowsI hs l l.length) (uniqL (sortL l)) (i + 1))) W) hi => l_left h h100 hv hi)
  have HSz1 := Lib.hid (fun (h100 : l.length ≤ 100) (hv : ∀ x ∈ l, validT x = true) (z : Nat) (W : World) (h : LSt w z (two hs (rowsI hs l l.length)) W) => l_size1 h h100 hv)
  have HSz2 := Lib.hid (fun (h100 : l.length ≤ 100) (hv : ∀ x ∈ l, validT x = true) (z : Nat) (W : World) (h : LSt w z (two hs (rowsI hs l l.length)) W) => l_size2 h h100 hv)
  rw [hRV] at HMk1 HPut HLast HDel HGone HLeft HSz1
  rw [hR2] at HMk2 HSz2
  rw [hPV] at HMk1 HMk2
  clear hRV hR2 hPV
  obtain ⟨p0, c0, rfl, _, _⟩ := I.shape
  clear I
  have hsz9 : (Tryz.prog.info? 24).map (·.size) = some 9 := by kernel_rfl
  unfold BPost at HSh HGr ⊢
  unfold tmt.RPostT at HUq
  go_enter Tryz.func5, Tryz.ntmps5
  go_wp2_with fail
  refine (HSh.out w).mono ?_
  rintro e w1 ⟨rfl, hb1⟩
  have HB1 := Lib.hid hb1
  clear hb1 HSh
  by_cases h100 : l.length ≤ 100
  rotate_left
  · have q0 : (100 : Int) < (l.length : Int) := by omega
    have q1 : decide ((100 : Int) < (l.length : Int)) = true := decide_eq_true q0
    go_wp2_with fail
    go_ret
    exact ⟨rfl, HB1.out⟩
  have H100 := Lib.hid h100
  have q0 : ¬ (100 : Int) < (l.length : Int) := by omega
  have q1 : decide ((100 : Int) < (l.length : Int)) = false := decide_eq_false q0
  have HGW := Lib.hid (HGr.out w1 HB1.out)
  obtain ⟨G, hG⟩ : ∃ G, greatS (N + 1) l 6000 = G := ⟨_, rfl⟩
  rw [hG] at HGW HNd
  clear hG
  go_wp2_with fail
  refine HGW.out.mono ?_
  rintro e w2 ⟨rfl, hb2⟩
  have HB2 := Lib.hid (HB1.out.trans (hb2.mono HB1.out.size))
  clear hb2 HGW HB1 HGr
  cases G
  rotate_left
  · go_wp2_with fail
    go_ret
    exact ⟨rfl, HB2.out⟩
  have HN : Hid (nodesL (N + 1) l ≤ 6000) := Lib.hid (by have := HNd.out rfl; omega)
  have HNw2 := Lib.hid (HNw.out _ HB2.out)
  clear HNd HNw q0 q1
  go_wp2_with fail
  refine HNw2.out.mono ?_
  rintro e w3 ⟨z, rfl, hSt⟩
  clear HNw2 HB2
  go_wp2_with fail
  refine (HRf1.out _).mono ?_
  rintro e w4 ⟨rfl, hb⟩
  replace hSt := hSt.below hb
  clear hb
  go_wp2_with fail
  refine (HPd.out _).mono ?_
  rintro e w5 ⟨rfl, hb⟩
  replace hSt := hSt.below hb
  clear hb
  go_wp2_with fail
  refine (HMk1.out _ _ hSt).mono ?_
  rintro e w6 ⟨rfl, hSn⟩
  clear hSt
  have hSt := hSn
  clear hSn
  go_wp2_with fail
  refine (HRf2.out _).mono ?_
  rintro e w7 ⟨rfl, hb⟩
  replace hSt := hSt.below hb
  clear hb
  go_wp2_with fail
  refine (HPd.out _).mono ?_
  rintro e w8 ⟨rfl, hb⟩
  replace hSt := hSt.below hb
  clear hb
  go_wp2_with fail
  refine (HMk2.out _ _ hSt).mono ?_
  rintro e w9 ⟨rfl, hSn⟩
  have H10 : Hid (La1 w z hs l l.length (.int .i64 0) w9) := Lib.hid ⟨0, rfl, Nat.zero_le _, rfl, hSn, fun j hj => by omega⟩
  clear hSt hSn HMk1 HMk2 HPd
  have HPut2 := Lib.hid (HPut.out H100.out)
  clear HPut h100
  go_wp2_with fail
  go_loopg [6] l.length (fun mm iv wr => Hid (La1 w z hs l mm iv wr))
  case atStart => exact H10
  case round =>
    obtain ⟨i, rfl, hi, hm, hSt, hvs⟩ := hrel.out
    clear hrel H10
    by_cases hlt : i < l.length
    · have r1 : (i : Int) < (l.length : Int) := by omega
      obtain ⟨g, o, rfl, hg⟩ := HI.out.addr (by omega)
      obtain ⟨t, x, q, m, d, hat, hf, hIt, hR⟩ := eltR HI.out hg hlt
      have hnt := nodes_get hat
      have hnl := HN.out
      have hnt := nodes_get hat
      have hnl := HN.out
      have hl100 := H100.out
      obtain ⟨t_k, t_i, t_g, t_n, t_f, t_a, t_b, t_s⟩ := x
      have e1 : aggV t.f (.slice q m d) = .agg #[.int .i64 t_k, .int .i64 t_i, .int .i64 t_g, .string t_n, .string t_f, .int .i64 t_a, .slice q m d, .string t_b, .int .i64 t_s] := by rw [hf]; rfl
      have HV := Lib.hid (fun (W : World) (hW : Below w.heap.size w W) => RValid W w.heap.size (.slice q m d) t hW.size (hIt.below hW (Nat.le_refl _)) (by omega))
      have HPu := Lib.hid (fun (W : World) (h : LSt w z (two hs (rowsI hs l i)) W) (hvi : validT t = true) => HPut2.out z W i h hlt hvs t hat hvi (.slice q m d) (hIt.below h.base (Nat.le_refl _)) (by omega))
      have HvN := Lib.hid (fun (hvi : validT t = true) => (fun j (hj : j < i + 1) x (hx : l[j]? = some x) => by
        by_cases e : j = i
        · subst e; rw [hat] at hx; rw [← Option.some.inj hx]; exact hvi
        · exact hvs j (by omega) x hx : ∀ j, j < i + 1 → ∀ x, l[j]? = some x → validT x = true))
      rw [e1] at HV HPu
      obtain ⟨vt, hvt⟩ : ∃ b, validT t = b := ⟨_, rfl⟩
      rw [hvt] at HV HPu HvN
      have eI : aggV (intT (N := N) (i : Int)).f nilV = .agg #[.int .i64 1, .int .i64 i, .int .i64 0, .string ⟨#[]⟩, .string ⟨#[]⟩, .int .i64 0, .slice none 0 0, .string ⟨#[]⟩, .int .i64 0] := rfl
      have HI29 := Lib.hid (fun W => int29 (N := N) (i : Int) W)
      unfold VQ at HI29
      rw [eI] at HI29 HPu
      unfold BPost at HV
      unfold nineL at hR
      dsimp only at hR
      have HR := Lib.hid hR
      have HE := Lib.hid (hR _ hSt.base)
      have HM := Lib.hid hm
      clear hat hf hIt hR hnt hnl e1 hvt eI hvs hm
      go_wp2_with (refine wpList_load_mid rfl 24 (.tmp 63) rfl g (o + i * 9) rfl [.int .i64 t_k, .int .i64 t_i, .int .i64 t_g, .string t_n, .string t_f, .int .i64 t_a, .slice q m d, .string t_b, .int .i64 t_s] _ HE.out Tryz.underlying24 rfl hsz9 ?_)
      refine (HV.out _ hSt.base).mono ?_
      rintro e v1 ⟨rfl, hb⟩
      replace hSt := hSt.below hb
      clear hb HE HV
      cases vt
      · go_wp2_with fail
        go_ret
        exact ⟨rfl, hSt.base⟩
      · go_upto_region 13 with (fail)
        replace hSt := hSt.below (belowD (Below.refl _ _))
        refine wp_region_held_drew (S := (fun w' => w'.rangeAt g (o + i * 9) [.int .i64 t_k, .int .i64 t_i, .int .i64 t_g, .string t_n, .string t_f, .int .i64 t_a, .slice q m d, .string t_b, .int .i64 t_s])) (by kernel_rfl) ?_ (fun hHeld => ?_)
        · exact HR.out _ hSt.base
        refine wpAnyH_take (i := 0) (oi := { dst := some 67, op := Op.move (Operand.tmp 5), type := 34, pos := "law.go:230", after := #[], guard := none }) (v := ?vvA0) rfl (by kernel_rfl) (by kernel_rfl) (by kernel_rfl) (fun _ _ _ h => h) (Or.inl ⟨by rfl, ?hyA0⟩) (by assumption) ?rsA0
        case hyA0 =>
          intro w hSw
          (try dsimp only at hSw)
          go_simp
          (try with_reducible rfl)
        (try simp only [Act.put, List.setIfInBounds_toArray, List.set_cons_zero, List.set_cons_succ])
        refine wpAnyH_take (i := 2) (oi := { dst := some 69, op := Op.move (Operand.tmp 0), type := 22, pos := "law.go:230", after := #[], guard := none }) (v := ?vvA2) rfl (by kernel_rfl) (by kernel_rfl) (by kernel_rfl) (fun _ _ _ h => h) (Or.inl ⟨by rfl, ?hyA2⟩) (by assumption) ?rsA2
        case hyA2 =>
          intro w hSw
          (try dsimp only at hSw)
          go_simp
          (try with_reducible rfl)
        (try simp only [Act.put, List.setIfInBounds_toArray, List.set_cons_zero, List.set_cons_succ])
        refine wpAnyH_take (i := 3) (oi := { dst := some 70, op := Op.move (Operand.tmp 6), type := 3, pos := "law.go:230", after := #[], guard := none }) (v := ?vvA3) rfl (by kernel_rfl) (by kernel_rfl) (by kernel_rfl) (fun _ _ _ h => h) (Or.inl ⟨by rfl, ?hyA3⟩) (by assumption) ?rsA3
        case hyA3 =>
          intro w hSw
          (try dsimp only at hSw)
          go_simp
          (try with_reducible rfl)
        (try simp only [Act.put, List.setIfInBounds_toArray, List.set_cons_zero, List.set_cons_succ])
        refine wpAnyH_take (i := 4) (oi := { dst := some 71, op := Op.indexAddr 22 (Operand.tmp 69) (Operand.tmp 70), type := 0, pos := "law.go:230", after := #[{ on := 2, ground := Ground.data }, { on := 3, ground := Ground.data }], guard := none }) (v := ?vvA4) rfl (by kernel_rfl) (by kernel_rfl) (by kernel_rfl) (fun _ _ _ h => h) (Or.inl ⟨by rfl, ?hyA4⟩) (by assumption) ?rsA4
        case hyA4 =>
          intro w hSw
          (try dsimp only at hSw)
          go_simp
          (try with_reducible rfl)
        (try simp only [Act.put, List.setIfInBounds_toArray, List.set_cons_zero, List.set_cons_succ])
        refine wpAnyH_take (i := 5) (oi := { dst := some 72, op := Op.load 24 (Operand.tmp 71), type := 24, pos := "law.go:230", after := #[{ on := 4, ground := Ground.data }], guard := none }) rfl (by kernel_rfl) (by kernel_rfl) (by kernel_rfl) (fun _ _ _ h => h) (yieldsIf_load_mid (by rfl) 24 (.tmp 71) rfl g (o + i * 9) rfl [.int .i64 t_k, .int .i64 t_i, .int .i64 t_g, .string t_n, .string t_f, .int .i64 t_a, .slice q m d, .string t_b, .int .i64 t_s] _ (fun w hs => hs) Tryz.underlying24 rfl hsz9) (by assumption) ?_
        (try simp only [Act.put, List.setIfInBounds_toArray, List.set_cons_zero, List.set_cons_succ])
        refine wpAnyH_take (i := 6) (oi := { dst := some 73, op := Op.move (Operand.tmp 6), type := 3, pos := "law.go:230", after := #[], guard := none }) (v := ?vvA6) rfl (by kernel_rfl) (by kernel_rfl) (by kernel_rfl) (fun _ _ _ h => h) (Or.inl ⟨by rfl, ?hyA6⟩) (by assumption) ?rsA6
        case hyA6 =>
          intro w hSw
          (try dsimp only at hSw)
          go_simp
          (try with_reducible rfl)
        (try simp only [Act.put, List.setIfInBounds_toArray, List.set_cons_zero, List.set_cons_succ])
        refine wpAnyH_ready (rs := [1]) (by kernel_rfl) (by simp) ?_
        refine AllReadyH.cons (o := { dst := some 68, op := Op.call { callee := Callee.value (Operand.func 18), args := #[Operand.const (Value.int IntKind.i64 1)], argTypes := #[2] }, type := 24, pos := "law.go:230", after := #[], guard := none }) rfl (fun K hK => ?_) AllReadyH.nil
        go_simp
        refine (HRf1.out _).mono ?_
        rintro e x1 ⟨rfl, hb⟩
        replace hSt := hSt.below hb
        clear hb
        go_wp2_with fail
        refine hK.out _ _ ?_ (fun hHeld => ?_)
        · exact HR.out _ hSt.base
        clear hK K
        (try simp only [Act.put, List.setIfInBounds_toArray, List.set_cons_zero, List.set_cons_succ])
        refine wpAnyH_ready (rs := [7]) (by kernel_rfl) (by simp) ?_
        refine AllReadyH.cons (o := { dst := some 74, op := Op.call { callee := Callee.value (Operand.func 29), args := #[Operand.tmp 73], argTypes := #[2] }, type := 24, pos := "law.go:230", after := #[{ on := 6, ground := Ground.data }, { on := 1, ground := Ground.chain }], guard := none }) rfl (fun K hK => ?_) AllReadyH.nil
        go_simp
        refine (HI29.out _).mono ?_
        rintro e x2 ⟨rfl, hb⟩
        replace hSt := hSt.below hb
        clear hb
        go_wp2_with fail
        refine hK.out _ _ ?_ (fun hHeld => ?_)
        · exact HR.out _ hSt.base
        clear hK K
        (try simp only [Act.put, List.setIfInBounds_toArray, List.set_cons_zero, List.set_cons_succ])
        refine wpAnyH_ready (rs := [8]) (by kernel_rfl) (by simp) ?_
        refine AllReadyH.cons (o := { dst := some 75, op := Op.call { callee := Callee.value (Operand.func 24), args := #[Operand.tmp 67, Operand.tmp 68, Operand.tmp 72, Operand.tmp 74], argTypes := #[34, 24, 24, 24] }, type := 40, pos := "law.go:230", after := #[{ on := 0, ground := Ground.data }, { on := 1, ground := Ground.data }, { on := 5, ground := Ground.data }, { on := 7, ground := Ground.data }, { on := 7, ground := Ground.chain }], guard := none }) rfl (fun K hK => ?_) AllReadyH.nil
        go_simp
        refine (HPu.out _ hSt (by first | rfl | trivial)).mono ?_
        rintro e x3 ⟨rfl, hSn⟩
        clear hSt
        have hSt := hSn
        clear hSn
        go_wp2_with fail
        refine hK.out _ _ ?_ (fun hHeld => ?_)
        · exact HR.out _ hSt.base
        clear hK K
        (try simp only [Act.put, List.setIfInBounds_toArray, List.set_cons_zero, List.set_cons_succ])
        refine wpAnyH_take (i := 9) (oi := { dst := some 76, op := Op.binOp BinOp.neq 40 (Operand.tmp 75) (Operand.const (Value.int IntKind.i64 0)) 40, type := 4, pos := "law.go:230", after := #[{ on := 8, ground := Ground.data }], guard := none }) (v := ?vvA9) rfl (by kernel_rfl) (by kernel_rfl) (by kernel_rfl) (fun _ _ _ h => h) (Or.inl ⟨by rfl, ?hyA9⟩) (by assumption) ?rsA9
        case hyA9 =>
          intro w hSw
          (try dsimp only at hSw)
          go_simp
          (try with_reducible rfl)
        (try simp only [Act.put, List.setIfInBounds_toArray, List.set_cons_zero, List.set_cons_succ])
        refine wpAnyH_done (by kernel_rfl) ?_ _
        go_wp2_with fail
        go_roundg (l.length - (i + 1))
        case measure => have := HM.out; omega
        case rel => exact Lib.hid ⟨i + 1, by go_num, by omega, rfl, hSt, HvN.out (by first | rfl | trivial)⟩
    · obtain rfl : i = l.length := by omega
      have hall : ∀ x ∈ l, validT x = true := fun x hx => by
        obtain ⟨j, hj, e⟩ := List.mem_iff_getElem.1 hx
        exact hvs j hj x (by rw [List.getElem?_eq_getElem hj, e])
      have HLa := Lib.hid (HLast.out H100.out hall)
      have HDe := Lib.hid (HDel.out H100.out hall)
      have HGo := Lib.hid (HGone.out H100.out hall)
      have HLe := Lib.hid (HLeft.out H100.out hall)
      have HS1 := Lib.hid (HSz1.out H100.out hall)
      have HS2 := Lib.hid (HSz2.out H100.out hall)
      have HUq2 := Lib.hid (HUq.out HN.out)
      have HUm := Lib.hid (fun x (hx : x ∈ uniqL (sortL l)) => ((uniq_of hall).2 x).1 hx)
      have hul : (uniqL (sortL l)).length ≤ 100 := by
        have h1 := uniqP_le (c := cmpV) (d := sortL l) (sortL l).length
        have h2 := sortL_len l
        have h3 := H100.out
        unfold uniqL
        omega
      obtain ⟨U, hUe⟩ : ∃ U, uniqL (sortL l) = U := ⟨_, rfl⟩
      rw [hUe] at HDe HGo HLe HS1 HUq2 HUm hul
      clear hall hvs HLast HDel HGone HLeft HSz1 HSz2 HUq HPut2 hUe hm hi
      go_wp2_with fail
      refine (HUq2.out _ hSt.base).mono ?_
      rintro e x1 ⟨p2, c2, rfl, hU, hb⟩
      replace hSt := hSt.below hb
      clear hb HUq2
      go_wp2_with fail
      refine (HRf1.out _).mono ?_
      rintro e x2 ⟨rfl, hb⟩
      replace hSt := hSt.below hb
      replace hU := (hU.below hb (Nat.le_refl _)).more hb.size
      clear hb
      go_wp2_with fail
      refine (HS1.out _ _ hSt).mono ?_
      rintro e x3 ⟨rfl, hb⟩
      replace hSt := hSt.below hb
      replace hU := (hU.below hb (Nat.le_refl _)).more hb.size
      clear hb
      go_wp2_with fail
      refine (HRf2.out _).mono ?_
      rintro e x4 ⟨rfl, hb⟩
      replace hSt := hSt.below hb
      replace hU := (hU.below hb (Nat.le_refl _)).more hb.size
      clear hb
      go_wp2_with fail
      refine (HS2.out _ _ hSt).mono ?_
      rintro e x5 ⟨rfl, hb⟩
      replace hSt := hSt.below hb
      replace hU := (hU.below hb (Nat.le_refl _)).more hb.size
      have H20 : Hid (La2 w z hs l U (.slice p2 U.length c2) l.length (.int .i64 0) x5) := Lib.hid ⟨0, rfl, Nat.zero_le _, rfl, hSt, hU⟩
      have HUl := Lib.hid hul
      clear hb hSt hU HS1 HS2 HRf2 hul
      go_wp2_with fail
      go_loopg [12] l.length (fun mm iv wr => Hid (La2 w z hs l U (.slice p2 U.length c2) mm iv wr))
      case atStart => exact H20
      case round =>
        obtain ⟨i, rfl, hi, hm, hSt, hU⟩ := hrel.out
        clear hrel H20
        by_cases hlt : i < l.length
        · have r1 : (i : Int) < (l.length : Int) := by omega
          obtain ⟨g, o, rfl, hg⟩ := HI.out.addr (by omega)
          obtain ⟨t, x, q, m, d, hat, hf, hIt, hR⟩ := eltR HI.out hg hlt
          have hnt := nodes_get hat
          have hnl := HN.out
          have hl100 := H100.out
          obtain ⟨t_k, t_i, t_g, t_n, t_f, t_a, t_b, t_s⟩ := x
          have e1 : aggV t.f (.slice q m d) = .agg #[.int .i64 t_k, .int .i64 t_i, .int .i64 t_g, .string t_n, .string t_f, .int .i64 t_a, .slice q m d, .string t_b, .int .i64 t_s] := by rw [hf]; rfl
          have HLa1 := Lib.hid (fun (la : Nat) (hj : lastF l t l.length = some la) (W : World) (h : LSt w z (two hs (rowsI hs l l.length)) W) => HLa.out z W h t (List.mem_of_getElem? hat) la hj (.slice q m d) ((hIt.below h.base (Nat.le_refl _)).more h.size) (by omega))
          rw [e1] at HLa1
          have HSm := Lib.hid (fun (y : Tm (N + 1)) (u2 : Value) (hIy : ItemsAt w w.heap.size N u2 y.items) (W : World) (hW : Below w.heap.size w W) => sameOne W w.heap.size (.slice q m d) u2 t y hW.size (hIt.below hW (Nat.le_refl _)) (hIy.below hW (Nat.le_refl _)))
          rw [e1] at HSm
          unfold BPost at HSm
          unfold nineL at hR
          dsimp only at hR
          have HR := Lib.hid hR
          have HM := Lib.hid hm
          have HAt := Lib.hid hat
          have H30 : Hid (La3 wr l t i (l.length - i) (.int .i64 i) (.int .i64 i) wr) := Lib.hid ⟨i, i, rfl, rfl, Nat.le_refl _, hi, rfl, lastF_zero hat, Below.refl _ _⟩
          have HSt := Lib.hid hSt
          have HU := Lib.hid hU
          clear hat hf hIt hR hnt hnl e1 hm hSt hU
          go_wp2_with fail
          obtain ⟨wo, hwo⟩ : ∃ wo : World, wo = wr := ⟨_, rfl⟩
          rw [← hwo] at HSt HU H30
          rw [← hwo]
          clear hwo wr
          go_loopg [13, 14] (l.length - i) (fun mm lv kv wr => Hid (La3 wo l t i mm lv kv wr))
          case atStart => exact H30
          case round =>
            obtain ⟨la, k, rfl, rfl, hik, hk, hm3, hla, hb3⟩ := hrel.out
            clear hrel H30
            by_cases hlt3 : k < l.length
            · have r3 : (k : Int) < (l.length : Int) := by omega
              obtain ⟨y, x2, q2, m2, d2, haty, hfy, hIy, hRy⟩ := eltR HI.out hg hlt3
              obtain ⟨y_k, y_i, y_g, y_n, y_f, y_a, y_b, y_s⟩ := x2
              have e2 : aggV y.f (.slice q2 m2 d2) = .agg #[.int .i64 y_k, .int .i64 y_i, .int .i64 y_g, .string y_n, .string y_f, .int .i64 y_a, .slice q2 m2 d2, .string y_b, .int .i64 y_s] := by rw [hfy]; rfl
              have HSy := Lib.hid (HSm.out y (.slice q2 m2 d2) hIy)
              rw [e2] at HSy
              have HSp := Lib.hid (lastF_step hik HAt.out haty hla)
              obtain ⟨qb, hqb⟩ : ∃ b, eqB t y = b := ⟨_, rfl⟩
              rw [hqb] at HSy HSp
              unfold nineL at hRy
              dsimp only at hRy
              have HRy := Lib.hid hRy
              have HM3 := Lib.hid hm3
              have HB3 := Lib.hid hb3
              clear haty hfy hIy hRy e2 hqb hm3 hb3 hla
              go_upto_region 27 with (fail)
              have hbX := HB3.out.trans ((belowD (Below.refl wr.heap.size wr)).mono HB3.out.size)
              have hbw : Below w.heap.size w wr.drew := HSt.out.base.trans (hbX.mono HSt.out.size)
              refine wp_region_held_drew (S := (fun w' => w'.rangeAt g (o + i * 9) [.int .i64 t_k, .int .i64 t_i, .int .i64 t_g, .string t_n, .string t_f, .int .i64 t_a, .slice q m d, .string t_b, .int .i64 t_s] ∧ w'.rangeAt g (o + k * 9) [.int .i64 y_k, .int .i64 y_i, .int .i64 y_g, .string y_n, .string y_f, .int .i64 y_a, .slice q2 m2 d2, .string y_b, .int .i64 y_s])) (by kernel_rfl) ?_ (fun hHeld => ?_)
              · exact ⟨HR.out _ hbw, HRy.out _ hbw⟩
              refine wpAnyH_take (i := 0) (oi := { dst := some 113, op := Op.move (Operand.tmp 0), type := 22, pos := "law.go:243", after := #[], guard := none }) (v := ?vvB0) rfl (by kernel_rfl) (by kernel_rfl) (by kernel_rfl) (fun _ _ _ h => h) (Or.inl ⟨by rfl, ?hyB0⟩) (by assumption) ?rsB0
              case hyB0 =>
                intro w hSw
                (try dsimp only at hSw)
                go_simp
                (try with_reducible rfl)
              (try simp only [Act.put, List.setIfInBounds_toArray, List.set_cons_zero, List.set_cons_succ])
              refine wpAnyH_take (i := 1) (oi := { dst := some 114, op := Op.move (Operand.tmp 12), type := 3, pos := "law.go:243", after := #[], guard := none }) (v := ?vvB1) rfl (by kernel_rfl) (by kernel_rfl) (by kernel_rfl) (fun _ _ _ h => h) (Or.inl ⟨by rfl, ?hyB1⟩) (by assumption) ?rsB1
              case hyB1 =>
                intro w hSw
                (try dsimp only at hSw)
                go_simp
                (try with_reducible rfl)
              (try simp only [Act.put, List.setIfInBounds_toArray, List.set_cons_zero, List.set_cons_succ])
              refine wpAnyH_take (i := 2) (oi := { dst := some 115, op := Op.indexAddr 22 (Operand.tmp 113) (Operand.tmp 114), type := 0, pos := "law.go:243", after := #[{ on := 0, ground := Ground.data }, { on := 1, ground := Ground.data }], guard := none }) (v := ?vvB2) rfl (by kernel_rfl) (by kernel_rfl) (by kernel_rfl) (fun _ _ _ h => h) (Or.inl ⟨by rfl, ?hyB2⟩) (by assumption) ?rsB2
              case hyB2 =>
                intro w hSw
                (try dsimp only at hSw)
                go_simp
                (try with_reducible rfl)
              (try simp only [Act.put, List.setIfInBounds_toArray, List.set_cons_zero, List.set_cons_succ])
              refine wpAnyH_take (i := 3) (oi := { dst := some 116, op := Op.load 24 (Operand.tmp 115), type := 24, pos := "law.go:243", after := #[{ on := 2, ground := Ground.data }], guard := none }) rfl (by kernel_rfl) (by kernel_rfl) (by kernel_rfl) (fun _ _ _ h => h) (yieldsIf_load_mid (by rfl) 24 (.tmp 115) rfl g (o + i * 9) rfl [.int .i64 t_k, .int .i64 t_i, .int .i64 t_g, .string t_n, .string t_f, .int .i64 t_a, .slice q m d, .string t_b, .int .i64 t_s] _ (fun w hs => hs.1) Tryz.underlying24 rfl hsz9) (by assumption) ?_
              (try simp only [Act.put, List.setIfInBounds_toArray, List.set_cons_zero, List.set_cons_succ])
              refine wpAnyH_take (i := 4) (oi := { dst := some 117, op := Op.move (Operand.tmp 0), type := 22, pos := "law.go:243", after := #[], guard := none }) (v := ?vvB4) rfl (by kernel_rfl) (by kernel_rfl) (by kernel_rfl) (fun _ _ _ h => h) (Or.inl ⟨by rfl, ?hyB4⟩) (by assumption) ?rsB4
              case hyB4 =>
                intro w hSw
                (try dsimp only at hSw)
                go_simp
                (try with_reducible rfl)
              (try simp only [Act.put, List.setIfInBounds_toArray, List.set_cons_zero, List.set_cons_succ])
              refine wpAnyH_take (i := 5) (oi := { dst := some 118, op := Op.move (Operand.tmp 14), type := 3, pos := "law.go:243", after := #[], guard := none }) (v := ?vvB5) rfl (by kernel_rfl) (by kernel_rfl) (by kernel_rfl) (fun _ _ _ h => h) (Or.inl ⟨by rfl, ?hyB5⟩) (by assumption) ?rsB5
              case hyB5 =>
                intro w hSw
                (try dsimp only at hSw)
                go_simp
                (try with_reducible rfl)
              (try simp only [Act.put, List.setIfInBounds_toArray, List.set_cons_zero, List.set_cons_succ])
              refine wpAnyH_take (i := 6) (oi := { dst := some 119, op := Op.indexAddr 22 (Operand.tmp 117) (Operand.tmp 118), type := 0, pos := "law.go:243", after := #[{ on := 4, ground := Ground.data }, { on := 5, ground := Ground.data }], guard := none }) (v := ?vvB6) rfl (by kernel_rfl) (by kernel_rfl) (by kernel_rfl) (fun _ _ _ h => h) (Or.inl ⟨by rfl, ?hyB6⟩) (by assumption) ?rsB6
              case hyB6 =>
                intro w hSw
                (try dsimp only at hSw)
                go_simp
                (try with_reducible rfl)
              (try simp only [Act.put, List.setIfInBounds_toArray, List.set_cons_zero, List.set_cons_succ])
              refine wpAnyH_take (i := 7) (oi := { dst := some 120, op := Op.load 24 (Operand.tmp 119), type := 24, pos := "law.go:243", after := #[{ on := 6, ground := Ground.data }], guard := none }) rfl (by kernel_rfl) (by kernel_rfl) (by kernel_rfl) (fun _ _ _ h => h) (yieldsIf_load_mid (by rfl) 24 (.tmp 119) rfl g (o + k * 9) rfl [.int .i64 y_k, .int .i64 y_i, .int .i64 y_g, .string y_n, .string y_f, .int .i64 y_a, .slice q2 m2 d2, .string y_b, .int .i64 y_s] _ (fun w hs => hs.2) Tryz.underlying24 rfl hsz9) (by assumption) ?_
              (try simp only [Act.put, List.setIfInBounds_toArray, List.set_cons_zero, List.set_cons_succ])
              refine wpAnyH_ready (rs := [8]) (by kernel_rfl) (by simp) ?_
              refine AllReadyH.cons (o := { dst := some 121, op := Op.call { callee := Callee.value (Operand.func 27), args := #[Operand.tmp 116, Operand.tmp 120], argTypes := #[24, 24] }, type := 4, pos := "law.go:243", after := #[{ on := 3, ground := Ground.data }, { on := 7, ground := Ground.data }], guard := none }) rfl (fun K hK => ?_) AllReadyH.nil
              go_simp
              refine (HSy.out _ hbw).mono ?_
              rintro e v1 ⟨rfl, hb⟩
              replace hbX := hbX.trans (hb.mono hbX.size)
              replace hbw := hbw.trans (hb.mono hbw.size)
              clear hb
              go_wp2_with fail
              refine hK.out _ _ ?_ (fun hHeld => ?_)
              · exact ⟨HR.out _ hbw, HRy.out _ hbw⟩
              clear hK K
              (try simp only [Act.put, List.setIfInBounds_toArray, List.set_cons_zero, List.set_cons_succ])
              refine wpAnyH_done (by kernel_rfl) ?_ _
              cases qb
              · go_wp2_with fail
                go_roundg (l.length - (k + 1))
                case measure => have := HM3.out; omega
                case rel => exact Lib.hid ⟨_, k + 1, rfl, by go_num, by omega, by omega, rfl, by first | exact HSp.out | simpa using HSp.out, hbX⟩
              · go_wp2_with fail
                go_roundg (l.length - (k + 1))
                case measure => have := HM3.out; omega
                case rel => exact Lib.hid ⟨_, k + 1, rfl, by go_num, by omega, by omega, rfl, by first | exact HSp.out | simpa using HSp.out, hbX⟩
            · obtain rfl : k = l.length := by omega
              rw [if_neg (by omega)] at hla
              have HLa2 := Lib.hid (HLa1.out la hla)
              have hSt := HSt.out.below hb3
              have hU := (HU.out.below hb3 (Nat.le_refl _)).more hb3.size
              clear hla hm3 hb3 HLa1 HSm
              go_upto_region 29 with (fail)
              replace hU := (hU.below (belowD (Below.refl _ _)) (Nat.le_refl _)).more (belowD (Below.refl wr.heap.size wr)).size
              replace hSt := hSt.below (belowD (Below.refl _ _))
              have hbX := Below.refl wr.drew.heap.size wr.drew
              have HB := Lib.hid (fun W (hb : Below wr.drew.heap.size wr.drew W) => HR.out W (hSt.base.trans (hb.mono hSt.size)))
              refine wp_region_held_drew (S := (fun w' => w'.rangeAt g (o + i * 9) [.int .i64 t_k, .int .i64 t_i, .int .i64 t_g, .string t_n, .string t_f, .int .i64 t_a, .slice q m d, .string t_b, .int .i64 t_s])) (by kernel_rfl) ?_ (fun hHeld => ?_)
              · exact HB.out _ hbX
              generalize wr.drew = wd at *
              refine wpAnyH_take (i := 0) (oi := { dst := some 124, op := Op.move (Operand.tmp 5), type := 34, pos := "law.go:247", after := #[], guard := none }) (v := ?vvC0) rfl (by kernel_rfl) (by kernel_rfl) (by kernel_rfl) (fun _ _ _ h => h) (Or.inl ⟨by rfl, ?hyC0⟩) (by assumption) ?rsC0
              case hyC0 =>
                intro w hSw
                (try dsimp only at hSw)
                go_simp
                (try with_reducible rfl)
              (try simp only [Act.put, List.setIfInBounds_toArray, List.set_cons_zero, List.set_cons_succ])
              refine wpAnyH_take (i := 2) (oi := { dst := some 126, op := Op.move (Operand.tmp 0), type := 22, pos := "law.go:247", after := #[], guard := none }) (v := ?vvC2) rfl (by kernel_rfl) (by kernel_rfl) (by kernel_rfl) (fun _ _ _ h => h) (Or.inl ⟨by rfl, ?hyC2⟩) (by assumption) ?rsC2
              case hyC2 =>
                intro w hSw
                (try dsimp only at hSw)
                go_simp
                (try with_reducible rfl)
              (try simp only [Act.put, List.setIfInBounds_toArray, List.set_cons_zero, List.set_cons_succ])
              refine wpAnyH_take (i := 3) (oi := { dst := some 127, op := Op.move (Operand.tmp 12), type := 3, pos := "law.go:247", after := #[], guard := none }) (v := ?vvC3) rfl (by kernel_rfl) (by kernel_rfl) (by kernel_rfl) (fun _ _ _ h => h) (Or.inl ⟨by rfl, ?hyC3⟩) (by assumption) ?rsC3
              case hyC3 =>
                intro w hSw
                (try dsimp only at hSw)
                go_simp
                (try with_reducible rfl)
              (try simp only [Act.put, List.setIfInBounds_toArray, List.set_cons_zero, List.set_cons_succ])
              refine wpAnyH_take (i := 4) (oi := { dst := some 128, op := Op.indexAddr 22 (Operand.tmp 126) (Operand.tmp 127), type := 0, pos := "law.go:247", after := #[{ on := 2, ground := Ground.data }, { on := 3, ground := Ground.data }], guard := none }) (v := ?vvC4) rfl (by kernel_rfl) (by kernel_rfl) (by kernel_rfl) (fun _ _ _ h => h) (Or.inl ⟨by rfl, ?hyC4⟩) (by assumption) ?rsC4
              case hyC4 =>
                intro w hSw
                (try dsimp only at hSw)
                go_simp
                (try with_reducible rfl)
              (try simp only [Act.put, List.setIfInBounds_toArray, List.set_cons_zero, List.set_cons_succ])
              refine wpAnyH_take (i := 5) (oi := { dst := some 129, op := Op.load 24 (Operand.tmp 128), type := 24, pos := "law.go:247", after := #[{ on := 4, ground := Ground.data }], guard := none }) rfl (by kernel_rfl) (by kernel_rfl) (by kernel_rfl) (fun _ _ _ h => h) (yieldsIf_load_mid (by rfl) 24 (.tmp 128) rfl g (o + i * 9) rfl [.int .i64 t_k, .int .i64 t_i, .int .i64 t_g, .string t_n, .string t_f, .int .i64 t_a, .slice q m d, .string t_b, .int .i64 t_s] _ (fun w hs => hs) Tryz.underlying24 rfl hsz9) (by assumption) ?_
              (try simp only [Act.put, List.setIfInBounds_toArray, List.set_cons_zero, List.set_cons_succ])
              refine wpAnyH_ready (rs := [1, 11]) (by kernel_rfl) (by simp) ?_
              refine (AllReadyH.cons (o := { dst := some 125, op := Op.call { callee := Callee.value (Operand.func 18), args := #[Operand.const (Value.int IntKind.i64 1)], argTypes := #[2] }, type := 24, pos := "law.go:247", after := #[], guard := none }) rfl (fun K hK => ?_) (AllReadyH.cons (o := { dst := some 15, op := Op.alloc 24, type := 0, pos := "law.go:247", after := #[], guard := none }) rfl (fun K hK => ?_) AllReadyH.nil))
              · skip
                go_simp
                refine (HRf1.out _).mono ?_
                rintro e y1 ⟨rfl, hb⟩
                replace hbX := hbX.trans (hb.mono hbX.size)
                clear hb
                go_wp2_with fail
                refine hK.out _ _ ?_ (fun hHeld => ?_)
                · exact HB.out _ hbX
                clear hK K
                (try simp only [Act.put, List.setIfInBounds_toArray, List.set_cons_zero, List.set_cons_succ])
                refine wpAnyH_ready (rs := [6, 11]) (by kernel_rfl) (by simp) ?_
                refine (AllReadyH.cons (o := { dst := some 130, op := Op.call { callee := Callee.value (Operand.func 32), args := #[Operand.tmp 124, Operand.tmp 125, Operand.tmp 129], argTypes := #[34, 24, 24] }, type := 60, pos := "law.go:247", after := #[{ on := 0, ground := Ground.data }, { on := 1, ground := Ground.data }, { on := 5, ground := Ground.data }, { on := 1, ground := Ground.chain }], guard := none }) rfl (fun K hK => ?_) (AllReadyH.cons (o := { dst := some 15, op := Op.alloc 24, type := 0, pos := "law.go:247", after := #[], guard := none }) rfl (fun K hK => ?_) AllReadyH.nil))
                · skip
                  go_simp
                  refine (HLa2.out _ (hSt.below hbX)).mono ?_
                  rintro e y2 ⟨xv, rfl, hone, hb⟩
                  replace hbX := hbX.trans (hb.mono hbX.size)
                  clear hb
                  go_wp2_with fail
                  refine hK.out _ _ ?_ (fun hHeld => ?_)
                  · exact HB.out _ hbX
                  clear hK K
                  (try simp only [Act.put, List.setIfInBounds_toArray, List.set_cons_zero, List.set_cons_succ])
                  refine wpAnyH_take (i := 7) (oi := { dst := some 123, op := Op.move (Operand.tmp 130), type := 60, pos := "law.go:247", after := #[{ on := 6, ground := Ground.data }], guard := none }) (v := ?vvCx1x67) rfl (by kernel_rfl) (by kernel_rfl) (by kernel_rfl) (fun _ _ _ h => h) (Or.inl ⟨by rfl, ?hyCx1x67⟩) (by assumption) ?rsCx1x67
                  case hyCx1x67 =>
                    intro w hSw
                    (try dsimp only at hSw)
                    go_simp
                    (try with_reducible rfl)
                  (try simp only [Act.put, List.setIfInBounds_toArray, List.set_cons_zero, List.set_cons_succ])
                  refine wpAnyH_take (i := 8) (oi := { dst := some 131, op := Op.extract (Operand.tmp 123) 0, type := 24, pos := "law.go:247", after := #[{ on := 7, ground := Ground.data }], guard := none }) (v := ?vvCx1x68) rfl (by kernel_rfl) (by kernel_rfl) (by kernel_rfl) (fun _ _ _ h => h) (Or.inl ⟨by rfl, ?hyCx1x68⟩) (by assumption) ?rsCx1x68
                  case hyCx1x68 =>
                    intro w hSw
                    (try dsimp only at hSw)
                    go_simp
                    (try with_reducible rfl)
                  (try simp only [Act.put, List.setIfInBounds_toArray, List.set_cons_zero, List.set_cons_succ])
                  refine wpAnyH_take (i := 9) (oi := { dst := some 132, op := Op.extract (Operand.tmp 123) 1, type := 4, pos := "law.go:247", after := #[{ on := 7, ground := Ground.data }, { on := 12, ground := Ground.gcOnly Departure.lateStores }], guard := none }) (v := ?vvCx1x69) rfl (by kernel_rfl) (by kernel_rfl) (by kernel_rfl) (fun _ _ _ h => h) (Or.inl ⟨by rfl, ?hyCx1x69⟩) (by assumption) ?rsCx1x69
                  case hyCx1x69 =>
                    intro w hSw
                    (try dsimp only at hSw)
                    go_simp
                    (try with_reducible rfl)
                  (try simp only [Act.put, List.setIfInBounds_toArray, List.set_cons_zero, List.set_cons_succ])
                  refine wpAnyH_take (i := 10) (oi := { dst := some 133, op := Op.extract (Operand.tmp 123) 2, type := 40, pos := "law.go:247", after := #[{ on := 7, ground := Ground.data }, { on := 13, ground := Ground.gcOnly Departure.lateStores }], guard := none }) (v := ?vvCx1x610) rfl (by kernel_rfl) (by kernel_rfl) (by kernel_rfl) (fun _ _ _ h => h) (Or.inl ⟨by rfl, ?hyCx1x610⟩) (by assumption) ?rsCx1x610
                  case hyCx1x610 =>
                    intro w hSw
                    (try dsimp only at hSw)
                    go_simp
                    (try with_reducible rfl)
                  (try simp only [Act.put, List.setIfInBounds_toArray, List.set_cons_zero, List.set_cons_succ])
                  refine wpAnyH_ready (rs := [11]) (by kernel_rfl) (by simp) ?_
                  refine AllReadyH.cons (o := { dst := some 15, op := Op.alloc 24, type := 0, pos := "law.go:247", after := #[], guard := none }) rfl (fun K hK => ?_) AllReadyH.nil
                  obtain ⟨hbA, hZ, hzx⟩ := alloc_of hbX (.cells #[.int .i64 0, .int .i64 0, .int .i64 0, .string ⟨#[]⟩, .string ⟨#[]⟩, .int .i64 0, .slice none 0 0, .string ⟨#[]⟩, .int .i64 0] 24)
                  go_simp
                  clear hbX
                  have hbX := hbA
                  clear hbA
                  refine hK.out _ _ ?_ (fun hHeld => ?_)
                  · exact HB.out _ hbX
                  clear hK K
                  (try simp only [Act.put, List.setIfInBounds_toArray, List.set_cons_zero, List.set_cons_succ])
                  refine wpAnyH_ready (rs := [12]) (by kernel_rfl) (by simp) ?_
                  refine AllReadyH.cons (o := { dst := none, op := Op.store 24 (Operand.tmp 15) (Operand.tmp 131), type := 0, pos := "law.go:247", after := #[{ on := 11, ground := Ground.data }, { on := 8, ground := Ground.data }, { on := 6, ground := Ground.chain }, { on := 0, ground := Ground.phase }, { on := 1, ground := Ground.phase }, { on := 2, ground := Ground.phase }, { on := 3, ground := Ground.phase }, { on := 4, ground := Ground.phase }, { on := 5, ground := Ground.phase }, { on := 6, ground := Ground.phase }, { on := 7, ground := Ground.phase }, { on := 8, ground := Ground.phase }, { on := 9, ground := Ground.textOnly Departure.lateStores }, { on := 10, ground := Ground.textOnly Departure.lateStores }, { on := 11, ground := Ground.phase }], guard := none }) rfl (fun K hK => ?_) AllReadyH.nil
                  have hoS : (#[.int .i64 1, .int .i64 la, .int .i64 0, .string ⟨#[]⟩, .string ⟨#[]⟩, .int .i64 0, xv, .string ⟨#[]⟩, .int .i64 0] : Array Value).all (·.oneCell') = true := all_oneCell_toArray (nineL_one (f := ⟨1, la, 0, ⟨#[]⟩, ⟨#[]⟩, 0, ⟨#[]⟩, 0⟩) (u := xv) hone)
                  refine step_store_run (by rfl) 24 (.tmp 15) (.tmp 131) rfl (p := ⟨_, 0, none⟩) rfl rfl (run_storeVar_row _ _ 24 24 _ #[.int .i64 1, .int .i64 la, .int .i64 0, .string ⟨#[]⟩, .string ⟨#[]⟩, .int .i64 0, xv, .string ⟨#[]⟩, .int .i64 0] hZ hsz9 rfl hoS) ?_
                  replace hZ := setRow_heap _ _ _ #[.int .i64 1, .int .i64 la, .int .i64 0, .string ⟨#[]⟩, .string ⟨#[]⟩, .int .i64 0, xv, .string ⟨#[]⟩, .int .i64 0] _ _ hZ
                  replace hbX := setRow_of hbX hzx #[.int .i64 1, .int .i64 la, .int .i64 0, .string ⟨#[]⟩, .string ⟨#[]⟩, .int .i64 0, xv, .string ⟨#[]⟩, .int .i64 0]
                  refine hK.out _ _ ?_ (fun hHeld => ?_)
                  · exact HB.out _ hbX
                  clear hK K
                  (try simp only [Act.put, List.setIfInBounds_toArray, List.set_cons_zero, List.set_cons_succ])
                  refine wpAnyH_take (i := 13) (oi := { dst := some 16, op := Op.assign (Operand.tmp 132), type := 4, pos := "law.go:247", after := #[{ on := 9, ground := Ground.data }, { on := 12, ground := Ground.chain }, { on := 0, ground := Ground.phase }, { on := 1, ground := Ground.phase }, { on := 2, ground := Ground.phase }, { on := 3, ground := Ground.phase }, { on := 4, ground := Ground.phase }, { on := 5, ground := Ground.phase }, { on := 6, ground := Ground.phase }, { on := 7, ground := Ground.phase }, { on := 8, ground := Ground.phase }, { on := 9, ground := Ground.phase }, { on := 10, ground := Ground.textOnly Departure.lateStores }, { on := 11, ground := Ground.phase }, { on := 12, ground := Ground.phase }], guard := none }) (v := ?vvCx1x613) rfl (by kernel_rfl) (by kernel_rfl) (by kernel_rfl) (fun _ _ _ h => h) (Or.inl ⟨by rfl, ?hyCx1x613⟩) (by assumption) ?rsCx1x613
                  case hyCx1x613 =>
                    intro w hSw
                    (try dsimp only at hSw)
                    go_simp
                    (try with_reducible rfl)
                  (try simp only [Act.put, List.setIfInBounds_toArray, List.set_cons_zero, List.set_cons_succ])
                  refine wpAnyH_take (i := 14) (oi := { dst := some 17, op := Op.assign (Operand.tmp 133), type := 40, pos := "law.go:247", after := #[{ on := 10, ground := Ground.data }, { on := 13, ground := Ground.chain }, { on := 0, ground := Ground.phase }, { on := 1, ground := Ground.phase }, { on := 2, ground := Ground.phase }, { on := 3, ground := Ground.phase }, { on := 4, ground := Ground.phase }, { on := 5, ground := Ground.phase }, { on := 6, ground := Ground.phase }, { on := 7, ground := Ground.phase }, { on := 8, ground := Ground.phase }, { on := 9, ground := Ground.phase }, { on := 10, ground := Ground.phase }, { on := 11, ground := Ground.phase }, { on := 12, ground := Ground.phase }, { on := 13, ground := Ground.phase }], guard := none }) (v := ?vvCx1x614) rfl (by kernel_rfl) (by kernel_rfl) (by kernel_rfl) (fun _ _ _ h => h) (Or.inl ⟨by rfl, ?hyCx1x614⟩) (by assumption) ?rsCx1x614
                  case hyCx1x614 =>
                    intro w hSw
                    (try dsimp only at hSw)
                    go_simp
                    (try with_reducible rfl)
                  (try simp only [Act.put, List.setIfInBounds_toArray, List.set_cons_zero, List.set_cons_succ])
                  refine wpAnyH_done (by kernel_rfl) ?_ _
                  have k1 := row_rng hZ 1 _ rfl
                  simp only [Nat.reduceAdd] at k1
                  go_wp2_with fail
                  go_roundg (l.length - (i + 1))
                  case measure => have := HM.out; omega
                  case rel => exact Lib.hid ⟨i + 1, by go_num, by omega, rfl, hSt.below hbX, (hU.below hbX (Nat.le_refl _)).more hbX.size⟩
                · skip
                  obtain ⟨hbA, hZ, hzx⟩ := alloc_of hbX (.cells #[.int .i64 0, .int .i64 0, .int .i64 0, .string ⟨#[]⟩, .string ⟨#[]⟩, .int .i64 0, .slice none 0 0, .string ⟨#[]⟩, .int .i64 0] 24)
                  go_simp
                  clear hbX
                  have hbX := hbA
                  clear hbA
                  refine hK.out _ _ ?_ (fun hHeld => ?_)
                  · exact HB.out _ hbX
                  clear hK K
                  (try simp only [Act.put, List.setIfInBounds_toArray, List.set_cons_zero, List.set_cons_succ])
                  refine wpAnyH_ready (rs := [6]) (by kernel_rfl) (by simp) ?_
                  refine AllReadyH.cons (o := { dst := some 130, op := Op.call { callee := Callee.value (Operand.func 32), args := #[Operand.tmp 124, Operand.tmp 125, Operand.tmp 129], argTypes := #[34, 24, 24] }, type := 60, pos := "law.go:247", after := #[{ on := 0, ground := Ground.data }, { on := 1, ground := Ground.data }, { on := 5, ground := Ground.data }, { on := 1, ground := Ground.chain }], guard := none }) rfl (fun K hK => ?_) AllReadyH.nil
                  go_simp
                  refine (HLa2.out _ (hSt.below hbX)).mono ?_
                  rintro e y2 ⟨xv, rfl, hone, hb⟩
                  replace hbX := hbX.trans (hb.mono hbX.size)
                  replace hZ := (hb.block _ (Array.getElem?_eq_some_iff.1 hZ).1).trans hZ
                  clear hb
                  go_wp2_with fail
                  refine hK.out _ _ ?_ (fun hHeld => ?_)
                  · exact HB.out _ hbX
                  clear hK K
                  (try simp only [Act.put, List.setIfInBounds_toArray, List.set_cons_zero, List.set_cons_succ])
                  refine wpAnyH_take (i := 7) (oi := { dst := some 123, op := Op.move (Operand.tmp 130), type := 60, pos := "law.go:247", after := #[{ on := 6, ground := Ground.data }], guard := none }) (v := ?vvCx1x117) rfl (by kernel_rfl) (by kernel_rfl) (by kernel_rfl) (fun _ _ _ h => h) (Or.inl ⟨by rfl, ?hyCx1x117⟩) (by assumption) ?rsCx1x117
                  case hyCx1x117 =>
                    intro w hSw
                    (try dsimp only at hSw)
                    go_simp
                    (try with_reducible rfl)
                  (try simp only [Act.put, List.setIfInBounds_toArray, List.set_cons_zero, List.set_cons_succ])
                  refine wpAnyH_take (i := 8) (oi := { dst := some 131, op := Op.extract (Operand.tmp 123) 0, type := 24, pos := "law.go:247", after := #[{ on := 7, ground := Ground.data }], guard := none }) (v := ?vvCx1x118) rfl (by kernel_rfl) (by kernel_rfl) (by kernel_rfl) (fun _ _ _ h => h) (Or.inl ⟨by rfl, ?hyCx1x118⟩) (by assumption) ?rsCx1x118
                  case hyCx1x118 =>
                    intro w hSw
                    (try dsimp only at hSw)
                    go_simp
                    (try with_reducible rfl)
                  (try simp only [Act.put, List.setIfInBounds_toArray, List.set_cons_zero, List.set_cons_succ])
                  refine wpAnyH_take (i := 9) (oi := { dst := some 132, op := Op.extract (Operand.tmp 123) 1, type := 4, pos := "law.go:247", after := #[{ on := 7, ground := Ground.data }, { on := 12, ground := Ground.gcOnly Departure.lateStores }], guard := none }) (v := ?vvCx1x119) rfl (by kernel_rfl) (by kernel_rfl) (by kernel_rfl) (fun _ _ _ h => h) (Or.inl ⟨by rfl, ?hyCx1x119⟩) (by assumption) ?rsCx1x119
                  case hyCx1x119 =>
                    intro w hSw
                    (try dsimp only at hSw)
                    go_simp
                    (try with_reducible rfl)
                  (try simp only [Act.put, List.setIfInBounds_toArray, List.set_cons_zero, List.set_cons_succ])
                  refine wpAnyH_take (i := 10) (oi := { dst := some 133, op := Op.extract (Operand.tmp 123) 2, type := 40, pos := "law.go:247", after := #[{ on := 7, ground := Ground.data }, { on := 13, ground := Ground.gcOnly Departure.lateStores }], guard := none }) (v := ?vvCx1x1110) rfl (by kernel_rfl) (by kernel_rfl) (by kernel_rfl) (fun _ _ _ h => h) (Or.inl ⟨by rfl, ?hyCx1x1110⟩) (by assumption) ?rsCx1x1110
                  case hyCx1x1110 =>
                    intro w hSw
                    (try dsimp only at hSw)
                    go_simp
                    (try with_reducible rfl)
                  (try simp only [Act.put, List.setIfInBounds_toArray, List.set_cons_zero, List.set_cons_succ])
                  refine wpAnyH_ready (rs := [12]) (by kernel_rfl) (by simp) ?_
                  refine AllReadyH.cons (o := { dst := none, op := Op.store 24 (Operand.tmp 15) (Operand.tmp 131), type := 0, pos := "law.go:247", after := #[{ on := 11, ground := Ground.data }, { on := 8, ground := Ground.data }, { on := 6, ground := Ground.chain }, { on := 0, ground := Ground.phase }, { on := 1, ground := Ground.phase }, { on := 2, ground := Ground.phase }, { on := 3, ground := Ground.phase }, { on := 4, ground := Ground.phase }, { on := 5, ground := Ground.phase }, { on := 6, ground := Ground.phase }, { on := 7, ground := Ground.phase }, { on := 8, ground := Ground.phase }, { on := 9, ground := Ground.textOnly Departure.lateStores }, { on := 10, ground := Ground.textOnly Departure.lateStores }, { on := 11, ground := Ground.phase }], guard := none }) rfl (fun K hK => ?_) AllReadyH.nil
                  have hoS : (#[.int .i64 1, .int .i64 la, .int .i64 0, .string ⟨#[]⟩, .string ⟨#[]⟩, .int .i64 0, xv, .string ⟨#[]⟩, .int .i64 0] : Array Value).all (·.oneCell') = true := all_oneCell_toArray (nineL_one (f := ⟨1, la, 0, ⟨#[]⟩, ⟨#[]⟩, 0, ⟨#[]⟩, 0⟩) (u := xv) hone)
                  refine step_store_run (by rfl) 24 (.tmp 15) (.tmp 131) rfl (p := ⟨_, 0, none⟩) rfl rfl (run_storeVar_row _ _ 24 24 _ #[.int .i64 1, .int .i64 la, .int .i64 0, .string ⟨#[]⟩, .string ⟨#[]⟩, .int .i64 0, xv, .string ⟨#[]⟩, .int .i64 0] hZ hsz9 rfl hoS) ?_
                  replace hZ := setRow_heap _ _ _ #[.int .i64 1, .int .i64 la, .int .i64 0, .string ⟨#[]⟩, .string ⟨#[]⟩, .int .i64 0, xv, .string ⟨#[]⟩, .int .i64 0] _ _ hZ
                  replace hbX := setRow_of hbX hzx #[.int .i64 1, .int .i64 la, .int .i64 0, .string ⟨#[]⟩, .string ⟨#[]⟩, .int .i64 0, xv, .string ⟨#[]⟩, .int .i64 0]
                  refine hK.out _ _ ?_ (fun hHeld => ?_)
                  · exact HB.out _ hbX
                  clear hK K
                  (try simp only [Act.put, List.setIfInBounds_toArray, List.set_cons_zero, List.set_cons_succ])
                  refine wpAnyH_take (i := 13) (oi := { dst := some 16, op := Op.assign (Operand.tmp 132), type := 4, pos := "law.go:247", after := #[{ on := 9, ground := Ground.data }, { on := 12, ground := Ground.chain }, { on := 0, ground := Ground.phase }, { on := 1, ground := Ground.phase }, { on := 2, ground := Ground.phase }, { on := 3, ground := Ground.phase }, { on := 4, ground := Ground.phase }, { on := 5, ground := Ground.phase }, { on := 6, ground := Ground.phase }, { on := 7, ground := Ground.phase }, { on := 8, ground := Ground.phase }, { on := 9, ground := Ground.phase }, { on := 10, ground := Ground.textOnly Departure.lateStores }, { on := 11, ground := Ground.phase }, { on := 12, ground := Ground.phase }], guard := none }) (v := ?vvCx1x1113) rfl (by kernel_rfl) (by kernel_rfl) (by kernel_rfl) (fun _ _ _ h => h) (Or.inl ⟨by rfl, ?hyCx1x1113⟩) (by assumption) ?rsCx1x1113
                  case hyCx1x1113 =>
                    intro w hSw
                    (try dsimp only at hSw)
                    go_simp
                    (try with_reducible rfl)
                  (try simp only [Act.put, List.setIfInBounds_toArray, List.set_cons_zero, List.set_cons_succ])
                  refine wpAnyH_take (i := 14) (oi := { dst := some 17, op := Op.assign (Operand.tmp 133), type := 40, pos := "law.go:247", after := #[{ on := 10, ground := Ground.data }, { on := 13, ground := Ground.chain }, { on := 0, ground := Ground.phase }, { on := 1, ground := Ground.phase }, { on := 2, ground := Ground.phase }, { on := 3, ground := Ground.phase }, { on := 4, ground := Ground.phase }, { on := 5, ground := Ground.phase }, { on := 6, ground := Ground.phase }, { on := 7, ground := Ground.phase }, { on := 8, ground := Ground.phase }, { on := 9, ground := Ground.phase }, { on := 10, ground := Ground.phase }, { on := 11, ground := Ground.phase }, { on := 12, ground := Ground.phase }, { on := 13, ground := Ground.phase }], guard := none }) (v := ?vvCx1x1114) rfl (by kernel_rfl) (by kernel_rfl) (by kernel_rfl) (fun _ _ _ h => h) (Or.inl ⟨by rfl, ?hyCx1x1114⟩) (by assumption) ?rsCx1x1114
                  case hyCx1x1114 =>
                    intro w hSw
                    (try dsimp only at hSw)
                    go_simp
                    (try with_reducible rfl)
                  (try simp only [Act.put, List.setIfInBounds_toArray, List.set_cons_zero, List.set_cons_succ])
                  refine wpAnyH_done (by kernel_rfl) ?_ _
                  have k1 := row_rng hZ 1 _ rfl
                  simp only [Nat.reduceAdd] at k1
                  go_wp2_with fail
                  go_roundg (l.length - (i + 1))
                  case measure => have := HM.out; omega
                  case rel => exact Lib.hid ⟨i + 1, by go_num, by omega, rfl, hSt.below hbX, (hU.below hbX (Nat.le_refl _)).more hbX.size⟩
              · skip
                obtain ⟨hbA, hZ, hzx⟩ := alloc_of hbX (.cells #[.int .i64 0, .int .i64 0, .int .i64 0, .string ⟨#[]⟩, .string ⟨#[]⟩, .int .i64 0, .slice none 0 0, .string ⟨#[]⟩, .int .i64 0] 24)
                go_simp
                clear hbX
                have hbX := hbA
                clear hbA
                refine hK.out _ _ ?_ (fun hHeld => ?_)
                · exact HB.out _ hbX
                clear hK K
                (try simp only [Act.put, List.setIfInBounds_toArray, List.set_cons_zero, List.set_cons_succ])
                refine wpAnyH_ready (rs := [1]) (by kernel_rfl) (by simp) ?_
                refine AllReadyH.cons (o := { dst := some 125, op := Op.call { callee := Callee.value (Operand.func 18), args := #[Operand.const (Value.int IntKind.i64 1)], argTypes := #[2] }, type := 24, pos := "law.go:247", after := #[], guard := none }) rfl (fun K hK => ?_) AllReadyH.nil
                go_simp
                refine (HRf1.out _).mono ?_
                rintro e y1 ⟨rfl, hb⟩
                replace hbX := hbX.trans (hb.mono hbX.size)
                replace hZ := (hb.block _ (Array.getElem?_eq_some_iff.1 hZ).1).trans hZ
                clear hb
                go_wp2_with fail
                refine hK.out _ _ ?_ (fun hHeld => ?_)
                · exact HB.out _ hbX
                clear hK K
                (try simp only [Act.put, List.setIfInBounds_toArray, List.set_cons_zero, List.set_cons_succ])
                refine wpAnyH_ready (rs := [6]) (by kernel_rfl) (by simp) ?_
                refine AllReadyH.cons (o := { dst := some 130, op := Op.call { callee := Callee.value (Operand.func 32), args := #[Operand.tmp 124, Operand.tmp 125, Operand.tmp 129], argTypes := #[34, 24, 24] }, type := 60, pos := "law.go:247", after := #[{ on := 0, ground := Ground.data }, { on := 1, ground := Ground.data }, { on := 5, ground := Ground.data }, { on := 1, ground := Ground.chain }], guard := none }) rfl (fun K hK => ?_) AllReadyH.nil
                go_simp
                refine (HLa2.out _ (hSt.below hbX)).mono ?_
                rintro e y2 ⟨xv, rfl, hone, hb⟩
                replace hbX := hbX.trans (hb.mono hbX.size)
                replace hZ := (hb.block _ (Array.getElem?_eq_some_iff.1 hZ).1).trans hZ
                clear hb
                go_wp2_with fail
                refine hK.out _ _ ?_ (fun hHeld => ?_)
                · exact HB.out _ hbX
                clear hK K
                (try simp only [Act.put, List.setIfInBounds_toArray, List.set_cons_zero, List.set_cons_succ])
                refine wpAnyH_take (i := 7) (oi := { dst := some 123, op := Op.move (Operand.tmp 130), type := 60, pos := "law.go:247", after := #[{ on := 6, ground := Ground.data }], guard := none }) (v := ?vvCx117) rfl (by kernel_rfl) (by kernel_rfl) (by kernel_rfl) (fun _ _ _ h => h) (Or.inl ⟨by rfl, ?hyCx117⟩) (by assumption) ?rsCx117
                case hyCx117 =>
                  intro w hSw
                  (try dsimp only at hSw)
                  go_simp
                  (try with_reducible rfl)
                (try simp only [Act.put, List.setIfInBounds_toArray, List.set_cons_zero, List.set_cons_succ])
                refine wpAnyH_take (i := 8) (oi := { dst := some 131, op := Op.extract (Operand.tmp 123) 0, type := 24, pos := "law.go:247", after := #[{ on := 7, ground := Ground.data }], guard := none }) (v := ?vvCx118) rfl (by kernel_rfl) (by kernel_rfl) (by kernel_rfl) (fun _ _ _ h => h) (Or.inl ⟨by rfl, ?hyCx118⟩) (by assumption) ?rsCx118
                case hyCx118 =>
                  intro w hSw
                  (try dsimp only at hSw)
                  go_simp
                  (try with_reducible rfl)
                (try simp only [Act.put, List.setIfInBounds_toArray, List.set_cons_zero, List.set_cons_succ])
                refine wpAnyH_take (i := 9) (oi := { dst := some 132, op := Op.extract (Operand.tmp 123) 1, type := 4, pos := "law.go:247", after := #[{ on := 7, ground := Ground.data }, { on := 12, ground := Ground.gcOnly Departure.lateStores }], guard := none }) (v := ?vvCx119) rfl (by kernel_rfl) (by kernel_rfl) (by kernel_rfl) (fun _ _ _ h => h) (Or.inl ⟨by rfl, ?hyCx119⟩) (by assumption) ?rsCx119
                case hyCx119 =>
                  intro w hSw
                  (try dsimp only at hSw)
                  go_simp
                  (try with_reducible rfl)
                (try simp only [Act.put, List.setIfInBounds_toArray, List.set_cons_zero, List.set_cons_succ])
                refine wpAnyH_take (i := 10) (oi := { dst := some 133, op := Op.extract (Operand.tmp 123) 2, type := 40, pos := "law.go:247", after := #[{ on := 7, ground := Ground.data }, { on := 13, ground := Ground.gcOnly Departure.lateStores }], guard := none }) (v := ?vvCx1110) rfl (by kernel_rfl) (by kernel_rfl) (by kernel_rfl) (fun _ _ _ h => h) (Or.inl ⟨by rfl, ?hyCx1110⟩) (by assumption) ?rsCx1110
                case hyCx1110 =>
                  intro w hSw
                  (try dsimp only at hSw)
                  go_simp
                  (try with_reducible rfl)
                (try simp only [Act.put, List.setIfInBounds_toArray, List.set_cons_zero, List.set_cons_succ])
                refine wpAnyH_ready (rs := [12]) (by kernel_rfl) (by simp) ?_
                refine AllReadyH.cons (o := { dst := none, op := Op.store 24 (Operand.tmp 15) (Operand.tmp 131), type := 0, pos := "law.go:247", after := #[{ on := 11, ground := Ground.data }, { on := 8, ground := Ground.data }, { on := 6, ground := Ground.chain }, { on := 0, ground := Ground.phase }, { on := 1, ground := Ground.phase }, { on := 2, ground := Ground.phase }, { on := 3, ground := Ground.phase }, { on := 4, ground := Ground.phase }, { on := 5, ground := Ground.phase }, { on := 6, ground := Ground.phase }, { on := 7, ground := Ground.phase }, { on := 8, ground := Ground.phase }, { on := 9, ground := Ground.textOnly Departure.lateStores }, { on := 10, ground := Ground.textOnly Departure.lateStores }, { on := 11, ground := Ground.phase }], guard := none }) rfl (fun K hK => ?_) AllReadyH.nil
                have hoS : (#[.int .i64 1, .int .i64 la, .int .i64 0, .string ⟨#[]⟩, .string ⟨#[]⟩, .int .i64 0, xv, .string ⟨#[]⟩, .int .i64 0] : Array Value).all (·.oneCell') = true := all_oneCell_toArray (nineL_one (f := ⟨1, la, 0, ⟨#[]⟩, ⟨#[]⟩, 0, ⟨#[]⟩, 0⟩) (u := xv) hone)
                refine step_store_run (by rfl) 24 (.tmp 15) (.tmp 131) rfl (p := ⟨_, 0, none⟩) rfl rfl (run_storeVar_row _ _ 24 24 _ #[.int .i64 1, .int .i64 la, .int .i64 0, .string ⟨#[]⟩, .string ⟨#[]⟩, .int .i64 0, xv, .string ⟨#[]⟩, .int .i64 0] hZ hsz9 rfl hoS) ?_
                replace hZ := setRow_heap _ _ _ #[.int .i64 1, .int .i64 la, .int .i64 0, .string ⟨#[]⟩, .string ⟨#[]⟩, .int .i64 0, xv, .string ⟨#[]⟩, .int .i64 0] _ _ hZ
                replace hbX := setRow_of hbX hzx #[.int .i64 1, .int .i64 la, .int .i64 0, .string ⟨#[]⟩, .string ⟨#[]⟩, .int .i64 0, xv, .string ⟨#[]⟩, .int .i64 0]
                refine hK.out _ _ ?_ (fun hHeld => ?_)
                · exact HB.out _ hbX
                clear hK K
                (try simp only [Act.put, List.setIfInBounds_toArray, List.set_cons_zero, List.set_cons_succ])
                refine wpAnyH_take (i := 13) (oi := { dst := some 16, op := Op.assign (Operand.tmp 132), type := 4, pos := "law.go:247", after := #[{ on := 9, ground := Ground.data }, { on := 12, ground := Ground.chain }, { on := 0, ground := Ground.phase }, { on := 1, ground := Ground.phase }, { on := 2, ground := Ground.phase }, { on := 3, ground := Ground.phase }, { on := 4, ground := Ground.phase }, { on := 5, ground := Ground.phase }, { on := 6, ground := Ground.phase }, { on := 7, ground := Ground.phase }, { on := 8, ground := Ground.phase }, { on := 9, ground := Ground.phase }, { on := 10, ground := Ground.textOnly Departure.lateStores }, { on := 11, ground := Ground.phase }, { on := 12, ground := Ground.phase }], guard := none }) (v := ?vvCx1113) rfl (by kernel_rfl) (by kernel_rfl) (by kernel_rfl) (fun _ _ _ h => h) (Or.inl ⟨by rfl, ?hyCx1113⟩) (by assumption) ?rsCx1113
                case hyCx1113 =>
                  intro w hSw
                  (try dsimp only at hSw)
                  go_simp
                  (try with_reducible rfl)
                (try simp only [Act.put, List.setIfInBounds_toArray, List.set_cons_zero, List.set_cons_succ])
                refine wpAnyH_take (i := 14) (oi := { dst := some 17, op := Op.assign (Operand.tmp 133), type := 40, pos := "law.go:247", after := #[{ on := 10, ground := Ground.data }, { on := 13, ground := Ground.chain }, { on := 0, ground := Ground.phase }, { on := 1, ground := Ground.phase }, { on := 2, ground := Ground.phase }, { on := 3, ground := Ground.phase }, { on := 4, ground := Ground.phase }, { on := 5, ground := Ground.phase }, { on := 6, ground := Ground.phase }, { on := 7, ground := Ground.phase }, { on := 8, ground := Ground.phase }, { on := 9, ground := Ground.phase }, { on := 10, ground := Ground.phase }, { on := 11, ground := Ground.phase }, { on := 12, ground := Ground.phase }, { on := 13, ground := Ground.phase }], guard := none }) (v := ?vvCx1114) rfl (by kernel_rfl) (by kernel_rfl) (by kernel_rfl) (fun _ _ _ h => h) (Or.inl ⟨by rfl, ?hyCx1114⟩) (by assumption) ?rsCx1114
                case hyCx1114 =>
                  intro w hSw
                  (try dsimp only at hSw)
                  go_simp
                  (try with_reducible rfl)
                (try simp only [Act.put, List.setIfInBounds_toArray, List.set_cons_zero, List.set_cons_succ])
                refine wpAnyH_done (by kernel_rfl) ?_ _
                have k1 := row_rng hZ 1 _ rfl
                simp only [Nat.reduceAdd] at k1
                go_wp2_with fail
                go_roundg (l.length - (i + 1))
                case measure => have := HM.out; omega
                case rel => exact Lib.hid ⟨i + 1, by go_num, by omega, rfl, hSt.below hbX, (hU.below hbX (Nat.le_refl _)).more hbX.size⟩
        · obtain rfl : i = l.length := by omega
          have H40 : Hid (La4 w z hs l U (.slice p2 U.length c2) U.length (.int .i64 0) wr) := Lib.hid ⟨0, rfl, Nat.zero_le _, rfl, hSt, hU⟩
          clear hSt hU hm hi HLa
          go_wp2_with fail
          go_loopg [18] U.length (fun mm iv wr => Hid (La4 w z hs l U (.slice p2 U.length c2) mm iv wr))
          case atStart => exact H40
          case round =>
            obtain ⟨i, rfl, hi, hm, hSt, hU⟩ := hrel.out
            clear hrel H40
            by_cases hlt : i < U.length
            · have r1 : (i : Int) < (U.length : Int) := by omega
              obtain ⟨g, o, rfl, hg⟩ := hU.A.addr (by omega)
              obtain ⟨t, x, q, m, d, hat, hf, hIt, hR⟩ := eltR hU.A hg hlt
              obtain ⟨jt, hjt⟩ := List.mem_iff_getElem?.1 (HUm.out t (List.mem_of_getElem? hat))
              have hnt := nodes_get hjt
              clear hjt
              have hnl := HN.out
              have hu100 := HUl.out
              obtain ⟨t_k, t_i, t_g, t_n, t_f, t_a, t_b, t_s⟩ := x
              have e1 : aggV t.f (.slice q m d) = .agg #[.int .i64 t_k, .int .i64 t_i, .int .i64 t_g, .string t_n, .string t_f, .int .i64 t_a, .slice q m d, .string t_b, .int .i64 t_s] := by rw [hf]; rfl
              have HDe1 := Lib.hid (fun (W : World) (hb : Below wr.heap.size wr W) (h : LSt w z (two hs (rowsD hs (rowsI hs l l.length) U i)) W) => HDe.out z W i h t hat (.slice q m d) ((hIt.below hb (Nat.le_refl _)).more hb.size) (by omega))
              have HGo1 := Lib.hid (fun (W : World) (hI : ItemsAt W W.heap.size N (.slice q m d) t.items) (h : LSt w z (two hs (rowsD hs (rowsI hs l l.length) U (i + 1))) W) => HGo.out z W i h t hat (.slice q m d) hI (by omega))
              have HLe1 := Lib.hid (fun (W : World) (h : LSt w z (two hs (rowsD hs (rowsI hs l l.length) U (i + 1))) W) => HLe.out z W i h hlt)
              rw [e1] at HDe1 HGo1
              have HElt := Lib.hid (fun (W : World) (h : ItemsAt W W.heap.size (N + 1) (.slice (some ⟨g, o, none⟩) U.length c2) U) => h.elt i hlt)
              have HM := Lib.hid hm
              have HAt := Lib.hid hat
              have HF := Lib.hid hf
              unfold nineL at hR
              dsimp only at hR
              clear hat hf hIt hnt hnl e1 hm
              go_upto_region 35 with (fail)
              have hbX := belowD (Below.refl wr.heap.size wr)
              have HBr := Lib.hid (fun W (hb : Below wr.heap.size wr W) => hR W hb)
              refine wp_region_held_drew (S := (fun w' => w'.rangeAt g (o + i * 9) [.int .i64 t_k, .int .i64 t_i, .int .i64 t_g, .string t_n, .string t_f, .int .i64 t_a, .slice q m d, .string t_b, .int .i64 t_s])) (by kernel_rfl) ?_ (fun hHeld => ?_)
              · exact hR _ hbX
              refine wpAnyH_take (i := 0) (oi := { dst := some 153, op := Op.move (Operand.tmp 5), type := 34, pos := "law.go:253", after := #[], guard := none }) (v := ?vvD0) rfl (by kernel_rfl) (by kernel_rfl) (by kernel_rfl) (fun _ _ _ h => h) (Or.inl ⟨by rfl, ?hyD0⟩) (by assumption) ?rsD0
              case hyD0 =>
                intro w hSw
                (try dsimp only at hSw)
                go_simp
                (try with_reducible rfl)
              (try simp only [Act.put, List.setIfInBounds_toArray, List.set_cons_zero, List.set_cons_succ])
              refine wpAnyH_take (i := 2) (oi := { dst := some 155, op := Op.move (Operand.tmp 7), type := 22, pos := "law.go:253", after := #[], guard := none }) (v := ?vvD2) rfl (by kernel_rfl) (by kernel_rfl) (by kernel_rfl) (fun _ _ _ h => h) (Or.inl ⟨by rfl, ?hyD2⟩) (by assumption) ?rsD2
              case hyD2 =>
                intro w hSw
                (try dsimp only at hSw)
                go_simp
                (try with_reducible rfl)
              (try simp only [Act.put, List.setIfInBounds_toArray, List.set_cons_zero, List.set_cons_succ])
              refine wpAnyH_take (i := 3) (oi := { dst := some 156, op := Op.move (Operand.tmp 18), type := 3, pos := "law.go:253", after := #[], guard := none }) (v := ?vvD3) rfl (by kernel_rfl) (by kernel_rfl) (by kernel_rfl) (fun _ _ _ h => h) (Or.inl ⟨by rfl, ?hyD3⟩) (by assumption) ?rsD3
              case hyD3 =>
                intro w hSw
                (try dsimp only at hSw)
                go_simp
                (try with_reducible rfl)
              (try simp only [Act.put, List.setIfInBounds_toArray, List.set_cons_zero, List.set_cons_succ])
              refine wpAnyH_take (i := 4) (oi := { dst := some 157, op := Op.indexAddr 22 (Operand.tmp 155) (Operand.tmp 156), type := 0, pos := "law.go:253", after := #[{ on := 2, ground := Ground.data }, { on := 3, ground := Ground.data }], guard := none }) (v := ?vvD4) rfl (by kernel_rfl) (by kernel_rfl) (by kernel_rfl) (fun _ _ _ h => h) (Or.inl ⟨by rfl, ?hyD4⟩) (by assumption) ?rsD4
              case hyD4 =>
                intro w hSw
                (try dsimp only at hSw)
                go_simp
                (try with_reducible rfl)
              (try simp only [Act.put, List.setIfInBounds_toArray, List.set_cons_zero, List.set_cons_succ])
              refine wpAnyH_take (i := 5) (oi := { dst := some 158, op := Op.load 24 (Operand.tmp 157), type := 24, pos := "law.go:253", after := #[{ on := 4, ground := Ground.data }], guard := none }) rfl (by kernel_rfl) (by kernel_rfl) (by kernel_rfl) (fun _ _ _ h => h) (yieldsIf_load_mid (by rfl) 24 (.tmp 157) rfl g (o + i * 9) rfl [.int .i64 t_k, .int .i64 t_i, .int .i64 t_g, .string t_n, .string t_f, .int .i64 t_a, .slice q m d, .string t_b, .int .i64 t_s] _ (fun w hs => hs) Tryz.underlying24 rfl hsz9) (by assumption) ?_
              (try simp only [Act.put, List.setIfInBounds_toArray, List.set_cons_zero, List.set_cons_succ])
              refine wpAnyH_ready (rs := [1]) (by kernel_rfl) (by simp) ?_
              refine AllReadyH.cons (o := { dst := some 154, op := Op.call { callee := Callee.value (Operand.func 18), args := #[Operand.const (Value.int IntKind.i64 1)], argTypes := #[2] }, type := 24, pos := "law.go:253", after := #[], guard := none }) rfl (fun K hK => ?_) AllReadyH.nil
              go_simp
              refine (HRf1.out _).mono ?_
              rintro e v1 ⟨rfl, hb⟩
              replace hbX := hbX.trans (hb.mono hbX.size)
              clear hb
              go_wp2_with fail
              refine hK.out _ _ ?_ (fun hHeld => ?_)
              · first | exact HBr.out _ hbX | exact hRn
              clear hK K
              (try simp only [Act.put, List.setIfInBounds_toArray, List.set_cons_zero, List.set_cons_succ])
              refine wpAnyH_ready (rs := [6]) (by kernel_rfl) (by simp) ?_
              refine AllReadyH.cons (o := { dst := some 159, op := Op.call { callee := Callee.value (Operand.func 22), args := #[Operand.tmp 153, Operand.tmp 154, Operand.tmp 158], argTypes := #[34, 24, 24] }, type := 46, pos := "law.go:253", after := #[{ on := 0, ground := Ground.data }, { on := 1, ground := Ground.data }, { on := 5, ground := Ground.data }, { on := 1, ground := Ground.chain }], guard := none }) rfl (fun K hK => ?_) AllReadyH.nil
              go_simp
              refine (HDe1.out _ hbX (hSt.below hbX)).mono ?_
              rintro e v2 ⟨rfl, hSn, hTT⟩
              have hUx := (hU.below hbX (Nat.le_refl _)).more hbX.size
              have hbw := (hSt.below hbX).base
              have hrx := HBr.out _ hbX
              have hsame := rng_tt hUx (by omega) hbw (Nat.le_refl _) hTT
              have hUn := items_tt hUx hbw (Nat.le_refl _) hTT
              have hRn := rng_same hrx hsame
              clear hSt hU hUx hbw hrx hsame hTT hbX
              have hSt := hSn
              have hU := hUn
              clear hSn hUn
              go_wp2_with fail
              refine hK.out _ _ ?_ (fun hHeld => ?_)
              · first | exact HBr.out _ hbX | exact hRn
              clear hK K
              (try simp only [Act.put, List.setIfInBounds_toArray, List.set_cons_zero, List.set_cons_succ])
              refine wpAnyH_take (i := 7) (oi := { dst := some 152, op := Op.move (Operand.tmp 159), type := 46, pos := "law.go:253", after := #[{ on := 6, ground := Ground.data }], guard := none }) (v := ?vvD7) rfl (by kernel_rfl) (by kernel_rfl) (by kernel_rfl) (fun _ _ _ h => h) (Or.inl ⟨by rfl, ?hyD7⟩) (by assumption) ?rsD7
              case hyD7 =>
                intro w hSw
                (try dsimp only at hSw)
                go_simp
                (try with_reducible rfl)
              (try simp only [Act.put, List.setIfInBounds_toArray, List.set_cons_zero, List.set_cons_succ])
              refine wpAnyH_take (i := 8) (oi := { dst := some 160, op := Op.extract (Operand.tmp 152) 0, type := 4, pos := "law.go:253", after := #[{ on := 7, ground := Ground.data }], guard := none }) (v := ?vvD8) rfl (by kernel_rfl) (by kernel_rfl) (by kernel_rfl) (fun _ _ _ h => h) (Or.inl ⟨by rfl, ?hyD8⟩) (by assumption) ?rsD8
              case hyD8 =>
                intro w hSw
                (try dsimp only at hSw)
                go_simp
                (try with_reducible rfl)
              (try simp only [Act.put, List.setIfInBounds_toArray, List.set_cons_zero, List.set_cons_succ])
              refine wpAnyH_take (i := 9) (oi := { dst := some 161, op := Op.extract (Operand.tmp 152) 1, type := 40, pos := "law.go:253", after := #[{ on := 7, ground := Ground.data }, { on := 10, ground := Ground.gcOnly Departure.lateStores }], guard := none }) (v := ?vvD9) rfl (by kernel_rfl) (by kernel_rfl) (by kernel_rfl) (fun _ _ _ h => h) (Or.inl ⟨by rfl, ?hyD9⟩) (by assumption) ?rsD9
              case hyD9 =>
                intro w hSw
                (try dsimp only at hSw)
                go_simp
                (try with_reducible rfl)
              (try simp only [Act.put, List.setIfInBounds_toArray, List.set_cons_zero, List.set_cons_succ])
              refine wpAnyH_take (i := 10) (oi := { dst := some 19, op := Op.assign (Operand.tmp 160), type := 4, pos := "law.go:253", after := #[{ on := 8, ground := Ground.data }, { on := 6, ground := Ground.chain }, { on := 0, ground := Ground.phase }, { on := 1, ground := Ground.phase }, { on := 2, ground := Ground.phase }, { on := 3, ground := Ground.phase }, { on := 4, ground := Ground.phase }, { on := 5, ground := Ground.phase }, { on := 6, ground := Ground.phase }, { on := 7, ground := Ground.phase }, { on := 8, ground := Ground.phase }, { on := 9, ground := Ground.textOnly Departure.lateStores }], guard := none }) (v := ?vvD10) rfl (by kernel_rfl) (by kernel_rfl) (by kernel_rfl) (fun _ _ _ h => h) (Or.inl ⟨by rfl, ?hyD10⟩) (by assumption) ?rsD10
              case hyD10 =>
                intro w hSw
                (try dsimp only at hSw)
                go_simp
                (try with_reducible rfl)
              (try simp only [Act.put, List.setIfInBounds_toArray, List.set_cons_zero, List.set_cons_succ])
              refine wpAnyH_take (i := 11) (oi := { dst := some 20, op := Op.assign (Operand.tmp 161), type := 40, pos := "law.go:253", after := #[{ on := 9, ground := Ground.data }, { on := 10, ground := Ground.chain }, { on := 0, ground := Ground.phase }, { on := 1, ground := Ground.phase }, { on := 2, ground := Ground.phase }, { on := 3, ground := Ground.phase }, { on := 4, ground := Ground.phase }, { on := 5, ground := Ground.phase }, { on := 6, ground := Ground.phase }, { on := 7, ground := Ground.phase }, { on := 8, ground := Ground.phase }, { on := 9, ground := Ground.phase }, { on := 10, ground := Ground.phase }], guard := none }) (v := ?vvD11) rfl (by kernel_rfl) (by kernel_rfl) (by kernel_rfl) (fun _ _ _ h => h) (Or.inl ⟨by rfl, ?hyD11⟩) (by assumption) ?rsD11
              case hyD11 =>
                intro w hSw
                (try dsimp only at hSw)
                go_simp
                (try with_reducible rfl)
              (try simp only [Act.put, List.setIfInBounds_toArray, List.set_cons_zero, List.set_cons_succ])
              refine wpAnyH_done (by kernel_rfl) ?_ _
              go_upto_region 36 with (fail)
              replace hU := (hU.below (belowD (Below.refl _ _)) (Nat.le_refl _)).more (belowD (Below.refl v2.heap.size v2)).size
              replace hSt := hSt.below (belowD (Below.refl _ _))
              have hbX := Below.refl v2.drew.heap.size v2.drew
              obtain ⟨t', x', q', m', d', hat', hf', hC', hIt⟩ := HElt.out _ hU.A
              obtain rfl : t = t' := by have h1 := HAt.out; rw [hat'] at h1; exact (Option.some.inj h1).symm
              obtain ⟨eq1, eq2, eq3⟩ : q = q' ∧ m = m' ∧ d = d' := by have h1 := hRn 6 _ rfl; have h2 := cells_rng hC' 6 _ rfl; have h1 : v2.drew.cell? ⟨g, o + i * 9 + 6, none⟩ = _ := h1; have h2 : v2.drew.cell? ⟨g, o + i * 9 + 6, none⟩ = _ := h2; rw [h1] at h2; simpa using h2
              subst eq1 eq2 eq3
              have HB := Lib.hid (fun W (hb : Below v2.drew.heap.size v2.drew W) => (rng_same (show v2.drew.rangeAt g (o + i * 9) [.int .i64 t_k, .int .i64 t_i, .int .i64 t_g, .string t_n, .string t_f, .int .i64 t_a, .slice q m d, .string t_b, .int .i64 t_s] from hRn) (hb.block g (by have := hU.A.addr (by omega); obtain ⟨g9, o9, e9, h9⟩ := this; simp only [Option.some.injEq, Addr.mk.injEq, and_true] at e9; rw [e9.1]; exact h9)) : W.rangeAt g (o + i * 9) [.int .i64 t_k, .int .i64 t_i, .int .i64 t_g, .string t_n, .string t_f, .int .i64 t_a, .slice q m d, .string t_b, .int .i64 t_s]))
              clear hat' hf' hC' hRn
              refine wp_region_held_drew (S := (fun w' => w'.rangeAt g (o + i * 9) [.int .i64 t_k, .int .i64 t_i, .int .i64 t_g, .string t_n, .string t_f, .int .i64 t_a, .slice q m d, .string t_b, .int .i64 t_s])) (by kernel_rfl) ?_ (fun hHeld => ?_)
              · exact HB.out _ hbX
              generalize v2.drew = vd at *
              refine wpAnyH_take (i := 0) (oi := { dst := some 163, op := Op.move (Operand.tmp 5), type := 34, pos := "law.go:254", after := #[], guard := none }) (v := ?vvE0) rfl (by kernel_rfl) (by kernel_rfl) (by kernel_rfl) (fun _ _ _ h => h) (Or.inl ⟨by rfl, ?hyE0⟩) (by assumption) ?rsE0
              case hyE0 =>
                intro w hSw
                (try dsimp only at hSw)
                go_simp
                (try with_reducible rfl)
              (try simp only [Act.put, List.setIfInBounds_toArray, List.set_cons_zero, List.set_cons_succ])
              refine wpAnyH_take (i := 2) (oi := { dst := some 165, op := Op.move (Operand.tmp 7), type := 22, pos := "law.go:254", after := #[], guard := none }) (v := ?vvE2) rfl (by kernel_rfl) (by kernel_rfl) (by kernel_rfl) (fun _ _ _ h => h) (Or.inl ⟨by rfl, ?hyE2⟩) (by assumption) ?rsE2
              case hyE2 =>
                intro w hSw
                (try dsimp only at hSw)
                go_simp
                (try with_reducible rfl)
              (try simp only [Act.put, List.setIfInBounds_toArray, List.set_cons_zero, List.set_cons_succ])
              refine wpAnyH_take (i := 3) (oi := { dst := some 166, op := Op.move (Operand.tmp 18), type := 3, pos := "law.go:254", after := #[], guard := none }) (v := ?vvE3) rfl (by kernel_rfl) (by kernel_rfl) (by kernel_rfl) (fun _ _ _ h => h) (Or.inl ⟨by rfl, ?hyE3⟩) (by assumption) ?rsE3
              case hyE3 =>
                intro w hSw
                (try dsimp only at hSw)
                go_simp
                (try with_reducible rfl)
              (try simp only [Act.put, List.setIfInBounds_toArray, List.set_cons_zero, List.set_cons_succ])
              refine wpAnyH_take (i := 4) (oi := { dst := some 167, op := Op.indexAddr 22 (Operand.tmp 165) (Operand.tmp 166), type := 0, pos := "law.go:254", after := #[{ on := 2, ground := Ground.data }, { on := 3, ground := Ground.data }], guard := none }) (v := ?vvE4) rfl (by kernel_rfl) (by kernel_rfl) (by kernel_rfl) (fun _ _ _ h => h) (Or.inl ⟨by rfl, ?hyE4⟩) (by assumption) ?rsE4
              case hyE4 =>
                intro w hSw
                (try dsimp only at hSw)
                go_simp
                (try with_reducible rfl)
              (try simp only [Act.put, List.setIfInBounds_toArray, List.set_cons_zero, List.set_cons_succ])
              refine wpAnyH_take (i := 5) (oi := { dst := some 168, op := Op.load 24 (Operand.tmp 167), type := 24, pos := "law.go:254", after := #[{ on := 4, ground := Ground.data }], guard := none }) rfl (by kernel_rfl) (by kernel_rfl) (by kernel_rfl) (fun _ _ _ h => h) (yieldsIf_load_mid (by rfl) 24 (.tmp 167) rfl g (o + i * 9) rfl [.int .i64 t_k, .int .i64 t_i, .int .i64 t_g, .string t_n, .string t_f, .int .i64 t_a, .slice q m d, .string t_b, .int .i64 t_s] _ (fun w hs => hs) Tryz.underlying24 rfl hsz9) (by assumption) ?_
              (try simp only [Act.put, List.setIfInBounds_toArray, List.set_cons_zero, List.set_cons_succ])
              refine wpAnyH_ready (rs := [1, 11]) (by kernel_rfl) (by simp) ?_
              refine (AllReadyH.cons (o := { dst := some 164, op := Op.call { callee := Callee.value (Operand.func 18), args := #[Operand.const (Value.int IntKind.i64 1)], argTypes := #[2] }, type := 24, pos := "law.go:254", after := #[], guard := none }) rfl (fun K hK => ?_) (AllReadyH.cons (o := { dst := some 21, op := Op.alloc 24, type := 0, pos := "law.go:254", after := #[], guard := none }) rfl (fun K hK => ?_) AllReadyH.nil))
              · skip
                go_simp
                refine (HRf1.out _).mono ?_
                rintro e y1 ⟨rfl, hb⟩
                replace hbX := hbX.trans (hb.mono hbX.size)
                clear hb
                go_wp2_with fail
                refine hK.out _ _ ?_ (fun hHeld => ?_)
                · exact HB.out _ hbX
                clear hK K
                (try simp only [Act.put, List.setIfInBounds_toArray, List.set_cons_zero, List.set_cons_succ])
                refine wpAnyH_ready (rs := [6, 11]) (by kernel_rfl) (by simp) ?_
                refine (AllReadyH.cons (o := { dst := some 169, op := Op.call { callee := Callee.value (Operand.func 32), args := #[Operand.tmp 163, Operand.tmp 164, Operand.tmp 168], argTypes := #[34, 24, 24] }, type := 60, pos := "law.go:254", after := #[{ on := 0, ground := Ground.data }, { on := 1, ground := Ground.data }, { on := 5, ground := Ground.data }, { on := 1, ground := Ground.chain }], guard := none }) rfl (fun K hK => ?_) (AllReadyH.cons (o := { dst := some 21, op := Op.alloc 24, type := 0, pos := "law.go:254", after := #[], guard := none }) rfl (fun K hK => ?_) AllReadyH.nil))
                · skip
                  go_simp
                  refine (HGo1.out _ ((hIt.below hbX (Nat.le_refl _)).more hbX.size) (hSt.below hbX)).mono ?_
                  rintro e y2 ⟨xv, rfl, hone, hb⟩
                  replace hbX := hbX.trans (hb.mono hbX.size)
                  clear hb
                  go_wp2_with fail
                  refine hK.out _ _ ?_ (fun hHeld => ?_)
                  · exact HB.out _ hbX
                  clear hK K
                  (try simp only [Act.put, List.setIfInBounds_toArray, List.set_cons_zero, List.set_cons_succ])
                  refine wpAnyH_take (i := 7) (oi := { dst := some 162, op := Op.move (Operand.tmp 169), type := 60, pos := "law.go:254", after := #[{ on := 6, ground := Ground.data }], guard := none }) (v := ?vvEx1x67) rfl (by kernel_rfl) (by kernel_rfl) (by kernel_rfl) (fun _ _ _ h => h) (Or.inl ⟨by rfl, ?hyEx1x67⟩) (by assumption) ?rsEx1x67
                  case hyEx1x67 =>
                    intro w hSw
                    (try dsimp only at hSw)
                    go_simp
                    (try with_reducible rfl)
                  (try simp only [Act.put, List.setIfInBounds_toArray, List.set_cons_zero, List.set_cons_succ])
                  refine wpAnyH_take (i := 8) (oi := { dst := some 170, op := Op.extract (Operand.tmp 162) 0, type := 24, pos := "law.go:254", after := #[{ on := 7, ground := Ground.data }], guard := none }) (v := ?vvEx1x68) rfl (by kernel_rfl) (by kernel_rfl) (by kernel_rfl) (fun _ _ _ h => h) (Or.inl ⟨by rfl, ?hyEx1x68⟩) (by assumption) ?rsEx1x68
                  case hyEx1x68 =>
                    intro w hSw
                    (try dsimp only at hSw)
                    go_simp
                    (try with_reducible rfl)
                  (try simp only [Act.put, List.setIfInBounds_toArray, List.set_cons_zero, List.set_cons_succ])
                  refine wpAnyH_take (i := 9) (oi := { dst := some 171, op := Op.extract (Operand.tmp 162) 1, type := 4, pos := "law.go:254", after := #[{ on := 7, ground := Ground.data }, { on := 12, ground := Ground.gcOnly Departure.lateStores }], guard := none }) (v := ?vvEx1x69) rfl (by kernel_rfl) (by kernel_rfl) (by kernel_rfl) (fun _ _ _ h => h) (Or.inl ⟨by rfl, ?hyEx1x69⟩) (by assumption) ?rsEx1x69
                  case hyEx1x69 =>
                    intro w hSw
                    (try dsimp only at hSw)
                    go_simp
                    (try with_reducible rfl)
                  (try simp only [Act.put, List.setIfInBounds_toArray, List.set_cons_zero, List.set_cons_succ])
                  refine wpAnyH_take (i := 10) (oi := { dst := some 172, op := Op.extract (Operand.tmp 162) 2, type := 40, pos := "law.go:254", after := #[{ on := 7, ground := Ground.data }, { on := 13, ground := Ground.gcOnly Departure.lateStores }], guard := none }) (v := ?vvEx1x610) rfl (by kernel_rfl) (by kernel_rfl) (by kernel_rfl) (fun _ _ _ h => h) (Or.inl ⟨by rfl, ?hyEx1x610⟩) (by assumption) ?rsEx1x610
                  case hyEx1x610 =>
                    intro w hSw
                    (try dsimp only at hSw)
                    go_simp
                    (try with_reducible rfl)
                  (try simp only [Act.put, List.setIfInBounds_toArray, List.set_cons_zero, List.set_cons_succ])
                  refine wpAnyH_ready (rs := [11]) (by kernel_rfl) (by simp) ?_
                  refine AllReadyH.cons (o := { dst := some 21, op := Op.alloc 24, type := 0, pos := "law.go:254", after := #[], guard := none }) rfl (fun K hK => ?_) AllReadyH.nil
                  obtain ⟨hbA, hZ, hzx⟩ := alloc_of hbX (.cells #[.int .i64 0, .int .i64 0, .int .i64 0, .string ⟨#[]⟩, .string ⟨#[]⟩, .int .i64 0, .slice none 0 0, .string ⟨#[]⟩, .int .i64 0] 24)
                  go_simp
                  clear hbX
                  have hbX := hbA
                  clear hbA
                  refine hK.out _ _ ?_ (fun hHeld => ?_)
                  · exact HB.out _ hbX
                  clear hK K
                  (try simp only [Act.put, List.setIfInBounds_toArray, List.set_cons_zero, List.set_cons_succ])
                  refine wpAnyH_ready (rs := [12]) (by kernel_rfl) (by simp) ?_
                  refine AllReadyH.cons (o := { dst := none, op := Op.store 24 (Operand.tmp 21) (Operand.tmp 170), type := 0, pos := "law.go:254", after := #[{ on := 11, ground := Ground.data }, { on := 8, ground := Ground.data }, { on := 6, ground := Ground.chain }, { on := 0, ground := Ground.phase }, { on := 1, ground := Ground.phase }, { on := 2, ground := Ground.phase }, { on := 3, ground := Ground.phase }, { on := 4, ground := Ground.phase }, { on := 5, ground := Ground.phase }, { on := 6, ground := Ground.phase }, { on := 7, ground := Ground.phase }, { on := 8, ground := Ground.phase }, { on := 9, ground := Ground.textOnly Departure.lateStores }, { on := 10, ground := Ground.textOnly Departure.lateStores }, { on := 11, ground := Ground.phase }], guard := none }) rfl (fun K hK => ?_) AllReadyH.nil
                  have hoS : (#[.int .i64 0, .int .i64 0, .int .i64 0, .string ⟨#[]⟩, .string ⟨#[]⟩, .int .i64 0, xv, .string ⟨#[]⟩, .int .i64 0] : Array Value).all (·.oneCell') = true := all_oneCell_toArray (nineL_one (f := zeroF) (u := xv) hone)
                  refine step_store_run (by rfl) 24 (.tmp 21) (.tmp 170) rfl (p := ⟨_, 0, none⟩) rfl rfl (run_storeVar_row _ _ 24 24 _ #[.int .i64 0, .int .i64 0, .int .i64 0, .string ⟨#[]⟩, .string ⟨#[]⟩, .int .i64 0, xv, .string ⟨#[]⟩, .int .i64 0] hZ hsz9 rfl hoS) ?_
                  replace hZ := setRow_heap _ _ _ #[.int .i64 0, .int .i64 0, .int .i64 0, .string ⟨#[]⟩, .string ⟨#[]⟩, .int .i64 0, xv, .string ⟨#[]⟩, .int .i64 0] _ _ hZ
                  replace hbX := setRow_of hbX hzx #[.int .i64 0, .int .i64 0, .int .i64 0, .string ⟨#[]⟩, .string ⟨#[]⟩, .int .i64 0, xv, .string ⟨#[]⟩, .int .i64 0]
                  refine hK.out _ _ ?_ (fun hHeld => ?_)
                  · exact HB.out _ hbX
                  clear hK K
                  (try simp only [Act.put, List.setIfInBounds_toArray, List.set_cons_zero, List.set_cons_succ])
                  refine wpAnyH_take (i := 13) (oi := { dst := some 22, op := Op.assign (Operand.tmp 171), type := 4, pos := "law.go:254", after := #[{ on := 9, ground := Ground.data }, { on := 12, ground := Ground.chain }, { on := 0, ground := Ground.phase }, { on := 1, ground := Ground.phase }, { on := 2, ground := Ground.phase }, { on := 3, ground := Ground.phase }, { on := 4, ground := Ground.phase }, { on := 5, ground := Ground.phase }, { on := 6, ground := Ground.phase }, { on := 7, ground := Ground.phase }, { on := 8, ground := Ground.phase }, { on := 9, ground := Ground.phase }, { on := 10, ground := Ground.textOnly Departure.lateStores }, { on := 11, ground := Ground.phase }, { on := 12, ground := Ground.phase }], guard := none }) (v := ?vvEx1x613) rfl (by kernel_rfl) (by kernel_rfl) (by kernel_rfl) (fun _ _ _ h => h) (Or.inl ⟨by rfl, ?hyEx1x613⟩) (by assumption) ?rsEx1x613
                  case hyEx1x613 =>
                    intro w hSw
                    (try dsimp only at hSw)
                    go_simp
                    (try with_reducible rfl)
                  (try simp only [Act.put, List.setIfInBounds_toArray, List.set_cons_zero, List.set_cons_succ])
                  refine wpAnyH_take (i := 14) (oi := { dst := some 23, op := Op.assign (Operand.tmp 172), type := 40, pos := "law.go:254", after := #[{ on := 10, ground := Ground.data }, { on := 13, ground := Ground.chain }, { on := 0, ground := Ground.phase }, { on := 1, ground := Ground.phase }, { on := 2, ground := Ground.phase }, { on := 3, ground := Ground.phase }, { on := 4, ground := Ground.phase }, { on := 5, ground := Ground.phase }, { on := 6, ground := Ground.phase }, { on := 7, ground := Ground.phase }, { on := 8, ground := Ground.phase }, { on := 9, ground := Ground.phase }, { on := 10, ground := Ground.phase }, { on := 11, ground := Ground.phase }, { on := 12, ground := Ground.phase }, { on := 13, ground := Ground.phase }], guard := none }) (v := ?vvEx1x614) rfl (by kernel_rfl) (by kernel_rfl) (by kernel_rfl) (fun _ _ _ h => h) (Or.inl ⟨by rfl, ?hyEx1x614⟩) (by assumption) ?rsEx1x614
                  case hyEx1x614 =>
                    intro w hSw
                    (try dsimp only at hSw)
                    go_simp
                    (try with_reducible rfl)
                  (try simp only [Act.put, List.setIfInBounds_toArray, List.set_cons_zero, List.set_cons_succ])
                  refine wpAnyH_done (by kernel_rfl) ?_ _
                  go_wp2_with fail
                  refine (HRf1.out _).mono ?_
                  rintro e u1 ⟨rfl, hb⟩
                  replace hbX := hbX.trans (hb.mono hbX.size)
                  clear hb
                  go_wp2_with fail
                  refine (HLe1.out _ (hSt.below hbX)).mono ?_
                  rintro e u2 ⟨rfl, hb⟩
                  replace hbX := hbX.trans (hb.mono hbX.size)
                  clear hb
                  have w1' : IntKind.i64.wrap ((U.length : Int) - 1) = (U.length : Int) - 1 := IntWalk.i64_in _ (by omega)
                  have w2' : IntKind.i64.wrap ((U.length : Int) - 1 - (i : Int)) = (U.length : Int) - 1 - (i : Int) := IntWalk.i64_in _ (by omega)
                  go_wp2_with fail
                  go_roundg (U.length - (i + 1))
                  case measure => have := HM.out; omega
                  case rel => exact Lib.hid ⟨i + 1, by go_num, by omega, rfl, hSt.below hbX, (hU.below hbX (Nat.le_refl _)).more hbX.size⟩
                · skip
                  obtain ⟨hbA, hZ, hzx⟩ := alloc_of hbX (.cells #[.int .i64 0, .int .i64 0, .int .i64 0, .string ⟨#[]⟩, .string ⟨#[]⟩, .int .i64 0, .slice none 0 0, .string ⟨#[]⟩, .int .i64 0] 24)
                  go_simp
                  clear hbX
                  have hbX := hbA
                  clear hbA
                  refine hK.out _ _ ?_ (fun hHeld => ?_)
                  · exact HB.out _ hbX
                  clear hK K
                  (try simp only [Act.put, List.setIfInBounds_toArray, List.set_cons_zero, List.set_cons_succ])
                  refine wpAnyH_ready (rs := [6]) (by kernel_rfl) (by simp) ?_
                  refine AllReadyH.cons (o := { dst := some 169, op := Op.call { callee := Callee.value (Operand.func 32), args := #[Operand.tmp 163, Operand.tmp 164, Operand.tmp 168], argTypes := #[34, 24, 24] }, type := 60, pos := "law.go:254", after := #[{ on := 0, ground := Ground.data }, { on := 1, ground := Ground.data }, { on := 5, ground := Ground.data }, { on := 1, ground := Ground.chain }], guard := none }) rfl (fun K hK => ?_) AllReadyH.nil
                  go_simp
                  refine (HGo1.out _ ((hIt.below hbX (Nat.le_refl _)).more hbX.size) (hSt.below hbX)).mono ?_
                  rintro e y2 ⟨xv, rfl, hone, hb⟩
                  replace hbX := hbX.trans (hb.mono hbX.size)
                  replace hZ := (hb.block _ (Array.getElem?_eq_some_iff.1 hZ).1).trans hZ
                  clear hb
                  go_wp2_with fail
                  refine hK.out _ _ ?_ (fun hHeld => ?_)
                  · exact HB.out _ hbX
                  clear hK K
                  (try simp only [Act.put, List.setIfInBounds_toArray, List.set_cons_zero, List.set_cons_succ])
                  refine wpAnyH_take (i := 7) (oi := { dst := some 162, op := Op.move (Operand.tmp 169), type := 60, pos := "law.go:254", after := #[{ on := 6, ground := Ground.data }], guard := none }) (v := ?vvEx1x117) rfl (by kernel_rfl) (by kernel_rfl) (by kernel_rfl) (fun _ _ _ h => h) (Or.inl ⟨by rfl, ?hyEx1x117⟩) (by assumption) ?rsEx1x117
                  case hyEx1x117 =>
                    intro w hSw
                    (try dsimp only at hSw)
                    go_simp
                    (try with_reducible rfl)
                  (try simp only [Act.put, List.setIfInBounds_toArray, List.set_cons_zero, List.set_cons_succ])
                  refine wpAnyH_take (i := 8) (oi := { dst := some 170, op := Op.extract (Operand.tmp 162) 0, type := 24, pos := "law.go:254", after := #[{ on := 7, ground := Ground.data }], guard := none }) (v := ?vvEx1x118) rfl (by kernel_rfl) (by kernel_rfl) (by kernel_rfl) (fun _ _ _ h => h) (Or.inl ⟨by rfl, ?hyEx1x118⟩) (by assumption) ?rsEx1x118
                  case hyEx1x118 =>
                    intro w hSw
                    (try dsimp only at hSw)
                    go_simp
                    (try with_reducible rfl)
                  (try simp only [Act.put, List.setIfInBounds_toArray, List.set_cons_zero, List.set_cons_succ])
                  refine wpAnyH_take (i := 9) (oi := { dst := some 171, op := Op.extract (Operand.tmp 162) 1, type := 4, pos := "law.go:254", after := #[{ on := 7, ground := Ground.data }, { on := 12, ground := Ground.gcOnly Departure.lateStores }], guard := none }) (v := ?vvEx1x119) rfl (by kernel_rfl) (by kernel_rfl) (by kernel_rfl) (fun _ _ _ h => h) (Or.inl ⟨by rfl, ?hyEx1x119⟩) (by assumption) ?rsEx1x119
                  case hyEx1x119 =>
                    intro w hSw
                    (try dsimp only at hSw)
                    go_simp
                    (try with_reducible rfl)
                  (try simp only [Act.put, List.setIfInBounds_toArray, List.set_cons_zero, List.set_cons_succ])
                  refine wpAnyH_take (i := 10) (oi := { dst := some 172, op := Op.extract (Operand.tmp 162) 2, type := 40, pos := "law.go:254", after := #[{ on := 7, ground := Ground.data }, { on := 13, ground := Ground.gcOnly Departure.lateStores }], guard := none }) (v := ?vvEx1x1110) rfl (by kernel_rfl) (by kernel_rfl) (by kernel_rfl) (fun _ _ _ h => h) (Or.inl ⟨by rfl, ?hyEx1x1110⟩) (by assumption) ?rsEx1x1110
                  case hyEx1x1110 =>
                    intro w hSw
                    (try dsimp only at hSw)
                    go_simp
                    (try with_reducible rfl)
                  (try simp only [Act.put, List.setIfInBounds_toArray, List.set_cons_zero, List.set_cons_succ])
                  refine wpAnyH_ready (rs := [12]) (by kernel_rfl) (by simp) ?_
                  refine AllReadyH.cons (o := { dst := none, op := Op.store 24 (Operand.tmp 21) (Operand.tmp 170), type := 0, pos := "law.go:254", after := #[{ on := 11, ground := Ground.data }, { on := 8, ground := Ground.data }, { on := 6, ground := Ground.chain }, { on := 0, ground := Ground.phase }, { on := 1, ground := Ground.phase }, { on := 2, ground := Ground.phase }, { on := 3, ground := Ground.phase }, { on := 4, ground := Ground.phase }, { on := 5, ground := Ground.phase }, { on := 6, ground := Ground.phase }, { on := 7, ground := Ground.phase }, { on := 8, ground := Ground.phase }, { on := 9, ground := Ground.textOnly Departure.lateStores }, { on := 10, ground := Ground.textOnly Departure.lateStores }, { on := 11, ground := Ground.phase }], guard := none }) rfl (fun K hK => ?_) AllReadyH.nil
                  have hoS : (#[.int .i64 0, .int .i64 0, .int .i64 0, .string ⟨#[]⟩, .string ⟨#[]⟩, .int .i64 0, xv, .string ⟨#[]⟩, .int .i64 0] : Array Value).all (·.oneCell') = true := all_oneCell_toArray (nineL_one (f := zeroF) (u := xv) hone)
                  refine step_store_run (by rfl) 24 (.tmp 21) (.tmp 170) rfl (p := ⟨_, 0, none⟩) rfl rfl (run_storeVar_row _ _ 24 24 _ #[.int .i64 0, .int .i64 0, .int .i64 0, .string ⟨#[]⟩, .string ⟨#[]⟩, .int .i64 0, xv, .string ⟨#[]⟩, .int .i64 0] hZ hsz9 rfl hoS) ?_
                  replace hZ := setRow_heap _ _ _ #[.int .i64 0, .int .i64 0, .int .i64 0, .string ⟨#[]⟩, .string ⟨#[]⟩, .int .i64 0, xv, .string ⟨#[]⟩, .int .i64 0] _ _ hZ
                  replace hbX := setRow_of hbX hzx #[.int .i64 0, .int .i64 0, .int .i64 0, .string ⟨#[]⟩, .string ⟨#[]⟩, .int .i64 0, xv, .string ⟨#[]⟩, .int .i64 0]
                  refine hK.out _ _ ?_ (fun hHeld => ?_)
                  · exact HB.out _ hbX
                  clear hK K
                  (try simp only [Act.put, List.setIfInBounds_toArray, List.set_cons_zero, List.set_cons_succ])
                  refine wpAnyH_take (i := 13) (oi := { dst := some 22, op := Op.assign (Operand.tmp 171), type := 4, pos := "law.go:254", after := #[{ on := 9, ground := Ground.data }, { on := 12, ground := Ground.chain }, { on := 0, ground := Ground.phase }, { on := 1, ground := Ground.phase }, { on := 2, ground := Ground.phase }, { on := 3, ground := Ground.phase }, { on := 4, ground := Ground.phase }, { on := 5, ground := Ground.phase }, { on := 6, ground := Ground.phase }, { on := 7, ground := Ground.phase }, { on := 8, ground := Ground.phase }, { on := 9, ground := Ground.phase }, { on := 10, ground := Ground.textOnly Departure.lateStores }, { on := 11, ground := Ground.phase }, { on := 12, ground := Ground.phase }], guard := none }) (v := ?vvEx1x1113) rfl (by kernel_rfl) (by kernel_rfl) (by kernel_rfl) (fun _ _ _ h => h) (Or.inl ⟨by rfl, ?hyEx1x1113⟩) (by assumption) ?rsEx1x1113
                  case hyEx1x1113 =>
                    intro w hSw
                    (try dsimp only at hSw)
                    go_simp
                    (try with_reducible rfl)
                  (try simp only [Act.put, List.setIfInBounds_toArray, List.set_cons_zero, List.set_cons_succ])
                  refine wpAnyH_take (i := 14) (oi := { dst := some 23, op := Op.assign (Operand.tmp 172), type := 40, pos := "law.go:254", after := #[{ on := 10, ground := Ground.data }, { on := 13, ground := Ground.chain }, { on := 0, ground := Ground.phase }, { on := 1, ground := Ground.phase }, { on := 2, ground := Ground.phase }, { on := 3, ground := Ground.phase }, { on := 4, ground := Ground.phase }, { on := 5, ground := Ground.phase }, { on := 6, ground := Ground.phase }, { on := 7, ground := Ground.phase }, { on := 8, ground := Ground.phase }, { on := 9, ground := Ground.phase }, { on := 10, ground := Ground.phase }, { on := 11, ground := Ground.phase }, { on := 12, ground := Ground.phase }, { on := 13, ground := Ground.phase }], guard := none }) (v := ?vvEx1x1114) rfl (by kernel_rfl) (by kernel_rfl) (by kernel_rfl) (fun _ _ _ h => h) (Or.inl ⟨by rfl, ?hyEx1x1114⟩) (by assumption) ?rsEx1x1114
                  case hyEx1x1114 =>
                    intro w hSw
                    (try dsimp only at hSw)
                    go_simp
                    (try with_reducible rfl)
                  (try simp only [Act.put, List.setIfInBounds_toArray, List.set_cons_zero, List.set_cons_succ])
                  refine wpAnyH_done (by kernel_rfl) ?_ _
                  go_wp2_with fail
                  refine (HRf1.out _).mono ?_
                  rintro e u1 ⟨rfl, hb⟩
                  replace hbX := hbX.trans (hb.mono hbX.size)
                  clear hb
                  go_wp2_with fail
                  refine (HLe1.out _ (hSt.below hbX)).mono ?_
                  rintro e u2 ⟨rfl, hb⟩
                  replace hbX := hbX.trans (hb.mono hbX.size)
                  clear hb
                  have w1' : IntKind.i64.wrap ((U.length : Int) - 1) = (U.length : Int) - 1 := IntWalk.i64_in _ (by omega)
                  have w2' : IntKind.i64.wrap ((U.length : Int) - 1 - (i : Int)) = (U.length : Int) - 1 - (i : Int) := IntWalk.i64_in _ (by omega)
                  go_wp2_with fail
                  go_roundg (U.length - (i + 1))
                  case measure => have := HM.out; omega
                  case rel => exact Lib.hid ⟨i + 1, by go_num, by omega, rfl, hSt.below hbX, (hU.below hbX (Nat.le_refl _)).more hbX.size⟩
              · skip
                obtain ⟨hbA, hZ, hzx⟩ := alloc_of hbX (.cells #[.int .i64 0, .int .i64 0, .int .i64 0, .string ⟨#[]⟩, .string ⟨#[]⟩, .int .i64 0, .slice none 0 0, .string ⟨#[]⟩, .int .i64 0] 24)
                go_simp
                clear hbX
                have hbX := hbA
                clear hbA
                refine hK.out _ _ ?_ (fun hHeld => ?_)
                · exact HB.out _ hbX
                clear hK K
                (try simp only [Act.put, List.setIfInBounds_toArray, List.set_cons_zero, List.set_cons_succ])
                refine wpAnyH_ready (rs := [1]) (by kernel_rfl) (by simp) ?_
                refine AllReadyH.cons (o := { dst := some 164, op := Op.call { callee := Callee.value (Operand.func 18), args := #[Operand.const (Value.int IntKind.i64 1)], argTypes := #[2] }, type := 24, pos := "law.go:254", after := #[], guard := none }) rfl (fun K hK => ?_) AllReadyH.nil
                go_simp
                refine (HRf1.out _).mono ?_
                rintro e y1 ⟨rfl, hb⟩
                replace hbX := hbX.trans (hb.mono hbX.size)
                replace hZ := (hb.block _ (Array.getElem?_eq_some_iff.1 hZ).1).trans hZ
                clear hb
                go_wp2_with fail
                refine hK.out _ _ ?_ (fun hHeld => ?_)
                · exact HB.out _ hbX
                clear hK K
                (try simp only [Act.put, List.setIfInBounds_toArray, List.set_cons_zero, List.set_cons_succ])
                refine wpAnyH_ready (rs := [6]) (by kernel_rfl) (by simp) ?_
                refine AllReadyH.cons (o := { dst := some 169, op := Op.call { callee := Callee.value (Operand.func 32), args := #[Operand.tmp 163, Operand.tmp 164, Operand.tmp 168], argTypes := #[34, 24, 24] }, type := 60, pos := "law.go:254", after := #[{ on := 0, ground := Ground.data }, { on := 1, ground := Ground.data }, { on := 5, ground := Ground.data }, { on := 1, ground := Ground.chain }], guard := none }) rfl (fun K hK => ?_) AllReadyH.nil
                go_simp
                refine (HGo1.out _ ((hIt.below hbX (Nat.le_refl _)).more hbX.size) (hSt.below hbX)).mono ?_
                rintro e y2 ⟨xv, rfl, hone, hb⟩
                replace hbX := hbX.trans (hb.mono hbX.size)
                replace hZ := (hb.block _ (Array.getElem?_eq_some_iff.1 hZ).1).trans hZ
                clear hb
                go_wp2_with fail
                refine hK.out _ _ ?_ (fun hHeld => ?_)
                · exact HB.out _ hbX
                clear hK K
                (try simp only [Act.put, List.setIfInBounds_toArray, List.set_cons_zero, List.set_cons_succ])
                refine wpAnyH_take (i := 7) (oi := { dst := some 162, op := Op.move (Operand.tmp 169), type := 60, pos := "law.go:254", after := #[{ on := 6, ground := Ground.data }], guard := none }) (v := ?vvEx117) rfl (by kernel_rfl) (by kernel_rfl) (by kernel_rfl) (fun _ _ _ h => h) (Or.inl ⟨by rfl, ?hyEx117⟩) (by assumption) ?rsEx117
                case hyEx117 =>
                  intro w hSw
                  (try dsimp only at hSw)
                  go_simp
                  (try with_reducible rfl)
                (try simp only [Act.put, List.setIfInBounds_toArray, List.set_cons_zero, List.set_cons_succ])
                refine wpAnyH_take (i := 8) (oi := { dst := some 170, op := Op.extract (Operand.tmp 162) 0, type := 24, pos := "law.go:254", after := #[{ on := 7, ground := Ground.data }], guard := none }) (v := ?vvEx118) rfl (by kernel_rfl) (by kernel_rfl) (by kernel_rfl) (fun _ _ _ h => h) (Or.inl ⟨by rfl, ?hyEx118⟩) (by assumption) ?rsEx118
                case hyEx118 =>
                  intro w hSw
                  (try dsimp only at hSw)
                  go_simp
                  (try with_reducible rfl)
                (try simp only [Act.put, List.setIfInBounds_toArray, List.set_cons_zero, List.set_cons_succ])
                refine wpAnyH_take (i := 9) (oi := { dst := some 171, op := Op.extract (Operand.tmp 162) 1, type := 4, pos := "law.go:254", after := #[{ on := 7, ground := Ground.data }, { on := 12, ground := Ground.gcOnly Departure.lateStores }], guard := none }) (v := ?vvEx119) rfl (by kernel_rfl) (by kernel_rfl) (by kernel_rfl) (fun _ _ _ h => h) (Or.inl ⟨by rfl, ?hyEx119⟩) (by assumption) ?rsEx119
                case hyEx119 =>
                  intro w hSw
                  (try dsimp only at hSw)
                  go_simp
                  (try with_reducible rfl)
                (try simp only [Act.put, List.setIfInBounds_toArray, List.set_cons_zero, List.set_cons_succ])
                refine wpAnyH_take (i := 10) (oi := { dst := some 172, op := Op.extract (Operand.tmp 162) 2, type := 40, pos := "law.go:254", after := #[{ on := 7, ground := Ground.data }, { on := 13, ground := Ground.gcOnly Departure.lateStores }], guard := none }) (v := ?vvEx1110) rfl (by kernel_rfl) (by kernel_rfl) (by kernel_rfl) (fun _ _ _ h => h) (Or.inl ⟨by rfl, ?hyEx1110⟩) (by assumption) ?rsEx1110
                case hyEx1110 =>
                  intro w hSw
                  (try dsimp only at hSw)
                  go_simp
                  (try with_reducible rfl)
                (try simp only [Act.put, List.setIfInBounds_toArray, List.set_cons_zero, List.set_cons_succ])
                refine wpAnyH_ready (rs := [12]) (by kernel_rfl) (by simp) ?_
                refine AllReadyH.cons (o := { dst := none, op := Op.store 24 (Operand.tmp 21) (Operand.tmp 170), type := 0, pos := "law.go:254", after := #[{ on := 11, ground := Ground.data }, { on := 8, ground := Ground.data }, { on := 6, ground := Ground.chain }, { on := 0, ground := Ground.phase }, { on := 1, ground := Ground.phase }, { on := 2, ground := Ground.phase }, { on := 3, ground := Ground.phase }, { on := 4, ground := Ground.phase }, { on := 5, ground := Ground.phase }, { on := 6, ground := Ground.phase }, { on := 7, ground := Ground.phase }, { on := 8, ground := Ground.phase }, { on := 9, ground := Ground.textOnly Departure.lateStores }, { on := 10, ground := Ground.textOnly Departure.lateStores }, { on := 11, ground := Ground.phase }], guard := none }) rfl (fun K hK => ?_) AllReadyH.nil
                have hoS : (#[.int .i64 0, .int .i64 0, .int .i64 0, .string ⟨#[]⟩, .string ⟨#[]⟩, .int .i64 0, xv, .string ⟨#[]⟩, .int .i64 0] : Array Value).all (·.oneCell') = true := all_oneCell_toArray (nineL_one (f := zeroF) (u := xv) hone)
                refine step_store_run (by rfl) 24 (.tmp 21) (.tmp 170) rfl (p := ⟨_, 0, none⟩) rfl rfl (run_storeVar_row _ _ 24 24 _ #[.int .i64 0, .int .i64 0, .int .i64 0, .string ⟨#[]⟩, .string ⟨#[]⟩, .int .i64 0, xv, .string ⟨#[]⟩, .int .i64 0] hZ hsz9 rfl hoS) ?_
                replace hZ := setRow_heap _ _ _ #[.int .i64 0, .int .i64 0, .int .i64 0, .string ⟨#[]⟩, .string ⟨#[]⟩, .int .i64 0, xv, .string ⟨#[]⟩, .int .i64 0] _ _ hZ
                replace hbX := setRow_of hbX hzx #[.int .i64 0, .int .i64 0, .int .i64 0, .string ⟨#[]⟩, .string ⟨#[]⟩, .int .i64 0, xv, .string ⟨#[]⟩, .int .i64 0]
                refine hK.out _ _ ?_ (fun hHeld => ?_)
                · exact HB.out _ hbX
                clear hK K
                (try simp only [Act.put, List.setIfInBounds_toArray, List.set_cons_zero, List.set_cons_succ])
                refine wpAnyH_take (i := 13) (oi := { dst := some 22, op := Op.assign (Operand.tmp 171), type := 4, pos := "law.go:254", after := #[{ on := 9, ground := Ground.data }, { on := 12, ground := Ground.chain }, { on := 0, ground := Ground.phase }, { on := 1, ground := Ground.phase }, { on := 2, ground := Ground.phase }, { on := 3, ground := Ground.phase }, { on := 4, ground := Ground.phase }, { on := 5, ground := Ground.phase }, { on := 6, ground := Ground.phase }, { on := 7, ground := Ground.phase }, { on := 8, ground := Ground.phase }, { on := 9, ground := Ground.phase }, { on := 10, ground := Ground.textOnly Departure.lateStores }, { on := 11, ground := Ground.phase }, { on := 12, ground := Ground.phase }], guard := none }) (v := ?vvEx1113) rfl (by kernel_rfl) (by kernel_rfl) (by kernel_rfl) (fun _ _ _ h => h) (Or.inl ⟨by rfl, ?hyEx1113⟩) (by assumption) ?rsEx1113
                case hyEx1113 =>
                  intro w hSw
                  (try dsimp only at hSw)
                  go_simp
                  (try with_reducible rfl)
                (try simp only [Act.put, List.setIfInBounds_toArray, List.set_cons_zero, List.set_cons_succ])
                refine wpAnyH_take (i := 14) (oi := { dst := some 23, op := Op.assign (Operand.tmp 172), type := 40, pos := "law.go:254", after := #[{ on := 10, ground := Ground.data }, { on := 13, ground := Ground.chain }, { on := 0, ground := Ground.phase }, { on := 1, ground := Ground.phase }, { on := 2, ground := Ground.phase }, { on := 3, ground := Ground.phase }, { on := 4, ground := Ground.phase }, { on := 5, ground := Ground.phase }, { on := 6, ground := Ground.phase }, { on := 7, ground := Ground.phase }, { on := 8, ground := Ground.phase }, { on := 9, ground := Ground.phase }, { on := 10, ground := Ground.phase }, { on := 11, ground := Ground.phase }, { on := 12, ground := Ground.phase }, { on := 13, ground := Ground.phase }], guard := none }) (v := ?vvEx1114) rfl (by kernel_rfl) (by kernel_rfl) (by kernel_rfl) (fun _ _ _ h => h) (Or.inl ⟨by rfl, ?hyEx1114⟩) (by assumption) ?rsEx1114
                case hyEx1114 =>
                  intro w hSw
                  (try dsimp only at hSw)
                  go_simp
                  (try with_reducible rfl)
                (try simp only [Act.put, List.setIfInBounds_toArray, List.set_cons_zero, List.set_cons_succ])
                refine wpAnyH_done (by kernel_rfl) ?_ _
                go_wp2_with fail
                refine (HRf1.out _).mono ?_
                rintro e u1 ⟨rfl, hb⟩
                replace hbX := hbX.trans (hb.mono hbX.size)
                clear hb
                go_wp2_with fail
                refine (HLe1.out _ (hSt.below hbX)).mono ?_
                rintro e u2 ⟨rfl, hb⟩
                replace hbX := hbX.trans (hb.mono hbX.size)
                clear hb
                have w1' : IntKind.i64.wrap ((U.length : Int) - 1) = (U.length : Int) - 1 := IntWalk.i64_in _ (by omega)
                have w2' : IntKind.i64.wrap ((U.length : Int) - 1 - (i : Int)) = (U.length : Int) - 1 - (i : Int) := IntWalk.i64_in _ (by omega)
                go_wp2_with fail
                go_roundg (U.length - (i + 1))
                case measure => have := HM.out; omega
                case rel => exact Lib.hid ⟨i + 1, by go_num, by omega, rfl, hSt.below hbX, (hU.below hbX (Nat.le_refl _)).more hbX.size⟩
            · obtain rfl : i = U.length := by omega
              go_wp2_with fail
              go_ret
              exact ⟨rfl, hSt.base⟩
theorem lawLastR {n : Nat} (w : World) (v : Value) (l : List (Tm n)) (hs : Bool) (I : ItemsAt w w.heap.size n v l) : Calls Tryz.prog 5 #[v, .bool hs] w (BPost true w) :=
  lawLast w v (liftL n l) hs I.lift
end Go.Proofs.YtfbggmbmgohiiaaGreat.tb
