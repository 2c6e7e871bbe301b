/- Several texts in one, one behind the other: OrE, ToM. No condition beyond theirs. -/
import Derived.Test.YthgfdpamnepnfaaGv
import Derived.Test.YthgfdpamnepnfaaGq
import Derived.Test.YthgfdpamnepnfaaGx
/- Sorted lists: concatenation, counting, finding. No condition. -/
namespace Go.Proofs.Ythgfdpamnepnfaa.tm
set_option linter.unusedVariables false
set_option linter.unusedSimpArgs false

theorem leB_tr {n : Nat} : ∀ a b d : Tm (n + 1), leB cmpV a b = true → leB cmpV b d = true → leB cmpV a d = true := fun a b d x y => by
  unfold leB at *
  rw [decide_eq_true_eq] at *
  exact (tpV (n := n)).trans a b d trivial trivial trivial x y
theorem leB_to {n : Nat} : ∀ a b : Tm (n + 1), (leB cmpV a b || leB cmpV b a) = true := fun a b => by
  unfold leB
  have := (tpV (n := n)).anti a b
  rw [Bool.or_eq_true, decide_eq_true_eq, decide_eq_true_eq]; omega
theorem sortL_pw {n : Nat} (l : List (Tm (n + 1))) : (sortL l).Pairwise (fun a b => leB cmpV a b = true) := List.pairwise_mergeSort leB_tr leB_to l
theorem sortL_perm {n : Nat} (l : List (Tm (n + 1))) : (sortL l).Perm l := List.mergeSort_perm _ _
theorem sortL_idem {n : Nat} (l : List (Tm (n + 1))) : sortL (sortL l) = sortL l := List.mergeSort_of_pairwise (sortL_pw l)
theorem sort_concat {n : Nat} (a b : List (Tm (n + 1))) : sortL (sortL a ++ sortL b) = sortL (a ++ b) := by
  have h1 := sort_halves (tpV (n := n)) (sortL a ++ sortL b) a.length (by simp [sortL_len])
  have h2 := sort_halves (tpV (n := n)) (a ++ b) a.length (by simp)
  have e1 : (sortL a ++ sortL b).take a.length = sortL a := by
    rw [List.take_append_of_le_length (by rw [sortL_len]; exact Nat.le_refl _), List.take_of_length_le (by rw [sortL_len]; exact Nat.le_refl _)]
  have e2 : (sortL a ++ sortL b).drop a.length = sortL b := by
    rw [List.drop_append_of_le_length (by rw [sortL_len]; exact Nat.le_refl _), List.drop_eq_nil_of_le (by rw [sortL_len]; exact Nat.le_refl _)]; rfl
  have e3 : (a ++ b).take a.length = a := by simp
  have e4 : (a ++ b).drop a.length = b := by simp
  rw [e1, e2] at h1
  rw [e3, e4] at h2
  have i1 := sortL_idem a
  have i2 := sortL_idem b
  unfold sortL at i1 i2 h1 ⊢
  rw [i1, i2] at h1
  rw [← h1, ← h2]
theorem ord_sortL {n : Nat} (l : List (Tm (n + 1))) : ordB (sortL l) = true := ordB_t fun j h => by
  have h' := List.pairwise_iff_getElem.1 (sortL_pw l) j (j + 1) (by omega) h (by omega)
  unfold leB at h'
  have := (tpV (n := n)).anti (sortL l)[j] (sortL l)[j + 1]
  rw [decide_eq_true_eq] at h'
  omega
theorem search_count {n : Nat} (t : Tm (n + 1)) : ∀ (s : List (Tm (n + 1))), s.Pairwise (fun a b => leB cmpV a b = true) → searchK s t = s.countP (fun x => decide (cmpV x t < 0))
  | [], _ => rfl
  | x :: s, h => by
    rw [List.pairwise_cons] at h
    have ih := search_count t s h.2
    unfold searchK at ih ⊢
    rw [List.findIdx_cons]
    by_cases hx : 0 ≤ cmpV x t
    · have h0 : ∀ y ∈ s, ¬ cmpV y t < 0 := fun y hy hl => by
        have h1 := h.1 y hy
        unfold leB at h1
        rw [decide_eq_true_eq] at h1
        have h2 := (tpV (n := n)).trans x y t trivial trivial trivial h1 (by omega)
        have h3 := (tpV (n := n)).zero (a := x) (b := y) (d := t) trivial trivial trivial h1 (by omega) (by omega)
        omega
      rw [List.countP_cons_of_neg (by simpa using hx)]
      rw [List.countP_eq_zero.2 (fun y hy => by simpa using h0 y hy)]
      simp [hx]
    · rw [List.countP_cons_of_pos (by simp; omega), ← ih]
      simp [hx]
theorem found_mem {n : Nat} (t : Tm (n + 1)) (s : List (Tm (n + 1))) (h : s.Pairwise (fun a b => leB cmpV a b = true)) (ht : t ∈ s) : foundB s t = true := by
  have hr := (tpV (n := n)).refl t
  have hlt : searchK s t < s.length := by
    unfold searchK
    exact List.findIdx_lt_length_of_exists ⟨t, ht, by simp [hr]⟩
  have hge : 0 ≤ cmpV s[searchK s t] t := by
    have : decide (0 ≤ cmpV s[searchK s t] t) = true := List.findIdx_getElem (w := hlt)
    simpa using this
  obtain ⟨j, hj, rfl⟩ := List.getElem_of_mem ht
  have hjk : searchK s s[j] ≤ j := by
    by_cases hc : searchK s s[j] ≤ j
    · exact hc
    · have := List.not_of_lt_findIdx (p := fun x => decide (0 ≤ cmpV x s[j])) (xs := s) (i := j) (by unfold searchK at hc; omega)
      simp [hr] at this
  have hle : cmpV s[searchK s s[j]] s[j] ≤ 0 := by
    by_cases e : searchK s s[j] = j
    · rw [getElem_congr_idx e, hr]; exact Int.le_refl _
    · have := List.pairwise_iff_getElem.1 h (searchK s s[j]) j hlt hj (by omega)
      unfold leB at this
      simpa using this
  unfold foundB
  rw [List.getElem?_eq_getElem hlt]
  simp
  omega
/-- of the terms of a list each is found in the sorted list behind all that are less -/
theorem merges_plain {n : Nat} (l : List (Tm (n + 1))) (t : Tm (n + 1)) (ht : t ∈ l) : searchK (sortL l) t = l.countP (fun x => decide (cmpV x t < 0)) ∧ foundB (sortL l) t = true :=
  ⟨(search_count t _ (sortL_pw l)).trans ((sortL_perm l).countP_eq _), found_mem t _ (sortL_pw l) ((sortL_perm l).mem_iff.2 ht)⟩
end Go.Proofs.Ythgfdpamnepnfaa.tm
/- Appending lists of terms. Conditions: as said. -/
namespace Go.Proofs.Ythgfdpamnepnfaa.tm
open Go.RowKit mem names
set_option linter.unusedVariables false
set_option linter.unusedSimpArgs false
set_option maxHeartbeats 1000000
set_option maxRecDepth 100000

variable {n : Nat} {w wr w' : World} {F F' : Nat → Prop} {base : Nat} {v v' : Value} {rs rs' : List (TF × Value)} {O : List (Tm (n + 1))}
/-- a row of terms whose elements lie in F -/
structure RRowF (wr : World) (F : Nat → Prop) (base : Nat) (v : Value) (rs : List (TF × Value)) (O : List (Tm (n + 1))) : Prop where
  own : wr.ownsRow base 24 9 v O.length (flatR rs)
  len : rs.length = O.length
  elt : ∀ j, (h1 : j < rs.length) → (h2 : j < O.length) → rs[j].1 = O[j].f ∧ ItemsIn wr F n rs[j].2 O[j].items
  inh : ∀ g, F g → g < wr.heap.size ∧ v.ownBlock ≠ some g
theorem RRowF.shape (h : RRowF wr F base v rs O) : ∃ p c, v = .slice p O.length c := by
  rcases h.own.2 with ⟨rfl, h0⟩ | ⟨g, cap, cur, rfl, _⟩
  · exact ⟨_, _, by rw [h0]⟩
  · exact ⟨_, _, rfl⟩
theorem RRowF.items (h : RRowF wr F base v rs O) : ItemsAt wr wr.heap.size (n + 1) v O := by
  rcases h.own.2 with ⟨rfl, h0⟩ | ⟨g, cap, cur, rfl, hbg, hg, hc, hm, hs, ht⟩
  · have : O = [] := List.eq_nil_of_length_eq_zero h0
    subst this
    exact ItemsAt.nil_any (by unfold maxLen; omega)
  · refine ⟨_, _, rfl, hc, hm, fun _ => ⟨g, 0, rfl, (Array.getElem?_eq_some_iff.1 hg).1, fun j hj => ?_⟩⟩
    have hj' : j < rs.length := by have := h.len; omega
    have := row_cells h.own (by have := h.len; omega) j hj'
    refine ⟨rs[j].2, ?_, (h.elt j hj' hj).2.toAt (fun g hg => (h.inh g hg).1)⟩
    rw [Nat.zero_add, ← (h.elt j hj' hj).1]
    exact this
theorem own_block_lt (h : wr.ownsRow base 24 9 v O.length (flatR rs)) : ∀ k, v.ownBlock = some k → k < wr.heap.size := by
  intro k hk
  rcases h.2 with ⟨rfl, h0⟩ | ⟨g, cap, cur, rfl, hbg, hg, _⟩
  · simp [Value.ownBlock] at hk
  · simp [Value.ownBlock] at hk
    subst hk
    exact (Array.getElem?_eq_some_iff.1 hg).1
theorem RRowF.below (h : RRowF wr F base v rs O) (hb : Below wr.heap.size wr w') : RRowF w' F base v rs O :=
  ⟨row_same h.own (fun k hk => hb.block k (own_block_lt h.own k hk)), h.len, fun j a b => ⟨(h.elt j a b).1, (h.elt j a b).2.mono (fun g hg => hb.block g (h.inh g hg).1) (fun _ h => h)⟩, fun g hg => ⟨Nat.lt_of_lt_of_le (h.inh g hg).1 hb.size, (h.inh g hg).2⟩⟩
theorem RRowF.empty (w : World) (base : Nat) (hb : base ≤ w.heap.size) : RRowF (n := n) (w.alloc (.cells #[] 24)) (fun _ => False) base (.slice (some ⟨w.heap.size, 0, none⟩) 0 0) [] [] :=
  ⟨by simpa [flatR] using World.ownsRow_lit (base := base) (e := 24) (size := 9) w #[] 0 hb (by unfold maxLen; omega) rfl, rfl, fun j h => by simp at h, fun g hg => hg.elim⟩
theorem RRowF.push (h : RRowF wr F base v rs O) {O' : List (Tm (n + 1))} (hl : rs'.length = O'.length) (h' : ∀ j, (h1 : j < rs'.length) → (h2 : j < O'.length) → rs'[j].1 = O'[j].f ∧ ItemsIn wr F' n rs'[j].2 O'[j].items) (hF' : ∀ g, F' g → g < wr.heap.size ∧ v.ownBlock ≠ some g)
    (hown : w'.ownsRow base 24 9 v' (O.length + O'.length) (flatR rs ++ flatR rs')) (hg : wr.grownBy w' v.ownBlock) (hb : v'.ownBlock = v.ownBlock ∨ v'.ownBlock = some wr.heap.size) : RRowF w' (fun g => F g ∨ F' g) base v' (rs ++ rs') (O ++ O') := by
  have hs : ∀ g, F g → w'.heap[g]? = wr.heap[g]? := fun g hg' => hg.block g (h.inh g hg').1 (fun e => (h.inh g hg').2 e.symm)
  have hs' : ∀ g, F' g → w'.heap[g]? = wr.heap[g]? := fun g hg' => hg.block g (hF' g hg').1 (fun e => (hF' g hg').2 e.symm)
  have hlen := h.len
  refine ⟨by rw [List.length_append, flatR_append]; exact hown, by simp [hlen, hl], fun j a b => ?_, fun g hg' => ?_⟩
  · by_cases hj : j < rs.length
    · rw [List.getElem_append_left hj, List.getElem_append_left (by omega)]
      exact ⟨(h.elt j hj (by omega)).1, (h.elt j hj (by omega)).2.mono hs (fun _ h => .inl h)⟩
    · rw [List.getElem_append_right (by omega), List.getElem_append_right (by omega)]
      have e : j - rs.length = j - O.length := by omega
      have := h' (j - O.length) (by simp at a b; omega) (by simp at a b; omega)
      simp only [e]
      exact ⟨this.1, this.2.mono hs' (fun _ h => .inr h)⟩
  · have hlt : g < wr.heap.size ∧ v.ownBlock ≠ some g := hg'.elim (h.inh g) (hF' g)
    refine ⟨Nat.lt_of_lt_of_le hlt.1 hg.size, ?_⟩
    rcases hb with hb | hb
    · rw [hb]; exact hlt.2
    · rw [hb]; intro e; simp only [Option.some.injEq] at e; omega
theorem ItemsIn.rows {l : List (Tm (n + 1))} {g o c : Nat} (h : ItemsIn w F (n + 1) (.slice (some ⟨g, o, none⟩) l.length c) l) : ∃ rs : List (TF × Value), rs.length = l.length ∧ (∀ j, (h1 : j < rs.length) → (h2 : j < l.length) → rs[j].1 = l[j].f ∧ ItemsIn w F n rs[j].2 l[j].items) ∧
    (∀ j u, (flatR rs)[j]? = some u → w.cell? ((⟨g, o, none⟩ : Addr).add j) = some u) ∧ ∀ u ∈ flatR rs, u.oneCell' = true := by
  obtain ⟨p, c', e, h1, h2, h3⟩ := h
  simp only [Value.slice.injEq, true_and] at e
  obtain ⟨rfl, rfl⟩ := e
  have key : ∀ k, k ≤ l.length → ∃ rs : List (TF × Value), rs.length = k ∧ ∀ j, (h1 : j < rs.length) → (h2 : j < l.length) → rs[j].1 = l[j].f ∧ ItemsIn w F n rs[j].2 l[j].items ∧ Cells w g (o + j * 9) rs[j].1 rs[j].2 := by
    intro k
    induction k with
    | zero => intro _; exact ⟨[], rfl, fun j h => by simp at h⟩
    | succ k ih =>
      intro hk
      obtain ⟨rs, hl, hr⟩ := ih (by omega)
      obtain ⟨g', o', e, hg, hc⟩ := h3 (by intro e; subst e; simp at hk)
      simp only [Option.some.injEq, Addr.mk.injEq, and_true] at e
      obtain ⟨rfl, rfl⟩ := e
      obtain ⟨u, hu1, hu2⟩ := hc k (by omega)
      refine ⟨rs ++ [((l[k]'(by omega)).f, u)], by simp [hl], fun j h1 h2 => ?_⟩
      by_cases hj : j < rs.length
      · rw [List.getElem_append_left hj]; exact hr j hj h2
      · have : j = k := by simp at h1; omega
        subst this
        rw [List.getElem_append_right (by omega)]
        simp only [hl, Nat.sub_self, List.getElem_cons_zero]
        first | exact ⟨rfl, hu2, hu1⟩ | exact ⟨trivial, hu2, hu1⟩
  obtain ⟨rs, hl, hr⟩ := key l.length (Nat.le_refl _)
  refine ⟨rs, hl, fun j h1 h2 => ⟨(hr j h1 h2).1, (hr j h1 h2).2.1⟩, fun j u hj => ?_, fun u hu => ?_⟩
  · rw [Addr.add_lit]
    have hjl : j < (flatR rs).length := (List.getElem?_eq_some_iff.1 hj).1
    rw [flatR_len] at hjl
    have hq : j / 9 < rs.length := by omega
    have := (hr (j / 9) hq (by omega)).2.2.all (j % 9) (Nat.mod_lt _ (by omega))
    rw [← flatR_get rs (j / 9) hq (j % 9) (Nat.mod_lt _ (by omega))] at this
    rw [show j / 9 * 9 + j % 9 = j by omega, show o + j / 9 * 9 + j % 9 = o + j by omega] at this
    rw [this, hj]
  · unfold flatR at hu
    rw [List.mem_flatMap] at hu
    obtain ⟨r, hr1, hr2⟩ := hu
    obtain ⟨j, hj, rfl⟩ := List.getElem_of_mem hr1
    obtain ⟨_, hi, _⟩ := hr j hj (by omega)
    have hsh : ∃ p c, rs[j].2 = .slice p (l[j]'(by omega)).items.length c := by
      cases n with
      | zero =>
        obtain ⟨p, c, e, _⟩ := hi
        rw [Tm.nil0 (l[j]'(by omega)).items]
        exact ⟨p, c, e⟩
      | succ n => obtain ⟨p, c, e, _⟩ := hi; exact ⟨p, c, e⟩
    obtain ⟨q, c2, e⟩ := hsh
    rw [e] at hr2
    exact nine_one _ _ _ _ u hr2
/-- append(s, l...) where l is any list of terms -/
theorem wpList_append_items {ops : Array Oper} {rest : List Oper} {o : Oper} {a : Act} {Q : Exit → Act → World → Prop} (hgd : o.guard = none) (s x : Operand)
    (ho : o.op = .call { callee := .builtin .append, args := #[s, x], argTypes := #[22, 22] })
    (hs : a.eval s = v) (hr : RRowF wr F base v rs O) (p : Option Addr) (m c : Nat) (l : List (Tm (n + 1))) (hx : a.eval x = .slice p m c) (hm : l.length = m) (hit : ItemsIn wr F' (n + 1) (.slice p m c) l) (hF' : ∀ g, F' g → g < wr.heap.size ∧ v.ownBlock ≠ some g)
    (hbd : O.length + l.length ≤ 1000000000) (hbase : base ≤ wr.heap.size)
    (h : ∀ p' c' w' rs', RRowF w' (fun g => F g ∨ F' g) base (.slice p' (O ++ l).length c') rs' (O ++ l) → TouchB (fun k => v.ownBlock = some k) wr w' → wpList Try.prog ops Q rest (a.put o.dst (.slice p' (O ++ l).length c')) w') : wpList Try.prog ops Q (o :: rest) a wr := by
  subst hm
  obtain ⟨i0, hi0, hz0, hz1, hz2⟩ := info_parts info24
  by_cases hn : l = []
  · subst hn
    cases p with
    | none =>
      refine wpList_append_none24 hgd s x 22 ho base 24 i0 9 c Try.underlying22 hi0 v O.length (flatR rs) hs hr.own hx ?_
      obtain ⟨p', c', rfl⟩ := hr.shape
      have := h p' c' wr rs (by rw [List.append_nil]; exact ⟨hr.own, hr.len, fun j a b => ⟨(hr.elt j a b).1, (hr.elt j a b).2.mono (fun _ _ => rfl) (fun _ h => .inl h)⟩, fun g hg => hg.elim (hr.inh g) (hF' g)⟩) (TouchB.refl _ _)
      rwa [List.append_nil] at this
    | some ad =>
      refine wpList_append_own_at _ hgd s x 22 ho base 24 i0 (.agg #[.int .i64 0, .int .i64 0, .int .i64 0, .string ⟨#[]⟩, .string ⟨#[]⟩, .int .i64 0, .slice none 0 0, .string ⟨#[]⟩, .int .i64 0]) 9 112 Try.underlying22 hi0 hz0 hz1 hz2 rfl (by decide) v O.length (flatR rs) hs hr.own ad 0 c [] hx rfl (fun j u hj => by simp at hj) (by simp) (by unfold maxLen; omega) (by simp at hbd; omega) hbase ?_
      intro v' w' hown hg hv0 hb
      have hp := hr.push (rs' := []) (O' := []) rfl (fun j h1 => by simp at h1) hF' (by simpa [flatR] using hown) hg hb
      obtain ⟨p', c', rfl⟩ := hp.shape
      exact h p' c' w' _ hp ((TouchB.refl _ _).grown hg (fun k hk _ => hk))
  · have hpp : ∃ g o, p = some ⟨g, o, none⟩ := by
      obtain ⟨p0, c0, e, h1, h2, h3⟩ := hit
      simp only [Value.slice.injEq, true_and] at e
      obtain ⟨g, o, e', _⟩ := h3 hn
      exact ⟨g, o, by rw [e.1, e']⟩
    obtain ⟨g, o', rfl⟩ := hpp
    obtain ⟨rs', hrl, hrs, hcells, hone⟩ := hit.rows
    refine wpList_append_own_at _ hgd s x 22 ho base 24 i0 (.agg #[.int .i64 0, .int .i64 0, .int .i64 0, .string ⟨#[]⟩, .string ⟨#[]⟩, .int .i64 0, .slice none 0 0, .string ⟨#[]⟩, .int .i64 0]) 9 112 Try.underlying22 hi0 hz0 hz1 hz2 rfl (by decide) v O.length (flatR rs) hs hr.own ⟨g, o', none⟩ l.length c (flatR rs') hx (by rw [flatR_len, hrl]) hcells hone (by unfold maxLen; omega) (by omega) hbase ?_
    intro v' w' hown hg hv0 hb
    have hp := hr.push hrl hrs hF' hown hg hb
    obtain ⟨p', c', rfl⟩ := hp.shape
    exact h p' c' w' _ hp ((TouchB.refl _ _).grown hg (fun k hk _ => hk))
theorem ItemsAt.in_ {B : Nat} {l : List (Tm n)} (h : ItemsAt w B n v l) : ItemsIn w (fun g => g < B) n v l := h.toIn
/-- a sorted row, to be appended to -/
theorem SRow.rrow {l : List (Tm (n + 1))} {e : Ending} {w1 : World} (h : SRow l w e w1) : e = .returned (.slice (some ⟨w.heap.size, 0, none⟩) l.length l.length) ∧ ∃ F rs, RRowF w1 F w.heap.size (.slice (some ⟨w.heap.size, 0, none⟩) l.length l.length) rs (sortL l) ∧ (∀ g, F g → w.heap.size < g) ∧ Below w.heap.size w w1 := by
  obtain ⟨w0, F, es, M, rfl, hw, hb, hF, hty, hok, hl, htag, hp, hs, hr⟩ := h
  have hle : es.length = l.length := by rw [← hl]; simp
  have hM := tagged_sorted es M (by rw [hle]; exact htag) hp hs
  rw [hl] at hM
  have hml : M.length = l.length := by rw [hp.length_eq, hle]
  have hsl : (sortL l).length = l.length := sortL_len l
  have hsame : ∀ g, F g → w1.heap[g]? = w0.heap[g]? := fun g hg => hr.touch.block g (hF g hg).2 (by have := (hF g hg).1; omega)
  refine ⟨rfl, F, M.map encT, ⟨?_, by simp; omega, fun j h1 h2 => ?_, fun g hg => ?_⟩, fun g hg => (hF g hg).1, ?_⟩
  · rw [hsl]
    exact row_base hr.own (fun k hk => by simp [Value.ownBlock] at hk; omega)
  · have hj : j < M.length := by simpa using h1
    have ej : (sortL l)[j] = M[j].2.1 := by simp only [← hM, List.getElem_map]
    rw [ej, List.getElem_map]
    exact ⟨rfl, (hok M[j] (hp.mem_iff.1 (List.getElem_mem hj))).1.mono hsame (fun _ h => h)⟩
  · exact ⟨Nat.lt_of_lt_of_le (hF g hg).2 hr.touch.size, by simp [Value.ownBlock]; have := (hF g hg).1; omega⟩
  · exact ⟨hr.touch.os.trans hb.os, hr.touch.tape.trans hb.tape, hr.touch.output.trans hb.output, Nat.le_trans hb.size hr.touch.size, fun k hk => (hr.touch.block k (by omega) (by omega)).trans (hb.block k hk)⟩
end Go.Proofs.Ythgfdpamnepnfaa.tm
