/- Texts of this seat, one behind the other: TnS, ToF. No condition beyond theirs. -/
import Derived.Test.YtfbggmbmgohiiaaGreatL41
import Derived.Test.YtfbggmbmgohiiaaGreatL26
import Derived.Maps.AppendAt

/- order.Sort. Conditions: the terms lie in memory; they are few enough. -/
namespace Go.Proofs.YtfbggmbmgohiiaaGreat.tm
open Go.RowKit mem names
set_option linter.unusedVariables false
set_option linter.unusedSimpArgs false
set_option maxHeartbeats 1000000
set_option maxRecDepth 100000

noncomputable def sortL {n : Nat} (l : List (Tm (n + 1))) : List (Tm (n + 1)) := l.mergeSort (leB cmpV)
/-- a term with a tag and with the value of its elements -/
abbrev Tag (n : Nat) := Nat × Tm (n + 1) × Value
def encT {n : Nat} (x : Tag n) : TF × Value := (x.2.1.f, x.2.2)
end Go.Proofs.YtfbggmbmgohiiaaGreat.tm

/- Lists of terms: parts of a list, rows of terms that others hold, sorting by halves. Conditions: as said. -/
namespace Go.Proofs.YtfbggmbmgohiiaaGreat.tm
open Go.RowKit mem names
set_option linter.unusedVariables false
set_option linter.unusedSimpArgs false
set_option maxHeartbeats 1000000
set_option maxRecDepth 100000

theorem sort_halves {β : Type} {c : β → β → Int} (h : TP (fun _ => True) c) (l : List β) (k : Nat) (hk : k ≤ l.length) : ((l.take k).mergeSort (leB c)).merge ((l.drop k).mergeSort (leB c)) (leB c) = l.mergeSort (leB c) := by
  have htr : ∀ a b d, leB c a b = true → leB c b d = true → leB c a d = true := fun a b d x y => by
    unfold leB at *
    rw [decide_eq_true_eq] at *
    exact h.trans a b d trivial trivial trivial x y
  have hto : ∀ a b, (leB c a b || leB c b a) = true := fun a b => by
    unfold leB
    have := h.anti a b
    rw [Bool.or_eq_true, decide_eq_true_eq, decide_eq_true_eq]; omega
  have hz : l.zipIdx = (l.take k).zipIdx ++ (l.drop k).zipIdx k := by
    have := List.zipIdx_append (xs := l.take k) (ys := l.drop k) (k := 0)
    rw [List.take_append_drop, Nat.zero_add, List.length_take, Nat.min_eq_left hk] at this
    exact this
  have e1 : (((l.take k).zipIdx.mergeSort (List.zipIdxLE (leB c))).map (fun x => x.1)) = (l.take k).mergeSort (leB c) := List.mergeSort_zipIdx
  have e2 : ((((l.drop k).zipIdx k).mergeSort (List.zipIdxLE (leB c))).map (fun x => x.1)) = (l.drop k).mergeSort (leB c) := by
    have hm := List.map_mergeSort (r := List.zipIdxLE (leB c)) (s := List.zipIdxLE (leB c)) (f := fun x : β × Nat => (x.1, k + x.2)) (l := (l.drop k).zipIdx) (fun a _ b _ => by
      unfold List.zipIdxLE
      dsimp only
      have : (decide (k + a.2 ≤ k + b.2)) = decide (a.2 ≤ b.2) := by simp
      rw [this])
    have he : (l.drop k).zipIdx k = (l.drop k).zipIdx.map (fun x : β × Nat => (x.1, k + x.2)) := List.zipIdx_eq_map_add
    rw [he, ← hm, List.map_map, ← List.mergeSort_zipIdx (l := l.drop k)]
    rfl
  rw [← e1, ← e2, ← List.map_merge (r := List.zipIdxLE (leB c)) (f := fun x : β × Nat => x.1), ← List.mergeSort_zipIdx (l := l)]
  · congr 1
    refine List.Perm.eq_of_pairwise (le := fun a b => List.zipIdxLE (leB c) a b = true) ?_ ?_ ?_ ?_
    · rintro ⟨a, i⟩ ⟨b, j⟩ ha hb h1 h2
      have hij : i = j := by
        unfold List.zipIdxLE leB at h1 h2
        have := h.anti a b
        simp only [decide_eq_true_eq] at h1 h2
        repeat' split at h1
        all_goals (repeat' split at h2)
        all_goals first | (cases h1; done) | (cases h2; done) | (simp at h1 h2; omega) | omega
      subst hij
      have hb' := List.mem_mergeSort.1 hb
      have ha' : (a, i) ∈ l.zipIdx := by
        rw [hz]
        have := (List.merge_perm_append (le := List.zipIdxLE (leB c))).mem_iff.1 ha
        rcases List.mem_append.1 this with h' | h'
        · exact List.mem_append.2 (.inl (List.mem_mergeSort.1 h'))
        · exact List.mem_append.2 (.inr (List.mem_mergeSort.1 h'))
      rw [List.mk_mem_zipIdx_iff_getElem?] at ha' hb'
      rw [ha'] at hb'
      simp only [Option.some.injEq] at hb'
      rw [hb']
    · exact List.pairwise_merge (List.zipIdxLE_trans htr) (List.zipIdxLE_total hto) _ _ (List.pairwise_mergeSort (List.zipIdxLE_trans htr) (List.zipIdxLE_total hto) _) (List.pairwise_mergeSort (List.zipIdxLE_trans htr) (List.zipIdxLE_total hto) _)
    · exact List.pairwise_mergeSort (List.zipIdxLE_trans htr) (List.zipIdxLE_total hto) _
    · refine (List.merge_perm_append (le := List.zipIdxLE (leB c))).trans ?_
      rw [hz]
      exact ((List.mergeSort_perm _ _).append (List.mergeSort_perm _ _)).trans (List.mergeSort_perm _ _).symm
  · rintro ⟨a, i⟩ ha ⟨b, j⟩ hb
    have ha' := List.mem_mergeSort.1 ha
    have hb' := List.mem_mergeSort.1 hb
    have h1 := List.mem_zipIdx ha'
    have h2 := List.mem_zipIdx hb'
    have hij : i ≤ j := by
      have := h1.2.1; have := h2.1; simp at *; omega
    unfold List.zipIdxLE
    dsimp only
    by_cases hab : leB c a b = true <;> by_cases hba : leB c b a = true <;> simp [hab, hba, hij]

variable {n : Nat} {w w' : World} {B : Nat}
theorem ItemsAt.take_ {l : List (Tm (n + 1))} {g o c : Nat} (h : ItemsAt w B (n + 1) (.slice (some ⟨g, o, none⟩) l.length c) l) (k : Nat) (hk : k ≤ l.length) : ItemsAt w B (n + 1) (.slice (some ⟨g, o, none⟩) k c) (l.take k) := by
  obtain ⟨p, c', e, h1, h2, h3⟩ := h
  simp only [Value.slice.injEq, true_and] at e
  obtain ⟨rfl, rfl⟩ := e
  refine ⟨some ⟨g, o, none⟩, c, by simp [Nat.min_eq_left hk], by simp; omega, h2, fun hn => ?_⟩
  obtain ⟨g', o', e, hg, hc⟩ := h3 (by intro e; subst e; simp at hn)
  refine ⟨g', o', e, hg, fun j hj => ?_⟩
  have hj' : j < l.length := by simp at hj; omega
  obtain ⟨u, hu⟩ := hc j hj'
  exact ⟨u, by simpa using hu⟩
theorem ItemsAt.drop_ {l : List (Tm (n + 1))} {g o c : Nat} (h : ItemsAt w B (n + 1) (.slice (some ⟨g, o, none⟩) l.length c) l) (k : Nat) (hk : k ≤ l.length) : ItemsAt w B (n + 1) (.slice (some ⟨g, o + k * 9, none⟩) (l.length - k) (c - k)) (l.drop k) := by
  obtain ⟨p, c', e, h1, h2, h3⟩ := h
  simp only [Value.slice.injEq, true_and] at e
  obtain ⟨rfl, rfl⟩ := e
  refine ⟨some ⟨g, o + k * 9, none⟩, c - k, by simp, by simp; omega, by omega, fun hn => ?_⟩
  obtain ⟨g', o', e, hg, hc⟩ := h3 (by intro e; subst e; simp at hn)
  simp only [Option.some.injEq, Addr.mk.injEq, and_true] at e
  obtain ⟨rfl, rfl⟩ := e
  refine ⟨_, _, rfl, hg, fun j hj => ?_⟩
  have hj' : k + j < l.length := by simp at hj; omega
  obtain ⟨u, hu1, hu2⟩ := hc (k + j) hj'
  refine ⟨u, ?_, by simpa using hu2⟩
  rw [show o + k * 9 + j * 9 = o + (k + j) * 9 by omega]
  simpa using hu1
/-- the cells of a list, as a row -/
theorem ItemsAt.rows {l : List (Tm (n + 1))} {g o c : Nat} (h : ItemsAt w B (n + 1) (.slice (some ⟨g, o, none⟩) l.length c) l) : ∃ rs : List (TF × Value), rs.length = l.length ∧ (∀ j, (h1 : j < rs.length) → (h2 : j < l.length) → rs[j].1 = l[j].f ∧ ItemsAt w B n rs[j].2 l[j].items) ∧
    (∀ j u, (flatR rs)[j]? = some u → w.cell? ((⟨g, o, none⟩ : Addr).add j) = some u) ∧ ∀ u ∈ flatR rs, u.oneCell' = true := by
  obtain ⟨p, c', e, h1, h2, h3⟩ := h
  simp only [Value.slice.injEq, true_and] at e
  obtain ⟨rfl, rfl⟩ := e
  have key : ∀ k, k ≤ l.length → ∃ rs : List (TF × Value), rs.length = k ∧ ∀ j, (h1 : j < rs.length) → (h2 : j < l.length) → rs[j].1 = l[j].f ∧ ItemsAt w B n rs[j].2 l[j].items ∧ Cells w g (o + j * 9) rs[j].1 rs[j].2 := by
    intro k
    induction k with
    | zero => intro _; exact ⟨[], rfl, fun j h => by simp at h⟩
    | succ k ih =>
      intro hk
      obtain ⟨rs, hl, hr⟩ := ih (by omega)
      obtain ⟨g', o', e, hg, hc⟩ := h3 (by intro e; subst e; simp at hk)
      simp only [Option.some.injEq, Addr.mk.injEq, and_true] at e
      obtain ⟨rfl, rfl⟩ := e
      obtain ⟨u, hu1, hu2⟩ := hc k (by omega)
      refine ⟨rs ++ [((l[k]'(by omega)).f, u)], by simp [hl], fun j h1 h2 => ?_⟩
      by_cases hj : j < rs.length
      · rw [List.getElem_append_left hj]; exact hr j hj h2
      · have : j = k := by simp at h1; omega
        subst this
        rw [List.getElem_append_right (by omega)]
        simp only [hl, Nat.sub_self, List.getElem_cons_zero]
        first | exact ⟨rfl, hu2, hu1⟩ | exact ⟨trivial, hu2, hu1⟩
  obtain ⟨rs, hl, hr⟩ := key l.length (Nat.le_refl _)
  refine ⟨rs, hl, fun j h1 h2 => ⟨(hr j h1 h2).1, (hr j h1 h2).2.1⟩, fun j u hj => ?_, fun u hu => ?_⟩
  · rw [Addr.add_lit]
    have hjl : j < (flatR rs).length := (List.getElem?_eq_some_iff.1 hj).1
    rw [flatR_len] at hjl
    have hq : j / 9 < rs.length := by omega
    have := (hr (j / 9) hq (by omega)).2.2.all (j % 9) (Nat.mod_lt _ (by omega))
    rw [← flatR_get rs (j / 9) hq (j % 9) (Nat.mod_lt _ (by omega))] at this
    rw [show j / 9 * 9 + j % 9 = j by omega, show o + j / 9 * 9 + j % 9 = o + j by omega] at this
    rw [this, hj]
  · unfold flatR at hu
    rw [List.mem_flatMap] at hu
    obtain ⟨r, hr1, hr2⟩ := hu
    obtain ⟨j, hj, rfl⟩ := List.getElem_of_mem hr1
    obtain ⟨_, hi, _⟩ := hr j hj (by omega)
    obtain ⟨q, c2, e, _⟩ := hi.shape
    rw [e] at hr2
    exact nine_one _ _ _ _ u hr2
/-- a growing row of terms, whose elements lie below B -/
def RRow (wr : World) (B base : Nat) (v : Value) (rs : List (TF × Value)) (O : List (Tm (n + 1))) : Prop :=
  wr.ownsRow base 24 9 v O.length (flatR rs) ∧ rs.length = O.length ∧ ∀ j, (h1 : j < rs.length) → (h2 : j < O.length) → rs[j].1 = O[j].f ∧ ItemsAt wr B n rs[j].2 O[j].items
theorem RRow.nil (wr : World) (B base : Nat) : RRow (n := n) wr B base (.slice none 0 0) [] [] := ⟨World.ownsRow_nil _ _ _ _, rfl, fun j h => by simp at h⟩
theorem RRow.items {wr : World} {B base : Nat} {v : Value} {rs : List (TF × Value)} {O : List (Tm (n + 1))} (h : RRow wr B base v rs O) (hB : B ≤ wr.heap.size) : ItemsAt wr wr.heap.size (n + 1) v O := by
  obtain ⟨h1, h2, h3⟩ := h
  rcases h1.2 with ⟨rfl, h0⟩ | ⟨g, cap, cur, rfl, hbg, hg, hc, hm, hs, ht⟩
  · have : O = [] := List.eq_nil_of_length_eq_zero h0
    subst this
    exact ItemsAt.nil_any (by unfold maxLen; omega)
  · refine ⟨_, _, rfl, hc, hm, fun _ => ⟨g, 0, rfl, (Array.getElem?_eq_some_iff.1 hg).1, fun j hj => ?_⟩⟩
    have hj' : j < rs.length := by omega
    have := row_cells h1 (by omega) j hj'
    refine ⟨rs[j].2, ?_, (h3 j hj' hj).2.more hB⟩
    rw [Nat.zero_add, ← (h3 j hj' hj).1]
    exact this
theorem RRow.below {wr w' : World} {B base : Nat} {v : Value} {rs : List (TF × Value)} {O : List (Tm (n + 1))} (h : RRow wr B base v rs O) (hb : Below wr.heap.size wr w') (hB : B ≤ wr.heap.size) : RRow w' B base v rs O := by
  obtain ⟨h1, h2, h3⟩ := h
  refine ⟨row_same h1 (fun k hk => hb.block k ?_), h2, fun j a b => ⟨(h3 j a b).1, (h3 j a b).2.below hb hB⟩⟩
  rcases h1.2 with ⟨rfl, h0⟩ | ⟨g, cap, cur, rfl, hbg, hg, _⟩
  · simp [Value.ownBlock] at hk
  · simp [Value.ownBlock] at hk
    subst hk
    exact (Array.getElem?_eq_some_iff.1 hg).1
/-- an append of further terms -/
theorem RRow.push {wr w' : World} {B base : Nat} {v v' : Value} {rs rs' : List (TF × Value)} {O O' : List (Tm (n + 1))} (h : RRow wr B base v rs O) (hl : rs'.length = O'.length) (h' : ∀ j, (h1 : j < rs'.length) → (h2 : j < O'.length) → rs'[j].1 = O'[j].f ∧ ItemsAt wr B n rs'[j].2 O'[j].items)
    (hown : w'.ownsRow base 24 9 v' (O.length + O'.length) (flatR rs ++ flatR rs')) (hg : wr.grownBy w' v.ownBlock) (hv : ∀ k, v.ownBlock = some k → B ≤ k) (hB : B ≤ wr.heap.size) : RRow w' B base v' (rs ++ rs') (O ++ O') := by
  obtain ⟨h1, h2, h3⟩ := h
  have hs : ∀ g, g < B → w'.heap[g]? = wr.heap[g]? := fun g hg' => hg.block g (by omega) (fun e => by have := hv g e.symm; omega)
  refine ⟨by rw [List.length_append, flatR_append]; exact hown, by simp [h2, hl], fun j a b => ?_⟩
  by_cases hj : j < rs.length
  · rw [List.getElem_append_left hj, List.getElem_append_left (by omega)]
    exact ⟨(h3 j hj (by omega)).1, (h3 j hj (by omega)).2.same hs⟩
  · rw [List.getElem_append_right (by omega), List.getElem_append_right (by omega)]
    have e : j - rs.length = j - O.length := by omega
    have := h' (j - O.length) (by simp at a b; omega) (by simp at a b; omega)
    simp only [e]
    exact ⟨this.1, this.2.same hs⟩
theorem RRow.own_ge {wr : World} {B base : Nat} {v : Value} {rs : List (TF × Value)} {O : List (Tm (n + 1))} (h : RRow wr B base v rs O) : ∀ k, v.ownBlock = some k → base ≤ k := by
  intro k hk
  rcases h.1.2 with ⟨rfl, h0⟩ | ⟨g, cap, cur, rfl, hbg, hg, _⟩
  · simp [Value.ownBlock] at hk
  · simp [Value.ownBlock] at hk
    omega
theorem RRow.shape {wr : World} {B base : Nat} {v : Value} {rs : List (TF × Value)} {O : List (Tm (n + 1))} (h : RRow wr B base v rs O) : ∃ p c, v = .slice p O.length c := by
  rcases h.1.2 with ⟨rfl, h0⟩ | ⟨g, cap, cur, rfl, _⟩
  · exact ⟨_, _, by rw [h0]⟩
  · exact ⟨_, _, rfl⟩
theorem run_append_none24 {P : Program} {w : World} (base : Nat) (t ty e : TypeId) (i : TypeInfo) (size c : Nat) (ht : P.underlying t = some (.slice e)) (hi : P.info? e = some i)
    (v : Value) (n : Nat) (xs : List Value) (hown : w.ownsRow base e size v n xs) :
    (Builtin.append_ #[t, t] ty #[v, .slice none 0 c]).run P w = .ok v w := by
  rcases hown.2 with ⟨rfl, rfl⟩ | ⟨g, cap, cur, rfl, _, _, hnc, _⟩
  · simp [Builtin.append_, run_underlying ht, sizeOf, typeInfo, hi, Builtin.lenOf, Builtin.firstCells]
  · simp [Builtin.append_, run_underlying ht, sizeOf, typeInfo, hi, Builtin.lenOf, Builtin.firstCells, hnc, storeCells]
theorem wpList_append_none24 {P : Program} {w : World} {ops : Array Oper} {rest : List Oper} {o : Oper} {a : Act} {Q : Exit → Act → World → Prop} (hgd : o.guard = none) (s x : Operand) (t : TypeId)
    (ho : o.op = .call { callee := .builtin .append, args := #[s, x], argTypes := #[t, t] })
    (base : Nat) (e : TypeId) (i : TypeInfo) (size c : Nat) (ht : P.underlying t = some (.slice e)) (hi : P.info? e = some i)
    (v : Value) (n : Nat) (xs : List Value) (hs : a.eval s = v) (hown : w.ownsRow base e size v n xs) (hx : a.eval x = .slice none 0 c)
    (h : wpList P ops Q rest (a.put o.dst v) w) : wpList P ops Q (o :: rest) a w := by
  refine wpList_plain hgd fun K hK => ?_
  have hrun := run_append_none24 (P := P) (w := w) base t o.type e i size c ht hi v n xs hown
  unfold Oper.wp
  simp [execOp, ho, resolve, invoke, builtin, hs, hx, hrun, Result.andThen]
  exact hK _ _ h
end Go.Proofs.YtfbggmbmgohiiaaGreat.tm
