/- Several texts in one, one behind the other: LkLa, LkLc. No condition beyond theirs. -/
import Derived.Test.YtnakbepcalciiaaGreatHl
import Derived.Test.YtnakbepcalciiaaGreatGv
import Derived.Test.YtnakbepcalciiaaGreatHr
import Derived.Test.YtnakbepcalciiaaGreatHb
import Derived.Test.YtnakbepcalciiaaGreatHa
/- LinksLost, in plain Lean: what Lost and Cut return, and what is left. No condition. -/
namespace Go.Proofs.YtnakbepcalciiaaGreat.lk
open Go.RowKit mem rec tm names pm
set_option linter.unusedVariables false
set_option linter.unusedSimpArgs false
set_option maxHeartbeats 1000000
theorem term_okL {n : Nat} {t : Tm (n + 1)} {k : Int} (hk : k = 3 ∨ k = 6) (h : (decide (t.f.kind = k) && validT t) = true) : (t.f = idT (idOf t.f) ∧ t.items = []) ∧ okI k (idOf t.f) = true := by
  rw [Bool.and_eq_true] at h
  have h1 : t.f.kind = k := of_decide_eq_true h.1
  have h2 := (valid_id hk h1).1 h.2
  exact ⟨⟨h2.1, h2.2.1⟩, h2.2.2⟩
/-- two strictly sorted lists with the same members are one -/
theorem strict_one {α : Type} {c : α → α → Int} (hc : TP (fun _ => True) c) : ∀ {l m : List α}, l.Pairwise (fun x y => c x y < 0) → m.Pairwise (fun x y => c x y < 0) → (∀ x, x ∈ l ↔ x ∈ m) → l = m
  | [], [], _, _, _ => rfl
  | [], b :: m, _, _, h => absurd ((h b).2 List.mem_cons_self) (by simp)
  | a :: l, [], _, _, h => absurd ((h a).1 List.mem_cons_self) (by simp)
  | a :: l, b :: m, hl, hm, h => by
    have hl' := List.pairwise_cons.1 hl
    have hm' := List.pairwise_cons.1 hm
    have hab : a = b := by
      rcases List.mem_cons.1 ((h a).1 List.mem_cons_self) with e | e
      · exact e
      · rcases List.mem_cons.1 ((h b).2 List.mem_cons_self) with e' | e'
        · exact e'.symm
        · have h1 := hm'.1 a e
          have h2 := hl'.1 b e'
          have := hc.anti a b
          omega
    subst hab
    have ne : ∀ x, c x x = 0 := fun x => hc.refl x
    rw [strict_one hc hl'.2 hm'.2 (fun x => by
      constructor
      · intro hx
        rcases List.mem_cons.1 ((h x).1 (List.mem_cons_of_mem _ hx)) with e | e
        · subst e; have := hl'.1 x hx; have := ne x; omega
        · exact e
      · intro hx
        rcases List.mem_cons.1 ((h x).2 (List.mem_cons_of_mem _ hx)) with e | e
        · subst e; have := hm'.1 x hx; have := ne x; omega
        · exact e)]
theorem act_iffL (S : LkSt) (k : Pr) : actB S k = true ↔ pFind S.H k = some 0 := by unfold actB; exact decide_eq_true_iff
/-- the state while a script of Join, Part and Watch runs; O: the processes that are noted -/
structure Los (S : LkSt) (O : List Id) (i : Nat) : Prop where
  node : S.node = nmN
  gen : S.gen = 1
  l0 : 0 ≤ S.last
  l1 : S.last ≤ i
  nd : (keys S.H).Nodup
  len : S.H.length ≤ 2 * i
  mem : ∀ x y, (x, y) ∈ keys S.H → okI 6 x = true ∧ okI 6 y = true ∧ locB nmN 1 x = true ∧ (x ∈ O ∨ locB nmN 1 y = true)
  ndM : (keys S.M).Nodup
  lenM : S.M.length ≤ i
  own : ∀ p ∈ S.M, p.1 = p.2.1
theorem Los.start : Los ⟨nmN, 1, 0, [], []⟩ [] 0 := ⟨rfl, rfl, Int.le_refl _, Int.le_refl _, List.nodup_nil, Nat.le_refl _, fun x y h => by simp [keys] at h, List.nodup_nil, Nat.le_refl _, fun p h => by simp at h⟩
theorem Los.more {S : LkSt} {O O' : List Id} {i j : Nat} (h : Los S O i) (hO : ∀ x ∈ O, x ∈ O') (hi : i ≤ j) : Los S O' j :=
  ⟨h.node, h.gen, h.l0, by have := h.l1; omega, h.nd, by have := h.len; omega, fun x y hm => by
    obtain ⟨a, b, c, d⟩ := h.mem x y hm
    exact ⟨a, b, c, d.imp (hO x) id⟩, h.ndM, by have := h.lenM; omega, h.own⟩
theorem pair_parts {node : ByteArray} {gen : Int} {a b : Bool} {x y : Id} (h : pairB node gen false a b x y = true) : a = true ∧ b = true ∧ locB node gen x = true ∧ x ≠ y := by
  unfold pairB at h
  simp only [Bool.and_eq_true, decide_eq_true_eq] at h
  exact ⟨h.1, h.2.1, h.2.2.1, h.2.2.2.1⟩
theorem Los.join {S : LkSt} {O : List Id} {i : Nat} {x y : Id} (h : Los S O i) (hx : okI 6 x = true) (hy : okI 6 y = true) (hl : locB S.node S.gen x = true) (hO : x ∈ O) : Los (joinS S x y) O (i + 1) := by
  have hl' : locB nmN 1 x = true := by rw [h.node, h.gen] at hl; exact hl
  unfold joinS
  split
  · rename_i hy'
    rw [h.node, h.gen] at hy'
    refine ⟨h.node, h.gen, h.l0, by have := h.l1; show S.last ≤ _; omega, nodup_put (nodup_put h.nd _ _) _ _, ?_, ?_, h.ndM, by have := h.lenM; show S.M.length ≤ _; omega, h.own⟩
    · have h1 := len_put (pPut S.H (x, y) 0) (y, x) (0 : Int)
      have h2 := len_put S.H (x, y) (0 : Int)
      have h3 := h.len
      show (pPut (pPut S.H (x, y) 0) (y, x) 0).length ≤ _
      omega
    · intro a b hm
      have hm : (a, b) ∈ keys (pPut (pPut S.H (x, y) 0) (y, x) 0) := hm
      rw [mem_keys_put, mem_keys_put] at hm
      rcases hm with hm | hm | hm
      · cases hm; exact ⟨hy, hx, hy', .inr hl'⟩
      · cases hm; exact ⟨hx, hy, hl', .inl hO⟩
      · exact h.mem a b hm
  · refine ⟨h.node, h.gen, h.l0, by have := h.l1; show S.last ≤ _; omega, nodup_put h.nd _ _, ?_, ?_, h.ndM, by have := h.lenM; show S.M.length ≤ _; omega, h.own⟩
    · have h2 := len_put S.H (x, y) (0 : Int)
      have h3 := h.len
      show (pPut S.H (x, y) 0).length ≤ _
      omega
    · intro a b hm
      have hm : (a, b) ∈ keys (pPut S.H (x, y) 0) := hm
      rw [mem_keys_put] at hm
      rcases hm with hm | hm
      · cases hm; exact ⟨hx, hy, hl', .inl hO⟩
      · exact h.mem a b hm
theorem Los.part {S : LkSt} {O : List Id} {i : Nat} {x y : Id} (h : Los S O i) (hx : okI 6 x = true) (hy : okI 6 y = true) (hl : locB S.node S.gen x = true) (hO : x ∈ O) : Los (partS S x y) O (i + 1) := by
  have hl' : locB nmN 1 x = true := by rw [h.node, h.gen] at hl; exact hl
  unfold partS
  split
  · refine ⟨h.node, h.gen, h.l0, by have := h.l1; show S.last ≤ _; omega, nodup_del (nodup_del h.nd _) _, ?_, ?_, h.ndM, by have := h.lenM; show S.M.length ≤ _; omega, h.own⟩
    · have h1 := len_del (pDel S.H (x, y)) (y, x)
      have h2 := len_del S.H (x, y)
      have h3 := h.len
      show (pDel (pDel S.H (x, y)) (y, x)).length ≤ _
      omega
    · intro a b hm
      have hm : (a, b) ∈ keys (pDel (pDel S.H (x, y)) (y, x)) := hm
      rw [mem_keys_del (nodup_del h.nd _), mem_keys_del h.nd] at hm
      exact h.mem a b hm.2.2
  · split
    · refine ⟨h.node, h.gen, by have := h.l0; show 0 ≤ S.last + 1; omega, by have := h.l1; show S.last + 1 ≤ _; omega, nodup_put h.nd _ _, ?_, ?_, h.ndM, by have := h.lenM; show S.M.length ≤ _; omega, h.own⟩
      · have h2 := len_put S.H (x, y) (S.last + 1)
        have h3 := h.len
        show (pPut S.H (x, y) (S.last + 1)).length ≤ _
        omega
      · intro a b hm
        have hm : (a, b) ∈ keys (pPut S.H (x, y) (S.last + 1)) := hm
        rw [mem_keys_put] at hm
        rcases hm with hm | hm
        · cases hm; exact ⟨hx, hy, hl', .inl hO⟩
        · exact h.mem a b hm
    · exact h.more (fun _ hz => hz) (Nat.le_succ _)
theorem Los.watch {S : LkSt} {O : List Id} {i : Nat} (h : Los S O i) (ok : Bool) (r x y : Id) : Los (watchS ok S r x y) O (i + 1) := by
  unfold watchS
  split
  · split
    · exact h.more (fun _ hz => hz) (Nat.le_succ _)
    · refine ⟨h.node, h.gen, h.l0, by have := h.l1; show S.last ≤ _; omega, h.nd, by have := h.len; show S.H.length ≤ _; omega, h.mem, nodup_put h.ndM _ _, ?_, ?_⟩
      · have h2 := len_put S.M r ((r, x, y) : Mn)
        have h3 := h.lenM
        show (pPut S.M r (r, x, y)).length ≤ _
        omega
      · intro p hp
        rcases mem_put hp with rfl | hp
        · rfl
        · exact h.own p hp
  · exact h.more (fun _ hz => hz) (Nat.le_succ _)
/-- deleting several keys -/
def delA (H : List (Pr × Int)) (L : List Pr) : List (Pr × Int) := L.foldl pDel H
theorem delA_find {L : List Pr} : ∀ {H : List (Pr × Int)}, (keys H).Nodup → ∀ k, (k ∈ L → pFind (delA H L) k = none) ∧ (k ∉ L → pFind (delA H L) k = pFind H k) := by
  induction L with
  | nil => intro H h k; exact ⟨fun hk => by simp at hk, fun _ => rfl⟩
  | cons p L ih =>
    intro H h k
    obtain ⟨i1, i2⟩ := ih (nodup_del h p) k
    refine ⟨fun hk => ?_, fun hk => ?_⟩
    · show pFind (delA (pDel H p) L) k = none
      by_cases h1 : k ∈ L
      · exact i1 h1
      · rw [i2 h1, find_del h]
        rcases List.mem_cons.1 hk with e | e
        · rw [if_pos e]
        · exact absurd e h1
    · show pFind (delA (pDel H p) L) k = pFind H k
      rw [i2 (fun e => hk (List.mem_cons_of_mem _ e)), find_del h, if_neg (fun e => hk (by rw [e]; exact List.mem_cons_self))]
theorem lost_fold : ∀ {L : List Pr} {o : List Pr} {H : List (Pr × Int)}, (keys H).Nodup → L.Nodup → L.foldl lostStep (o, H) = (o ++ L.filter (fun p => decide (pFind H p = some 0)), delA H L)
  | [], o, H, _, _ => by simp [delA]
  | p :: L, o, H, h, hn => by
    have hn' := List.nodup_cons.1 hn
    show L.foldl lostStep (lostStep (o, H) p) = _
    have e : L.filter (fun q => decide (pFind (pDel H p) q = some 0)) = L.filter (fun q => decide (pFind H q = some 0)) := by
      refine List.filter_congr fun q hq => ?_
      have hne : ¬ q = p := fun e => hn'.1 (by rw [← e]; exact hq)
      rw [find_del h, if_neg hne]
    have e2 : lostStep (o, H) p = (if decide (pFind H p = some 0) then o ++ [p] else o, pDel H p) := rfl
    rw [e2, lost_fold (nodup_del h p) hn'.2, e, List.filter_cons]
    by_cases hp : pFind H p = some 0
    · rw [if_pos (decide_eq_true hp), if_pos (decide_eq_true hp)]
      simp [delA]
    · rw [if_neg (by simpa using hp), if_neg (by simpa using hp)]
      simp [delA]
theorem lost_is {H : List (Pr × Int)} {L : List Pr} (h : (keys H).Nodup) (hn : L.Nodup) : lostL H L = (L.filter (fun p => decide (pFind H p = some 0)), delA H L) := by
  unfold lostL
  rw [lost_fold h hn]
  simp
section
variable {S : LkSt} {O : List Id} {i : Nat} {node : ByteArray} {L : List Pr}
theorem Los.nodup (h : Los S O i) {T : Pr → Bool} (hp : L.Perm ((keys S.H).filter T)) : L.Nodup := hp.nodup_iff.2 (List.filter_sublist.nodup h.nd)
theorem Los.strict (h : Los S O i) {T : Pr → Bool} (hp : L.Perm ((keys S.H).filter T)) (hs : L.Pairwise (fun x y => cmP x y ≤ 0)) : L.Pairwise (fun x y => cmP x y < 0) := by
  have hn := h.nodup hp
  refine List.Pairwise.imp_of_mem ?_ (hs.and hn)
  intro a b ha hb hab
  have hk : ∀ p ∈ L, okP p := fun p hp' => by
    have := (List.mem_filter.1 (hp.mem_iff.1 hp')).1
    have := h.mem p.1 p.2 this
    exact ⟨this.1, this.2.1⟩
  have h3 : cmP a b ≠ 0 := fun e => hab.2 (cmP_eq (hk a ha) (hk b hb) e)
  have := hab.1
  omega
/-- what Lost returns -/
theorem Los.lost (h : Los S O i) (hp : L.Perm ((keys S.H).filter (fun p => farB S node p.2))) (hs : L.Pairwise (fun x y => cmP x y ≤ 0)) : (lostL S.H L).1.Pairwise (fun x y => cmP x y < 0) ∧ (∀ p, p ∈ (lostL S.H L).1 ↔ actB S p = true ∧ farB S node p.2 = true) ∧ (lostL S.H L).1.length ≤ 2 * i := by
  have hn := h.nodup hp
  have hst := h.strict hp hs
  rw [lost_is h.nd hn]
  refine ⟨List.Pairwise.sublist List.filter_sublist hst, fun p => ?_, ?_⟩
  · show p ∈ L.filter (actB S) ↔ _
    rw [List.mem_filter, hp.mem_iff, List.mem_filter]
    constructor
    · rintro ⟨⟨_, a⟩, b⟩; exact ⟨b, a⟩
    · rintro ⟨a, b⟩
      refine ⟨⟨?_, b⟩, a⟩
      by_cases hk : p ∈ keys S.H
      · exact hk
      · have := (act_iffL _ _).1 a
        rw [find_none.2 hk] at this
        cases this
  · have h1 : (L.filter (fun p => decide (pFind S.H p = some 0))).length ≤ L.length := List.length_filter_le _ _
    have h2 := hp.length_eq
    have h3 : ((keys S.H).filter (fun p => farB S node p.2)).length ≤ (keys S.H).length := List.length_filter_le _ _
    have h4 : (keys S.H).length = S.H.length := by simp [pm.keys]
    have h5 := h.len
    show (L.filter (fun p => decide (pFind S.H p = some 0))).length ≤ _
    omega
/-- nothing is lost twice -/
theorem Los.after (h : Los S O i) (hp : L.Perm ((keys S.H).filter (fun p => farB S node p.2))) {L' : List Pr} (hp' : L'.Perm ((keys (lostS S L).H).filter (fun p => farB (lostS S L) node p.2))) : L' = [] := by
  have hn := h.nodup hp
  have e : (lostS S L).H = delA S.H L := by unfold lostS; rw [lost_is h.nd hn]
  refine List.eq_nil_iff_forall_not_mem.2 fun p hm => ?_
  have h1 := List.mem_filter.1 (hp'.mem_iff.1 hm)
  have h2 : farB S node p.2 = true := h1.2
  rw [e] at h1
  have h3 : pFind (delA S.H L) p ≠ none := fun hh => (find_none.1 hh) h1.1
  by_cases hL : p ∈ L
  · exact h3 ((delA_find h.nd p).1 hL)
  · rw [(delA_find h.nd p).2 hL] at h3
    have hk : p ∈ keys S.H := by
      by_cases hk : p ∈ keys S.H
      · exact hk
      · exact absurd (find_none.2 hk) h3
    exact hL (hp.mem_iff.2 (List.mem_filter.2 ⟨hk, h2⟩))
theorem Los.lostS_M (h : Los S O i) (L : List Pr) : (lostS S L).M = S.M ∧ (lostS S L).node = S.node ∧ (lostS S L).gen = S.gen := ⟨rfl, rfl, rfl⟩
end
/-- deleting several monitors -/
theorem cutM_mem {p : Id × Mn} : ∀ {L : List Mn} {M : List (Id × Mn)}, (keys M).Nodup → p ∈ cutM M L → p ∈ M ∧ ∀ m ∈ L, p.1 ≠ m.1 := by
  intro L
  induction L with
  | nil => intro M h hm; exact ⟨hm, fun m h => by simp at h⟩
  | cons m L ih =>
    intro M h hm
    have hm : p ∈ cutM (pDel M m.1) L := hm
    obtain ⟨h1, h2⟩ := ih (nodup_del h _) hm
    refine ⟨mem_del h1, fun m' hm' => ?_⟩
    rcases List.mem_cons.1 hm' with rfl | hm'
    · have : p.1 ∈ keys (pDel M m'.1) := List.mem_map_of_mem h1
      rw [mem_keys_del h] at this
      exact this.1
    · exact h2 m' hm'
theorem cut_after {M : List (Id × Mn)} (hn : (keys M).Nodup) (ho : ∀ p ∈ M, p.1 = p.2.1) {T : Mn → Bool} {L L' : List Mn} (hp : L.Perm ((M.map (·.2)).filter T)) (hp' : L'.Perm (((cutM M L).map (·.2)).filter T)) : L' = [] := by
  refine List.eq_nil_iff_forall_not_mem.2 fun m hm => ?_
  obtain ⟨h1, h2⟩ := List.mem_filter.1 (hp'.mem_iff.1 hm)
  obtain ⟨p, h3, rfl⟩ := List.mem_map.1 h1
  obtain ⟨h4, h5⟩ := cutM_mem hn h3
  exact h5 p.2 (hp.mem_iff.2 (List.mem_filter.2 ⟨List.mem_map_of_mem h4, h2⟩)) (ho p h4)
/-- the order of terms that are identities -/
theorem cmp_flat {n : Nat} {t u : Tm (n + 1)} {x y : Id} (hx : okI 6 x = true) (hy : okI 6 y = true) (ht : t.f = idT x) (hu : u.f = idT y) (it : t.items = []) (iu : u.items = []) : cmpV t u = cmI x y := by
  have kx := okI_kind hx
  have ky := okI_kind hy
  have v1 : validT t = true := (valid_id (k := 6) (.inr rfl) (by rw [ht]; exact kx)).2 ⟨by rw [ht]; rfl, it, by rw [ht]; exact hx⟩
  have v2 : validT u = true := (valid_id (k := 6) (.inr rfl) (by rw [hu]; exact ky)).2 ⟨by rw [hu]; rfl, iu, by rw [hu]; exact hy⟩
  have w1 := valid_tmI (.inr rfl) hx
  have w2 := valid_tmI (.inr rfl) hy
  unfold cmI cmpV
  rw [if_pos v1, if_pos v2, if_pos w1, if_pos w2]
  unfold cmpTm cmpF
  rw [ht, hu, it, iu]
  have e1 : (idT x).kind = 6 := kx
  have e2 : (idT y).kind = 6 := ky
  rw [show (tmI x).f = idT x from rfl, show (tmI y).f = idT y from rfl, show (tmI x).items = [] from rfl, show (tmI y).items = [] from rfl, e1, e2]
  rfl
/-- the partners of a noted process that are far -/
def farI (node : ByteArray) (b : Id) : Bool := decide (b.2.1 = node) && (decide (node ≠ nmN) || decide (b.2.2.1 ≠ 1))
theorem farI_is {S : LkSt} {O : List Id} {i : Nat} (h : Los S O i) (node : ByteArray) (b : Id) : farB S node b = farI node b := by
  unfold farB farI locB
  rw [h.node, h.gen]
  by_cases h1 : b.2.1 = node
  · subst h1
    by_cases h2 : b.2.1 = nmN
    · by_cases h3 : b.2.2.1 = 1 <;> simp [h2, h3]
    · simp [h2]
  · simp [h1]
theorem cmP_fst {p q : Pr} (h : cmI p.1 q.1 = 0) : cmP p q = cmI p.2 q.2 := if_pos h
theorem cmP_snd {p q : Pr} (h : cmI p.1 q.1 ≠ 0) : cmP p q = cmI p.1 q.1 := if_neg h
theorem sort_ex (l : List Pr) : ∃ L : List Pr, L.Perm l ∧ L.Pairwise (fun x y => cmP x y ≤ 0) := by
  refine ⟨l.mergeSort (fun x y => decide (cmP x y ≤ 0)), List.mergeSort_perm _ _, ?_⟩
  have := List.pairwise_mergeSort (le := fun x y : Pr => decide (cmP x y ≤ 0)) (fun a b c h1 h2 => decide_eq_true (tpPr.trans a b c trivial trivial trivial (of_decide_eq_true h1) (of_decide_eq_true h2))) (fun a b => by
    have := tpPr.anti a b
    by_cases h : cmP a b ≤ 0
    · simp [h]
    · have h' : cmP b a ≤ 0 := by omega
      simp [h']) l
  exact this.imp (fun h => of_decide_eq_true h)
/-- the links of a noted term, as Of lists them -/
noncomputable def okO {n : Nat} (S : LkSt) (t : Tm (n + 1)) : Bool := (decide (t.f.kind = 6) && validT t) && locB S.node S.gen (idOf t.f)
def IsOf {n : Nat} (S : LkSt) (t : Tm (n + 1)) (L : List Pr) : Prop := L.Perm (if okO S t then (keys S.H).filter (fun p => decide (p.1 = idOf t.f)) else []) ∧ L.Pairwise (fun x y => cmP x y ≤ 0)
noncomputable def ofL {n : Nat} (S : LkSt) (t : Tm (n + 1)) : List Pr := @Classical.epsilon _ ⟨[]⟩ (IsOf S t)
theorem ofL_is {n : Nat} (S : LkSt) (t : Tm (n + 1)) : IsOf S t (ofL S t) := @Classical.epsilon_spec _ (IsOf S t) (sort_ex _)
section
variable {S : LkSt} {O : List Id} {i : Nat} {node : ByteArray}
theorem Los.ofL (h : Los S O i) {n : Nat} {t : Tm (n + 1)} {L : List Pr} (hL : IsOf S t L) : L = lk.ofL S t := by
  have h2 := ofL_is S t
  refine sorted_is (hL.1.trans h2.1.symm) hL.2 h2.2 (fun p hp => ?_)
  have hm := h2.1.mem_iff.1 hp
  split at hm
  · have := h.mem p.1 p.2 (List.mem_filter.1 hm).1
    exact ⟨this.1, this.2.1⟩
  · simp at hm
/-- what a noted term adds to what is wanted -/
noncomputable def adds {n : Nat} (S : LkSt) (node : ByteArray) (t : Tm (n + 1)) : List Id := (actL S (lk.ofL S t)).filter (farI node)
noncomputable def wantI {n : Nat} (S : LkSt) (node : ByteArray) (s : List (Tm (n + 1))) : List Pr := s.flatMap (fun t => (adds S node t).map (fun b => (idOf t.f, b)))
theorem mem_adds {n : Nat} {t : Tm (n + 1)} {b : Id} : b ∈ adds S node t ↔ okO S t = true ∧ (idOf t.f, b) ∈ keys S.H ∧ actB S (idOf t.f, b) = true ∧ farI node b = true := by
  unfold adds actL
  rw [List.mem_filter, List.mem_map]
  have hp := (ofL_is S t).1
  constructor
  · rintro ⟨⟨⟨a, b'⟩, hm, rfl⟩, hf⟩
    obtain ⟨h1, h2⟩ := List.mem_filter.1 hm
    have h3 := hp.mem_iff.1 h1
    split at h3
    · rename_i hok
      obtain ⟨h4, h5⟩ := List.mem_filter.1 h3
      have h5 : a = idOf t.f := of_decide_eq_true h5
      subst h5
      exact ⟨hok, h4, h2, hf⟩
    · simp at h3
  · rintro ⟨hok, h1, h2, h3⟩
    refine ⟨⟨(idOf t.f, b), List.mem_filter.2 ⟨hp.mem_iff.2 ?_, h2⟩, rfl⟩, h3⟩
    rw [if_pos hok]
    exact List.mem_filter.2 ⟨h1, by simp⟩
theorem okO_flat {n : Nat} {t : Tm (n + 1)} (h : okO S t = true) : okI 6 (idOf t.f) = true ∧ t.f = idT (idOf t.f) ∧ t.items = [] := by
  unfold okO at h
  rw [Bool.and_eq_true] at h
  have := term_okL (.inr rfl) h.1
  exact ⟨this.2, this.1.1, this.1.2⟩
theorem adds_strict (h : Los S O i) {n : Nat} (t : Tm (n + 1)) : (adds S node t).Pairwise (fun x y => cmI x y < 0) := by
  have hp := (ofL_is S t).1
  have hs := (ofL_is S t).2
  by_cases hok : okO S t = true
  · rw [if_pos hok] at hp
    have hst := h.strict hp hs
    unfold adds actL
    refine List.Pairwise.sublist List.filter_sublist ?_
    rw [List.pairwise_map]
    refine List.Pairwise.imp_of_mem ?_ (List.Pairwise.sublist List.filter_sublist hst)
    intro a b ha hb hab
    have e1 : a.1 = idOf t.f := of_decide_eq_true (List.mem_filter.1 (hp.mem_iff.1 (List.mem_filter.1 ha).1)).2
    have e2 : b.1 = idOf t.f := of_decide_eq_true (List.mem_filter.1 (hp.mem_iff.1 (List.mem_filter.1 hb).1)).2
    rw [cmP_fst (by rw [e1, e2]; exact tpId.refl _)] at hab
    exact hab
  · rw [if_neg hok] at hp
    have : lk.ofL S t = [] := hp.eq_nil
    unfold adds
    rw [this]
    exact List.Pairwise.nil
theorem want_is (h : Los S O i) {n : Nat} {s : List (Tm (n + 1))} (hs : s.Pairwise (fun x y => cmpV x y < 0)) (hv : ∀ t ∈ s, validT t = true) (hO : ∀ x ∈ O, ∃ t ∈ s, idOf t.f = x) {L : List Pr} (hp : L.Perm ((keys S.H).filter (fun p => farB S node p.2))) (hL : L.Pairwise (fun x y => cmP x y ≤ 0)) : wantI S node s = (lostL S.H L).1 := by
  obtain ⟨l1, l2, l3⟩ := h.lost hp hL
  refine strict_one tpPr ?_ l1 (fun p => ?_)
  · unfold wantI
    rw [List.pairwise_flatMap]
    refine ⟨fun t ht => ?_, List.Pairwise.imp_of_mem ?_ hs⟩
    · rw [List.pairwise_map]
      refine (adds_strict h t).imp (fun {a b} hab => ?_)
      show cmP (idOf t.f, a) (idOf t.f, b) < 0
      have he : cmI (idOf t.f) (idOf t.f) = 0 := tpId.refl _
      have h2 : cmP (idOf t.f, a) (idOf t.f, b) = cmI a b := cmP_fst (p := (idOf t.f, a)) (q := (idOf t.f, b)) he
      rw [h2]
      exact hab
    · intro t u ht hu htu x hx y hy
      obtain ⟨b, hb, rfl⟩ := List.mem_map.1 hx
      obtain ⟨c, hc, rfl⟩ := List.mem_map.1 hy
      obtain ⟨a1, a2, a3⟩ := okO_flat (mem_adds.1 hb).1
      obtain ⟨b1, b2, b3⟩ := okO_flat (mem_adds.1 hc).1
      rw [cmp_flat a1 b1 a2 b2 a3 b3] at htu
      show cmP (idOf t.f, b) (idOf u.f, c) < 0
      have hne : cmI (idOf t.f) (idOf u.f) ≠ 0 := by omega
      have h2 : cmP (idOf t.f, b) (idOf u.f, c) = cmI (idOf t.f) (idOf u.f) := cmP_snd (p := (idOf t.f, b)) (q := (idOf u.f, c)) hne
      rw [h2]
      exact htu
  · rw [l2]
    unfold wantI
    rw [List.mem_flatMap]
    constructor
    · rintro ⟨t, ht, hm⟩
      obtain ⟨b, hb, rfl⟩ := List.mem_map.1 hm
      obtain ⟨a1, a2, a3, a4⟩ := mem_adds.1 hb
      exact ⟨a3, by rw [farI_is h]; exact a4⟩
    · rintro ⟨ha, hf⟩
      obtain ⟨x, y⟩ := p
      have hk : (x, y) ∈ keys S.H := by
        by_cases hk : (x, y) ∈ keys S.H
        · exact hk
        · have := (act_iffL _ _).1 ha
          rw [find_none.2 hk] at this
          cases this
      obtain ⟨m1, m2, m3, m4⟩ := h.mem x y hk
      have m4' : x ∈ O := by
        rcases m4 with m4 | m4
        · exact m4
        · unfold farB at hf
          rw [h.node, h.gen, m4] at hf
          simp at hf
      obtain ⟨t, ht, rfl⟩ := hO x m4'
      refine ⟨t, ht, List.mem_map.2 ⟨y, mem_adds.2 ⟨?_, hk, ha, by rw [← farI_is h]; exact hf⟩, rfl⟩⟩
      unfold okO
      rw [hv t ht, h.node, h.gen, m3, decide_eq_true (show t.f.kind = 6 from okI_kind m1)]
      rfl
end
end Go.Proofs.YtnakbepcalciiaaGreat.lk
/- samePairs: of two equal lists of pairs it says so. Conditions: the lists lie in memory. -/
namespace Go.Proofs.YtnakbepcalciiaaGreat.lk
open Go.RowKit mem rec tm names pm
set_option linter.unusedVariables false
set_option linter.unusedSimpArgs false
set_option maxHeartbeats 4000000
set_option maxRecDepth 100000
/-- a term with the slice of its elements, and an identity -/
def wE {n : Nat} (x : Tm (n + 1) × Value × Id) : List Value := nineL x.1.f x.2.1 ++ idTL x.2.2
theorem wE_len {n : Nat} (x : Tm (n + 1) × Value × Id) : (wE x).length = 18 := rfl
def wp {n : Nat} (x : Tm (n + 1) × Value × Id) : Pr := (idOf x.1.f, x.2.2)
def FlatW {n : Nat} (x : Tm (n + 1) × Value × Id) : Prop := x.1.f = idT (idOf x.1.f) ∧ x.1.items = []
theorem wE_one {n : Nat} {W : World} {B : Nat} {x : Tm (n + 1) × Value × Id} (h : ItemsAt W B n x.2.1 x.1.items) : ∀ u ∈ wE x, u.oneCell' = true := fun u hu => by
  rcases List.mem_append.1 hu with hu | hu
  · exact tE_one (r := (x.1, x.2.1)) h u hu
  · exact idTL_one _ u hu
def SPI (W : World) (n m : Nat) (iv : Value) (wr : World) : Prop := ∃ i : Nat, iv = .int .i64 (i : Int) ∧ i ≤ n ∧ m = n - i ∧ Below W.heap.size W wr
theorem same_flat {n : Nat} (W : World) {B : Nat} (hB : B ≤ W.heap.size) {x : Tm (n + 1) × Value × Id} (hf : FlatW x) (hi : ItemsAt W B n x.2.1 x.1.items) : Calls Tryz.prog 21 #[idA (idOf x.1.f), aggV x.1.f x.2.1] W (fun e w' => e = .returned (.bool true) ∧ Below W.heap.size W w') := by
  obtain ⟨t, u, b⟩ := x
  obtain ⟨h1, h2⟩ := hf
  have hs := sameOne W B nilV u (Tm.mk (idT (idOf t.f)) ([] : List (Tm n))) t hB (ItemsAt.nil_any (Nat.zero_le _)) hi
  have e : Tm.mk (idT (idOf t.f)) ([] : List (Tm n)) = t := by
    obtain ⟨f, l⟩ := t
    have q1 : f = idT (idOf f) := h1
    have q2 : l = [] := h2
    have q3 : (idT (idOf f), ([] : List (Tm n))) = (f, l) := Prod.ext q1.symm q2.symm
    exact q3
  rw [eqB_t e] at hs
  exact hs
theorem pairs36 {n : Nat} (w : World) {B : Nat} (hB : B ≤ w.heap.size) {v u : Value} {Wl : List (Tm (n + 1) × Value × Id)} (hv : RecAt prTL 18 w B v (Wl.map wp)) (hu : RecAt wE 18 w B u Wl) (hok : ∀ x ∈ Wl, FlatW x ∧ ItemsAt w B n x.2.1 x.1.items) (hlen : Wl.length ≤ 100000000) :
    Calls Tryz.prog 36 #[v, u] w (fun e w' => e = .returned (.bool true) ∧ Below w.heap.size w w') := by
  obtain ⟨pv, cv, rfl, _, _⟩ := hv.shape
  obtain ⟨pu, cu, rfl, _, _⟩ := hu.shape
  rw [List.length_map] at hv ⊢
  have HV := Lib.hid (fun W' (hW : Below w.heap.size w W') => hv.below hW hB)
  have HU := Lib.hid (fun W' (hW : Below w.heap.size w W') => hu.below hW hB)
  have HOk := Lib.hid hok
  have HBB := Lib.hid hB
  have H00 : Hid (SPI w Wl.length Wl.length (.int .i64 0) w) := Lib.hid ⟨0, rfl, Nat.zero_le _, rfl, Below.refl _ _⟩
  have hsz9 : (Tryz.prog.info? 30).map (·.size) = some 9 := by kernel_rfl
  clear hv hu hok hB
  go_enter Tryz.func36, Tryz.ntmps36
  go_wp2_with fail
  go_loopg [5] Wl.length (fun m iv wr => Hid (SPI w Wl.length m iv wr))
  case atStart => exact H00
  case round =>
    obtain ⟨i, rfl, hi, hn, hbw⟩ := hrel.out
    clear hrel H00
    by_cases hlt : i < Wl.length
    · have r1 : (i : Int) < (Wl.length : Int) := by omega
      have hat := List.getElem?_eq_getElem hlt
      have hat' : (Wl.map wp)[i]? = some (wp Wl[i]) := by rw [List.getElem?_map, hat]; rfl
      obtain ⟨g, o, e1, hq1, _, _⟩ := (HV.out _ hbw).nth (by rw [List.length_map]; omega)
      obtain ⟨h, q, e2, hq2, _, _⟩ := (HU.out _ hbw).nth (by omega)
      clear hq1 hq2
      subst e1; subst e2
      have HRa := Lib.hid (fun W' (hW : Below wr.heap.size wr W') => RecAt_range (HV.out W' (belowCC hbw hW)) hat')
      have HRb := Lib.hid (fun W' (hW : Below wr.heap.size wr W') => RecAt_range (HU.out W' (belowCC hbw hW)) hat)
      have hx := HOk.out _ (List.getElem_mem hlt)
      have HS1 := Lib.hid (fun W' (hW : Below wr.heap.size wr W') => same_flat W' (Nat.le_trans HBB.out (belowCC hbw hW).size) hx.1 (hx.2.below (belowCC hbw hW) HBB.out))
      have hsh := hx.2.shape
      have hfl := hx.1
      clear hat hat' hx
      generalize Wl[i] = x at *
      obtain ⟨t, us, y⟩ := x
      obtain ⟨h1, h2⟩ := hfl
      obtain ⟨ps, cs, es, _, _⟩ := hsh
      dsimp only at h1 h2 es
      rw [h2] at es
      subst es
      have HS2 := Lib.hid (fun W' => same21 y y W')
      rw [decide_eq_true (rfl : y = y)] at HS2
      unfold wE wp prTL nineL idTL aggV idA at *
      dsimp only at HRa HRb HS1 HS2
      generalize hid : idOf t.f = x at *
      rw [h1] at HRb HS1
      obtain ⟨x1, x2, x3, x4⟩ := x
      obtain ⟨y1, y2, y3, y4⟩ := y
      unfold idT at HRb HS1
      dsimp only at HRa HRb HS1 HS2
      simp only [List.cons_append, List.nil_append, List.length_nil] at HRa HRb HS1 HS2
      have HRg : Hid (∀ W', Below wr.heap.size wr W' → W'.rangeAt g (o + i * 18) [.int .i64 x1, .int .i64 x4, .int .i64 x3, .string x2, .string ⟨#[]⟩, .int .i64 0, .slice none 0 0, .string ⟨#[]⟩, .int .i64 0] ∧ W'.rangeAt h (q + i * 18) [.int .i64 x1, .int .i64 x4, .int .i64 x3, .string x2, .string ⟨#[]⟩, .int .i64 0, .slice ps 0 cs, .string ⟨#[]⟩, .int .i64 0] ∧ W'.rangeAt g (o + i * 18 + 9) [.int .i64 y1, .int .i64 y4, .int .i64 y3, .string y2, .string ⟨#[]⟩, .int .i64 0, .slice none 0 0, .string ⟨#[]⟩, .int .i64 0] ∧ W'.rangeAt h (q + i * 18 + 9) [.int .i64 y1, .int .i64 y4, .int .i64 y3, .string y2, .string ⟨#[]⟩, .int .i64 0, .slice none 0 0, .string ⟨#[]⟩, .int .i64 0]) := Lib.hid (fun W' hW => ⟨range_part (x := []) (y := [.int .i64 x1, .int .i64 x4, .int .i64 x3, .string x2, .string ⟨#[]⟩, .int .i64 0, .slice none 0 0, .string ⟨#[]⟩, .int .i64 0]) (v := [.int .i64 y1, .int .i64 y4, .int .i64 y3, .string y2, .string ⟨#[]⟩, .int .i64 0, .slice none 0 0, .string ⟨#[]⟩, .int .i64 0]) (k := 0) (HRa.out W' hW) rfl, range_part (x := []) (y := [.int .i64 x1, .int .i64 x4, .int .i64 x3, .string x2, .string ⟨#[]⟩, .int .i64 0, .slice ps 0 cs, .string ⟨#[]⟩, .int .i64 0]) (v := [.int .i64 y1, .int .i64 y4, .int .i64 y3, .string y2, .string ⟨#[]⟩, .int .i64 0, .slice none 0 0, .string ⟨#[]⟩, .int .i64 0]) (k := 0) (HRb.out W' hW) rfl, range_part (x := [.int .i64 x1, .int .i64 x4, .int .i64 x3, .string x2, .string ⟨#[]⟩, .int .i64 0, .slice none 0 0, .string ⟨#[]⟩, .int .i64 0]) (y := [.int .i64 y1, .int .i64 y4, .int .i64 y3, .string y2, .string ⟨#[]⟩, .int .i64 0, .slice none 0 0, .string ⟨#[]⟩, .int .i64 0]) (v := []) (HRa.out W' hW) rfl, range_part (x := [.int .i64 x1, .int .i64 x4, .int .i64 x3, .string x2, .string ⟨#[]⟩, .int .i64 0, .slice ps 0 cs, .string ⟨#[]⟩, .int .i64 0]) (y := [.int .i64 y1, .int .i64 y4, .int .i64 y3, .string y2, .string ⟨#[]⟩, .int .i64 0, .slice none 0 0, .string ⟨#[]⟩, .int .i64 0]) (v := []) (HRb.out W' hW) rfl⟩)
      have HN := Lib.hid hn
      have HBw := Lib.hid hbw
      clear HRa HRb hn hbw h1 h2 hid
      go_upto_region 6 with (fail)
      have hbd : Below wr.heap.size wr wr.drew := belowD (Below.refl _ _)
      obtain ⟨l1, l2, l3, l4⟩ := HRg.out _ hbd
      refine wp_region_held_drew (S := (fun w' => w'.rangeAt g (o + i * 18) [.int .i64 x1, .int .i64 x4, .int .i64 x3, .string x2, .string ⟨#[]⟩, .int .i64 0, .slice none 0 0, .string ⟨#[]⟩, .int .i64 0] ∧ w'.rangeAt h (q + i * 18) [.int .i64 x1, .int .i64 x4, .int .i64 x3, .string x2, .string ⟨#[]⟩, .int .i64 0, .slice ps 0 cs, .string ⟨#[]⟩, .int .i64 0] ∧ w'.rangeAt g (o + i * 18 + 9) [.int .i64 y1, .int .i64 y4, .int .i64 y3, .string y2, .string ⟨#[]⟩, .int .i64 0, .slice none 0 0, .string ⟨#[]⟩, .int .i64 0] ∧ w'.rangeAt h (q + i * 18 + 9) [.int .i64 y1, .int .i64 y4, .int .i64 y3, .string y2, .string ⟨#[]⟩, .int .i64 0, .slice none 0 0, .string ⟨#[]⟩, .int .i64 0])) (by kernel_rfl) ?_ (fun hHeld => ?_)
      · exact ⟨l1, l2, l3, l4⟩
      refine wpAnyH_take (i := 0) (oi := { dst := some 17, op := Op.move (Operand.tmp 0), type := 59, pos := "law.go:79", after := #[], guard := none }) (v := ?vvA0) rfl (by kernel_rfl) (by kernel_rfl) (by kernel_rfl) (fun _ _ _ h => h) (Or.inl ⟨by rfl, ?hyA0⟩) (by assumption) ?rsA0
      case hyA0 =>
        intro w hSw
        (try dsimp only at hSw)
        go_simp
        (try with_reducible rfl)
      (try simp only [Act.put, List.setIfInBounds_toArray, List.set_cons_zero, List.set_cons_succ])
      refine wpAnyH_take (i := 1) (oi := { dst := some 18, op := Op.move (Operand.tmp 5), type := 3, pos := "law.go:79", after := #[], guard := none }) (v := ?vvA1) rfl (by kernel_rfl) (by kernel_rfl) (by kernel_rfl) (fun _ _ _ h => h) (Or.inl ⟨by rfl, ?hyA1⟩) (by assumption) ?rsA1
      case hyA1 =>
        intro w hSw
        (try dsimp only at hSw)
        go_simp
        (try with_reducible rfl)
      (try simp only [Act.put, List.setIfInBounds_toArray, List.set_cons_zero, List.set_cons_succ])
      refine wpAnyH_take (i := 2) (oi := { dst := some 19, op := Op.indexAddr 59 (Operand.tmp 17) (Operand.tmp 18), type := 0, pos := "law.go:79", after := #[{ on := 0, ground := Ground.data }, { on := 1, ground := Ground.data }], guard := none }) (v := ?vvA2) rfl (by kernel_rfl) (by kernel_rfl) (by kernel_rfl) (fun _ _ _ h => h) (Or.inl ⟨by rfl, ?hyA2⟩) (by assumption) ?rsA2
      case hyA2 =>
        intro w hSw
        (try dsimp only at hSw)
        go_simp
        (try with_reducible rfl)
      (try simp only [Act.put, List.setIfInBounds_toArray, List.set_cons_zero, List.set_cons_succ])
      refine wpAnyH_take (i := 3) (oi := { dst := some 20, op := Op.indexAddr 60 (Operand.tmp 19) (Operand.const (Value.int IntKind.i64 0)), type := 0, pos := "law.go:79", after := #[{ on := 2, ground := Ground.data }], guard := none }) (v := ?vvA3) rfl (by kernel_rfl) (by kernel_rfl) (by kernel_rfl) (fun _ _ _ h => h) (Or.inl ⟨by rfl, ?hyA3⟩) (by assumption) ?rsA3
      case hyA3 =>
        intro w hSw
        (try dsimp only at hSw)
        go_simp
        (try with_reducible rfl)
      (try simp only [Act.put, List.setIfInBounds_toArray, List.set_cons_zero, List.set_cons_succ])
      refine wpAnyH_take (i := 4) (oi := { dst := some 21, op := Op.load 30 (Operand.tmp 20), type := 30, pos := "law.go:79", after := #[{ on := 3, ground := Ground.data }], guard := none }) rfl (by kernel_rfl) (by kernel_rfl) (by kernel_rfl) (fun _ _ _ h => h) (yieldsIf_load_mid (by rfl) 30 (.tmp 20) rfl g (o + i * 18) rfl [.int .i64 x1, .int .i64 x4, .int .i64 x3, .string x2, .string ⟨#[]⟩, .int .i64 0, .slice none 0 0, .string ⟨#[]⟩, .int .i64 0] _ (fun w hs => hs.1) Tryz.underlying30 rfl hsz9) (by assumption) ?_
      (try simp only [Act.put, List.setIfInBounds_toArray, List.set_cons_zero, List.set_cons_succ])
      refine wpAnyH_take (i := 5) (oi := { dst := some 22, op := Op.move (Operand.tmp 1), type := 59, pos := "law.go:79", after := #[], guard := none }) (v := ?vvA5) rfl (by kernel_rfl) (by kernel_rfl) (by kernel_rfl) (fun _ _ _ h => h) (Or.inl ⟨by rfl, ?hyA5⟩) (by assumption) ?rsA5
      case hyA5 =>
        intro w hSw
        (try dsimp only at hSw)
        go_simp
        (try with_reducible rfl)
      (try simp only [Act.put, List.setIfInBounds_toArray, List.set_cons_zero, List.set_cons_succ])
      refine wpAnyH_take (i := 6) (oi := { dst := some 23, op := Op.move (Operand.tmp 5), type := 3, pos := "law.go:79", after := #[], guard := none }) (v := ?vvA6) rfl (by kernel_rfl) (by kernel_rfl) (by kernel_rfl) (fun _ _ _ h => h) (Or.inl ⟨by rfl, ?hyA6⟩) (by assumption) ?rsA6
      case hyA6 =>
        intro w hSw
        (try dsimp only at hSw)
        go_simp
        (try with_reducible rfl)
      (try simp only [Act.put, List.setIfInBounds_toArray, List.set_cons_zero, List.set_cons_succ])
      refine wpAnyH_take (i := 7) (oi := { dst := some 24, op := Op.indexAddr 59 (Operand.tmp 22) (Operand.tmp 23), type := 0, pos := "law.go:79", after := #[{ on := 5, ground := Ground.data }, { on := 6, ground := Ground.data }], guard := none }) (v := ?vvA7) rfl (by kernel_rfl) (by kernel_rfl) (by kernel_rfl) (fun _ _ _ h => h) (Or.inl ⟨by rfl, ?hyA7⟩) (by assumption) ?rsA7
      case hyA7 =>
        intro w hSw
        (try dsimp only at hSw)
        go_simp
        (try with_reducible rfl)
      (try simp only [Act.put, List.setIfInBounds_toArray, List.set_cons_zero, List.set_cons_succ])
      refine wpAnyH_take (i := 8) (oi := { dst := some 25, op := Op.indexAddr 60 (Operand.tmp 24) (Operand.const (Value.int IntKind.i64 0)), type := 0, pos := "law.go:79", after := #[{ on := 7, ground := Ground.data }], guard := none }) (v := ?vvA8) rfl (by kernel_rfl) (by kernel_rfl) (by kernel_rfl) (fun _ _ _ h => h) (Or.inl ⟨by rfl, ?hyA8⟩) (by assumption) ?rsA8
      case hyA8 =>
        intro w hSw
        (try dsimp only at hSw)
        go_simp
        (try with_reducible rfl)
      (try simp only [Act.put, List.setIfInBounds_toArray, List.set_cons_zero, List.set_cons_succ])
      refine wpAnyH_take (i := 9) (oi := { dst := some 26, op := Op.load 30 (Operand.tmp 25), type := 30, pos := "law.go:79", after := #[{ on := 8, ground := Ground.data }], guard := none }) rfl (by kernel_rfl) (by kernel_rfl) (by kernel_rfl) (fun _ _ _ h => h) (yieldsIf_load_mid (by rfl) 30 (.tmp 25) rfl h (q + i * 18) rfl [.int .i64 x1, .int .i64 x4, .int .i64 x3, .string x2, .string ⟨#[]⟩, .int .i64 0, .slice ps 0 cs, .string ⟨#[]⟩, .int .i64 0] _ (fun w hs => hs.2.1) Tryz.underlying30 rfl hsz9) (by assumption) ?_
      (try simp only [Act.put, List.setIfInBounds_toArray, List.set_cons_zero, List.set_cons_succ])
      refine wpAnyH_ready (rs := [10]) (by kernel_rfl) (by simp) ?_
      refine AllReadyH.cons (o := { dst := some 27, op := Op.call { callee := Callee.value (Operand.func 21), args := #[Operand.tmp 21, Operand.tmp 26], argTypes := #[30, 30] }, type := 4, pos := "law.go:79", after := #[{ on := 4, ground := Ground.data }, { on := 9, ground := Ground.data }], guard := none }) rfl (fun K hK => ?_) AllReadyH.nil
      go_simp
      refine (HS1.out _ hbd).mono ?_
      rintro e w5 ⟨rfl, hb⟩
      replace hbd := hbd.trans (hb.mono hbd.size)
      clear hb l1 l2 l3 l4
      obtain ⟨l1, l2, l3, l4⟩ := HRg.out _ hbd
      go_wp2_with fail
      refine hK.out _ _ ?_ (fun hHeld => ?_)
      · exact ⟨l1, l2, l3, l4⟩
      clear hK K
      (try simp only [Act.put, List.setIfInBounds_toArray, List.set_cons_zero, List.set_cons_succ])
      refine wpAnyH_take (i := 11) (oi := { dst := some 28, op := Op.unOp UnOp.not 4 (Operand.tmp 27), type := 4, pos := "law.go:79", after := #[{ on := 10, ground := Ground.data }], guard := none }) (v := ?vvA11) rfl (by kernel_rfl) (by kernel_rfl) (by kernel_rfl) (fun _ _ _ h => h) (Or.inl ⟨by rfl, ?hyA11⟩) (by assumption) ?rsA11
      case hyA11 =>
        intro w hSw
        (try dsimp only at hSw)
        go_simp
        (try with_reducible rfl)
      (try simp only [Act.put, List.setIfInBounds_toArray, List.set_cons_zero, List.set_cons_succ])
      refine wpAnyH_take (i := 12) (oi := { dst := some 29, op := Op.move (Operand.tmp 28), type := 4, pos := "law.go:79", after := #[{ on := 11, ground := Ground.data }, { on := 10, ground := Ground.chain }], guard := none }) (v := ?vvA12) rfl (by kernel_rfl) (by kernel_rfl) (by kernel_rfl) (fun _ _ _ h => h) (Or.inl ⟨by rfl, ?hyA12⟩) (by assumption) ?rsA12
      case hyA12 =>
        intro w hSw
        (try dsimp only at hSw)
        go_simp
        (try with_reducible rfl)
      (try simp only [Act.put, List.setIfInBounds_toArray, List.set_cons_zero, List.set_cons_succ])
      refine wpAnyH_take (i := 13) (oi := { dst := some 30, op := Op.move (Operand.tmp 0), type := 59, pos := "law.go:79", after := #[{ on := 12, ground := Ground.guard }], guard := some (12, false) }) (v := ?vvA13) rfl (by kernel_rfl) (by kernel_rfl) (by kernel_rfl) (fun _ _ _ h => h) (Or.inl ⟨by rfl, ?hyA13⟩) (by assumption) ?rsA13
      case hyA13 =>
        intro w hSw
        (try dsimp only at hSw)
        go_simp
        (try with_reducible rfl)
      (try simp only [Act.put, List.setIfInBounds_toArray, List.set_cons_zero, List.set_cons_succ])
      refine wpAnyH_take (i := 14) (oi := { dst := some 31, op := Op.move (Operand.tmp 5), type := 3, pos := "law.go:79", after := #[{ on := 12, ground := Ground.guard }], guard := some (12, false) }) (v := ?vvA14) rfl (by kernel_rfl) (by kernel_rfl) (by kernel_rfl) (fun _ _ _ h => h) (Or.inl ⟨by rfl, ?hyA14⟩) (by assumption) ?rsA14
      case hyA14 =>
        intro w hSw
        (try dsimp only at hSw)
        go_simp
        (try with_reducible rfl)
      (try simp only [Act.put, List.setIfInBounds_toArray, List.set_cons_zero, List.set_cons_succ])
      refine wpAnyH_take (i := 15) (oi := { dst := some 32, op := Op.indexAddr 59 (Operand.tmp 30) (Operand.tmp 31), type := 0, pos := "law.go:79", after := #[{ on := 13, ground := Ground.data }, { on := 14, ground := Ground.data }, { on := 12, ground := Ground.guard }], guard := some (12, false) }) (v := ?vvA15) rfl (by kernel_rfl) (by kernel_rfl) (by kernel_rfl) (fun _ _ _ h => h) (Or.inl ⟨by rfl, ?hyA15⟩) (by assumption) ?rsA15
      case hyA15 =>
        intro w hSw
        (try dsimp only at hSw)
        go_simp
        (try with_reducible rfl)
      (try simp only [Act.put, List.setIfInBounds_toArray, List.set_cons_zero, List.set_cons_succ])
      refine wpAnyH_take (i := 16) (oi := { dst := some 33, op := Op.indexAddr 60 (Operand.tmp 32) (Operand.const (Value.int IntKind.i64 1)), type := 0, pos := "law.go:79", after := #[{ on := 15, ground := Ground.data }, { on := 12, ground := Ground.guard }], guard := some (12, false) }) (v := ?vvA16) rfl (by kernel_rfl) (by kernel_rfl) (by kernel_rfl) (fun _ _ _ h => h) (Or.inl ⟨by rfl, ?hyA16⟩) (by assumption) ?rsA16
      case hyA16 =>
        intro w hSw
        (try dsimp only at hSw)
        go_simp
        (try with_reducible rfl)
      (try simp only [Act.put, List.setIfInBounds_toArray, List.set_cons_zero, List.set_cons_succ])
      refine wpAnyH_take (i := 17) (oi := { dst := some 34, op := Op.load 30 (Operand.tmp 33), type := 30, pos := "law.go:79", after := #[{ on := 16, ground := Ground.data }, { on := 12, ground := Ground.guard }], guard := some (12, false) }) rfl (by kernel_rfl) (by kernel_rfl) (by kernel_rfl) (fun _ _ _ h => h) (yieldsIf_load_mid (by rfl) 30 (.tmp 33) rfl g (o + i * 18 + 9) rfl [.int .i64 y1, .int .i64 y4, .int .i64 y3, .string y2, .string ⟨#[]⟩, .int .i64 0, .slice none 0 0, .string ⟨#[]⟩, .int .i64 0] _ (fun w hs => hs.2.2.1) Tryz.underlying30 rfl hsz9) (by assumption) ?_
      (try simp only [Act.put, List.setIfInBounds_toArray, List.set_cons_zero, List.set_cons_succ])
      refine wpAnyH_take (i := 18) (oi := { dst := some 35, op := Op.move (Operand.tmp 1), type := 59, pos := "law.go:79", after := #[{ on := 12, ground := Ground.guard }], guard := some (12, false) }) (v := ?vvA18) rfl (by kernel_rfl) (by kernel_rfl) (by kernel_rfl) (fun _ _ _ h => h) (Or.inl ⟨by rfl, ?hyA18⟩) (by assumption) ?rsA18
      case hyA18 =>
        intro w hSw
        (try dsimp only at hSw)
        go_simp
        (try with_reducible rfl)
      (try simp only [Act.put, List.setIfInBounds_toArray, List.set_cons_zero, List.set_cons_succ])
      refine wpAnyH_take (i := 19) (oi := { dst := some 36, op := Op.move (Operand.tmp 5), type := 3, pos := "law.go:79", after := #[{ on := 12, ground := Ground.guard }], guard := some (12, false) }) (v := ?vvA19) rfl (by kernel_rfl) (by kernel_rfl) (by kernel_rfl) (fun _ _ _ h => h) (Or.inl ⟨by rfl, ?hyA19⟩) (by assumption) ?rsA19
      case hyA19 =>
        intro w hSw
        (try dsimp only at hSw)
        go_simp
        (try with_reducible rfl)
      (try simp only [Act.put, List.setIfInBounds_toArray, List.set_cons_zero, List.set_cons_succ])
      refine wpAnyH_take (i := 20) (oi := { dst := some 37, op := Op.indexAddr 59 (Operand.tmp 35) (Operand.tmp 36), type := 0, pos := "law.go:79", after := #[{ on := 18, ground := Ground.data }, { on := 19, ground := Ground.data }, { on := 12, ground := Ground.guard }], guard := some (12, false) }) (v := ?vvA20) rfl (by kernel_rfl) (by kernel_rfl) (by kernel_rfl) (fun _ _ _ h => h) (Or.inl ⟨by rfl, ?hyA20⟩) (by assumption) ?rsA20
      case hyA20 =>
        intro w hSw
        (try dsimp only at hSw)
        go_simp
        (try with_reducible rfl)
      (try simp only [Act.put, List.setIfInBounds_toArray, List.set_cons_zero, List.set_cons_succ])
      refine wpAnyH_take (i := 21) (oi := { dst := some 38, op := Op.indexAddr 60 (Operand.tmp 37) (Operand.const (Value.int IntKind.i64 1)), type := 0, pos := "law.go:79", after := #[{ on := 20, ground := Ground.data }, { on := 12, ground := Ground.guard }], guard := some (12, false) }) (v := ?vvA21) rfl (by kernel_rfl) (by kernel_rfl) (by kernel_rfl) (fun _ _ _ h => h) (Or.inl ⟨by rfl, ?hyA21⟩) (by assumption) ?rsA21
      case hyA21 =>
        intro w hSw
        (try dsimp only at hSw)
        go_simp
        (try with_reducible rfl)
      (try simp only [Act.put, List.setIfInBounds_toArray, List.set_cons_zero, List.set_cons_succ])
      refine wpAnyH_take (i := 22) (oi := { dst := some 39, op := Op.load 30 (Operand.tmp 38), type := 30, pos := "law.go:79", after := #[{ on := 21, ground := Ground.data }, { on := 12, ground := Ground.guard }], guard := some (12, false) }) rfl (by kernel_rfl) (by kernel_rfl) (by kernel_rfl) (fun _ _ _ h => h) (yieldsIf_load_mid (by rfl) 30 (.tmp 38) rfl h (q + i * 18 + 9) rfl [.int .i64 y1, .int .i64 y4, .int .i64 y3, .string y2, .string ⟨#[]⟩, .int .i64 0, .slice none 0 0, .string ⟨#[]⟩, .int .i64 0] _ (fun w hs => hs.2.2.2) Tryz.underlying30 rfl hsz9) (by assumption) ?_
      (try simp only [Act.put, List.setIfInBounds_toArray, List.set_cons_zero, List.set_cons_succ])
      refine wpAnyH_ready (rs := [23]) (by kernel_rfl) (by simp) ?_
      refine AllReadyH.cons (o := { dst := some 40, op := Op.call { callee := Callee.value (Operand.func 21), args := #[Operand.tmp 34, Operand.tmp 39], argTypes := #[30, 30] }, type := 4, pos := "law.go:79", after := #[{ on := 17, ground := Ground.data }, { on := 22, ground := Ground.data }, { on := 12, ground := Ground.chain }, { on := 12, ground := Ground.guard }], guard := some (12, false) }) rfl (fun K hK => ?_) AllReadyH.nil
      go_simp
      refine (HS2.out _).mono ?_
      rintro e w5 ⟨rfl, hb⟩
      replace hbd := hbd.trans (hb.mono hbd.size)
      clear hb l1 l2 l3 l4
      obtain ⟨l1, l2, l3, l4⟩ := HRg.out _ hbd
      go_wp2_with fail
      refine hK.out _ _ ?_ (fun hHeld => ?_)
      · exact ⟨l1, l2, l3, l4⟩
      clear hK K
      (try simp only [Act.put, List.setIfInBounds_toArray, List.set_cons_zero, List.set_cons_succ])
      refine wpAnyH_take (i := 24) (oi := { dst := some 41, op := Op.unOp UnOp.not 4 (Operand.tmp 40), type := 4, pos := "law.go:79", after := #[{ on := 23, ground := Ground.data }, { on := 12, ground := Ground.guard }], guard := some (12, false) }) (v := ?vvA24) rfl (by kernel_rfl) (by kernel_rfl) (by kernel_rfl) (fun _ _ _ h => h) (Or.inl ⟨by rfl, ?hyA24⟩) (by assumption) ?rsA24
      case hyA24 =>
        intro w hSw
        (try dsimp only at hSw)
        go_simp
        (try with_reducible rfl)
      (try simp only [Act.put, List.setIfInBounds_toArray, List.set_cons_zero, List.set_cons_succ])
      refine wpAnyH_take (i := 25) (oi := { dst := some 42, op := Op.pick (Operand.tmp 29) (Operand.const (Value.bool true)) (Operand.tmp 41), type := 4, pos := "law.go:79", after := #[{ on := 12, ground := Ground.data }, { on := 24, ground := Ground.data }], guard := none }) (v := ?vvA25) rfl (by kernel_rfl) (by kernel_rfl) (by kernel_rfl) (fun _ _ _ h => h) (Or.inl ⟨by rfl, ?hyA25⟩) (by assumption) ?rsA25
      case hyA25 =>
        intro w hSw
        (try dsimp only at hSw)
        go_simp
        (try with_reducible rfl)
      (try simp only [Act.put, List.setIfInBounds_toArray, List.set_cons_zero, List.set_cons_succ])
      refine wpAnyH_done (by kernel_rfl) ?_ _
      have HBe := Lib.hid (belowCC HBw.out hbd)
      clear hbd l1 l2 l3 l4
      go_wp2_with fail
      go_roundg (Wl.length - (i + 1))
      case measure => have := HN.out; omega
      case rel => exact Lib.hid ⟨i + 1, by go_num, by omega, rfl, HBe.out⟩
    · obtain rfl : i = Wl.length := by omega
      have HBe := Lib.hid hbw
      clear hbw hn
      go_wp2_with fail
      go_ret
      exact ⟨rfl, HBe.out⟩
end Go.Proofs.YtnakbepcalciiaaGreat.lk
