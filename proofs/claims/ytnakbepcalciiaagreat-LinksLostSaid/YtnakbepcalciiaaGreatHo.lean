/- Several texts in one, one behind the other: ToG. No condition beyond theirs. -/
import Derived.Test.YtnakbepcalciiaaGreatHn
import Derived.Test.YtnakbepcalciiaaGreatHa
import Derived.Deep.CutRange

/- stagehandref04.Sort. Conditions: the terms lie in memory; they are few enough. -/
namespace Go.Proofs.YtnakbepcalciiaaGreat.tm
open Go.RowKit mem names
set_option linter.unusedVariables false
set_option linter.unusedSimpArgs false
set_option maxHeartbeats 1000000
set_option maxRecDepth 100000

def RPost {n : Nat} (l : List (Tm (n + 1))) (w : World) (e : Ending) (w' : World) : Prop := ∃ p c, e = .returned (.slice p l.length c) ∧ ItemsAt w' w'.heap.size (n + 1) (.slice p l.length c) l ∧ Below w.heap.size w w'
def RPost2 {n : Nat} (l : List (Tm (n + 1))) (w W : World) (e : Ending) (w' : World) : Prop := ∃ p c, e = .returned (.slice p l.length c) ∧ ItemsAt w' w'.heap.size (n + 1) (.slice p l.length c) l ∧ Below W.heap.size W w' ∧ Below w.heap.size w w'
theorem RPost.on {n : Nat} {l : List (Tm (n + 1))} {w W w' : World} {e : Ending} (hb : Below w.heap.size w W) (h : RPost l W e w') : RPost2 l w W e w' := by
  obtain ⟨p, c, h1, h2, h3⟩ := h
  exact ⟨p, c, h1, h2, h3, hb.trans (h3.mono hb.size)⟩
def RSortS (N : Nat) : Prop := ∀ (n : Nat) (w : World) (B : Nat) (v : Value) (l : List (Tm (n + 1))), B ≤ w.heap.size → ItemsAt w B (n + 1) v l → nodesL (n + 1) l ≤ 100000000 → l.length ≤ N → Calls Tryz.prog 35 #[v] w (RPost (sortL l) w)
theorem sortL_small {n : Nat} {l : List (Tm (n + 1))} (h : l.length < 2) : sortL l = l := by
  unfold sortL
  cases l with
  | nil => simp
  | cons a l => cases l with
    | nil => simp
    | cons b l => simp at h; omega
theorem sortL_len {n : Nat} (l : List (Tm (n + 1))) : (sortL l).length = l.length := List.length_mergeSort l
theorem sortL_nodes {n : Nat} (l : List (Tm (n + 1))) : nodesL (n + 1) (sortL l) = nodesL (n + 1) l := by
  have h : ∀ a b : List (Tm (n + 1)), a.Perm b → nodesL (n + 1) a = nodesL (n + 1) b := by
    intro a b h
    induction h with
    | nil => rfl
    | cons x _ ih => rw [nodesL_cons, nodesL_cons, ih]
    | swap x y l => rw [nodesL_cons, nodesL_cons, nodesL_cons, nodesL_cons]; omega
    | trans _ _ h1 h2 => exact h1.trans h2
  exact h _ _ (List.mergeSort_perm _ _)
theorem rsortSmall {n : Nat} (w : World) (B : Nat) (v : Value) (l : List (Tm (n + 1))) (hB : B ≤ w.heap.size) (h1 : ItemsAt w B (n + 1) v l) (hl : l.length < 2) : Calls Tryz.prog 35 #[v] w (RPost (sortL l) w) := by
  rw [sortL_small hl]
  obtain ⟨i0, hi0, hz0, hz1, hz2⟩ := info_parts info24
  by_cases hn : l = []
  · subst hn
    obtain ⟨p, c, rfl, hc, hm⟩ := h1.shape
    have HN : Hid (ItemsAt w w.heap.size (n + 1) (.slice none 0 0) ([] : List (Tm (n + 1)))) := Lib.hid (ItemsAt.nil_any (by unfold maxLen; omega))
    simp only [List.length_nil]
    unfold RPost
    simp only [List.length_nil]
    cases p with
    | none =>
      clear h1 hl hm hc
      go_enter Tryz.func35, Tryz.ntmps35
      go_wp2_with (at_builtin; refine wpList_append_none24 rfl _ _ 28 rfl w.heap.size 30 i0 9 c Tryz.underlying28 hi0 (.slice none 0 0) 0 [] rfl (World.ownsRow_nil _ _ _ _) rfl ?_)
      go_ret
      exact ⟨none, 0, rfl, HN.out, Below.refl _ _⟩
    | some ad =>
      clear h1 hl hm hc
      go_enter Tryz.func35, Tryz.ntmps35
      go_wp2_with (at_builtin; refine wpList_append_own_at _ rfl _ _ 28 rfl w.heap.size 30 i0 (.agg #[.int .i64 0, .int .i64 0, .int .i64 0, .string ⟨#[]⟩, .string ⟨#[]⟩, .int .i64 0, .slice none 0 0, .string ⟨#[]⟩, .int .i64 0]) 9 112 Tryz.underlying28 hi0 hz0 hz1 hz2 rfl (by decide) (.slice none 0 0) 0 [] rfl (World.ownsRow_nil _ _ _ _) ad 0 c [] rfl rfl (fun j u hj => by simp at hj) (by simp) (by unfold maxLen; omega) (by omega) (Nat.le_refl _) ?_; intro v' w1 hown hg hv0 _; obtain rfl := hv0.2 ⟨rfl, rfl⟩)
      go_ret
      exact ⟨none, 0, rfl, ItemsAt.nil_any (by unfold maxLen; omega), ((TouchB.refl (fun _ => False) _).grown hg (fun k hk => by simp [Value.ownBlock] at hk)).below (fun k h => h.elim) (Nat.le_refl _)⟩
  · obtain ⟨g, o, c, rfl, hc, hm, hg, _⟩ := h1.at_ hn
    obtain ⟨rs, hrl, hrs, hcells, hone⟩ := h1.rows
    have HL : Hid ((flatR rs).length = l.length * 9) := Lib.hid (by rw [flatR_len, hrl])
    have HC := Lib.hid hcells
    have HO := Lib.hid hone
    have HP := Lib.hid (fun v' w' (hown : w'.ownsRow w.heap.size 30 9 v' ((0 : Nat) + l.length) (flatR [] ++ flatR rs)) (hg : w.grownBy w' (Value.slice none 0 0).ownBlock) => (RRow.nil (n := n) w B w.heap.size).push hrl hrs (by simpa using hown) hg (fun k hk => by simp [Value.ownBlock] at hk) hB)
    unfold RPost
    have hle : (l.length : Int) < 2 := by omega
    have hl0 : 0 < l.length := List.length_pos_iff.2 hn
    clear h1 hrs hcells hone hrl hn
    go_enter Tryz.func35, Tryz.ntmps35
    go_wp2_with (at_builtin; refine wpList_append_own_at _ rfl _ _ 28 rfl w.heap.size 30 i0 (.agg #[.int .i64 0, .int .i64 0, .int .i64 0, .string ⟨#[]⟩, .string ⟨#[]⟩, .int .i64 0, .slice none 0 0, .string ⟨#[]⟩, .int .i64 0]) 9 112 Tryz.underlying28 hi0 hz0 hz1 hz2 rfl (by decide) (.slice none 0 0) 0 (flatR []) rfl (World.ownsRow_nil _ _ _ _) ⟨g, o, none⟩ l.length c (flatR rs) rfl HL.out HC.out HO.out (by unfold maxLen; omega) (by omega) (Nat.le_refl _) ?_; intro v' w1 hown hg hv0 hblk; have hR := HP.out v' w1 hown hg; obtain ⟨p', c', rfl⟩ := hR.shape; simp only [List.nil_append] at *)
    go_ret
    have hb : Below w.heap.size w w1 := ((TouchB.refl (fun _ => False) _).grown hg (fun k hk => by simp [Value.ownBlock] at hk)).below (fun k h => h.elim) (Nat.le_refl _)
    exact ⟨p', c', rfl, hR.items (Nat.le_trans hB hb.size), hb⟩
theorem mrg_left {n : Nat} (a : Tm (n + 1)) (A : List (Tm (n + 1))) (b : Tm (n + 1)) (B : List (Tm (n + 1))) (h : cmpV a b ≤ 0) : (a :: A).merge (b :: B) (leB cmpV) = a :: A.merge (b :: B) (leB cmpV) := by
  rw [List.cons_merge_cons, if_pos (by unfold leB; simpa using h)]
theorem mrg_right {n : Nat} (a : Tm (n + 1)) (A : List (Tm (n + 1))) (b : Tm (n + 1)) (B : List (Tm (n + 1))) (h : ¬ cmpV a b ≤ 0) : (a :: A).merge (b :: B) (leB cmpV) = b :: (a :: A).merge B (leB cmpV) := by
  rw [List.cons_merge_cons, if_neg (by unfold leB; simpa using h)]
def MInv {n : Nat} (A B T O : List (Tm (n + 1))) (i k : Nat) : Prop := O ++ (A.drop i).merge (B.drop k) (leB cmpV) = T ∧ O.length = i + k
theorem MInv.left {n : Nat} {A B T O : List (Tm (n + 1))} {i k : Nat} (h : MInv A B T O i k) (hi : i < A.length) (hk : (hk : k < B.length) → cmpV A[i] B[k] ≤ 0) (hkl : k ≤ B.length) : MInv A B T (O ++ [A[i]]) (i + 1) k := by
  obtain ⟨h1, h2⟩ := h
  refine ⟨?_, by simp; omega⟩
  rw [← h1, List.drop_eq_getElem_cons hi]
  by_cases hb : k < B.length
  · rw [List.drop_eq_getElem_cons hb, mrg_left _ _ _ _ (hk hb)]; simp
  · rw [List.drop_eq_nil_of_le (by omega : B.length ≤ k), List.merge_right, List.merge_right]; simp
theorem MInv.right {n : Nat} {A B T O : List (Tm (n + 1))} {i k : Nat} (h : MInv A B T O i k) (hk : k < B.length) (hi : (hi : i < A.length) → ¬ cmpV A[i] B[k] ≤ 0) (hil : i ≤ A.length) : MInv A B T (O ++ [B[k]]) i (k + 1) := by
  obtain ⟨h1, h2⟩ := h
  refine ⟨?_, by simp; omega⟩
  rw [← h1, List.drop_eq_getElem_cons hk]
  by_cases ha : i < A.length
  · rw [List.drop_eq_getElem_cons ha, mrg_right _ _ _ _ (hi ha)]; simp
  · rw [List.drop_eq_nil_of_le (by omega : A.length ≤ i), List.nil_merge, List.nil_merge]; simp
theorem MInv.done {n : Nat} {A B T O : List (Tm (n + 1))} (h : MInv A B T O A.length B.length) : O = T := by
  obtain ⟨h1, h2⟩ := h
  rw [List.drop_length, List.drop_length, List.nil_merge, List.append_nil] at h1
  exact h1
theorem RRow.push1 {n : Nat} {W w' : World} {B base : Nat} {p : Option Addr} {m c : Nat} {rs : List (TF × Value)} {O : List (Tm (n + 1))} {f : TF} {u v' : Value} {t : Tm (n + 1)} (h : RRow W B base (.slice p m c) rs O) (hm : O.length = m) (hf : t.f = f) (hi : ItemsAt W B n u t.items) (hbase : B ≤ base) (hB : B ≤ W.heap.size)
    (hown : w'.ownsRow base 30 9 v' (m + 1) (flatR rs ++ nineL f u)) (hg : W.grownBy w' (Value.slice p m c).ownBlock) : RRow w' B base v' (rs ++ [(f, u)]) (O ++ [t]) := by
  subst hm
  refine h.push (rs' := [(f, u)]) (O' := [t]) rfl (fun j h1 h2 => ?_) ?_ hg (fun k hk => Nat.le_trans hbase (h.own_ge k hk)) hB
  · obtain rfl : j = 0 := by simp at h1; omega
    exact ⟨hf.symm, hi⟩
  · have e : flatR [(f, u)] = nineL f u := by simp [flatR]
    rw [e]; exact hown
theorem MInv.left' {n : Nat} {A B T O : List (Tm (n + 1))} {i k : Nat} {t : Tm (n + 1)} (h : MInv A B T O i k) (hi : A[i]? = some t) (hk : ∀ t2, B[k]? = some t2 → cmpV t t2 ≤ 0) (hkl : k ≤ B.length) : MInv A B T (O ++ [t]) (i + 1) k := by
  obtain ⟨h1, rfl⟩ := List.getElem?_eq_some_iff.1 hi
  exact h.left h1 (fun h2 => hk _ (List.getElem?_eq_getElem h2)) hkl
theorem MInv.right' {n : Nat} {A B T O : List (Tm (n + 1))} {i k : Nat} {t : Tm (n + 1)} (h : MInv A B T O i k) (hk : B[k]? = some t) (hi : ∀ t1, A[i]? = some t1 → ¬ cmpV t1 t ≤ 0) (hil : i ≤ A.length) : MInv A B T (O ++ [t]) i (k + 1) := by
  obtain ⟨h1, rfl⟩ := List.getElem?_eq_some_iff.1 hk
  exact h.right h1 (fun h2 => hi _ (List.getElem?_eq_getElem h2)) hil
theorem ItemsAt.elt {n : Nat} {w : World} {B g o c : Nat} {l : List (Tm (n + 1))} (h : ItemsAt w B (n + 1) (.slice (some ⟨g, o, none⟩) l.length c) l) (i : Nat) (hi : i < l.length) : ∃ t x q m d, l[i]? = some t ∧ t.f = x ∧ Cells w g (o + i * 9) x (.slice q m d) ∧ ItemsAt w B n (.slice q m d) t.items := by
  obtain ⟨p, c', e, h1, h2, h3⟩ := h
  simp only [Value.slice.injEq, true_and] at e
  obtain ⟨rfl, rfl⟩ := e
  obtain ⟨g', o', e, hg, hc⟩ := h3 (by intro e; subst e; simp at hi)
  simp only [Option.some.injEq, Addr.mk.injEq, and_true] at e
  obtain ⟨rfl, rfl⟩ := e
  obtain ⟨u, hu1, hu2⟩ := hc i hi
  obtain ⟨q, d, rfl, _⟩ := hu2.shape
  exact ⟨l[i], l[i].f, q, _, d, List.getElem?_eq_getElem hi, rfl, hu1, hu2⟩
theorem nodes_get {n : Nat} {l : List (Tm (n + 1))} {i : Nat} {t : Tm (n + 1)} (h : l[i]? = some t) : nodesT t ≤ nodesL (n + 1) l := by
  obtain ⟨h1, rfl⟩ := List.getElem?_eq_some_iff.1 h
  have := nodes_mem h1
  omega
theorem ItemsAt.addr {n : Nat} {w : World} {B c : Nat} {p : Option Addr} {l : List (Tm (n + 1))} (h : ItemsAt w B (n + 1) (.slice p l.length c) l) (hl : 0 < l.length) : ∃ g o, p = some ⟨g, o, none⟩ ∧ g < B := by
  obtain ⟨g, o, c', e, _, _, hg, _⟩ := h.at_ (by intro e; subst e; simp at hl)
  simp only [Value.slice.injEq, true_and] at e
  exact ⟨g, o, e.1, hg⟩
set_option maxHeartbeats 8000000 in
theorem rsortStep {N : Nat} (ih : RSortS N) {n : Nat} (w : World) (B : Nat) (v : Value) (l : List (Tm (n + 1))) (hB : B ≤ w.heap.size) (h1 : ItemsAt w B (n + 1) v l) (hs : nodesL (n + 1) l ≤ 100000000) (hl : l.length ≤ N + 1) (h2 : 2 ≤ l.length) : Calls Tryz.prog 35 #[v] w (RPost (sortL l) w) := by
  obtain ⟨i0, hi0, hz0, hz1, hz2⟩ := info_parts info24
  obtain ⟨g, o, c, rfl, hc, hm, hg, _⟩ := h1.at_ (by intro e; subst e; simp at h2)
  obtain ⟨h, hh⟩ : ∃ h, h = l.length / 2 := ⟨_, rfl⟩
  have hnl := nodes_len (n + 1) l
  have hna := nodesL_append (l.take h) (l.drop h)
  rw [List.take_append_drop] at hna
  have HA := Lib.hid (fun W (hb : Below w.heap.size w W) => (ih n W B _ (l.take h) (Nat.le_trans hB hb.size) ((h1.take_ h (by omega)).below hb hB) (by omega) (by simp; omega)).mono (fun e w' hp => RPost.on hb hp))
  have HB := Lib.hid (fun W (hb : Below w.heap.size w W) => (ih n W B _ (l.drop h) (Nat.le_trans hB hb.size) ((h1.drop_ h (by omega)).below hb hB) (by omega) (by simp; omega)).mono (fun e w' hp => RPost.on hb hp))
  have hla : (sortL (l.take h)).length = h := by rw [sortL_len]; simp; omega
  have hlb : (sortL (l.drop h)).length = l.length - h := by rw [sortL_len]; simp
  have hT : (sortL (l.take h)).merge (sortL (l.drop h)) (leB cmpV) = sortL l := sort_halves (tpV (n := n)) l h (by omega)
  have n1 : nodesL (n + 1) (sortL (l.take h)) ≤ 100000000 := by rw [sortL_nodes]; omega
  have n2 : nodesL (n + 1) (sortL (l.drop h)) ≤ 100000000 := by rw [sortL_nodes]; omega
  obtain ⟨A, hA⟩ : ∃ A, sortL (l.take h) = A := ⟨_, rfl⟩
  obtain ⟨D, hD⟩ : ∃ D, sortL (l.drop h) = D := ⟨_, rfl⟩
  obtain ⟨T, hTT⟩ : ∃ T, sortL l = T := ⟨_, rfl⟩
  rw [hA] at HA hla hT n1
  rw [hD] at HB hlb hT n2
  rw [hTT] at hT ⊢
  have HN1 := Lib.hid (fun i t (hi : A[i]? = some t) => nodes_get hi)
  have HN2 := Lib.hid (fun i t (hi : D[i]? = some t) => nodes_get hi)
  have HT : Hid (MInv A D T [] 0 0) := Lib.hid ⟨by simpa using hT, rfl⟩
  have HN1' := Lib.hid n1
  have HN2' := Lib.hid n2
  have ha0 : 0 < A.length := by omega
  have hd0 : 0 < D.length := by omega
  have ha1 : A.length ≤ 100000000 := by omega
  have hd1 : D.length ≤ 100000000 := by omega
  have e1 : (l.length : Int) / 2 = (h : Int) := by omega
  have e2 : (l.length : Int).tdiv 2 = (h : Int) := by rw [Int.tdiv_eq_ediv_of_nonneg (by omega)]; exact e1
  have e3 : IntKind.i64.wrap (h : Int) = (h : Int) := IntWalk.i64_in _ (by omega)
  have e4 : (l.length : Int) - (h : Int) = ((l.length - h : Nat) : Int) := by omega
  have e5 : (h : Int) ≤ (c : Int) := by omega
  have e6 : (0 : Int) ≤ (h : Int) := by omega
  have e7 : (h : Int) ≤ (l.length : Int) := by omega
  have e8 : (2 : Int) ≤ (l.length : Int) := by omega
  have e9 : ¬ ((l.length : Int) < 2) := by omega
  have e10 : h < c := by omega
  unfold RPost2 at HA HB
  unfold RPost
  clear hA hD hTT hT n1 n2 hna hla hlb hh hs h1 ih hm hg hB hl hnl
  go_enter Tryz.func35, Tryz.ntmps35
  go_upto_region 3 with fail
  go_cut [3, 4] from 13 to 24 (fun s t wc => ∃ ga oa ca gb ob cb, s = .slice (some ⟨ga, oa, none⟩) A.length ca ∧ t = .slice (some ⟨gb, ob, none⟩) D.length cb ∧ ga < wc.heap.size ∧ gb < wc.heap.size ∧ ItemsAt wc wc.heap.size (n + 1) (.slice (some ⟨ga, oa, none⟩) A.length ca) A ∧ ItemsAt wc wc.heap.size (n + 1) (.slice (some ⟨gb, ob, none⟩) D.length cb) D ∧ Below w.heap.size w wc)
  case first =>
    go_region_held3 (fun w' => Below w.heap.size w w') (first | exact Below.drewN (Below.refl _ _) 1 | exact Below.drewN (by assumption) 1 | assumption | go_keep)
      (first
        | (go_at_call 35; (with_reducible refine (HA.out _ (by assumption)).mono ?_); rintro e w3 ⟨pa, ca, rfl, hIa, hba, hba2⟩)
        | (go_at_call 35; (with_reducible refine (HB.out _ (by assumption)).mono ?_); rintro e w4 ⟨pb, cb, rfl, hIb, hbb, hbb2⟩))
    all_goals
      go_wp2_with fail
      go_meet
      obtain ⟨ga, oa, rfl, hga⟩ := hIa.addr ha0
      obtain ⟨gb, ob, rfl, hgb⟩ := hIb.addr hd0
      first
        | exact ⟨ga, oa, ca, gb, ob, cb, rfl, rfl, Nat.lt_of_lt_of_le hga hbb.size, hgb, (hIa.below hbb (Nat.le_refl _)).more hbb.size, hIb, hbb2⟩
        | exact ⟨ga, oa, ca, gb, ob, cb, rfl, rfl, hga, Nat.lt_of_lt_of_le hgb hba.size, hIa, (hIb.below hba (Nat.le_refl _)).more hba.size, hba2⟩
  case rest =>
    obtain ⟨ga, oa, ca, gb, ob, cb, rfl, rfl, hla, hlb, hIa, hIb, hbw⟩ := hcut
    have HEA := Lib.hid (fun i (hi : i < A.length) => hIa.elt i hi)
    have HED := Lib.hid (fun i (hi : i < D.length) => hIb.elt i hi)
    have HBW0 := Lib.hid hbw
    have HR0 : Hid (RRow (n := n) wc wc.heap.size wc.heap.size (.slice none 0 0) [] []) := Lib.hid (RRow.nil _ _ _)
    clear hIa hIb hbw e1 e2 e3 e4 e5 e6 e7 e8 e9 e10 HA HB
    go_wp2_with fail
    go_loopw [5, 6, 7] (fun s x y wr => ∃ (i k m : Nat) (O : List (Tm (n + 1))) (rs : List (TF × Value)) (p : Option Addr) (c : Nat), s = .slice p m c ∧ x = .int .i64 i ∧ y = .int .i64 k ∧ i ≤ A.length ∧ k ≤ D.length ∧ m ≤ i + k ∧ Hid (MInv A D T O i k) ∧ Hid (O.length = m) ∧ Hid (RRow wr wc.heap.size wc.heap.size (.slice p m c) rs O) ∧ Hid (Below wc.heap.size wc wr)) (fun _ x y _ => A.length + D.length - (intOf x).toNat - (intOf y).toNat)
    case atStart => exact ⟨0, 0, 0, [], [], none, 0, rfl, by go_num, by go_num, by omega, by omega, by omega, HT, Lib.hid rfl, HR0, Lib.hid (Below.refl _ _)⟩
    case round =>
      obtain ⟨i, k, m, O, rs, p, c', rfl, rfl, rfl, hia, hkd, hmik, HI, HOL, HR, HB⟩ := hrel
      have hgla : ga < wr.heap.size := Nat.lt_of_lt_of_le hla HB.out.size
      have hglb : gb < wr.heap.size := Nat.lt_of_lt_of_le hlb HB.out.size
      by_cases h1 : i < A.length
      · by_cases h2 : k < D.length
        · have hbl := HB.out
          obtain ⟨t1, x1, p1, m1, c1, hA1, hf1, hC1, hI1⟩ := HEA.out i (by omega)
          have HTf1 := Lib.hid hf1
          have HIt1 := Lib.hid hI1
          have HAt1 := Lib.hid hA1
          obtain ⟨k1, i1, g1, n1, fn1, a1, by1, s1⟩ := x1
          have hC1 := hC1.same (hbl.block ga hla)
          have HC1 := Lib.hid hC1
          obtain ⟨x0, x1, x2, x3, x4, x5, x6, x7, x8⟩ := hC1
          dsimp only at x0 x1 x2 x3 x4 x5 x6 x7 x8
          clear hA1 hf1 hI1
          obtain ⟨t2, x2, p2, m2, c2, hA2, hf2, hC2, hI2⟩ := HED.out k (by omega)
          have HTf2 := Lib.hid hf2
          have HIt2 := Lib.hid hI2
          have HAt2 := Lib.hid hA2
          obtain ⟨k2, i2, g2, n2, fn2, a2, by2, s2⟩ := x2
          have hC2 := hC2.same (hbl.block gb hlb)
          have HC2 := Lib.hid hC2
          obtain ⟨y0, y1, y2, y3, y4, y5, y6, y7, y8⟩ := hC2
          dsimp only at y0 y1 y2 y3 y4 y5 y6 y7 y8
          clear hA2 hf2 hI2
          clear hbl
          have HCmp := Lib.hid (RCompare wr.drew wc.heap.size _ _ t1 t2 (HB.out.drewN 1).size (HIt1.out.below (HB.out.drewN 1) (Nat.le_refl _)) (HIt2.out.below (HB.out.drewN 1) (Nat.le_refl _)) (by have := HN1.out i t1 HAt1.out; have := HN1'.out; omega) (by have := HN2.out k t2 HAt2.out; have := HN2'.out; omega))
          have HL := Lib.hid (fun (hz : cmpV t1 t2 ≤ 0) => HI.out.left' HAt1.out (fun t hq => by rw [HAt2.out] at hq; simp only [Option.some.injEq] at hq; subst hq; exact hz) (by omega))
          have HRt := Lib.hid (fun (hz : ¬ cmpV t1 t2 ≤ 0) => HI.out.right' HAt2.out (fun t hq => by rw [HAt1.out] at hq; simp only [Option.some.injEq] at hq; subst hq; exact hz) (by omega))
          rw [HTf1.out, HTf2.out] at HCmp
          generalize cmpV t1 t2 = z at *
          unfold aggV IPostC at HCmp
          dsimp only at HCmp
          have r1 : (i : Int) < (A.length : Int) := by omega
          have r2 : (k : Int) < (D.length : Int) := by omega
          have r3 : ((k : Int) == (D.length : Int)) = false := by have : ¬ (k : Int) = (D.length : Int) := by omega
                                                                  simpa using this
          have r4 : decide (i < A.length) = true := decide_eq_true h1
          have r5 : (0 : Int) ≤ (i : Int) := by omega
          have r6 : (0 : Int) ≤ (k : Int) := by omega
          have r7 : (k == D.length) = false := by have : ¬ k = D.length := by omega
                                                  simpa using this
          by_cases hz : z ≤ 0
          · have q1 : decide (z ≤ 0) = true := decide_eq_true hz
            have HInv := Lib.hid (HL.out hz)
            clear HL HRt
            go_wp2_with fail
            go_region_held3 (fun w' => (w'.cell? ⟨ga, oa + i * 9, none⟩ = some (.int .i64 k1) ∧ w'.cell? ⟨ga, oa + i * 9 + 1, none⟩ = some (.int .i64 i1) ∧ w'.cell? ⟨ga, oa + i * 9 + 1 + 1, none⟩ = some (.int .i64 g1) ∧ w'.cell? ⟨ga, oa + i * 9 + 1 + 1 + 1, none⟩ = some (.string n1) ∧ w'.cell? ⟨ga, oa + i * 9 + 1 + 1 + 1 + 1, none⟩ = some (.string fn1) ∧ w'.cell? ⟨ga, oa + i * 9 + 1 + 1 + 1 + 1 + 1, none⟩ = some (.int .i64 a1) ∧ w'.cell? ⟨ga, oa + i * 9 + 1 + 1 + 1 + 1 + 1 + 1, none⟩ = some (.slice p1 m1 c1) ∧ w'.cell? ⟨ga, oa + i * 9 + 1 + 1 + 1 + 1 + 1 + 1 + 1, none⟩ = some (.string by1) ∧ w'.cell? ⟨ga, oa + i * 9 + 1 + 1 + 1 + 1 + 1 + 1 + 1 + 1, none⟩ = some (.int .i64 s1)) ∧ w'.cell? ⟨gb, ob + k * 9, none⟩ = some (.int .i64 k2) ∧ w'.cell? ⟨gb, ob + k * 9 + 1, none⟩ = some (.int .i64 i2) ∧ w'.cell? ⟨gb, ob + k * 9 + 1 + 1, none⟩ = some (.int .i64 g2) ∧ w'.cell? ⟨gb, ob + k * 9 + 1 + 1 + 1, none⟩ = some (.string n2) ∧ w'.cell? ⟨gb, ob + k * 9 + 1 + 1 + 1 + 1, none⟩ = some (.string fn2) ∧ w'.cell? ⟨gb, ob + k * 9 + 1 + 1 + 1 + 1 + 1, none⟩ = some (.int .i64 a2) ∧ w'.cell? ⟨gb, ob + k * 9 + 1 + 1 + 1 + 1 + 1 + 1, none⟩ = some (.slice p2 m2 c2) ∧ w'.cell? ⟨gb, ob + k * 9 + 1 + 1 + 1 + 1 + 1 + 1 + 1, none⟩ = some (.string by2) ∧ w'.cell? ⟨gb, ob + k * 9 + 1 + 1 + 1 + 1 + 1 + 1 + 1 + 1, none⟩ = some (.int .i64 s2)) (go_keep)
              (first
                | (go_at_call 87; (with_reducible refine HCmp.out.mono ?_); rintro e5 w5 ⟨rfl, hb5⟩; have HA5 := Lib.hid (HC1.out.same (hb5.block ga hgla)); have HB5 := Lib.hid (HC2.out.same (hb5.block gb hglb)); obtain ⟨z0, z1, z2, z3, z4, z5, z6, z7, z8⟩ := HA5.out; obtain ⟨u0, u1, u2, u3, u4, u5, u6, u7, u8⟩ := HB5.out; dsimp only at z0 z1 z2 z3 z4 z5 z6 z7 z8 u0 u1 u2 u3 u4 u5 u6 u7 u8))
            have HRW : Hid (RRow w5 wc.heap.size wc.heap.size (.slice p m c') rs O) := Lib.hid ((HR.out.below (Below.drewN (Below.refl _ _) 1) HB.out.size).below hb5 (HB.out.drewN 1).size)
            have HBW : Hid (Below wc.heap.size wc w5) := Lib.hid ((HB.out.drewN 1).trans (hb5.mono (HB.out.drewN 1).size))
            clear hb5 HCmp HR HB x0 x1 x2 x3 x4 x5 x6 x7 x8 y0 y1 y2 y3 y4 y5 y6 y7 y8 HA5 HB5
            have HRN := Lib.hid (HRW.out.below ((Below.refl _ w5).alloc (Nat.le_refl _) (cells9 ⟨k1, i1, g1, n1, fn1, a1, by1, s1⟩ (.slice p1 m1 c1))) HBW.out.size)
            have HM1 : Hid (m + 1 ≤ maxLen) := Lib.hid (by unfold maxLen; omega)
            have HM2 : Hid ((m + 1) * 112 ≤ 140737488355328) := Lib.hid (by omega)
            have HNC := Lib.hid (nine_cell w5 ⟨k1, i1, g1, n1, fn1, a1, by1, s1⟩ (.slice p1 m1 c1))
            have HNO := Lib.hid (nine_one ⟨k1, i1, g1, n1, fn1, a1, by1, s1⟩ p1 m1 c1)
            have HBA : Hid (Below wc.heap.size wc (w5.alloc (cells9 ⟨k1, i1, g1, n1, fn1, a1, by1, s1⟩ (.slice p1 m1 c1)))) := Lib.hid (HBW.out.alloc HBW.out.size _)
            have HEl := Lib.hid (HIt1.out.below HBA.out (Nat.le_refl _))
            have HOwn := Lib.hid HRN.out.1
            rw [HOL.out] at HOwn
            unfold cells9 at HRN HNC HEl HBA HOwn
            dsimp only at HRN HNC HEl HBA HOwn
            go_wp2_with (at_builtin; refine wpList_append_own_at _ rfl (.tmp 57) (.tmp 62) 28 rfl wc.heap.size 30 i0 (.agg #[.int .i64 0, .int .i64 0, .int .i64 0, .string ⟨#[]⟩, .string ⟨#[]⟩, .int .i64 0, .slice none 0 0, .string ⟨#[]⟩, .int .i64 0]) 9 112 Tryz.underlying28 hi0 hz0 hz1 hz2 rfl (by decide) (.slice p m c') m (flatR rs) rfl HOwn.out ⟨w5.heap.size, 0, none⟩ 1 1 (nineL ⟨k1, i1, g1, n1, fn1, a1, by1, s1⟩ (.slice p1 m1 c1)) rfl rfl HNC.out HNO.out HM1.out HM2.out HBA.out.size ?_; intro v' w4 hown4 hg4 _ _; have HR4 := Lib.hid (HRN.out.push1 HOL.out HTf1.out HEl.out (Nat.le_refl _) HBA.out.size hown4 hg4); have HB4 : Hid (Below wc.heap.size wc w4) := Lib.hid (HBA.out.grown hg4 HBA.out.size (fun k hk => HRN.out.own_ge k hk)); have HOL4 : Hid ((O ++ [t1]).length = m + 1) := Lib.hid (by simp [HOL.out]); obtain ⟨p4, c4, rfl⟩ := HR4.out.shape; rw [HOL4.out] at HR4 ⊢; clear hown4 hg4)
            go_roundw
            case rel => exact ⟨i + 1, k, m + 1, _, _, p4, c4, by go_num, by go_num, by go_num, by omega, by omega, by omega, HInv, HOL4, HR4, HB4⟩
            case measure => simp [intOf]; omega
          · have q1 : decide (z ≤ 0) = false := decide_eq_false hz
            have HInv := Lib.hid (HRt.out hz)
            clear HL HRt
            go_wp2_with fail
            go_region_held3 (fun w' => (w'.cell? ⟨ga, oa + i * 9, none⟩ = some (.int .i64 k1) ∧ w'.cell? ⟨ga, oa + i * 9 + 1, none⟩ = some (.int .i64 i1) ∧ w'.cell? ⟨ga, oa + i * 9 + 1 + 1, none⟩ = some (.int .i64 g1) ∧ w'.cell? ⟨ga, oa + i * 9 + 1 + 1 + 1, none⟩ = some (.string n1) ∧ w'.cell? ⟨ga, oa + i * 9 + 1 + 1 + 1 + 1, none⟩ = some (.string fn1) ∧ w'.cell? ⟨ga, oa + i * 9 + 1 + 1 + 1 + 1 + 1, none⟩ = some (.int .i64 a1) ∧ w'.cell? ⟨ga, oa + i * 9 + 1 + 1 + 1 + 1 + 1 + 1, none⟩ = some (.slice p1 m1 c1) ∧ w'.cell? ⟨ga, oa + i * 9 + 1 + 1 + 1 + 1 + 1 + 1 + 1, none⟩ = some (.string by1) ∧ w'.cell? ⟨ga, oa + i * 9 + 1 + 1 + 1 + 1 + 1 + 1 + 1 + 1, none⟩ = some (.int .i64 s1)) ∧ w'.cell? ⟨gb, ob + k * 9, none⟩ = some (.int .i64 k2) ∧ w'.cell? ⟨gb, ob + k * 9 + 1, none⟩ = some (.int .i64 i2) ∧ w'.cell? ⟨gb, ob + k * 9 + 1 + 1, none⟩ = some (.int .i64 g2) ∧ w'.cell? ⟨gb, ob + k * 9 + 1 + 1 + 1, none⟩ = some (.string n2) ∧ w'.cell? ⟨gb, ob + k * 9 + 1 + 1 + 1 + 1, none⟩ = some (.string fn2) ∧ w'.cell? ⟨gb, ob + k * 9 + 1 + 1 + 1 + 1 + 1, none⟩ = some (.int .i64 a2) ∧ w'.cell? ⟨gb, ob + k * 9 + 1 + 1 + 1 + 1 + 1 + 1, none⟩ = some (.slice p2 m2 c2) ∧ w'.cell? ⟨gb, ob + k * 9 + 1 + 1 + 1 + 1 + 1 + 1 + 1, none⟩ = some (.string by2) ∧ w'.cell? ⟨gb, ob + k * 9 + 1 + 1 + 1 + 1 + 1 + 1 + 1 + 1, none⟩ = some (.int .i64 s2)) (go_keep)
              (first
                | (go_at_call 87; (with_reducible refine HCmp.out.mono ?_); rintro e5 w5 ⟨rfl, hb5⟩; have HA5 := Lib.hid (HC1.out.same (hb5.block ga hgla)); have HB5 := Lib.hid (HC2.out.same (hb5.block gb hglb)); obtain ⟨z0, z1, z2, z3, z4, z5, z6, z7, z8⟩ := HA5.out; obtain ⟨u0, u1, u2, u3, u4, u5, u6, u7, u8⟩ := HB5.out; dsimp only at z0 z1 z2 z3 z4 z5 z6 z7 z8 u0 u1 u2 u3 u4 u5 u6 u7 u8))
            have HRW : Hid (RRow w5 wc.heap.size wc.heap.size (.slice p m c') rs O) := Lib.hid ((HR.out.below (Below.drewN (Below.refl _ _) 1) HB.out.size).below hb5 (HB.out.drewN 1).size)
            have HBW : Hid (Below wc.heap.size wc w5) := Lib.hid ((HB.out.drewN 1).trans (hb5.mono (HB.out.drewN 1).size))
            clear hb5 HCmp HR HB x0 x1 x2 x3 x4 x5 x6 x7 x8 y0 y1 y2 y3 y4 y5 y6 y7 y8 HA5 HB5
            have HRN := Lib.hid (HRW.out.below ((Below.refl _ w5).alloc (Nat.le_refl _) (cells9 ⟨k2, i2, g2, n2, fn2, a2, by2, s2⟩ (.slice p2 m2 c2))) HBW.out.size)
            have HM1 : Hid (m + 1 ≤ maxLen) := Lib.hid (by unfold maxLen; omega)
            have HM2 : Hid ((m + 1) * 112 ≤ 140737488355328) := Lib.hid (by omega)
            have HNC := Lib.hid (nine_cell w5 ⟨k2, i2, g2, n2, fn2, a2, by2, s2⟩ (.slice p2 m2 c2))
            have HNO := Lib.hid (nine_one ⟨k2, i2, g2, n2, fn2, a2, by2, s2⟩ p2 m2 c2)
            have HBA : Hid (Below wc.heap.size wc (w5.alloc (cells9 ⟨k2, i2, g2, n2, fn2, a2, by2, s2⟩ (.slice p2 m2 c2)))) := Lib.hid (HBW.out.alloc HBW.out.size _)
            have HEl := Lib.hid (HIt2.out.below HBA.out (Nat.le_refl _))
            have HOwn := Lib.hid HRN.out.1
            rw [HOL.out] at HOwn
            unfold cells9 at HRN HNC HEl HBA HOwn
            dsimp only at HRN HNC HEl HBA HOwn
            go_wp2_with (at_builtin; refine wpList_append_own_at _ rfl (.tmp 66) (.tmp 71) 28 rfl wc.heap.size 30 i0 (.agg #[.int .i64 0, .int .i64 0, .int .i64 0, .string ⟨#[]⟩, .string ⟨#[]⟩, .int .i64 0, .slice none 0 0, .string ⟨#[]⟩, .int .i64 0]) 9 112 Tryz.underlying28 hi0 hz0 hz1 hz2 rfl (by decide) (.slice p m c') m (flatR rs) rfl HOwn.out ⟨w5.heap.size, 0, none⟩ 1 1 (nineL ⟨k2, i2, g2, n2, fn2, a2, by2, s2⟩ (.slice p2 m2 c2)) rfl rfl HNC.out HNO.out HM1.out HM2.out HBA.out.size ?_; intro v' w4 hown4 hg4 _ _; have HR4 := Lib.hid (HRN.out.push1 HOL.out HTf2.out HEl.out (Nat.le_refl _) HBA.out.size hown4 hg4); have HB4 : Hid (Below wc.heap.size wc w4) := Lib.hid (HBA.out.grown hg4 HBA.out.size (fun k hk => HRN.out.own_ge k hk)); have HOL4 : Hid ((O ++ [t2]).length = m + 1) := Lib.hid (by simp [HOL.out]); obtain ⟨p4, c4, rfl⟩ := HR4.out.shape; rw [HOL4.out] at HR4 ⊢; clear hown4 hg4)
            go_roundw
            case rel => exact ⟨i, k + 1, m + 1, _, _, p4, c4, by go_num, by go_num, by go_num, by omega, by omega, by omega, HInv, HOL4, HR4, HB4⟩
            case measure => simp [intOf]; omega
        · have hkk : k = D.length := by omega
          have hbl := HB.out
          obtain ⟨t1, x1, p1, m1, c1, hA1, hf1, hC1, hI1⟩ := HEA.out i (by omega)
          have HTf1 := Lib.hid hf1
          have HIt1 := Lib.hid hI1
          have HAt1 := Lib.hid hA1
          obtain ⟨k1, i1, g1, n1, fn1, a1, by1, s1⟩ := x1
          have hC1 := hC1.same (hbl.block ga hla)
          have HC1 := Lib.hid hC1
          obtain ⟨x0, x1, x2, x3, x4, x5, x6, x7, x8⟩ := hC1
          dsimp only at x0 x1 x2 x3 x4 x5 x6 x7 x8
          clear hA1 hf1 hI1
          clear hbl
          have HInv := Lib.hid (HI.out.left' HAt1.out (fun t hq => by rw [List.getElem?_eq_none (by omega)] at hq; cases hq) (by omega))
          obtain rfl := hkk
          have r1 : (i : Int) < (A.length : Int) := by omega
          have r4 : decide (i < A.length) = true := decide_eq_true h1
          have r5 : (0 : Int) ≤ (i : Int) := by omega
          go_wp2_with fail
          go_big_region
          have HRW : Hid (RRow wr.drew wc.heap.size wc.heap.size (.slice p m c') rs O) := Lib.hid (HR.out.below (Below.drewN (Below.refl _ _) 1) HB.out.size)
          have HBW : Hid (Below wc.heap.size wc wr.drew) := Lib.hid (HB.out.drewN 1)
          clear HR HB
          have hC1 := HC1.out
          clear x0 x1 x2 x3 x4 x5 x6 x7 x8
          have HCd : Hid (Cells wr.drew ga (oa + i * 9) ⟨k1, i1, g1, n1, fn1, a1, by1, s1⟩ (.slice p1 m1 c1)) := Lib.hid (hC1.same rfl)
          clear hC1
          generalize wr.drew = w5 at *
          obtain ⟨x0, x1, x2, x3, x4, x5, x6, x7, x8⟩ := HCd.out
          dsimp only at x0 x1 x2 x3 x4 x5 x6 x7 x8
          have HRN := Lib.hid (HRW.out.below ((Below.refl _ w5).alloc (Nat.le_refl _) (cells9 ⟨k1, i1, g1, n1, fn1, a1, by1, s1⟩ (.slice p1 m1 c1))) HBW.out.size)
          have HM1 : Hid (m + 1 ≤ maxLen) := Lib.hid (by unfold maxLen; omega)
          have HM2 : Hid ((m + 1) * 112 ≤ 140737488355328) := Lib.hid (by omega)
          have HNC := Lib.hid (nine_cell w5 ⟨k1, i1, g1, n1, fn1, a1, by1, s1⟩ (.slice p1 m1 c1))
          have HNO := Lib.hid (nine_one ⟨k1, i1, g1, n1, fn1, a1, by1, s1⟩ p1 m1 c1)
          have HBA : Hid (Below wc.heap.size wc (w5.alloc (cells9 ⟨k1, i1, g1, n1, fn1, a1, by1, s1⟩ (.slice p1 m1 c1)))) := Lib.hid (HBW.out.alloc HBW.out.size _)
          have HEl := Lib.hid (HIt1.out.below HBA.out (Nat.le_refl _))
          have HOwn := Lib.hid HRN.out.1
          rw [HOL.out] at HOwn
          unfold cells9 at HRN HNC HEl HBA HOwn
          dsimp only at HRN HNC HEl HBA HOwn
          go_wp2_with (at_builtin; refine wpList_append_own_at _ rfl (.tmp 57) (.tmp 62) 28 rfl wc.heap.size 30 i0 (.agg #[.int .i64 0, .int .i64 0, .int .i64 0, .string ⟨#[]⟩, .string ⟨#[]⟩, .int .i64 0, .slice none 0 0, .string ⟨#[]⟩, .int .i64 0]) 9 112 Tryz.underlying28 hi0 hz0 hz1 hz2 rfl (by decide) (.slice p m c') m (flatR rs) rfl HOwn.out ⟨w5.heap.size, 0, none⟩ 1 1 (nineL ⟨k1, i1, g1, n1, fn1, a1, by1, s1⟩ (.slice p1 m1 c1)) rfl rfl HNC.out HNO.out HM1.out HM2.out HBA.out.size ?_; intro v' w4 hown4 hg4 _ _; have HR4 := Lib.hid (HRN.out.push1 HOL.out HTf1.out HEl.out (Nat.le_refl _) HBA.out.size hown4 hg4); have HB4 : Hid (Below wc.heap.size wc w4) := Lib.hid (HBA.out.grown hg4 HBA.out.size (fun k hk => HRN.out.own_ge k hk)); have HOL4 : Hid ((O ++ [t1]).length = m + 1) := Lib.hid (by simp [HOL.out]); obtain ⟨p4, c4, rfl⟩ := HR4.out.shape; rw [HOL4.out] at HR4 ⊢; clear hown4 hg4)
          go_roundw
          case rel => exact ⟨i + 1, D.length, m + 1, _, _, p4, c4, by go_num, by go_num, by go_num, by omega, by omega, by omega, HInv, HOL4, HR4, HB4⟩
          case measure => simp [intOf]; omega
      · have hii : i = A.length := by omega
        by_cases h2 : k < D.length
        · have hbl := HB.out
          obtain ⟨t2, x2, p2, m2, c2, hA2, hf2, hC2, hI2⟩ := HED.out k (by omega)
          have HTf2 := Lib.hid hf2
          have HIt2 := Lib.hid hI2
          have HAt2 := Lib.hid hA2
          obtain ⟨k2, i2, g2, n2, fn2, a2, by2, s2⟩ := x2
          have hC2 := hC2.same (hbl.block gb hlb)
          have HC2 := Lib.hid hC2
          obtain ⟨y0, y1, y2, y3, y4, y5, y6, y7, y8⟩ := hC2
          dsimp only at y0 y1 y2 y3 y4 y5 y6 y7 y8
          clear hA2 hf2 hI2
          clear hbl
          have HInv := Lib.hid (HI.out.right' HAt2.out (fun t hq => by rw [List.getElem?_eq_none (by omega)] at hq; cases hq) (by omega))
          obtain rfl := hii
          have r2 : (k : Int) < (D.length : Int) := by omega
          have r3 : ((k : Int) == (D.length : Int)) = false := by have : ¬ (k : Int) = (D.length : Int) := by omega
                                                                  simpa using this
          have r7 : (k == D.length) = false := by have : ¬ k = D.length := by omega
                                                  simpa using this
          have r6 : (0 : Int) ≤ (k : Int) := by omega
          go_wp2_with fail
          go_big_region
          have HRW : Hid (RRow wr.drew wc.heap.size wc.heap.size (.slice p m c') rs O) := Lib.hid (HR.out.below (Below.drewN (Below.refl _ _) 1) HB.out.size)
          have HBW : Hid (Below wc.heap.size wc wr.drew) := Lib.hid (HB.out.drewN 1)
          clear HR HB
          have hC2 := HC2.out
          clear y0 y1 y2 y3 y4 y5 y6 y7 y8
          have HCd : Hid (Cells wr.drew gb (ob + k * 9) ⟨k2, i2, g2, n2, fn2, a2, by2, s2⟩ (.slice p2 m2 c2)) := Lib.hid (hC2.same rfl)
          clear hC2
          generalize wr.drew = w5 at *
          obtain ⟨y0, y1, y2, y3, y4, y5, y6, y7, y8⟩ := HCd.out
          dsimp only at y0 y1 y2 y3 y4 y5 y6 y7 y8
          have HRN := Lib.hid (HRW.out.below ((Below.refl _ w5).alloc (Nat.le_refl _) (cells9 ⟨k2, i2, g2, n2, fn2, a2, by2, s2⟩ (.slice p2 m2 c2))) HBW.out.size)
          have HM1 : Hid (m + 1 ≤ maxLen) := Lib.hid (by unfold maxLen; omega)
          have HM2 : Hid ((m + 1) * 112 ≤ 140737488355328) := Lib.hid (by omega)
          have HNC := Lib.hid (nine_cell w5 ⟨k2, i2, g2, n2, fn2, a2, by2, s2⟩ (.slice p2 m2 c2))
          have HNO := Lib.hid (nine_one ⟨k2, i2, g2, n2, fn2, a2, by2, s2⟩ p2 m2 c2)
          have HBA : Hid (Below wc.heap.size wc (w5.alloc (cells9 ⟨k2, i2, g2, n2, fn2, a2, by2, s2⟩ (.slice p2 m2 c2)))) := Lib.hid (HBW.out.alloc HBW.out.size _)
          have HEl := Lib.hid (HIt2.out.below HBA.out (Nat.le_refl _))
          have HOwn := Lib.hid HRN.out.1
          rw [HOL.out] at HOwn
          unfold cells9 at HRN HNC HEl HBA HOwn
          dsimp only at HRN HNC HEl HBA HOwn
          go_wp2_with (at_builtin; refine wpList_append_own_at _ rfl (.tmp 66) (.tmp 71) 28 rfl wc.heap.size 30 i0 (.agg #[.int .i64 0, .int .i64 0, .int .i64 0, .string ⟨#[]⟩, .string ⟨#[]⟩, .int .i64 0, .slice none 0 0, .string ⟨#[]⟩, .int .i64 0]) 9 112 Tryz.underlying28 hi0 hz0 hz1 hz2 rfl (by decide) (.slice p m c') m (flatR rs) rfl HOwn.out ⟨w5.heap.size, 0, none⟩ 1 1 (nineL ⟨k2, i2, g2, n2, fn2, a2, by2, s2⟩ (.slice p2 m2 c2)) rfl rfl HNC.out HNO.out HM1.out HM2.out HBA.out.size ?_; intro v' w4 hown4 hg4 _ _; have HR4 := Lib.hid (HRN.out.push1 HOL.out HTf2.out HEl.out (Nat.le_refl _) HBA.out.size hown4 hg4); have HB4 : Hid (Below wc.heap.size wc w4) := Lib.hid (HBA.out.grown hg4 HBA.out.size (fun k hk => HRN.out.own_ge k hk)); have HOL4 : Hid ((O ++ [t2]).length = m + 1) := Lib.hid (by simp [HOL.out]); obtain ⟨p4, c4, rfl⟩ := HR4.out.shape; rw [HOL4.out] at HR4 ⊢; clear hown4 hg4)
          go_roundw
          case rel => exact ⟨A.length, k + 1, m + 1, _, _, p4, c4, by go_num, by go_num, by go_num, by omega, by omega, by omega, HInv, HOL4, HR4, HB4⟩
          case measure => simp [intOf]; omega
        · have hkk : k = D.length := by omega
          subst hii hkk
          have HE := Lib.hid HI.out.done
          have HItm := Lib.hid (HR.out.items HB.out.size)
          have HBF := Lib.hid (HBW0.out.trans (HB.out.mono HBW0.out.size))
          go_wp2_with fail
          go_ret
          exact ⟨p, c', by rw [← HE.out, HOL.out]; rfl, by rw [← HE.out, HOL.out]; exact HItm.out, HBF.out⟩
theorem rsortAll : ∀ N, RSortS N
  | 0 => fun n w B v l hB h1 hs hl => rsortSmall w B v l hB h1 (by omega)
  | N + 1 => fun n w B v l hB h1 hs hl => by
    by_cases h2 : 2 ≤ l.length
    · exact rsortStep (rsortAll N) w B v l hB h1 hs hl h2
    · exact rsortSmall w B v l hB h1 (by omega)
theorem rsortW {n : Nat} (w : World) (B : Nat) (v : Value) (l : List (Tm (n + 1))) (hB : B ≤ w.heap.size) (h1 : ItemsAt w B (n + 1) v l) (hs : nodesL (n + 1) l ≤ 100000000) : Calls Tryz.prog 35 #[v] w (RPost (sortL l) w) :=
  rsortAll l.length n w B v l hB h1 hs (Nat.le_refl _)
end Go.Proofs.YtnakbepcalciiaaGreat.tm
