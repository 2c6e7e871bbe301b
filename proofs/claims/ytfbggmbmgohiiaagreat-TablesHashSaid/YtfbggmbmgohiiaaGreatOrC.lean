
/- The order of terms is a total order of the formed terms. No condition. -/
import Derived.Test.YtfbggmbmgohiiaaGreatOrB
namespace Go.Proofs.YtfbggmbmgohiiaaGreat.tm
open names
set_option linter.unusedVariables false
set_option linter.unusedSimpArgs false

theorem of_eqB {α : Type} {a b : α} (h : eqB a b = true) : a = b := @of_decide_eq_true _ (Classical.propDecidable _) h
def FT : (n : Nat) → Tm n → Prop
  | 0, _ => True
  | n + 1, t => formedT t = true
theorem ft_items {n : Nat} {t : Tm (n + 1)} (h : formedT t = true) : ∀ x ∈ t.items, FT n x := by
  intro x hx
  cases n with
  | zero => trivial
  | succ n =>
    unfold formedT at h
    simp only [Bool.and_eq_true] at h
    have h2 := h.2
    unfold formedL at h2
    rw [List.all_eq_true] at h2
    have := h2 x hx
    show formedT x = true
    unfold formedT
    exact this
theorem ft_ok {n : Nat} {t : Tm (n + 1)} (h : formedT t = true) : inB t.f.kind 0 10 = true ∧ okF t.f t.items.length (lastK n t.items) = true ∧ ({ bareF t.f with kind := 0 } : TF) = zeroF ∧ (if t.f.kind = 4 ∨ t.f.kind = 7 ∨ t.f.kind = 9 then 0 else t.items.length) = 0 := by
  unfold formedT okT bareOK at h
  simp only [Bool.and_eq_true] at h
  obtain ⟨⟨h1, h2, h3, h4⟩, _⟩ := h
  exact ⟨h1, h2, of_eqB h3, of_decide_eq_true h4⟩
theorem ft_bits {n : Nat} {t : Tm (n + 1)} (h : formedT t = true) (hk : t.f.kind = 10) : BitsOK t.f := by
  obtain ⟨_, h2, _, _⟩ := ft_ok h
  unfold okF at h2
  rw [if_neg (by omega), if_neg (by omega), if_neg (by omega), if_neg (by omega), if_neg (by omega), if_neg (by omega), if_neg (by omega), if_pos hk] at h2
  unfold okBits inB at h2
  simp only [Bool.and_eq_true, decide_eq_true_eq] at h2
  exact ⟨h2.1.1.1, h2.1.1.2, h2.1.2, h2.2⟩
theorem last_kd {n : Nat} (l : List (Tm n)) (a : Tm n) : lastK n (a :: l) = kdT n ((a :: l).getLast (by simp)) := by
  cases n with
  | zero => exact (nomatch (show Empty from a))
  | succ n =>
    show (((a :: l).getLast?).map (fun t : Tm (n + 1) => t.f.kind)).getD 0 = _
    rw [List.getLast?_eq_some_getLast (List.cons_ne_nil a l)]; rfl
theorem good_of {α : Type} {S : α → Prop} {kd : α → Int} : ∀ (l : List α) (a : α), (∀ x ∈ a :: l, S x) → kd ((a :: l).getLast (by simp)) ≠ 9 → GoodC S kd a l
  | [], a, h, hk => ⟨h a (by simp), hk⟩
  | b :: l, a, h, hk => ⟨h a (by simp), good_of l b (fun x hx => h x (by simp [hx])) (by rw [List.getLast_cons (by simp)] at hk; exact hk)⟩
theorem ft_list {n : Nat} {t : Tm (n + 1)} (h : formedT t = true) (hk : t.f.kind = 9) : 2 ≤ t.items.length ∧ GoodL (FT n) (kdT n) t.items := by
  obtain ⟨_, h2, _, _⟩ := ft_ok h
  have h3 := ft_items h
  unfold okF at h2
  rw [if_neg (by omega), if_neg (by omega), if_neg (by omega), if_neg (by omega), if_neg (by omega), if_neg (by omega), if_pos hk] at h2
  simp only [Bool.and_eq_true, decide_eq_true_eq] at h2
  refine ⟨h2.1, ?_⟩
  generalize t.items = l at *
  cases l with
  | nil => simp at h2
  | cons a l => exact good_of l a h3 (by rw [← last_kd]; exact h2.2)

theorem head_then (f1 f2 : TF) : headC f1 f2 = thenC (fun f1 f2 : TF => cmpB f1.name f2.name) (thenC (fun f1 f2 : TF => cmpB f1.func f2.func) (thenC (fun f1 f2 : TF => cmpI f1.gen f2.gen) (thenC (fun f1 f2 : TF => cmpI f1.int f2.int) (fun f1 f2 : TF => cmpI f1.arity f2.arity)))) f1 f2 := by
  unfold headC thenC firstL firstL firstL firstL firstL firstL
  dsimp only
  repeat (split <;> try rfl)
  all_goals (rename_i h; exact h.symm)
theorem tpHead : TP (fun _ => True) headC := by
  have e : headC = thenC (fun f1 f2 : TF => cmpB f1.name f2.name) (thenC (fun f1 f2 : TF => cmpB f1.func f2.func) (thenC (fun f1 f2 : TF => cmpI f1.gen f2.gen) (thenC (fun f1 f2 : TF => cmpI f1.int f2.int) (fun f1 f2 : TF => cmpI f1.arity f2.arity)))) := by funext f1 f2; exact head_then f1 f2
  rw [e]
  exact TP.then (tpB.comap (fun f : TF => f.name)) (TP.then (tpB.comap (fun f : TF => f.func)) (TP.then (tpI.comap (fun f : TF => f.gen)) (TP.then (tpI.comap (fun f : TF => f.int)) (tpI.comap (fun f : TF => f.arity)))))
theorem head_eq {f1 f2 : TF} (h : headC f1 f2 = 0) : f1.name = f2.name ∧ f1.func = f2.func ∧ f1.gen = f2.gen ∧ f1.int = f2.int ∧ f1.arity = f2.arity := by
  rw [head_then] at h
  unfold thenC at h
  split at h
  next e1 =>
    split at h
    next e2 =>
      split at h
      next e3 =>
        split at h
        next e4 => exact ⟨cmpB_eq e1, cmpB_eq e2, cmpI_z.1 e3, cmpI_z.1 e4, cmpI_z.1 h⟩
        next e => exact absurd h e
      next e => exact absurd h e
    next e => exact absurd h e
  next e => exact absurd h e
def bodyC {n : Nat} (k : Int) (a b : Tm (n + 1)) : Int :=
  if k = 7 then itemsC (cmpTm n) a.items b.items else if k = 9 then listsC (kdT n) (cmpTm n) a.items b.items else if k = 10 then bitsC a.f b.f else thenC (fun a b : Tm (n + 1) => headC a.f b.f) (fun a b => itemsC (cmpTm n) a.items b.items) a b
theorem cmp_body {n : Nat} (a b : Tm (n + 1)) : cmpTm (n + 1) a b = if a.f.kind = b.f.kind then bodyC a.f.kind a b else cmpI a.f.kind b.f.kind := rfl
structure OrdT (n : Nat) : Prop where
  tp : TP (FT n) (cmpTm n)
  kd : ∀ a b, kdT n a ≠ kdT n b → cmpTm n a b = cmpI (kdT n a) (kdT n b)
  eq : ∀ a b, FT n a → FT n b → cmpTm n a b = 0 → a = b
theorem tf_eq {f1 f2 : TF} (hk : f1.kind = f2.kind) (z1 : ({ bareF f1 with kind := 0 } : TF) = zeroF) (z2 : ({ bareF f2 with kind := 0 } : TF) = zeroF)
    (hh : f1.kind ≠ 7 → f1.kind ≠ 9 → f1.kind ≠ 10 → f1.name = f2.name ∧ f1.func = f2.func ∧ f1.gen = f2.gen ∧ f1.int = f2.int ∧ f1.arity = f2.arity) (hb : f1.kind = 10 → f1.bits = f2.bits ∧ f1.bytes = f2.bytes) : f1 = f2 := by
  obtain ⟨k1, i1, g1, n1, fn1, a1, b1, s1⟩ := f1
  obtain ⟨k2, i2, g2, n2, fn2, a2, b2, s2⟩ := f2
  dsimp only at hk hh hb
  subst hk
  unfold bareF zeroF at z1 z2
  dsimp only at z1 z2
  by_cases h10 : k1 = 10
  · subst h10
    obtain ⟨rfl, rfl⟩ := hb rfl
    simp at z1 z2
    simp [z1, z2]
  · by_cases h : k1 = 7 ∨ k1 = 9
    · have n1 : ¬ k1 = 1 := by omega
      have n2 : ¬ k1 = 2 := by omega
      have n3 : ¬ (k1 = 3 ∨ k1 = 6) := by omega
      have n4 : ¬ k1 = 4 := by omega
      have n5 : ¬ k1 = 5 := by omega
      rw [if_neg n1, if_neg n2, if_neg n3, if_neg n4, if_neg n5, if_neg h10] at z1 z2
      simp at z1 z2
      simp [z1, z2]
    · obtain ⟨rfl, rfl, rfl, rfl, rfl⟩ := hh (by omega) (by omega) h10
      have eb : b1 = ⟨#[]⟩ ∧ s1 = 0 := by
        clear z2
        repeat' split at z1
        all_goals (simp at z1; simp [z1])
      have eb2 : b2 = ⟨#[]⟩ ∧ s2 = 0 := by
        clear z1
        repeat' split at z2
        all_goals (simp at z2; simp [z2])
      simp [eb, eb2]
theorem body_tp {n : Nat} (ih : OrdT n) (k : Int) : TP (fun t : Tm (n + 1) => formedT t = true ∧ t.f.kind = k) (bodyC k) := by
  have hI : TP (fun t : Tm (n + 1) => formedT t = true ∧ t.f.kind = k) (fun a b : Tm (n + 1) => itemsC (cmpTm n) a.items b.items) := (ih.tp.items.comap (fun t : Tm (n + 1) => t.items)).mono (fun t h => ft_items h.1)
  by_cases h7 : k = 7
  · have e : bodyC k = (fun a b : Tm (n + 1) => itemsC (cmpTm n) a.items b.items) := by funext a b; unfold bodyC; rw [if_pos h7]
    rw [e]; exact hI
  by_cases h9 : k = 9
  · have e : bodyC k = (fun a b : Tm (n + 1) => listsC (kdT n) (cmpTm n) a.items b.items) := by funext a b; unfold bodyC; rw [if_neg h7, if_pos h9]
    rw [e]
    refine ((ih.tp.lists ih.kd).comap (fun t : Tm (n + 1) => t.items)).mono (fun t h => ?_)
    obtain ⟨h1, h2⟩ := ft_list h.1 (by omega)
    exact ⟨fun e => by rw [e] at h1; simp at h1, h2⟩
  by_cases h10 : k = 10
  · have e : bodyC k = (fun a b : Tm (n + 1) => bitsC a.f b.f) := by funext a b; unfold bodyC; rw [if_neg h7, if_neg h9, if_pos h10]
    rw [e]
    exact (tpBits.comap (fun t : Tm (n + 1) => t.f)).mono (fun t h => ft_bits h.1 (by omega))
  · have e : bodyC k = thenC (fun a b : Tm (n + 1) => headC a.f b.f) (fun a b => itemsC (cmpTm n) a.items b.items) := by funext a b; unfold bodyC; rw [if_neg h7, if_neg h9, if_neg h10]
    rw [e]
    exact TP.then ((tpHead.comap (fun t : Tm (n + 1) => t.f)).mono (fun _ _ => trivial)) hI
theorem body_eq {n : Nat} (ih : OrdT n) (a b : Tm (n + 1)) (ha : formedT a = true) (hb : formedT b = true) (hk : a.f.kind = b.f.kind) (h : bodyC a.f.kind a b = 0) : a = b := by
  obtain ⟨a1, a2, a3, a4⟩ := ft_ok ha
  obtain ⟨b1, b2, b3, b4⟩ := ft_ok hb
  have hI : itemsC (cmpTm n) a.items b.items = 0 → a.items = b.items := fun h => items_eq _ _ (fun x hx y hy => ih.eq x y (ft_items ha x hx) (ft_items hb y hy)) h
  unfold bodyC at h
  by_cases h7 : a.f.kind = 7
  · rw [if_pos h7] at h
    exact Tm.ext (tf_eq hk a3 b3 (fun x => absurd h7 x) (fun x => by omega)) (hI h)
  rw [if_neg h7] at h
  by_cases h9 : a.f.kind = 9
  · rw [if_pos h9] at h
    have l1 := ft_list ha h9
    have l2 := ft_list hb (by omega)
    refine Tm.ext (tf_eq hk a3 b3 (fun _ x => absurd h9 x) (fun x => by omega)) ?_
    clear hI a1 a2 a3 a4 b1 b2 b3 b4
    generalize a.items = l at *
    generalize b.items = m at *
    cases l with
    | nil => simp at l1
    | cons x l => cases m with
      | nil => simp at l2
      | cons y m =>
        obtain ⟨e1, e2⟩ := cells_eq (S := FT n) ih.eq l x m y l1.2 l2.2 h
        rw [e1, e2]
  rw [if_neg h9] at h
  by_cases h10 : a.f.kind = 10
  · rw [if_pos h10] at h
    rw [if_neg (by omega)] at a4 b4
    refine Tm.ext (tf_eq hk a3 b3 (fun _ _ x => absurd h10 x) (fun _ => bits_eq _ _ (ft_bits ha h10) (ft_bits hb (by omega)) h)) ?_
    rw [List.length_eq_zero_iff.1 a4, List.length_eq_zero_iff.1 b4]
  rw [if_neg h10] at h
  unfold thenC at h
  split at h
  next e => exact Tm.ext (tf_eq hk a3 b3 (fun _ _ _ => head_eq e) (fun x => absurd x h10)) (hI h)
  next e => exact absurd h e
theorem ordT : ∀ n, OrdT n
  | 0 => ⟨⟨fun a => (nomatch (show Empty from a)), fun a => (nomatch (show Empty from a)), fun a => (nomatch (show Empty from a))⟩, fun a => (nomatch (show Empty from a)), fun a => (nomatch (show Empty from a))⟩
  | n + 1 => by
    have ih := ordT n
    refine ⟨⟨fun a b => ?_, fun a b => ?_, fun a b d ha hb hd x y => ?_⟩, fun a b h => ?_, fun a b ha hb h => ?_⟩
    · rw [cmp_body]; split
      · exact (body_tp ih _).range a b
      · exact cmpI_range _ _
    · rw [cmp_body, cmp_body]
      by_cases e : a.f.kind = b.f.kind
      · rw [if_pos e, if_pos e.symm, ← e]; exact (body_tp ih _).anti a b
      · rw [if_neg e, if_neg (Ne.symm e)]; exact cmpI_anti _ _
    · have k1 : a.f.kind ≤ b.f.kind := by
        rw [cmp_body] at x
        split at x
        · omega
        · exact cmpI_le.1 x
      have k2 : b.f.kind ≤ d.f.kind := by
        rw [cmp_body] at y
        split at y
        · omega
        · exact cmpI_le.1 y
      rw [cmp_body] at x y ⊢
      by_cases e : a.f.kind = d.f.kind
      · have e1 : a.f.kind = b.f.kind := by omega
        have e2 : b.f.kind = d.f.kind := by omega
        rw [if_pos e1] at x
        rw [if_pos e2, ← e1] at y
        rw [if_pos e]
        exact (body_tp ih a.f.kind).trans a b d ⟨ha, rfl⟩ ⟨hb, e1.symm⟩ ⟨hd, e.symm⟩ x y
      · rw [if_neg e]; exact cmpI_le.2 (by omega)
    · rw [cmp_body, if_neg (show ¬ a.f.kind = b.f.kind from h)]; rfl
    · rw [cmp_body] at h
      split at h
      next e => exact body_eq ih a b ha hb e h
      next e => exact absurd (cmpI_z.1 h) e
end Go.Proofs.YtfbggmbmgohiiaaGreat.tm
