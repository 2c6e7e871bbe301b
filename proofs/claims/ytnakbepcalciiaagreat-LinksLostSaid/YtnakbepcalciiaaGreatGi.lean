/- Several texts in one, one behind the other: OrA, OrB, OrC. No condition beyond theirs. -/
import Derived.Test.YtnakbepcalciiaaGreatGd
import Derived.Test.YtnakbepcalciiaaGreatGe

/- Total preorders by comparisons with three results. No condition. -/
namespace Go.Proofs.YtnakbepcalciiaaGreat.tm
set_option linter.unusedVariables false
set_option linter.unusedSimpArgs false

structure TP {α : Type} (S : α → Prop) (c : α → α → Int) : Prop where
  range : ∀ a b, c a b = -1 ∨ c a b = 0 ∨ c a b = 1
  anti : ∀ a b, c b a = - c a b
  trans : ∀ a b d, S a → S b → S d → c a b ≤ 0 → c b d ≤ 0 → c a d ≤ 0
theorem TP.refl {α : Type} {S : α → Prop} {c : α → α → Int} (h : TP S c) (a : α) : c a a = 0 := by have := h.anti a a; omega
theorem TP.zero {α : Type} {S : α → Prop} {c : α → α → Int} (h : TP S c) {a b d : α} (ha : S a) (hb : S b) (hd : S d) (h1 : c a b ≤ 0) (h2 : c b d ≤ 0) (h3 : c a d = 0) : c a b = 0 ∧ c b d = 0 := by
  have e := h.anti a d
  have h4 := h.trans b d a hb hd ha h2 (by omega)
  have h5 := h.trans d a b hd ha hb (by omega) h1
  have e1 := h.anti a b
  have e2 := h.anti b d
  omega
theorem TP.eqv {α : Type} {S : α → Prop} {c : α → α → Int} (h : TP S c) {a b d : α} (ha : S a) (hb : S b) (hd : S d) (h1 : c a b = 0) : c a d = c b d := by
  have r1 := h.range a d
  have r2 := h.range b d
  have e1 := h.anti a b
  have e2 := h.anti a d
  have e3 := h.anti b d
  have t1 := h.trans a b d ha hb hd (by omega)
  have t2 := h.trans b a d hb ha hd (by omega)
  have t3 := fun x => h.trans d b a hd hb ha x (by omega)
  have t4 := fun x => h.trans d a b hd ha hb x (by omega)
  rcases r1 with r1 | r1 | r1 <;> rcases r2 with r2 | r2 | r2 <;> first | omega | (have := t1 (by omega); omega) | (have := t2 (by omega); omega) | (have := t3 (by omega); omega) | (have := t4 (by omega); omega)
theorem TP.mono {α : Type} {S S' : α → Prop} {c : α → α → Int} (h : TP S c) (hs : ∀ a, S' a → S a) : TP S' c := ⟨h.range, h.anti, fun a b d x y z => h.trans a b d (hs _ x) (hs _ y) (hs _ z)⟩
theorem TP.comap {α β : Type} {S : α → Prop} {c : α → α → Int} (h : TP S c) (f : β → α) : TP (fun x => S (f x)) (fun x y => c (f x) (f y)) := ⟨fun a b => h.range _ _, fun a b => h.anti _ _, fun a b d x y z => h.trans _ _ _ x y z⟩
def thenC {α : Type} (c1 c2 : α → α → Int) (a b : α) : Int := if c1 a b = 0 then c2 a b else c1 a b
theorem TP.then {α : Type} {S : α → Prop} {c1 c2 : α → α → Int} (h1 : TP S c1) (h2 : TP S c2) : TP S (thenC c1 c2) := by
  refine ⟨fun a b => ?_, fun a b => ?_, fun a b d ha hb hd x y => ?_⟩
  · unfold thenC; split
    · exact h2.range a b
    · exact h1.range a b
  · have e1 := h1.anti a b
    have e2 := h2.anti a b
    unfold thenC; split <;> split <;> omega
  · have k1 : c1 a b ≤ 0 := by unfold thenC at x; split at x <;> omega
    have k2 : c1 b d ≤ 0 := by unfold thenC at y; split at y <;> omega
    have k3 := h1.trans a b d ha hb hd k1 k2
    unfold thenC
    split
    next e =>
      have ⟨e1, e2⟩ := h1.zero ha hb hd k1 k2 e
      unfold thenC at x y
      rw [if_pos e1] at x
      rw [if_pos e2] at y
      exact h2.trans a b d ha hb hd x y
    next => exact k3
theorem cmpI_range (a b : Int) : cmpI a b = -1 ∨ cmpI a b = 0 ∨ cmpI a b = 1 := by unfold cmpI; split <;> (try split) <;> simp
theorem cmpI_anti (a b : Int) : cmpI b a = - cmpI a b := by
  unfold cmpI
  by_cases h : a < b
  · rw [if_pos h, if_neg (by omega), if_pos h]; rfl
  · by_cases h2 : b < a
    · rw [if_pos h2, if_neg h, if_pos h2]
    · rw [if_neg h, if_neg h2, if_neg h2, if_neg h]; rfl
theorem cmpI_le {a b : Int} : cmpI a b ≤ 0 ↔ a ≤ b := by unfold cmpI; split <;> (try split) <;> omega
theorem cmpI_lt {a b : Int} : cmpI a b < 0 ↔ a < b := by unfold cmpI; split <;> (try split) <;> omega
theorem cmpI_z {a b : Int} : cmpI a b = 0 ↔ a = b := by unfold cmpI; split <;> (try split) <;> omega
theorem tpI : TP (fun _ => True) cmpI := ⟨cmpI_range, cmpI_anti, fun a b d _ _ _ x y => by rw [cmpI_le] at *; omega⟩

/-! ### lists, letter by letter -/
def lexG {α : Type} (c : α → α → Int) : List α → List α → Int
  | [], [] => 0
  | [], _ :: _ => -1
  | _ :: _, [] => 1
  | a :: l, b :: m => if c a b = 0 then lexG c l m else c a b
theorem lexG_range {α : Type} {c : α → α → Int} (h : ∀ a b, c a b = -1 ∨ c a b = 0 ∨ c a b = 1) : ∀ l m, lexG c l m = -1 ∨ lexG c l m = 0 ∨ lexG c l m = 1
  | [], [] => .inr (.inl rfl)
  | [], _ :: _ => .inl rfl
  | _ :: _, [] => .inr (.inr rfl)
  | a :: l, b :: m => by
    unfold lexG; split
    · exact lexG_range h l m
    · exact h a b
theorem lexG_anti {α : Type} {c : α → α → Int} (h : ∀ a b, c b a = - c a b) : ∀ l m, lexG c m l = - lexG c l m
  | [], [] => rfl
  | [], _ :: _ => rfl
  | _ :: _, [] => rfl
  | a :: l, b :: m => by
    have e := h a b
    have ih := lexG_anti h l m
    unfold lexG; split <;> split <;> omega
theorem TP.lex {α : Type} {S : α → Prop} {c : α → α → Int} (h : TP S c) : TP (fun l => ∀ x ∈ l, S x) (lexG c) := by
  refine ⟨lexG_range h.range, lexG_anti h.anti, ?_⟩
  intro a
  induction a with
  | nil =>
    intro b d _ _ _ _ _
    cases d <;> simp [lexG]
  | cons x l ih =>
    intro b d ha hb hd h1 h2
    cases b with
    | nil => simp [lexG] at h1
    | cons y m =>
      cases d with
      | nil => simp [lexG] at h2
      | cons z k =>
        have hx := ha x (by simp)
        have hy := hb y (by simp)
        have hz := hd z (by simp)
        unfold lexG at h1 h2 ⊢
        have k1 : c x y ≤ 0 := by split at h1 <;> omega
        have k2 : c y z ≤ 0 := by split at h2 <;> omega
        split
        next e =>
          have ⟨e1, e2⟩ := h.zero hx hy hz k1 k2 e
          rw [if_pos e1] at h1
          rw [if_pos e2] at h2
          exact ih m k (fun u hu => ha u (by simp [hu])) (fun u hu => hb u (by simp [hu])) (fun u hu => hd u (by simp [hu])) h1 h2
        next => exact h.trans _ _ _ hx hy hz k1 k2
theorem lexG_eq {α : Type} {c : α → α → Int} : ∀ (l m : List α), (∀ x ∈ l, ∀ y ∈ m, c x y = 0 → x = y) → lexG c l m = 0 → l = m
  | [], [], _, _ => rfl
  | [], _ :: _, _, h => by simp [lexG] at h
  | _ :: _, [], _, h => by simp [lexG] at h
  | a :: l, b :: m, hz, h => by
    unfold lexG at h
    split at h
    next e =>
      rw [hz a (by simp) b (by simp) e, lexG_eq l m (fun x hx y hy => hz x (by simp [hx]) y (by simp [hy])) h]
    next e => exact absurd h e
theorem each_lex {α : Type} (c : α → α → Int) : ∀ (l m : List α), l.length = m.length → eachC c l m = lexG c l m
  | [], [], _ => rfl
  | a :: l, b :: m, h => by
    unfold eachC lexG
    rw [each_lex c l m (by simpa using h)]
theorem items_then {α : Type} (c : α → α → Int) (l m : List α) : itemsC c l m = thenC (fun (l m : List α) => cmpI l.length m.length) (lexG c) l m := by
  unfold itemsC thenC
  by_cases h : l.length = m.length
  · rw [if_pos h, if_pos (cmpI_z.2 (by omega)), each_lex c l m h]
  · rw [if_neg h, if_neg (fun e => h (by have := cmpI_z.1 e; omega))]
theorem TP.items {α : Type} {S : α → Prop} {c : α → α → Int} (h : TP S c) : TP (fun l => ∀ x ∈ l, S x) (itemsC c) := by
  have e : itemsC c = thenC (fun (l m : List α) => cmpI l.length m.length) (lexG c) := by funext l m; exact items_then c l m
  rw [e]
  exact TP.then ((TP.comap tpI (fun l : List α => (l.length : Int))).mono (fun _ _ => trivial)) h.lex
theorem items_eq {α : Type} {c : α → α → Int} (l m : List α) (hz : ∀ x ∈ l, ∀ y ∈ m, c x y = 0 → x = y) (h : itemsC c l m = 0) : l = m := by
  rw [items_then] at h
  unfold thenC at h
  split at h
  · exact lexG_eq l m hz h
  · contradiction

/-! ### strings -/
def cmpU (a b : UInt8) : Int := cmpI a.toNat b.toNat
theorem tpU : TP (fun _ => True) cmpU := TP.comap tpI (fun a : UInt8 => (a.toNat : Int))
theorem cb_lex : ∀ x y : List UInt8, Lib.compareBytes x y = lexG cmpU x y
  | [], [] => rfl
  | [], _ :: _ => rfl
  | _ :: _, [] => rfl
  | a :: x, b :: y => by
    unfold Lib.compareBytes lexG
    by_cases h : a < b
    · have h' : a.toNat < b.toNat := h
      have e : cmpU a b = -1 := by unfold cmpU cmpI; rw [if_pos (by omega)]
      rw [if_pos h, e]; rfl
    · have h' : ¬ a.toNat < b.toNat := h
      by_cases h2 : b < a
      · have h2' : b.toNat < a.toNat := h2
        have e : cmpU a b = 1 := by unfold cmpU cmpI; rw [if_neg (by omega), if_pos (by omega)]
        rw [if_neg h, if_pos h2, e]; rfl
      · have h2' : ¬ b.toNat < a.toNat := h2
        have e : cmpU a b = 0 := by unfold cmpU cmpI; rw [if_neg (by omega), if_neg (by omega)]
        rw [if_neg h, if_neg h2, e, cb_lex x y]; rfl
theorem tpB : TP (fun _ => True) cmpB := by
  have e : cmpB = fun x y => lexG cmpU x.data.toList y.data.toList := by funext x y; exact cb_lex _ _
  rw [e]
  exact (TP.comap tpU.lex (fun x : ByteArray => x.data.toList)).mono (fun _ _ _ _ => trivial)
theorem cmpU_eq {a b : UInt8} (h : cmpU a b = 0) : a = b := UInt8.toNat_inj.1 (by have := cmpI_z.1 h; omega)
theorem cb_eq0 {x y : List UInt8} (h : Lib.compareBytes x y = 0) : x = y := by
  rw [cb_lex] at h
  exact lexG_eq x y (fun _ _ _ _ h => cmpU_eq h) h
theorem cmpB_eq {a b : ByteArray} (h : cmpB a b = 0) : a = b := ByteArray.ext (Array.ext' (cb_eq0 h))

/-! ### lists of cells -/
theorem cells_range {α : Type} {kd : α → Int} {c : α → α → Int} (h : ∀ a b, c a b = -1 ∨ c a b = 0 ∨ c a b = 1) : ∀ a l b m, cellsC kd c a l b m = -1 ∨ cellsC kd c a l b m = 0 ∨ cellsC kd c a l b m = 1
  | a, [], b, [] => h a b
  | a, [], _, _ :: _ => cmpI_range _ _
  | _, _ :: _, b, [] => cmpI_range _ _
  | a, x :: l, b, y :: m => by
    unfold cellsC; split
    · exact cells_range h x l y m
    · exact h a b
theorem cells_anti {α : Type} {kd : α → Int} {c : α → α → Int} (h : ∀ a b, c b a = - c a b) : ∀ a l b m, cellsC kd c b m a l = - cellsC kd c a l b m
  | a, [], b, [] => h a b
  | a, [], _, _ :: _ => cmpI_anti _ _
  | _, _ :: _, b, [] => cmpI_anti _ _
  | a, x :: l, b, y :: m => by
    have e := h a b
    have ih := cells_anti (kd := kd) h x l y m
    unfold cellsC; split <;> split <;> omega
def GoodC {α : Type} (S : α → Prop) (kd : α → Int) : α → List α → Prop
  | a, [] => S a ∧ kd a ≠ 9
  | a, x :: l => S a ∧ GoodC S kd x l
theorem GoodC.head {α : Type} {S : α → Prop} {kd : α → Int} {a : α} {l : List α} (h : GoodC S kd a l) : S a := by cases l <;> exact h.1
theorem cells_trans {α : Type} {S : α → Prop} {kd : α → Int} {c : α → α → Int} (h : TP S c) (hk : ∀ a b, kd a ≠ kd b → c a b = cmpI (kd a) (kd b)) :
    ∀ l a m b k d, GoodC S kd a l → GoodC S kd b m → GoodC S kd d k → cellsC kd c a l b m ≤ 0 → cellsC kd c b m d k ≤ 0 → cellsC kd c a l d k ≤ 0 := by
  have hle : ∀ a b, c a b ≤ 0 → kd a ≤ kd b := fun a b x => by
    by_cases e : kd a = kd b
    · omega
    · rw [hk a b e, cmpI_le] at x; exact x
  have hlt : ∀ a b, kd a < kd b → c a b ≤ 0 := fun a b x => by rw [hk a b (by omega), cmpI_le]; omega
  intro l
  induction l with
  | nil =>
    intro a m b k d ha hb hd x y
    cases m with
    | nil =>
      cases k with
      | nil => exact h.trans _ _ _ ha.1 hb.1 hd.1 x y
      | cons z k =>
        have x' : c a b ≤ 0 := x
        have y' : cmpI (kd b) 9 ≤ 0 := y
        show cmpI (kd a) 9 ≤ 0
        have := hle _ _ x'
        rw [cmpI_le] at *; omega
    | cons u m =>
      have x' : cmpI (kd a) 9 ≤ 0 := x
      cases k with
      | nil =>
        have y' : cmpI 9 (kd d) ≤ 0 := y
        have := ha.2
        rw [cmpI_le] at x' y'
        exact hlt a d (by omega)
      | cons z k => exact x
  | cons u l ih =>
    intro a m b k d ha hb hd x y
    cases m with
    | nil =>
      have x' : cmpI 9 (kd b) ≤ 0 := x
      have := hb.2
      cases k with
      | nil =>
        have y' : c b d ≤ 0 := y
        show cmpI 9 (kd d) ≤ 0
        have := hle _ _ y'
        rw [cmpI_le] at *; omega
      | cons z k =>
        have y' : cmpI (kd b) 9 ≤ 0 := y
        rw [cmpI_le] at x' y'
        omega
    | cons v m =>
      cases k with
      | nil => exact y
      | cons z k =>
        unfold cellsC at x y ⊢
        have k1 : c a b ≤ 0 := by split at x <;> omega
        have k2 : c b d ≤ 0 := by split at y <;> omega
        split
        next e =>
          have ⟨e1, e2⟩ := h.zero ha.head hb.head hd.head k1 k2 e
          rw [if_pos e1] at x
          rw [if_pos e2] at y
          exact ih u m v k z ha.2 hb.2 hd.2 x y
        next => exact h.trans _ _ _ ha.head hb.head hd.head k1 k2
theorem cells_eq {α : Type} {S : α → Prop} {kd : α → Int} {c : α → α → Int} (hz : ∀ a b, S a → S b → c a b = 0 → a = b) : ∀ l a m b, GoodC S kd a l → GoodC S kd b m → cellsC kd c a l b m = 0 → a = b ∧ l = m
  | [], a, [], b, ha, hb, h => ⟨hz a b ha.1 hb.1 h, rfl⟩
  | [], a, _ :: _, b, ha, hb, h => absurd (cmpI_z.1 h) ha.2
  | _ :: _, a, [], b, ha, hb, h => absurd (cmpI_z.1 h).symm hb.2
  | u :: l, a, v :: m, b, ha, hb, h => by
    unfold cellsC at h
    split at h
    next e =>
      obtain ⟨e1, e2⟩ := cells_eq hz l u m v ha.2 hb.2 h
      exact ⟨hz a b ha.1 hb.1 e, by rw [e1, e2]⟩
    next e => exact absurd h e
def GoodL {α : Type} (S : α → Prop) (kd : α → Int) : List α → Prop
  | [] => True
  | a :: l => GoodC S kd a l
theorem TP.lists {α : Type} {S : α → Prop} {kd : α → Int} {c : α → α → Int} (h : TP S c) (hk : ∀ a b, kd a ≠ kd b → c a b = cmpI (kd a) (kd b)) : TP (fun l => l ≠ [] ∧ GoodL S kd l) (listsC kd c) := by
  refine ⟨fun l m => ?_, fun l m => ?_, fun l m k ha hb hd x y => ?_⟩
  · cases l with
    | nil => exact .inr (.inl rfl)
    | cons a l => cases m with
      | nil => exact .inr (.inl rfl)
      | cons b m => exact cells_range h.range a l b m
  · cases l with
    | nil => cases m <;> rfl
    | cons a l => cases m with
      | nil => rfl
      | cons b m => exact cells_anti h.anti a l b m
  · cases l with
    | nil => exact absurd rfl ha.1
    | cons a l => cases m with
      | nil => exact absurd rfl hb.1
      | cons b m => cases k with
        | nil => exact absurd rfl hd.1
        | cons d k => exact cells_trans h hk l a m b k d ha.2 hb.2 hd.2 x y
end Go.Proofs.YtnakbepcalciiaaGreat.tm

/- Bit strings: bit by bit is byte by byte. No condition. -/
namespace Go.Proofs.YtnakbepcalciiaaGreat.tm
set_option linter.unusedVariables false
set_option linter.unusedSimpArgs false

theorem getD_in {α : Type} {l : List α} {i : Nat} {d : α} (h : i < l.length) : l.getD i d = l[i] := by rw [List.getD_eq_getElem?_getD, List.getElem?_eq_getElem h]; rfl
/-- the first n of two rows of numbers, from the first on -/
def lexN (x y : Nat → Int) : Nat → Int
  | 0 => 0
  | n + 1 => if lexN x y n = 0 then cmpI (x n) (y n) else lexN x y n
theorem lexN_front (x y : Nat → Int) : ∀ n, lexN x y (n + 1) = if cmpI (x 0) (y 0) = 0 then lexN (fun i => x (i + 1)) (fun i => y (i + 1)) n else cmpI (x 0) (y 0)
  | 0 => by
    show (if (0 : Int) = 0 then cmpI (x 0) (y 0) else 0) = _
    rw [if_pos rfl]
    split
    next e => rw [e]; rfl
    next => rfl
  | n + 1 => by
    rw [lexN, lexN_front x y n]
    split
    next e =>
      show (if _ = 0 then _ else _) = lexN _ _ (n + 1)
      rw [lexN]
    next e => first | rfl | rw [if_neg e]
theorem lexN_lex : ∀ (x y : Nat → Int) (p q : Nat), lexG cmpI ((List.range p).map x) ((List.range q).map y) = if lexN x y (min p q) = 0 then cmpI p q else lexN x y (min p q)
  | x, y, 0, 0 => rfl
  | x, y, 0, q + 1 => by
    rw [Nat.zero_min, List.range_succ_eq_map]
    show (-1 : Int) = if (0 : Int) = 0 then _ else _
    rw [if_pos rfl]; unfold cmpI; rw [if_pos (by omega)]
  | x, y, p + 1, 0 => by
    rw [Nat.min_zero, List.range_succ_eq_map]
    show (1 : Int) = if (0 : Int) = 0 then _ else _
    rw [if_pos rfl]; unfold cmpI; rw [if_neg (by omega), if_pos (by omega)]
  | x, y, p + 1, q + 1 => by
    have ih := lexN_lex (fun i => x (i + 1)) (fun i => y (i + 1)) p q
    rw [show min (p + 1) (q + 1) = min p q + 1 by omega, lexN_front, List.range_succ_eq_map, List.range_succ_eq_map, List.map_cons, List.map_cons, lexG, List.map_map, List.map_map]
    have ec : cmpI ((p + 1 : Nat) : Int) ((q + 1 : Nat) : Int) = cmpI (p : Int) (q : Int) := by unfold cmpI; congr 1 <;> (first | (simp; done) | (congr 1; simp))
    rw [ec]
    split
    next e => exact ih
    next e => first | rfl | rw [if_neg e]
theorem cb_snoc (a b : UInt8) : ∀ l m : List UInt8, l.length = m.length → Lib.compareBytes (l ++ [a]) (m ++ [b]) = if Lib.compareBytes l m = 0 then cmpU a b else Lib.compareBytes l m
  | [], [], _ => by
    rw [cb_lex, cb_lex]
    show (if cmpU a b = 0 then (0 : Int) else cmpU a b) = if (0 : Int) = 0 then _ else _
    rw [if_pos rfl]; split
    next e => exact e.symm
    next => rfl
  | x :: l, y :: m, h => by
    have ih := cb_snoc a b l m (by simpa using h)
    rw [cb_lex, cb_lex] at ih ⊢
    rw [List.cons_append, List.cons_append, lexG, lexG]
    split
    next e => exact ih
    next e => first | rfl | rw [if_neg e]
def byteAt (s : List UInt8) (i : Nat) : Nat := (s.getD i 0).toNat
def bitAt (s : List UInt8) (i : Nat) : Int := ((byteAt s (i / 8) / 2 ^ (7 - i % 8) % 2 : Nat) : Int)
theorem bit_step (x y r : Nat) (hr : r < 8) : (if cmpI ((x / 2 ^ (8 - r) : Nat) : Int) ((y / 2 ^ (8 - r) : Nat) : Int) = 0 then cmpI ((x / 2 ^ (7 - r) % 2 : Nat) : Int) ((y / 2 ^ (7 - r) % 2 : Nat) : Int) else cmpI ((x / 2 ^ (8 - r) : Nat) : Int) ((y / 2 ^ (8 - r) : Nat) : Int)) = cmpI ((x / 2 ^ (8 - (r + 1)) : Nat) : Int) ((y / 2 ^ (8 - (r + 1)) : Nat) : Int) := by
  rw [show 8 - (r + 1) = 7 - r by omega, show 8 - r = (7 - r) + 1 by omega, Nat.pow_succ, ← Nat.div_div_eq_div_mul, ← Nat.div_div_eq_div_mul]
  generalize x / 2 ^ (7 - r) = u
  generalize y / 2 ^ (7 - r) = v
  by_cases h1 : u / 2 < v / 2
  · have e1 : cmpI ((u / 2 : Nat) : Int) ((v / 2 : Nat) : Int) = -1 := by unfold cmpI; rw [if_pos (by omega)]
    have e2 : cmpI (u : Int) v = -1 := by unfold cmpI; rw [if_pos (by omega)]
    rw [e1, e2]; rfl
  · by_cases h2 : v / 2 < u / 2
    · have e1 : cmpI ((u / 2 : Nat) : Int) ((v / 2 : Nat) : Int) = 1 := by unfold cmpI; rw [if_neg (by omega), if_pos (by omega)]
      have e2 : cmpI (u : Int) v = 1 := by unfold cmpI; rw [if_neg (by omega), if_pos (by omega)]
      rw [e1, e2]; rfl
    · rw [if_pos (cmpI_z.2 (by omega))]
      unfold cmpI
      by_cases h3 : u < v
      · rw [if_pos (by omega), if_pos (by omega)]
      · by_cases h4 : v < u
        · rw [if_neg (by omega), if_pos (by omega), if_neg (by omega), if_pos (by omega)]
        · rw [if_neg (by omega), if_neg (by omega), if_neg (by omega), if_neg (by omega)]
/-- q whole bytes and r bits -/
def wholeC (a b : List UInt8) (q r : Nat) : Int :=
  if Lib.compareBytes (a.take q) (b.take q) = 0 then cmpI ((byteAt a q / 2 ^ (8 - r) : Nat) : Int) ((byteAt b q / 2 ^ (8 - r) : Nat) : Int) else Lib.compareBytes (a.take q) (b.take q)
theorem byteAt_lt (a : List UInt8) (q : Nat) : byteAt a q < 256 := UInt8.toNat_lt _
theorem whole_0 (a b : List UInt8) (q : Nat) : wholeC a b q 0 = Lib.compareBytes (a.take q) (b.take q) := by
  unfold wholeC
  have h1 : byteAt a q / 2 ^ (8 - 0) = 0 := Nat.div_eq_of_lt (byteAt_lt a q)
  have h2 : byteAt b q / 2 ^ (8 - 0) = 0 := Nat.div_eq_of_lt (byteAt_lt b q)
  rw [h1, h2]
  split
  next e => rw [e]; rfl
  next => rfl
theorem whole_8 (a b : List UInt8) (q : Nat) (ha : q < a.length) (hb : q < b.length) : wholeC a b q 8 = wholeC a b (q + 1) 0 := by
  rw [whole_0, List.take_succ_eq_append_getElem ha, List.take_succ_eq_append_getElem hb, cb_snoc _ _ _ _ (by simp; omega)]
  unfold wholeC cmpU byteAt
  rw [getD_in ha, getD_in hb]
  simp
theorem lexN_whole {n : Nat} (a b : List UInt8) (ha : ∀ q, q < n / 8 → q < a.length) (hb : ∀ q, q < n / 8 → q < b.length) : lexN (bitAt a) (bitAt b) n = wholeC a b (n / 8) (n % 8) := by
  induction n with
  | zero => rw [whole_0]; rfl
  | succ n ih =>
    have ih := ih (fun q hq => ha q (by omega)) (fun q hq => hb q (by omega))
    rw [lexN, ih]
    have hs : (if wholeC a b (n / 8) (n % 8) = 0 then cmpI (bitAt a n) (bitAt b n) else wholeC a b (n / 8) (n % 8)) = wholeC a b (n / 8) (n % 8 + 1) := by
      have hbs := bit_step (byteAt a (n / 8)) (byteAt b (n / 8)) (n % 8) (by omega)
      unfold wholeC bitAt
      by_cases e : Lib.compareBytes (a.take (n / 8)) (b.take (n / 8)) = 0
      · rw [if_pos e, if_pos e]; exact hbs
      · rw [if_neg e, if_neg e, if_neg e]
    rw [hs]
    by_cases e : n % 8 = 7
    · rw [show (n + 1) / 8 = n / 8 + 1 by omega, show (n + 1) % 8 = 0 by omega, show n % 8 + 1 = 8 by omega]
      exact whole_8 a b _ (ha _ (by omega)) (hb _ (by omega))
    · rw [show (n + 1) / 8 = n / 8 by omega, show (n + 1) % 8 = n % 8 + 1 by omega]
def bitL (f : TF) : List Int := (List.range f.bits.toNat).map (bitAt f.bytes.data.toList)
structure BitsOK (f : TF) : Prop where
  lo : 0 ≤ f.bits
  hi : f.bits ≤ 16384
  size : (f.bytes.size : Int) = (f.bits + 7) / 8
  last : f.bits % 8 = 0 ∨ lastByte f.bytes % 2 ^ (8 - (f.bits % 8).toNat) = 0
theorem bits_lexN (f1 f2 : TF) (h1 : BitsOK f1) (h2 : BitsOK f2) : bitsC f1 f2 = if lexN (bitAt f1.bytes.data.toList) (bitAt f2.bytes.data.toList) (min f1.bits f2.bits).toNat = 0 then cmpI f1.bits f2.bits else lexN (bitAt f1.bytes.data.toList) (bitAt f2.bytes.data.toList) (min f1.bits f2.bits).toNat := by
  obtain ⟨a1, _, a2, _⟩ := h1
  obtain ⟨b1, _, b2, _⟩ := h2
  have s1 : f1.bytes.data.toList.length = f1.bytes.size := by simp
  have s2 : f2.bytes.data.toList.length = f2.bytes.size := by simp
  rw [lexN_whole _ _ (fun q hq => by omega) (fun q hq => by omega)]
  unfold bitsC wholeC byteAt
  dsimp only
  generalize (min f1.bits f2.bits).toNat = n
  by_cases e : Lib.compareBytes (f1.bytes.data.toList.take (n / 8)) (f2.bytes.data.toList.take (n / 8)) = 0
  · simp only [e, if_true]
    by_cases e0 : n % 8 = 0
    · rw [if_pos e0, e0]
      have h1 : ((f1.bytes.data.toList).getD (n / 8) 0).toNat / 2 ^ (8 - 0) = 0 := Nat.div_eq_of_lt (UInt8.toNat_lt _)
      have h2 : ((f2.bytes.data.toList).getD (n / 8) 0).toNat / 2 ^ (8 - 0) = 0 := Nat.div_eq_of_lt (UInt8.toNat_lt _)
      rw [h1, h2]; rfl
    · rw [if_neg e0]
  · simp only [e, if_false]
theorem bits_lex (f1 f2 : TF) (h1 : BitsOK f1) (h2 : BitsOK f2) : bitsC f1 f2 = lexG cmpI (bitL f1) (bitL f2) := by
  rw [bits_lexN f1 f2 h1 h2]
  unfold bitL
  rw [lexN_lex]
  obtain ⟨a1, _, a2, _⟩ := h1
  obtain ⟨b1, _, b2, _⟩ := h2
  rw [show (min f1.bits f2.bits).toNat = min f1.bits.toNat f2.bits.toNat by omega, Int.toNat_of_nonneg a1, Int.toNat_of_nonneg b1]
theorem bits_range (f1 f2 : TF) : bitsC f1 f2 = -1 ∨ bitsC f1 f2 = 0 ∨ bitsC f1 f2 = 1 := by
  unfold bitsC
  dsimp only
  split
  · split
    · exact cmpI_range _ _
    · split
      · exact cmpI_range _ _
      · exact cmpI_range _ _
  · exact cb_three _ _
theorem bits_anti (f1 f2 : TF) : bitsC f2 f1 = - bitsC f1 f2 := by
  unfold bitsC
  dsimp only
  rw [show min f2.bits f1.bits = min f1.bits f2.bits by omega]
  generalize (min f1.bits f2.bits).toNat = n
  have e1 : Lib.compareBytes (f2.bytes.data.toList.take (n / 8)) (f1.bytes.data.toList.take (n / 8)) = - Lib.compareBytes (f1.bytes.data.toList.take (n / 8)) (f2.bytes.data.toList.take (n / 8)) := by
    rw [cb_lex, cb_lex]; exact lexG_anti tpU.anti _ _
  have e2 := cmpI_anti f1.bits f2.bits
  have e3 := cmpI_anti (((f1.bytes.data.toList.getD (n / 8) 0).toNat / 2 ^ (8 - n % 8) : Nat) : Int) (((f2.bytes.data.toList.getD (n / 8) 0).toNat / 2 ^ (8 - n % 8) : Nat) : Int)
  generalize cmpI (((f1.bytes.data.toList.getD (n / 8) 0).toNat / 2 ^ (8 - n % 8) : Nat) : Int) (((f2.bytes.data.toList.getD (n / 8) 0).toNat / 2 ^ (8 - n % 8) : Nat) : Int) = z at *
  rw [e1, e2, e3]
  split <;> split <;> (try split) <;> (try split) <;> omega
theorem tpBits : TP BitsOK bitsC := by
  refine ⟨bits_range, bits_anti, fun a b d ha hb hd x y => ?_⟩
  rw [bits_lex a b ha hb] at x
  rw [bits_lex b d hb hd] at y
  rw [bits_lex a d ha hd]
  exact tpI.lex.trans _ _ _ (fun _ _ => trivial) (fun _ _ => trivial) (fun _ _ => trivial) x y
theorem last_bits (f : TF) (h : BitsOK f) (h0 : f.bits % 8 ≠ 0) : lastByte f.bytes = byteAt f.bytes.data.toList (f.bits.toNat / 8) := by
  have s1 : f.bytes.data.toList.length = f.bytes.size := by simp
  have := h.size
  have := h.lo
  unfold lastByte byteAt
  have hl : f.bits.toNat / 8 = f.bytes.data.toList.length - 1 := by omega
  rw [hl, List.getLastD_eq_getLast?, List.getLast?_eq_getElem?, ← List.getD_eq_getElem?_getD]
theorem bits_eq (f1 f2 : TF) (h1 : BitsOK f1) (h2 : BitsOK f2) (h : bitsC f1 f2 = 0) : f1.bits = f2.bits ∧ f1.bytes = f2.bytes := by
  have l1 := last_bits f1 h1
  have l2 := last_bits f2 h2
  obtain ⟨a1, a0, a2, a3⟩ := h1
  obtain ⟨b1, b0, b2, b3⟩ := h2
  have s1 : f1.bytes.data.toList.length = f1.bytes.size := by simp
  have s2 : f2.bytes.data.toList.length = f2.bytes.size := by simp
  unfold bitsC at h
  dsimp only at h
  split at h
  next e =>
    have et := cb_eq0 e
    have eb : f1.bits = f2.bits := by
      split at h
      · exact cmpI_z.1 h
      · split at h
        · exact cmpI_z.1 h
        · contradiction
    refine ⟨eb, ?_⟩
    rw [show min f1.bits f2.bits = f1.bits by omega] at et h
    rw [← eb] at b2 b3 l2
    split at h
    next e0 =>
      rw [List.take_of_length_le (by omega), List.take_of_length_le (by omega)] at et
      exact ByteArray.ext (Array.ext' et)
    next e0 =>
      have hp : (f1.bits % 8).toNat = f1.bits.toNat % 8 := by omega
      have hx := a3.resolve_left (by omega)
      have hy := b3.resolve_left (by omega)
      rw [l1 (by omega), hp] at hx
      rw [l2 (by omega), hp] at hy
      split at h
      next e2 =>
        have e3 := cmpI_z.1 e2
        have hbyte : byteAt f1.bytes.data.toList (f1.bits.toNat / 8) = byteAt f2.bytes.data.toList (f1.bits.toNat / 8) := by
          have x1 := Nat.div_add_mod (byteAt f1.bytes.data.toList (f1.bits.toNat / 8)) (2 ^ (8 - f1.bits.toNat % 8))
          have x2 := Nat.div_add_mod (byteAt f2.bytes.data.toList (f1.bits.toNat / 8)) (2 ^ (8 - f1.bits.toNat % 8))
          rw [hx] at x1
          rw [hy] at x2
          have e4 : byteAt f1.bytes.data.toList (f1.bits.toNat / 8) / 2 ^ (8 - f1.bits.toNat % 8) = byteAt f2.bytes.data.toList (f1.bits.toNat / 8) / 2 ^ (8 - f1.bits.toNat % 8) := by unfold byteAt; exact Int.ofNat_inj.1 e3
          rw [← x1, ← x2, e4]
        have q1 : f1.bits.toNat / 8 < f1.bytes.data.toList.length := by omega
        have q2 : f1.bits.toNat / 8 < f2.bytes.data.toList.length := by omega
        have hb2 : f1.bytes.data.toList[f1.bits.toNat / 8] = f2.bytes.data.toList[f1.bits.toNat / 8] := by
          unfold byteAt at hbyte
          rw [getD_in q1, getD_in q2] at hbyte
          exact UInt8.toNat_inj.1 hbyte
        have t1 : f1.bytes.data.toList.take (f1.bits.toNat / 8 + 1) = f1.bytes.data.toList := List.take_of_length_le (by omega)
        have t2 : f2.bytes.data.toList.take (f1.bits.toNat / 8 + 1) = f2.bytes.data.toList := List.take_of_length_le (by omega)
        rw [List.take_succ_eq_append_getElem q1] at t1
        rw [List.take_succ_eq_append_getElem q2] at t2
        refine ByteArray.ext (Array.ext' ?_)
        rw [← t1, ← t2, et, hb2]
      next e2 => exact absurd h e2
  next e => exact absurd h e
end Go.Proofs.YtnakbepcalciiaaGreat.tm

/- The order of terms is a total order of the formed terms. No condition. -/
namespace Go.Proofs.YtnakbepcalciiaaGreat.tm
open names
set_option linter.unusedVariables false
set_option linter.unusedSimpArgs false

theorem of_eqB {α : Type} {a b : α} (h : eqB a b = true) : a = b := @of_decide_eq_true _ (Classical.propDecidable _) h
def FT : (n : Nat) → Tm n → Prop
  | 0, _ => True
  | n + 1, t => formedT t = true
theorem ft_items {n : Nat} {t : Tm (n + 1)} (h : formedT t = true) : ∀ x ∈ t.items, FT n x := by
  intro x hx
  cases n with
  | zero => trivial
  | succ n =>
    unfold formedT at h
    simp only [Bool.and_eq_true] at h
    have h2 := h.2
    unfold formedL at h2
    rw [List.all_eq_true] at h2
    have := h2 x hx
    show formedT x = true
    unfold formedT
    exact this
theorem ft_ok {n : Nat} {t : Tm (n + 1)} (h : formedT t = true) : inB t.f.kind 0 10 = true ∧ okF t.f t.items.length (lastK n t.items) = true ∧ ({ bareF t.f with kind := 0 } : TF) = zeroF ∧ (if t.f.kind = 4 ∨ t.f.kind = 7 ∨ t.f.kind = 9 then 0 else t.items.length) = 0 := by
  unfold formedT okT bareOK at h
  simp only [Bool.and_eq_true] at h
  obtain ⟨⟨h1, h2, h3, h4⟩, _⟩ := h
  exact ⟨h1, h2, of_eqB h3, of_decide_eq_true h4⟩
theorem ft_bits {n : Nat} {t : Tm (n + 1)} (h : formedT t = true) (hk : t.f.kind = 10) : BitsOK t.f := by
  obtain ⟨_, h2, _, _⟩ := ft_ok h
  unfold okF at h2
  rw [if_neg (by omega), if_neg (by omega), if_neg (by omega), if_neg (by omega), if_neg (by omega), if_neg (by omega), if_neg (by omega), if_pos hk] at h2
  unfold okBits inB at h2
  simp only [Bool.and_eq_true, decide_eq_true_eq] at h2
  exact ⟨h2.1.1.1, h2.1.1.2, h2.1.2, h2.2⟩
theorem last_kd {n : Nat} (l : List (Tm n)) (a : Tm n) : lastK n (a :: l) = kdT n ((a :: l).getLast (by simp)) := by
  cases n with
  | zero => exact (nomatch (show Empty from a))
  | succ n =>
    show (((a :: l).getLast?).map (fun t : Tm (n + 1) => t.f.kind)).getD 0 = _
    rw [List.getLast?_eq_some_getLast (List.cons_ne_nil a l)]; rfl
theorem good_of {α : Type} {S : α → Prop} {kd : α → Int} : ∀ (l : List α) (a : α), (∀ x ∈ a :: l, S x) → kd ((a :: l).getLast (by simp)) ≠ 9 → GoodC S kd a l
  | [], a, h, hk => ⟨h a (by simp), hk⟩
  | b :: l, a, h, hk => ⟨h a (by simp), good_of l b (fun x hx => h x (by simp [hx])) (by rw [List.getLast_cons (by simp)] at hk; exact hk)⟩
theorem ft_list {n : Nat} {t : Tm (n + 1)} (h : formedT t = true) (hk : t.f.kind = 9) : 2 ≤ t.items.length ∧ GoodL (FT n) (kdT n) t.items := by
  obtain ⟨_, h2, _, _⟩ := ft_ok h
  have h3 := ft_items h
  unfold okF at h2
  rw [if_neg (by omega), if_neg (by omega), if_neg (by omega), if_neg (by omega), if_neg (by omega), if_neg (by omega), if_pos hk] at h2
  simp only [Bool.and_eq_true, decide_eq_true_eq] at h2
  refine ⟨h2.1, ?_⟩
  generalize t.items = l at *
  cases l with
  | nil => simp at h2
  | cons a l => exact good_of l a h3 (by rw [← last_kd]; exact h2.2)

theorem head_then (f1 f2 : TF) : headC f1 f2 = thenC (fun f1 f2 : TF => cmpB f1.name f2.name) (thenC (fun f1 f2 : TF => cmpB f1.func f2.func) (thenC (fun f1 f2 : TF => cmpI f1.gen f2.gen) (thenC (fun f1 f2 : TF => cmpI f1.int f2.int) (fun f1 f2 : TF => cmpI f1.arity f2.arity)))) f1 f2 := by
  unfold headC thenC firstL firstL firstL firstL firstL firstL
  dsimp only
  repeat (split <;> try rfl)
  all_goals (rename_i h; exact h.symm)
theorem tpHead : TP (fun _ => True) headC := by
  have e : headC = thenC (fun f1 f2 : TF => cmpB f1.name f2.name) (thenC (fun f1 f2 : TF => cmpB f1.func f2.func) (thenC (fun f1 f2 : TF => cmpI f1.gen f2.gen) (thenC (fun f1 f2 : TF => cmpI f1.int f2.int) (fun f1 f2 : TF => cmpI f1.arity f2.arity)))) := by funext f1 f2; exact head_then f1 f2
  rw [e]
  exact TP.then (tpB.comap (fun f : TF => f.name)) (TP.then (tpB.comap (fun f : TF => f.func)) (TP.then (tpI.comap (fun f : TF => f.gen)) (TP.then (tpI.comap (fun f : TF => f.int)) (tpI.comap (fun f : TF => f.arity)))))
theorem head_eq {f1 f2 : TF} (h : headC f1 f2 = 0) : f1.name = f2.name ∧ f1.func = f2.func ∧ f1.gen = f2.gen ∧ f1.int = f2.int ∧ f1.arity = f2.arity := by
  rw [head_then] at h
  unfold thenC at h
  split at h
  next e1 =>
    split at h
    next e2 =>
      split at h
      next e3 =>
        split at h
        next e4 => exact ⟨cmpB_eq e1, cmpB_eq e2, cmpI_z.1 e3, cmpI_z.1 e4, cmpI_z.1 h⟩
        next e => exact absurd h e
      next e => exact absurd h e
    next e => exact absurd h e
  next e => exact absurd h e
def bodyC {n : Nat} (k : Int) (a b : Tm (n + 1)) : Int :=
  if k = 7 then itemsC (cmpTm n) a.items b.items else if k = 9 then listsC (kdT n) (cmpTm n) a.items b.items else if k = 10 then bitsC a.f b.f else thenC (fun a b : Tm (n + 1) => headC a.f b.f) (fun a b => itemsC (cmpTm n) a.items b.items) a b
theorem cmp_body {n : Nat} (a b : Tm (n + 1)) : cmpTm (n + 1) a b = if a.f.kind = b.f.kind then bodyC a.f.kind a b else cmpI a.f.kind b.f.kind := rfl
structure OrdT (n : Nat) : Prop where
  tp : TP (FT n) (cmpTm n)
  kd : ∀ a b, kdT n a ≠ kdT n b → cmpTm n a b = cmpI (kdT n a) (kdT n b)
  eq : ∀ a b, FT n a → FT n b → cmpTm n a b = 0 → a = b
theorem tf_eq {f1 f2 : TF} (hk : f1.kind = f2.kind) (z1 : ({ bareF f1 with kind := 0 } : TF) = zeroF) (z2 : ({ bareF f2 with kind := 0 } : TF) = zeroF)
    (hh : f1.kind ≠ 7 → f1.kind ≠ 9 → f1.kind ≠ 10 → f1.name = f2.name ∧ f1.func = f2.func ∧ f1.gen = f2.gen ∧ f1.int = f2.int ∧ f1.arity = f2.arity) (hb : f1.kind = 10 → f1.bits = f2.bits ∧ f1.bytes = f2.bytes) : f1 = f2 := by
  obtain ⟨k1, i1, g1, n1, fn1, a1, b1, s1⟩ := f1
  obtain ⟨k2, i2, g2, n2, fn2, a2, b2, s2⟩ := f2
  dsimp only at hk hh hb
  subst hk
  unfold bareF zeroF at z1 z2
  dsimp only at z1 z2
  by_cases h10 : k1 = 10
  · subst h10
    obtain ⟨rfl, rfl⟩ := hb rfl
    simp at z1 z2
    simp [z1, z2]
  · by_cases h : k1 = 7 ∨ k1 = 9
    · have n1 : ¬ k1 = 1 := by omega
      have n2 : ¬ k1 = 2 := by omega
      have n3 : ¬ (k1 = 3 ∨ k1 = 6) := by omega
      have n4 : ¬ k1 = 4 := by omega
      have n5 : ¬ k1 = 5 := by omega
      rw [if_neg n1, if_neg n2, if_neg n3, if_neg n4, if_neg n5, if_neg h10] at z1 z2
      simp at z1 z2
      simp [z1, z2]
    · obtain ⟨rfl, rfl, rfl, rfl, rfl⟩ := hh (by omega) (by omega) h10
      have eb : b1 = ⟨#[]⟩ ∧ s1 = 0 := by
        clear z2
        repeat' split at z1
        all_goals (simp at z1; simp [z1])
      have eb2 : b2 = ⟨#[]⟩ ∧ s2 = 0 := by
        clear z1
        repeat' split at z2
        all_goals (simp at z2; simp [z2])
      simp [eb, eb2]
theorem body_tp {n : Nat} (ih : OrdT n) (k : Int) : TP (fun t : Tm (n + 1) => formedT t = true ∧ t.f.kind = k) (bodyC k) := by
  have hI : TP (fun t : Tm (n + 1) => formedT t = true ∧ t.f.kind = k) (fun a b : Tm (n + 1) => itemsC (cmpTm n) a.items b.items) := (ih.tp.items.comap (fun t : Tm (n + 1) => t.items)).mono (fun t h => ft_items h.1)
  by_cases h7 : k = 7
  · have e : bodyC k = (fun a b : Tm (n + 1) => itemsC (cmpTm n) a.items b.items) := by funext a b; unfold bodyC; rw [if_pos h7]
    rw [e]; exact hI
  by_cases h9 : k = 9
  · have e : bodyC k = (fun a b : Tm (n + 1) => listsC (kdT n) (cmpTm n) a.items b.items) := by funext a b; unfold bodyC; rw [if_neg h7, if_pos h9]
    rw [e]
    refine ((ih.tp.lists ih.kd).comap (fun t : Tm (n + 1) => t.items)).mono (fun t h => ?_)
    obtain ⟨h1, h2⟩ := ft_list h.1 (by omega)
    exact ⟨fun e => by rw [e] at h1; simp at h1, h2⟩
  by_cases h10 : k = 10
  · have e : bodyC k = (fun a b : Tm (n + 1) => bitsC a.f b.f) := by funext a b; unfold bodyC; rw [if_neg h7, if_neg h9, if_pos h10]
    rw [e]
    exact (tpBits.comap (fun t : Tm (n + 1) => t.f)).mono (fun t h => ft_bits h.1 (by omega))
  · have e : bodyC k = thenC (fun a b : Tm (n + 1) => headC a.f b.f) (fun a b => itemsC (cmpTm n) a.items b.items) := by funext a b; unfold bodyC; rw [if_neg h7, if_neg h9, if_neg h10]
    rw [e]
    exact TP.then ((tpHead.comap (fun t : Tm (n + 1) => t.f)).mono (fun _ _ => trivial)) hI
theorem body_eq {n : Nat} (ih : OrdT n) (a b : Tm (n + 1)) (ha : formedT a = true) (hb : formedT b = true) (hk : a.f.kind = b.f.kind) (h : bodyC a.f.kind a b = 0) : a = b := by
  obtain ⟨a1, a2, a3, a4⟩ := ft_ok ha
  obtain ⟨b1, b2, b3, b4⟩ := ft_ok hb
  have hI : itemsC (cmpTm n) a.items b.items = 0 → a.items = b.items := fun h => items_eq _ _ (fun x hx y hy => ih.eq x y (ft_items ha x hx) (ft_items hb y hy)) h
  unfold bodyC at h
  by_cases h7 : a.f.kind = 7
  · rw [if_pos h7] at h
    exact Tm.ext (tf_eq hk a3 b3 (fun x => absurd h7 x) (fun x => by omega)) (hI h)
  rw [if_neg h7] at h
  by_cases h9 : a.f.kind = 9
  · rw [if_pos h9] at h
    have l1 := ft_list ha h9
    have l2 := ft_list hb (by omega)
    refine Tm.ext (tf_eq hk a3 b3 (fun _ x => absurd h9 x) (fun x => by omega)) ?_
    clear hI a1 a2 a3 a4 b1 b2 b3 b4
    generalize a.items = l at *
    generalize b.items = m at *
    cases l with
    | nil => simp at l1
    | cons x l => cases m with
      | nil => simp at l2
      | cons y m =>
        obtain ⟨e1, e2⟩ := cells_eq (S := FT n) ih.eq l x m y l1.2 l2.2 h
        rw [e1, e2]
  rw [if_neg h9] at h
  by_cases h10 : a.f.kind = 10
  · rw [if_pos h10] at h
    rw [if_neg (by omega)] at a4 b4
    refine Tm.ext (tf_eq hk a3 b3 (fun _ _ x => absurd h10 x) (fun _ => bits_eq _ _ (ft_bits ha h10) (ft_bits hb (by omega)) h)) ?_
    rw [List.length_eq_zero_iff.1 a4, List.length_eq_zero_iff.1 b4]
  rw [if_neg h10] at h
  unfold thenC at h
  split at h
  next e => exact Tm.ext (tf_eq hk a3 b3 (fun _ _ _ => head_eq e) (fun x => absurd x h10)) (hI h)
  next e => exact absurd h e
theorem ordT : ∀ n, OrdT n
  | 0 => ⟨⟨fun a => (nomatch (show Empty from a)), fun a => (nomatch (show Empty from a)), fun a => (nomatch (show Empty from a))⟩, fun a => (nomatch (show Empty from a)), fun a => (nomatch (show Empty from a))⟩
  | n + 1 => by
    have ih := ordT n
    refine ⟨⟨fun a b => ?_, fun a b => ?_, fun a b d ha hb hd x y => ?_⟩, fun a b h => ?_, fun a b ha hb h => ?_⟩
    · rw [cmp_body]; split
      · exact (body_tp ih _).range a b
      · exact cmpI_range _ _
    · rw [cmp_body, cmp_body]
      by_cases e : a.f.kind = b.f.kind
      · rw [if_pos e, if_pos e.symm, ← e]; exact (body_tp ih _).anti a b
      · rw [if_neg e, if_neg (Ne.symm e)]; exact cmpI_anti _ _
    · have k1 : a.f.kind ≤ b.f.kind := by
        rw [cmp_body] at x
        split at x
        · omega
        · exact cmpI_le.1 x
      have k2 : b.f.kind ≤ d.f.kind := by
        rw [cmp_body] at y
        split at y
        · omega
        · exact cmpI_le.1 y
      rw [cmp_body] at x y ⊢
      by_cases e : a.f.kind = d.f.kind
      · have e1 : a.f.kind = b.f.kind := by omega
        have e2 : b.f.kind = d.f.kind := by omega
        rw [if_pos e1] at x
        rw [if_pos e2, ← e1] at y
        rw [if_pos e]
        exact (body_tp ih a.f.kind).trans a b d ⟨ha, rfl⟩ ⟨hb, e1.symm⟩ ⟨hd, e.symm⟩ x y
      · rw [if_neg e]; exact cmpI_le.2 (by omega)
    · rw [cmp_body, if_neg (show ¬ a.f.kind = b.f.kind from h)]; rfl
    · rw [cmp_body] at h
      split at h
      next e => exact body_eq ih a b ha hb e h
      next e => exact absurd (cmpI_z.1 h) e
end Go.Proofs.YtnakbepcalciiaaGreat.tm
