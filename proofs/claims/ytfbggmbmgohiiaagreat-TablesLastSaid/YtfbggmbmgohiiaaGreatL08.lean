/- Texts of this seat, one behind the other: TmV, TmW, TmX. No condition beyond theirs. -/
import Derived.Test.YtfbggmbmgohiiaaGreatL02
import Derived.Test.YtfbggmbmgohiiaaGreatL07
import Derived.Deep.QuietTactic

/- The order of terms: each, items. Conditions: the terms lie in memory, and are formed. -/
namespace Go.Proofs.YtfbggmbmgohiiaaGreat.tm
open Go.RowKit mem names
set_option linter.unusedVariables false
set_option linter.unusedSimpArgs false
set_option maxHeartbeats 1000000
set_option maxRecDepth 100000

def headC (f1 f2 : TF) : Int := firstL [cmpB f1.name f2.name, cmpB f1.func f2.func, cmpI f1.gen f2.gen, cmpI f1.int f2.int, cmpI f1.arity f2.arity]
def bitsC (f1 f2 : TF) : Int :=
  let n := (min f1.bits f2.bits).toNat
  let k := Lib.compareBytes (f1.bytes.data.toList.take (n / 8)) (f2.bytes.data.toList.take (n / 8))
  if k = 0 then
    (if n % 8 = 0 then cmpI f1.bits f2.bits else
      (let x := ((f1.bytes.data.toList.getD (n / 8) 0).toNat / 2 ^ (8 - n % 8) : Nat)
       let y := ((f2.bytes.data.toList.getD (n / 8) 0).toNat / 2 ^ (8 - n % 8) : Nat)
       if cmpI x y = 0 then cmpI f1.bits f2.bits else cmpI x y))
  else k
def cmpF {α : Type} (kd : α → Int) (c : α → α → Int) (f1 f2 : TF) (l1 l2 : List α) : Int :=
  if f1.kind = f2.kind then
    (if f1.kind = 7 then itemsC c l1 l2 else if f1.kind = 9 then listsC kd c l1 l2 else if f1.kind = 10 then bitsC f1 f2 else if headC f1 f2 = 0 then itemsC c l1 l2 else headC f1 f2)
  else cmpI f1.kind f2.kind
def kdT : (n : Nat) → Tm n → Int
  | 0, _ => 0
  | n + 1, t => t.f.kind
def cmpTm : (n : Nat) → Tm n → Tm n → Int
  | 0, _, _ => 0
  | n + 1, a, b => cmpF (kdT n) (cmpTm n) a.f b.f a.items b.items
def IPostC (r : Int) (w : World) (e : Ending) (w' : World) : Prop := e = .returned (.int .i64 r) ∧ Below w.heap.size w w'
def CmpS (n : Nat) : Prop := ∀ (w : World) (B : Nat) (v1 v2 : Value) (a b : Tm (n + 1)), B ≤ w.heap.size → ItemsAt w B n v1 a.items → ItemsAt w B n v2 b.items → formedT a = true → formedT b = true → Calls Tryz.prog 121 #[aggV a.f v1, aggV b.f v2] w (IPostC (cmpTm (n + 1) a b) w)
theorem formed_at {n : Nat} {l : List (Tm (n + 1))} (hf : formedL (n + 1) l = true) (j : Nat) (h : j < l.length) : formedT l[j] = true := by
  unfold formedL at hf
  rw [List.all_eq_true] at hf
  exact hf l[j] (List.getElem_mem h)
/-- two elements -/
theorem pairEl {n : Nat} (ih : ∀ m, n = m + 1 → CmpS m) (w : World) (B : Nat) (p1 p2 : Option Addr) (n1 n2 c1 c2 : Nat) (l1 l2 : List (Tm n)) (hB : B ≤ w.heap.size) (h1 : ItemsAt w B n (.slice p1 n1 c1) l1) (h2 : ItemsAt w B n (.slice p2 n2 c2) l2) (f1 : formedL n l1 = true) (f2 : formedL n l2 = true) :
    ∀ i j, (hi : i < l1.length) → (hj : j < l2.length) → ∃ g1 o1 x1 q1 m1 d1 g2 o2 x2 q2 m2 d2, p1 = some ⟨g1, o1, none⟩ ∧ g1 < w.heap.size ∧ Cells w g1 (o1 + i * 9) x1 (.slice q1 m1 d1) ∧ p2 = some ⟨g2, o2, none⟩ ∧ g2 < w.heap.size ∧ Cells w g2 (o2 + j * 9) x2 (.slice q2 m2 d2) ∧
      x1.kind = kdT n l1[i] ∧ x2.kind = kdT n l2[j] ∧ ∀ W, Below w.heap.size w W → Calls Tryz.prog 121 #[aggV x1 (.slice q1 m1 d1), aggV x2 (.slice q2 m2 d2)] W (IPostC (cmpTm n l1[i] l2[j]) W) := by
  cases n with
  | zero => intro i j hi; rw [Tm.nil0 l1] at hi; exact absurd hi (by simp)
  | succ n =>
    intro i j hi hj
    obtain ⟨g1, o1, d1, e1, _, _, hg1, hx1⟩ := h1.at_ (by intro e; subst e; simp at hi)
    obtain ⟨u1, hC1, hI1⟩ := hx1 i hi
    obtain ⟨g2, o2, d2, e2, _, _, hg2, hx2⟩ := h2.at_ (by intro e; subst e; simp at hj)
    obtain ⟨u2, hC2, hI2⟩ := hx2 j hj
    simp only [Value.slice.injEq] at e1 e2
    obtain ⟨q1, c1', rfl, _, _⟩ := hI1.shape
    obtain ⟨q2, c2', rfl, _, _⟩ := hI2.shape
    refine ⟨g1, o1, l1[i].f, q1, _, c1', g2, o2, l2[j].f, q2, _, c2', e1.1, by omega, hC1, e2.1, by omega, hC2, rfl, rfl, fun W hb => ?_⟩
    exact ih n rfl W B _ _ l1[i] l2[j] (Nat.le_trans hB hb.size) (hI1.below hb hB) (hI2.below hb hB) (formed_at f1 i hi) (formed_at f2 j hj)
theorem each_at {α : Type} (c : α → α → Int) : ∀ (l m : List α) (k : Nat) (h1 : k < l.length) (h2 : k < m.length), (∀ j, (a : j < l.length) → (b : j < m.length) → j < k → c l[j] m[j] = 0) → c l[k] m[k] ≠ 0 → eachC c l m = c l[k] m[k]
  | x :: l, y :: m, 0, h1, h2, _, hn => by
    unfold eachC
    rw [if_neg (show ¬ c x y = 0 from hn)]; rfl
  | x :: l, y :: m, k + 1, h1, h2, ha, hn => by
    unfold eachC
    rw [if_pos (show c x y = 0 from ha 0 (by simp) (by simp) (by omega)), each_at c l m k (by simpa using h1) (by simpa using h2) (fun j a b hk => ha (j + 1) (by simpa using a) (by simpa using b) (by omega)) hn]; rfl
theorem each_zero {α : Type} (c : α → α → Int) : ∀ (l m : List α), l.length = m.length → (∀ j, (a : j < l.length) → (b : j < m.length) → c l[j] m[j] = 0) → eachC c l m = 0
  | [], [], _, _ => rfl
  | x :: l, y :: m, hl, ha => by
    unfold eachC
    rw [if_pos (show c x y = 0 from ha 0 (by simp) (by simp)), each_zero c l m (by simpa using hl) (fun j a b => ha (j + 1) (by simpa using a) (by simpa using b))]
theorem eachW {n : Nat} (ih : ∀ m, n = m + 1 → CmpS m) (w : World) (B : Nat) (v1 v2 : Value) (l1 l2 : List (Tm n)) (hB : B ≤ w.heap.size) (h1 : ItemsAt w B n v1 l1) (h2 : ItemsAt w B n v2 l2) (f1 : formedL n l1 = true) (f2 : formedL n l2 = true) (hl : l1.length = l2.length) :
    Calls Tryz.prog 154 #[v1, v2, .func (.func 121) #[] #[]] w (IPostC (eachC (cmpTm n) l1 l2) w) := by
  obtain ⟨p1, c1, rfl, hc1, hm1⟩ := h1.shape
  obtain ⟨p2, c2, rfl, hc2, hm2⟩ := h2.shape
  unfold maxLen at hm1 hm2
  have HP := Lib.hid (pairEl ih w B p1 p2 _ _ c1 c2 l1 l2 hB h1 h2 f1 f2)
  have HAt := Lib.hid (each_at (cmpTm n) l1 l2)
  have HZ := Lib.hid (each_zero (cmpTm n) l1 l2 hl)
  generalize eachC (cmpTm n) l1 l2 = r at *
  have HL := Lib.hid hl
  rw [← hl] at hc2
  rw [← hl]
  clear ih h1 h2 f1 f2 hl
  go_enter Tryz.func154, Tryz.ntmps154
  go_wp2_with fail
  go_loopw [11] (fun s wr => ∃ k : Nat, s = .int .i64 k ∧ k ≤ l1.length ∧ Hid (∀ j, (a : j < l1.length) → (b : j < l2.length) → j < k → cmpTm n l1[j] l2[j] = 0) ∧ Below w.heap.size w wr) (fun s _ => l1.length - (intOf s).toNat)
  case atStart => exact ⟨0, rfl, by omega, Lib.hid (fun j _ _ h => by omega), Below.refl _ _⟩
  case round =>
    obtain ⟨k, rfl, hk, HA, hb⟩ := hrel
    by_cases hlt : k < l1.length
    · have hkb : k < l2.length := by have := HL.out; omega
      obtain ⟨g1, o1, x1, q1, m1, d1, g2, o2, x2, q2, m2, d2, rfl, hg1, hC1, rfl, hg2, hC2, ek1, ek2, hCall⟩ := HP.out k k hlt hkb
      clear ek1 ek2
      have hC1 := hC1.same (hb.block g1 hg1)
      have hC2 := hC2.same (hb.block g2 hg2)
      obtain ⟨x10, x11, x12, x13, x14, x15, x16, x17, x18⟩ := hC1
      obtain ⟨y10, y11, y12, y13, y14, y15, y16, y17, y18⟩ := hC2
      have hb' : Below w.heap.size w wr.drew := hb.drewN 1
      have HC := Lib.hid (hCall wr.drew hb')
      clear hCall
      have HA1 := Lib.hid (HAt.out k hlt hkb HA.out)
      have HA2 : Hid (cmpTm n l1[k] l2[k] = 0 → ∀ j, (a : j < l1.length) → (b : j < l2.length) → j < k + 1 → cmpTm n l1[j] l2[j] = 0) := Lib.hid (fun e j a b hj => by
        by_cases e2 : j = k
        · subst e2; exact e
        · exact HA.out j a b (by omega))
      generalize cmpTm n l1[k] l2[k] = x at *
      unfold aggV IPostC at HC
      go_wp2_with fail
      go_still_tail 9, (by kernel_rfl)
      change wpList _ _ _ _ _ wr.drew
      clear x10 x11 x12 x13 x14 x15 x16 x17 x18 y10 y11 y12 y13 y14 y15 y16 y17 y18
      generalize wr.drew = w2 at *
      go_wp2_with fail
      refine HC.out.mono ?_
      rintro e w3 ⟨rfl, hb3⟩
      have hb4 : Below w.heap.size w w3 := hb'.trans (hb3.mono hb'.size)
      by_cases hx : x = 0
      · subst hx
        have H2 := Lib.hid (HA2.out rfl)
        clear HA1 HA2
        go_wp2_with fail
        go_roundw
        case rel => exact ⟨k + 1, by go_num, by omega, H2, hb4⟩
        case measure => simp [intOf]; omega
      · have q : (x != 0) = true := by simp [hx]
        have HF := Lib.hid (HA1.out hx)
        clear HA1 HA2 hx
        go_wp2_with fail
        go_ret
        exact ⟨ret1i HF.out.symm, hb4⟩
    · have HF := Lib.hid (HZ.out (fun j a b => HA.out j a b (by omega)))
      go_wp2_with fail
      go_ret
      exact ⟨ret1i HF.out.symm, hb⟩
end Go.Proofs.YtfbggmbmgohiiaaGreat.tm

/- The order of terms: items, lists. Conditions: as before. -/
namespace Go.Proofs.YtfbggmbmgohiiaaGreat.tm
open Go.RowKit mem names
set_option linter.unusedVariables false
set_option linter.unusedSimpArgs false
set_option maxHeartbeats 4000000
set_option maxRecDepth 100000

theorem cmpI_0 {a b : Int} (h : a = b) : cmpI a b = 0 := by subst h; unfold cmpI; simp
theorem cmpI_ne {a b : Int} (h : a ≠ b) : cmpI a b ≠ 0 := by unfold cmpI; split <;> (try split) <;> omega
theorem itemsW {n : Nat} (ih : ∀ m, n = m + 1 → CmpS m) (w : World) (B : Nat) (v1 v2 : Value) (l1 l2 : List (Tm n)) (hB : B ≤ w.heap.size) (h1 : ItemsAt w B n v1 l1) (h2 : ItemsAt w B n v2 l2) (f1 : formedL n l1 = true) (f2 : formedL n l2 = true) :
    Calls Tryz.prog 131 #[v1, v2] w (IPostC (itemsC (cmpTm n) l1 l2) w) := by
  have hE := fun h => eachW ih w B v1 v2 l1 l2 hB h1 h2 f1 f2 h
  obtain ⟨p1, c1, rfl, hc1, hm1⟩ := h1.shape
  obtain ⟨p2, c2, rfl, hc2, hm2⟩ := h2.shape
  have HE := Lib.hid hE
  have hC := fun W => cmpInt l1.length l2.length W
  have hr : itemsC (cmpTm n) l1 l2 = (if l1.length = l2.length then eachC (cmpTm n) l1 l2 else cmpI l1.length l2.length) := rfl
  rw [hr]
  clear ih h1 h2 f1 f2 hE hr
  generalize eachC (cmpTm n) l1 l2 = r at *
  unfold IPostC at HE
  by_cases h : l1.length = l2.length
  · rw [if_pos h]
    rw [cmpI_0 (by omega)] at hC
    have HH := Lib.hid (HE.out h)
    have HC := Lib.hid hC
    clear HE hC h
    generalize l1.length = a at *
    generalize l2.length = b at *
    go_enter Tryz.func131, Tryz.ntmps131
    go_wp2_with fail
    refine (HC.out _).mono ?_
    rintro e w' ⟨rfl, rfl⟩
    go_wp2_with fail
    refine HH.out.mono ?_
    rintro e w2 ⟨rfl, hb⟩
    go_wp2_with fail
    go_ret
    exact ⟨rfl, hb⟩
  · rw [if_neg h]
    have hne := cmpI_ne (a := (l1.length : Int)) (b := l2.length) (by omega)
    have HC := Lib.hid hC
    clear HE hC h
    generalize cmpI (l1.length : Int) l2.length = x at *
    have q : (x != 0) = true := by simp [hne]
    clear hne
    generalize l1.length = a at *
    generalize l2.length = b at *
    go_enter Tryz.func131, Tryz.ntmps131
    go_wp2_with fail
    refine (HC.out _).mono ?_
    rintro e w' ⟨rfl, rfl⟩
    go_wp2_with fail
    go_ret
    exact ⟨rfl, Below.refl _ _⟩

theorem lists_step {α : Type} (kd : α → Int) (c : α → α → Int) (a x : α) (l : List α) (b y : α) (m : List α) : listsC kd c (a :: x :: l) (b :: y :: m) = if c a b = 0 then listsC kd c (x :: l) (y :: m) else c a b := by
  show cellsC kd c a (x :: l) b (y :: m) = if c a b = 0 then cellsC kd c x l y m else c a b
  rw [cellsC]
/-- what one round of the loop over cells finds -/
theorem lists_at {α : Type} (kd : α → Int) (c : α → α → Int) (l m : List α) (k : Nat) (h1 : k + 1 < l.length) (h2 : k + 1 < m.length) :
    (c l[k] m[k] ≠ 0 → listsC kd c (l.drop k) (m.drop k) = c l[k] m[k]) ∧
    (c l[k] m[k] = 0 → listsC kd c (l.drop k) (m.drop k) = listsC kd c (l.drop (k + 1)) (m.drop (k + 1))) ∧
    (l.length = k + 2 → m.length = k + 2 → listsC kd c (l.drop (k + 1)) (m.drop (k + 1)) = c l[k + 1] m[k + 1]) ∧
    (l.length = k + 2 → m.length ≠ k + 2 → listsC kd c (l.drop (k + 1)) (m.drop (k + 1)) = cmpI (kd l[k + 1]) 9) ∧
    (l.length ≠ k + 2 → m.length = k + 2 → listsC kd c (l.drop (k + 1)) (m.drop (k + 1)) = cmpI 9 (kd m[k + 1])) := by
  have e1 : l.drop k = l[k] :: l.drop (k + 1) := List.drop_eq_getElem_cons (by omega)
  have e2 : m.drop k = m[k] :: m.drop (k + 1) := List.drop_eq_getElem_cons (by omega)
  have e3 : l.drop (k + 1) = l[k + 1] :: l.drop (k + 2) := List.drop_eq_getElem_cons h1
  have e4 : m.drop (k + 1) = m[k + 1] :: m.drop (k + 2) := List.drop_eq_getElem_cons h2
  refine ⟨fun h => ?_, fun h => ?_, fun ha hb => ?_, fun ha hb => ?_, fun ha hb => ?_⟩
  · rw [e1, e2, e3, e4, lists_step, if_neg h]
  · rw [e1, e2, e3, e4, lists_step, if_pos h]
  · rw [e3, e4, List.drop_of_length_le (by omega), List.drop_of_length_le (by omega)]; rfl
  · have e6 : m.drop (k + 2) = m[k + 2]'(by omega) :: m.drop (k + 3) := List.drop_eq_getElem_cons (by omega)
    rw [e3, e4, List.drop_of_length_le (by omega), e6]; rfl
  · have e6 : l.drop (k + 2) = l[k + 2]'(by omega) :: l.drop (k + 3) := List.drop_eq_getElem_cons (by omega)
    rw [e3, e4, List.drop_of_length_le (l := m) (by omega), e6]; rfl
end Go.Proofs.YtfbggmbmgohiiaaGreat.tm

/- The order of terms: lists. Conditions: as before. -/
namespace Go.Proofs.YtfbggmbmgohiiaaGreat.tm
open Go.RowKit mem names
set_option linter.unusedVariables false
set_option linter.unusedSimpArgs false
set_option maxHeartbeats 4000000
set_option maxRecDepth 100000

theorem listsW {n : Nat} (ih : ∀ m, n = m + 1 → CmpS m) (w : World) (B : Nat) (v1 v2 : Value) (l1 l2 : List (Tm n)) (hB : B ≤ w.heap.size) (h1 : ItemsAt w B n v1 l1) (h2 : ItemsAt w B n v2 l2) (f1 : formedL n l1 = true) (f2 : formedL n l2 = true) (hl1 : 2 ≤ l1.length) (hl2 : 2 ≤ l2.length) :
    Calls Tryz.prog 132 #[v1, v2] w (IPostC (listsC (kdT n) (cmpTm n) l1 l2) w) := by
  obtain ⟨p1, c1, rfl, hc1, hm1⟩ := h1.shape
  obtain ⟨p2, c2, rfl, hc2, hm2⟩ := h2.shape
  unfold maxLen at hm1 hm2
  have HP := Lib.hid (pairEl ih w B p1 p2 _ _ c1 c2 l1 l2 hB h1 h2 f1 f2)
  have HA := Lib.hid (lists_at (kdT n) (cmpTm n) l1 l2)
  obtain ⟨g1, o1, zx1, zq1, zm1, zd1, g2, o2, zx2, zq2, zm2, zd2, rfl, hg1, zC1, rfl, hg2, zrest⟩ := HP.out 0 0 (by omega) (by omega)
  clear zrest zC1
  have H0 : Hid (listsC (kdT n) (cmpTm n) l1 l2 = listsC (kdT n) (cmpTm n) (l1.drop 0) (l2.drop 0)) := Lib.hid rfl
  generalize listsC (kdT n) (cmpTm n) l1 l2 = r at *
  clear ih h1 h2 f1 f2
  obtain ⟨a0, ha0⟩ : ∃ a, l1.length = a + 2 := ⟨l1.length - 2, by omega⟩
  obtain ⟨b0, hb0⟩ : ∃ a, l2.length = a + 2 := ⟨l2.length - 2, by omega⟩
  obtain ⟨x0, hx0⟩ : ∃ a, c1 = a + 2 := ⟨c1 - 2, by omega⟩
  obtain ⟨y0, hy0⟩ : ∃ a, c2 = a + 2 := ⟨c2 - 2, by omega⟩
  subst hx0
  subst hy0
  rw [ha0, hb0]
  have HL1 := Lib.hid ha0
  have HL2 := Lib.hid hb0
  rw [ha0] at hc1
  rw [hb0] at hc2
  clear ha0 hb0 hl1 hl2
  go_enter Tryz.func132, Tryz.ntmps132
  go_wp2_with fail
  go_loopw [0, 1] (fun s t wr => ∃ k a b x y ga gb : Nat, s = .slice (some ⟨g1, ga, none⟩) (a + 2) (x + 2) ∧ t = .slice (some ⟨g2, gb, none⟩) (b + 2) (y + 2) ∧ Hid (ga = o1 + k * 9) ∧ Hid (gb = o2 + k * 9) ∧ Hid (k + a + 2 = l1.length) ∧ Hid (k + b + 2 = l2.length) ∧ a ≤ x ∧ b ≤ y ∧ x + 2 ≤ 9223372036854775807 ∧ y + 2 ≤ 9223372036854775807 ∧ Hid (r = listsC (kdT n) (cmpTm n) (l1.drop k) (l2.drop k)) ∧ Below w.heap.size w wr) (fun s _ _ => match s with | .slice _ m _ => m | _ => 0)
  case atStart => exact ⟨0, a0, b0, x0, y0, o1, o2, rfl, rfl, Lib.hid (by omega), Lib.hid (by omega), Lib.hid (by have := HL1.out; omega), Lib.hid (by have := HL2.out; omega), by omega, by omega, by omega, by omega, H0, Below.refl _ _⟩
  case round =>
    obtain ⟨k, a, b, x, y, ga, gb, rfl, rfl, hga, hgb, hka, hkb, hax, hby, hxm, hym, hr, hb⟩ := hrel
    have hlt1 : k < l1.length := by have := hka.out; omega
    have hlt2 : k < l2.length := by have := hkb.out; omega
    have hn1 : k + 1 < l1.length := by have := hka.out; omega
    have hn2 : k + 1 < l2.length := by have := hkb.out; omega
    have HN1 := Lib.hid hn1
    have HN2 := Lib.hid hn2
    obtain ⟨_, _, x1, q1, m1, d1, _, _, x2, q2, m2, d2, e1, _, hC1, e2, _, hC2, ek1, ek2, hCall⟩ := HP.out k k hlt1 hlt2
    simp only [Option.some.injEq, Addr.mk.injEq] at e1 e2
    obtain ⟨rfl, rfl, _⟩ := e1
    obtain ⟨rfl, rfl, _⟩ := e2
    clear ek1 ek2
    have hC1 := hC1.same (hb.block g1 hg1)
    have hC2 := hC2.same (hb.block g2 hg2)
    rw [← hga.out] at hC1
    rw [← hgb.out] at hC2
    obtain ⟨x10, x11, x12, x13, x14, x15, x16, x17, x18⟩ := hC1
    obtain ⟨y10, y11, y12, y13, y14, y15, y16, y17, y18⟩ := hC2
    obtain ⟨A1, A2, A3, A4, A5⟩ := HA.out k hn1 hn2
    obtain ⟨_, _, x3, q3, m3, d3, _, _, x4, q4, m4, d4, e1, _, hC3, e2, _, hC4, ek1, ek2, hCall2⟩ := HP.out (k + 1) (k + 1) hn1 hn2
    simp only [Option.some.injEq, Addr.mk.injEq] at e1 e2
    obtain ⟨rfl, rfl, _⟩ := e1
    obtain ⟨rfl, rfl, _⟩ := e2
    rw [show o1 + (k + 1) * 9 = ga + 9 by have := hga.out; omega] at hC3
    rw [show o2 + (k + 1) * 9 = gb + 9 by have := hgb.out; omega] at hC4
    have HK1 := Lib.hid ek1
    have HK2 := Lib.hid ek2
    clear ek1 ek2
    have HC3 := Lib.hid hC3
    have HC4 := Lib.hid hC4
    clear hC3 hC4
    rw [← hr.out] at A1 A2
    have hb' : Below w.heap.size w wr.drew := hb.drewN 1
    have HC := Lib.hid (hCall wr.drew hb')
    clear hCall
    have HA1 := Lib.hid A1
    have HA2 := Lib.hid A2
    have HA3 := Lib.hid A3
    have HA4 := Lib.hid A4
    have HA5 := Lib.hid A5
    clear A1 A2 A3 A4 A5 hr
    have HCall2 := Lib.hid hCall2
    clear hCall2
    generalize cmpTm n l1[k] l2[k] = z at *
    unfold aggV IPostC at HC HCall2
    have ha2 : (0 : Int) < (a : Int) + 2 := by omega
    have hb2 : (0 : Int) < (b : Int) + 2 := by omega
    have ha2n : 0 < a + 2 := by omega
    have hb2n : 0 < b + 2 := by omega
    go_wp2_with fail
    go_still_tail 6, (by kernel_rfl)
    change wpList _ _ _ _ _ wr.drew
    clear x10 x11 x12 x13 x14 x15 x16 x17 x18 y10 y11 y12 y13 y14 y15 y16 y17 y18
    generalize wr.drew = w2 at *
    go_wp2_with fail
    refine HC.out.mono ?_
    rintro e w3 ⟨rfl, hb3⟩
    have hb4 : Below w.heap.size w w3 := hb'.trans (hb3.mono hb'.size)
    clear HC hb3 hb hb'
    by_cases hz : z = 0
    · subst hz
      have hr1 := HA2.out rfl
      have hb5 : Below w.heap.size w w3.drew := hb4.drewN 1
      go_wp2_with fail
      go_quiet (fail)
      have hb5 : Below w.heap.size w (w3.drewN nq) := hb4.drewN nq
      generalize w3.drewN nq = w4 at *
      clear HA1 HA2 hb4
      rcases a with _ | a
      · rcases b with _ | b
        · have hfin : r = cmpTm n (l1[k + 1]'HN1.out) (l2[k + 1]'HN2.out) := hr1.trans (HA3.out (by have := hka.out; omega) (by have := hkb.out; omega))
          have HFin := Lib.hid hfin
          have hC3 := HC3.out.same (hb5.block g1 hg1)
          have hC4 := HC4.out.same (hb5.block g2 hg2)
          obtain ⟨x10, x11, x12, x13, x14, x15, x16, x17, x18⟩ := hC3
          obtain ⟨y10, y11, y12, y13, y14, y15, y16, y17, y18⟩ := hC4
          have hb6 : Below w.heap.size w w4.drew := hb5.drewN 1
          have HC := Lib.hid (HCall2.out w4.drew hb6)
          clear hfin hr1 HA3 HA4 HA5 HCall2
          generalize cmpTm n (l1[k + 1]'HN1.out) (l2[k + 1]'HN2.out) = zz at *
          go_wp2_with fail
          go_still_tail 6, (by kernel_rfl)
          change wpList _ _ _ _ _ w4.drew
          clear x10 x11 x12 x13 x14 x15 x16 x17 x18 y10 y11 y12 y13 y14 y15 y16 y17 y18
          generalize w4.drew = w5 at *
          go_wp2_with fail
          refine HC.out.mono ?_
          rintro e w6 ⟨rfl, hb7⟩
          go_wp2_with fail
          go_ret
          exact ⟨ret1i HFin.out.symm, hb6.trans (hb7.mono hb6.size)⟩
        · have hfin : r = cmpI (kdT n (l1[k + 1]'HN1.out)) 9 := hr1.trans (HA4.out (by have := hka.out; omega) (by have := hkb.out; omega))
          rw [← HK1.out] at hfin
          have HFin := Lib.hid hfin
          have hC3 := HC3.out.same (hb5.block g1 hg1)
          obtain ⟨x10, x11, x12, x13, x14, x15, x16, x17, x18⟩ := hC3
          have HI := Lib.hid (fun W => cmpInt x3.kind 9 W)
          have qb : ((b : Int) + 1 + 1 == 1) = false := by simp; omega
          have qb' : ((b : Int) + 1 = 0) = False := by simp; omega
          clear hfin hr1 HA3 HA4 HA5 HCall2 x11 x12 x13 x14 x15 x16 x17 x18
          go_wp2_with fail
          refine (HI.out _).mono ?_
          rintro e w6 ⟨rfl, rfl⟩
          go_wp2_with fail
          go_ret
          exact ⟨ret1i HFin.out.symm, hb5⟩
      · have qa : ((a : Int) + 1 + 1 == 1) = false := by simp; omega
        have qa' : ((a : Int) + 1 = 0) = False := by simp; omega
        rcases b with _ | b
        · have hfin : r = cmpI 9 (kdT n (l2[k + 1]'HN2.out)) := hr1.trans (HA5.out (by have := hka.out; omega) (by have := hkb.out; omega))
          rw [← HK2.out] at hfin
          have HFin := Lib.hid hfin
          have hC4 := HC4.out.same (hb5.block g2 hg2)
          obtain ⟨x10, x11, x12, x13, x14, x15, x16, x17, x18⟩ := hC4
          have HI := Lib.hid (fun W => cmpInt 9 x4.kind W)
          clear hfin hr1 HA3 HA4 HA5 HCall2 x11 x12 x13 x14 x15 x16 x17 x18
          go_wp2_with fail
          refine (HI.out _).mono ?_
          rintro e w6 ⟨rfl, rfl⟩
          go_wp2_with fail
          go_ret
          exact ⟨ret1i HFin.out.symm, hb5⟩
        · have qb : ((b : Int) + 1 + 1 == 1) = false := by simp; omega
          have qb' : ((b : Int) + 1 = 0) = False := by simp; omega
          have HR1 := Lib.hid hr1
          clear hr1 HA3 HA4 HA5 HCall2
          obtain ⟨x, rfl⟩ : ∃ x', x = x' + 1 := ⟨x - 1, by omega⟩
          obtain ⟨y, rfl⟩ : ∃ y', y = y' + 1 := ⟨y - 1, by omega⟩
          go_wp2_with fail
          go_roundw
          case rel => exact ⟨k + 1, a, b, x, y, ga + 9, gb + 9, rfl, rfl, Lib.hid (by have := hga.out; omega), Lib.hid (by have := hgb.out; omega), Lib.hid (by have := hka.out; omega), Lib.hid (by have := hkb.out; omega), by omega, by omega, by omega, by omega, HR1, hb5⟩
          case measure => simp
    · have q : (z != 0) = true := by simp [hz]
      have HF := Lib.hid (HA1.out hz)
      go_wp2_with fail
      go_ret
      exact ⟨ret1i HF.out.symm, hb4⟩
end Go.Proofs.YtfbggmbmgohiiaaGreat.tm
