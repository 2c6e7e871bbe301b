
/- The order of terms: each, items. Conditions: the terms lie in memory, and are formed. -/
import Derived.Test.YtfbggmbmgohiiaaGreatTmU
import Derived.Test.YtfbggmbmgohiiaaGreatTmI
namespace Go.Proofs.YtfbggmbmgohiiaaGreat.tm
open Go.RowKit mem names
set_option linter.unusedVariables false
set_option linter.unusedSimpArgs false
set_option maxHeartbeats 1000000
set_option maxRecDepth 100000

def headC (f1 f2 : TF) : Int := firstL [cmpB f1.name f2.name, cmpB f1.func f2.func, cmpI f1.gen f2.gen, cmpI f1.int f2.int, cmpI f1.arity f2.arity]
def bitsC (f1 f2 : TF) : Int :=
  let n := (min f1.bits f2.bits).toNat
  let k := Lib.compareBytes (f1.bytes.data.toList.take (n / 8)) (f2.bytes.data.toList.take (n / 8))
  if k = 0 then
    (if n % 8 = 0 then cmpI f1.bits f2.bits else
      (let x := ((f1.bytes.data.toList.getD (n / 8) 0).toNat / 2 ^ (8 - n % 8) : Nat)
       let y := ((f2.bytes.data.toList.getD (n / 8) 0).toNat / 2 ^ (8 - n % 8) : Nat)
       if cmpI x y = 0 then cmpI f1.bits f2.bits else cmpI x y))
  else k
def cmpF {α : Type} (kd : α → Int) (c : α → α → Int) (f1 f2 : TF) (l1 l2 : List α) : Int :=
  if f1.kind = f2.kind then
    (if f1.kind = 7 then itemsC c l1 l2 else if f1.kind = 9 then listsC kd c l1 l2 else if f1.kind = 10 then bitsC f1 f2 else if headC f1 f2 = 0 then itemsC c l1 l2 else headC f1 f2)
  else cmpI f1.kind f2.kind
def kdT : (n : Nat) → Tm n → Int
  | 0, _ => 0
  | n + 1, t => t.f.kind
def cmpTm : (n : Nat) → Tm n → Tm n → Int
  | 0, _, _ => 0
  | n + 1, a, b => cmpF (kdT n) (cmpTm n) a.f b.f a.items b.items
def IPostC (r : Int) (w : World) (e : Ending) (w' : World) : Prop := e = .returned (.int .i64 r) ∧ Below w.heap.size w w'
def CmpS (n : Nat) : Prop := ∀ (w : World) (B : Nat) (v1 v2 : Value) (a b : Tm (n + 1)), B ≤ w.heap.size → ItemsAt w B n v1 a.items → ItemsAt w B n v2 b.items → formedT a = true → formedT b = true → Calls Tryz.prog 121 #[aggV a.f v1, aggV b.f v2] w (IPostC (cmpTm (n + 1) a b) w)
theorem formed_at {n : Nat} {l : List (Tm (n + 1))} (hf : formedL (n + 1) l = true) (j : Nat) (h : j < l.length) : formedT l[j] = true := by
  unfold formedL at hf
  rw [List.all_eq_true] at hf
  exact hf l[j] (List.getElem_mem h)
/-- two elements -/
theorem pairEl {n : Nat} (ih : ∀ m, n = m + 1 → CmpS m) (w : World) (B : Nat) (p1 p2 : Option Addr) (n1 n2 c1 c2 : Nat) (l1 l2 : List (Tm n)) (hB : B ≤ w.heap.size) (h1 : ItemsAt w B n (.slice p1 n1 c1) l1) (h2 : ItemsAt w B n (.slice p2 n2 c2) l2) (f1 : formedL n l1 = true) (f2 : formedL n l2 = true) :
    ∀ i j, (hi : i < l1.length) → (hj : j < l2.length) → ∃ g1 o1 x1 q1 m1 d1 g2 o2 x2 q2 m2 d2, p1 = some ⟨g1, o1, none⟩ ∧ g1 < w.heap.size ∧ Cells w g1 (o1 + i * 9) x1 (.slice q1 m1 d1) ∧ p2 = some ⟨g2, o2, none⟩ ∧ g2 < w.heap.size ∧ Cells w g2 (o2 + j * 9) x2 (.slice q2 m2 d2) ∧
      x1.kind = kdT n l1[i] ∧ x2.kind = kdT n l2[j] ∧ ∀ W, Below w.heap.size w W → Calls Tryz.prog 121 #[aggV x1 (.slice q1 m1 d1), aggV x2 (.slice q2 m2 d2)] W (IPostC (cmpTm n l1[i] l2[j]) W) := by
  cases n with
  | zero => intro i j hi; rw [Tm.nil0 l1] at hi; exact absurd hi (by simp)
  | succ n =>
    intro i j hi hj
    obtain ⟨g1, o1, d1, e1, _, _, hg1, hx1⟩ := h1.at_ (by intro e; subst e; simp at hi)
    obtain ⟨u1, hC1, hI1⟩ := hx1 i hi
    obtain ⟨g2, o2, d2, e2, _, _, hg2, hx2⟩ := h2.at_ (by intro e; subst e; simp at hj)
    obtain ⟨u2, hC2, hI2⟩ := hx2 j hj
    simp only [Value.slice.injEq] at e1 e2
    obtain ⟨q1, c1', rfl, _, _⟩ := hI1.shape
    obtain ⟨q2, c2', rfl, _, _⟩ := hI2.shape
    refine ⟨g1, o1, l1[i].f, q1, _, c1', g2, o2, l2[j].f, q2, _, c2', e1.1, by omega, hC1, e2.1, by omega, hC2, rfl, rfl, fun W hb => ?_⟩
    exact ih n rfl W B _ _ l1[i] l2[j] (Nat.le_trans hB hb.size) (hI1.below hb hB) (hI2.below hb hB) (formed_at f1 i hi) (formed_at f2 j hj)
theorem each_at {α : Type} (c : α → α → Int) : ∀ (l m : List α) (k : Nat) (h1 : k < l.length) (h2 : k < m.length), (∀ j, (a : j < l.length) → (b : j < m.length) → j < k → c l[j] m[j] = 0) → c l[k] m[k] ≠ 0 → eachC c l m = c l[k] m[k]
  | x :: l, y :: m, 0, h1, h2, _, hn => by
    unfold eachC
    rw [if_neg (show ¬ c x y = 0 from hn)]; rfl
  | x :: l, y :: m, k + 1, h1, h2, ha, hn => by
    unfold eachC
    rw [if_pos (show c x y = 0 from ha 0 (by simp) (by simp) (by omega)), each_at c l m k (by simpa using h1) (by simpa using h2) (fun j a b hk => ha (j + 1) (by simpa using a) (by simpa using b) (by omega)) hn]; rfl
theorem each_zero {α : Type} (c : α → α → Int) : ∀ (l m : List α), l.length = m.length → (∀ j, (a : j < l.length) → (b : j < m.length) → c l[j] m[j] = 0) → eachC c l m = 0
  | [], [], _, _ => rfl
  | x :: l, y :: m, hl, ha => by
    unfold eachC
    rw [if_pos (show c x y = 0 from ha 0 (by simp) (by simp)), each_zero c l m (by simpa using hl) (fun j a b => ha (j + 1) (by simpa using a) (by simpa using b))]
theorem eachW {n : Nat} (ih : ∀ m, n = m + 1 → CmpS m) (w : World) (B : Nat) (v1 v2 : Value) (l1 l2 : List (Tm n)) (hB : B ≤ w.heap.size) (h1 : ItemsAt w B n v1 l1) (h2 : ItemsAt w B n v2 l2) (f1 : formedL n l1 = true) (f2 : formedL n l2 = true) (hl : l1.length = l2.length) :
    Calls Tryz.prog 154 #[v1, v2, .func (.func 121) #[] #[]] w (IPostC (eachC (cmpTm n) l1 l2) w) := by
  obtain ⟨p1, c1, rfl, hc1, hm1⟩ := h1.shape
  obtain ⟨p2, c2, rfl, hc2, hm2⟩ := h2.shape
  unfold maxLen at hm1 hm2
  have HP := Lib.hid (pairEl ih w B p1 p2 _ _ c1 c2 l1 l2 hB h1 h2 f1 f2)
  have HAt := Lib.hid (each_at (cmpTm n) l1 l2)
  have HZ := Lib.hid (each_zero (cmpTm n) l1 l2 hl)
  generalize eachC (cmpTm n) l1 l2 = r at *
  have HL := Lib.hid hl
  rw [← hl] at hc2
  rw [← hl]
  clear ih h1 h2 f1 f2 hl
  go_enter Tryz.func154, Tryz.ntmps154
  go_wp2_with fail
  go_loopw [11] (fun s wr => ∃ k : Nat, s = .int .i64 k ∧ k ≤ l1.length ∧ Hid (∀ j, (a : j < l1.length) → (b : j < l2.length) → j < k → cmpTm n l1[j] l2[j] = 0) ∧ Below w.heap.size w wr) (fun s _ => l1.length - (intOf s).toNat)
  case atStart => exact ⟨0, rfl, by omega, Lib.hid (fun j _ _ h => by omega), Below.refl _ _⟩
  case round =>
    obtain ⟨k, rfl, hk, HA, hb⟩ := hrel
    by_cases hlt : k < l1.length
    · have hkb : k < l2.length := by have := HL.out; omega
      obtain ⟨g1, o1, x1, q1, m1, d1, g2, o2, x2, q2, m2, d2, rfl, hg1, hC1, rfl, hg2, hC2, ek1, ek2, hCall⟩ := HP.out k k hlt hkb
      clear ek1 ek2
      have hC1 := hC1.same (hb.block g1 hg1)
      have hC2 := hC2.same (hb.block g2 hg2)
      obtain ⟨x10, x11, x12, x13, x14, x15, x16, x17, x18⟩ := hC1
      obtain ⟨y10, y11, y12, y13, y14, y15, y16, y17, y18⟩ := hC2
      have hb' : Below w.heap.size w wr.drew := hb.drewN 1
      have HC := Lib.hid (hCall wr.drew hb')
      clear hCall
      have HA1 := Lib.hid (HAt.out k hlt hkb HA.out)
      have HA2 : Hid (cmpTm n l1[k] l2[k] = 0 → ∀ j, (a : j < l1.length) → (b : j < l2.length) → j < k + 1 → cmpTm n l1[j] l2[j] = 0) := Lib.hid (fun e j a b hj => by
        by_cases e2 : j = k
        · subst e2; exact e
        · exact HA.out j a b (by omega))
      generalize cmpTm n l1[k] l2[k] = x at *
      unfold aggV IPostC at HC
      go_wp2_with fail
      go_still_tail 9, (by kernel_rfl)
      change wpList _ _ _ _ _ wr.drew
      clear x10 x11 x12 x13 x14 x15 x16 x17 x18 y10 y11 y12 y13 y14 y15 y16 y17 y18
      generalize wr.drew = w2 at *
      go_wp2_with fail
      refine HC.out.mono ?_
      rintro e w3 ⟨rfl, hb3⟩
      have hb4 : Below w.heap.size w w3 := hb'.trans (hb3.mono hb'.size)
      by_cases hx : x = 0
      · subst hx
        have H2 := Lib.hid (HA2.out rfl)
        clear HA1 HA2
        go_wp2_with fail
        go_roundw
        case rel => exact ⟨k + 1, by go_num, by omega, H2, hb4⟩
        case measure => simp [intOf]; omega
      · have q : (x != 0) = true := by simp [hx]
        have HF := Lib.hid (HA1.out hx)
        clear HA1 HA2 hx
        go_wp2_with fail
        go_ret
        exact ⟨ret1i HF.out.symm, hb4⟩
    · have HF := Lib.hid (HZ.out (fun j a b => HA.out j a b (by omega)))
      go_wp2_with fail
      go_ret
      exact ⟨ret1i HF.out.symm, hb⟩
end Go.Proofs.YtfbggmbmgohiiaaGreat.tm
