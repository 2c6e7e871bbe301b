/- Several texts in one, one behind the other: TmT, TmU, TmV, TmW, TmX, TmY, TmZ. No condition beyond theirs. -/
import Derived.Test.YthgfdpamnepnfaaGa
import Derived.Lib.Bytealg
import Derived.Laws.Cover1
import Derived.WalkSpells
import Derived.Test.YthgfdpamnepnfaaGb
import Derived.Deep.QuietTactic
import Derived.BigQuiet
import Derived.StillTailTactics
/- Comparisons of numbers and strings. No condition. -/
namespace Go.Proofs.Ythgfdpamnepnfaa.tm
open Go.RowKit mem
set_option linter.unusedVariables false
set_option linter.unusedSimpArgs false
set_option maxHeartbeats 1000000
set_option maxRecDepth 100000

def cmpI (a b : Int) : Int := if a < b then -1 else if b < a then 1 else 0
def cmpB (a b : ByteArray) : Int := Lib.compareBytes a.data.toList b.data.toList
theorem ret1i {a b : Int} (h : a = b) : Ending.returned (.int .i64 a) = .returned (.int .i64 b) := by rw [h]
theorem cb_less : ∀ x y : List UInt8, Op.bytesLess x y = decide (Lib.compareBytes x y = -1)
  | [], [] => rfl
  | [], _ :: _ => rfl
  | _ :: _, [] => rfl
  | a :: x, b :: y => by
    unfold Op.bytesLess Lib.compareBytes
    by_cases h : a < b
    · simp [h]
    · by_cases h2 : b < a
      · have : a ≠ b := fun e => by subst e; exact h h2
        simp [h, h2, this]
      · have e : a = b := by
          apply UInt8.toNat_inj.1
          have h1 : ¬ a.toNat < b.toNat := h
          have h3 : ¬ b.toNat < a.toNat := h2
          omega
        subst e
        simp [h, cb_less x y]
theorem cb_eq : ∀ x y : List UInt8, (x == y) = decide (Lib.compareBytes x y = 0)
  | [], [] => rfl
  | [], _ :: _ => rfl
  | _ :: _, [] => rfl
  | a :: x, b :: y => by
    unfold Lib.compareBytes
    have ih := cb_eq x y
    by_cases h : a < b
    · have : a ≠ b := fun e => by subst e; exact absurd h (Nat.lt_irrefl _)
      simp [h, this]
    · by_cases h2 : b < a
      · have : a ≠ b := fun e => by subst e; exact h h2
        simp [h, h2, this]
      · have e : a = b := by
          apply UInt8.toNat_inj.1
          have h1 : ¬ a.toNat < b.toNat := h
          have h3 : ¬ b.toNat < a.toNat := h2
          omega
        subst e
        simp only [List.cons_beq_cons, beq_self_eq_true, Bool.true_and, h, if_false]
        exact ih
theorem cb_three : ∀ x y : List UInt8, Lib.compareBytes x y = -1 ∨ Lib.compareBytes x y = 0 ∨ Lib.compareBytes x y = 1
  | [], [] => .inr (.inl rfl)
  | [], _ :: _ => .inl rfl
  | _ :: _, [] => .inr (.inr rfl)
  | a :: x, b :: y => by
    unfold Lib.compareBytes
    by_cases h : a < b
    · rw [if_pos h]; exact .inl rfl
    · rw [if_neg h]
      by_cases h2 : b < a
      · rw [if_pos h2]; exact .inr (.inr rfl)
      · rw [if_neg h2]; exact cb_three x y
theorem cmpB_cases (a b : ByteArray) : (cmpB a b = -1 ∧ Op.bytesLess a.toList b.toList = true) ∨ (cmpB a b = 0 ∧ Op.bytesLess a.toList b.toList = false ∧ (a.toList == b.toList) = true) ∨ (cmpB a b = 1 ∧ Op.bytesLess a.toList b.toList = false ∧ (a.toList == b.toList) = false) := by
  unfold cmpB
  rw [ByteArray.toList_eq, ByteArray.toList_eq, cb_less, cb_eq]
  rcases cb_three a.data.toList b.data.toList with h | h | h <;> simp [h]
theorem isNaN77 (x : Int) (w : World) : Calls Try.prog 77 #[.int .i64 x] w fun e w' => e = .returned (.bool false) ∧ w = w' := by
  have q : (x != x) = false := by simp
  go_enter Try.func77, Try.ntmps77
  go_wp2_with fail
  go_ret
  exact ⟨rfl, rfl⟩
theorem isNaN81 (x : Int) (w : World) : Calls Try.prog 81 #[.int .i64 x] w fun e w' => e = .returned (.bool false) ∧ w = w' := by
  have q : (x != x) = false := by simp
  go_enter Try.func81, Try.ntmps81
  go_wp2_with fail
  go_ret
  exact ⟨rfl, rfl⟩
theorem isNaN86 (x : Int) (w : World) : Calls Try.prog 86 #[.int .u8 x] w fun e w' => e = .returned (.bool false) ∧ w = w' := by
  have q : (x != x) = false := by simp
  go_enter Try.func86, Try.ntmps86
  go_wp2_with fail
  go_ret
  exact ⟨rfl, rfl⟩
theorem cmpInt (a b : Int) (w : World) : Calls Try.prog 59 #[.int .i64 a, .int .i64 b] w fun e w' => e = .returned (.int .i64 (cmpI a b)) ∧ w = w' := by
  unfold cmpI
  by_cases h : a < b
  · rw [if_pos h]
    have q1 : decide (a < b) = true := decide_eq_true h
    go_enter Try.func59, Try.ntmps59
    go_wp2_with (go_at_call 77; refine (isNaN77 _ _).mono ?_; rintro e w' ⟨rfl, rfl⟩)
    go_ret
    exact ⟨rfl, rfl⟩
  · rw [if_neg h]
    have q1 : decide (a < b) = false := decide_eq_false h
    by_cases h2 : b < a
    · rw [if_pos h2]
      have q2 : decide (b < a) = true := decide_eq_true h2
      go_enter Try.func59, Try.ntmps59
      go_wp2_with (go_at_call 77; refine (isNaN77 _ _).mono ?_; rintro e w' ⟨rfl, rfl⟩)
      go_ret
      exact ⟨rfl, rfl⟩
    · rw [if_neg h2]
      have q2 : decide (b < a) = false := decide_eq_false h2
      go_enter Try.func59, Try.ntmps59
      go_wp2_with (go_at_call 77; refine (isNaN77 _ _).mono ?_; rintro e w' ⟨rfl, rfl⟩)
      go_ret
      exact ⟨rfl, rfl⟩
theorem cmpInt64 (a b : Int) (w : World) : Calls Try.prog 65 #[.int .i64 a, .int .i64 b] w fun e w' => e = .returned (.int .i64 (cmpI a b)) ∧ w = w' := by
  unfold cmpI
  by_cases h : a < b
  · rw [if_pos h]
    have q1 : decide (a < b) = true := decide_eq_true h
    go_enter Try.func65, Try.ntmps65
    go_wp2_with (go_at_call 81; refine (isNaN81 _ _).mono ?_; rintro e w' ⟨rfl, rfl⟩)
    go_ret
    exact ⟨rfl, rfl⟩
  · rw [if_neg h]
    have q1 : decide (a < b) = false := decide_eq_false h
    by_cases h2 : b < a
    · rw [if_pos h2]
      have q2 : decide (b < a) = true := decide_eq_true h2
      go_enter Try.func65, Try.ntmps65
      go_wp2_with (go_at_call 81; refine (isNaN81 _ _).mono ?_; rintro e w' ⟨rfl, rfl⟩)
      go_ret
      exact ⟨rfl, rfl⟩
    · rw [if_neg h2]
      have q2 : decide (b < a) = false := decide_eq_false h2
      go_enter Try.func65, Try.ntmps65
      go_wp2_with (go_at_call 81; refine (isNaN81 _ _).mono ?_; rintro e w' ⟨rfl, rfl⟩)
      go_ret
      exact ⟨rfl, rfl⟩
theorem cmpByte (a b : Int) (w : World) : Calls Try.prog 79 #[.int .u8 a, .int .u8 b] w fun e w' => e = .returned (.int .i64 (cmpI a b)) ∧ w = w' := by
  unfold cmpI
  by_cases h : a < b
  · rw [if_pos h]
    have q1 : decide (a < b) = true := decide_eq_true h
    go_enter Try.func79, Try.ntmps79
    go_wp2_with (go_at_call 86; refine (isNaN86 _ _).mono ?_; rintro e w' ⟨rfl, rfl⟩)
    go_ret
    exact ⟨rfl, rfl⟩
  · rw [if_neg h]
    have q1 : decide (a < b) = false := decide_eq_false h
    by_cases h2 : b < a
    · rw [if_pos h2]
      have q2 : decide (b < a) = true := decide_eq_true h2
      go_enter Try.func79, Try.ntmps79
      go_wp2_with (go_at_call 86; refine (isNaN86 _ _).mono ?_; rintro e w' ⟨rfl, rfl⟩)
      go_ret
      exact ⟨rfl, rfl⟩
    · rw [if_neg h2]
      have q2 : decide (b < a) = false := decide_eq_false h2
      go_enter Try.func79, Try.ntmps79
      go_wp2_with (go_at_call 86; refine (isNaN86 _ _).mono ?_; rintro e w' ⟨rfl, rfl⟩)
      go_ret
      exact ⟨rfl, rfl⟩
theorem ints (a b : Int) (w : World) : Calls Try.prog 52 #[.int .i64 a, .int .i64 b] w fun e w' => e = .returned (.int .i64 (cmpI a b)) ∧ w = w' := by
  unfold cmpI
  by_cases h : a < b
  · rw [if_pos h]
    have q1 : decide (a < b) = true := decide_eq_true h
    go_enter Try.func52, Try.ntmps52
    go_wp2_with fail
    go_ret
    exact ⟨rfl, rfl⟩
  · rw [if_neg h]
    have q1 : decide (a < b) = false := decide_eq_false h
    by_cases h2 : b < a
    · rw [if_pos h2]
      have q2 : decide (b < a) = true := decide_eq_true h2
      go_enter Try.func52, Try.ntmps52
      go_wp2_with fail
      go_ret
      exact ⟨rfl, rfl⟩
    · rw [if_neg h2]
      have q2 : decide (b < a) = false := decide_eq_false h2
      go_enter Try.func52, Try.ntmps52
      go_wp2_with fail
      go_ret
      exact ⟨rfl, rfl⟩
theorem texts (a b : ByteArray) (w : World) : Calls Try.prog 53 #[.string a, .string b] w fun e w' => e = .returned (.int .i64 (cmpB a b)) ∧ w = w' := by
  rcases cmpB_cases a b with ⟨h, q1⟩ | ⟨h, q1, q2⟩ | ⟨h, q1, q2⟩
  all_goals
    rw [h]
    clear h
    go_enter Try.func53, Try.ntmps53
    go_wp2_with fail
    go_ret
    exact ⟨rfl, rfl⟩
theorem cmpString80 (a b : ByteArray) (w : World) : Calls Try.prog 80 #[.string a, .string b] w fun e w' => e = .returned (.int .i64 (cmpB a b)) ∧ w = w' := by
  go_enter Try.func80, Try.ntmps80
  go_wp2_with fail
  rw [run_callFunc_extern Try.func87 (by kernel_rfl) (by kernel_rfl) (by kernel_rfl) (e := Extern.BytealgCompare.compare) (by kernel_rfl), Lib.run_compareString]
  simp only [Result.andThen]
  rw [Oper.upon_value]
  go_wp2_with fail
  go_ret
  exact ⟨rfl, rfl⟩
theorem cmpString (a b : ByteArray) (w : World) : Calls Try.prog 64 #[.string a, .string b] w fun e w' => e = .returned (.int .i64 (cmpB a b)) ∧ w = w' := by
  go_enter Try.func64, Try.ntmps64
  go_wp2_with (go_at_call 80; refine (cmpString80 _ _ _).mono ?_; rintro e w' ⟨rfl, rfl⟩)
  go_ret
  exact ⟨rfl, rfl⟩
end Go.Proofs.Ythgfdpamnepnfaa.tm
/- The first number that is not 0. Conditions: the numbers lie in memory. -/
namespace Go.Proofs.Ythgfdpamnepnfaa.tm
open Go.RowKit mem
set_option linter.unusedVariables false
set_option linter.unusedSimpArgs false
set_option maxHeartbeats 1000000
set_option maxRecDepth 100000

def firstL : List Int → Int
  | [] => 0
  | x :: l => if x = 0 then firstL l else x
theorem first_at : ∀ (l : List Int) (k : Nat) (h : k < l.length), (∀ j, (hj : j < l.length) → j < k → l[j] = 0) → l[k] ≠ 0 → firstL l = l[k]
  | x :: l, 0, h, _, hn => by
    unfold firstL
    rw [if_neg (by simpa using hn)]; rfl
  | x :: l, k + 1, h, ha, hn => by
    unfold firstL
    have h0 : x = 0 := ha 0 (by simp) (by omega)
    rw [if_pos h0, first_at l k (by simpa using h) (fun j hj hk => ha (j + 1) (by simpa using hj) (by omega)) (by simpa using hn)]; rfl
theorem first_zero : ∀ (l : List Int), (∀ j, (hj : j < l.length) → l[j] = 0) → firstL l = 0
  | [], _ => rfl
  | x :: l, h => by
    unfold firstL
    have h0 : x = 0 := h 0 (by simp)
    rw [if_pos h0, first_zero l (fun j hj => h (j + 1) (by simpa using hj))]
theorem firstOr (w : World) (g : Nat) (l : List Int) (c : Nat) (hc : l.length ≤ 1000) (hcell : ∀ j, (h : j < l.length) → w.cell? ⟨g, j, none⟩ = some (.int .i64 l[j])) :
    Calls Try.prog 63 #[.slice (some ⟨g, 0, none⟩) l.length c] w fun e w' => e = .returned (.int .i64 (firstL l)) ∧ w = w' := by
  have HC := Lib.hid hcell
  clear hcell
  go_enter Try.func63, Try.ntmps63
  go_wp2_with fail
  go_loop [8] (fun i => ∃ k : Nat, i = .int .i64 k ∧ k ≤ l.length ∧ Hid (∀ j, (h : j < l.length) → j < k → l[j] = 0)) (fun i => l.length - (intOf i).toNat)
  case atStart => exact ⟨0, rfl, by omega, Lib.hid (fun j h hk => by omega)⟩
  case round =>
    obtain ⟨k, rfl, hk, HA⟩ := hrel
    by_cases hlt : k < l.length
    · have hcl := HC.out k hlt
      have HAt := Lib.hid (first_at l k hlt HA.out)
      have HA2 : Hid (l[k] = 0 → ∀ j, (h : j < l.length) → j < k + 1 → l[j] = 0) := Lib.hid (fun e j h hj => by
        by_cases e2 : j = k
        · subst e2; exact e
        · exact HA.out j h (by omega))
      generalize l[k] = x at *
      by_cases hx : x = 0
      · subst hx
        have H2 := Lib.hid (HA2.out rfl)
        clear HAt HA2
        go_wp2_with fail
        go_round
        case rel => exact ⟨k + 1, by go_num, by omega, H2⟩
        case measure => simp [intOf]; omega
      · have q : (x != 0) = true := by simp [hx]
        have HF := Lib.hid (HAt.out hx)
        clear HAt HA2 hx
        go_wp2_with fail
        go_ret
        exact ⟨ret1i HF.out.symm, rfl⟩
    · have HF := Lib.hid (first_zero l (fun j hj => HA.out j hj (by omega)))
      go_wp2_with fail
      go_ret
      exact ⟨ret1i HF.out.symm, rfl⟩
theorem firstRef (w : World) (g : Nat) (l : List Int) (c : Nat) (hc : l.length ≤ 1000) (hcell : ∀ j, (h : j < l.length) → w.cell? ⟨g, j, none⟩ = some (.int .i64 l[j])) :
    Calls Try.prog 54 #[.slice (some ⟨g, 0, none⟩) l.length c] w fun e w' => e = .returned (.int .i64 (firstL l)) ∧ w = w' := by
  have HC := Lib.hid hcell
  clear hcell
  go_enter Try.func54, Try.ntmps54
  go_wp2_with fail
  go_loop [3] (fun i => ∃ k : Nat, i = .int .i64 k ∧ k ≤ l.length ∧ Hid (∀ j, (h : j < l.length) → j < k → l[j] = 0)) (fun i => l.length - (intOf i).toNat)
  case atStart => exact ⟨0, rfl, by omega, Lib.hid (fun j h hk => by omega)⟩
  case round =>
    obtain ⟨k, rfl, hk, HA⟩ := hrel
    by_cases hlt : k < l.length
    · have hcl := HC.out k hlt
      have HAt := Lib.hid (first_at l k hlt HA.out)
      have HA2 : Hid (l[k] = 0 → ∀ j, (h : j < l.length) → j < k + 1 → l[j] = 0) := Lib.hid (fun e j h hj => by
        by_cases e2 : j = k
        · subst e2; exact e
        · exact HA.out j h (by omega))
      generalize l[k] = x at *
      by_cases hx : x = 0
      · subst hx
        have H2 := Lib.hid (HA2.out rfl)
        clear HAt HA2
        go_wp2_with fail
        go_round
        case rel => exact ⟨k + 1, by go_num, by omega, H2⟩
        case measure => simp [intOf]; omega
      · have q : (x != 0) = true := by simp [hx]
        have HF := Lib.hid (HAt.out hx)
        clear HAt HA2 hx
        go_wp2_with fail
        go_ret
        exact ⟨ret1i HF.out.symm, rfl⟩
    · have HF := Lib.hid (first_zero l (fun j hj => HA.out j hj (by omega)))
      go_wp2_with fail
      go_ret
      exact ⟨ret1i HF.out.symm, rfl⟩

/-! ### the order of terms -/
def eachC {α : Type} (c : α → α → Int) : List α → List α → Int
  | a :: l, b :: m => if c a b = 0 then eachC c l m else c a b
  | _, _ => 0
def itemsC {α : Type} (c : α → α → Int) (l m : List α) : Int := if l.length = m.length then eachC c l m else cmpI l.length m.length
/-- two lists, cell by cell: l and m are what follows a and b -/
def cellsC {α : Type} (kd : α → Int) (c : α → α → Int) : α → List α → α → List α → Int
  | a, [], b, [] => c a b
  | a, [], _, _ :: _ => cmpI (kd a) 9
  | _, _ :: _, b, [] => cmpI 9 (kd b)
  | a, x :: l, b, y :: m => if c a b = 0 then cellsC kd c x l y m else c a b
def listsC {α : Type} (kd : α → Int) (c : α → α → Int) : List α → List α → Int
  | a :: l, b :: m => cellsC kd c a l b m
  | _, _ => 0
end Go.Proofs.Ythgfdpamnepnfaa.tm
/- The order of terms: each, items. Conditions: the terms lie in memory, and are formed. -/
namespace Go.Proofs.Ythgfdpamnepnfaa.tm
open Go.RowKit mem names
set_option linter.unusedVariables false
set_option linter.unusedSimpArgs false
set_option maxHeartbeats 1000000
set_option maxRecDepth 100000

def headC (f1 f2 : TF) : Int := firstL [cmpB f1.name f2.name, cmpB f1.func f2.func, cmpI f1.gen f2.gen, cmpI f1.int f2.int, cmpI f1.arity f2.arity]
def bitsC (f1 f2 : TF) : Int :=
  let n := (min f1.bits f2.bits).toNat
  let k := Lib.compareBytes (f1.bytes.data.toList.take (n / 8)) (f2.bytes.data.toList.take (n / 8))
  if k = 0 then
    (if n % 8 = 0 then cmpI f1.bits f2.bits else
      (let x := ((f1.bytes.data.toList.getD (n / 8) 0).toNat / 2 ^ (8 - n % 8) : Nat)
       let y := ((f2.bytes.data.toList.getD (n / 8) 0).toNat / 2 ^ (8 - n % 8) : Nat)
       if cmpI x y = 0 then cmpI f1.bits f2.bits else cmpI x y))
  else k
def cmpF {α : Type} (kd : α → Int) (c : α → α → Int) (f1 f2 : TF) (l1 l2 : List α) : Int :=
  if f1.kind = f2.kind then
    (if f1.kind = 7 then itemsC c l1 l2 else if f1.kind = 9 then listsC kd c l1 l2 else if f1.kind = 10 then bitsC f1 f2 else if headC f1 f2 = 0 then itemsC c l1 l2 else headC f1 f2)
  else cmpI f1.kind f2.kind
def kdT : (n : Nat) → Tm n → Int
  | 0, _ => 0
  | n + 1, t => t.f.kind
def cmpTm : (n : Nat) → Tm n → Tm n → Int
  | 0, _, _ => 0
  | n + 1, a, b => cmpF (kdT n) (cmpTm n) a.f b.f a.items b.items
def IPostC (r : Int) (w : World) (e : Ending) (w' : World) : Prop := e = .returned (.int .i64 r) ∧ Below w.heap.size w w'
def CmpS (n : Nat) : Prop := ∀ (w : World) (B : Nat) (v1 v2 : Value) (a b : Tm (n + 1)), B ≤ w.heap.size → ItemsAt w B n v1 a.items → ItemsAt w B n v2 b.items → formedT a = true → formedT b = true → Calls Try.prog 40 #[aggV a.f v1, aggV b.f v2] w (IPostC (cmpTm (n + 1) a b) w)
theorem formed_at {n : Nat} {l : List (Tm (n + 1))} (hf : formedL (n + 1) l = true) (j : Nat) (h : j < l.length) : formedT l[j] = true := by
  unfold formedL at hf
  rw [List.all_eq_true] at hf
  exact hf l[j] (List.getElem_mem h)
/-- two elements -/
theorem pairEl {n : Nat} (ih : ∀ m, n = m + 1 → CmpS m) (w : World) (B : Nat) (p1 p2 : Option Addr) (n1 n2 c1 c2 : Nat) (l1 l2 : List (Tm n)) (hB : B ≤ w.heap.size) (h1 : ItemsAt w B n (.slice p1 n1 c1) l1) (h2 : ItemsAt w B n (.slice p2 n2 c2) l2) (f1 : formedL n l1 = true) (f2 : formedL n l2 = true) :
    ∀ i j, (hi : i < l1.length) → (hj : j < l2.length) → ∃ g1 o1 x1 q1 m1 d1 g2 o2 x2 q2 m2 d2, p1 = some ⟨g1, o1, none⟩ ∧ g1 < w.heap.size ∧ Cells w g1 (o1 + i * 9) x1 (.slice q1 m1 d1) ∧ p2 = some ⟨g2, o2, none⟩ ∧ g2 < w.heap.size ∧ Cells w g2 (o2 + j * 9) x2 (.slice q2 m2 d2) ∧
      x1.kind = kdT n l1[i] ∧ x2.kind = kdT n l2[j] ∧ ∀ W, Below w.heap.size w W → Calls Try.prog 40 #[aggV x1 (.slice q1 m1 d1), aggV x2 (.slice q2 m2 d2)] W (IPostC (cmpTm n l1[i] l2[j]) W) := by
  cases n with
  | zero => intro i j hi; rw [Tm.nil0 l1] at hi; exact absurd hi (by simp)
  | succ n =>
    intro i j hi hj
    obtain ⟨g1, o1, d1, e1, _, _, hg1, hx1⟩ := h1.at_ (by intro e; subst e; simp at hi)
    obtain ⟨u1, hC1, hI1⟩ := hx1 i hi
    obtain ⟨g2, o2, d2, e2, _, _, hg2, hx2⟩ := h2.at_ (by intro e; subst e; simp at hj)
    obtain ⟨u2, hC2, hI2⟩ := hx2 j hj
    simp only [Value.slice.injEq] at e1 e2
    obtain ⟨q1, c1', rfl, _, _⟩ := hI1.shape
    obtain ⟨q2, c2', rfl, _, _⟩ := hI2.shape
    refine ⟨g1, o1, l1[i].f, q1, _, c1', g2, o2, l2[j].f, q2, _, c2', e1.1, by omega, hC1, e2.1, by omega, hC2, rfl, rfl, fun W hb => ?_⟩
    exact ih n rfl W B _ _ l1[i] l2[j] (Nat.le_trans hB hb.size) (hI1.below hb hB) (hI2.below hb hB) (formed_at f1 i hi) (formed_at f2 j hj)
theorem each_at {α : Type} (c : α → α → Int) : ∀ (l m : List α) (k : Nat) (h1 : k < l.length) (h2 : k < m.length), (∀ j, (a : j < l.length) → (b : j < m.length) → j < k → c l[j] m[j] = 0) → c l[k] m[k] ≠ 0 → eachC c l m = c l[k] m[k]
  | x :: l, y :: m, 0, h1, h2, _, hn => by
    unfold eachC
    rw [if_neg (show ¬ c x y = 0 from hn)]; rfl
  | x :: l, y :: m, k + 1, h1, h2, ha, hn => by
    unfold eachC
    rw [if_pos (show c x y = 0 from ha 0 (by simp) (by simp) (by omega)), each_at c l m k (by simpa using h1) (by simpa using h2) (fun j a b hk => ha (j + 1) (by simpa using a) (by simpa using b) (by omega)) hn]; rfl
theorem each_zero {α : Type} (c : α → α → Int) : ∀ (l m : List α), l.length = m.length → (∀ j, (a : j < l.length) → (b : j < m.length) → c l[j] m[j] = 0) → eachC c l m = 0
  | [], [], _, _ => rfl
  | x :: l, y :: m, hl, ha => by
    unfold eachC
    rw [if_pos (show c x y = 0 from ha 0 (by simp) (by simp)), each_zero c l m (by simpa using hl) (fun j a b => ha (j + 1) (by simpa using a) (by simpa using b))]
theorem eachW {n : Nat} (ih : ∀ m, n = m + 1 → CmpS m) (w : World) (B : Nat) (v1 v2 : Value) (l1 l2 : List (Tm n)) (hB : B ≤ w.heap.size) (h1 : ItemsAt w B n v1 l1) (h2 : ItemsAt w B n v2 l2) (f1 : formedL n l1 = true) (f2 : formedL n l2 = true) (hl : l1.length = l2.length) :
    Calls Try.prog 78 #[v1, v2, .func (.func 40) #[] #[]] w (IPostC (eachC (cmpTm n) l1 l2) w) := by
  obtain ⟨p1, c1, rfl, hc1, hm1⟩ := h1.shape
  obtain ⟨p2, c2, rfl, hc2, hm2⟩ := h2.shape
  unfold maxLen at hm1 hm2
  have HP := Lib.hid (pairEl ih w B p1 p2 _ _ c1 c2 l1 l2 hB h1 h2 f1 f2)
  have HAt := Lib.hid (each_at (cmpTm n) l1 l2)
  have HZ := Lib.hid (each_zero (cmpTm n) l1 l2 hl)
  generalize eachC (cmpTm n) l1 l2 = r at *
  have HL := Lib.hid hl
  rw [← hl] at hc2
  rw [← hl]
  clear ih h1 h2 f1 f2 hl
  go_enter Try.func78, Try.ntmps78
  go_wp2_with fail
  go_loopw [11] (fun s wr => ∃ k : Nat, s = .int .i64 k ∧ k ≤ l1.length ∧ Hid (∀ j, (a : j < l1.length) → (b : j < l2.length) → j < k → cmpTm n l1[j] l2[j] = 0) ∧ Below w.heap.size w wr) (fun s _ => l1.length - (intOf s).toNat)
  case atStart => exact ⟨0, rfl, by omega, Lib.hid (fun j _ _ h => by omega), Below.refl _ _⟩
  case round =>
    obtain ⟨k, rfl, hk, HA, hb⟩ := hrel
    by_cases hlt : k < l1.length
    · have hkb : k < l2.length := by have := HL.out; omega
      obtain ⟨g1, o1, x1, q1, m1, d1, g2, o2, x2, q2, m2, d2, rfl, hg1, hC1, rfl, hg2, hC2, ek1, ek2, hCall⟩ := HP.out k k hlt hkb
      clear ek1 ek2
      have hC1 := hC1.same (hb.block g1 hg1)
      have hC2 := hC2.same (hb.block g2 hg2)
      obtain ⟨x10, x11, x12, x13, x14, x15, x16, x17, x18⟩ := hC1
      obtain ⟨y10, y11, y12, y13, y14, y15, y16, y17, y18⟩ := hC2
      have hb' : Below w.heap.size w wr.drew := hb.drewN 1
      have HC := Lib.hid (hCall wr.drew hb')
      clear hCall
      have HA1 := Lib.hid (HAt.out k hlt hkb HA.out)
      have HA2 : Hid (cmpTm n l1[k] l2[k] = 0 → ∀ j, (a : j < l1.length) → (b : j < l2.length) → j < k + 1 → cmpTm n l1[j] l2[j] = 0) := Lib.hid (fun e j a b hj => by
        by_cases e2 : j = k
        · subst e2; exact e
        · exact HA.out j a b (by omega))
      generalize cmpTm n l1[k] l2[k] = x at *
      unfold aggV IPostC at HC
      go_wp2_with fail
      go_still_tail 9, (by kernel_rfl)
      change wpList _ _ _ _ _ wr.drew
      clear x10 x11 x12 x13 x14 x15 x16 x17 x18 y10 y11 y12 y13 y14 y15 y16 y17 y18
      generalize wr.drew = w2 at *
      go_wp2_with fail
      refine HC.out.mono ?_
      rintro e w3 ⟨rfl, hb3⟩
      have hb4 : Below w.heap.size w w3 := hb'.trans (hb3.mono hb'.size)
      by_cases hx : x = 0
      · subst hx
        have H2 := Lib.hid (HA2.out rfl)
        clear HA1 HA2
        go_wp2_with fail
        go_roundw
        case rel => exact ⟨k + 1, by go_num, by omega, H2, hb4⟩
        case measure => simp [intOf]; omega
      · have q : (x != 0) = true := by simp [hx]
        have HF := Lib.hid (HA1.out hx)
        clear HA1 HA2 hx
        go_wp2_with fail
        go_ret
        exact ⟨ret1i HF.out.symm, hb4⟩
    · have HF := Lib.hid (HZ.out (fun j a b => HA.out j a b (by omega)))
      go_wp2_with fail
      go_ret
      exact ⟨ret1i HF.out.symm, hb⟩
end Go.Proofs.Ythgfdpamnepnfaa.tm
/- The order of terms: items, lists. Conditions: as before. -/
namespace Go.Proofs.Ythgfdpamnepnfaa.tm
open Go.RowKit mem names
set_option linter.unusedVariables false
set_option linter.unusedSimpArgs false
set_option maxHeartbeats 4000000
set_option maxRecDepth 100000

theorem cmpI_0 {a b : Int} (h : a = b) : cmpI a b = 0 := by subst h; unfold cmpI; simp
theorem cmpI_ne {a b : Int} (h : a ≠ b) : cmpI a b ≠ 0 := by unfold cmpI; split <;> (try split) <;> omega
theorem itemsW {n : Nat} (ih : ∀ m, n = m + 1 → CmpS m) (w : World) (B : Nat) (v1 v2 : Value) (l1 l2 : List (Tm n)) (hB : B ≤ w.heap.size) (h1 : ItemsAt w B n v1 l1) (h2 : ItemsAt w B n v2 l2) (f1 : formedL n l1 = true) (f2 : formedL n l2 = true) :
    Calls Try.prog 60 #[v1, v2] w (IPostC (itemsC (cmpTm n) l1 l2) w) := by
  have hE := fun h => eachW ih w B v1 v2 l1 l2 hB h1 h2 f1 f2 h
  obtain ⟨p1, c1, rfl, hc1, hm1⟩ := h1.shape
  obtain ⟨p2, c2, rfl, hc2, hm2⟩ := h2.shape
  have HE := Lib.hid hE
  have hC := fun W => cmpInt l1.length l2.length W
  have hr : itemsC (cmpTm n) l1 l2 = (if l1.length = l2.length then eachC (cmpTm n) l1 l2 else cmpI l1.length l2.length) := rfl
  rw [hr]
  clear ih h1 h2 f1 f2 hE hr
  generalize eachC (cmpTm n) l1 l2 = r at *
  unfold IPostC at HE
  by_cases h : l1.length = l2.length
  · rw [if_pos h]
    rw [cmpI_0 (by omega)] at hC
    have HH := Lib.hid (HE.out h)
    have HC := Lib.hid hC
    clear HE hC h
    generalize l1.length = a at *
    generalize l2.length = b at *
    go_enter Try.func60, Try.ntmps60
    go_wp2_with fail
    refine (HC.out _).mono ?_
    rintro e w' ⟨rfl, rfl⟩
    go_wp2_with fail
    refine HH.out.mono ?_
    rintro e w2 ⟨rfl, hb⟩
    go_wp2_with fail
    go_ret
    exact ⟨rfl, hb⟩
  · rw [if_neg h]
    have hne := cmpI_ne (a := (l1.length : Int)) (b := l2.length) (by omega)
    have HC := Lib.hid hC
    clear HE hC h
    generalize cmpI (l1.length : Int) l2.length = x at *
    have q : (x != 0) = true := by simp [hne]
    clear hne
    generalize l1.length = a at *
    generalize l2.length = b at *
    go_enter Try.func60, Try.ntmps60
    go_wp2_with fail
    refine (HC.out _).mono ?_
    rintro e w' ⟨rfl, rfl⟩
    go_wp2_with fail
    go_ret
    exact ⟨rfl, Below.refl _ _⟩

theorem lists_step {α : Type} (kd : α → Int) (c : α → α → Int) (a x : α) (l : List α) (b y : α) (m : List α) : listsC kd c (a :: x :: l) (b :: y :: m) = if c a b = 0 then listsC kd c (x :: l) (y :: m) else c a b := by
  show cellsC kd c a (x :: l) b (y :: m) = if c a b = 0 then cellsC kd c x l y m else c a b
  rw [cellsC]
/-- what one round of the loop over cells finds -/
theorem lists_at {α : Type} (kd : α → Int) (c : α → α → Int) (l m : List α) (k : Nat) (h1 : k + 1 < l.length) (h2 : k + 1 < m.length) :
    (c l[k] m[k] ≠ 0 → listsC kd c (l.drop k) (m.drop k) = c l[k] m[k]) ∧
    (c l[k] m[k] = 0 → listsC kd c (l.drop k) (m.drop k) = listsC kd c (l.drop (k + 1)) (m.drop (k + 1))) ∧
    (l.length = k + 2 → m.length = k + 2 → listsC kd c (l.drop (k + 1)) (m.drop (k + 1)) = c l[k + 1] m[k + 1]) ∧
    (l.length = k + 2 → m.length ≠ k + 2 → listsC kd c (l.drop (k + 1)) (m.drop (k + 1)) = cmpI (kd l[k + 1]) 9) ∧
    (l.length ≠ k + 2 → m.length = k + 2 → listsC kd c (l.drop (k + 1)) (m.drop (k + 1)) = cmpI 9 (kd m[k + 1])) := by
  have e1 : l.drop k = l[k] :: l.drop (k + 1) := List.drop_eq_getElem_cons (by omega)
  have e2 : m.drop k = m[k] :: m.drop (k + 1) := List.drop_eq_getElem_cons (by omega)
  have e3 : l.drop (k + 1) = l[k + 1] :: l.drop (k + 2) := List.drop_eq_getElem_cons h1
  have e4 : m.drop (k + 1) = m[k + 1] :: m.drop (k + 2) := List.drop_eq_getElem_cons h2
  refine ⟨fun h => ?_, fun h => ?_, fun ha hb => ?_, fun ha hb => ?_, fun ha hb => ?_⟩
  · rw [e1, e2, e3, e4, lists_step, if_neg h]
  · rw [e1, e2, e3, e4, lists_step, if_pos h]
  · rw [e3, e4, List.drop_of_length_le (by omega), List.drop_of_length_le (by omega)]; rfl
  · have e6 : m.drop (k + 2) = m[k + 2]'(by omega) :: m.drop (k + 3) := List.drop_eq_getElem_cons (by omega)
    rw [e3, e4, List.drop_of_length_le (by omega), e6]; rfl
  · have e6 : l.drop (k + 2) = l[k + 2]'(by omega) :: l.drop (k + 3) := List.drop_eq_getElem_cons (by omega)
    rw [e3, e4, List.drop_of_length_le (l := m) (by omega), e6]; rfl
end Go.Proofs.Ythgfdpamnepnfaa.tm
/- The order of terms: lists. Conditions: as before. -/
namespace Go.Proofs.Ythgfdpamnepnfaa.tm
open Go.RowKit mem names
set_option linter.unusedVariables false
set_option linter.unusedSimpArgs false
set_option maxHeartbeats 4000000
set_option maxRecDepth 100000

theorem listsW {n : Nat} (ih : ∀ m, n = m + 1 → CmpS m) (w : World) (B : Nat) (v1 v2 : Value) (l1 l2 : List (Tm n)) (hB : B ≤ w.heap.size) (h1 : ItemsAt w B n v1 l1) (h2 : ItemsAt w B n v2 l2) (f1 : formedL n l1 = true) (f2 : formedL n l2 = true) (hl1 : 2 ≤ l1.length) (hl2 : 2 ≤ l2.length) :
    Calls Try.prog 61 #[v1, v2] w (IPostC (listsC (kdT n) (cmpTm n) l1 l2) w) := by
  obtain ⟨p1, c1, rfl, hc1, hm1⟩ := h1.shape
  obtain ⟨p2, c2, rfl, hc2, hm2⟩ := h2.shape
  unfold maxLen at hm1 hm2
  have HP := Lib.hid (pairEl ih w B p1 p2 _ _ c1 c2 l1 l2 hB h1 h2 f1 f2)
  have HA := Lib.hid (lists_at (kdT n) (cmpTm n) l1 l2)
  obtain ⟨g1, o1, zx1, zq1, zm1, zd1, g2, o2, zx2, zq2, zm2, zd2, rfl, hg1, zC1, rfl, hg2, zrest⟩ := HP.out 0 0 (by omega) (by omega)
  clear zrest zC1
  have H0 : Hid (listsC (kdT n) (cmpTm n) l1 l2 = listsC (kdT n) (cmpTm n) (l1.drop 0) (l2.drop 0)) := Lib.hid rfl
  generalize listsC (kdT n) (cmpTm n) l1 l2 = r at *
  clear ih h1 h2 f1 f2
  obtain ⟨a0, ha0⟩ : ∃ a, l1.length = a + 2 := ⟨l1.length - 2, by omega⟩
  obtain ⟨b0, hb0⟩ : ∃ a, l2.length = a + 2 := ⟨l2.length - 2, by omega⟩
  obtain ⟨x0, hx0⟩ : ∃ a, c1 = a + 2 := ⟨c1 - 2, by omega⟩
  obtain ⟨y0, hy0⟩ : ∃ a, c2 = a + 2 := ⟨c2 - 2, by omega⟩
  subst hx0
  subst hy0
  rw [ha0, hb0]
  have HL1 := Lib.hid ha0
  have HL2 := Lib.hid hb0
  rw [ha0] at hc1
  rw [hb0] at hc2
  clear ha0 hb0 hl1 hl2
  go_enter Try.func61, Try.ntmps61
  go_wp2_with fail
  go_loopw [0, 1] (fun s t wr => ∃ k a b x y ga gb : Nat, s = .slice (some ⟨g1, ga, none⟩) (a + 2) (x + 2) ∧ t = .slice (some ⟨g2, gb, none⟩) (b + 2) (y + 2) ∧ Hid (ga = o1 + k * 9) ∧ Hid (gb = o2 + k * 9) ∧ Hid (k + a + 2 = l1.length) ∧ Hid (k + b + 2 = l2.length) ∧ a ≤ x ∧ b ≤ y ∧ x + 2 ≤ 9223372036854775807 ∧ y + 2 ≤ 9223372036854775807 ∧ Hid (r = listsC (kdT n) (cmpTm n) (l1.drop k) (l2.drop k)) ∧ Below w.heap.size w wr) (fun s _ _ => match s with | .slice _ m _ => m | _ => 0)
  case atStart => exact ⟨0, a0, b0, x0, y0, o1, o2, rfl, rfl, Lib.hid (by omega), Lib.hid (by omega), Lib.hid (by have := HL1.out; omega), Lib.hid (by have := HL2.out; omega), by omega, by omega, by omega, by omega, H0, Below.refl _ _⟩
  case round =>
    obtain ⟨k, a, b, x, y, ga, gb, rfl, rfl, hga, hgb, hka, hkb, hax, hby, hxm, hym, hr, hb⟩ := hrel
    have hlt1 : k < l1.length := by have := hka.out; omega
    have hlt2 : k < l2.length := by have := hkb.out; omega
    have hn1 : k + 1 < l1.length := by have := hka.out; omega
    have hn2 : k + 1 < l2.length := by have := hkb.out; omega
    have HN1 := Lib.hid hn1
    have HN2 := Lib.hid hn2
    obtain ⟨_, _, x1, q1, m1, d1, _, _, x2, q2, m2, d2, e1, _, hC1, e2, _, hC2, ek1, ek2, hCall⟩ := HP.out k k hlt1 hlt2
    simp only [Option.some.injEq, Addr.mk.injEq] at e1 e2
    obtain ⟨rfl, rfl, _⟩ := e1
    obtain ⟨rfl, rfl, _⟩ := e2
    clear ek1 ek2
    have hC1 := hC1.same (hb.block g1 hg1)
    have hC2 := hC2.same (hb.block g2 hg2)
    rw [← hga.out] at hC1
    rw [← hgb.out] at hC2
    obtain ⟨x10, x11, x12, x13, x14, x15, x16, x17, x18⟩ := hC1
    obtain ⟨y10, y11, y12, y13, y14, y15, y16, y17, y18⟩ := hC2
    obtain ⟨A1, A2, A3, A4, A5⟩ := HA.out k hn1 hn2
    obtain ⟨_, _, x3, q3, m3, d3, _, _, x4, q4, m4, d4, e1, _, hC3, e2, _, hC4, ek1, ek2, hCall2⟩ := HP.out (k + 1) (k + 1) hn1 hn2
    simp only [Option.some.injEq, Addr.mk.injEq] at e1 e2
    obtain ⟨rfl, rfl, _⟩ := e1
    obtain ⟨rfl, rfl, _⟩ := e2
    rw [show o1 + (k + 1) * 9 = ga + 9 by have := hga.out; omega] at hC3
    rw [show o2 + (k + 1) * 9 = gb + 9 by have := hgb.out; omega] at hC4
    have HK1 := Lib.hid ek1
    have HK2 := Lib.hid ek2
    clear ek1 ek2
    have HC3 := Lib.hid hC3
    have HC4 := Lib.hid hC4
    clear hC3 hC4
    rw [← hr.out] at A1 A2
    have hb' : Below w.heap.size w wr.drew := hb.drewN 1
    have HC := Lib.hid (hCall wr.drew hb')
    clear hCall
    have HA1 := Lib.hid A1
    have HA2 := Lib.hid A2
    have HA3 := Lib.hid A3
    have HA4 := Lib.hid A4
    have HA5 := Lib.hid A5
    clear A1 A2 A3 A4 A5 hr
    have HCall2 := Lib.hid hCall2
    clear hCall2
    generalize cmpTm n l1[k] l2[k] = z at *
    unfold aggV IPostC at HC HCall2
    have ha2 : (0 : Int) < (a : Int) + 2 := by omega
    have hb2 : (0 : Int) < (b : Int) + 2 := by omega
    have ha2n : 0 < a + 2 := by omega
    have hb2n : 0 < b + 2 := by omega
    go_wp2_with fail
    go_still_tail 6, (by kernel_rfl)
    change wpList _ _ _ _ _ wr.drew
    clear x10 x11 x12 x13 x14 x15 x16 x17 x18 y10 y11 y12 y13 y14 y15 y16 y17 y18
    generalize wr.drew = w2 at *
    go_wp2_with fail
    refine HC.out.mono ?_
    rintro e w3 ⟨rfl, hb3⟩
    have hb4 : Below w.heap.size w w3 := hb'.trans (hb3.mono hb'.size)
    clear HC hb3 hb hb'
    by_cases hz : z = 0
    · subst hz
      have hr1 := HA2.out rfl
      have hb5 : Below w.heap.size w w3.drew := hb4.drewN 1
      go_wp2_with fail
      go_quiet (fail)
      have hb5 : Below w.heap.size w (w3.drewN nq) := hb4.drewN nq
      generalize w3.drewN nq = w4 at *
      clear HA1 HA2 hb4
      rcases a with _ | a
      · rcases b with _ | b
        · have hfin : r = cmpTm n (l1[k + 1]'HN1.out) (l2[k + 1]'HN2.out) := hr1.trans (HA3.out (by have := hka.out; omega) (by have := hkb.out; omega))
          have HFin := Lib.hid hfin
          have hC3 := HC3.out.same (hb5.block g1 hg1)
          have hC4 := HC4.out.same (hb5.block g2 hg2)
          obtain ⟨x10, x11, x12, x13, x14, x15, x16, x17, x18⟩ := hC3
          obtain ⟨y10, y11, y12, y13, y14, y15, y16, y17, y18⟩ := hC4
          have hb6 : Below w.heap.size w w4.drew := hb5.drewN 1
          have HC := Lib.hid (HCall2.out w4.drew hb6)
          clear hfin hr1 HA3 HA4 HA5 HCall2
          generalize cmpTm n (l1[k + 1]'HN1.out) (l2[k + 1]'HN2.out) = zz at *
          go_wp2_with fail
          go_still_tail 6, (by kernel_rfl)
          change wpList _ _ _ _ _ w4.drew
          clear x10 x11 x12 x13 x14 x15 x16 x17 x18 y10 y11 y12 y13 y14 y15 y16 y17 y18
          generalize w4.drew = w5 at *
          go_wp2_with fail
          refine HC.out.mono ?_
          rintro e w6 ⟨rfl, hb7⟩
          go_wp2_with fail
          go_ret
          exact ⟨ret1i HFin.out.symm, hb6.trans (hb7.mono hb6.size)⟩
        · have hfin : r = cmpI (kdT n (l1[k + 1]'HN1.out)) 9 := hr1.trans (HA4.out (by have := hka.out; omega) (by have := hkb.out; omega))
          rw [← HK1.out] at hfin
          have HFin := Lib.hid hfin
          have hC3 := HC3.out.same (hb5.block g1 hg1)
          obtain ⟨x10, x11, x12, x13, x14, x15, x16, x17, x18⟩ := hC3
          have HI := Lib.hid (fun W => cmpInt x3.kind 9 W)
          have qb : ((b : Int) + 1 + 1 == 1) = false := by simp; omega
          have qb' : ((b : Int) + 1 = 0) = False := by simp; omega
          clear hfin hr1 HA3 HA4 HA5 HCall2 x11 x12 x13 x14 x15 x16 x17 x18
          go_wp2_with fail
          refine (HI.out _).mono ?_
          rintro e w6 ⟨rfl, rfl⟩
          go_wp2_with fail
          go_ret
          exact ⟨ret1i HFin.out.symm, hb5⟩
      · have qa : ((a : Int) + 1 + 1 == 1) = false := by simp; omega
        have qa' : ((a : Int) + 1 = 0) = False := by simp; omega
        rcases b with _ | b
        · have hfin : r = cmpI 9 (kdT n (l2[k + 1]'HN2.out)) := hr1.trans (HA5.out (by have := hka.out; omega) (by have := hkb.out; omega))
          rw [← HK2.out] at hfin
          have HFin := Lib.hid hfin
          have hC4 := HC4.out.same (hb5.block g2 hg2)
          obtain ⟨x10, x11, x12, x13, x14, x15, x16, x17, x18⟩ := hC4
          have HI := Lib.hid (fun W => cmpInt 9 x4.kind W)
          clear hfin hr1 HA3 HA4 HA5 HCall2 x11 x12 x13 x14 x15 x16 x17 x18
          go_wp2_with fail
          refine (HI.out _).mono ?_
          rintro e w6 ⟨rfl, rfl⟩
          go_wp2_with fail
          go_ret
          exact ⟨ret1i HFin.out.symm, hb5⟩
        · have qb : ((b : Int) + 1 + 1 == 1) = false := by simp; omega
          have qb' : ((b : Int) + 1 = 0) = False := by simp; omega
          have HR1 := Lib.hid hr1
          clear hr1 HA3 HA4 HA5 HCall2
          obtain ⟨x, rfl⟩ : ∃ x', x = x' + 1 := ⟨x - 1, by omega⟩
          obtain ⟨y, rfl⟩ : ∃ y', y = y' + 1 := ⟨y - 1, by omega⟩
          go_wp2_with fail
          go_roundw
          case rel => exact ⟨k + 1, a, b, x, y, ga + 9, gb + 9, rfl, rfl, Lib.hid (by have := hga.out; omega), Lib.hid (by have := hgb.out; omega), Lib.hid (by have := hka.out; omega), Lib.hid (by have := hkb.out; omega), by omega, by omega, by omega, by omega, HR1, hb5⟩
          case measure => simp
    · have q : (z != 0) = true := by simp [hz]
      have HF := Lib.hid (HA1.out hz)
      go_wp2_with fail
      go_ret
      exact ⟨ret1i HF.out.symm, hb4⟩
end Go.Proofs.Ythgfdpamnepnfaa.tm
/- The order of terms: bit strings. Conditions: the bits are formed. -/
namespace Go.Proofs.Ythgfdpamnepnfaa.tm
open Go.RowKit mem names
set_option linter.unusedVariables false
set_option linter.unusedSimpArgs false
set_option maxHeartbeats 4000000
set_option maxRecDepth 100000

theorem takeB (x : ByteArray) (q : Nat) : (x.extract 0 q).data.toList = x.data.toList.take q := by
  rw [ByteArray.data_extract, Array.toList_extract]; simp
theorem bitsC_eq (f1 f2 : TF) (n q lf : Nat) (hn : (n : Int) = min f1.bits f2.bits) (hq : n / 8 = q) (hl : n % 8 = lf) :
    bitsC f1 f2 = (if cmpB (f1.bytes.extract 0 q) (f2.bytes.extract 0 q) = 0 then
      (if lf = 0 then cmpI f1.bits f2.bits else
        (if cmpI ((f1.bytes.data.toList.getD q 0).toNat / 2 ^ (8 - lf) : Nat) ((f2.bytes.data.toList.getD q 0).toNat / 2 ^ (8 - lf) : Nat) = 0 then cmpI f1.bits f2.bits else cmpI ((f1.bytes.data.toList.getD q 0).toNat / 2 ^ (8 - lf) : Nat) ((f2.bytes.data.toList.getD q 0).toNat / 2 ^ (8 - lf) : Nat)))
      else cmpB (f1.bytes.extract 0 q) (f2.bytes.extract 0 q)) := by
  unfold bitsC cmpB
  dsimp only
  rw [takeB, takeB, show (min f1.bits f2.bits).toNat = n by omega, hq, hl]
theorem nine_drew {w : World} {z : Nat} {f : TF} {v : Value} (h : Nine w z f v) : Nine w.drew z f v := ⟨h.c0, h.c1, h.c2, h.c3, h.c4, h.c5, h.c6, h.c7, h.c8, h.fz⟩
theorem boxes2 (w : World) (f1 f2 : TF) (v1 v2 : Value) : Nine ((w.alloc (cells9 f1 v1)).alloc (cells9 f2 v2)) w.heap.size f1 v1 ∧ Nine ((w.alloc (cells9 f1 v1)).alloc (cells9 f2 v2)) (w.heap.size + 1) f2 v2 ∧ Below w.heap.size w ((w.alloc (cells9 f1 v1)).alloc (cells9 f2 v2)) ∧ ((w.alloc (cells9 f1 v1)).alloc (cells9 f2 v2)).heap.size = w.heap.size + 2 := by
  have h1 := (MapKept.heap_alloc w (cells9 f1 v1)).1
  have h2 := (MapKept.heap_alloc (w.alloc (cells9 f1 v1)) (cells9 f2 v2)).1
  have h3 : ((w.alloc (cells9 f1 v1)).alloc (cells9 f2 v2)).heap[w.heap.size]? = some (cells9 f1 v1) := by rw [Below.heap_alloc _ _ _ (by simp)]; exact h1
  exact ⟨nine_of h3, nine_of (by simpa using h2), ((Below.refl _ _).alloc (Nat.le_refl _) _).alloc (by simp) _, by simp⟩
theorem bitsW1 (k1 i1 g1 k2 i2 g2 a b : Int) (nm1 fn1 nm2 fn2 x y : ByteArray) (ar1 ar2 : Int) (p1 p2 : Option Addr) (m1 c1 m2 c2 : Nat) (w : World) (h1 : 0 ≤ a ∧ a ≤ 16384) (h2 : 0 ≤ b ∧ b ≤ 16384) (s1 : (x.size : Int) = (a + 7) / 8) (s2 : (y.size : Int) = (b + 7) / 8) (hab : a ≤ b) :
    Calls Try.prog 62 #[aggV ⟨k1, i1, g1, nm1, fn1, ar1, x, a⟩ (.slice p1 m1 c1), aggV ⟨k2, i2, g2, nm2, fn2, ar2, y, b⟩ (.slice p2 m2 c2)] w (IPostC (bitsC ⟨k1, i1, g1, nm1, fn1, ar1, x, a⟩ ⟨k2, i2, g2, nm2, fn2, ar2, y, b⟩) w) := by
  obtain ⟨n, hn⟩ : ∃ n : Nat, (n : Int) = a := ⟨(a).toNat, by omega⟩
  obtain ⟨q, hq⟩ : ∃ q : Nat, n / 8 = q := ⟨_, rfl⟩
  obtain ⟨lf, hl⟩ : ∃ lf : Nat, n % 8 = lf := ⟨_, rfl⟩
  have HR := Lib.hid (bitsC_eq ⟨k1, i1, g1, nm1, fn1, ar1, x, a⟩ ⟨k2, i2, g2, nm2, fn2, ar2, y, b⟩ n q lf (by dsimp only; omega) hq hl)
  generalize bitsC ⟨k1, i1, g1, nm1, fn1, ar1, x, a⟩ ⟨k2, i2, g2, nm2, fn2, ar2, y, b⟩ = r at *
  dsimp only at HR
  have hd8 : a / 8 = (q : Int) := by omega
  have hm8 : a % 8 = (lf : Int) := by omega
  have htd : (a).tdiv 8 = (q : Int) := by rw [Int.tdiv_eq_ediv_of_nonneg (by omega)]; exact hd8
  have htm : (a).tmod 8 = (lf : Int) := by rw [Int.tmod_eq_emod_of_nonneg (by omega)]; exact hm8
  have hqb : (q : Int) ≤ 2048 := by omega
  have hq0 : (0 : Int) ≤ (q : Int) := by omega
  have hwq : IntKind.i64.wrap (q : Int) = q := IntWalk.i64_in _ (by omega)
  have hlf : lf < 8 := by omega
  have hlfi : (lf : Int) < 8 := by omega
  have hlf0 : (0 : Int) ≤ (lf : Int) := by omega
  have hma : (0 : Int) ≤ a := by omega
  have hx : q ≤ x.size := by omega
  have hy : q ≤ y.size := by omega
  have hxi : (q : Int) ≤ (x.size : Int) := by omega
  have hyi : (q : Int) ≤ (y.size : Int) := by omega
  have hx2 : lf ≠ 0 → q < x.size ∧ q < y.size := by omega
  have HX2 := Lib.hid hx2
  have hCS := Lib.hid (fun W => cmpString (x.extract 0 q) (y.extract 0 q) W)
  have hCI := Lib.hid (fun W => cmpInt a b W)
  clear hn hq hl hx2 s1 s2 h1 h2
  unfold aggV
  dsimp only
  generalize cmpB (x.extract 0 q) (y.extract 0 q) = z at *
  generalize cmpI a b = zi at *
  go_enter Try.func62, Try.ntmps62
  go_wp2_with fail
  obtain ⟨hN1, hN2, hbw, hsz⟩ := boxes2 w ⟨k1, i1, g1, nm1, fn1, ar1, x, a⟩ ⟨k2, i2, g2, nm2, fn2, ar2, y, b⟩ (.slice p1 m1 c1) (.slice p2 m2 c2)
  unfold cells9 at hN1 hN2 hbw hsz
  dsimp only at hN1 hN2 hbw hsz
  generalize ((w.alloc (.cells #[.int .i64 k1, .int .i64 i1, .int .i64 g1, .string nm1, .string fn1, .int .i64 ar1, .slice p1 m1 c1, .string x, .int .i64 a] 24)).alloc (.cells #[.int .i64 k2, .int .i64 i2, .int .i64 g2, .string nm2, .string fn2, .int .i64 ar2, .slice p2 m2 c2, .string y, .int .i64 b] 24)) = W0 at *
  clear hsz
  have HN1 := Lib.hid hN1
  have HN2 := Lib.hid hN2
  obtain ⟨x0, x1, x2, x3, x4, x5, x6, x7, x8, xz⟩ := hN1
  obtain ⟨y0, y1, y2, y3, y4, y5, y6, y7, y8, yz⟩ := hN2
  dsimp only at x0 x1 x2 x3 x4 x5 x6 x7 x8 y0 y1 y2 y3 y4 y5 y6 y7 y8
  go_still_tail 8, (by kernel_rfl)
  change wpList _ _ _ _ _ W0.drew
  have hN1 := nine_drew HN1.out
  have hN2 := nine_drew HN2.out
  have hbw1 := hbw.drewN 1
  clear x0 x1 x2 x3 x4 x5 x6 x7 x8 xz y0 y1 y2 y3 y4 y5 y6 y7 y8 yz HN1 HN2 hbw
  change Below w.heap.size w W0.drew at hbw1
  generalize W0.drew = W1 at *
  have HN1 := Lib.hid hN1
  have HN2 := Lib.hid hN2
  obtain ⟨x0, x1, x2, x3, x4, x5, x6, x7, x8, xz⟩ := hN1
  obtain ⟨y0, y1, y2, y3, y4, y5, y6, y7, y8, yz⟩ := hN2
  dsimp only at x0 x1 x2 x3 x4 x5 x6 x7 x8 y0 y1 y2 y3 y4 y5 y6 y7 y8
  go_wp2_with fail
  refine (hCS.out _).mono ?_
  rintro e w' ⟨rfl, rfl⟩
  by_cases hz : z = 0
  · subst hz
    have hr := HR.out
    rw [if_pos rfl] at hr
    clear HR
    by_cases h0 : lf = 0
    · subst h0
      rw [if_pos rfl] at hr
      have HR := Lib.hid hr
      clear hr
      go_wp2_with fail
      refine (hCI.out _).mono ?_
      rintro e w' ⟨rfl, rfl⟩
      go_wp2_with fail
      go_ret
      exact ⟨ret1i HR.out.symm, hbw1⟩
    · rw [if_neg h0] at hr
      obtain ⟨hx2, hy2⟩ := HX2.out h0
      have hgx : x.data.toList.getD q 0 = x[q]'hx2 := by
        rw [List.getD_eq_getElem?_getD, List.getElem?_eq_getElem (by rw [Array.length_toList]; exact hx2)]; rfl
      have hgy : y.data.toList.getD q 0 = y[q]'hy2 := by
        rw [List.getD_eq_getElem?_getD, List.getElem?_eq_getElem (by rw [Array.length_toList]; exact hy2)]; rfl
      rw [hgx, hgy] at hr
      have hix : ∀ w : World, (Instr.index 9 (.string x) (.int .i64 (q : Int))).run Try.prog w = .ok (.int .u8 ((x[q]'hx2).toNat : Int)) w := fun w => by
        rw [run_index_string w 9 x .i64 (q : Int) Try.underlying9, dif_pos ⟨by omega, by omega⟩]; rfl
      have hiy : ∀ w : World, (Instr.index 9 (.string y) (.int .i64 (q : Int))).run Try.prog w = .ok (.int .u8 ((y[q]'hy2).toNat : Int)) w := fun w => by
        rw [run_index_string w 9 y .i64 (q : Int) Try.underlying9, dif_pos ⟨by omega, by omega⟩]; rfl
      have hbx : (x[q]'hx2).toNat < 256 := UInt8.toNat_lt _
      have hby : (y[q]'hy2).toNat < 256 := UInt8.toNat_lt _
      clear hgx hgy
      generalize (x[q]'hx2).toNat = bx at *
      generalize (y[q]'hy2).toNat = byy at *
      have hCb := fun W => cmpByte ((bx / 2 ^ (8 - lf) : Nat) : Int) ((byy / 2 ^ (8 - lf) : Nat) : Int) W
      generalize cmpI ((bx / 2 ^ (8 - lf) : Nat) : Int) ((byy / 2 ^ (8 - lf) : Nat) : Int) = zz at *
      have HR := Lib.hid hr
      clear hr
      rcases (show lf = 1 ∨ lf = 2 ∨ lf = 3 ∨ lf = 4 ∨ lf = 5 ∨ lf = 6 ∨ lf = 7 by omega) with rfl | rfl | rfl | rfl | rfl | rfl | rfl
      all_goals
        clear h0 HX2 hx hy hxi hyi hlf hlfi hlf0
        have HCb := Lib.hid hCb
        clear hCb
        have hw1 : IntKind.i64.wrap 1 = 1 := by decide
        have hw2 : IntKind.i64.wrap 2 = 2 := by decide
        have hw3 : IntKind.i64.wrap 3 = 3 := by decide
        have hw4 : IntKind.i64.wrap 4 = 4 := by decide
        have hw5 : IntKind.i64.wrap 5 = 5 := by decide
        have hw6 : IntKind.i64.wrap 6 = 6 := by decide
        have hw7 : IntKind.i64.wrap 7 = 7 := by decide
        go_wp2_with fail
        go_still_tail 14, (by kernel_rfl)
        change wpList _ _ _ _ _ W1.drew
        have hN1 := nine_drew HN1.out
        have hN2 := nine_drew HN2.out
        have hbw2 : Below w.heap.size w W1.drew := hbw1.drewN 1
        clear x0 x1 x2 x3 x4 x5 x6 x7 x8 xz y0 y1 y2 y3 y4 y5 y6 y7 y8 yz HN1 HN2 hbw1
        generalize W1.drew = W2 at *
        obtain ⟨x0, x1, x2, x3, x4, x5, x6, x7, x8, xz⟩ := hN1
        obtain ⟨y0, y1, y2, y3, y4, y5, y6, y7, y8, yz⟩ := hN2
        dsimp only at x0 x1 x2 x3 x4 x5 x6 x7 x8 y0 y1 y2 y3 y4 y5 y6 y7 y8
        go_wp2_with fail
        refine (HCb.out _).mono ?_
        rintro e w' ⟨rfl, rfl⟩
        by_cases hzz : zz = 0
        · subst hzz
          go_wp2_with fail
          refine (hCI.out _).mono ?_
          rintro e w' ⟨rfl, rfl⟩
          go_wp2_with fail
          go_ret
          exact ⟨ret1i (by rw [HR.out]; simp), hbw2⟩
        · have qz : (zz != 0) = true := by simp [hzz]
          have HZ := Lib.hid hzz
          clear hzz
          go_wp2_with fail
          go_ret
          exact ⟨ret1i (by rw [HR.out, if_neg HZ.out]), hbw2⟩
  · have qz : (z != 0) = true := by simp [hz]
    have hr := HR.out
    rw [if_neg hz] at hr
    have HR := Lib.hid hr
    clear hr hz
    go_wp2_with fail
    go_ret
    exact ⟨ret1i HR.out.symm, hbw1⟩
theorem bitsW2 (k1 i1 g1 k2 i2 g2 a b : Int) (nm1 fn1 nm2 fn2 x y : ByteArray) (ar1 ar2 : Int) (p1 p2 : Option Addr) (m1 c1 m2 c2 : Nat) (w : World) (h1 : 0 ≤ a ∧ a ≤ 16384) (h2 : 0 ≤ b ∧ b ≤ 16384) (s1 : (x.size : Int) = (a + 7) / 8) (s2 : (y.size : Int) = (b + 7) / 8) (hab : b < a) :
    Calls Try.prog 62 #[aggV ⟨k1, i1, g1, nm1, fn1, ar1, x, a⟩ (.slice p1 m1 c1), aggV ⟨k2, i2, g2, nm2, fn2, ar2, y, b⟩ (.slice p2 m2 c2)] w (IPostC (bitsC ⟨k1, i1, g1, nm1, fn1, ar1, x, a⟩ ⟨k2, i2, g2, nm2, fn2, ar2, y, b⟩) w) := by
  obtain ⟨n, hn⟩ : ∃ n : Nat, (n : Int) = b := ⟨(b).toNat, by omega⟩
  obtain ⟨q, hq⟩ : ∃ q : Nat, n / 8 = q := ⟨_, rfl⟩
  obtain ⟨lf, hl⟩ : ∃ lf : Nat, n % 8 = lf := ⟨_, rfl⟩
  have HR := Lib.hid (bitsC_eq ⟨k1, i1, g1, nm1, fn1, ar1, x, a⟩ ⟨k2, i2, g2, nm2, fn2, ar2, y, b⟩ n q lf (by dsimp only; omega) hq hl)
  generalize bitsC ⟨k1, i1, g1, nm1, fn1, ar1, x, a⟩ ⟨k2, i2, g2, nm2, fn2, ar2, y, b⟩ = r at *
  dsimp only at HR
  have hd8 : b / 8 = (q : Int) := by omega
  have hm8 : b % 8 = (lf : Int) := by omega
  have htd : (b).tdiv 8 = (q : Int) := by rw [Int.tdiv_eq_ediv_of_nonneg (by omega)]; exact hd8
  have htm : (b).tmod 8 = (lf : Int) := by rw [Int.tmod_eq_emod_of_nonneg (by omega)]; exact hm8
  have hqb : (q : Int) ≤ 2048 := by omega
  have hq0 : (0 : Int) ≤ (q : Int) := by omega
  have hwq : IntKind.i64.wrap (q : Int) = q := IntWalk.i64_in _ (by omega)
  have hlf : lf < 8 := by omega
  have hlfi : (lf : Int) < 8 := by omega
  have hlf0 : (0 : Int) ≤ (lf : Int) := by omega
  have hma : (0 : Int) ≤ b := by omega
  have hx : q ≤ x.size := by omega
  have hy : q ≤ y.size := by omega
  have hxi : (q : Int) ≤ (x.size : Int) := by omega
  have hyi : (q : Int) ≤ (y.size : Int) := by omega
  have hx2 : lf ≠ 0 → q < x.size ∧ q < y.size := by omega
  have HX2 := Lib.hid hx2
  have hCS := Lib.hid (fun W => cmpString (x.extract 0 q) (y.extract 0 q) W)
  have hCI := Lib.hid (fun W => cmpInt a b W)
  clear hn hq hl hx2 s1 s2 h1 h2
  unfold aggV
  dsimp only
  generalize cmpB (x.extract 0 q) (y.extract 0 q) = z at *
  generalize cmpI a b = zi at *
  go_enter Try.func62, Try.ntmps62
  go_wp2_with fail
  obtain ⟨hN1, hN2, hbw, hsz⟩ := boxes2 w ⟨k1, i1, g1, nm1, fn1, ar1, x, a⟩ ⟨k2, i2, g2, nm2, fn2, ar2, y, b⟩ (.slice p1 m1 c1) (.slice p2 m2 c2)
  unfold cells9 at hN1 hN2 hbw hsz
  dsimp only at hN1 hN2 hbw hsz
  generalize ((w.alloc (.cells #[.int .i64 k1, .int .i64 i1, .int .i64 g1, .string nm1, .string fn1, .int .i64 ar1, .slice p1 m1 c1, .string x, .int .i64 a] 24)).alloc (.cells #[.int .i64 k2, .int .i64 i2, .int .i64 g2, .string nm2, .string fn2, .int .i64 ar2, .slice p2 m2 c2, .string y, .int .i64 b] 24)) = W0 at *
  clear hsz
  have HN1 := Lib.hid hN1
  have HN2 := Lib.hid hN2
  obtain ⟨x0, x1, x2, x3, x4, x5, x6, x7, x8, xz⟩ := hN1
  obtain ⟨y0, y1, y2, y3, y4, y5, y6, y7, y8, yz⟩ := hN2
  dsimp only at x0 x1 x2 x3 x4 x5 x6 x7 x8 y0 y1 y2 y3 y4 y5 y6 y7 y8
  go_still_tail 8, (by kernel_rfl)
  change wpList _ _ _ _ _ W0.drew
  have hN1 := nine_drew HN1.out
  have hN2 := nine_drew HN2.out
  have hbw1 := hbw.drewN 1
  clear x0 x1 x2 x3 x4 x5 x6 x7 x8 xz y0 y1 y2 y3 y4 y5 y6 y7 y8 yz HN1 HN2 hbw
  change Below w.heap.size w W0.drew at hbw1
  generalize W0.drew = W1 at *
  have HN1 := Lib.hid hN1
  have HN2 := Lib.hid hN2
  obtain ⟨x0, x1, x2, x3, x4, x5, x6, x7, x8, xz⟩ := hN1
  obtain ⟨y0, y1, y2, y3, y4, y5, y6, y7, y8, yz⟩ := hN2
  dsimp only at x0 x1 x2 x3 x4 x5 x6 x7 x8 y0 y1 y2 y3 y4 y5 y6 y7 y8
  go_wp2_with fail
  refine (hCS.out _).mono ?_
  rintro e w' ⟨rfl, rfl⟩
  by_cases hz : z = 0
  · subst hz
    have hr := HR.out
    rw [if_pos rfl] at hr
    clear HR
    by_cases h0 : lf = 0
    · subst h0
      rw [if_pos rfl] at hr
      have HR := Lib.hid hr
      clear hr
      go_wp2_with fail
      refine (hCI.out _).mono ?_
      rintro e w' ⟨rfl, rfl⟩
      go_wp2_with fail
      go_ret
      exact ⟨ret1i HR.out.symm, hbw1⟩
    · rw [if_neg h0] at hr
      obtain ⟨hx2, hy2⟩ := HX2.out h0
      have hgx : x.data.toList.getD q 0 = x[q]'hx2 := by
        rw [List.getD_eq_getElem?_getD, List.getElem?_eq_getElem (by rw [Array.length_toList]; exact hx2)]; rfl
      have hgy : y.data.toList.getD q 0 = y[q]'hy2 := by
        rw [List.getD_eq_getElem?_getD, List.getElem?_eq_getElem (by rw [Array.length_toList]; exact hy2)]; rfl
      rw [hgx, hgy] at hr
      have hix : ∀ w : World, (Instr.index 9 (.string x) (.int .i64 (q : Int))).run Try.prog w = .ok (.int .u8 ((x[q]'hx2).toNat : Int)) w := fun w => by
        rw [run_index_string w 9 x .i64 (q : Int) Try.underlying9, dif_pos ⟨by omega, by omega⟩]; rfl
      have hiy : ∀ w : World, (Instr.index 9 (.string y) (.int .i64 (q : Int))).run Try.prog w = .ok (.int .u8 ((y[q]'hy2).toNat : Int)) w := fun w => by
        rw [run_index_string w 9 y .i64 (q : Int) Try.underlying9, dif_pos ⟨by omega, by omega⟩]; rfl
      have hbx : (x[q]'hx2).toNat < 256 := UInt8.toNat_lt _
      have hby : (y[q]'hy2).toNat < 256 := UInt8.toNat_lt _
      clear hgx hgy
      generalize (x[q]'hx2).toNat = bx at *
      generalize (y[q]'hy2).toNat = byy at *
      have hCb := fun W => cmpByte ((bx / 2 ^ (8 - lf) : Nat) : Int) ((byy / 2 ^ (8 - lf) : Nat) : Int) W
      generalize cmpI ((bx / 2 ^ (8 - lf) : Nat) : Int) ((byy / 2 ^ (8 - lf) : Nat) : Int) = zz at *
      have HR := Lib.hid hr
      clear hr
      rcases (show lf = 1 ∨ lf = 2 ∨ lf = 3 ∨ lf = 4 ∨ lf = 5 ∨ lf = 6 ∨ lf = 7 by omega) with rfl | rfl | rfl | rfl | rfl | rfl | rfl
      all_goals
        clear h0 HX2 hx hy hxi hyi hlf hlfi hlf0
        have HCb := Lib.hid hCb
        clear hCb
        have hw1 : IntKind.i64.wrap 1 = 1 := by decide
        have hw2 : IntKind.i64.wrap 2 = 2 := by decide
        have hw3 : IntKind.i64.wrap 3 = 3 := by decide
        have hw4 : IntKind.i64.wrap 4 = 4 := by decide
        have hw5 : IntKind.i64.wrap 5 = 5 := by decide
        have hw6 : IntKind.i64.wrap 6 = 6 := by decide
        have hw7 : IntKind.i64.wrap 7 = 7 := by decide
        go_wp2_with fail
        go_still_tail 14, (by kernel_rfl)
        change wpList _ _ _ _ _ W1.drew
        have hN1 := nine_drew HN1.out
        have hN2 := nine_drew HN2.out
        have hbw2 : Below w.heap.size w W1.drew := hbw1.drewN 1
        clear x0 x1 x2 x3 x4 x5 x6 x7 x8 xz y0 y1 y2 y3 y4 y5 y6 y7 y8 yz HN1 HN2 hbw1
        generalize W1.drew = W2 at *
        obtain ⟨x0, x1, x2, x3, x4, x5, x6, x7, x8, xz⟩ := hN1
        obtain ⟨y0, y1, y2, y3, y4, y5, y6, y7, y8, yz⟩ := hN2
        dsimp only at x0 x1 x2 x3 x4 x5 x6 x7 x8 y0 y1 y2 y3 y4 y5 y6 y7 y8
        go_wp2_with fail
        refine (HCb.out _).mono ?_
        rintro e w' ⟨rfl, rfl⟩
        by_cases hzz : zz = 0
        · subst hzz
          go_wp2_with fail
          refine (hCI.out _).mono ?_
          rintro e w' ⟨rfl, rfl⟩
          go_wp2_with fail
          go_ret
          exact ⟨ret1i (by rw [HR.out]; simp), hbw2⟩
        · have qz : (zz != 0) = true := by simp [hzz]
          have HZ := Lib.hid hzz
          clear hzz
          go_wp2_with fail
          go_ret
          exact ⟨ret1i (by rw [HR.out, if_neg HZ.out]), hbw2⟩
  · have qz : (z != 0) = true := by simp [hz]
    have hr := HR.out
    rw [if_neg hz] at hr
    have HR := Lib.hid hr
    clear hr hz
    go_wp2_with fail
    go_ret
    exact ⟨ret1i HR.out.symm, hbw1⟩
theorem bitsW (f1 f2 : TF) (p1 p2 : Option Addr) (m1 c1 m2 c2 : Nat) (w : World) (h1 : 0 ≤ f1.bits ∧ f1.bits ≤ 16384) (h2 : 0 ≤ f2.bits ∧ f2.bits ≤ 16384) (s1 : (f1.bytes.size : Int) = (f1.bits + 7) / 8) (s2 : (f2.bytes.size : Int) = (f2.bits + 7) / 8) :
    Calls Try.prog 62 #[aggV f1 (.slice p1 m1 c1), aggV f2 (.slice p2 m2 c2)] w (IPostC (bitsC f1 f2) w) := by
  obtain ⟨k1, i1, g1, nm1, fn1, ar1, x, a⟩ := f1
  obtain ⟨k2, i2, g2, nm2, fn2, ar2, y, b⟩ := f2
  by_cases h : a ≤ b
  · exact bitsW1 k1 i1 g1 k2 i2 g2 a b nm1 fn1 nm2 fn2 x y ar1 ar2 p1 p2 m1 c1 m2 c2 w h1 h2 s1 s2 h
  · exact bitsW2 k1 i1 g1 k2 i2 g2 a b nm1 fn1 nm2 fn2 x y ar1 ar2 p1 p2 m1 c1 m2 c2 w h1 h2 s1 s2 (by omega)
end Go.Proofs.Ythgfdpamnepnfaa.tm
/- The order of terms: valid. Conditions: as before. -/
namespace Go.Proofs.Ythgfdpamnepnfaa.tm
open Go.RowKit mem names
set_option linter.unusedVariables false
set_option linter.unusedSimpArgs false
set_option maxHeartbeats 4000000
set_option maxRecDepth 100000

theorem validHead (k1 i1 g1 k2 i2 g2 a b : Int) (nm1 fn1 nm2 fn2 x y : ByteArray) (ar1 ar2 : Int) (p1 p2 : Option Addr) (m1 c1 m2 c2 : Nat) (w : World) (hk : k1 = k2) (h7 : k1 ≠ 7) (h9 : k1 ≠ 9) (h10 : k1 ≠ 10) (r : Int)
    (hI : ∀ W, Below w.heap.size w W → Calls Try.prog 60 #[.slice p1 m1 c1, .slice p2 m2 c2] W (IPostC r W)) :
    Calls Try.prog 40 #[aggV ⟨k1, i1, g1, nm1, fn1, ar1, x, a⟩ (.slice p1 m1 c1), aggV ⟨k2, i2, g2, nm2, fn2, ar2, y, b⟩ (.slice p2 m2 c2)] w (IPostC (if headC ⟨k1, i1, g1, nm1, fn1, ar1, x, a⟩ ⟨k2, i2, g2, nm2, fn2, ar2, y, b⟩ = 0 then r else headC ⟨k1, i1, g1, nm1, fn1, ar1, x, a⟩ ⟨k2, i2, g2, nm2, fn2, ar2, y, b⟩) w) := by
  have hCK := Lib.hid (fun W => cmpInt k1 k2 W)
  rw [cmpI_0 hk] at hCK
  subst hk
  have q7 : (k1 == 7) = false := by simp [h7]
  have q9 : (k1 == 9) = false := by simp [h9]
  have q10 : (k1 == 10) = false := by simp [h10]
  have HI := Lib.hid hI
  clear hI
  unfold headC
  dsimp only
  have HOr := Lib.hid (fun (W : World) (g : Nat) h => firstOr W g [cmpB nm1 nm2, cmpB fn1 fn2, cmpI g1 g2, cmpI i1 i2, cmpI ar1 ar2] 5 (by simp) h)
  generalize hres : (if firstL [cmpB nm1 nm2, cmpB fn1 fn2, cmpI g1 g2, cmpI i1 i2, cmpI ar1 ar2] = 0 then r else firstL [cmpB nm1 nm2, cmpB fn1 fn2, cmpI g1 g2, cmpI i1 i2, cmpI ar1 ar2]) = res at *
  have HRes := Lib.hid hres
  clear hres
  unfold IPostC at *
  unfold aggV
  dsimp only
  go_enter Try.func40, Try.ntmps40
  go_wp2_with fail
  obtain ⟨hN1, hN2, hbw, hsz⟩ := boxes2 w ⟨k1, i1, g1, nm1, fn1, ar1, x, a⟩ ⟨k1, i2, g2, nm2, fn2, ar2, y, b⟩ (.slice p1 m1 c1) (.slice p2 m2 c2)
  unfold cells9 at hN1 hN2 hbw hsz
  dsimp only at hN1 hN2 hbw hsz
  generalize ((w.alloc (.cells #[.int .i64 k1, .int .i64 i1, .int .i64 g1, .string nm1, .string fn1, .int .i64 ar1, .slice p1 m1 c1, .string x, .int .i64 a] 24)).alloc (.cells #[.int .i64 k1, .int .i64 i2, .int .i64 g2, .string nm2, .string fn2, .int .i64 ar2, .slice p2 m2 c2, .string y, .int .i64 b] 24)) = W0 at *
  have HZ1 : Hid (w.heap.size < W0.heap.size) := Lib.hid (by omega)
  have HZ2 : Hid (w.heap.size + 1 < W0.heap.size) := Lib.hid (by omega)
  clear hsz
  have HN1 := Lib.hid hN1
  have HN2 := Lib.hid hN2
  obtain ⟨x0, x1, x2, x3, x4, x5, x6, x7, x8, xz⟩ := hN1
  obtain ⟨y0, y1, y2, y3, y4, y5, y6, y7, y8, yz⟩ := hN2
  dsimp only at x0 x1 x2 x3 x4 x5 x6 x7 x8 y0 y1 y2 y3 y4 y5 y6 y7 y8
  refine (hCK.out _).mono ?_
  rintro e w' ⟨rfl, rfl⟩
  go_wp2_with fail
  go_still_tail 25, (by kernel_rfl)
  still_call ((cmpString nm1 nm2 _).mono (fun e w' h => ⟨h.1, h.2.symm⟩))
  repeat still_step
  still_call ((cmpString fn1 fn2 _).mono (fun e w' h => ⟨h.1, h.2.symm⟩))
  repeat still_step
  still_call ((cmpInt64 g1 g2 _).mono (fun e w' h => ⟨h.1, h.2.symm⟩))
  repeat still_step
  still_call ((cmpInt64 i1 i2 _).mono (fun e w' h => ⟨h.1, h.2.symm⟩))
  repeat still_step
  still_call ((cmpInt ar1 ar2 _).mono (fun e w' h => ⟨h.1, h.2.symm⟩))
  repeat still_step
  refine wpStill_nil ?_
  change wpList _ _ _ _ _ W0.drew
  have hN1 := nine_drew HN1.out
  have hN2 := nine_drew HN2.out
  have hbw1 : Below w.heap.size w W0.drew := hbw.drewN 1
  clear x0 x1 x2 x3 x4 x5 x6 x7 x8 xz y0 y1 y2 y3 y4 y5 y6 y7 y8 yz HN1 HN2 hbw
  have HZ1 : Hid (w.heap.size < W0.drew.heap.size) := Lib.hid HZ1.out
  have HZ2 : Hid (w.heap.size + 1 < W0.drew.heap.size) := Lib.hid HZ2.out
  generalize W0.drew = W1 at *
  generalize cmpB nm1 nm2 = u1 at *
  generalize cmpB fn1 fn2 = u2 at *
  generalize cmpI g1 g2 = u3 at *
  generalize cmpI i1 i2 = u4 at *
  generalize cmpI ar1 ar2 = u5 at *
  have HN1 := Lib.hid hN1
  have HN2 := Lib.hid hN2
  clear hN1 hN2
  go_wp2_with fail
  have hcells : ∀ j, (h : j < [u1, u2, u3, u4, u5].length) → (W1.alloc (.cells #[.int .i64 u1, .int .i64 u2, .int .i64 u3, .int .i64 u4, .int .i64 u5] 3)).cell? ⟨W1.heap.size, j, none⟩ = some (.int .i64 [u1, u2, u3, u4, u5][j]) := fun j h => by
    have hA := (MapKept.heap_alloc W1 (.cells #[.int .i64 u1, .int .i64 u2, .int .i64 u3, .int .i64 u4, .int .i64 u5] 3)).1
    rcases (show j = 0 ∨ j = 1 ∨ j = 2 ∨ j = 3 ∨ j = 4 by simp at h; omega) with rfl | rfl | rfl | rfl | rfl <;> (simp only [World.cell?, hA]; rfl)
  refine (HOr.out _ _ hcells).mono ?_
  clear hcells HOr
  rintro e w' ⟨rfl, rfl⟩
  have hbw2 : Below w.heap.size w (W1.alloc (.cells #[.int .i64 u1, .int .i64 u2, .int .i64 u3, .int .i64 u4, .int .i64 u5] 3)) := hbw1.alloc hbw1.size _
  have hbb : Below W1.heap.size W1 (W1.alloc (.cells #[.int .i64 u1, .int .i64 u2, .int .i64 u3, .int .i64 u4, .int .i64 u5] 3)) := (Below.refl _ _).alloc (Nat.le_refl _) _
  obtain ⟨x0, x1, x2, x3, x4, x5, x6, x7, x8, xz⟩ := HN1.out.below hbb HZ1.out
  obtain ⟨y0, y1, y2, y3, y4, y5, y6, y7, y8, yz⟩ := HN2.out.below hbb HZ2.out
  dsimp only at x0 x1 x2 x3 x4 x5 x6 x7 x8 y0 y1 y2 y3 y4 y5 y6 y7 y8
  clear hbb hbw1
  generalize (W1.alloc (.cells #[.int .i64 u1, .int .i64 u2, .int .i64 u3, .int .i64 u4, .int .i64 u5] 3)) = W2 at *
  generalize firstL [u1, u2, u3, u4, u5] = hd at *
  by_cases h0 : hd = 0
  · subst h0
    go_wp2_with fail
    refine (HI.out _ hbw2).mono ?_
    rintro e w3 ⟨rfl, hb3⟩
    go_wp2_with fail
    go_ret
    exact ⟨ret1i (by rw [← HRes.out]; simp), hbw2.trans (hb3.mono hbw2.size)⟩
  · have q : (hd != 0) = true := by simp [h0]
    have H0 := Lib.hid h0
    clear h0
    go_wp2_with fail
    go_ret
    exact ⟨ret1i (by rw [← HRes.out, if_neg H0.out]), hbw2⟩
end Go.Proofs.Ythgfdpamnepnfaa.tm
