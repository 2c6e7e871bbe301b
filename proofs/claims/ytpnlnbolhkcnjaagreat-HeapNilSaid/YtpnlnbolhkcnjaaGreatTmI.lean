
/- Well-formed terms and their sizes; terms.Same beside the zero term; kinds. No condition. -/
import Derived.Test.YtpnlnbolhkcnjaaGreatTmF
import Derived.Test.YtpnlnbolhkcnjaaGreatTmG
import Derived.Test.YtpnlnbolhkcnjaaGreatTmH
namespace Go.Proofs.YtpnlnbolhkcnjaaGreat.tm
open Go.RowKit mem names
set_option linter.unusedVariables false
set_option linter.unusedSimpArgs false
set_option maxHeartbeats 1000000
set_option maxRecDepth 100000

def lastK : (n : Nat) → List (Tm n) → Int
  | 0, _ => 0
  | n + 1, l => (l.getLast?.map (fun t => t.f.kind)).getD 0
noncomputable def bareOK (f : TF) (k : Nat) : Bool := eqB { bareF f with kind := 0 } zeroF && decide ((if f.kind = 4 ∨ f.kind = 7 ∨ f.kind = 9 then 0 else k) = 0)
noncomputable def okT {n : Nat} (t : Tm (n + 1)) : Bool := inB t.f.kind 0 10 && (okF t.f t.items.length (lastK n t.items) && bareOK t.f t.items.length)
noncomputable def formedL : (n : Nat) → List (Tm n) → Bool
  | 0, _ => true
  | n + 1, l => l.all (fun t => okT t && formedL n t.items)
noncomputable def formedT {n : Nat} (t : Tm (n + 1)) : Bool := okT t && formedL n t.items
def sizeF (f : TF) (k : Nat) : Int := if f.kind = 9 then (k : Int) - 1 else if f.kind = 10 then 1 + (f.bits + 63) / 64 else 1
def wholeL : (n : Nat) → List (Tm n) → Int
  | 0, _ => 0
  | n + 1, l => (l.map (fun t => sizeF t.f t.items.length + wholeL n t.items)).sum
def wholeT {n : Nat} (t : Tm (n + 1)) : Int := sizeF t.f t.items.length + wholeL n t.items
def nodesL : (n : Nat) → List (Tm n) → Nat
  | 0, _ => 0
  | n + 1, l => (l.map (fun t => 1 + nodesL n t.items)).sum
def nodesT {n : Nat} (t : Tm (n + 1)) : Nat := 1 + nodesL n t.items
theorem nodes_len : ∀ (n : Nat) (l : List (Tm n)), l.length ≤ nodesL n l := by
  intro n
  cases n with
  | zero => intro l; rw [Tm.nil0 l]; simp
  | succ n =>
    intro l
    induction l with
    | nil => simp [nodesL]
    | cons t l ih =>
      have e : nodesL (n + 1) (t :: l) = (1 + nodesL n t.items) + nodesL (n + 1) l := by simp [nodesL]
      rw [e]; simp; omega
theorem nodes_mem {n : Nat} {l : List (Tm (n + 1))} {k : Nat} (h : k < l.length) : nodesL (n + 1) (l.take k) + nodesT l[k] + nodesL (n + 1) (l.drop (k + 1)) = nodesL (n + 1) l := by
  have e : nodesL (n + 1) l = nodesL (n + 1) (l.take k ++ l[k] :: l.drop (k + 1)) := by rw [← List.drop_eq_getElem_cons h, List.take_append_drop]
  rw [e]
  unfold nodesL nodesT
  simp only [List.map_append, List.map_cons, List.sum_append, List.sum_cons]; omega
theorem whole_snoc {n : Nat} (l : List (Tm (n + 1))) (k : Nat) (h : k < l.length) : wholeL (n + 1) (l.take (k + 1)) = wholeL (n + 1) (l.take k) + wholeT l[k] := by
  rw [List.take_succ_eq_append_getElem h]
  unfold wholeL wholeT
  simp only [List.map_append, List.map_cons, List.map_nil, List.sum_append, List.sum_cons, List.sum_nil]; omega
theorem formed_no {n : Nat} {l : List (Tm (n + 1))} {k : Nat} (h : k < l.length) (hf : formedT l[k] = false) : formedL (n + 1) l = false := by
  unfold formedL
  rw [List.all_eq_false]
  exact ⟨l[k], List.getElem_mem h, by unfold formedT at hf; simp [hf]⟩
theorem formed_yes {n : Nat} {l : List (Tm (n + 1))} (h : ∀ k, (hk : k < l.length) → formedT l[k] = true) : formedL (n + 1) l = true := by
  unfold formedL
  rw [List.all_eq_true]
  intro x hx
  obtain ⟨k, hk, rfl⟩ := List.mem_iff_getElem.1 hx
  exact h k hk

/-- a list beside the empty one -/
theorem alike0 (p : Option Addr) (n c : Nat) (fv : Value) (w : World) : Calls Tryz.prog 277 #[.slice p n c, .slice none 0 0, fv] w fun e w' => e = .returned (.bool (decide (n = 0))) ∧ w = w' := by
  by_cases h : n = 0
  · subst h
    rw [decide_eq_true rfl]
    go_enter Tryz.func277, Tryz.ntmps277
    go_wp2_with fail
    refine wp_loop_rounds 1 ?_
    rw [rounds_succ]
    go_wp2_with fail
    go_ret
    exact ⟨rfl, rfl⟩
  · rw [decide_eq_false h]
    have hq : ((n : Int) != 0) = true := by simp; omega
    go_enter Tryz.func277, Tryz.ntmps277
    go_wp2_with fail
    go_ret
    exact ⟨rfl, rfl⟩
theorem eq_zeroF (k i g : Int) (nm fn : ByteArray) (ar : Int) (by_ : ByteArray) (bt : Int) : (⟨k, i, g, nm, fn, ar, by_, bt⟩ : TF) = zeroF ↔ (k = 0 ∧ i = 0 ∧ g = 0 ∧ nm = ⟨#[]⟩ ∧ fn = ⟨#[]⟩ ∧ ar = 0 ∧ by_ = ⟨#[]⟩ ∧ bt = 0) := by
  unfold zeroF; rw [TF.mk.injEq]
theorem str_nz' {a : ByteArray} (h : a ≠ ⟨#[]⟩) : ¬ a.toList = [] := by
  intro e
  rw [ByteArray.toList_eq] at e
  exact h (ByteArray.ext (Array.ext' e))
theorem str_nz {a : ByteArray} (h : a ≠ ⟨#[]⟩) : a.toList.isEmpty = false := by
  rw [List.isEmpty_eq_false_iff]; exact str_nz' h
theorem str_nz2 {a : ByteArray} (h : a ≠ ⟨#[]⟩) : (a.toList == []) = false := by
  cases hh : a.toList == [] with
  | false => rfl
  | true => exact absurd (eq_of_beq hh) (str_nz' h)
/-- terms.Same beside the zero term -/
theorem sameZ (f : TF) (p : Option Addr) (n c : Nat) (w : World) : Calls Tryz.prog 265 #[aggV f (.slice p n c), aggV zeroF (.slice none 0 0)] w fun e w' => e = .returned (.bool (eqB f zeroF && decide (n = 0))) ∧ Below w.heap.size w w' := by
  obtain ⟨k, i, g, nm, fn, ar, by_, bt⟩ := f
  have hno : ¬ (k = 0 ∧ i = 0 ∧ g = 0 ∧ nm = ⟨#[]⟩ ∧ fn = ⟨#[]⟩ ∧ ar = 0 ∧ by_ = ⟨#[]⟩ ∧ bt = 0) → eqB (⟨k, i, g, nm, fn, ar, by_, bt⟩ : TF) zeroF = false := fun h => eqB_f (fun e => h ((eq_zeroF _ _ _ _ _ _ _ _).1 e))
  have hyes : (k = 0 ∧ i = 0 ∧ g = 0 ∧ nm = ⟨#[]⟩ ∧ fn = ⟨#[]⟩ ∧ ar = 0 ∧ by_ = ⟨#[]⟩ ∧ bt = 0) → eqB (⟨k, i, g, nm, fn, ar, by_, bt⟩ : TF) zeroF = true := fun h => eqB_t ((eq_zeroF _ _ _ _ _ _ _ _).2 h)
  unfold aggV zeroF at *
  dsimp only at *
  generalize eqB (⟨k, i, g, nm, fn, ar, by_, bt⟩ : TF) (⟨0, 0, 0, ⟨#[]⟩, ⟨#[]⟩, 0, ⟨#[]⟩, 0⟩ : TF) = r at *
  by_cases e : k ≠ 0
  · have hq : (k == 0) = false := by simp [e]
    rw [hno (by simp_all), Bool.false_and]
    clear hno hyes e
    go_enter Tryz.func265, Tryz.ntmps265
    go_wp2_with fail
    go_ret
    exact ⟨rfl, ((Below.refl _ _).alloc (Nat.le_refl _) _).alloc (by simp) _⟩
  have e := Classical.not_not.1 e
  subst e
  by_cases e : i ≠ 0
  · have hq : (i == 0) = false := by simp [e]
    rw [hno (by simp_all), Bool.false_and]
    clear hno hyes e
    go_enter Tryz.func265, Tryz.ntmps265
    go_wp2_with fail
    go_ret
    exact ⟨rfl, ((Below.refl _ _).alloc (Nat.le_refl _) _).alloc (by simp) _⟩
  have e := Classical.not_not.1 e
  subst e
  by_cases e : g ≠ 0
  · have hq : (g == 0) = false := by simp [e]
    rw [hno (by simp_all), Bool.false_and]
    clear hno hyes e
    go_enter Tryz.func265, Tryz.ntmps265
    go_wp2_with fail
    go_ret
    exact ⟨rfl, ((Below.refl _ _).alloc (Nat.le_refl _) _).alloc (by simp) _⟩
  have e := Classical.not_not.1 e
  subst e
  by_cases e : nm ≠ (⟨#[]⟩ : ByteArray)
  · have hq : nm.toList.isEmpty = false := str_nz e
    have hq3 : (nm.toList == []) = false := str_nz2 e
    have hq2 : ¬ nm.toList = [] := str_nz' e
    rw [hno (by simp_all), Bool.false_and]
    clear hno hyes e
    go_enter Tryz.func265, Tryz.ntmps265
    go_wp2_with fail
    go_ret
    exact ⟨rfl, ((Below.refl _ _).alloc (Nat.le_refl _) _).alloc (by simp) _⟩
  have e := Classical.not_not.1 e
  subst e
  by_cases e : fn ≠ (⟨#[]⟩ : ByteArray)
  · have hq : fn.toList.isEmpty = false := str_nz e
    have hq3 : (fn.toList == []) = false := str_nz2 e
    have hq2 : ¬ fn.toList = [] := str_nz' e
    rw [hno (by simp_all), Bool.false_and]
    clear hno hyes e
    go_enter Tryz.func265, Tryz.ntmps265
    go_wp2_with fail
    go_ret
    exact ⟨rfl, ((Below.refl _ _).alloc (Nat.le_refl _) _).alloc (by simp) _⟩
  have e := Classical.not_not.1 e
  subst e
  by_cases e : ar ≠ 0
  · have hq : (ar == 0) = false := by simp [e]
    rw [hno (by simp_all), Bool.false_and]
    clear hno hyes e
    go_enter Tryz.func265, Tryz.ntmps265
    go_wp2_with fail
    go_ret
    exact ⟨rfl, ((Below.refl _ _).alloc (Nat.le_refl _) _).alloc (by simp) _⟩
  have e := Classical.not_not.1 e
  subst e
  by_cases e : by_ ≠ (⟨#[]⟩ : ByteArray)
  · have hq : by_.toList.isEmpty = false := str_nz e
    have hq3 : (by_.toList == []) = false := str_nz2 e
    have hq2 : ¬ by_.toList = [] := str_nz' e
    rw [hno (by simp_all), Bool.false_and]
    clear hno hyes e
    go_enter Tryz.func265, Tryz.ntmps265
    go_wp2_with fail
    go_ret
    exact ⟨rfl, ((Below.refl _ _).alloc (Nat.le_refl _) _).alloc (by simp) _⟩
  have e := Classical.not_not.1 e
  subst e
  by_cases e : bt ≠ 0
  · have hq : (bt == 0) = false := by simp [e]
    rw [hno (by simp_all), Bool.false_and]
    clear hno hyes e
    go_enter Tryz.func265, Tryz.ntmps265
    go_wp2_with fail
    go_ret
    exact ⟨rfl, ((Below.refl _ _).alloc (Nat.le_refl _) _).alloc (by simp) _⟩
  have e := Classical.not_not.1 e
  subst e
  rw [hyes ⟨rfl, rfl, rfl, rfl, rfl, rfl, rfl, rfl⟩, Bool.true_and]
  clear hno hyes
  go_enter Tryz.func265, Tryz.ntmps265
  go_wp2_with fail
  refine (alike0 _ _ _ _ _).mono ?_
  rintro e w' ⟨rfl, rfl⟩
  go_wp2_with fail
  go_ret
  exact ⟨rfl, ((Below.refl _ _).alloc (Nat.le_refl _) _).alloc (by simp) _⟩
end Go.Proofs.YtpnlnbolhkcnjaaGreat.tm
