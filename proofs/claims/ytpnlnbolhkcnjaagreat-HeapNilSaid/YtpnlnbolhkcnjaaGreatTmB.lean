
/- stagehandkit's Same and SameList. Conditions: the terms lie in memory. -/
import Derived.Test.YtpnlnbolhkcnjaaGreatTmA
import Derived.Deep.QuietTactic
import Derived.BigQuiet
import Derived.WalkSpells
import Derived.StillTailTactics
import Derived.Outline
import Derived.IntWalk
namespace Go.Proofs.YtpnlnbolhkcnjaaGreat.tm
open Go.RowKit mem
set_option linter.unusedVariables false
set_option linter.unusedSimpArgs false
set_option maxHeartbeats 1000000
set_option maxRecDepth 100000

noncomputable def eqB {α : Type} (a b : α) : Bool := @decide (a = b) (Classical.propDecidable _)
theorem eqB_t {α : Type} {a b : α} (h : a = b) : eqB a b = true := @decide_eq_true _ (Classical.propDecidable _) h
theorem eqB_f {α : Type} {a b : α} (h : a ≠ b) : eqB a b = false := @decide_eq_false _ (Classical.propDecidable _) h
theorem ret1 {k : IntKind} {a b : Int} (h : a = b) : Ending.returned (.int k a) = .returned (.int k b) := by rw [h]
theorem ret1b {a b : Bool} (h : a = b) : Ending.returned (.bool a) = .returned (.bool b) := by rw [h]
def BPost (b : Bool) (w : World) (e : Ending) (w' : World) : Prop := e = .returned (.bool b) ∧ Below w.heap.size w w'

theorem str_ne' {a b : ByteArray} (h : a ≠ b) : ¬ a.toList = b.toList := by
  intro e
  rw [ByteArray.toList_eq, ByteArray.toList_eq] at e
  exact h (ByteArray.ext (Array.ext' e))
theorem str_ne {a b : ByteArray} (h : a ≠ b) : (a.toList == b.toList) = false := by
  cases hh : a.toList == b.toList with
  | false => rfl
  | true => exact absurd (eq_of_beq hh) (str_ne' h)
theorem bytes_self (a : ByteArray) : (a == a) = true := (bytes_beq a a).2 rfl
theorem bytes_ne {a b : ByteArray} (h : a ≠ b) : (a == b) = false := by
  cases hh : a == b with
  | false => rfl
  | true => exact absurd ((bytes_beq a b).1 hh) h
/-- a term by value -/
def SameS (n : Nat) : Prop := ∀ (w : World) (B : Nat) (v1 v2 : Value) (a b : List (Tm n)), B ≤ w.heap.size → ItemsAt w B n v1 a → ItemsAt w B n v2 b → Calls Tryz.prog 95 #[v1, v2] w (BPost (eqB a b) w)
theorem same_one {n : Nat} (ih : SameS n) (w : World) (B : Nat) (v1 v2 : Value) (a b : Tm (n + 1)) (hB : B ≤ w.heap.size) (h1 : ItemsAt w B n v1 a.items) (h2 : ItemsAt w B n v2 b.items) :
    Calls Tryz.prog 38 #[aggV a.f v1, aggV b.f v2] w (BPost (eqB a b) w) := by
  have hno : a.f ≠ b.f → eqB a b = false := fun h => eqB_f (fun e => h (by rw [e]))
  have hin : a.f = b.f → eqB a b = eqB a.items b.items := fun h => by
    by_cases e : a.items = b.items
    · rw [eqB_t e, eqB_t (Tm.ext h e)]
    · rw [eqB_f e, eqB_f (fun e2 => e (by rw [e2]))]
  have hI := fun (W : World) (hb : Below w.heap.size w W) => ih W B v1 v2 a.items b.items (Nat.le_trans hB hb.size) (h1.below hb hB) (h2.below hb hB)
  clear ih h1 h2
  generalize a.items = l1 at *
  generalize b.items = l2 at *
  generalize eqB a b = r at *
  generalize a.f = x at *
  generalize b.f = y at *
  obtain ⟨k1, i1, g1, n1, f1, a1, b1, s1⟩ := x
  obtain ⟨k2, i2, g2, n2, f2, a2, b2, s2⟩ := y
  unfold aggV
  dsimp only
  by_cases e : k1 ≠ k2
  · have hq : (k1 == k2) = false := by simp [e]
    rw [hno (by intro h; simp only [TF.mk.injEq] at h; simp_all)]
    clear hno hin hI e
    go_enter Tryz.func38, Tryz.ntmps38
    go_wp2_with fail
    go_ret
    exact ⟨rfl, ((Below.refl _ _).alloc (Nat.le_refl _) _).alloc (by simp) _⟩
  have e := Classical.not_not.1 e
  subst e
  have qk : (k1 == k1) = true := by first | exact bytes_self _ | simp
  by_cases e : i1 ≠ i2
  · have hq : (i1 == i2) = false := by simp [e]
    rw [hno (by intro h; simp only [TF.mk.injEq] at h; simp_all)]
    clear hno hin hI e
    go_enter Tryz.func38, Tryz.ntmps38
    go_wp2_with fail
    go_ret
    exact ⟨rfl, ((Below.refl _ _).alloc (Nat.le_refl _) _).alloc (by simp) _⟩
  have e := Classical.not_not.1 e
  subst e
  have qi : (i1 == i1) = true := by first | exact bytes_self _ | simp
  by_cases e : g1 ≠ g2
  · have hq : (g1 == g2) = false := by simp [e]
    rw [hno (by intro h; simp only [TF.mk.injEq] at h; simp_all)]
    clear hno hin hI e
    go_enter Tryz.func38, Tryz.ntmps38
    go_wp2_with fail
    go_ret
    exact ⟨rfl, ((Below.refl _ _).alloc (Nat.le_refl _) _).alloc (by simp) _⟩
  have e := Classical.not_not.1 e
  subst e
  have qg : (g1 == g1) = true := by first | exact bytes_self _ | simp
  by_cases e : n1 ≠ n2
  · have hq : (n1.toList == n2.toList) = false := str_ne e
    have hq2 : ¬ n1.toList = n2.toList := str_ne' e
    rw [hno (by intro h; simp only [TF.mk.injEq] at h; simp_all)]
    clear hno hin hI e
    go_enter Tryz.func38, Tryz.ntmps38
    go_wp2_with fail
    go_ret
    exact ⟨rfl, ((Below.refl _ _).alloc (Nat.le_refl _) _).alloc (by simp) _⟩
  have e := Classical.not_not.1 e
  subst e
  have qn : (n1 == n1) = true := by first | exact bytes_self _ | simp
  by_cases e : f1 ≠ f2
  · have hq : (f1.toList == f2.toList) = false := str_ne e
    have hq2 : ¬ f1.toList = f2.toList := str_ne' e
    rw [hno (by intro h; simp only [TF.mk.injEq] at h; simp_all)]
    clear hno hin hI e
    go_enter Tryz.func38, Tryz.ntmps38
    go_wp2_with fail
    go_ret
    exact ⟨rfl, ((Below.refl _ _).alloc (Nat.le_refl _) _).alloc (by simp) _⟩
  have e := Classical.not_not.1 e
  subst e
  have qf : (f1 == f1) = true := by first | exact bytes_self _ | simp
  by_cases e : a1 ≠ a2
  · have hq : (a1 == a2) = false := by simp [e]
    rw [hno (by intro h; simp only [TF.mk.injEq] at h; simp_all)]
    clear hno hin hI e
    go_enter Tryz.func38, Tryz.ntmps38
    go_wp2_with fail
    go_ret
    exact ⟨rfl, ((Below.refl _ _).alloc (Nat.le_refl _) _).alloc (by simp) _⟩
  have e := Classical.not_not.1 e
  subst e
  have qa : (a1 == a1) = true := by first | exact bytes_self _ | simp
  by_cases e : b1 ≠ b2
  · have hq : (b1.toList == b2.toList) = false := str_ne e
    have hq2 : ¬ b1.toList = b2.toList := str_ne' e
    rw [hno (by intro h; simp only [TF.mk.injEq] at h; simp_all)]
    clear hno hin hI e
    go_enter Tryz.func38, Tryz.ntmps38
    go_wp2_with fail
    go_ret
    exact ⟨rfl, ((Below.refl _ _).alloc (Nat.le_refl _) _).alloc (by simp) _⟩
  have e := Classical.not_not.1 e
  subst e
  have qb : (b1 == b1) = true := by first | exact bytes_self _ | simp
  by_cases e : s1 ≠ s2
  · have hq : (s1 == s2) = false := by simp [e]
    rw [hno (by intro h; simp only [TF.mk.injEq] at h; simp_all)]
    clear hno hin hI e
    go_enter Tryz.func38, Tryz.ntmps38
    go_wp2_with fail
    go_ret
    exact ⟨rfl, ((Below.refl _ _).alloc (Nat.le_refl _) _).alloc (by simp) _⟩
  have e := Classical.not_not.1 e
  subst e
  have qs : (s1 == s1) = true := by first | exact bytes_self _ | simp
  rw [hin rfl]
  clear hno hin
  go_enter Tryz.func38, Tryz.ntmps38
  go_wp2_with fail
  refine (hI _ (((Below.refl _ _).alloc (Nat.le_refl _) _).alloc (by simp) _)).mono ?_
  rintro e w' ⟨rfl, hb⟩
  go_wp2_with fail
  go_ret
  exact ⟨rfl, (((Below.refl _ _).alloc (Nat.le_refl _) _).alloc (by simp) _).trans (hb.mono (by simp; omega))⟩
end Go.Proofs.YtpnlnbolhkcnjaaGreat.tm
