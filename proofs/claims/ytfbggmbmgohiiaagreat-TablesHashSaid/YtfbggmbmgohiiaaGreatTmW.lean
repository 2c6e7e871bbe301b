
/- The order of terms: items, lists. Conditions: as before. -/
import Derived.Test.YtfbggmbmgohiiaaGreatTmV
namespace Go.Proofs.YtfbggmbmgohiiaaGreat.tm
open Go.RowKit mem names
set_option linter.unusedVariables false
set_option linter.unusedSimpArgs false
set_option maxHeartbeats 4000000
set_option maxRecDepth 100000

theorem cmpI_0 {a b : Int} (h : a = b) : cmpI a b = 0 := by subst h; unfold cmpI; simp
theorem cmpI_ne {a b : Int} (h : a ≠ b) : cmpI a b ≠ 0 := by unfold cmpI; split <;> (try split) <;> omega
theorem itemsW {n : Nat} (ih : ∀ m, n = m + 1 → CmpS m) (w : World) (B : Nat) (v1 v2 : Value) (l1 l2 : List (Tm n)) (hB : B ≤ w.heap.size) (h1 : ItemsAt w B n v1 l1) (h2 : ItemsAt w B n v2 l2) (f1 : formedL n l1 = true) (f2 : formedL n l2 = true) :
    Calls Tryz.prog 131 #[v1, v2] w (IPostC (itemsC (cmpTm n) l1 l2) w) := by
  have hE := fun h => eachW ih w B v1 v2 l1 l2 hB h1 h2 f1 f2 h
  obtain ⟨p1, c1, rfl, hc1, hm1⟩ := h1.shape
  obtain ⟨p2, c2, rfl, hc2, hm2⟩ := h2.shape
  have HE := Lib.hid hE
  have hC := fun W => cmpInt l1.length l2.length W
  have hr : itemsC (cmpTm n) l1 l2 = (if l1.length = l2.length then eachC (cmpTm n) l1 l2 else cmpI l1.length l2.length) := rfl
  rw [hr]
  clear ih h1 h2 f1 f2 hE hr
  generalize eachC (cmpTm n) l1 l2 = r at *
  unfold IPostC at HE
  by_cases h : l1.length = l2.length
  · rw [if_pos h]
    rw [cmpI_0 (by omega)] at hC
    have HH := Lib.hid (HE.out h)
    have HC := Lib.hid hC
    clear HE hC h
    generalize l1.length = a at *
    generalize l2.length = b at *
    go_enter Tryz.func131, Tryz.ntmps131
    go_wp2_with fail
    refine (HC.out _).mono ?_
    rintro e w' ⟨rfl, rfl⟩
    go_wp2_with fail
    refine HH.out.mono ?_
    rintro e w2 ⟨rfl, hb⟩
    go_wp2_with fail
    go_ret
    exact ⟨rfl, hb⟩
  · rw [if_neg h]
    have hne := cmpI_ne (a := (l1.length : Int)) (b := l2.length) (by omega)
    have HC := Lib.hid hC
    clear HE hC h
    generalize cmpI (l1.length : Int) l2.length = x at *
    have q : (x != 0) = true := by simp [hne]
    clear hne
    generalize l1.length = a at *
    generalize l2.length = b at *
    go_enter Tryz.func131, Tryz.ntmps131
    go_wp2_with fail
    refine (HC.out _).mono ?_
    rintro e w' ⟨rfl, rfl⟩
    go_wp2_with fail
    go_ret
    exact ⟨rfl, Below.refl _ _⟩

theorem lists_step {α : Type} (kd : α → Int) (c : α → α → Int) (a x : α) (l : List α) (b y : α) (m : List α) : listsC kd c (a :: x :: l) (b :: y :: m) = if c a b = 0 then listsC kd c (x :: l) (y :: m) else c a b := by
  show cellsC kd c a (x :: l) b (y :: m) = if c a b = 0 then cellsC kd c x l y m else c a b
  rw [cellsC]
/-- what one round of the loop over cells finds -/
theorem lists_at {α : Type} (kd : α → Int) (c : α → α → Int) (l m : List α) (k : Nat) (h1 : k + 1 < l.length) (h2 : k + 1 < m.length) :
    (c l[k] m[k] ≠ 0 → listsC kd c (l.drop k) (m.drop k) = c l[k] m[k]) ∧
    (c l[k] m[k] = 0 → listsC kd c (l.drop k) (m.drop k) = listsC kd c (l.drop (k + 1)) (m.drop (k + 1))) ∧
    (l.length = k + 2 → m.length = k + 2 → listsC kd c (l.drop (k + 1)) (m.drop (k + 1)) = c l[k + 1] m[k + 1]) ∧
    (l.length = k + 2 → m.length ≠ k + 2 → listsC kd c (l.drop (k + 1)) (m.drop (k + 1)) = cmpI (kd l[k + 1]) 9) ∧
    (l.length ≠ k + 2 → m.length = k + 2 → listsC kd c (l.drop (k + 1)) (m.drop (k + 1)) = cmpI 9 (kd m[k + 1])) := by
  have e1 : l.drop k = l[k] :: l.drop (k + 1) := List.drop_eq_getElem_cons (by omega)
  have e2 : m.drop k = m[k] :: m.drop (k + 1) := List.drop_eq_getElem_cons (by omega)
  have e3 : l.drop (k + 1) = l[k + 1] :: l.drop (k + 2) := List.drop_eq_getElem_cons h1
  have e4 : m.drop (k + 1) = m[k + 1] :: m.drop (k + 2) := List.drop_eq_getElem_cons h2
  refine ⟨fun h => ?_, fun h => ?_, fun ha hb => ?_, fun ha hb => ?_, fun ha hb => ?_⟩
  · rw [e1, e2, e3, e4, lists_step, if_neg h]
  · rw [e1, e2, e3, e4, lists_step, if_pos h]
  · rw [e3, e4, List.drop_of_length_le (by omega), List.drop_of_length_le (by omega)]; rfl
  · have e6 : m.drop (k + 2) = m[k + 2]'(by omega) :: m.drop (k + 3) := List.drop_eq_getElem_cons (by omega)
    rw [e3, e4, List.drop_of_length_le (by omega), e6]; rfl
  · have e6 : l.drop (k + 2) = l[k + 2]'(by omega) :: l.drop (k + 3) := List.drop_eq_getElem_cons (by omega)
    rw [e3, e4, List.drop_of_length_le (l := m) (by omega), e6]; rfl
end Go.Proofs.YtfbggmbmgohiiaaGreat.tm
