
/- The first number that is not 0. Conditions: the numbers lie in memory. -/
import Derived.Test.YtfbggmbmgohiiaaGreatTmT
namespace Go.Proofs.YtfbggmbmgohiiaaGreat.tm
open Go.RowKit mem
set_option linter.unusedVariables false
set_option linter.unusedSimpArgs false
set_option maxHeartbeats 1000000
set_option maxRecDepth 100000

def firstL : List Int → Int
  | [] => 0
  | x :: l => if x = 0 then firstL l else x
theorem first_at : ∀ (l : List Int) (k : Nat) (h : k < l.length), (∀ j, (hj : j < l.length) → j < k → l[j] = 0) → l[k] ≠ 0 → firstL l = l[k]
  | x :: l, 0, h, _, hn => by
    unfold firstL
    rw [if_neg (by simpa using hn)]; rfl
  | x :: l, k + 1, h, ha, hn => by
    unfold firstL
    have h0 : x = 0 := ha 0 (by simp) (by omega)
    rw [if_pos h0, first_at l k (by simpa using h) (fun j hj hk => ha (j + 1) (by simpa using hj) (by omega)) (by simpa using hn)]; rfl
theorem first_zero : ∀ (l : List Int), (∀ j, (hj : j < l.length) → l[j] = 0) → firstL l = 0
  | [], _ => rfl
  | x :: l, h => by
    unfold firstL
    have h0 : x = 0 := h 0 (by simp)
    rw [if_pos h0, first_zero l (fun j hj => h (j + 1) (by simpa using hj))]
theorem firstOr (w : World) (g : Nat) (l : List Int) (c : Nat) (hc : l.length ≤ 1000) (hcell : ∀ j, (h : j < l.length) → w.cell? ⟨g, j, none⟩ = some (.int .i64 l[j])) :
    Calls Tryz.prog 134 #[.slice (some ⟨g, 0, none⟩) l.length c] w fun e w' => e = .returned (.int .i64 (firstL l)) ∧ w = w' := by
  have HC := Lib.hid hcell
  clear hcell
  go_enter Tryz.func134, Tryz.ntmps134
  go_wp2_with fail
  go_loop [8] (fun i => ∃ k : Nat, i = .int .i64 k ∧ k ≤ l.length ∧ Hid (∀ j, (h : j < l.length) → j < k → l[j] = 0)) (fun i => l.length - (intOf i).toNat)
  case atStart => exact ⟨0, rfl, by omega, Lib.hid (fun j h hk => by omega)⟩
  case round =>
    obtain ⟨k, rfl, hk, HA⟩ := hrel
    by_cases hlt : k < l.length
    · have hcl := HC.out k hlt
      have HAt := Lib.hid (first_at l k hlt HA.out)
      have HA2 : Hid (l[k] = 0 → ∀ j, (h : j < l.length) → j < k + 1 → l[j] = 0) := Lib.hid (fun e j h hj => by
        by_cases e2 : j = k
        · subst e2; exact e
        · exact HA.out j h (by omega))
      generalize l[k] = x at *
      by_cases hx : x = 0
      · subst hx
        have H2 := Lib.hid (HA2.out rfl)
        clear HAt HA2
        go_wp2_with fail
        go_round
        case rel => exact ⟨k + 1, by go_num, by omega, H2⟩
        case measure => simp [intOf]; omega
      · have q : (x != 0) = true := by simp [hx]
        have HF := Lib.hid (HAt.out hx)
        clear HAt HA2 hx
        go_wp2_with fail
        go_ret
        exact ⟨ret1i HF.out.symm, rfl⟩
    · have HF := Lib.hid (first_zero l (fun j hj => HA.out j hj (by omega)))
      go_wp2_with fail
      go_ret
      exact ⟨ret1i HF.out.symm, rfl⟩
theorem firstRef (w : World) (g : Nat) (l : List Int) (c : Nat) (hc : l.length ≤ 1000) (hcell : ∀ j, (h : j < l.length) → w.cell? ⟨g, j, none⟩ = some (.int .i64 l[j])) :
    Calls Tryz.prog 110 #[.slice (some ⟨g, 0, none⟩) l.length c] w fun e w' => e = .returned (.int .i64 (firstL l)) ∧ w = w' := by
  have HC := Lib.hid hcell
  clear hcell
  go_enter Tryz.func110, Tryz.ntmps110
  go_wp2_with fail
  go_loop [3] (fun i => ∃ k : Nat, i = .int .i64 k ∧ k ≤ l.length ∧ Hid (∀ j, (h : j < l.length) → j < k → l[j] = 0)) (fun i => l.length - (intOf i).toNat)
  case atStart => exact ⟨0, rfl, by omega, Lib.hid (fun j h hk => by omega)⟩
  case round =>
    obtain ⟨k, rfl, hk, HA⟩ := hrel
    by_cases hlt : k < l.length
    · have hcl := HC.out k hlt
      have HAt := Lib.hid (first_at l k hlt HA.out)
      have HA2 : Hid (l[k] = 0 → ∀ j, (h : j < l.length) → j < k + 1 → l[j] = 0) := Lib.hid (fun e j h hj => by
        by_cases e2 : j = k
        · subst e2; exact e
        · exact HA.out j h (by omega))
      generalize l[k] = x at *
      by_cases hx : x = 0
      · subst hx
        have H2 := Lib.hid (HA2.out rfl)
        clear HAt HA2
        go_wp2_with fail
        go_round
        case rel => exact ⟨k + 1, by go_num, by omega, H2⟩
        case measure => simp [intOf]; omega
      · have q : (x != 0) = true := by simp [hx]
        have HF := Lib.hid (HAt.out hx)
        clear HAt HA2 hx
        go_wp2_with fail
        go_ret
        exact ⟨ret1i HF.out.symm, rfl⟩
    · have HF := Lib.hid (first_zero l (fun j hj => HA.out j hj (by omega)))
      go_wp2_with fail
      go_ret
      exact ⟨ret1i HF.out.symm, rfl⟩

/-! ### the order of terms -/
def eachC {α : Type} (c : α → α → Int) : List α → List α → Int
  | a :: l, b :: m => if c a b = 0 then eachC c l m else c a b
  | _, _ => 0
def itemsC {α : Type} (c : α → α → Int) (l m : List α) : Int := if l.length = m.length then eachC c l m else cmpI l.length m.length
/-- two lists, cell by cell: l and m are what follows a and b -/
def cellsC {α : Type} (kd : α → Int) (c : α → α → Int) : α → List α → α → List α → Int
  | a, [], b, [] => c a b
  | a, [], _, _ :: _ => cmpI (kd a) 9
  | _, _ :: _, b, [] => cmpI 9 (kd b)
  | a, x :: l, b, y :: m => if c a b = 0 then cellsC kd c x l y m else c a b
def listsC {α : Type} (kd : α → Int) (c : α → α → Int) : List α → List α → Int
  | a :: l, b :: m => cellsC kd c a l b m
  | _, _ => 0
end Go.Proofs.YtfbggmbmgohiiaaGreat.tm
