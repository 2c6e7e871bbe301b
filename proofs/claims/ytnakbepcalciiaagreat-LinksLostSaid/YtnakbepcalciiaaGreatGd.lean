/- Several texts in one, one behind the other: TmU, TmF, TmG. No condition beyond theirs. -/
import Derived.Test.YtnakbepcalciiaaGreatGc
import Derived.Test.YtnakbepcalciiaaGreatGb

/- The first number that is not 0. Conditions: the numbers lie in memory. -/
namespace Go.Proofs.YtnakbepcalciiaaGreat.tm
open Go.RowKit mem
set_option linter.unusedVariables false
set_option linter.unusedSimpArgs false
set_option maxHeartbeats 1000000
set_option maxRecDepth 100000

def firstL : List Int → Int
  | [] => 0
  | x :: l => if x = 0 then firstL l else x
theorem first_at : ∀ (l : List Int) (k : Nat) (h : k < l.length), (∀ j, (hj : j < l.length) → j < k → l[j] = 0) → l[k] ≠ 0 → firstL l = l[k]
  | x :: l, 0, h, _, hn => by
    unfold firstL
    rw [if_neg (by simpa using hn)]; rfl
  | x :: l, k + 1, h, ha, hn => by
    unfold firstL
    have h0 : x = 0 := ha 0 (by simp) (by omega)
    rw [if_pos h0, first_at l k (by simpa using h) (fun j hj hk => ha (j + 1) (by simpa using hj) (by omega)) (by simpa using hn)]; rfl
theorem first_zero : ∀ (l : List Int), (∀ j, (hj : j < l.length) → l[j] = 0) → firstL l = 0
  | [], _ => rfl
  | x :: l, h => by
    unfold firstL
    have h0 : x = 0 := h 0 (by simp)
    rw [if_pos h0, first_zero l (fun j hj => h (j + 1) (by simpa using hj))]
theorem firstOr (w : World) (g : Nat) (l : List Int) (c : Nat) (hc : l.length ≤ 1000) (hcell : ∀ j, (h : j < l.length) → w.cell? ⟨g, j, none⟩ = some (.int .i64 l[j])) :
    Calls Tryz.prog 234 #[.slice (some ⟨g, 0, none⟩) l.length c] w fun e w' => e = .returned (.int .i64 (firstL l)) ∧ w = w' := by
  have HC := Lib.hid hcell
  clear hcell
  go_enter Tryz.func234, Tryz.ntmps234
  go_wp2_with fail
  go_loop [8] (fun i => ∃ k : Nat, i = .int .i64 k ∧ k ≤ l.length ∧ Hid (∀ j, (h : j < l.length) → j < k → l[j] = 0)) (fun i => l.length - (intOf i).toNat)
  case atStart => exact ⟨0, rfl, by omega, Lib.hid (fun j h hk => by omega)⟩
  case round =>
    obtain ⟨k, rfl, hk, HA⟩ := hrel
    by_cases hlt : k < l.length
    · have hcl := HC.out k hlt
      have HAt := Lib.hid (first_at l k hlt HA.out)
      have HA2 : Hid (l[k] = 0 → ∀ j, (h : j < l.length) → j < k + 1 → l[j] = 0) := Lib.hid (fun e j h hj => by
        by_cases e2 : j = k
        · subst e2; exact e
        · exact HA.out j h (by omega))
      generalize l[k] = x at *
      by_cases hx : x = 0
      · subst hx
        have H2 := Lib.hid (HA2.out rfl)
        clear HAt HA2
        go_wp2_with fail
        go_round
        case rel => exact ⟨k + 1, by go_num, by omega, H2⟩
        case measure => simp [intOf]; omega
      · have q : (x != 0) = true := by simp [hx]
        have HF := Lib.hid (HAt.out hx)
        clear HAt HA2 hx
        go_wp2_with fail
        go_ret
        exact ⟨ret1i HF.out.symm, rfl⟩
    · have HF := Lib.hid (first_zero l (fun j hj => HA.out j hj (by omega)))
      go_wp2_with fail
      go_ret
      exact ⟨ret1i HF.out.symm, rfl⟩
theorem firstRef (w : World) (g : Nat) (l : List Int) (c : Nat) (hc : l.length ≤ 1000) (hcell : ∀ j, (h : j < l.length) → w.cell? ⟨g, j, none⟩ = some (.int .i64 l[j])) :
    Calls Tryz.prog 185 #[.slice (some ⟨g, 0, none⟩) l.length c] w fun e w' => e = .returned (.int .i64 (firstL l)) ∧ w = w' := by
  have HC := Lib.hid hcell
  clear hcell
  go_enter Tryz.func185, Tryz.ntmps185
  go_wp2_with fail
  go_loop [3] (fun i => ∃ k : Nat, i = .int .i64 k ∧ k ≤ l.length ∧ Hid (∀ j, (h : j < l.length) → j < k → l[j] = 0)) (fun i => l.length - (intOf i).toNat)
  case atStart => exact ⟨0, rfl, by omega, Lib.hid (fun j h hk => by omega)⟩
  case round =>
    obtain ⟨k, rfl, hk, HA⟩ := hrel
    by_cases hlt : k < l.length
    · have hcl := HC.out k hlt
      have HAt := Lib.hid (first_at l k hlt HA.out)
      have HA2 : Hid (l[k] = 0 → ∀ j, (h : j < l.length) → j < k + 1 → l[j] = 0) := Lib.hid (fun e j h hj => by
        by_cases e2 : j = k
        · subst e2; exact e
        · exact HA.out j h (by omega))
      generalize l[k] = x at *
      by_cases hx : x = 0
      · subst hx
        have H2 := Lib.hid (HA2.out rfl)
        clear HAt HA2
        go_wp2_with fail
        go_round
        case rel => exact ⟨k + 1, by go_num, by omega, H2⟩
        case measure => simp [intOf]; omega
      · have q : (x != 0) = true := by simp [hx]
        have HF := Lib.hid (HAt.out hx)
        clear HAt HA2 hx
        go_wp2_with fail
        go_ret
        exact ⟨ret1i HF.out.symm, rfl⟩
    · have HF := Lib.hid (first_zero l (fun j hj => HA.out j hj (by omega)))
      go_wp2_with fail
      go_ret
      exact ⟨ret1i HF.out.symm, rfl⟩

/-! ### the order of terms -/
def eachC {α : Type} (c : α → α → Int) : List α → List α → Int
  | a :: l, b :: m => if c a b = 0 then eachC c l m else c a b
  | _, _ => 0
def itemsC {α : Type} (c : α → α → Int) (l m : List α) : Int := if l.length = m.length then eachC c l m else cmpI l.length m.length
/-- two lists, cell by cell: l and m are what follows a and b -/
def cellsC {α : Type} (kd : α → Int) (c : α → α → Int) : α → List α → α → List α → Int
  | a, [], b, [] => c a b
  | a, [], _, _ :: _ => cmpI (kd a) 9
  | _, _ :: _, b, [] => cmpI 9 (kd b)
  | a, x :: l, b, y :: m => if c a b = 0 then cellsC kd c x l y m else c a b
def listsC {α : Type} (kd : α → Int) (c : α → α → Int) : List α → List α → Int
  | a :: l, b :: m => cellsC kd c a l b m
  | _, _ => 0
end Go.Proofs.YtnakbepcalciiaaGreat.tm

/- terms: the functions of each kind. Conditions: none but the sizes that Go allows. -/
namespace Go.Proofs.YtnakbepcalciiaaGreat.tm
open Go.RowKit mem names
set_option linter.unusedVariables false
set_option linter.unusedSimpArgs false
set_option maxHeartbeats 1000000
set_option maxRecDepth 100000
theorem kind0 (i g : Int) (nm fn : ByteArray) (ar : Int) (by_ : ByteArray) (bt : Int) (p : Option Addr) (n c : Nat) (last : Int) (w : World) (hn : n ≤ c) (hc : c ≤ 9223372036854775807) : Calls Tryz.prog 256 #[aggV ⟨0, i, g, nm, fn, ar, by_, bt⟩ (.slice p n c)] w (KPost ⟨0, i, g, nm, fn, ar, by_, bt⟩ (.slice p n c) n last w) := by
  have hb : bareF ⟨0, i, g, nm, fn, ar, by_, bt⟩ = ⟨0, i, g, nm, fn, ar, by_, bt⟩ := by simp [bareF]
  have hv : bareV ⟨0, i, g, nm, fn, ar, by_, bt⟩ (.slice p n c) = Value.slice p n c := by simp [bareV, nilV]
  have ho : okF ⟨0, i, g, nm, fn, ar, by_, bt⟩ n last = (false) := by simp [okF]
  unfold KPost
  rw [hb, hv, ho]
  unfold aggV
  dsimp only
  clear hb hv ho
  go_enter Tryz.func256, Tryz.ntmps256
  go_wp2_with fail
  exact bodyPost_ret (v := (.tuple #[.agg #[.int .i64 0, .int .i64 i, .int .i64 g, .string nm, .string fn, .int .i64 ar, Value.slice p n c, .string by_, .int .i64 bt], .bool false])) (by simp [results, Tryz.results256, go_sem, *]) rfl ⟨by simp, by (repeat' (first | with_reducible exact hb | with_reducible exact Below.refl _ _ | with_reducible exact Nat.le_refl _ | with_reducible refine Below.setCell ?_ ?_ _ | with_reducible refine Below.alloc ?_ ?_ _ | (simp; done) | (simp; omega)))⟩
theorem kindInt (i g : Int) (nm fn : ByteArray) (ar : Int) (by_ : ByteArray) (bt : Int) (p : Option Addr) (n c : Nat) (last : Int) (w : World) (hn : n ≤ c) (hc : c ≤ 9223372036854775807) : Calls Tryz.prog 257 #[aggV ⟨1, i, g, nm, fn, ar, by_, bt⟩ (.slice p n c)] w (KPost ⟨1, i, g, nm, fn, ar, by_, bt⟩ (.slice p n c) n last w) := by
  have hb : bareF ⟨1, i, g, nm, fn, ar, by_, bt⟩ = ⟨1, 0, g, nm, fn, ar, by_, bt⟩ := by simp [bareF]
  have hv : bareV ⟨1, i, g, nm, fn, ar, by_, bt⟩ (.slice p n c) = Value.slice p n c := by simp [bareV, nilV]
  have ho : okF ⟨1, i, g, nm, fn, ar, by_, bt⟩ n last = (true) := by simp [okF]
  unfold KPost
  rw [hb, hv, ho]
  unfold aggV
  dsimp only
  clear hb hv ho
  go_enter Tryz.func257, Tryz.ntmps257
  go_wp2_with fail
  exact bodyPost_ret (v := (.tuple #[.agg #[.int .i64 1, .int .i64 0, .int .i64 g, .string nm, .string fn, .int .i64 ar, Value.slice p n c, .string by_, .int .i64 bt], .bool true])) (by simp [results, Tryz.results257, go_sem, *]) rfl ⟨by simp, by (repeat' (first | with_reducible exact hb | with_reducible exact Below.refl _ _ | with_reducible exact Nat.le_refl _ | with_reducible refine Below.setCell ?_ ?_ _ | with_reducible refine Below.alloc ?_ ?_ _ | (simp; done) | (simp; omega)))⟩
theorem kindAtom (i g : Int) (nm fn : ByteArray) (ar : Int) (by_ : ByteArray) (bt : Int) (p : Option Addr) (n c : Nat) (last : Int) (w : World) (hn : n ≤ c) (hc : c ≤ 9223372036854775807) : Calls Tryz.prog 258 #[aggV ⟨2, i, g, nm, fn, ar, by_, bt⟩ (.slice p n c)] w (KPost ⟨2, i, g, nm, fn, ar, by_, bt⟩ (.slice p n c) n last w) := by
  have hb : bareF ⟨2, i, g, nm, fn, ar, by_, bt⟩ = ⟨2, i, g, ⟨#[]⟩, fn, ar, by_, bt⟩ := by simp [bareF]
  have hv : bareV ⟨2, i, g, nm, fn, ar, by_, bt⟩ (.slice p n c) = Value.slice p n c := by simp [bareV, nilV]
  have ho : okF ⟨2, i, g, nm, fn, ar, by_, bt⟩ n last = (vName nm) := by simp [okF]
  unfold KPost
  rw [hb, hv, ho]
  unfold aggV
  dsimp only
  clear hb hv ho
  by_cases h0 : (vName nm) = true
  · have hV0 := fun W => Valid nm W
    rw [h0] at hV0
    rw [h0]
    go_enter Tryz.func258, Tryz.ntmps258
    go_wp2_with fail
    refine (hV0 _).mono ?_
    rintro e w1 ⟨rfl, hb1⟩
    have hz : w.heap.size + 1 < w1.heap.size := by have := hb1.size; simp at this; omega
    obtain ⟨hA, hR, hb⟩ := two_box (f := ⟨2, i, g, nm, fn, ar, by_, bt⟩) (v := .slice p n c) hb1
    have HA := Lib.hid hA
    have HR := Lib.hid hR
    obtain ⟨a0, a1, a2, a3, a4, a5, a6, a7, a8, az⟩ := hA
    obtain ⟨r0, r1, r2, r3, r4, r5, r6, r7, r8, rz⟩ := hR
    clear hb1
    dsimp only [zeroF, nilV] at a0 a1 a2 a3 a4 a5 a6 a7 a8 r0 r1 r2 r3 r4 r5 r6 r7 r8
    go_wp2_with fail
    exact bodyPost_ret (v := (.tuple #[.agg #[.int .i64 2, .int .i64 i, .int .i64 g, .string ⟨#[]⟩, .string fn, .int .i64 ar, Value.slice p n c, .string by_, .int .i64 bt], .bool true])) (by simp [results, Tryz.results258, go_sem, *]) rfl ⟨by simp, by (repeat' (first | with_reducible exact hb | with_reducible exact Below.refl _ _ | with_reducible exact Nat.le_refl _ | with_reducible refine Below.setCell ?_ ?_ _ | with_reducible refine Below.alloc ?_ ?_ _ | (simp; done) | (simp; omega)))⟩
  · have h0 : (vName nm) = false := by simpa using h0
    have hV0 := fun W => Valid nm W
    rw [h0] at hV0
    rw [h0]
    go_enter Tryz.func258, Tryz.ntmps258
    go_wp2_with fail
    refine (hV0 _).mono ?_
    rintro e w1 ⟨rfl, hb1⟩
    have hz : w.heap.size + 1 < w1.heap.size := by have := hb1.size; simp at this; omega
    obtain ⟨hA, hR, hb⟩ := two_box (f := ⟨2, i, g, nm, fn, ar, by_, bt⟩) (v := .slice p n c) hb1
    have HA := Lib.hid hA
    have HR := Lib.hid hR
    obtain ⟨a0, a1, a2, a3, a4, a5, a6, a7, a8, az⟩ := hA
    obtain ⟨r0, r1, r2, r3, r4, r5, r6, r7, r8, rz⟩ := hR
    clear hb1
    dsimp only [zeroF, nilV] at a0 a1 a2 a3 a4 a5 a6 a7 a8 r0 r1 r2 r3 r4 r5 r6 r7 r8
    go_wp2_with fail
    exact bodyPost_ret (v := (.tuple #[.agg #[.int .i64 2, .int .i64 i, .int .i64 g, .string ⟨#[]⟩, .string fn, .int .i64 ar, Value.slice p n c, .string by_, .int .i64 bt], .bool false])) (by simp [results, Tryz.results258, go_sem, *]) rfl ⟨by simp, by (repeat' (first | with_reducible exact hb | with_reducible exact Below.refl _ _ | with_reducible exact Nat.le_refl _ | with_reducible refine Below.setCell ?_ ?_ _ | with_reducible refine Below.alloc ?_ ?_ _ | (simp; done) | (simp; omega)))⟩
theorem kindRef (i g : Int) (nm fn : ByteArray) (ar : Int) (by_ : ByteArray) (bt : Int) (p : Option Addr) (n c : Nat) (last : Int) (w : World) (hn : n ≤ c) (hc : c ≤ 9223372036854775807) : Calls Tryz.prog 254 #[aggV ⟨3, i, g, nm, fn, ar, by_, bt⟩ (.slice p n c)] w (KPost ⟨3, i, g, nm, fn, ar, by_, bt⟩ (.slice p n c) n last w) := by
  have hb : bareF ⟨3, i, g, nm, fn, ar, by_, bt⟩ = ⟨3, 0, 0, ⟨#[]⟩, fn, ar, by_, bt⟩ := by simp [bareF]
  have hv : bareV ⟨3, i, g, nm, fn, ar, by_, bt⟩ (.slice p n c) = Value.slice p n c := by simp [bareV, nilV]
  have ho : okF ⟨3, i, g, nm, fn, ar, by_, bt⟩ n last = (inB i 1 2147483647 && (inB g 1 2147483647 && (vName nm))) := by simp [okF]
  unfold KPost
  rw [hb, hv, ho]
  unfold aggV
  dsimp only
  clear hb hv ho
  by_cases h0 : (inB i 1 2147483647) = true
  · by_cases h1 : (inB g 1 2147483647) = true
    · by_cases h2 : (vName nm) = true
      · have hw0 := fun W => within i 1 2147483647 W
        rw [h0] at hw0
        have hw1 := fun W => within g 1 2147483647 W
        rw [h1] at hw1
        have hV2 := fun W => Valid nm W
        rw [h2] at hV2
        rw [h0, h1, h2]
        go_enter Tryz.func254, Tryz.ntmps254
        go_wp2_with fail
        refine (hw0 _).mono ?_
        rintro e w' ⟨rfl, rfl⟩
        go_wp2_with fail
        refine (hw1 _).mono ?_
        rintro e w' ⟨rfl, rfl⟩
        go_wp2_with fail
        refine (hV2 _).mono ?_
        rintro e w1 ⟨rfl, hb1⟩
        have hz : w.heap.size + 1 < w1.heap.size := by have := hb1.size; simp at this; omega
        obtain ⟨hA, hR, hb⟩ := two_box (f := ⟨3, i, g, nm, fn, ar, by_, bt⟩) (v := .slice p n c) hb1
        have HA := Lib.hid hA
        have HR := Lib.hid hR
        obtain ⟨a0, a1, a2, a3, a4, a5, a6, a7, a8, az⟩ := hA
        obtain ⟨r0, r1, r2, r3, r4, r5, r6, r7, r8, rz⟩ := hR
        clear hb1
        dsimp only [zeroF, nilV] at a0 a1 a2 a3 a4 a5 a6 a7 a8 r0 r1 r2 r3 r4 r5 r6 r7 r8
        go_wp2_with fail
        exact bodyPost_ret (v := (.tuple #[.agg #[.int .i64 3, .int .i64 0, .int .i64 0, .string ⟨#[]⟩, .string fn, .int .i64 ar, Value.slice p n c, .string by_, .int .i64 bt], .bool true])) (by simp [results, Tryz.results254, go_sem, *]) rfl ⟨by simp, by (repeat' (first | with_reducible exact hb | with_reducible exact Below.refl _ _ | with_reducible exact Nat.le_refl _ | with_reducible refine Below.setCell ?_ ?_ _ | with_reducible refine Below.alloc ?_ ?_ _ | (simp; done) | (simp; omega)))⟩
      · have h2 : (vName nm) = false := by simpa using h2
        have hw0 := fun W => within i 1 2147483647 W
        rw [h0] at hw0
        have hw1 := fun W => within g 1 2147483647 W
        rw [h1] at hw1
        have hV2 := fun W => Valid nm W
        rw [h2] at hV2
        rw [h0, h1, h2]
        go_enter Tryz.func254, Tryz.ntmps254
        go_wp2_with fail
        refine (hw0 _).mono ?_
        rintro e w' ⟨rfl, rfl⟩
        go_wp2_with fail
        refine (hw1 _).mono ?_
        rintro e w' ⟨rfl, rfl⟩
        go_wp2_with fail
        refine (hV2 _).mono ?_
        rintro e w1 ⟨rfl, hb1⟩
        have hz : w.heap.size + 1 < w1.heap.size := by have := hb1.size; simp at this; omega
        obtain ⟨hA, hR, hb⟩ := two_box (f := ⟨3, i, g, nm, fn, ar, by_, bt⟩) (v := .slice p n c) hb1
        have HA := Lib.hid hA
        have HR := Lib.hid hR
        obtain ⟨a0, a1, a2, a3, a4, a5, a6, a7, a8, az⟩ := hA
        obtain ⟨r0, r1, r2, r3, r4, r5, r6, r7, r8, rz⟩ := hR
        clear hb1
        dsimp only [zeroF, nilV] at a0 a1 a2 a3 a4 a5 a6 a7 a8 r0 r1 r2 r3 r4 r5 r6 r7 r8
        go_wp2_with fail
        exact bodyPost_ret (v := (.tuple #[.agg #[.int .i64 3, .int .i64 0, .int .i64 0, .string ⟨#[]⟩, .string fn, .int .i64 ar, Value.slice p n c, .string by_, .int .i64 bt], .bool false])) (by simp [results, Tryz.results254, go_sem, *]) rfl ⟨by simp, by (repeat' (first | with_reducible exact hb | with_reducible exact Below.refl _ _ | with_reducible exact Nat.le_refl _ | with_reducible refine Below.setCell ?_ ?_ _ | with_reducible refine Below.alloc ?_ ?_ _ | (simp; done) | (simp; omega)))⟩
    · have h1 : (inB g 1 2147483647) = false := by simpa using h1
      have hw0 := fun W => within i 1 2147483647 W
      rw [h0] at hw0
      have hw1 := fun W => within g 1 2147483647 W
      rw [h1] at hw1
      rw [h0, h1]
      go_enter Tryz.func254, Tryz.ntmps254
      go_wp2_with fail
      refine (hw0 _).mono ?_
      rintro e w' ⟨rfl, rfl⟩
      go_wp2_with fail
      refine (hw1 _).mono ?_
      rintro e w' ⟨rfl, rfl⟩
      go_wp2_with fail
      exact bodyPost_ret (v := (.tuple #[.agg #[.int .i64 3, .int .i64 0, .int .i64 0, .string ⟨#[]⟩, .string fn, .int .i64 ar, Value.slice p n c, .string by_, .int .i64 bt], .bool false])) (by simp [results, Tryz.results254, go_sem, *]) rfl ⟨by simp, by (repeat' (first | with_reducible exact hb | with_reducible exact Below.refl _ _ | with_reducible exact Nat.le_refl _ | with_reducible refine Below.setCell ?_ ?_ _ | with_reducible refine Below.alloc ?_ ?_ _ | (simp; done) | (simp; omega)))⟩
  · have h0 : (inB i 1 2147483647) = false := by simpa using h0
    have hw0 := fun W => within i 1 2147483647 W
    rw [h0] at hw0
    rw [h0]
    go_enter Tryz.func254, Tryz.ntmps254
    go_wp2_with fail
    refine (hw0 _).mono ?_
    rintro e w' ⟨rfl, rfl⟩
    go_wp2_with fail
    exact bodyPost_ret (v := (.tuple #[.agg #[.int .i64 3, .int .i64 0, .int .i64 0, .string ⟨#[]⟩, .string fn, .int .i64 ar, Value.slice p n c, .string by_, .int .i64 bt], .bool false])) (by simp [results, Tryz.results254, go_sem, *]) rfl ⟨by simp, by (repeat' (first | with_reducible exact hb | with_reducible exact Below.refl _ _ | with_reducible exact Nat.le_refl _ | with_reducible refine Below.setCell ?_ ?_ _ | with_reducible refine Below.alloc ?_ ?_ _ | (simp; done) | (simp; omega)))⟩
theorem kindPid (i g : Int) (nm fn : ByteArray) (ar : Int) (by_ : ByteArray) (bt : Int) (p : Option Addr) (n c : Nat) (last : Int) (w : World) (hn : n ≤ c) (hc : c ≤ 9223372036854775807) : Calls Tryz.prog 254 #[aggV ⟨6, i, g, nm, fn, ar, by_, bt⟩ (.slice p n c)] w (KPost ⟨6, i, g, nm, fn, ar, by_, bt⟩ (.slice p n c) n last w) := by
  have hb : bareF ⟨6, i, g, nm, fn, ar, by_, bt⟩ = ⟨6, 0, 0, ⟨#[]⟩, fn, ar, by_, bt⟩ := by simp [bareF]
  have hv : bareV ⟨6, i, g, nm, fn, ar, by_, bt⟩ (.slice p n c) = Value.slice p n c := by simp [bareV, nilV]
  have ho : okF ⟨6, i, g, nm, fn, ar, by_, bt⟩ n last = (inB i 1 2147483647 && (inB g 1 2147483647 && (vName nm))) := by simp [okF]
  unfold KPost
  rw [hb, hv, ho]
  unfold aggV
  dsimp only
  clear hb hv ho
  by_cases h0 : (inB i 1 2147483647) = true
  · by_cases h1 : (inB g 1 2147483647) = true
    · by_cases h2 : (vName nm) = true
      · have hw0 := fun W => within i 1 2147483647 W
        rw [h0] at hw0
        have hw1 := fun W => within g 1 2147483647 W
        rw [h1] at hw1
        have hV2 := fun W => Valid nm W
        rw [h2] at hV2
        rw [h0, h1, h2]
        go_enter Tryz.func254, Tryz.ntmps254
        go_wp2_with fail
        refine (hw0 _).mono ?_
        rintro e w' ⟨rfl, rfl⟩
        go_wp2_with fail
        refine (hw1 _).mono ?_
        rintro e w' ⟨rfl, rfl⟩
        go_wp2_with fail
        refine (hV2 _).mono ?_
        rintro e w1 ⟨rfl, hb1⟩
        have hz : w.heap.size + 1 < w1.heap.size := by have := hb1.size; simp at this; omega
        obtain ⟨hA, hR, hb⟩ := two_box (f := ⟨6, i, g, nm, fn, ar, by_, bt⟩) (v := .slice p n c) hb1
        have HA := Lib.hid hA
        have HR := Lib.hid hR
        obtain ⟨a0, a1, a2, a3, a4, a5, a6, a7, a8, az⟩ := hA
        obtain ⟨r0, r1, r2, r3, r4, r5, r6, r7, r8, rz⟩ := hR
        clear hb1
        dsimp only [zeroF, nilV] at a0 a1 a2 a3 a4 a5 a6 a7 a8 r0 r1 r2 r3 r4 r5 r6 r7 r8
        go_wp2_with fail
        exact bodyPost_ret (v := (.tuple #[.agg #[.int .i64 6, .int .i64 0, .int .i64 0, .string ⟨#[]⟩, .string fn, .int .i64 ar, Value.slice p n c, .string by_, .int .i64 bt], .bool true])) (by simp [results, Tryz.results254, go_sem, *]) rfl ⟨by simp, by (repeat' (first | with_reducible exact hb | with_reducible exact Below.refl _ _ | with_reducible exact Nat.le_refl _ | with_reducible refine Below.setCell ?_ ?_ _ | with_reducible refine Below.alloc ?_ ?_ _ | (simp; done) | (simp; omega)))⟩
      · have h2 : (vName nm) = false := by simpa using h2
        have hw0 := fun W => within i 1 2147483647 W
        rw [h0] at hw0
        have hw1 := fun W => within g 1 2147483647 W
        rw [h1] at hw1
        have hV2 := fun W => Valid nm W
        rw [h2] at hV2
        rw [h0, h1, h2]
        go_enter Tryz.func254, Tryz.ntmps254
        go_wp2_with fail
        refine (hw0 _).mono ?_
        rintro e w' ⟨rfl, rfl⟩
        go_wp2_with fail
        refine (hw1 _).mono ?_
        rintro e w' ⟨rfl, rfl⟩
        go_wp2_with fail
        refine (hV2 _).mono ?_
        rintro e w1 ⟨rfl, hb1⟩
        have hz : w.heap.size + 1 < w1.heap.size := by have := hb1.size; simp at this; omega
        obtain ⟨hA, hR, hb⟩ := two_box (f := ⟨6, i, g, nm, fn, ar, by_, bt⟩) (v := .slice p n c) hb1
        have HA := Lib.hid hA
        have HR := Lib.hid hR
        obtain ⟨a0, a1, a2, a3, a4, a5, a6, a7, a8, az⟩ := hA
        obtain ⟨r0, r1, r2, r3, r4, r5, r6, r7, r8, rz⟩ := hR
        clear hb1
        dsimp only [zeroF, nilV] at a0 a1 a2 a3 a4 a5 a6 a7 a8 r0 r1 r2 r3 r4 r5 r6 r7 r8
        go_wp2_with fail
        exact bodyPost_ret (v := (.tuple #[.agg #[.int .i64 6, .int .i64 0, .int .i64 0, .string ⟨#[]⟩, .string fn, .int .i64 ar, Value.slice p n c, .string by_, .int .i64 bt], .bool false])) (by simp [results, Tryz.results254, go_sem, *]) rfl ⟨by simp, by (repeat' (first | with_reducible exact hb | with_reducible exact Below.refl _ _ | with_reducible exact Nat.le_refl _ | with_reducible refine Below.setCell ?_ ?_ _ | with_reducible refine Below.alloc ?_ ?_ _ | (simp; done) | (simp; omega)))⟩
    · have h1 : (inB g 1 2147483647) = false := by simpa using h1
      have hw0 := fun W => within i 1 2147483647 W
      rw [h0] at hw0
      have hw1 := fun W => within g 1 2147483647 W
      rw [h1] at hw1
      rw [h0, h1]
      go_enter Tryz.func254, Tryz.ntmps254
      go_wp2_with fail
      refine (hw0 _).mono ?_
      rintro e w' ⟨rfl, rfl⟩
      go_wp2_with fail
      refine (hw1 _).mono ?_
      rintro e w' ⟨rfl, rfl⟩
      go_wp2_with fail
      exact bodyPost_ret (v := (.tuple #[.agg #[.int .i64 6, .int .i64 0, .int .i64 0, .string ⟨#[]⟩, .string fn, .int .i64 ar, Value.slice p n c, .string by_, .int .i64 bt], .bool false])) (by simp [results, Tryz.results254, go_sem, *]) rfl ⟨by simp, by (repeat' (first | with_reducible exact hb | with_reducible exact Below.refl _ _ | with_reducible exact Nat.le_refl _ | with_reducible refine Below.setCell ?_ ?_ _ | with_reducible refine Below.alloc ?_ ?_ _ | (simp; done) | (simp; omega)))⟩
  · have h0 : (inB i 1 2147483647) = false := by simpa using h0
    have hw0 := fun W => within i 1 2147483647 W
    rw [h0] at hw0
    rw [h0]
    go_enter Tryz.func254, Tryz.ntmps254
    go_wp2_with fail
    refine (hw0 _).mono ?_
    rintro e w' ⟨rfl, rfl⟩
    go_wp2_with fail
    exact bodyPost_ret (v := (.tuple #[.agg #[.int .i64 6, .int .i64 0, .int .i64 0, .string ⟨#[]⟩, .string fn, .int .i64 ar, Value.slice p n c, .string by_, .int .i64 bt], .bool false])) (by simp [results, Tryz.results254, go_sem, *]) rfl ⟨by simp, by (repeat' (first | with_reducible exact hb | with_reducible exact Below.refl _ _ | with_reducible exact Nat.le_refl _ | with_reducible refine Below.setCell ?_ ?_ _ | with_reducible refine Below.alloc ?_ ?_ _ | (simp; done) | (simp; omega)))⟩
theorem kindClosure (i g : Int) (nm fn : ByteArray) (ar : Int) (by_ : ByteArray) (bt : Int) (p : Option Addr) (n c : Nat) (last : Int) (w : World) (hn : n ≤ c) (hc : c ≤ 9223372036854775807) : Calls Tryz.prog 259 #[aggV ⟨4, i, g, nm, fn, ar, by_, bt⟩ (.slice p n c)] w (KPost ⟨4, i, g, nm, fn, ar, by_, bt⟩ (.slice p n c) n last w) := by
  have hb : bareF ⟨4, i, g, nm, fn, ar, by_, bt⟩ = ⟨4, 0, 0, ⟨#[]⟩, fn, 0, by_, bt⟩ := by simp [bareF]
  have hv : bareV ⟨4, i, g, nm, fn, ar, by_, bt⟩ (.slice p n c) = Value.slice none 0 0 := by simp [bareV, nilV]
  have ho : okF ⟨4, i, g, nm, fn, ar, by_, bt⟩ n last = (inB i 0 999 && (inB g 1 2147483647 && (vName nm && (inB ar 0 16 && (decide (n ≤ 200)))))) := by simp [okF]
  unfold KPost
  rw [hb, hv, ho]
  unfold aggV
  dsimp only
  clear hb hv ho
  by_cases h0 : (inB i 0 999) = true
  · by_cases h1 : (inB g 1 2147483647) = true
    · by_cases h2 : (vName nm) = true
      · by_cases h3 : (inB ar 0 16) = true
        · by_cases h4 : (decide (n ≤ 200)) = true
          · have hw0 := fun W => within i 0 999 W
            rw [h0] at hw0
            have hw1 := fun W => within g 1 2147483647 W
            rw [h1] at hw1
            have hV2 := fun W => Valid nm W
            rw [h2] at hV2
            have hw3 := fun W => within ar 0 16 W
            rw [h3] at hw3
            have q4 : (n : Int) ≤ 200 := by have := of_decide_eq_true h4; omega
            rw [h0, h1, h2, h3, h4]
            go_enter Tryz.func259, Tryz.ntmps259
            go_wp2_with fail
            refine (hw0 _).mono ?_
            rintro e w' ⟨rfl, rfl⟩
            go_wp2_with fail
            refine (hw1 _).mono ?_
            rintro e w' ⟨rfl, rfl⟩
            go_wp2_with fail
            refine (hV2 _).mono ?_
            rintro e w1 ⟨rfl, hb1⟩
            have hz : w.heap.size + 1 < w1.heap.size := by have := hb1.size; simp at this; omega
            obtain ⟨hA, hR, hb⟩ := two_box (f := ⟨4, i, g, nm, fn, ar, by_, bt⟩) (v := .slice p n c) hb1
            have HA := Lib.hid hA
            have HR := Lib.hid hR
            obtain ⟨a0, a1, a2, a3, a4, a5, a6, a7, a8, az⟩ := hA
            obtain ⟨r0, r1, r2, r3, r4, r5, r6, r7, r8, rz⟩ := hR
            clear hb1
            dsimp only [zeroF, nilV] at a0 a1 a2 a3 a4 a5 a6 a7 a8 r0 r1 r2 r3 r4 r5 r6 r7 r8
            go_wp2_with fail
            refine (hw3 _).mono ?_
            rintro e w' ⟨rfl, rfl⟩
            go_wp2_with fail
            exact bodyPost_ret (v := (.tuple #[.agg #[.int .i64 4, .int .i64 0, .int .i64 0, .string ⟨#[]⟩, .string fn, .int .i64 0, Value.slice none 0 0, .string by_, .int .i64 bt], .bool true])) (by simp [results, Tryz.results259, go_sem, *]) rfl ⟨by simp, by (repeat' (first | with_reducible exact hb | with_reducible exact Below.refl _ _ | with_reducible exact Nat.le_refl _ | with_reducible refine Below.setCell ?_ ?_ _ | with_reducible refine Below.alloc ?_ ?_ _ | (simp; done) | (simp; omega)))⟩
          · have h4 : (decide (n ≤ 200)) = false := by simpa using h4
            have hw0 := fun W => within i 0 999 W
            rw [h0] at hw0
            have hw1 := fun W => within g 1 2147483647 W
            rw [h1] at hw1
            have hV2 := fun W => Valid nm W
            rw [h2] at hV2
            have hw3 := fun W => within ar 0 16 W
            rw [h3] at hw3
            have q4 : (200 : Int) < (n : Int) := by have := of_decide_eq_false h4; omega
            rw [h0, h1, h2, h3, h4]
            go_enter Tryz.func259, Tryz.ntmps259
            go_wp2_with fail
            refine (hw0 _).mono ?_
            rintro e w' ⟨rfl, rfl⟩
            go_wp2_with fail
            refine (hw1 _).mono ?_
            rintro e w' ⟨rfl, rfl⟩
            go_wp2_with fail
            refine (hV2 _).mono ?_
            rintro e w1 ⟨rfl, hb1⟩
            have hz : w.heap.size + 1 < w1.heap.size := by have := hb1.size; simp at this; omega
            obtain ⟨hA, hR, hb⟩ := two_box (f := ⟨4, i, g, nm, fn, ar, by_, bt⟩) (v := .slice p n c) hb1
            have HA := Lib.hid hA
            have HR := Lib.hid hR
            obtain ⟨a0, a1, a2, a3, a4, a5, a6, a7, a8, az⟩ := hA
            obtain ⟨r0, r1, r2, r3, r4, r5, r6, r7, r8, rz⟩ := hR
            clear hb1
            dsimp only [zeroF, nilV] at a0 a1 a2 a3 a4 a5 a6 a7 a8 r0 r1 r2 r3 r4 r5 r6 r7 r8
            go_wp2_with fail
            refine (hw3 _).mono ?_
            rintro e w' ⟨rfl, rfl⟩
            go_wp2_with fail
            exact bodyPost_ret (v := (.tuple #[.agg #[.int .i64 4, .int .i64 0, .int .i64 0, .string ⟨#[]⟩, .string fn, .int .i64 0, Value.slice none 0 0, .string by_, .int .i64 bt], .bool false])) (by simp [results, Tryz.results259, go_sem, *]) rfl ⟨by simp, by (repeat' (first | with_reducible exact hb | with_reducible exact Below.refl _ _ | with_reducible exact Nat.le_refl _ | with_reducible refine Below.setCell ?_ ?_ _ | with_reducible refine Below.alloc ?_ ?_ _ | (simp; done) | (simp; omega)))⟩
        · have h3 : (inB ar 0 16) = false := by simpa using h3
          have hw0 := fun W => within i 0 999 W
          rw [h0] at hw0
          have hw1 := fun W => within g 1 2147483647 W
          rw [h1] at hw1
          have hV2 := fun W => Valid nm W
          rw [h2] at hV2
          have hw3 := fun W => within ar 0 16 W
          rw [h3] at hw3
          rw [h0, h1, h2, h3]
          go_enter Tryz.func259, Tryz.ntmps259
          go_wp2_with fail
          refine (hw0 _).mono ?_
          rintro e w' ⟨rfl, rfl⟩
          go_wp2_with fail
          refine (hw1 _).mono ?_
          rintro e w' ⟨rfl, rfl⟩
          go_wp2_with fail
          refine (hV2 _).mono ?_
          rintro e w1 ⟨rfl, hb1⟩
          have hz : w.heap.size + 1 < w1.heap.size := by have := hb1.size; simp at this; omega
          obtain ⟨hA, hR, hb⟩ := two_box (f := ⟨4, i, g, nm, fn, ar, by_, bt⟩) (v := .slice p n c) hb1
          have HA := Lib.hid hA
          have HR := Lib.hid hR
          obtain ⟨a0, a1, a2, a3, a4, a5, a6, a7, a8, az⟩ := hA
          obtain ⟨r0, r1, r2, r3, r4, r5, r6, r7, r8, rz⟩ := hR
          clear hb1
          dsimp only [zeroF, nilV] at a0 a1 a2 a3 a4 a5 a6 a7 a8 r0 r1 r2 r3 r4 r5 r6 r7 r8
          go_wp2_with fail
          refine (hw3 _).mono ?_
          rintro e w' ⟨rfl, rfl⟩
          go_wp2_with fail
          exact bodyPost_ret (v := (.tuple #[.agg #[.int .i64 4, .int .i64 0, .int .i64 0, .string ⟨#[]⟩, .string fn, .int .i64 0, Value.slice none 0 0, .string by_, .int .i64 bt], .bool false])) (by simp [results, Tryz.results259, go_sem, *]) rfl ⟨by simp, by (repeat' (first | with_reducible exact hb | with_reducible exact Below.refl _ _ | with_reducible exact Nat.le_refl _ | with_reducible refine Below.setCell ?_ ?_ _ | with_reducible refine Below.alloc ?_ ?_ _ | (simp; done) | (simp; omega)))⟩
      · have h2 : (vName nm) = false := by simpa using h2
        have hw0 := fun W => within i 0 999 W
        rw [h0] at hw0
        have hw1 := fun W => within g 1 2147483647 W
        rw [h1] at hw1
        have hV2 := fun W => Valid nm W
        rw [h2] at hV2
        rw [h0, h1, h2]
        go_enter Tryz.func259, Tryz.ntmps259
        go_wp2_with fail
        refine (hw0 _).mono ?_
        rintro e w' ⟨rfl, rfl⟩
        go_wp2_with fail
        refine (hw1 _).mono ?_
        rintro e w' ⟨rfl, rfl⟩
        go_wp2_with fail
        refine (hV2 _).mono ?_
        rintro e w1 ⟨rfl, hb1⟩
        have hz : w.heap.size + 1 < w1.heap.size := by have := hb1.size; simp at this; omega
        obtain ⟨hA, hR, hb⟩ := two_box (f := ⟨4, i, g, nm, fn, ar, by_, bt⟩) (v := .slice p n c) hb1
        have HA := Lib.hid hA
        have HR := Lib.hid hR
        obtain ⟨a0, a1, a2, a3, a4, a5, a6, a7, a8, az⟩ := hA
        obtain ⟨r0, r1, r2, r3, r4, r5, r6, r7, r8, rz⟩ := hR
        clear hb1
        dsimp only [zeroF, nilV] at a0 a1 a2 a3 a4 a5 a6 a7 a8 r0 r1 r2 r3 r4 r5 r6 r7 r8
        go_wp2_with fail
        exact bodyPost_ret (v := (.tuple #[.agg #[.int .i64 4, .int .i64 0, .int .i64 0, .string ⟨#[]⟩, .string fn, .int .i64 0, Value.slice none 0 0, .string by_, .int .i64 bt], .bool false])) (by simp [results, Tryz.results259, go_sem, *]) rfl ⟨by simp, by (repeat' (first | with_reducible exact hb | with_reducible exact Below.refl _ _ | with_reducible exact Nat.le_refl _ | with_reducible refine Below.setCell ?_ ?_ _ | with_reducible refine Below.alloc ?_ ?_ _ | (simp; done) | (simp; omega)))⟩
    · have h1 : (inB g 1 2147483647) = false := by simpa using h1
      have hw0 := fun W => within i 0 999 W
      rw [h0] at hw0
      have hw1 := fun W => within g 1 2147483647 W
      rw [h1] at hw1
      rw [h0, h1]
      go_enter Tryz.func259, Tryz.ntmps259
      go_wp2_with fail
      refine (hw0 _).mono ?_
      rintro e w' ⟨rfl, rfl⟩
      go_wp2_with fail
      refine (hw1 _).mono ?_
      rintro e w' ⟨rfl, rfl⟩
      go_wp2_with fail
      exact bodyPost_ret (v := (.tuple #[.agg #[.int .i64 4, .int .i64 0, .int .i64 0, .string ⟨#[]⟩, .string fn, .int .i64 0, Value.slice none 0 0, .string by_, .int .i64 bt], .bool false])) (by simp [results, Tryz.results259, go_sem, *]) rfl ⟨by simp, by (repeat' (first | with_reducible exact hb | with_reducible exact Below.refl _ _ | with_reducible exact Nat.le_refl _ | with_reducible refine Below.setCell ?_ ?_ _ | with_reducible refine Below.alloc ?_ ?_ _ | (simp; done) | (simp; omega)))⟩
  · have h0 : (inB i 0 999) = false := by simpa using h0
    have hw0 := fun W => within i 0 999 W
    rw [h0] at hw0
    rw [h0]
    go_enter Tryz.func259, Tryz.ntmps259
    go_wp2_with fail
    refine (hw0 _).mono ?_
    rintro e w' ⟨rfl, rfl⟩
    go_wp2_with fail
    exact bodyPost_ret (v := (.tuple #[.agg #[.int .i64 4, .int .i64 0, .int .i64 0, .string ⟨#[]⟩, .string fn, .int .i64 0, Value.slice none 0 0, .string by_, .int .i64 bt], .bool false])) (by simp [results, Tryz.results259, go_sem, *]) rfl ⟨by simp, by (repeat' (first | with_reducible exact hb | with_reducible exact Below.refl _ _ | with_reducible exact Nat.le_refl _ | with_reducible refine Below.setCell ?_ ?_ _ | with_reducible refine Below.alloc ?_ ?_ _ | (simp; done) | (simp; omega)))⟩
theorem kindExport (i g : Int) (nm fn : ByteArray) (ar : Int) (by_ : ByteArray) (bt : Int) (p : Option Addr) (n c : Nat) (last : Int) (w : World) (hn : n ≤ c) (hc : c ≤ 9223372036854775807) : Calls Tryz.prog 260 #[aggV ⟨5, i, g, nm, fn, ar, by_, bt⟩ (.slice p n c)] w (KPost ⟨5, i, g, nm, fn, ar, by_, bt⟩ (.slice p n c) n last w) := by
  have hb : bareF ⟨5, i, g, nm, fn, ar, by_, bt⟩ = ⟨5, i, g, ⟨#[]⟩, ⟨#[]⟩, 0, by_, bt⟩ := by simp [bareF]
  have hv : bareV ⟨5, i, g, nm, fn, ar, by_, bt⟩ (.slice p n c) = Value.slice p n c := by simp [bareV, nilV]
  have ho : okF ⟨5, i, g, nm, fn, ar, by_, bt⟩ n last = (vName nm && (vName fn && (inB ar 0 16))) := by simp [okF]
  unfold KPost
  rw [hb, hv, ho]
  unfold aggV
  dsimp only
  clear hb hv ho
  by_cases h0 : (vName nm) = true
  · by_cases h1 : (vName fn) = true
    · by_cases h2 : (inB ar 0 16) = true
      · have hV0 := fun W => Valid nm W
        rw [h0] at hV0
        have hV1 := fun W => Valid fn W
        rw [h1] at hV1
        have hw2 := fun W => within ar 0 16 W
        rw [h2] at hw2
        rw [h0, h1, h2]
        go_enter Tryz.func260, Tryz.ntmps260
        go_wp2_with fail
        refine (hV0 _).mono ?_
        rintro e w1 ⟨rfl, hb1⟩
        have hz : w.heap.size + 1 < w1.heap.size := by have := hb1.size; simp at this; omega
        obtain ⟨hA, hR, hb⟩ := two_box (f := ⟨5, i, g, nm, fn, ar, by_, bt⟩) (v := .slice p n c) hb1
        have HA := Lib.hid hA
        have HR := Lib.hid hR
        obtain ⟨a0, a1, a2, a3, a4, a5, a6, a7, a8, az⟩ := hA
        obtain ⟨r0, r1, r2, r3, r4, r5, r6, r7, r8, rz⟩ := hR
        clear hb1
        dsimp only [zeroF, nilV] at a0 a1 a2 a3 a4 a5 a6 a7 a8 r0 r1 r2 r3 r4 r5 r6 r7 r8
        go_wp2_with fail
        refine (hV1 _).mono ?_
        rintro e w2 ⟨rfl, hb2⟩
        have hA := HA.out.below hb2 (by omega)
        have hR := HR.out.below hb2 (by omega)
        have hz : w.heap.size + 1 < w2.heap.size := by have := hb2.size; omega
        have hb := hb.trans (hb2.mono (by omega))
        clear hb2 a0 a1 a2 a3 a4 a5 a6 a7 a8 az r0 r1 r2 r3 r4 r5 r6 r7 r8 rz
        have HA := Lib.hid hA
        have HR := Lib.hid hR
        obtain ⟨a0, a1, a2, a3, a4, a5, a6, a7, a8, az⟩ := hA
        obtain ⟨r0, r1, r2, r3, r4, r5, r6, r7, r8, rz⟩ := hR
        dsimp only [zeroF, nilV] at a0 a1 a2 a3 a4 a5 a6 a7 a8 r0 r1 r2 r3 r4 r5 r6 r7 r8
        go_wp2_with fail
        refine (hw2 _).mono ?_
        rintro e w' ⟨rfl, rfl⟩
        go_wp2_with fail
        exact bodyPost_ret (v := (.tuple #[.agg #[.int .i64 5, .int .i64 i, .int .i64 g, .string ⟨#[]⟩, .string ⟨#[]⟩, .int .i64 0, Value.slice p n c, .string by_, .int .i64 bt], .bool true])) (by simp [results, Tryz.results260, go_sem, *]) rfl ⟨by simp, by (repeat' (first | with_reducible exact hb | with_reducible exact Below.refl _ _ | with_reducible exact Nat.le_refl _ | with_reducible refine Below.setCell ?_ ?_ _ | with_reducible refine Below.alloc ?_ ?_ _ | (simp; done) | (simp; omega)))⟩
      · have h2 : (inB ar 0 16) = false := by simpa using h2
        have hV0 := fun W => Valid nm W
        rw [h0] at hV0
        have hV1 := fun W => Valid fn W
        rw [h1] at hV1
        have hw2 := fun W => within ar 0 16 W
        rw [h2] at hw2
        rw [h0, h1, h2]
        go_enter Tryz.func260, Tryz.ntmps260
        go_wp2_with fail
        refine (hV0 _).mono ?_
        rintro e w1 ⟨rfl, hb1⟩
        have hz : w.heap.size + 1 < w1.heap.size := by have := hb1.size; simp at this; omega
        obtain ⟨hA, hR, hb⟩ := two_box (f := ⟨5, i, g, nm, fn, ar, by_, bt⟩) (v := .slice p n c) hb1
        have HA := Lib.hid hA
        have HR := Lib.hid hR
        obtain ⟨a0, a1, a2, a3, a4, a5, a6, a7, a8, az⟩ := hA
        obtain ⟨r0, r1, r2, r3, r4, r5, r6, r7, r8, rz⟩ := hR
        clear hb1
        dsimp only [zeroF, nilV] at a0 a1 a2 a3 a4 a5 a6 a7 a8 r0 r1 r2 r3 r4 r5 r6 r7 r8
        go_wp2_with fail
        refine (hV1 _).mono ?_
        rintro e w2 ⟨rfl, hb2⟩
        have hA := HA.out.below hb2 (by omega)
        have hR := HR.out.below hb2 (by omega)
        have hz : w.heap.size + 1 < w2.heap.size := by have := hb2.size; omega
        have hb := hb.trans (hb2.mono (by omega))
        clear hb2 a0 a1 a2 a3 a4 a5 a6 a7 a8 az r0 r1 r2 r3 r4 r5 r6 r7 r8 rz
        have HA := Lib.hid hA
        have HR := Lib.hid hR
        obtain ⟨a0, a1, a2, a3, a4, a5, a6, a7, a8, az⟩ := hA
        obtain ⟨r0, r1, r2, r3, r4, r5, r6, r7, r8, rz⟩ := hR
        dsimp only [zeroF, nilV] at a0 a1 a2 a3 a4 a5 a6 a7 a8 r0 r1 r2 r3 r4 r5 r6 r7 r8
        go_wp2_with fail
        refine (hw2 _).mono ?_
        rintro e w' ⟨rfl, rfl⟩
        go_wp2_with fail
        exact bodyPost_ret (v := (.tuple #[.agg #[.int .i64 5, .int .i64 i, .int .i64 g, .string ⟨#[]⟩, .string ⟨#[]⟩, .int .i64 0, Value.slice p n c, .string by_, .int .i64 bt], .bool false])) (by simp [results, Tryz.results260, go_sem, *]) rfl ⟨by simp, by (repeat' (first | with_reducible exact hb | with_reducible exact Below.refl _ _ | with_reducible exact Nat.le_refl _ | with_reducible refine Below.setCell ?_ ?_ _ | with_reducible refine Below.alloc ?_ ?_ _ | (simp; done) | (simp; omega)))⟩
    · have h1 : (vName fn) = false := by simpa using h1
      have hV0 := fun W => Valid nm W
      rw [h0] at hV0
      have hV1 := fun W => Valid fn W
      rw [h1] at hV1
      rw [h0, h1]
      go_enter Tryz.func260, Tryz.ntmps260
      go_wp2_with fail
      refine (hV0 _).mono ?_
      rintro e w1 ⟨rfl, hb1⟩
      have hz : w.heap.size + 1 < w1.heap.size := by have := hb1.size; simp at this; omega
      obtain ⟨hA, hR, hb⟩ := two_box (f := ⟨5, i, g, nm, fn, ar, by_, bt⟩) (v := .slice p n c) hb1
      have HA := Lib.hid hA
      have HR := Lib.hid hR
      obtain ⟨a0, a1, a2, a3, a4, a5, a6, a7, a8, az⟩ := hA
      obtain ⟨r0, r1, r2, r3, r4, r5, r6, r7, r8, rz⟩ := hR
      clear hb1
      dsimp only [zeroF, nilV] at a0 a1 a2 a3 a4 a5 a6 a7 a8 r0 r1 r2 r3 r4 r5 r6 r7 r8
      go_wp2_with fail
      refine (hV1 _).mono ?_
      rintro e w2 ⟨rfl, hb2⟩
      have hA := HA.out.below hb2 (by omega)
      have hR := HR.out.below hb2 (by omega)
      have hz : w.heap.size + 1 < w2.heap.size := by have := hb2.size; omega
      have hb := hb.trans (hb2.mono (by omega))
      clear hb2 a0 a1 a2 a3 a4 a5 a6 a7 a8 az r0 r1 r2 r3 r4 r5 r6 r7 r8 rz
      have HA := Lib.hid hA
      have HR := Lib.hid hR
      obtain ⟨a0, a1, a2, a3, a4, a5, a6, a7, a8, az⟩ := hA
      obtain ⟨r0, r1, r2, r3, r4, r5, r6, r7, r8, rz⟩ := hR
      dsimp only [zeroF, nilV] at a0 a1 a2 a3 a4 a5 a6 a7 a8 r0 r1 r2 r3 r4 r5 r6 r7 r8
      go_wp2_with fail
      exact bodyPost_ret (v := (.tuple #[.agg #[.int .i64 5, .int .i64 i, .int .i64 g, .string ⟨#[]⟩, .string ⟨#[]⟩, .int .i64 0, Value.slice p n c, .string by_, .int .i64 bt], .bool false])) (by simp [results, Tryz.results260, go_sem, *]) rfl ⟨by simp, by (repeat' (first | with_reducible exact hb | with_reducible exact Below.refl _ _ | with_reducible exact Nat.le_refl _ | with_reducible refine Below.setCell ?_ ?_ _ | with_reducible refine Below.alloc ?_ ?_ _ | (simp; done) | (simp; omega)))⟩
  · have h0 : (vName nm) = false := by simpa using h0
    have hV0 := fun W => Valid nm W
    rw [h0] at hV0
    rw [h0]
    go_enter Tryz.func260, Tryz.ntmps260
    go_wp2_with fail
    refine (hV0 _).mono ?_
    rintro e w1 ⟨rfl, hb1⟩
    have hz : w.heap.size + 1 < w1.heap.size := by have := hb1.size; simp at this; omega
    obtain ⟨hA, hR, hb⟩ := two_box (f := ⟨5, i, g, nm, fn, ar, by_, bt⟩) (v := .slice p n c) hb1
    have HA := Lib.hid hA
    have HR := Lib.hid hR
    obtain ⟨a0, a1, a2, a3, a4, a5, a6, a7, a8, az⟩ := hA
    obtain ⟨r0, r1, r2, r3, r4, r5, r6, r7, r8, rz⟩ := hR
    clear hb1
    dsimp only [zeroF, nilV] at a0 a1 a2 a3 a4 a5 a6 a7 a8 r0 r1 r2 r3 r4 r5 r6 r7 r8
    go_wp2_with fail
    exact bodyPost_ret (v := (.tuple #[.agg #[.int .i64 5, .int .i64 i, .int .i64 g, .string ⟨#[]⟩, .string ⟨#[]⟩, .int .i64 0, Value.slice p n c, .string by_, .int .i64 bt], .bool false])) (by simp [results, Tryz.results260, go_sem, *]) rfl ⟨by simp, by (repeat' (first | with_reducible exact hb | with_reducible exact Below.refl _ _ | with_reducible exact Nat.le_refl _ | with_reducible refine Below.setCell ?_ ?_ _ | with_reducible refine Below.alloc ?_ ?_ _ | (simp; done) | (simp; omega)))⟩
theorem kindTuple (i g : Int) (nm fn : ByteArray) (ar : Int) (by_ : ByteArray) (bt : Int) (p : Option Addr) (n c : Nat) (last : Int) (w : World) (hn : n ≤ c) (hc : c ≤ 9223372036854775807) : Calls Tryz.prog 261 #[aggV ⟨7, i, g, nm, fn, ar, by_, bt⟩ (.slice p n c)] w (KPost ⟨7, i, g, nm, fn, ar, by_, bt⟩ (.slice p n c) n last w) := by
  have hb : bareF ⟨7, i, g, nm, fn, ar, by_, bt⟩ = ⟨7, i, g, nm, fn, ar, by_, bt⟩ := by simp [bareF]
  have hv : bareV ⟨7, i, g, nm, fn, ar, by_, bt⟩ (.slice p n c) = Value.slice none 0 0 := by simp [bareV, nilV]
  have ho : okF ⟨7, i, g, nm, fn, ar, by_, bt⟩ n last = (decide (n ≤ 255)) := by simp [okF]
  unfold KPost
  rw [hb, hv, ho]
  unfold aggV
  dsimp only
  clear hb hv ho
  by_cases h0 : (decide (n ≤ 255)) = true
  · have q0 : (n : Int) ≤ 255 := by have := of_decide_eq_true h0; omega
    rw [h0]
    go_enter Tryz.func261, Tryz.ntmps261
    go_wp2_with fail
    exact bodyPost_ret (v := (.tuple #[.agg #[.int .i64 7, .int .i64 i, .int .i64 g, .string nm, .string fn, .int .i64 ar, Value.slice none 0 0, .string by_, .int .i64 bt], .bool true])) (by simp [results, Tryz.results261, go_sem, *]) rfl ⟨by simp, by (repeat' (first | with_reducible exact hb | with_reducible exact Below.refl _ _ | with_reducible exact Nat.le_refl _ | with_reducible refine Below.setCell ?_ ?_ _ | with_reducible refine Below.alloc ?_ ?_ _ | (simp; done) | (simp; omega)))⟩
  · have h0 : (decide (n ≤ 255)) = false := by simpa using h0
    have q0 : (255 : Int) < (n : Int) := by have := of_decide_eq_false h0; omega
    rw [h0]
    go_enter Tryz.func261, Tryz.ntmps261
    go_wp2_with fail
    exact bodyPost_ret (v := (.tuple #[.agg #[.int .i64 7, .int .i64 i, .int .i64 g, .string nm, .string fn, .int .i64 ar, Value.slice none 0 0, .string by_, .int .i64 bt], .bool false])) (by simp [results, Tryz.results261, go_sem, *]) rfl ⟨by simp, by (repeat' (first | with_reducible exact hb | with_reducible exact Below.refl _ _ | with_reducible exact Nat.le_refl _ | with_reducible refine Below.setCell ?_ ?_ _ | with_reducible refine Below.alloc ?_ ?_ _ | (simp; done) | (simp; omega)))⟩
theorem kindNil (i g : Int) (nm fn : ByteArray) (ar : Int) (by_ : ByteArray) (bt : Int) (p : Option Addr) (n c : Nat) (last : Int) (w : World) (hn : n ≤ c) (hc : c ≤ 9223372036854775807) : Calls Tryz.prog 262 #[aggV ⟨8, i, g, nm, fn, ar, by_, bt⟩ (.slice p n c)] w (KPost ⟨8, i, g, nm, fn, ar, by_, bt⟩ (.slice p n c) n last w) := by
  have hb : bareF ⟨8, i, g, nm, fn, ar, by_, bt⟩ = ⟨8, i, g, nm, fn, ar, by_, bt⟩ := by simp [bareF]
  have hv : bareV ⟨8, i, g, nm, fn, ar, by_, bt⟩ (.slice p n c) = Value.slice p n c := by simp [bareV, nilV]
  have ho : okF ⟨8, i, g, nm, fn, ar, by_, bt⟩ n last = (true) := by simp [okF]
  unfold KPost
  rw [hb, hv, ho]
  unfold aggV
  dsimp only
  clear hb hv ho
  go_enter Tryz.func262, Tryz.ntmps262
  go_wp2_with fail
  exact bodyPost_ret (v := (.tuple #[.agg #[.int .i64 8, .int .i64 i, .int .i64 g, .string nm, .string fn, .int .i64 ar, Value.slice p n c, .string by_, .int .i64 bt], .bool true])) (by simp [results, Tryz.results262, go_sem, *]) rfl ⟨by simp, by (repeat' (first | with_reducible exact hb | with_reducible exact Below.refl _ _ | with_reducible exact Nat.le_refl _ | with_reducible refine Below.setCell ?_ ?_ _ | with_reducible refine Below.alloc ?_ ?_ _ | (simp; done) | (simp; omega)))⟩
end Go.Proofs.YtnakbepcalciiaaGreat.tm

/- terms: the functions of lists and bit strings. Conditions: the elements lie in memory. -/
namespace Go.Proofs.YtnakbepcalciiaaGreat.tm
open Go.RowKit mem names
set_option linter.unusedVariables false
set_option linter.unusedSimpArgs false
set_option maxHeartbeats 1000000
set_option maxRecDepth 100000
theorem kindList (i g : Int) (nm fn : ByteArray) (ar : Int) (by_ : ByteArray) (bt : Int) (p : Option Addr) (n c : Nat) (last : Int) (w : World) (hn : n ≤ c) (hc : c ≤ 9223372036854775807)
    (hl : 2 ≤ n → ∃ g0 o0, p = some ⟨g0, o0, none⟩ ∧ w.cell? ⟨g0, o0 + (n - 1) * 9, none⟩ = some (.int .i64 last) ∧ g0 < w.heap.size) :
    Calls Tryz.prog 263 #[aggV ⟨9, i, g, nm, fn, ar, by_, bt⟩ (.slice p n c)] w (KPost ⟨9, i, g, nm, fn, ar, by_, bt⟩ (.slice p n c) n last w) := by
  have hb : bareF ⟨9, i, g, nm, fn, ar, by_, bt⟩ = ⟨9, i, g, nm, fn, ar, by_, bt⟩ := by simp [bareF]
  have hv : bareV ⟨9, i, g, nm, fn, ar, by_, bt⟩ (.slice p n c) = .slice none 0 0 := by simp [bareV, nilV]
  have ho : okF ⟨9, i, g, nm, fn, ar, by_, bt⟩ n last = (decide (2 ≤ n) && decide (last ≠ 9)) := by simp [okF]
  unfold KPost
  rw [hb, hv, ho]
  unfold aggV
  dsimp only
  clear hb hv ho
  by_cases h0 : 2 ≤ n
  · rw [decide_eq_true h0]
    obtain ⟨g0, o0, rfl, hcell, hg0⟩ := hl h0
    obtain ⟨m, rfl⟩ : ∃ m, n = m + 2 := ⟨n - 2, by omega⟩
    rw [show m + 2 - 1 = m + 1 by omega] at hcell
    clear hl
    have hc1 : ∀ o1 o2 : Obj, ((w.alloc o1).alloc o2).cell? ⟨g0, o0 + (m + 1) * 9, none⟩ = some (.int .i64 last) := fun o1 o2 => by
      rw [World.cell?_alloc_lt _ _ _ (by simp; omega), World.cell?_alloc_lt _ _ _ hg0]; exact hcell
    by_cases h1 : last ≠ 9
    · have hq : (last != 9) = true := by simpa using h1
      rw [decide_eq_true h1]
      clear h1
      go_enter Tryz.func263, Tryz.ntmps263
      go_wp2_with fail
      exact bodyPost_ret (v := (.tuple #[.agg #[.int .i64 9, .int .i64 i, .int .i64 g, .string nm, .string fn, .int .i64 ar, .slice none 0 0, .string by_, .int .i64 bt], .bool true])) (by simp [results, Tryz.results263, go_sem, *]) rfl ⟨by simp, by (repeat' (first | with_reducible exact Below.refl _ _ | with_reducible exact Nat.le_refl _ | with_reducible refine Below.setCell ?_ ?_ _ | with_reducible refine Below.alloc ?_ ?_ _ | (simp; done) | (simp; omega)))⟩
    · have hq : (last != 9) = false := by simpa using h1
      rw [decide_eq_false h1]
      clear h1
      go_enter Tryz.func263, Tryz.ntmps263
      go_wp2_with fail
      exact bodyPost_ret (v := (.tuple #[.agg #[.int .i64 9, .int .i64 i, .int .i64 g, .string nm, .string fn, .int .i64 ar, .slice none 0 0, .string by_, .int .i64 bt], .bool false])) (by simp [results, Tryz.results263, go_sem, *]) rfl ⟨by simp, by (repeat' (first | with_reducible exact Below.refl _ _ | with_reducible exact Nat.le_refl _ | with_reducible refine Below.setCell ?_ ?_ _ | with_reducible refine Below.alloc ?_ ?_ _ | (simp; done) | (simp; omega)))⟩
  · rw [decide_eq_false h0]
    have hq : (n : Int) < 2 := by omega
    clear hl
    go_enter Tryz.func263, Tryz.ntmps263
    go_wp2_with fail
    exact bodyPost_ret (v := (.tuple #[.agg #[.int .i64 9, .int .i64 i, .int .i64 g, .string nm, .string fn, .int .i64 ar, .slice none 0 0, .string by_, .int .i64 bt], .bool false])) (by simp [results, Tryz.results263, go_sem, *]) rfl ⟨by simp, by (repeat' (first | with_reducible exact Below.refl _ _ | with_reducible exact Nat.le_refl _ | with_reducible refine Below.setCell ?_ ?_ _ | with_reducible refine Below.alloc ?_ ?_ _ | (simp; done) | (simp; omega)))⟩
end Go.Proofs.YtnakbepcalciiaaGreat.tm
