/- Several texts in one, one behind the other: TmP, TmQ, TmJ. No condition beyond theirs. -/
import Derived.Test.YtnakbepcalciiaaGreatGe
import Derived.Laws.EntriesVeiled

/- The reference's bare and zero. No condition. (printed by mk_bare.py) -/
namespace Go.Proofs.YtnakbepcalciiaaGreat.tm
open Go.RowKit mem names
set_option linter.unusedVariables false
set_option linter.unusedSimpArgs false
set_option maxHeartbeats 4000000
set_option maxRecDepth 100000

theorem bare1 (i g : Int) (nm fn : ByteArray) (ar : Int) (by_ : ByteArray) (bt : Int) (p : Option Addr) (n c : Nat) (w : World) :
    Calls Tryz.prog 192 #[aggV ⟨1, i, g, nm, fn, ar, by_, bt⟩ (.slice p n c)] w fun e w' => e = .returned (aggV { bareF ⟨1, i, g, nm, fn, ar, by_, bt⟩ with kind := 0 } (bareV ⟨1, i, g, nm, fn, ar, by_, bt⟩ (.slice p n c))) ∧ Below w.heap.size w w' := by
  have hb : { bareF ⟨1, i, g, nm, fn, ar, by_, bt⟩ with kind := 0 } = (⟨0, 0, g, nm, fn, ar, by_, bt⟩ : TF) := by simp [bareF]
  have hv : bareV ⟨1, i, g, nm, fn, ar, by_, bt⟩ (.slice p n c) = (Value.slice p n c) := by simp [bareV, nilV]
  rw [hb, hv]
  unfold aggV
  dsimp only
  clear hb hv
  go_enter Tryz.func192, Tryz.ntmps192
  go_wp2_with fail
  exact bodyPost_ret (v := (.agg #[.int .i64 0, .int .i64 0, .int .i64 g, .string nm, .string fn, .int .i64 ar, (Value.slice p n c), .string by_, .int .i64 bt])) (by simp [results, Tryz.results192, go_sem, *]) rfl ⟨rfl, by (repeat' (first | with_reducible exact Below.refl _ _ | with_reducible exact Nat.le_refl _ | with_reducible refine Below.setCell ?_ ?_ _ | with_reducible refine Below.alloc ?_ ?_ _ | (simp; done) | (simp; omega)))⟩
theorem bare2 (i g : Int) (nm fn : ByteArray) (ar : Int) (by_ : ByteArray) (bt : Int) (p : Option Addr) (n c : Nat) (w : World) :
    Calls Tryz.prog 192 #[aggV ⟨2, i, g, nm, fn, ar, by_, bt⟩ (.slice p n c)] w fun e w' => e = .returned (aggV { bareF ⟨2, i, g, nm, fn, ar, by_, bt⟩ with kind := 0 } (bareV ⟨2, i, g, nm, fn, ar, by_, bt⟩ (.slice p n c))) ∧ Below w.heap.size w w' := by
  have hb : { bareF ⟨2, i, g, nm, fn, ar, by_, bt⟩ with kind := 0 } = (⟨0, i, g, ⟨#[]⟩, fn, ar, by_, bt⟩ : TF) := by simp [bareF]
  have hv : bareV ⟨2, i, g, nm, fn, ar, by_, bt⟩ (.slice p n c) = (Value.slice p n c) := by simp [bareV, nilV]
  rw [hb, hv]
  unfold aggV
  dsimp only
  clear hb hv
  go_enter Tryz.func192, Tryz.ntmps192
  go_wp2_with fail
  exact bodyPost_ret (v := (.agg #[.int .i64 0, .int .i64 i, .int .i64 g, .string ⟨#[]⟩, .string fn, .int .i64 ar, (Value.slice p n c), .string by_, .int .i64 bt])) (by simp [results, Tryz.results192, go_sem, *]) rfl ⟨rfl, by (repeat' (first | with_reducible exact Below.refl _ _ | with_reducible exact Nat.le_refl _ | with_reducible refine Below.setCell ?_ ?_ _ | with_reducible refine Below.alloc ?_ ?_ _ | (simp; done) | (simp; omega)))⟩
theorem bare3 (i g : Int) (nm fn : ByteArray) (ar : Int) (by_ : ByteArray) (bt : Int) (p : Option Addr) (n c : Nat) (w : World) :
    Calls Tryz.prog 192 #[aggV ⟨3, i, g, nm, fn, ar, by_, bt⟩ (.slice p n c)] w fun e w' => e = .returned (aggV { bareF ⟨3, i, g, nm, fn, ar, by_, bt⟩ with kind := 0 } (bareV ⟨3, i, g, nm, fn, ar, by_, bt⟩ (.slice p n c))) ∧ Below w.heap.size w w' := by
  have hb : { bareF ⟨3, i, g, nm, fn, ar, by_, bt⟩ with kind := 0 } = (⟨0, 0, 0, ⟨#[]⟩, fn, ar, by_, bt⟩ : TF) := by simp [bareF]
  have hv : bareV ⟨3, i, g, nm, fn, ar, by_, bt⟩ (.slice p n c) = (Value.slice p n c) := by simp [bareV, nilV]
  rw [hb, hv]
  unfold aggV
  dsimp only
  clear hb hv
  go_enter Tryz.func192, Tryz.ntmps192
  go_wp2_with fail
  exact bodyPost_ret (v := (.agg #[.int .i64 0, .int .i64 0, .int .i64 0, .string ⟨#[]⟩, .string fn, .int .i64 ar, (Value.slice p n c), .string by_, .int .i64 bt])) (by simp [results, Tryz.results192, go_sem, *]) rfl ⟨rfl, by (repeat' (first | with_reducible exact Below.refl _ _ | with_reducible exact Nat.le_refl _ | with_reducible refine Below.setCell ?_ ?_ _ | with_reducible refine Below.alloc ?_ ?_ _ | (simp; done) | (simp; omega)))⟩
theorem bare4 (i g : Int) (nm fn : ByteArray) (ar : Int) (by_ : ByteArray) (bt : Int) (p : Option Addr) (n c : Nat) (w : World) :
    Calls Tryz.prog 192 #[aggV ⟨4, i, g, nm, fn, ar, by_, bt⟩ (.slice p n c)] w fun e w' => e = .returned (aggV { bareF ⟨4, i, g, nm, fn, ar, by_, bt⟩ with kind := 0 } (bareV ⟨4, i, g, nm, fn, ar, by_, bt⟩ (.slice p n c))) ∧ Below w.heap.size w w' := by
  have hb : { bareF ⟨4, i, g, nm, fn, ar, by_, bt⟩ with kind := 0 } = (⟨0, 0, 0, ⟨#[]⟩, fn, 0, by_, bt⟩ : TF) := by simp [bareF]
  have hv : bareV ⟨4, i, g, nm, fn, ar, by_, bt⟩ (.slice p n c) = (Value.slice none 0 0) := by simp [bareV, nilV]
  rw [hb, hv]
  unfold aggV
  dsimp only
  clear hb hv
  go_enter Tryz.func192, Tryz.ntmps192
  go_wp2_with fail
  exact bodyPost_ret (v := (.agg #[.int .i64 0, .int .i64 0, .int .i64 0, .string ⟨#[]⟩, .string fn, .int .i64 0, (Value.slice none 0 0), .string by_, .int .i64 bt])) (by simp [results, Tryz.results192, go_sem, *]) rfl ⟨rfl, by (repeat' (first | with_reducible exact Below.refl _ _ | with_reducible exact Nat.le_refl _ | with_reducible refine Below.setCell ?_ ?_ _ | with_reducible refine Below.alloc ?_ ?_ _ | (simp; done) | (simp; omega)))⟩
theorem bare5 (i g : Int) (nm fn : ByteArray) (ar : Int) (by_ : ByteArray) (bt : Int) (p : Option Addr) (n c : Nat) (w : World) :
    Calls Tryz.prog 192 #[aggV ⟨5, i, g, nm, fn, ar, by_, bt⟩ (.slice p n c)] w fun e w' => e = .returned (aggV { bareF ⟨5, i, g, nm, fn, ar, by_, bt⟩ with kind := 0 } (bareV ⟨5, i, g, nm, fn, ar, by_, bt⟩ (.slice p n c))) ∧ Below w.heap.size w w' := by
  have hb : { bareF ⟨5, i, g, nm, fn, ar, by_, bt⟩ with kind := 0 } = (⟨0, i, g, ⟨#[]⟩, ⟨#[]⟩, 0, by_, bt⟩ : TF) := by simp [bareF]
  have hv : bareV ⟨5, i, g, nm, fn, ar, by_, bt⟩ (.slice p n c) = (Value.slice p n c) := by simp [bareV, nilV]
  rw [hb, hv]
  unfold aggV
  dsimp only
  clear hb hv
  go_enter Tryz.func192, Tryz.ntmps192
  go_wp2_with fail
  exact bodyPost_ret (v := (.agg #[.int .i64 0, .int .i64 i, .int .i64 g, .string ⟨#[]⟩, .string ⟨#[]⟩, .int .i64 0, (Value.slice p n c), .string by_, .int .i64 bt])) (by simp [results, Tryz.results192, go_sem, *]) rfl ⟨rfl, by (repeat' (first | with_reducible exact Below.refl _ _ | with_reducible exact Nat.le_refl _ | with_reducible refine Below.setCell ?_ ?_ _ | with_reducible refine Below.alloc ?_ ?_ _ | (simp; done) | (simp; omega)))⟩
theorem bare6 (i g : Int) (nm fn : ByteArray) (ar : Int) (by_ : ByteArray) (bt : Int) (p : Option Addr) (n c : Nat) (w : World) :
    Calls Tryz.prog 192 #[aggV ⟨6, i, g, nm, fn, ar, by_, bt⟩ (.slice p n c)] w fun e w' => e = .returned (aggV { bareF ⟨6, i, g, nm, fn, ar, by_, bt⟩ with kind := 0 } (bareV ⟨6, i, g, nm, fn, ar, by_, bt⟩ (.slice p n c))) ∧ Below w.heap.size w w' := by
  have hb : { bareF ⟨6, i, g, nm, fn, ar, by_, bt⟩ with kind := 0 } = (⟨0, 0, 0, ⟨#[]⟩, fn, ar, by_, bt⟩ : TF) := by simp [bareF]
  have hv : bareV ⟨6, i, g, nm, fn, ar, by_, bt⟩ (.slice p n c) = (Value.slice p n c) := by simp [bareV, nilV]
  rw [hb, hv]
  unfold aggV
  dsimp only
  clear hb hv
  go_enter Tryz.func192, Tryz.ntmps192
  go_wp2_with fail
  exact bodyPost_ret (v := (.agg #[.int .i64 0, .int .i64 0, .int .i64 0, .string ⟨#[]⟩, .string fn, .int .i64 ar, (Value.slice p n c), .string by_, .int .i64 bt])) (by simp [results, Tryz.results192, go_sem, *]) rfl ⟨rfl, by (repeat' (first | with_reducible exact Below.refl _ _ | with_reducible exact Nat.le_refl _ | with_reducible refine Below.setCell ?_ ?_ _ | with_reducible refine Below.alloc ?_ ?_ _ | (simp; done) | (simp; omega)))⟩
theorem bare7 (i g : Int) (nm fn : ByteArray) (ar : Int) (by_ : ByteArray) (bt : Int) (p : Option Addr) (n c : Nat) (w : World) :
    Calls Tryz.prog 192 #[aggV ⟨7, i, g, nm, fn, ar, by_, bt⟩ (.slice p n c)] w fun e w' => e = .returned (aggV { bareF ⟨7, i, g, nm, fn, ar, by_, bt⟩ with kind := 0 } (bareV ⟨7, i, g, nm, fn, ar, by_, bt⟩ (.slice p n c))) ∧ Below w.heap.size w w' := by
  have hb : { bareF ⟨7, i, g, nm, fn, ar, by_, bt⟩ with kind := 0 } = (⟨0, i, g, nm, fn, ar, by_, bt⟩ : TF) := by simp [bareF]
  have hv : bareV ⟨7, i, g, nm, fn, ar, by_, bt⟩ (.slice p n c) = (Value.slice none 0 0) := by simp [bareV, nilV]
  rw [hb, hv]
  unfold aggV
  dsimp only
  clear hb hv
  go_enter Tryz.func192, Tryz.ntmps192
  go_wp2_with fail
  exact bodyPost_ret (v := (.agg #[.int .i64 0, .int .i64 i, .int .i64 g, .string nm, .string fn, .int .i64 ar, (Value.slice none 0 0), .string by_, .int .i64 bt])) (by simp [results, Tryz.results192, go_sem, *]) rfl ⟨rfl, by (repeat' (first | with_reducible exact Below.refl _ _ | with_reducible exact Nat.le_refl _ | with_reducible refine Below.setCell ?_ ?_ _ | with_reducible refine Below.alloc ?_ ?_ _ | (simp; done) | (simp; omega)))⟩
theorem bareE (k i g : Int) (nm fn : ByteArray) (ar : Int) (by_ : ByteArray) (bt : Int) (p : Option Addr) (n c : Nat) (hk : k ≠ 1 ∧ k ≠ 2 ∧ k ≠ 3 ∧ k ≠ 4 ∧ k ≠ 5 ∧ k ≠ 6 ∧ k ≠ 7 ∧ k ≠ 9 ∧ k ≠ 10) (w : World) :
    Calls Tryz.prog 192 #[aggV ⟨k, i, g, nm, fn, ar, by_, bt⟩ (.slice p n c)] w fun e w' => e = .returned (aggV { bareF ⟨k, i, g, nm, fn, ar, by_, bt⟩ with kind := 0 } (bareV ⟨k, i, g, nm, fn, ar, by_, bt⟩ (.slice p n c))) ∧ Below w.heap.size w w' := by
  have hb : { bareF ⟨k, i, g, nm, fn, ar, by_, bt⟩ with kind := 0 } = (⟨0, i, g, nm, fn, ar, by_, bt⟩ : TF) := by simp [bareF, hk]
  have hv : bareV ⟨k, i, g, nm, fn, ar, by_, bt⟩ (.slice p n c) = (Value.slice p n c) := by simp [bareV, nilV, hk]
  rw [hb, hv]
  unfold aggV
  dsimp only
  clear hb hv
  have q1 : (k == 1) = false := by simp; omega
  have q2 : (k == 2) = false := by simp; omega
  have q3 : (k == 3) = false := by simp; omega
  have q4 : (k == 4) = false := by simp; omega
  have q5 : (k == 5) = false := by simp; omega
  have q6 : (k == 6) = false := by simp; omega
  have q7 : (k == 7) = false := by simp; omega
  have q9 : (k == 9) = false := by simp; omega
  have q10 : (k == 10) = false := by simp; omega
  clear hk
  go_enter Tryz.func192, Tryz.ntmps192
  go_wp2_with fail
  exact bodyPost_ret (v := (.agg #[.int .i64 0, .int .i64 i, .int .i64 g, .string nm, .string fn, .int .i64 ar, (Value.slice p n c), .string by_, .int .i64 bt])) (by simp [results, Tryz.results192, go_sem, *]) rfl ⟨rfl, by (repeat' (first | with_reducible exact Below.refl _ _ | with_reducible exact Nat.le_refl _ | with_reducible refine Below.setCell ?_ ?_ _ | with_reducible refine Below.alloc ?_ ?_ _ | (simp; done) | (simp; omega)))⟩
theorem bare9 (i g : Int) (nm fn : ByteArray) (ar : Int) (by_ : ByteArray) (bt : Int) (p : Option Addr) (n c : Nat) (w : World) :
    Calls Tryz.prog 192 #[aggV ⟨9, i, g, nm, fn, ar, by_, bt⟩ (.slice p n c)] w fun e w' => e = .returned (aggV { bareF ⟨9, i, g, nm, fn, ar, by_, bt⟩ with kind := 0 } (bareV ⟨9, i, g, nm, fn, ar, by_, bt⟩ (.slice p n c))) ∧ Below w.heap.size w w' := by
  have hb : { bareF ⟨9, i, g, nm, fn, ar, by_, bt⟩ with kind := 0 } = (⟨0, i, g, nm, fn, ar, by_, bt⟩ : TF) := by simp [bareF]
  have hv : bareV ⟨9, i, g, nm, fn, ar, by_, bt⟩ (.slice p n c) = (Value.slice none 0 0) := by simp [bareV, nilV]
  rw [hb, hv]
  unfold aggV
  dsimp only
  clear hb hv
  go_enter Tryz.func192, Tryz.ntmps192
  go_wp2_with fail
  exact bodyPost_ret (v := (.agg #[.int .i64 0, .int .i64 i, .int .i64 g, .string nm, .string fn, .int .i64 ar, (Value.slice none 0 0), .string by_, .int .i64 bt])) (by simp [results, Tryz.results192, go_sem, *]) rfl ⟨rfl, by (repeat' (first | with_reducible exact Below.refl _ _ | with_reducible exact Nat.le_refl _ | with_reducible refine Below.setCell ?_ ?_ _ | with_reducible refine Below.alloc ?_ ?_ _ | (simp; done) | (simp; omega)))⟩
theorem bare10 (i g : Int) (nm fn : ByteArray) (ar : Int) (by_ : ByteArray) (bt : Int) (p : Option Addr) (n c : Nat) (w : World) :
    Calls Tryz.prog 192 #[aggV ⟨10, i, g, nm, fn, ar, by_, bt⟩ (.slice p n c)] w fun e w' => e = .returned (aggV { bareF ⟨10, i, g, nm, fn, ar, by_, bt⟩ with kind := 0 } (bareV ⟨10, i, g, nm, fn, ar, by_, bt⟩ (.slice p n c))) ∧ Below w.heap.size w w' := by
  have hb : { bareF ⟨10, i, g, nm, fn, ar, by_, bt⟩ with kind := 0 } = (⟨0, i, g, nm, fn, ar, ⟨#[]⟩, 0⟩ : TF) := by simp [bareF]
  have hv : bareV ⟨10, i, g, nm, fn, ar, by_, bt⟩ (.slice p n c) = (Value.slice p n c) := by simp [bareV, nilV]
  rw [hb, hv]
  unfold aggV
  dsimp only
  clear hb hv
  go_enter Tryz.func192, Tryz.ntmps192
  go_wp2_with fail
  exact bodyPost_ret (v := (.agg #[.int .i64 0, .int .i64 i, .int .i64 g, .string nm, .string fn, .int .i64 ar, (Value.slice p n c), .string ⟨#[]⟩, .int .i64 0])) (by simp [results, Tryz.results192, go_sem, *]) rfl ⟨rfl, by (repeat' (first | with_reducible exact Below.refl _ _ | with_reducible exact Nat.le_refl _ | with_reducible refine Below.setCell ?_ ?_ _ | with_reducible refine Below.alloc ?_ ?_ _ | (simp; done) | (simp; omega)))⟩
theorem bare (f : TF) (p : Option Addr) (n c : Nat) (w : World) :
    Calls Tryz.prog 192 #[aggV f (.slice p n c)] w fun e w' => e = .returned (aggV { bareF f with kind := 0 } (bareV f (.slice p n c))) ∧ Below w.heap.size w w' := by
  obtain ⟨k, i, g, nm, fn, ar, by_, bt⟩ := f
  by_cases h : k ≠ 1 ∧ k ≠ 2 ∧ k ≠ 3 ∧ k ≠ 4 ∧ k ≠ 5 ∧ k ≠ 6 ∧ k ≠ 7 ∧ k ≠ 9 ∧ k ≠ 10
  · exact bareE k i g nm fn ar by_ bt p n c h w
  · have ways : k = 1 ∨ k = 2 ∨ k = 3 ∨ k = 4 ∨ k = 5 ∨ k = 6 ∨ k = 7 ∨ k = 9 ∨ k = 10 := by omega
    rcases ways with rfl | rfl | rfl | rfl | rfl | rfl | rfl | rfl | rfl
    · exact bare1 i g nm fn ar by_ bt p n c w
    · exact bare2 i g nm fn ar by_ bt p n c w
    · exact bare3 i g nm fn ar by_ bt p n c w
    · exact bare4 i g nm fn ar by_ bt p n c w
    · exact bare5 i g nm fn ar by_ bt p n c w
    · exact bare6 i g nm fn ar by_ bt p n c w
    · exact bare7 i g nm fn ar by_ bt p n c w
    · exact bare9 i g nm fn ar by_ bt p n c w
    · exact bare10 i g nm fn ar by_ bt p n c w
theorem zeroT (f : TF) (p : Option Addr) (n c : Nat) (w : World) : Calls Tryz.prog 191 #[aggV f (.slice p n c)] w (BPost (eqB f zeroF && decide (n = 0)) w) := by
  obtain ⟨k, i, g, nm, fn, ar, by_, bt⟩ := f
  have hno : ¬ ((k = 0 ∧ i = 0 ∧ g = 0 ∧ nm = ⟨#[]⟩ ∧ fn = ⟨#[]⟩ ∧ ar = 0 ∧ by_ = ⟨#[]⟩ ∧ bt = 0) ∧ n = 0) → (eqB (⟨k, i, g, nm, fn, ar, by_, bt⟩ : TF) zeroF && decide (n = 0)) = false := fun h => by
    by_cases hn : n = 0
    · rw [eqB_f (fun e => h ⟨(eq_zeroF _ _ _ _ _ _ _ _).1 e, hn⟩)]; rfl
    · rw [decide_eq_false hn, Bool.and_false]
  have hyes : (k = 0 ∧ i = 0 ∧ g = 0 ∧ nm = ⟨#[]⟩ ∧ fn = ⟨#[]⟩ ∧ ar = 0 ∧ by_ = ⟨#[]⟩ ∧ bt = 0) → n = 0 → (eqB (⟨k, i, g, nm, fn, ar, by_, bt⟩ : TF) zeroF && decide (n = 0)) = true := fun h hn => by
    rw [eqB_t ((eq_zeroF _ _ _ _ _ _ _ _).2 h), decide_eq_true hn]; rfl
  unfold aggV zeroF at *
  dsimp only at *
  generalize (eqB (⟨k, i, g, nm, fn, ar, by_, bt⟩ : TF) (⟨0, 0, 0, ⟨#[]⟩, ⟨#[]⟩, 0, ⟨#[]⟩, 0⟩ : TF) && decide (n = 0)) = r at *
  by_cases e : k ≠ 0
  · obtain rfl : r = false := hno (by simp_all)
    have hq : (k == 0) = false := by simp [e]
    clear hno hyes e
    go_enter Tryz.func191, Tryz.ntmps191
    go_wp2_with fail
    go_ret
    exact ⟨rfl, (Below.refl _ _).alloc (Nat.le_refl _) _⟩
  have e := Classical.not_not.1 e
  subst e
  by_cases e : i ≠ 0
  · obtain rfl : r = false := hno (by simp_all)
    have hq : (i == 0) = false := by simp [e]
    clear hno hyes e
    go_enter Tryz.func191, Tryz.ntmps191
    go_wp2_with fail
    go_ret
    exact ⟨rfl, (Below.refl _ _).alloc (Nat.le_refl _) _⟩
  have e := Classical.not_not.1 e
  subst e
  by_cases e : g ≠ 0
  · obtain rfl : r = false := hno (by simp_all)
    have hq : (g == 0) = false := by simp [e]
    clear hno hyes e
    go_enter Tryz.func191, Tryz.ntmps191
    go_wp2_with fail
    go_ret
    exact ⟨rfl, (Below.refl _ _).alloc (Nat.le_refl _) _⟩
  have e := Classical.not_not.1 e
  subst e
  by_cases e : nm ≠ (⟨#[]⟩ : ByteArray)
  · obtain rfl : r = false := hno (by simp_all)
    have hq : nm.toList.isEmpty = false := str_nz e
    have hq3 : (nm.toList == []) = false := str_nz2 e
    have hq2 : ¬ nm.toList = [] := str_nz' e
    clear hno hyes e
    go_enter Tryz.func191, Tryz.ntmps191
    go_wp2_with fail
    go_ret
    exact ⟨rfl, (Below.refl _ _).alloc (Nat.le_refl _) _⟩
  have e := Classical.not_not.1 e
  subst e
  by_cases e : fn ≠ (⟨#[]⟩ : ByteArray)
  · obtain rfl : r = false := hno (by simp_all)
    have hq : fn.toList.isEmpty = false := str_nz e
    have hq3 : (fn.toList == []) = false := str_nz2 e
    have hq2 : ¬ fn.toList = [] := str_nz' e
    clear hno hyes e
    go_enter Tryz.func191, Tryz.ntmps191
    go_wp2_with fail
    go_ret
    exact ⟨rfl, (Below.refl _ _).alloc (Nat.le_refl _) _⟩
  have e := Classical.not_not.1 e
  subst e
  by_cases e : ar ≠ 0
  · obtain rfl : r = false := hno (by simp_all)
    have hq : (ar == 0) = false := by simp [e]
    clear hno hyes e
    go_enter Tryz.func191, Tryz.ntmps191
    go_wp2_with fail
    go_ret
    exact ⟨rfl, (Below.refl _ _).alloc (Nat.le_refl _) _⟩
  have e := Classical.not_not.1 e
  subst e
  by_cases e : n ≠ 0
  · obtain rfl : r = false := hno (by simp_all)
    have hq : (((n : Nat) : Int) == 0) = false := by simp; omega
    clear hno hyes e
    go_enter Tryz.func191, Tryz.ntmps191
    go_wp2_with fail
    go_ret
    exact ⟨rfl, (Below.refl _ _).alloc (Nat.le_refl _) _⟩
  have e := Classical.not_not.1 e
  subst e
  by_cases e : by_ ≠ (⟨#[]⟩ : ByteArray)
  · obtain rfl : r = false := hno (by simp_all)
    have hq : by_.toList.isEmpty = false := str_nz e
    have hq3 : (by_.toList == []) = false := str_nz2 e
    have hq2 : ¬ by_.toList = [] := str_nz' e
    clear hno hyes e
    go_enter Tryz.func191, Tryz.ntmps191
    go_wp2_with fail
    go_ret
    exact ⟨rfl, (Below.refl _ _).alloc (Nat.le_refl _) _⟩
  have e := Classical.not_not.1 e
  subst e
  by_cases e : bt ≠ 0
  · obtain rfl : r = false := hno (by simp_all)
    have hq : (bt == 0) = false := by simp [e]
    clear hno hyes e
    go_enter Tryz.func191, Tryz.ntmps191
    go_wp2_with fail
    go_ret
    exact ⟨rfl, (Below.refl _ _).alloc (Nat.le_refl _) _⟩
  have e := Classical.not_not.1 e
  subst e
  obtain rfl : r = true := hyes ⟨rfl, rfl, rfl, rfl, rfl, rfl, rfl, rfl⟩ rfl
  clear hno hyes
  go_enter Tryz.func191, Tryz.ntmps191
  go_wp2_with fail
  go_ret
  exact ⟨rfl, (Below.refl _ _).alloc (Nat.le_refl _) _⟩
end Go.Proofs.YtnakbepcalciiaaGreat.tm

/- The reference's bits. No condition. -/
namespace Go.Proofs.YtnakbepcalciiaaGreat.tm
open Go.RowKit mem names
set_option linter.unusedVariables false
set_option linter.unusedSimpArgs false
set_option maxHeartbeats 1000000
set_option maxRecDepth 100000

theorem bitsT (k i g : Int) (nm fn : ByteArray) (ar : Int) (by_ : ByteArray) (bt : Int) (p : Option Addr) (n c : Nat) (w : World) :
    Calls Tryz.prog 194 #[aggV ⟨k, i, g, nm, fn, ar, by_, bt⟩ (.slice p n c)] w (BPost (okBits ⟨k, i, g, nm, fn, ar, by_, bt⟩) w) := by
  unfold aggV okBits BPost
  dsimp only
  by_cases h0 : inB bt 0 16384 = true
  · rw [h0]
    have hbt := of_decide_eq_true h0
    have hba : (0 : Int) ≤ bt := hbt.1
    have hbb : bt ≤ 16384 := hbt.2
    have p1 : decide (bt < 0) = false := decide_eq_false (by omega)
    have p2 : decide (16384 < bt) = false := decide_eq_false (by omega)
    have hw7 : IntKind.i64.wrap (bt + 7) = bt + 7 := IntWalk.i64_in _ (by omega)
    have hd7 : (bt + 7).tdiv 8 = (bt + 7) / 8 := Int.tdiv_eq_ediv_of_nonneg (by omega)
    by_cases h1 : (by_.size : Int) = (bt + 7) / 8
    · rw [decide_eq_true h1]
      have q1 : ((by_.size : Int) != (bt + 7) / 8) = false := by simp [h1]
      by_cases h2 : bt % 8 = 0
      · have q2 : (bt % 8 == 0) = true := by simp [h2]
        rw [decide_eq_true (Or.inl h2)]
        clear h1 h2 h0
        go_enter Tryz.func194, Tryz.ntmps194
        go_wp2_with fail
        go_ret
        exact ⟨rfl, (Below.refl _ _).alloc (Nat.le_refl _) _⟩
      · obtain ⟨m, hm⟩ : ∃ m, by_.size = m + 1 := ⟨by_.size - 1, by omega⟩
        have hm2 : m < by_.size := by omega
        have hsz : (by_.size : Int) = (m : Int) + 1 := by omega
        have hsz2 : (bt + 7) / 8 = (m : Int) + 1 := by omega
        have hmm : (m : Int) < 10000 := by omega
        have hwm : IntKind.i64.wrap (m : Int) = m := IntWalk.i64_in _ (by omega)
        obtain ⟨r, hr⟩ : ∃ r : Nat, bt % 8 = (r : Int) := ⟨(bt % 8).toNat, by omega⟩
        have hr1 : 1 ≤ r := by omega
        have hr7 : r ≤ 7 := by omega
        have htm : bt.tmod 8 = (r : Int) := by rw [Int.tmod_eq_emod_of_nonneg hbt.1]; exact hr
        have hlast : lastByte by_ = (by_[m]'hm2).toNat := last_byte by_ m hm
        have hix : ∀ w : World, (Instr.index 9 (.string by_) (.int .i64 (m : Int))).run Tryz.prog w = .ok (.int .u8 ((by_[m]'hm2).toNat : Int)) w := fun w => by
          rw [run_index_string w 9 by_ .i64 (m : Int) Tryz.underlying9, dif_pos ⟨by omega, by omega⟩]; rfl
        have hb8 : (by_[m]'hm2).toNat < 256 := UInt8.toNat_lt _
        have hiff : (decide (bt % 8 = 0 ∨ lastByte by_ % 2 ^ (8 - (bt % 8).toNat) = 0)) = decide ((by_[m]'hm2).toNat % 2 ^ (8 - r) = 0) := by
          rw [hlast, hr, Int.toNat_natCast]
          apply decide_eq_decide.2
          constructor
          · rintro (h | h)
            · omega
            · exact h
          · exact .inr
        rw [hiff]
        have q2 : ((r : Int) == 0) = false := by simp; omega
        have q1' : ((m : Int) + 1 != (m : Int) + 1) = false := by simp
        clear hlast hm h0 h1 h2 hiff q1
        generalize (by_[m]'hm2).toNat = b at *
        have HR := Lib.hid hr
        clear hr
        have hb8i : (b : Int) < 256 := by omega
        go_enter Tryz.func194, Tryz.ntmps194
        go_wp2_with fail
        go_loop [4, 5] (fun a b => ∃ j u : Nat, a = .int .i64 u ∧ b = .int .i64 j ∧ r ≤ j ∧ j ≤ 8 ∧ Hid (u = 2 ^ (j - r)) ∧ 1 ≤ u ∧ u ≤ 128) (fun a b => 8 - (intOf b).toNat)
        case atStart => exact ⟨r, 1, rfl, rfl, by omega, by omega, Lib.hid (by simp), by omega, by omega⟩
        case round =>
          obtain ⟨j, u, rfl, rfl, hj1, hj8, hu, hu1, hu2⟩ := hrel
          by_cases hlt : j < 8
          · have hw2 : IntKind.i64.wrap ((u : Int) * 2) = (u : Int) * 2 := IntWalk.i64_in _ (by omega)
            have hu3 : u * 2 = 2 ^ (j + 1 - r) := by
              rw [hu.out, show j + 1 - r = (j - r) + 1 by omega, Nat.pow_succ]
            have hu4 : u * 2 ≤ 128 := by
              rw [hu3]
              calc 2 ^ (j + 1 - r) ≤ 2 ^ 7 := Nat.pow_le_pow_right (by omega) (by omega)
                _ = 128 := rfl
            have HU3 := Lib.hid hu3
            clear hu3
            go_wp2_with fail
            go_round
            case rel => exact ⟨j + 1, u * 2, by simp, by go_num, by omega, by omega, HU3, by omega, by omega⟩
            case measure => simp [intOf]; omega
          · obtain rfl : j = 8 := by omega
            have hu0 : ((u : Int) == 0) = false := by simp; omega
            have hu0' : (u : Int) ≠ 0 := by omega
            have htm2 : (b : Int).tmod (u : Int) = ((b % u : Nat) : Int) := by rw [Int.tmod_eq_emod_of_nonneg (by omega)]; rfl
            have hfin : decide (b % 2 ^ (8 - r) = 0) = (((b % u : Nat) : Int) == 0) := by
              rw [hu.out]
              by_cases e : b % 2 ^ (8 - r) = 0
              · rw [decide_eq_true e, e]; rfl
              · rw [decide_eq_false e]; symm; rw [beq_eq_false_iff_ne]; omega
            have HF := Lib.hid hfin
            clear hfin
            go_wp2_with fail
            go_ret
            exact ⟨by simp [HF.out], (Below.refl _ _).alloc (Nat.le_refl _) _⟩
    · rw [decide_eq_false h1]
      have q1 : ((by_.size : Int) != (bt + 7) / 8) = true := by simp [h1]
      clear h1 h0
      go_enter Tryz.func194, Tryz.ntmps194
      go_wp2_with fail
      go_ret
      exact ⟨rfl, (Below.refl _ _).alloc (Nat.le_refl _) _⟩
  · have h0 : inB bt 0 16384 = false := by simpa using h0
    have hbt := of_decide_eq_false h0
    rw [h0]
    by_cases h1 : bt < 0
    · have p1 : decide (bt < 0) = true := decide_eq_true h1
      go_enter Tryz.func194, Tryz.ntmps194
      go_wp2_with fail
      go_ret
      exact ⟨rfl, (Below.refl _ _).alloc (Nat.le_refl _) _⟩
    · have p1 : decide (bt < 0) = false := decide_eq_false h1
      have p2 : decide (16384 < bt) = true := decide_eq_true (by omega)
      clear hbt h0
      go_enter Tryz.func194, Tryz.ntmps194
      go_wp2_with fail
      go_ret
      exact ⟨rfl, (Below.refl _ _).alloc (Nat.le_refl _) _⟩
end Go.Proofs.YtnakbepcalciiaaGreat.tm

/- terms.kinds, the measure. No condition. -/
namespace Go.Proofs.YtnakbepcalciiaaGreat.tm
open Go.RowKit mem names
set_option linter.unusedVariables false
set_option linter.unusedSimpArgs false
set_option maxHeartbeats 1000000
set_option maxRecDepth 100000

def fnV (k : Nat) : Value := .func (.func k) #[] #[]
def fnsV : Value := .agg #[.func (.func 256) #[] #[], .func (.func 257) #[] #[], .func (.func 258) #[] #[], .func (.func 254) #[] #[], .func (.func 259) #[] #[], .func (.func 260) #[] #[], .func (.func 254) #[] #[], .func (.func 261) #[] #[], .func (.func 262) #[] #[], .func (.func 263) #[] #[], .func (.func 264) #[] #[]]
theorem kinds (w : World) : Calls Tryz.prog 226 #[] w fun e w' => e = .returned fnsV ∧ Below w.heap.size w w' := by
  unfold fnsV
  go_enter Tryz.func226, Tryz.ntmps226
  go_wp2_with fail
  exact bodyPost_ret (v := .agg #[.func (.func 256) #[] #[], .func (.func 257) #[] #[], .func (.func 258) #[] #[], .func (.func 254) #[] #[], .func (.func 259) #[] #[], .func (.func 260) #[] #[], .func (.func 254) #[] #[], .func (.func 261) #[] #[], .func (.func 262) #[] #[], .func (.func 263) #[] #[], .func (.func 264) #[] #[]]) (by simp [results, Tryz.results226, go_sem, *]) rfl ⟨rfl, by (repeat' (first | with_reducible exact Below.refl _ _ | with_reducible exact Nat.le_refl _ | with_reducible refine Below.setCell ?_ ?_ _ | with_reducible refine Below.alloc ?_ ?_ _ | (simp; done) | (simp; omega)))⟩
def fnum (k : Int) : Nat := if k = 0 then 256 else if k = 1 then 257 else if k = 2 then 258 else if k = 3 then 254 else if k = 4 then 259 else if k = 5 then 260 else if k = 6 then 254 else if k = 7 then 261 else if k = 8 then 262 else if k = 9 then 263 else 264
theorem last_cell {w : World} {B n : Nat} {p : Option Addr} {m c : Nat} {l : List (Tm n)} (h : ItemsAt w B n (.slice p m c) l) (h2 : 2 ≤ m) : ∃ g0 o0, p = some ⟨g0, o0, none⟩ ∧ w.cell? ⟨g0, o0 + (m - 1) * 9, none⟩ = some (.int .i64 (lastK n l)) ∧ g0 < B := by
  obtain ⟨p', c', e, _, _⟩ := h.shape
  simp only [Value.slice.injEq] at e
  obtain ⟨rfl, rfl, rfl⟩ := e
  cases n with
  | zero => rw [Tm.nil0 l] at h2; simp at h2
  | succ n =>
    obtain ⟨g, o, c2, e, _, _, hg, hx⟩ := h.at_ (by intro e; subst e; simp at h2)
    simp only [Value.slice.injEq] at e
    obtain ⟨u, hC, _⟩ := hx (l.length - 1) (by omega)
    refine ⟨g, o, e.1, ?_, hg⟩
    have : lastK (n + 1) l = (l[l.length - 1]'(by omega)).f.kind := by
      change (Option.map (fun t : Tm (n + 1) => t.f.kind) (List.getLast? l)).getD 0 = _
      rw [List.getLast?_eq_getElem?, List.getElem?_eq_getElem (by omega)]; rfl
    rw [this]; exact hC.c0
theorem kindAll {n : Nat} (f : TF) (v : Value) (l : List (Tm n)) (w : World) (B : Nat) (hB : B ≤ w.heap.size) (hI : ItemsAt w B n v l) (h0 : 0 ≤ f.kind) (h1 : f.kind ≤ 10) : Calls Tryz.prog (fnum f.kind) #[aggV f v] w (KPost f v l.length (lastK n l) w) := by
  obtain ⟨p, c, rfl, hn, hc⟩ := hI.shape
  unfold maxLen at hc
  have hlast := fun h2 => last_cell hI h2
  obtain ⟨k, i, g, nm, fn, ar, by_, bt⟩ := f
  dsimp only at h0 h1 ⊢
  have ways : k = 0 ∨ k = 1 ∨ k = 2 ∨ k = 3 ∨ k = 4 ∨ k = 5 ∨ k = 6 ∨ k = 7 ∨ k = 8 ∨ k = 9 ∨ k = 10 := by omega
  rcases ways with rfl | rfl | rfl | rfl | rfl | rfl | rfl | rfl | rfl | rfl | rfl
  · exact kind0 i g nm fn ar by_ bt p _ c _ w hn (by omega)
  · exact kindInt i g nm fn ar by_ bt p _ c _ w hn (by omega)
  · exact kindAtom i g nm fn ar by_ bt p _ c _ w hn (by omega)
  · exact kindRef i g nm fn ar by_ bt p _ c _ w hn (by omega)
  · exact kindClosure i g nm fn ar by_ bt p _ c _ w hn (by omega)
  · exact kindExport i g nm fn ar by_ bt p _ c _ w hn (by omega)
  · exact kindPid i g nm fn ar by_ bt p _ c _ w hn (by omega)
  · exact kindTuple i g nm fn ar by_ bt p _ c _ w hn (by omega)
  · exact kindNil i g nm fn ar by_ bt p _ c _ w hn (by omega)
  · exact kindList i g nm fn ar by_ bt p _ c _ w hn (by omega) (fun h2 => by obtain ⟨g0, o0, e1, e2, e3⟩ := hlast h2; exact ⟨g0, o0, e1, e2, by omega⟩)
  · exact kindBits i g nm fn ar by_ bt p _ c _ w

def measC (s : Int) : Obj := .cells #[.func (.func 256) #[] #[], .func (.func 257) #[] #[], .func (.func 258) #[] #[], .func (.func 254) #[] #[], .func (.func 259) #[] #[], .func (.func 260) #[] #[], .func (.func 254) #[] #[], .func (.func 261) #[] #[], .func (.func 262) #[] #[], .func (.func 263) #[] #[], .func (.func 264) #[] #[], .int .i64 s] 288
def Meas (w : World) (g : Nat) (s : Int) : Prop := w.heap[g]? = some (measC s)
theorem Meas.fn {w : World} {g : Nat} {s : Int} (h : Meas w g s) (k : Nat) (hk : k ≤ 10) : w.cell? ⟨g, k, none⟩ = some (.func (.func (fnum k)) #[] #[]) := by
  unfold Meas measC at h
  have ways : k = 0 ∨ k = 1 ∨ k = 2 ∨ k = 3 ∨ k = 4 ∨ k = 5 ∨ k = 6 ∨ k = 7 ∨ k = 8 ∨ k = 9 ∨ k = 10 := by omega
  rcases ways with rfl | rfl | rfl | rfl | rfl | rfl | rfl | rfl | rfl | rfl | rfl <;> (simp only [World.cell?, h]; rfl)
theorem Meas.size {w : World} {g : Nat} {s : Int} (h : Meas w g s) : w.cell? ⟨g, 11, none⟩ = some (.int .i64 s) := by
  unfold Meas measC at h; simp only [World.cell?, h]; rfl
theorem Meas.frozen {w : World} {g : Nat} {s : Int} (h : Meas w g s) (o : Nat) : w.frozen? ⟨g, o, none⟩ = false := by
  unfold Meas measC at h; simp only [World.frozen?, h]; simp
theorem Meas.lt {w : World} {g : Nat} {s : Int} (h : Meas w g s) : g < w.heap.size := by
  rcases Nat.lt_or_ge g w.heap.size with h1 | h1
  · exact h1
  · unfold Meas at h; rw [Array.getElem?_eq_none h1] at h; cases h
theorem Meas.set {w : World} {g : Nat} {s : Int} (h : Meas w g s) (s' : Int) : Meas (w.setCell ⟨g, 11, none⟩ (.int .i64 s')) g s' := by
  have hl := h.lt
  unfold Meas measC at *
  unfold World.setCell
  rw [Array.getElem?_modify, if_pos rfl, h]
  rfl
theorem Meas.block {w w' : World} {g : Nat} {s : Int} (h : Meas w g s) (e : w'.heap[g]? = w.heap[g]?) : Meas w' g s := by
  unfold Meas at *; rw [e]; exact h
end Go.Proofs.YtnakbepcalciiaaGreat.tm
