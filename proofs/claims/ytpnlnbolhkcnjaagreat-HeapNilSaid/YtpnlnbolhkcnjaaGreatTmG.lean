
/- terms: the functions of lists and bit strings. Conditions: the elements lie in memory. -/
import Derived.Test.YtpnlnbolhkcnjaaGreatTmE
namespace Go.Proofs.YtpnlnbolhkcnjaaGreat.tm
open Go.RowKit mem names
set_option linter.unusedVariables false
set_option linter.unusedSimpArgs false
set_option maxHeartbeats 1000000
set_option maxRecDepth 100000
theorem kindList (i g : Int) (nm fn : ByteArray) (ar : Int) (by_ : ByteArray) (bt : Int) (p : Option Addr) (n c : Nat) (last : Int) (w : World) (hn : n ≤ c) (hc : c ≤ 9223372036854775807)
    (hl : 2 ≤ n → ∃ g0 o0, p = some ⟨g0, o0, none⟩ ∧ w.cell? ⟨g0, o0 + (n - 1) * 9, none⟩ = some (.int .i64 last) ∧ g0 < w.heap.size) :
    Calls Tryz.prog 263 #[aggV ⟨9, i, g, nm, fn, ar, by_, bt⟩ (.slice p n c)] w (KPost ⟨9, i, g, nm, fn, ar, by_, bt⟩ (.slice p n c) n last w) := by
  have hb : bareF ⟨9, i, g, nm, fn, ar, by_, bt⟩ = ⟨9, i, g, nm, fn, ar, by_, bt⟩ := by simp [bareF]
  have hv : bareV ⟨9, i, g, nm, fn, ar, by_, bt⟩ (.slice p n c) = .slice none 0 0 := by simp [bareV, nilV]
  have ho : okF ⟨9, i, g, nm, fn, ar, by_, bt⟩ n last = (decide (2 ≤ n) && decide (last ≠ 9)) := by simp [okF]
  unfold KPost
  rw [hb, hv, ho]
  unfold aggV
  dsimp only
  clear hb hv ho
  by_cases h0 : 2 ≤ n
  · rw [decide_eq_true h0]
    obtain ⟨g0, o0, rfl, hcell, hg0⟩ := hl h0
    obtain ⟨m, rfl⟩ : ∃ m, n = m + 2 := ⟨n - 2, by omega⟩
    rw [show m + 2 - 1 = m + 1 by omega] at hcell
    clear hl
    have hc1 : ∀ o1 o2 : Obj, ((w.alloc o1).alloc o2).cell? ⟨g0, o0 + (m + 1) * 9, none⟩ = some (.int .i64 last) := fun o1 o2 => by
      rw [World.cell?_alloc_lt _ _ _ (by simp; omega), World.cell?_alloc_lt _ _ _ hg0]; exact hcell
    by_cases h1 : last ≠ 9
    · have hq : (last != 9) = true := by simpa using h1
      rw [decide_eq_true h1]
      clear h1
      go_enter Tryz.func263, Tryz.ntmps263
      go_wp2_with fail
      exact bodyPost_ret (v := (.tuple #[.agg #[.int .i64 9, .int .i64 i, .int .i64 g, .string nm, .string fn, .int .i64 ar, .slice none 0 0, .string by_, .int .i64 bt], .bool true])) (by simp [results, Tryz.results263, go_sem, *]) rfl ⟨by simp, by (repeat' (first | with_reducible exact Below.refl _ _ | with_reducible exact Nat.le_refl _ | with_reducible refine Below.setCell ?_ ?_ _ | with_reducible refine Below.alloc ?_ ?_ _ | (simp; done) | (simp; omega)))⟩
    · have hq : (last != 9) = false := by simpa using h1
      rw [decide_eq_false h1]
      clear h1
      go_enter Tryz.func263, Tryz.ntmps263
      go_wp2_with fail
      exact bodyPost_ret (v := (.tuple #[.agg #[.int .i64 9, .int .i64 i, .int .i64 g, .string nm, .string fn, .int .i64 ar, .slice none 0 0, .string by_, .int .i64 bt], .bool false])) (by simp [results, Tryz.results263, go_sem, *]) rfl ⟨by simp, by (repeat' (first | with_reducible exact Below.refl _ _ | with_reducible exact Nat.le_refl _ | with_reducible refine Below.setCell ?_ ?_ _ | with_reducible refine Below.alloc ?_ ?_ _ | (simp; done) | (simp; omega)))⟩
  · rw [decide_eq_false h0]
    have hq : (n : Int) < 2 := by omega
    clear hl
    go_enter Tryz.func263, Tryz.ntmps263
    go_wp2_with fail
    exact bodyPost_ret (v := (.tuple #[.agg #[.int .i64 9, .int .i64 i, .int .i64 g, .string nm, .string fn, .int .i64 ar, .slice none 0 0, .string by_, .int .i64 bt], .bool false])) (by simp [results, Tryz.results263, go_sem, *]) rfl ⟨by simp, by (repeat' (first | with_reducible exact Below.refl _ _ | with_reducible exact Nat.le_refl _ | with_reducible refine Below.setCell ?_ ?_ _ | with_reducible refine Below.alloc ?_ ?_ _ | (simp; done) | (simp; omega)))⟩
end Go.Proofs.YtpnlnbolhkcnjaaGreat.tm
