/- Several texts in one, one behind the other: LkZi. No condition beyond theirs. -/
import Derived.Test.YtnakbepcalciiaaGreatHb
import Derived.ChangeSlices
import Derived.Lib.SmallJoins
import Derived.OpenShut
/- How the laws' lists of integers lie in memory. No condition. -/
namespace Go.Proofs.YtnakbepcalciiaaGreat.lk
open Go.RowKit mem Go.ChangeShapes Go.WideShapes Go.ChangeAt Go.Joins
set_option linter.unusedVariables false
set_option maxRecDepth 100000
theorem cells3 : Tryz.prog.cellsOf 3 = 1 := by kernel_rfl
theorem open_nums {H : Type} {enc : TypeId × Value → H} {W : World} {b : Nat} {v : Value} {d : DataW H} {ps : List MemPlace} (hv : Value.okWide Tryz.prog W .any b 65 v) (h : DataW.Trod enc Tryz.prog W 0 (fun _ => true) true 65 v d ps) :
    ∃ (p : Option Addr) (L : List Int) (c : Nat), v = .slice p L.length c ∧ Nums W p L ∧ L.length ≤ maxLen := by
  obtain ⟨a0, len, cap, rfl⟩ := okWide_slice Tryz.underlying65 hv
  obtain ⟨fuel, hf⟩ := h
  rcases open_ints Tryz.underlying65 Tryz.underlying3 cells3 hf with ⟨hcs, hx⟩ | ⟨a, len', cap', ss, hcs, _, hl, hm, hz, hx, hcell, _⟩
  · simp [Value.cells] at hcs
    obtain ⟨rfl, rfl, rfl⟩ := hcs
    exact ⟨none, [], 0, rfl, fun i hi => absurd hi (by simp), by simp⟩
  · simp [Value.cells] at hcs
    obtain ⟨rfl, rfl, rfl⟩ := hcs
    simp only [if_true] at hz
    have hlen : (ss.take len).length = len := by rw [List.length_take]; omega
    refine ⟨some a, ss.take len, cap, by rw [hlen], fun i hi => ?_, by rw [hlen]; omega⟩
    rw [hlen] at hi
    have hc := hcell i (by omega)
    refine ⟨a, rfl, ?_, ?_⟩
    · have := World.block_lt_of_cell? W _ hc; rw [add_blk] at this; exact this
    · rw [hc]; simp [List.getElem_take, List.getElem?_eq_getElem (show i < ss.length by omega)]
end Go.Proofs.YtnakbepcalciiaaGreat.lk
