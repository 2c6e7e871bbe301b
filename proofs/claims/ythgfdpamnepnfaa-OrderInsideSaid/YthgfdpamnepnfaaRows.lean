/-
  NARROWER THAN 'FOR EVERY INPUT', by the rows' own cells (each row's printed sentence says how): OrderCompares: loops · OrderSorts: loops · OrderUnique: loops · OrderSearches: loops · OrderTotal: loops · OrderInside: loops · OrderMerges: loops.
  DERIVED. THE GIVEN ROWS OF THIS SEAT. 7 by the template 'for every input the law returns true; each argument reads behind the call as it read before'; 0 by the template 'total and deterministic' (their statements: YthgfdpamnepnfaaTotals.lean).
  GIVEN WITH THE SEED: the statements are not yours to turn. If you find one false, say at which input.
  Laid BY PROGRAM, IN A SANDBOX (cutbox-rows.mjs): the forced cells as the released guide's own fill.sh prints them over the translation 888424f2bc8445de… (all of the seat's roots in one cut). By AI agents, Wed Nov 11 2026. No macro, syntax, notation, axiom, sorry.
-/
import Derived.Test.YthgfdpamnepnfaaChecked
import GoSem.Claim
import GoSem.ClaimJoined
import GoSem.ClaimMapViews
import Derived.JoinedTies
import Derived.KernelRfl
namespace Go.Proofs.Ythgfdpamnepnfaa
/- THE CELL 'sum', in the pinned program and in every row, IS THE sha256 OF THE DUMP (.gsa) THAT YthgfdpamnepnfaaProg.lean LOADS. Nothing in Lean hashes anything: it is a label: what it is worth is what the hold of that sum in a sandbox is worth. -/
noncomputable def Try.pinned : Pinned := { name := "ythgfdpamnepnfaa", sum := "888424f2bc8445de869ebdf14e4fc15c426edbf0820ebb15fded2ece17a43fea", checked := Try.checked }
namespace Rows
def none {H : Type} : Left H := { results := [], args := [] }

/-- 'stagehandlaw04.OrderCompares': WHATEVER THE INPUT: true; the input reads as it did. -/
def orderComparesSpec : ChangeSpec := { name := "orderCompares", fn := fun _ => fun
  | [d1, d2] => { results := [.lit (.bool true)], args := [d1, d2] }
  | _ => none }
def orderComparesRow : OpenClaim := { program := "ythgfdpamnepnfaa", sum := "888424f2bc8445de869ebdf14e4fc15c426edbf0820ebb15fded2ece17a43fea", func := "stagehand/stagehandlaw04.OrderCompares", spec := "orderCompares", inPlace := ["internal/bytealg.abigen_runtime_cmpstring"], unfollowed := true, recurses := true, loops := true, apart := false }
def OrderComparesSaid : Prop := orderComparesRow.holds Try.pinned (OpenSpec.ofChange orderComparesSpec)

/-- ITS FALSE NEIGHBOUR: 'it returns false'. Refute it at one input. -/
def orderComparesWrong : ChangeSpec := { name := "orderCompares", fn := fun _ => fun
  | [d1, d2] => { results := [.lit (.bool false)], args := [d1, d2] }
  | _ => none }
def OrderComparesWrongFalsely : Prop := orderComparesRow.holds Try.pinned (OpenSpec.ofChange orderComparesWrong)

/-- 'stagehandlaw04.OrderSorts': WHATEVER THE INPUT: true; the input reads as it did. -/
def orderSortsSpec : ChangeSpec := { name := "orderSorts", fn := fun _ => fun
  | [d] => { results := [.lit (.bool true)], args := [d] }
  | _ => none }
def orderSortsRow : OpenClaim := { program := "ythgfdpamnepnfaa", sum := "888424f2bc8445de869ebdf14e4fc15c426edbf0820ebb15fded2ece17a43fea", func := "stagehand/stagehandlaw04.OrderSorts", spec := "orderSorts", inPlace := ["internal/bytealg.abigen_runtime_cmpstring"], unfollowed := true, recurses := true, loops := true, apart := false }
def OrderSortsSaid : Prop := orderSortsRow.holds Try.pinned (OpenSpec.ofChange orderSortsSpec)

/-- ITS FALSE NEIGHBOUR: 'it returns false'. Refute it at one input. -/
def orderSortsWrong : ChangeSpec := { name := "orderSorts", fn := fun _ => fun
  | [d] => { results := [.lit (.bool false)], args := [d] }
  | _ => none }
def OrderSortsWrongFalsely : Prop := orderSortsRow.holds Try.pinned (OpenSpec.ofChange orderSortsWrong)

/-- 'stagehandlaw04.OrderUnique': WHATEVER THE INPUT: true; the input reads as it did. -/
def orderUniqueSpec : ChangeSpec := { name := "orderUnique", fn := fun _ => fun
  | [d] => { results := [.lit (.bool true)], args := [d] }
  | _ => none }
def orderUniqueRow : OpenClaim := { program := "ythgfdpamnepnfaa", sum := "888424f2bc8445de869ebdf14e4fc15c426edbf0820ebb15fded2ece17a43fea", func := "stagehand/stagehandlaw04.OrderUnique", spec := "orderUnique", inPlace := ["internal/bytealg.abigen_runtime_cmpstring"], unfollowed := true, recurses := true, loops := true, apart := false }
def OrderUniqueSaid : Prop := orderUniqueRow.holds Try.pinned (OpenSpec.ofChange orderUniqueSpec)

/-- ITS FALSE NEIGHBOUR: 'it returns false'. Refute it at one input. -/
def orderUniqueWrong : ChangeSpec := { name := "orderUnique", fn := fun _ => fun
  | [d] => { results := [.lit (.bool false)], args := [d] }
  | _ => none }
def OrderUniqueWrongFalsely : Prop := orderUniqueRow.holds Try.pinned (OpenSpec.ofChange orderUniqueWrong)

/-- 'stagehandlaw04.OrderSearches': WHATEVER THE INPUT: true; the input reads as it did. -/
def orderSearchesSpec : ChangeSpec := { name := "orderSearches", fn := fun _ => fun
  | [d1, d2] => { results := [.lit (.bool true)], args := [d1, d2] }
  | _ => none }
def orderSearchesRow : OpenClaim := { program := "ythgfdpamnepnfaa", sum := "888424f2bc8445de869ebdf14e4fc15c426edbf0820ebb15fded2ece17a43fea", func := "stagehand/stagehandlaw04.OrderSearches", spec := "orderSearches", inPlace := ["internal/bytealg.abigen_runtime_cmpstring"], unfollowed := true, recurses := true, loops := true, apart := false }
def OrderSearchesSaid : Prop := orderSearchesRow.holds Try.pinned (OpenSpec.ofChange orderSearchesSpec)

/-- ITS FALSE NEIGHBOUR: 'it returns false'. Refute it at one input. -/
def orderSearchesWrong : ChangeSpec := { name := "orderSearches", fn := fun _ => fun
  | [d1, d2] => { results := [.lit (.bool false)], args := [d1, d2] }
  | _ => none }
def OrderSearchesWrongFalsely : Prop := orderSearchesRow.holds Try.pinned (OpenSpec.ofChange orderSearchesWrong)

/-- 'stagehandlaw04.OrderTotal': WHATEVER THE INPUT: true; the input reads as it did. -/
def orderTotalSpec : ChangeSpec := { name := "orderTotal", fn := fun _ => fun
  | [d1, d2, d3] => { results := [.lit (.bool true)], args := [d1, d2, d3] }
  | _ => none }
def orderTotalRow : OpenClaim := { program := "ythgfdpamnepnfaa", sum := "888424f2bc8445de869ebdf14e4fc15c426edbf0820ebb15fded2ece17a43fea", func := "stagehand/stagehandlaw04.OrderTotal", spec := "orderTotal", inPlace := ["internal/bytealg.abigen_runtime_cmpstring"], unfollowed := true, recurses := true, loops := true, apart := false }
def OrderTotalSaid : Prop := orderTotalRow.holds Try.pinned (OpenSpec.ofChange orderTotalSpec)

/-- ITS FALSE NEIGHBOUR: 'it returns false'. Refute it at one input. -/
def orderTotalWrong : ChangeSpec := { name := "orderTotal", fn := fun _ => fun
  | [d1, d2, d3] => { results := [.lit (.bool false)], args := [d1, d2, d3] }
  | _ => none }
def OrderTotalWrongFalsely : Prop := orderTotalRow.holds Try.pinned (OpenSpec.ofChange orderTotalWrong)

/-- 'stagehandlaw04.OrderInside': WHATEVER THE INPUT: true; the input reads as it did. -/
def orderInsideSpec : ChangeSpec := { name := "orderInside", fn := fun _ => fun
  | [d1, d2, d3] => { results := [.lit (.bool true)], args := [d1, d2, d3] }
  | _ => none }
def orderInsideRow : OpenClaim := { program := "ythgfdpamnepnfaa", sum := "888424f2bc8445de869ebdf14e4fc15c426edbf0820ebb15fded2ece17a43fea", func := "stagehand/stagehandlaw04.OrderInside", spec := "orderInside", inPlace := ["internal/bytealg.abigen_runtime_cmpstring"], unfollowed := true, recurses := true, loops := true, apart := false }
def OrderInsideSaid : Prop := orderInsideRow.holds Try.pinned (OpenSpec.ofChange orderInsideSpec)

/-- ITS FALSE NEIGHBOUR: 'it returns false'. Refute it at one input. -/
def orderInsideWrong : ChangeSpec := { name := "orderInside", fn := fun _ => fun
  | [d1, d2, d3] => { results := [.lit (.bool false)], args := [d1, d2, d3] }
  | _ => none }
def OrderInsideWrongFalsely : Prop := orderInsideRow.holds Try.pinned (OpenSpec.ofChange orderInsideWrong)

/-- 'stagehandlaw04.OrderMerges': WHATEVER THE INPUT: true; the input reads as it did. -/
def orderMergesSpec : ChangeSpec := { name := "orderMerges", fn := fun _ => fun
  | [d1, d2] => { results := [.lit (.bool true)], args := [d1, d2] }
  | _ => none }
def orderMergesRow : OpenClaim := { program := "ythgfdpamnepnfaa", sum := "888424f2bc8445de869ebdf14e4fc15c426edbf0820ebb15fded2ece17a43fea", func := "stagehand/stagehandlaw04.OrderMerges", spec := "orderMerges", inPlace := ["internal/bytealg.abigen_runtime_cmpstring"], unfollowed := true, recurses := true, loops := true, apart := false }
def OrderMergesSaid : Prop := orderMergesRow.holds Try.pinned (OpenSpec.ofChange orderMergesSpec)

/-- ITS FALSE NEIGHBOUR: 'it returns false'. Refute it at one input. -/
def orderMergesWrong : ChangeSpec := { name := "orderMerges", fn := fun _ => fun
  | [d1, d2] => { results := [.lit (.bool false)], args := [d1, d2] }
  | _ => none }
def OrderMergesWrongFalsely : Prop := orderMergesRow.holds Try.pinned (OpenSpec.ofChange orderMergesWrong)

/- THE SECOND FORM. 'bulk': how many values and letters a reading holds, each counted each time it is reached (what is shared counts as often as it is met; a slice's spare places count too). A statement '..UptoSaid' is the law's where the arguments, and the package variables that the reading takes, are together of bulk at most 1048576: NARROWER than '..Said'. Prove '..Said' where nothing that the law and all that it calls make is longer than what came in: it says more and counts as full. Else prove '..UptoSaid'. A law counts once. -/
mutual
def uptoBulk {H : Type} : DataW H → Nat
  | .lit (.string bytes) => bytes.length + 1
  | .lit _ => 1
  | .nil => 1
  | .ptr d => uptoBulk d + 1
  | .slice elems spare => uptoBulkAll elems + uptoBulkAll spare + 1
  | .agg parts => uptoBulkAll parts + 1
  | .iface _ d => uptoBulk d + 1
  | .map entries => uptoBulkEntries entries + 1
  | .held _ => 1
def uptoBulkAll {H : Type} : List (DataW H) → Nat
  | [] => 0
  | d :: r => uptoBulk d + uptoBulkAll r
def uptoBulkEntries {H : Type} : List (Lit × DataW H) → Nat
  | [] => 0
  | x :: r => uptoBulkEntry x + uptoBulkEntries r
def uptoBulkEntry {H : Type} : Lit × DataW H → Nat
  | (.string bytes, d) => bytes.length + uptoBulk d + 1
  | (_, d) => uptoBulk d + 1
 end
def uptoSmall : (H : Type) → List (DataW H) → Bool := fun _ ds => decide (uptoBulkAll ds ≤ 1048576)
def OpenSpec.upto (s : _root_.Go.ChangeSpec) : _root_.Go.OpenSpec := { _root_.Go.OpenSpec.ofChange s with cond := some uptoSmall }

/-- 'stagehandlaw04.OrderCompares', WHERE WHAT IT READS IS OF BULK AT MOST 1048576: true; the input reads as it did. -/
def orderComparesUptoRow : OpenClaim := { program := "ythgfdpamnepnfaa", sum := "888424f2bc8445de869ebdf14e4fc15c426edbf0820ebb15fded2ece17a43fea", func := "stagehand/stagehandlaw04.OrderCompares", spec := "orderCompares", inPlace := ["internal/bytealg.abigen_runtime_cmpstring"], unfollowed := true, recurses := true, loops := true, apart := false, narrowed := true }
def OrderComparesUptoSaid : Prop := orderComparesUptoRow.holds Try.pinned (OpenSpec.upto orderComparesSpec)

/-- 'stagehandlaw04.OrderSorts', WHERE WHAT IT READS IS OF BULK AT MOST 1048576: true; the input reads as it did. -/
def orderSortsUptoRow : OpenClaim := { program := "ythgfdpamnepnfaa", sum := "888424f2bc8445de869ebdf14e4fc15c426edbf0820ebb15fded2ece17a43fea", func := "stagehand/stagehandlaw04.OrderSorts", spec := "orderSorts", inPlace := ["internal/bytealg.abigen_runtime_cmpstring"], unfollowed := true, recurses := true, loops := true, apart := false, narrowed := true }
def OrderSortsUptoSaid : Prop := orderSortsUptoRow.holds Try.pinned (OpenSpec.upto orderSortsSpec)

/-- 'stagehandlaw04.OrderUnique', WHERE WHAT IT READS IS OF BULK AT MOST 1048576: true; the input reads as it did. -/
def orderUniqueUptoRow : OpenClaim := { program := "ythgfdpamnepnfaa", sum := "888424f2bc8445de869ebdf14e4fc15c426edbf0820ebb15fded2ece17a43fea", func := "stagehand/stagehandlaw04.OrderUnique", spec := "orderUnique", inPlace := ["internal/bytealg.abigen_runtime_cmpstring"], unfollowed := true, recurses := true, loops := true, apart := false, narrowed := true }
def OrderUniqueUptoSaid : Prop := orderUniqueUptoRow.holds Try.pinned (OpenSpec.upto orderUniqueSpec)

/-- 'stagehandlaw04.OrderSearches', WHERE WHAT IT READS IS OF BULK AT MOST 1048576: true; the input reads as it did. -/
def orderSearchesUptoRow : OpenClaim := { program := "ythgfdpamnepnfaa", sum := "888424f2bc8445de869ebdf14e4fc15c426edbf0820ebb15fded2ece17a43fea", func := "stagehand/stagehandlaw04.OrderSearches", spec := "orderSearches", inPlace := ["internal/bytealg.abigen_runtime_cmpstring"], unfollowed := true, recurses := true, loops := true, apart := false, narrowed := true }
def OrderSearchesUptoSaid : Prop := orderSearchesUptoRow.holds Try.pinned (OpenSpec.upto orderSearchesSpec)

/-- 'stagehandlaw04.OrderTotal', WHERE WHAT IT READS IS OF BULK AT MOST 1048576: true; the input reads as it did. -/
def orderTotalUptoRow : OpenClaim := { program := "ythgfdpamnepnfaa", sum := "888424f2bc8445de869ebdf14e4fc15c426edbf0820ebb15fded2ece17a43fea", func := "stagehand/stagehandlaw04.OrderTotal", spec := "orderTotal", inPlace := ["internal/bytealg.abigen_runtime_cmpstring"], unfollowed := true, recurses := true, loops := true, apart := false, narrowed := true }
def OrderTotalUptoSaid : Prop := orderTotalUptoRow.holds Try.pinned (OpenSpec.upto orderTotalSpec)

/-- 'stagehandlaw04.OrderInside', WHERE WHAT IT READS IS OF BULK AT MOST 1048576: true; the input reads as it did. -/
def orderInsideUptoRow : OpenClaim := { program := "ythgfdpamnepnfaa", sum := "888424f2bc8445de869ebdf14e4fc15c426edbf0820ebb15fded2ece17a43fea", func := "stagehand/stagehandlaw04.OrderInside", spec := "orderInside", inPlace := ["internal/bytealg.abigen_runtime_cmpstring"], unfollowed := true, recurses := true, loops := true, apart := false, narrowed := true }
def OrderInsideUptoSaid : Prop := orderInsideUptoRow.holds Try.pinned (OpenSpec.upto orderInsideSpec)

/-- 'stagehandlaw04.OrderMerges', WHERE WHAT IT READS IS OF BULK AT MOST 1048576: true; the input reads as it did. -/
def orderMergesUptoRow : OpenClaim := { program := "ythgfdpamnepnfaa", sum := "888424f2bc8445de869ebdf14e4fc15c426edbf0820ebb15fded2ece17a43fea", func := "stagehand/stagehandlaw04.OrderMerges", spec := "orderMerges", inPlace := ["internal/bytealg.abigen_runtime_cmpstring"], unfollowed := true, recurses := true, loops := true, apart := false, narrowed := true }
def OrderMergesUptoSaid : Prop := orderMergesUptoRow.holds Try.pinned (OpenSpec.upto orderMergesSpec)

end Rows
end Go.Proofs.Ythgfdpamnepnfaa
