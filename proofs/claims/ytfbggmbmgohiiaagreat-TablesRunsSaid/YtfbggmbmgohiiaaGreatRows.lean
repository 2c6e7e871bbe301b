/-
  NARROWER THAN 'FOR EVERY INPUT', by the rows' own cells (each row's printed sentence says how): TablesHash: loops · TablesWalk: loops · TablesLast: loops · TablesRuns: loops · TablesKeeps: loops.
  DERIVED. THE GIVEN ROWS OF THIS SEAT. 6 by the template 'for every input the law returns true; each argument reads behind the call as it read before'; 0 by the template 'total and deterministic' (their statements: YtfbggmbmgohiiaaGreatTotals.lean).
  GIVEN WITH THE SEED: the statements are not yours to turn. If you find one false, say at which input.
  Laid BY PROGRAM, IN A SANDBOX (cutbox-rows.mjs): the forced cells as the released guide's own fill.sh prints them over the translation c978fabaf932a0e8… (all of the seat's roots in one cut). By AI agents, Wed Nov 11 2026. No macro, syntax, notation, axiom, sorry.
-/
import Derived.Test.YtfbggmbmgohiiaaGreatChecked
import GoSem.Claim
import GoSem.ClaimJoined
import GoSem.ClaimMapViews
import Derived.JoinedTies
import Derived.KernelRfl
namespace Go.Proofs.YtfbggmbmgohiiaaGreat
/- THE CELL 'sum', in the pinned program and in every row, IS THE sha256 OF THE DUMP (.gsa) THAT YtfbggmbmgohiiaaGreatProg.lean LOADS. Nothing in Lean hashes anything: it is a label: what it is worth is what the hold of that sum in a sandbox is worth. -/
noncomputable def Tryz.pinned : Pinned := { name := "ytfbggmbmgohiiaagreat", sum := "c978fabaf932a0e8b8c3436d19c77aceba454c8c0e06a413482f28bf3a53b917", checked := Tryz.checked }
namespace Rows
def none {H : Type} : Left H := { results := [], args := [] }

/-- 'stagehandlaw31.TablesHash': WHATEVER THE INPUT: true; the input reads as it did. -/
def tablesHashSpec : ChangeSpec := { name := "tablesHash", fn := fun _ => fun
  | [d] => { results := [.lit (.bool true)], args := [d] }
  | _ => none }
def tablesHashRow : OpenClaim := { program := "ytfbggmbmgohiiaagreat", sum := "c978fabaf932a0e8b8c3436d19c77aceba454c8c0e06a413482f28bf3a53b917", func := "stagehand/stagehandlaw31.TablesHash", spec := "tablesHash", inPlace := ["internal/abi.NoEscape", "slices.overlaps[stagehand/tables.row]"], unfollowed := true, recurses := true, loops := true, apart := false }
def TablesHashSaid : Prop := tablesHashRow.holds Tryz.pinned (OpenSpec.ofChange tablesHashSpec)

/-- ITS FALSE NEIGHBOUR: 'it returns false'. Refute it at one input. -/
def tablesHashWrong : ChangeSpec := { name := "tablesHash", fn := fun _ => fun
  | [d] => { results := [.lit (.bool false)], args := [d] }
  | _ => none }
def TablesHashWrongFalsely : Prop := tablesHashRow.holds Tryz.pinned (OpenSpec.ofChange tablesHashWrong)

/-- 'stagehandlaw31.TablesWalk': WHATEVER THE INPUT: true; the input reads as it did. -/
def tablesWalkSpec : ChangeSpec := { name := "tablesWalk", fn := fun _ => fun
  | [d1, d2] => { results := [.lit (.bool true)], args := [d1, d2] }
  | _ => none }
def tablesWalkRow : OpenClaim := { program := "ytfbggmbmgohiiaagreat", sum := "c978fabaf932a0e8b8c3436d19c77aceba454c8c0e06a413482f28bf3a53b917", func := "stagehand/stagehandlaw31.TablesWalk", spec := "tablesWalk", inPlace := ["internal/abi.NoEscape", "slices.overlaps[stagehand/tables.row]"], unfollowed := true, recurses := true, loops := true, apart := false }
def TablesWalkSaid : Prop := tablesWalkRow.holds Tryz.pinned (OpenSpec.ofChange tablesWalkSpec)

/-- ITS FALSE NEIGHBOUR: 'it returns false'. Refute it at one input. -/
def tablesWalkWrong : ChangeSpec := { name := "tablesWalk", fn := fun _ => fun
  | [d1, d2] => { results := [.lit (.bool false)], args := [d1, d2] }
  | _ => none }
def TablesWalkWrongFalsely : Prop := tablesWalkRow.holds Tryz.pinned (OpenSpec.ofChange tablesWalkWrong)

/-- 'stagehandlaw31.TablesLast': WHATEVER THE INPUT: true; the input reads as it did. -/
def tablesLastSpec : ChangeSpec := { name := "tablesLast", fn := fun _ => fun
  | [d1, d2] => { results := [.lit (.bool true)], args := [d1, d2] }
  | _ => none }
def tablesLastRow : OpenClaim := { program := "ytfbggmbmgohiiaagreat", sum := "c978fabaf932a0e8b8c3436d19c77aceba454c8c0e06a413482f28bf3a53b917", func := "stagehand/stagehandlaw31.TablesLast", spec := "tablesLast", inPlace := ["internal/abi.NoEscape", "slices.overlaps[stagehand/tables.row]"], unfollowed := true, recurses := true, loops := true, apart := false }
def TablesLastSaid : Prop := tablesLastRow.holds Tryz.pinned (OpenSpec.ofChange tablesLastSpec)

/-- ITS FALSE NEIGHBOUR: 'it returns false'. Refute it at one input. -/
def tablesLastWrong : ChangeSpec := { name := "tablesLast", fn := fun _ => fun
  | [d1, d2] => { results := [.lit (.bool false)], args := [d1, d2] }
  | _ => none }
def TablesLastWrongFalsely : Prop := tablesLastRow.holds Tryz.pinned (OpenSpec.ofChange tablesLastWrong)

/-- 'stagehandlaw31.TablesMany': WHATEVER THE INPUT: true; the input reads as it did. -/
def tablesManySpec : ChangeSpec := { name := "tablesMany", fn := fun _ => fun
  | [d] => { results := [.lit (.bool true)], args := [d] }
  | _ => none }
def tablesManyRow : OpenClaim := { program := "ytfbggmbmgohiiaagreat", sum := "c978fabaf932a0e8b8c3436d19c77aceba454c8c0e06a413482f28bf3a53b917", func := "stagehand/stagehandlaw31.TablesMany", spec := "tablesMany", inPlace := ["internal/abi.NoEscape", "slices.overlaps[stagehand/tables.row]", "internal/bytealg.abigen_runtime_cmpstring"], unfollowed := true, recurses := true, apart := false }
def TablesManySaid : Prop := tablesManyRow.holds Tryz.pinned (OpenSpec.ofChange tablesManySpec)

/-- ITS FALSE NEIGHBOUR: 'it returns false'. Refute it at one input. -/
def tablesManyWrong : ChangeSpec := { name := "tablesMany", fn := fun _ => fun
  | [d] => { results := [.lit (.bool false)], args := [d] }
  | _ => none }
def TablesManyWrongFalsely : Prop := tablesManyRow.holds Tryz.pinned (OpenSpec.ofChange tablesManyWrong)

/-- 'stagehandlaw31.TablesRuns': WHATEVER THE INPUT: true; the input reads as it did. -/
def tablesRunsSpec : ChangeSpec := { name := "tablesRuns", fn := fun _ => fun
  | [d] => { results := [.lit (.bool true)], args := [d] }
  | _ => none }
def tablesRunsRow : OpenClaim := { program := "ytfbggmbmgohiiaagreat", sum := "c978fabaf932a0e8b8c3436d19c77aceba454c8c0e06a413482f28bf3a53b917", func := "stagehand/stagehandlaw31.TablesRuns", spec := "tablesRuns", inPlace := ["internal/abi.NoEscape", "slices.overlaps[stagehand/tables.row]", "internal/bytealg.abigen_runtime_cmpstring"], unfollowed := true, recurses := true, loops := true, apart := false }
def TablesRunsSaid : Prop := tablesRunsRow.holds Tryz.pinned (OpenSpec.ofChange tablesRunsSpec)

/-- ITS FALSE NEIGHBOUR: 'it returns false'. Refute it at one input. -/
def tablesRunsWrong : ChangeSpec := { name := "tablesRuns", fn := fun _ => fun
  | [d] => { results := [.lit (.bool false)], args := [d] }
  | _ => none }
def TablesRunsWrongFalsely : Prop := tablesRunsRow.holds Tryz.pinned (OpenSpec.ofChange tablesRunsWrong)

/-- 'stagehandlaw31.TablesKeeps': WHATEVER THE INPUT: true; the input reads as it did. -/
def tablesKeepsSpec : ChangeSpec := { name := "tablesKeeps", fn := fun _ => fun
  | [d1, d2, d3] => { results := [.lit (.bool true)], args := [d1, d2, d3] }
  | _ => none }
def tablesKeepsRow : OpenClaim := { program := "ytfbggmbmgohiiaagreat", sum := "c978fabaf932a0e8b8c3436d19c77aceba454c8c0e06a413482f28bf3a53b917", func := "stagehand/stagehandlaw31.TablesKeeps", spec := "tablesKeeps", inPlace := ["internal/abi.NoEscape", "slices.overlaps[stagehand/tables.row]", "internal/bytealg.abigen_runtime_cmpstring"], unfollowed := true, recurses := true, loops := true, apart := false }
def TablesKeepsSaid : Prop := tablesKeepsRow.holds Tryz.pinned (OpenSpec.ofChange tablesKeepsSpec)

/-- ITS FALSE NEIGHBOUR: 'it returns false'. Refute it at one input. -/
def tablesKeepsWrong : ChangeSpec := { name := "tablesKeeps", fn := fun _ => fun
  | [d1, d2, d3] => { results := [.lit (.bool false)], args := [d1, d2, d3] }
  | _ => none }
def TablesKeepsWrongFalsely : Prop := tablesKeepsRow.holds Tryz.pinned (OpenSpec.ofChange tablesKeepsWrong)

/- THE SECOND FORM. 'bulk': how many values and letters a reading holds, each counted each time it is reached (what is shared counts as often as it is met; a slice's spare places count too). A statement '..UptoSaid' is the law's where the arguments, and the package variables that the reading takes, are together of bulk at most 1048576: NARROWER than '..Said'. Prove '..Said' where nothing that the law and all that it calls make is longer than what came in: it says more and counts as full. Else prove '..UptoSaid'. A law counts once. -/
mutual
def uptoBulk {H : Type} : DataW H → Nat
  | .lit (.string bytes) => bytes.length + 1
  | .lit _ => 1
  | .nil => 1
  | .ptr d => uptoBulk d + 1
  | .slice elems spare => uptoBulkAll elems + uptoBulkAll spare + 1
  | .agg parts => uptoBulkAll parts + 1
  | .iface _ d => uptoBulk d + 1
  | .map entries => uptoBulkEntries entries + 1
  | .held _ => 1
def uptoBulkAll {H : Type} : List (DataW H) → Nat
  | [] => 0
  | d :: r => uptoBulk d + uptoBulkAll r
def uptoBulkEntries {H : Type} : List (Lit × DataW H) → Nat
  | [] => 0
  | x :: r => uptoBulkEntry x + uptoBulkEntries r
def uptoBulkEntry {H : Type} : Lit × DataW H → Nat
  | (.string bytes, d) => bytes.length + uptoBulk d + 1
  | (_, d) => uptoBulk d + 1
 end
def uptoSmall : (H : Type) → List (DataW H) → Bool := fun _ ds => decide (uptoBulkAll ds ≤ 1048576)
def OpenSpec.upto (s : _root_.Go.ChangeSpec) : _root_.Go.OpenSpec := { _root_.Go.OpenSpec.ofChange s with cond := some uptoSmall }

/-- 'stagehandlaw31.TablesHash', WHERE WHAT IT READS IS OF BULK AT MOST 1048576: true; the input reads as it did. -/
def tablesHashUptoRow : OpenClaim := { program := "ytfbggmbmgohiiaagreat", sum := "c978fabaf932a0e8b8c3436d19c77aceba454c8c0e06a413482f28bf3a53b917", func := "stagehand/stagehandlaw31.TablesHash", spec := "tablesHash", inPlace := ["internal/abi.NoEscape", "slices.overlaps[stagehand/tables.row]"], unfollowed := true, recurses := true, loops := true, apart := false, narrowed := true }
def TablesHashUptoSaid : Prop := tablesHashUptoRow.holds Tryz.pinned (OpenSpec.upto tablesHashSpec)

/-- 'stagehandlaw31.TablesWalk', WHERE WHAT IT READS IS OF BULK AT MOST 1048576: true; the input reads as it did. -/
def tablesWalkUptoRow : OpenClaim := { program := "ytfbggmbmgohiiaagreat", sum := "c978fabaf932a0e8b8c3436d19c77aceba454c8c0e06a413482f28bf3a53b917", func := "stagehand/stagehandlaw31.TablesWalk", spec := "tablesWalk", inPlace := ["internal/abi.NoEscape", "slices.overlaps[stagehand/tables.row]"], unfollowed := true, recurses := true, loops := true, apart := false, narrowed := true }
def TablesWalkUptoSaid : Prop := tablesWalkUptoRow.holds Tryz.pinned (OpenSpec.upto tablesWalkSpec)

/-- 'stagehandlaw31.TablesLast', WHERE WHAT IT READS IS OF BULK AT MOST 1048576: true; the input reads as it did. -/
def tablesLastUptoRow : OpenClaim := { program := "ytfbggmbmgohiiaagreat", sum := "c978fabaf932a0e8b8c3436d19c77aceba454c8c0e06a413482f28bf3a53b917", func := "stagehand/stagehandlaw31.TablesLast", spec := "tablesLast", inPlace := ["internal/abi.NoEscape", "slices.overlaps[stagehand/tables.row]"], unfollowed := true, recurses := true, loops := true, apart := false, narrowed := true }
def TablesLastUptoSaid : Prop := tablesLastUptoRow.holds Tryz.pinned (OpenSpec.upto tablesLastSpec)

/-- 'stagehandlaw31.TablesMany', WHERE WHAT IT READS IS OF BULK AT MOST 1048576: true; the input reads as it did. -/
def tablesManyUptoRow : OpenClaim := { program := "ytfbggmbmgohiiaagreat", sum := "c978fabaf932a0e8b8c3436d19c77aceba454c8c0e06a413482f28bf3a53b917", func := "stagehand/stagehandlaw31.TablesMany", spec := "tablesMany", inPlace := ["internal/abi.NoEscape", "slices.overlaps[stagehand/tables.row]", "internal/bytealg.abigen_runtime_cmpstring"], unfollowed := true, recurses := true, apart := false, narrowed := true }
def TablesManyUptoSaid : Prop := tablesManyUptoRow.holds Tryz.pinned (OpenSpec.upto tablesManySpec)

/-- 'stagehandlaw31.TablesRuns', WHERE WHAT IT READS IS OF BULK AT MOST 1048576: true; the input reads as it did. -/
def tablesRunsUptoRow : OpenClaim := { program := "ytfbggmbmgohiiaagreat", sum := "c978fabaf932a0e8b8c3436d19c77aceba454c8c0e06a413482f28bf3a53b917", func := "stagehand/stagehandlaw31.TablesRuns", spec := "tablesRuns", inPlace := ["internal/abi.NoEscape", "slices.overlaps[stagehand/tables.row]", "internal/bytealg.abigen_runtime_cmpstring"], unfollowed := true, recurses := true, loops := true, apart := false, narrowed := true }
def TablesRunsUptoSaid : Prop := tablesRunsUptoRow.holds Tryz.pinned (OpenSpec.upto tablesRunsSpec)

/-- 'stagehandlaw31.TablesKeeps', WHERE WHAT IT READS IS OF BULK AT MOST 1048576: true; the input reads as it did. -/
def tablesKeepsUptoRow : OpenClaim := { program := "ytfbggmbmgohiiaagreat", sum := "c978fabaf932a0e8b8c3436d19c77aceba454c8c0e06a413482f28bf3a53b917", func := "stagehand/stagehandlaw31.TablesKeeps", spec := "tablesKeeps", inPlace := ["internal/abi.NoEscape", "slices.overlaps[stagehand/tables.row]", "internal/bytealg.abigen_runtime_cmpstring"], unfollowed := true, recurses := true, loops := true, apart := false, narrowed := true }
def TablesKeepsUptoSaid : Prop := tablesKeepsUptoRow.holds Tryz.pinned (OpenSpec.upto tablesKeepsSpec)

end Rows
end Go.Proofs.YtfbggmbmgohiiaaGreat
