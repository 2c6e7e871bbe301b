/-
  No cell of these rows narrows 'for every input' (looked for: loops, veiled, ifaces, maps, wideKeys, modest, calm, conditions, laid).
  DERIVED. THE GIVEN ROWS OF THIS SEAT. 4 by the template 'for every input the law returns true; each argument reads behind the call as it read before'; 0 by the template 'total and deterministic' (their statements: YtegffanlehaloaaTotals.lean).
  GIVEN WITH THE SEED: the statements are not yours to turn. If you find one false, say at which input.
  Laid BY PROGRAM, IN A SANDBOX (cutbox-rows.mjs): the forced cells as the released guide's own fill.sh prints them over the translation da7de17e4a6daa80… (all of the seat's roots in one cut). By AI agents, Wed Nov 11 2026. No macro, syntax, notation, axiom, sorry.
-/
import Derived.Test.YtegffanlehaloaaChecked
import GoSem.Claim
import GoSem.ClaimJoined
import GoSem.ClaimMapViews
import Derived.JoinedTies
import Derived.KernelRfl
namespace Go.Proofs.Ytegffanlehaloaa
/- THE CELL 'sum', in the pinned program and in every row, IS THE sha256 OF THE DUMP (.gsa) THAT YtegffanlehaloaaProg.lean LOADS. Nothing in Lean hashes anything: it is a label: what it is worth is what the hold of that sum in a sandbox is worth. -/
noncomputable def Try.pinned : Pinned := { name := "ytegffanlehaloaa", sum := "da7de17e4a6daa80fcb2852183669f29a9668b359628c1d486a9603b93ba45e3", checked := Try.checked }
namespace Rows
def none {H : Type} : Left H := { results := [], args := [] }

/-- 'stagehandlaw24.CollectFull': WHATEVER THE INPUT: true; the input reads as it did. -/
def collectFullSpec : ChangeSpec := { name := "collectFull", fn := fun _ => fun
  | [d1, d2] => { results := [.lit (.bool true)], args := [d1, d2] }
  | _ => none }
def collectFullRow : OpenClaim := { program := "ytegffanlehaloaa", sum := "da7de17e4a6daa80fcb2852183669f29a9668b359628c1d486a9603b93ba45e3", func := "stagehand/stagehandlaw24.CollectFull", spec := "collectFull", unfollowed := true, recurses := true, apart := false }
def CollectFullSaid : Prop := collectFullRow.holds Try.pinned (OpenSpec.ofChange collectFullSpec)

/-- ITS FALSE NEIGHBOUR: 'it returns false'. Refute it at one input. -/
def collectFullWrong : ChangeSpec := { name := "collectFull", fn := fun _ => fun
  | [d1, d2] => { results := [.lit (.bool false)], args := [d1, d2] }
  | _ => none }
def CollectFullWrongFalsely : Prop := collectFullRow.holds Try.pinned (OpenSpec.ofChange collectFullWrong)

/-- 'stagehandlaw24.CollectMinor': WHATEVER THE INPUT: true; the input reads as it did. -/
def collectMinorSpec : ChangeSpec := { name := "collectMinor", fn := fun _ => fun
  | [d1, d2] => { results := [.lit (.bool true)], args := [d1, d2] }
  | _ => none }
def collectMinorRow : OpenClaim := { program := "ytegffanlehaloaa", sum := "da7de17e4a6daa80fcb2852183669f29a9668b359628c1d486a9603b93ba45e3", func := "stagehand/stagehandlaw24.CollectMinor", spec := "collectMinor", unfollowed := true, recurses := true, apart := false }
def CollectMinorSaid : Prop := collectMinorRow.holds Try.pinned (OpenSpec.ofChange collectMinorSpec)

/-- ITS FALSE NEIGHBOUR: 'it returns false'. Refute it at one input. -/
def collectMinorWrong : ChangeSpec := { name := "collectMinor", fn := fun _ => fun
  | [d1, d2] => { results := [.lit (.bool false)], args := [d1, d2] }
  | _ => none }
def CollectMinorWrongFalsely : Prop := collectMinorRow.holds Try.pinned (OpenSpec.ofChange collectMinorWrong)

/-- 'stagehandlaw24.CollectKnown': WHATEVER THE INPUT: true; the input reads as it did. -/
def collectKnownSpec : ChangeSpec := { name := "collectKnown", fn := fun _ => fun
  | [] => { results := [.lit (.bool true)], args := [] }
  | _ => none }
def collectKnownRow : OpenClaim := { program := "ytegffanlehaloaa", sum := "da7de17e4a6daa80fcb2852183669f29a9668b359628c1d486a9603b93ba45e3", func := "stagehand/stagehandlaw24.CollectKnown", spec := "collectKnown", unfollowed := true, recurses := true, apart := false }
def CollectKnownSaid : Prop := collectKnownRow.holds Try.pinned (OpenSpec.ofChange collectKnownSpec)

/-- ITS FALSE NEIGHBOUR: 'it returns false'. Refute it at one input. -/
def collectKnownWrong : ChangeSpec := { name := "collectKnown", fn := fun _ => fun
  | [] => { results := [.lit (.bool false)], args := [] }
  | _ => none }
def CollectKnownWrongFalsely : Prop := collectKnownRow.holds Try.pinned (OpenSpec.ofChange collectKnownWrong)

/-- 'stagehandlaw24.CollectReach': WHATEVER THE INPUT: true; the input reads as it did. -/
def collectReachSpec : ChangeSpec := { name := "collectReach", fn := fun _ => fun
  | [d1, d2] => { results := [.lit (.bool true)], args := [d1, d2] }
  | _ => none }
def collectReachRow : OpenClaim := { program := "ytegffanlehaloaa", sum := "da7de17e4a6daa80fcb2852183669f29a9668b359628c1d486a9603b93ba45e3", func := "stagehand/stagehandlaw24.CollectReach", spec := "collectReach", unfollowed := true, recurses := true, apart := false }
def CollectReachSaid : Prop := collectReachRow.holds Try.pinned (OpenSpec.ofChange collectReachSpec)

/-- ITS FALSE NEIGHBOUR: 'it returns false'. Refute it at one input. -/
def collectReachWrong : ChangeSpec := { name := "collectReach", fn := fun _ => fun
  | [d1, d2] => { results := [.lit (.bool false)], args := [d1, d2] }
  | _ => none }
def CollectReachWrongFalsely : Prop := collectReachRow.holds Try.pinned (OpenSpec.ofChange collectReachWrong)

/- THE SECOND FORM. 'bulk': how many values and letters a reading holds, each counted each time it is reached (what is shared counts as often as it is met; a slice's spare places count too). A statement '..UptoSaid' is the law's where the arguments, and the package variables that the reading takes, are together of bulk at most 1048576: NARROWER than '..Said'. Prove '..Said' where nothing that the law and all that it calls make is longer than what came in: it says more and counts as full. Else prove '..UptoSaid'. A law counts once. -/
mutual
def uptoBulk {H : Type} : DataW H → Nat
  | .lit (.string bytes) => bytes.length + 1
  | .lit _ => 1
  | .nil => 1
  | .ptr d => uptoBulk d + 1
  | .slice elems spare => uptoBulkAll elems + uptoBulkAll spare + 1
  | .agg parts => uptoBulkAll parts + 1
  | .iface _ d => uptoBulk d + 1
  | .map entries => uptoBulkEntries entries + 1
  | .held _ => 1
def uptoBulkAll {H : Type} : List (DataW H) → Nat
  | [] => 0
  | d :: r => uptoBulk d + uptoBulkAll r
def uptoBulkEntries {H : Type} : List (Lit × DataW H) → Nat
  | [] => 0
  | x :: r => uptoBulkEntry x + uptoBulkEntries r
def uptoBulkEntry {H : Type} : Lit × DataW H → Nat
  | (.string bytes, d) => bytes.length + uptoBulk d + 1
  | (_, d) => uptoBulk d + 1
 end
def uptoSmall : (H : Type) → List (DataW H) → Bool := fun _ ds => decide (uptoBulkAll ds ≤ 1048576)
def OpenSpec.upto (s : _root_.Go.ChangeSpec) : _root_.Go.OpenSpec := { _root_.Go.OpenSpec.ofChange s with cond := some uptoSmall }

/-- 'stagehandlaw24.CollectFull', WHERE WHAT IT READS IS OF BULK AT MOST 1048576: true; the input reads as it did. -/
def collectFullUptoRow : OpenClaim := { program := "ytegffanlehaloaa", sum := "da7de17e4a6daa80fcb2852183669f29a9668b359628c1d486a9603b93ba45e3", func := "stagehand/stagehandlaw24.CollectFull", spec := "collectFull", unfollowed := true, recurses := true, apart := false, narrowed := true }
def CollectFullUptoSaid : Prop := collectFullUptoRow.holds Try.pinned (OpenSpec.upto collectFullSpec)

/-- 'stagehandlaw24.CollectMinor', WHERE WHAT IT READS IS OF BULK AT MOST 1048576: true; the input reads as it did. -/
def collectMinorUptoRow : OpenClaim := { program := "ytegffanlehaloaa", sum := "da7de17e4a6daa80fcb2852183669f29a9668b359628c1d486a9603b93ba45e3", func := "stagehand/stagehandlaw24.CollectMinor", spec := "collectMinor", unfollowed := true, recurses := true, apart := false, narrowed := true }
def CollectMinorUptoSaid : Prop := collectMinorUptoRow.holds Try.pinned (OpenSpec.upto collectMinorSpec)

/-- 'stagehandlaw24.CollectKnown', WHERE WHAT IT READS IS OF BULK AT MOST 1048576: true; the input reads as it did. -/
def collectKnownUptoRow : OpenClaim := { program := "ytegffanlehaloaa", sum := "da7de17e4a6daa80fcb2852183669f29a9668b359628c1d486a9603b93ba45e3", func := "stagehand/stagehandlaw24.CollectKnown", spec := "collectKnown", unfollowed := true, recurses := true, apart := false, narrowed := true }
def CollectKnownUptoSaid : Prop := collectKnownUptoRow.holds Try.pinned (OpenSpec.upto collectKnownSpec)

/-- 'stagehandlaw24.CollectReach', WHERE WHAT IT READS IS OF BULK AT MOST 1048576: true; the input reads as it did. -/
def collectReachUptoRow : OpenClaim := { program := "ytegffanlehaloaa", sum := "da7de17e4a6daa80fcb2852183669f29a9668b359628c1d486a9603b93ba45e3", func := "stagehand/stagehandlaw24.CollectReach", spec := "collectReach", unfollowed := true, recurses := true, apart := false, narrowed := true }
def CollectReachUptoSaid : Prop := collectReachUptoRow.holds Try.pinned (OpenSpec.upto collectReachSpec)

end Rows
end Go.Proofs.Ytegffanlehaloaa
