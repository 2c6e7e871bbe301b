/-
  No cell of these rows narrows 'for every input' (looked for: loops, veiled, ifaces, maps, wideKeys, modest, calm, conditions, laid).
  DERIVED. THE GIVEN ROWS OF THIS SEAT. 7 by the template 'for every input the law returns true; each argument reads behind the call as it read before'; 0 by the template 'total and deterministic' (their statements: YtgkiknkifleofaaTotals.lean).
  GIVEN WITH THE SEED: the statements are not yours to turn. If you find one false, say at which input.
  Laid BY PROGRAM, IN A SANDBOX (cutbox-rows.mjs): the forced cells as the released guide's own fill.sh prints them over the translation 07f7e42757d9c83c… (all of the seat's roots in one cut). By AI agents, Wed Nov 11 2026. No macro, syntax, notation, axiom, sorry.
-/
import Derived.Test.YtgkiknkifleofaaChecked
import GoSem.Claim
import GoSem.ClaimJoined
import GoSem.ClaimMapViews
import Derived.JoinedTies
import Derived.KernelRfl
namespace Go.Proofs.Ytgkiknkifleofaa
/- THE CELL 'sum', in the pinned program and in every row, IS THE sha256 OF THE DUMP (.gsa) THAT YtgkiknkifleofaaProg.lean LOADS. Nothing in Lean hashes anything: it is a label: what it is worth is what the hold of that sum in a sandbox is worth. -/
noncomputable def Try.pinned : Pinned := { name := "ytgkiknkifleofaa", sum := "07f7e42757d9c83ca5d835feb3ad2bb9036e43aaf210b63bddca6acb6a34cc91", checked := Try.checked }
namespace Rows
def none {H : Type} : Left H := { results := [], args := [] }

/-- 'stagehandlaw28.TimersSplit': WHATEVER THE INPUT: true; the input reads as it did. -/
def timersSplitSpec : ChangeSpec := { name := "timersSplit", fn := fun _ => fun
  | [d1, d2, d3] => { results := [.lit (.bool true)], args := [d1, d2, d3] }
  | _ => none }
def timersSplitRow : OpenClaim := { program := "ytgkiknkifleofaa", sum := "07f7e42757d9c83ca5d835feb3ad2bb9036e43aaf210b63bddca6acb6a34cc91", func := "stagehand/stagehandlaw28.TimersSplit", spec := "timersSplit", unfollowed := true, recurses := true, apart := false }
def TimersSplitSaid : Prop := timersSplitRow.holds Try.pinned (OpenSpec.ofChange timersSplitSpec)

/-- ITS FALSE NEIGHBOUR: 'it returns false'. Refute it at one input. -/
def timersSplitWrong : ChangeSpec := { name := "timersSplit", fn := fun _ => fun
  | [d1, d2, d3] => { results := [.lit (.bool false)], args := [d1, d2, d3] }
  | _ => none }
def TimersSplitWrongFalsely : Prop := timersSplitRow.holds Try.pinned (OpenSpec.ofChange timersSplitWrong)

/-- 'stagehandlaw28.TimersTrace': WHATEVER THE INPUT: true; the input reads as it did. -/
def timersTraceSpec : ChangeSpec := { name := "timersTrace", fn := fun _ => fun
  | [d1, d2, d3] => { results := [.lit (.bool true)], args := [d1, d2, d3] }
  | _ => none }
def timersTraceRow : OpenClaim := { program := "ytgkiknkifleofaa", sum := "07f7e42757d9c83ca5d835feb3ad2bb9036e43aaf210b63bddca6acb6a34cc91", func := "stagehand/stagehandlaw28.TimersTrace", spec := "timersTrace", unfollowed := true, recurses := true, apart := false }
def TimersTraceSaid : Prop := timersTraceRow.holds Try.pinned (OpenSpec.ofChange timersTraceSpec)

/-- ITS FALSE NEIGHBOUR: 'it returns false'. Refute it at one input. -/
def timersTraceWrong : ChangeSpec := { name := "timersTrace", fn := fun _ => fun
  | [d1, d2, d3] => { results := [.lit (.bool false)], args := [d1, d2, d3] }
  | _ => none }
def TimersTraceWrongFalsely : Prop := timersTraceRow.holds Try.pinned (OpenSpec.ofChange timersTraceWrong)

/-- 'stagehandlaw28.TimersApart': WHATEVER THE INPUT: true; the input reads as it did. -/
def timersApartSpec : ChangeSpec := { name := "timersApart", fn := fun _ => fun
  | [d1, d2] => { results := [.lit (.bool true)], args := [d1, d2] }
  | _ => none }
def timersApartRow : OpenClaim := { program := "ytgkiknkifleofaa", sum := "07f7e42757d9c83ca5d835feb3ad2bb9036e43aaf210b63bddca6acb6a34cc91", func := "stagehand/stagehandlaw28.TimersApart", spec := "timersApart", unfollowed := true, recurses := true, apart := false }
def TimersApartSaid : Prop := timersApartRow.holds Try.pinned (OpenSpec.ofChange timersApartSpec)

/-- ITS FALSE NEIGHBOUR: 'it returns false'. Refute it at one input. -/
def timersApartWrong : ChangeSpec := { name := "timersApart", fn := fun _ => fun
  | [d1, d2] => { results := [.lit (.bool false)], args := [d1, d2] }
  | _ => none }
def TimersApartWrongFalsely : Prop := timersApartRow.holds Try.pinned (OpenSpec.ofChange timersApartWrong)

/-- 'stagehandlaw28.TimersOrder': WHATEVER THE INPUT: true; the input reads as it did. -/
def timersOrderSpec : ChangeSpec := { name := "timersOrder", fn := fun _ => fun
  | [d1, d2] => { results := [.lit (.bool true)], args := [d1, d2] }
  | _ => none }
def timersOrderRow : OpenClaim := { program := "ytgkiknkifleofaa", sum := "07f7e42757d9c83ca5d835feb3ad2bb9036e43aaf210b63bddca6acb6a34cc91", func := "stagehand/stagehandlaw28.TimersOrder", spec := "timersOrder", unfollowed := true, recurses := true, apart := false }
def TimersOrderSaid : Prop := timersOrderRow.holds Try.pinned (OpenSpec.ofChange timersOrderSpec)

/-- ITS FALSE NEIGHBOUR: 'it returns false'. Refute it at one input. -/
def timersOrderWrong : ChangeSpec := { name := "timersOrder", fn := fun _ => fun
  | [d1, d2] => { results := [.lit (.bool false)], args := [d1, d2] }
  | _ => none }
def TimersOrderWrongFalsely : Prop := timersOrderRow.holds Try.pinned (OpenSpec.ofChange timersOrderWrong)

/-- 'stagehandlaw28.TimersKnown': WHATEVER THE INPUT: true; the input reads as it did. -/
def timersKnownSpec : ChangeSpec := { name := "timersKnown", fn := fun _ => fun
  | [] => { results := [.lit (.bool true)], args := [] }
  | _ => none }
def timersKnownRow : OpenClaim := { program := "ytgkiknkifleofaa", sum := "07f7e42757d9c83ca5d835feb3ad2bb9036e43aaf210b63bddca6acb6a34cc91", func := "stagehand/stagehandlaw28.TimersKnown", spec := "timersKnown", unfollowed := true, recurses := true, apart := false }
def TimersKnownSaid : Prop := timersKnownRow.holds Try.pinned (OpenSpec.ofChange timersKnownSpec)

/-- ITS FALSE NEIGHBOUR: 'it returns false'. Refute it at one input. -/
def timersKnownWrong : ChangeSpec := { name := "timersKnown", fn := fun _ => fun
  | [] => { results := [.lit (.bool false)], args := [] }
  | _ => none }
def TimersKnownWrongFalsely : Prop := timersKnownRow.holds Try.pinned (OpenSpec.ofChange timersKnownWrong)

/-- 'stagehandlaw28.TimersPlays': WHATEVER THE INPUT: true; the input reads as it did. -/
def timersPlaysSpec : ChangeSpec := { name := "timersPlays", fn := fun _ => fun
  | [d] => { results := [.lit (.bool true)], args := [d] }
  | _ => none }
def timersPlaysRow : OpenClaim := { program := "ytgkiknkifleofaa", sum := "07f7e42757d9c83ca5d835feb3ad2bb9036e43aaf210b63bddca6acb6a34cc91", func := "stagehand/stagehandlaw28.TimersPlays", spec := "timersPlays", unfollowed := true, recurses := true, apart := false }
def TimersPlaysSaid : Prop := timersPlaysRow.holds Try.pinned (OpenSpec.ofChange timersPlaysSpec)

/-- ITS FALSE NEIGHBOUR: 'it returns false'. Refute it at one input. -/
def timersPlaysWrong : ChangeSpec := { name := "timersPlays", fn := fun _ => fun
  | [d] => { results := [.lit (.bool false)], args := [d] }
  | _ => none }
def TimersPlaysWrongFalsely : Prop := timersPlaysRow.holds Try.pinned (OpenSpec.ofChange timersPlaysWrong)

/-- 'stagehandlaw28.TimersFirst': WHATEVER THE INPUT: true; the input reads as it did. -/
def timersFirstSpec : ChangeSpec := { name := "timersFirst", fn := fun _ => fun
  | [d1, d2] => { results := [.lit (.bool true)], args := [d1, d2] }
  | _ => none }
def timersFirstRow : OpenClaim := { program := "ytgkiknkifleofaa", sum := "07f7e42757d9c83ca5d835feb3ad2bb9036e43aaf210b63bddca6acb6a34cc91", func := "stagehand/stagehandlaw28.TimersFirst", spec := "timersFirst", unfollowed := true, recurses := true, apart := false }
def TimersFirstSaid : Prop := timersFirstRow.holds Try.pinned (OpenSpec.ofChange timersFirstSpec)

/-- ITS FALSE NEIGHBOUR: 'it returns false'. Refute it at one input. -/
def timersFirstWrong : ChangeSpec := { name := "timersFirst", fn := fun _ => fun
  | [d1, d2] => { results := [.lit (.bool false)], args := [d1, d2] }
  | _ => none }
def TimersFirstWrongFalsely : Prop := timersFirstRow.holds Try.pinned (OpenSpec.ofChange timersFirstWrong)

/- THE SECOND FORM. 'bulk': how many values and letters a reading holds, each counted each time it is reached (what is shared counts as often as it is met; a slice's spare places count too). A statement '..UptoSaid' is the law's where the arguments, and the package variables that the reading takes, are together of bulk at most 1048576: NARROWER than '..Said'. Prove '..Said' where nothing that the law and all that it calls make is longer than what came in: it says more and counts as full. Else prove '..UptoSaid'. A law counts once. -/
mutual
def uptoBulk {H : Type} : DataW H → Nat
  | .lit (.string bytes) => bytes.length + 1
  | .lit _ => 1
  | .nil => 1
  | .ptr d => uptoBulk d + 1
  | .slice elems spare => uptoBulkAll elems + uptoBulkAll spare + 1
  | .agg parts => uptoBulkAll parts + 1
  | .iface _ d => uptoBulk d + 1
  | .map entries => uptoBulkEntries entries + 1
  | .held _ => 1
def uptoBulkAll {H : Type} : List (DataW H) → Nat
  | [] => 0
  | d :: r => uptoBulk d + uptoBulkAll r
def uptoBulkEntries {H : Type} : List (Lit × DataW H) → Nat
  | [] => 0
  | x :: r => uptoBulkEntry x + uptoBulkEntries r
def uptoBulkEntry {H : Type} : Lit × DataW H → Nat
  | (.string bytes, d) => bytes.length + uptoBulk d + 1
  | (_, d) => uptoBulk d + 1
 end
def uptoSmall : (H : Type) → List (DataW H) → Bool := fun _ ds => decide (uptoBulkAll ds ≤ 1048576)
def OpenSpec.upto (s : _root_.Go.ChangeSpec) : _root_.Go.OpenSpec := { _root_.Go.OpenSpec.ofChange s with cond := some uptoSmall }

/-- 'stagehandlaw28.TimersSplit', WHERE WHAT IT READS IS OF BULK AT MOST 1048576: true; the input reads as it did. -/
def timersSplitUptoRow : OpenClaim := { program := "ytgkiknkifleofaa", sum := "07f7e42757d9c83ca5d835feb3ad2bb9036e43aaf210b63bddca6acb6a34cc91", func := "stagehand/stagehandlaw28.TimersSplit", spec := "timersSplit", unfollowed := true, recurses := true, apart := false, narrowed := true }
def TimersSplitUptoSaid : Prop := timersSplitUptoRow.holds Try.pinned (OpenSpec.upto timersSplitSpec)

/-- 'stagehandlaw28.TimersTrace', WHERE WHAT IT READS IS OF BULK AT MOST 1048576: true; the input reads as it did. -/
def timersTraceUptoRow : OpenClaim := { program := "ytgkiknkifleofaa", sum := "07f7e42757d9c83ca5d835feb3ad2bb9036e43aaf210b63bddca6acb6a34cc91", func := "stagehand/stagehandlaw28.TimersTrace", spec := "timersTrace", unfollowed := true, recurses := true, apart := false, narrowed := true }
def TimersTraceUptoSaid : Prop := timersTraceUptoRow.holds Try.pinned (OpenSpec.upto timersTraceSpec)

/-- 'stagehandlaw28.TimersApart', WHERE WHAT IT READS IS OF BULK AT MOST 1048576: true; the input reads as it did. -/
def timersApartUptoRow : OpenClaim := { program := "ytgkiknkifleofaa", sum := "07f7e42757d9c83ca5d835feb3ad2bb9036e43aaf210b63bddca6acb6a34cc91", func := "stagehand/stagehandlaw28.TimersApart", spec := "timersApart", unfollowed := true, recurses := true, apart := false, narrowed := true }
def TimersApartUptoSaid : Prop := timersApartUptoRow.holds Try.pinned (OpenSpec.upto timersApartSpec)

/-- 'stagehandlaw28.TimersOrder', WHERE WHAT IT READS IS OF BULK AT MOST 1048576: true; the input reads as it did. -/
def timersOrderUptoRow : OpenClaim := { program := "ytgkiknkifleofaa", sum := "07f7e42757d9c83ca5d835feb3ad2bb9036e43aaf210b63bddca6acb6a34cc91", func := "stagehand/stagehandlaw28.TimersOrder", spec := "timersOrder", unfollowed := true, recurses := true, apart := false, narrowed := true }
def TimersOrderUptoSaid : Prop := timersOrderUptoRow.holds Try.pinned (OpenSpec.upto timersOrderSpec)

/-- 'stagehandlaw28.TimersKnown', WHERE WHAT IT READS IS OF BULK AT MOST 1048576: true; the input reads as it did. -/
def timersKnownUptoRow : OpenClaim := { program := "ytgkiknkifleofaa", sum := "07f7e42757d9c83ca5d835feb3ad2bb9036e43aaf210b63bddca6acb6a34cc91", func := "stagehand/stagehandlaw28.TimersKnown", spec := "timersKnown", unfollowed := true, recurses := true, apart := false, narrowed := true }
def TimersKnownUptoSaid : Prop := timersKnownUptoRow.holds Try.pinned (OpenSpec.upto timersKnownSpec)

/-- 'stagehandlaw28.TimersPlays', WHERE WHAT IT READS IS OF BULK AT MOST 1048576: true; the input reads as it did. -/
def timersPlaysUptoRow : OpenClaim := { program := "ytgkiknkifleofaa", sum := "07f7e42757d9c83ca5d835feb3ad2bb9036e43aaf210b63bddca6acb6a34cc91", func := "stagehand/stagehandlaw28.TimersPlays", spec := "timersPlays", unfollowed := true, recurses := true, apart := false, narrowed := true }
def TimersPlaysUptoSaid : Prop := timersPlaysUptoRow.holds Try.pinned (OpenSpec.upto timersPlaysSpec)

/-- 'stagehandlaw28.TimersFirst', WHERE WHAT IT READS IS OF BULK AT MOST 1048576: true; the input reads as it did. -/
def timersFirstUptoRow : OpenClaim := { program := "ytgkiknkifleofaa", sum := "07f7e42757d9c83ca5d835feb3ad2bb9036e43aaf210b63bddca6acb6a34cc91", func := "stagehand/stagehandlaw28.TimersFirst", spec := "timersFirst", unfollowed := true, recurses := true, apart := false, narrowed := true }
def TimersFirstUptoSaid : Prop := timersFirstUptoRow.holds Try.pinned (OpenSpec.upto timersFirstSpec)

end Rows
end Go.Proofs.Ytgkiknkifleofaa
