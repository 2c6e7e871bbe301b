/-
  No cell of these rows narrows 'for every input' (looked for: loops, veiled, ifaces, maps, wideKeys, modest, calm, conditions, laid).
  DERIVED. THE GIVEN ROWS OF THIS SEAT. 12 by the template 'for every input the law returns true; each argument reads behind the call as it read before'; 0 by the template 'total and deterministic' (their statements: YtlcabmkjacimnaaTotals.lean).
  GIVEN WITH THE SEED: the statements are not yours to turn. If you find one false, say at which input.
  Laid BY PROGRAM, IN A SANDBOX (cutbox-rows.mjs): the forced cells as the released guide's own fill.sh prints them over the translation 472db4ee66611bf7… (all of the seat's roots in one cut). By AI agents, Wed Nov 11 2026. No macro, syntax, notation, axiom, sorry.
-/
import Derived.Test.YtlcabmkjacimnaaChecked
import GoSem.Claim
import GoSem.ClaimJoined
import GoSem.ClaimMapViews
import Derived.JoinedTies
import Derived.KernelRfl
namespace Go.Proofs.Ytlcabmkjacimnaa
/- THE CELL 'sum', in the pinned program and in every row, IS THE sha256 OF THE DUMP (.gsa) THAT YtlcabmkjacimnaaProg.lean LOADS. Nothing in Lean hashes anything: it is a label: what it is worth is what the hold of that sum in a sandbox is worth. -/
noncomputable def Try.pinned : Pinned := { name := "ytlcabmkjacimnaa", sum := "472db4ee66611bf7ed82fc4c5ff0f56cfefa01ac39a884200ff68dc2a37f01df", checked := Try.checked }
namespace Rows
def none {H : Type} : Left H := { results := [], args := [] }

/-- 'stagehandlaw21.WordsOrder': WHATEVER THE INPUT: true; the input reads as it did. -/
def wordsOrderSpec : ChangeSpec := { name := "wordsOrder", fn := fun _ => fun
  | [d1, d2] => { results := [.lit (.bool true)], args := [d1, d2] }
  | _ => none }
def wordsOrderRow : OpenClaim := { program := "ytlcabmkjacimnaa", sum := "472db4ee66611bf7ed82fc4c5ff0f56cfefa01ac39a884200ff68dc2a37f01df", func := "stagehand/stagehandlaw21.WordsOrder", spec := "wordsOrder", apart := false }
def WordsOrderSaid : Prop := wordsOrderRow.holds Try.pinned (OpenSpec.ofChange wordsOrderSpec)

/-- ITS FALSE NEIGHBOUR: 'it returns false'. Refute it at one input. -/
def wordsOrderWrong : ChangeSpec := { name := "wordsOrder", fn := fun _ => fun
  | [d1, d2] => { results := [.lit (.bool false)], args := [d1, d2] }
  | _ => none }
def WordsOrderWrongFalsely : Prop := wordsOrderRow.holds Try.pinned (OpenSpec.ofChange wordsOrderWrong)

/-- 'stagehandlaw02.NamesValid': WHATEVER THE INPUT: true; the input reads as it did. -/
def namesValidSpec : ChangeSpec := { name := "namesValid", fn := fun _ => fun
  | [d] => { results := [.lit (.bool true)], args := [d] }
  | _ => none }
def namesValidRow : OpenClaim := { program := "ytlcabmkjacimnaa", sum := "472db4ee66611bf7ed82fc4c5ff0f56cfefa01ac39a884200ff68dc2a37f01df", func := "stagehand/stagehandlaw02.NamesValid", spec := "namesValid", apart := false }
def NamesValidSaid : Prop := namesValidRow.holds Try.pinned (OpenSpec.ofChange namesValidSpec)

/-- ITS FALSE NEIGHBOUR: 'it returns false'. Refute it at one input. -/
def namesValidWrong : ChangeSpec := { name := "namesValid", fn := fun _ => fun
  | [d] => { results := [.lit (.bool false)], args := [d] }
  | _ => none }
def NamesValidWrongFalsely : Prop := namesValidRow.holds Try.pinned (OpenSpec.ofChange namesValidWrong)

/-- 'stagehandlaw21.WordsBuilds': WHATEVER THE INPUT: true; the input reads as it did. -/
def wordsBuildsSpec : ChangeSpec := { name := "wordsBuilds", fn := fun _ => fun
  | [d] => { results := [.lit (.bool true)], args := [d] }
  | _ => none }
def wordsBuildsRow : OpenClaim := { program := "ytlcabmkjacimnaa", sum := "472db4ee66611bf7ed82fc4c5ff0f56cfefa01ac39a884200ff68dc2a37f01df", func := "stagehand/stagehandlaw21.WordsBuilds", spec := "wordsBuilds", apart := false }
def WordsBuildsSaid : Prop := wordsBuildsRow.holds Try.pinned (OpenSpec.ofChange wordsBuildsSpec)

/-- ITS FALSE NEIGHBOUR: 'it returns false'. Refute it at one input. -/
def wordsBuildsWrong : ChangeSpec := { name := "wordsBuilds", fn := fun _ => fun
  | [d] => { results := [.lit (.bool false)], args := [d] }
  | _ => none }
def WordsBuildsWrongFalsely : Prop := wordsBuildsRow.holds Try.pinned (OpenSpec.ofChange wordsBuildsWrong)

/-- 'stagehandlaw02.NamesApart': WHATEVER THE INPUT: true; the input reads as it did. -/
def namesApartSpec : ChangeSpec := { name := "namesApart", fn := fun _ => fun
  | [d1, d2] => { results := [.lit (.bool true)], args := [d1, d2] }
  | _ => none }
def namesApartRow : OpenClaim := { program := "ytlcabmkjacimnaa", sum := "472db4ee66611bf7ed82fc4c5ff0f56cfefa01ac39a884200ff68dc2a37f01df", func := "stagehand/stagehandlaw02.NamesApart", spec := "namesApart", apart := false }
def NamesApartSaid : Prop := namesApartRow.holds Try.pinned (OpenSpec.ofChange namesApartSpec)

/-- ITS FALSE NEIGHBOUR: 'it returns false'. Refute it at one input. -/
def namesApartWrong : ChangeSpec := { name := "namesApart", fn := fun _ => fun
  | [d1, d2] => { results := [.lit (.bool false)], args := [d1, d2] }
  | _ => none }
def NamesApartWrongFalsely : Prop := namesApartRow.holds Try.pinned (OpenSpec.ofChange namesApartWrong)

/-- 'stagehandlaw02.NamesKnown': WHATEVER THE INPUT: true; the input reads as it did. -/
def namesKnownSpec : ChangeSpec := { name := "namesKnown", fn := fun _ => fun
  | [] => { results := [.lit (.bool true)], args := [] }
  | _ => none }
def namesKnownRow : OpenClaim := { program := "ytlcabmkjacimnaa", sum := "472db4ee66611bf7ed82fc4c5ff0f56cfefa01ac39a884200ff68dc2a37f01df", func := "stagehand/stagehandlaw02.NamesKnown", spec := "namesKnown", apart := false }
def NamesKnownSaid : Prop := namesKnownRow.holds Try.pinned (OpenSpec.ofChange namesKnownSpec)

/-- ITS FALSE NEIGHBOUR: 'it returns false'. Refute it at one input. -/
def namesKnownWrong : ChangeSpec := { name := "namesKnown", fn := fun _ => fun
  | [] => { results := [.lit (.bool false)], args := [] }
  | _ => none }
def NamesKnownWrongFalsely : Prop := namesKnownRow.holds Try.pinned (OpenSpec.ofChange namesKnownWrong)

/-- 'stagehandlaw02.NamesPuts': WHATEVER THE INPUT: true; the input reads as it did. -/
def namesPutsSpec : ChangeSpec := { name := "namesPuts", fn := fun _ => fun
  | [d] => { results := [.lit (.bool true)], args := [d] }
  | _ => none }
def namesPutsRow : OpenClaim := { program := "ytlcabmkjacimnaa", sum := "472db4ee66611bf7ed82fc4c5ff0f56cfefa01ac39a884200ff68dc2a37f01df", func := "stagehand/stagehandlaw02.NamesPuts", spec := "namesPuts", apart := false }
def NamesPutsSaid : Prop := namesPutsRow.holds Try.pinned (OpenSpec.ofChange namesPutsSpec)

/-- ITS FALSE NEIGHBOUR: 'it returns false'. Refute it at one input. -/
def namesPutsWrong : ChangeSpec := { name := "namesPuts", fn := fun _ => fun
  | [d] => { results := [.lit (.bool false)], args := [d] }
  | _ => none }
def NamesPutsWrongFalsely : Prop := namesPutsRow.holds Try.pinned (OpenSpec.ofChange namesPutsWrong)

/-- 'stagehandlaw21.WordsReads': WHATEVER THE INPUT: true; the input reads as it did. -/
def wordsReadsSpec : ChangeSpec := { name := "wordsReads", fn := fun _ => fun
  | [d] => { results := [.lit (.bool true)], args := [d] }
  | _ => none }
def wordsReadsRow : OpenClaim := { program := "ytlcabmkjacimnaa", sum := "472db4ee66611bf7ed82fc4c5ff0f56cfefa01ac39a884200ff68dc2a37f01df", func := "stagehand/stagehandlaw21.WordsReads", spec := "wordsReads", apart := false }
def WordsReadsSaid : Prop := wordsReadsRow.holds Try.pinned (OpenSpec.ofChange wordsReadsSpec)

/-- ITS FALSE NEIGHBOUR: 'it returns false'. Refute it at one input. -/
def wordsReadsWrong : ChangeSpec := { name := "wordsReads", fn := fun _ => fun
  | [d] => { results := [.lit (.bool false)], args := [d] }
  | _ => none }
def WordsReadsWrongFalsely : Prop := wordsReadsRow.holds Try.pinned (OpenSpec.ofChange wordsReadsWrong)

/-- 'stagehandlaw21.WordsBack': WHATEVER THE INPUT: true; the input reads as it did. -/
def wordsBackSpec : ChangeSpec := { name := "wordsBack", fn := fun _ => fun
  | [d] => { results := [.lit (.bool true)], args := [d] }
  | _ => none }
def wordsBackRow : OpenClaim := { program := "ytlcabmkjacimnaa", sum := "472db4ee66611bf7ed82fc4c5ff0f56cfefa01ac39a884200ff68dc2a37f01df", func := "stagehand/stagehandlaw21.WordsBack", spec := "wordsBack", apart := false }
def WordsBackSaid : Prop := wordsBackRow.holds Try.pinned (OpenSpec.ofChange wordsBackSpec)

/-- ITS FALSE NEIGHBOUR: 'it returns false'. Refute it at one input. -/
def wordsBackWrong : ChangeSpec := { name := "wordsBack", fn := fun _ => fun
  | [d] => { results := [.lit (.bool false)], args := [d] }
  | _ => none }
def WordsBackWrongFalsely : Prop := wordsBackRow.holds Try.pinned (OpenSpec.ofChange wordsBackWrong)

/-- 'stagehandlaw02.NamesFinds': WHATEVER THE INPUT: true; the input reads as it did. -/
def namesFindsSpec : ChangeSpec := { name := "namesFinds", fn := fun _ => fun
  | [d1, d2, d3] => { results := [.lit (.bool true)], args := [d1, d2, d3] }
  | _ => none }
def namesFindsRow : OpenClaim := { program := "ytlcabmkjacimnaa", sum := "472db4ee66611bf7ed82fc4c5ff0f56cfefa01ac39a884200ff68dc2a37f01df", func := "stagehand/stagehandlaw02.NamesFinds", spec := "namesFinds", apart := false }
def NamesFindsSaid : Prop := namesFindsRow.holds Try.pinned (OpenSpec.ofChange namesFindsSpec)

/-- ITS FALSE NEIGHBOUR: 'it returns false'. Refute it at one input. -/
def namesFindsWrong : ChangeSpec := { name := "namesFinds", fn := fun _ => fun
  | [d1, d2, d3] => { results := [.lit (.bool false)], args := [d1, d2, d3] }
  | _ => none }
def NamesFindsWrongFalsely : Prop := namesFindsRow.holds Try.pinned (OpenSpec.ofChange namesFindsWrong)

/-- 'stagehandlaw02.NamesKeeps': WHATEVER THE INPUT: true; the input reads as it did. -/
def namesKeepsSpec : ChangeSpec := { name := "namesKeeps", fn := fun _ => fun
  | [d1, d2] => { results := [.lit (.bool true)], args := [d1, d2] }
  | _ => none }
def namesKeepsRow : OpenClaim := { program := "ytlcabmkjacimnaa", sum := "472db4ee66611bf7ed82fc4c5ff0f56cfefa01ac39a884200ff68dc2a37f01df", func := "stagehand/stagehandlaw02.NamesKeeps", spec := "namesKeeps", apart := false }
def NamesKeepsSaid : Prop := namesKeepsRow.holds Try.pinned (OpenSpec.ofChange namesKeepsSpec)

/-- ITS FALSE NEIGHBOUR: 'it returns false'. Refute it at one input. -/
def namesKeepsWrong : ChangeSpec := { name := "namesKeeps", fn := fun _ => fun
  | [d1, d2] => { results := [.lit (.bool false)], args := [d1, d2] }
  | _ => none }
def NamesKeepsWrongFalsely : Prop := namesKeepsRow.holds Try.pinned (OpenSpec.ofChange namesKeepsWrong)

/-- 'stagehandlaw02.NamesNil': WHATEVER THE INPUT: true; the input reads as it did. -/
def namesNilSpec : ChangeSpec := { name := "namesNil", fn := fun _ => fun
  | [d1, d2] => { results := [.lit (.bool true)], args := [d1, d2] }
  | _ => none }
def namesNilRow : OpenClaim := { program := "ytlcabmkjacimnaa", sum := "472db4ee66611bf7ed82fc4c5ff0f56cfefa01ac39a884200ff68dc2a37f01df", func := "stagehand/stagehandlaw02.NamesNil", spec := "namesNil", apart := false }
def NamesNilSaid : Prop := namesNilRow.holds Try.pinned (OpenSpec.ofChange namesNilSpec)

/-- ITS FALSE NEIGHBOUR: 'it returns false'. Refute it at one input. -/
def namesNilWrong : ChangeSpec := { name := "namesNil", fn := fun _ => fun
  | [d1, d2] => { results := [.lit (.bool false)], args := [d1, d2] }
  | _ => none }
def NamesNilWrongFalsely : Prop := namesNilRow.holds Try.pinned (OpenSpec.ofChange namesNilWrong)

/-- 'stagehandlaw21.WordsOnce': WHATEVER THE INPUT: true; the input reads as it did. -/
def wordsOnceSpec : ChangeSpec := { name := "wordsOnce", fn := fun _ => fun
  | [d] => { results := [.lit (.bool true)], args := [d] }
  | _ => none }
def wordsOnceRow : OpenClaim := { program := "ytlcabmkjacimnaa", sum := "472db4ee66611bf7ed82fc4c5ff0f56cfefa01ac39a884200ff68dc2a37f01df", func := "stagehand/stagehandlaw21.WordsOnce", spec := "wordsOnce", apart := false }
def WordsOnceSaid : Prop := wordsOnceRow.holds Try.pinned (OpenSpec.ofChange wordsOnceSpec)

/-- ITS FALSE NEIGHBOUR: 'it returns false'. Refute it at one input. -/
def wordsOnceWrong : ChangeSpec := { name := "wordsOnce", fn := fun _ => fun
  | [d] => { results := [.lit (.bool false)], args := [d] }
  | _ => none }
def WordsOnceWrongFalsely : Prop := wordsOnceRow.holds Try.pinned (OpenSpec.ofChange wordsOnceWrong)

/- THE SECOND FORM. 'bulk': how many values and letters a reading holds, each counted each time it is reached (what is shared counts as often as it is met; a slice's spare places count too). A statement '..UptoSaid' is the law's where the arguments, and the package variables that the reading takes, are together of bulk at most 1048576: NARROWER than '..Said'. Prove '..Said' where nothing that the law and all that it calls make is longer than what came in: it says more and counts as full. Else prove '..UptoSaid'. A law counts once. -/
mutual
def uptoBulk {H : Type} : DataW H → Nat
  | .lit (.string bytes) => bytes.length + 1
  | .lit _ => 1
  | .nil => 1
  | .ptr d => uptoBulk d + 1
  | .slice elems spare => uptoBulkAll elems + uptoBulkAll spare + 1
  | .agg parts => uptoBulkAll parts + 1
  | .iface _ d => uptoBulk d + 1
  | .map entries => uptoBulkEntries entries + 1
  | .held _ => 1
def uptoBulkAll {H : Type} : List (DataW H) → Nat
  | [] => 0
  | d :: r => uptoBulk d + uptoBulkAll r
def uptoBulkEntries {H : Type} : List (Lit × DataW H) → Nat
  | [] => 0
  | x :: r => uptoBulkEntry x + uptoBulkEntries r
def uptoBulkEntry {H : Type} : Lit × DataW H → Nat
  | (.string bytes, d) => bytes.length + uptoBulk d + 1
  | (_, d) => uptoBulk d + 1
 end
def uptoSmall : (H : Type) → List (DataW H) → Bool := fun _ ds => decide (uptoBulkAll ds ≤ 1048576)
def OpenSpec.upto (s : _root_.Go.ChangeSpec) : _root_.Go.OpenSpec := { _root_.Go.OpenSpec.ofChange s with cond := some uptoSmall }

/-- 'stagehandlaw21.WordsOrder', WHERE WHAT IT READS IS OF BULK AT MOST 1048576: true; the input reads as it did. -/
def wordsOrderUptoRow : OpenClaim := { program := "ytlcabmkjacimnaa", sum := "472db4ee66611bf7ed82fc4c5ff0f56cfefa01ac39a884200ff68dc2a37f01df", func := "stagehand/stagehandlaw21.WordsOrder", spec := "wordsOrder", apart := false, narrowed := true }
def WordsOrderUptoSaid : Prop := wordsOrderUptoRow.holds Try.pinned (OpenSpec.upto wordsOrderSpec)

/-- 'stagehandlaw02.NamesValid', WHERE WHAT IT READS IS OF BULK AT MOST 1048576: true; the input reads as it did. -/
def namesValidUptoRow : OpenClaim := { program := "ytlcabmkjacimnaa", sum := "472db4ee66611bf7ed82fc4c5ff0f56cfefa01ac39a884200ff68dc2a37f01df", func := "stagehand/stagehandlaw02.NamesValid", spec := "namesValid", apart := false, narrowed := true }
def NamesValidUptoSaid : Prop := namesValidUptoRow.holds Try.pinned (OpenSpec.upto namesValidSpec)

/-- 'stagehandlaw21.WordsBuilds', WHERE WHAT IT READS IS OF BULK AT MOST 1048576: true; the input reads as it did. -/
def wordsBuildsUptoRow : OpenClaim := { program := "ytlcabmkjacimnaa", sum := "472db4ee66611bf7ed82fc4c5ff0f56cfefa01ac39a884200ff68dc2a37f01df", func := "stagehand/stagehandlaw21.WordsBuilds", spec := "wordsBuilds", apart := false, narrowed := true }
def WordsBuildsUptoSaid : Prop := wordsBuildsUptoRow.holds Try.pinned (OpenSpec.upto wordsBuildsSpec)

/-- 'stagehandlaw02.NamesApart', WHERE WHAT IT READS IS OF BULK AT MOST 1048576: true; the input reads as it did. -/
def namesApartUptoRow : OpenClaim := { program := "ytlcabmkjacimnaa", sum := "472db4ee66611bf7ed82fc4c5ff0f56cfefa01ac39a884200ff68dc2a37f01df", func := "stagehand/stagehandlaw02.NamesApart", spec := "namesApart", apart := false, narrowed := true }
def NamesApartUptoSaid : Prop := namesApartUptoRow.holds Try.pinned (OpenSpec.upto namesApartSpec)

/-- 'stagehandlaw02.NamesKnown', WHERE WHAT IT READS IS OF BULK AT MOST 1048576: true; the input reads as it did. -/
def namesKnownUptoRow : OpenClaim := { program := "ytlcabmkjacimnaa", sum := "472db4ee66611bf7ed82fc4c5ff0f56cfefa01ac39a884200ff68dc2a37f01df", func := "stagehand/stagehandlaw02.NamesKnown", spec := "namesKnown", apart := false, narrowed := true }
def NamesKnownUptoSaid : Prop := namesKnownUptoRow.holds Try.pinned (OpenSpec.upto namesKnownSpec)

/-- 'stagehandlaw02.NamesPuts', WHERE WHAT IT READS IS OF BULK AT MOST 1048576: true; the input reads as it did. -/
def namesPutsUptoRow : OpenClaim := { program := "ytlcabmkjacimnaa", sum := "472db4ee66611bf7ed82fc4c5ff0f56cfefa01ac39a884200ff68dc2a37f01df", func := "stagehand/stagehandlaw02.NamesPuts", spec := "namesPuts", apart := false, narrowed := true }
def NamesPutsUptoSaid : Prop := namesPutsUptoRow.holds Try.pinned (OpenSpec.upto namesPutsSpec)

/-- 'stagehandlaw21.WordsReads', WHERE WHAT IT READS IS OF BULK AT MOST 1048576: true; the input reads as it did. -/
def wordsReadsUptoRow : OpenClaim := { program := "ytlcabmkjacimnaa", sum := "472db4ee66611bf7ed82fc4c5ff0f56cfefa01ac39a884200ff68dc2a37f01df", func := "stagehand/stagehandlaw21.WordsReads", spec := "wordsReads", apart := false, narrowed := true }
def WordsReadsUptoSaid : Prop := wordsReadsUptoRow.holds Try.pinned (OpenSpec.upto wordsReadsSpec)

/-- 'stagehandlaw21.WordsBack', WHERE WHAT IT READS IS OF BULK AT MOST 1048576: true; the input reads as it did. -/
def wordsBackUptoRow : OpenClaim := { program := "ytlcabmkjacimnaa", sum := "472db4ee66611bf7ed82fc4c5ff0f56cfefa01ac39a884200ff68dc2a37f01df", func := "stagehand/stagehandlaw21.WordsBack", spec := "wordsBack", apart := false, narrowed := true }
def WordsBackUptoSaid : Prop := wordsBackUptoRow.holds Try.pinned (OpenSpec.upto wordsBackSpec)

/-- 'stagehandlaw02.NamesFinds', WHERE WHAT IT READS IS OF BULK AT MOST 1048576: true; the input reads as it did. -/
def namesFindsUptoRow : OpenClaim := { program := "ytlcabmkjacimnaa", sum := "472db4ee66611bf7ed82fc4c5ff0f56cfefa01ac39a884200ff68dc2a37f01df", func := "stagehand/stagehandlaw02.NamesFinds", spec := "namesFinds", apart := false, narrowed := true }
def NamesFindsUptoSaid : Prop := namesFindsUptoRow.holds Try.pinned (OpenSpec.upto namesFindsSpec)

/-- 'stagehandlaw02.NamesKeeps', WHERE WHAT IT READS IS OF BULK AT MOST 1048576: true; the input reads as it did. -/
def namesKeepsUptoRow : OpenClaim := { program := "ytlcabmkjacimnaa", sum := "472db4ee66611bf7ed82fc4c5ff0f56cfefa01ac39a884200ff68dc2a37f01df", func := "stagehand/stagehandlaw02.NamesKeeps", spec := "namesKeeps", apart := false, narrowed := true }
def NamesKeepsUptoSaid : Prop := namesKeepsUptoRow.holds Try.pinned (OpenSpec.upto namesKeepsSpec)

/-- 'stagehandlaw02.NamesNil', WHERE WHAT IT READS IS OF BULK AT MOST 1048576: true; the input reads as it did. -/
def namesNilUptoRow : OpenClaim := { program := "ytlcabmkjacimnaa", sum := "472db4ee66611bf7ed82fc4c5ff0f56cfefa01ac39a884200ff68dc2a37f01df", func := "stagehand/stagehandlaw02.NamesNil", spec := "namesNil", apart := false, narrowed := true }
def NamesNilUptoSaid : Prop := namesNilUptoRow.holds Try.pinned (OpenSpec.upto namesNilSpec)

/-- 'stagehandlaw21.WordsOnce', WHERE WHAT IT READS IS OF BULK AT MOST 1048576: true; the input reads as it did. -/
def wordsOnceUptoRow : OpenClaim := { program := "ytlcabmkjacimnaa", sum := "472db4ee66611bf7ed82fc4c5ff0f56cfefa01ac39a884200ff68dc2a37f01df", func := "stagehand/stagehandlaw21.WordsOnce", spec := "wordsOnce", apart := false, narrowed := true }
def WordsOnceUptoSaid : Prop := wordsOnceUptoRow.holds Try.pinned (OpenSpec.upto wordsOnceSpec)

end Rows
end Go.Proofs.Ytlcabmkjacimnaa
