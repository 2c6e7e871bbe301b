/-
  NARROWER THAN 'FOR EVERY INPUT', by the rows' own cells (each row's printed sentence says how): LinksSymmetric: loops · LinksMonitors: loops · LinksLost: loops · LinksRuns: loops · LinksNone: loops · ProcsEnds: loops · ProcsNone: loops.
  DERIVED. THE GIVEN ROWS OF THIS SEAT. 11 by the template 'for every input the law returns true; each argument reads behind the call as it read before'; 0 by the template 'total and deterministic' (their statements: YtnakbepcalciiaaGreatTotals.lean).
  GIVEN WITH THE SEED: the statements are not yours to turn. If you find one false, say at which input.
  Laid BY PROGRAM, IN A SANDBOX (cutbox-rows.mjs): the forced cells as the released guide's own fill.sh prints them over the translation 7a187cc9660a4573… (all of the seat's roots in one cut). By AI agents, Wed Nov 11 2026. No macro, syntax, notation, axiom, sorry.
-/
import Derived.Test.YtnakbepcalciiaaGreatChecked
import GoSem.Claim
import GoSem.ClaimJoined
import GoSem.ClaimMapViews
import Derived.JoinedTies
import Derived.KernelRfl
namespace Go.Proofs.YtnakbepcalciiaaGreat
/- THE CELL 'sum', in the pinned program and in every row, IS THE sha256 OF THE DUMP (.gsa) THAT YtnakbepcalciiaaGreatProg.lean LOADS. Nothing in Lean hashes anything: it is a label: what it is worth is what the hold of that sum in a sandbox is worth. -/
noncomputable def Tryz.pinned : Pinned := { name := "ytnakbepcalciiaagreat", sum := "7a187cc9660a4573f1a07e5f4afafe25647ec797102814601fde1551885d8fec", checked := Tryz.checked }
namespace Rows
def none {H : Type} : Left H := { results := [], args := [] }

/-- 'stagehandlaw30.LinksSymmetric': WHATEVER THE INPUT: true; the input reads as it did. -/
def linksSymmetricSpec : ChangeSpec := { name := "linksSymmetric", fn := fun _ => fun
  | [d] => { results := [.lit (.bool true)], args := [d] }
  | _ => none }
def linksSymmetricRow : OpenClaim := { program := "ytnakbepcalciiaagreat", sum := "7a187cc9660a4573f1a07e5f4afafe25647ec797102814601fde1551885d8fec", func := "stagehand/stagehandlaw30.LinksSymmetric", spec := "linksSymmetric", inPlace := ["internal/bytealg.abigen_runtime_cmpstring"], unfollowed := true, recurses := true, loops := true, plainKeys := false, apart := false }
def LinksSymmetricSaid : Prop := linksSymmetricRow.holds Tryz.pinned (OpenSpec.ofChange linksSymmetricSpec)

/-- ITS FALSE NEIGHBOUR: 'it returns false'. Refute it at one input. -/
def linksSymmetricWrong : ChangeSpec := { name := "linksSymmetric", fn := fun _ => fun
  | [d] => { results := [.lit (.bool false)], args := [d] }
  | _ => none }
def LinksSymmetricWrongFalsely : Prop := linksSymmetricRow.holds Tryz.pinned (OpenSpec.ofChange linksSymmetricWrong)

/-- 'stagehandlaw30.LinksMonitors': WHATEVER THE INPUT: true; the input reads as it did. -/
def linksMonitorsSpec : ChangeSpec := { name := "linksMonitors", fn := fun _ => fun
  | [d] => { results := [.lit (.bool true)], args := [d] }
  | _ => none }
def linksMonitorsRow : OpenClaim := { program := "ytnakbepcalciiaagreat", sum := "7a187cc9660a4573f1a07e5f4afafe25647ec797102814601fde1551885d8fec", func := "stagehand/stagehandlaw30.LinksMonitors", spec := "linksMonitors", inPlace := ["internal/bytealg.abigen_runtime_cmpstring"], unfollowed := true, recurses := true, loops := true, plainKeys := false, apart := false }
def LinksMonitorsSaid : Prop := linksMonitorsRow.holds Tryz.pinned (OpenSpec.ofChange linksMonitorsSpec)

/-- ITS FALSE NEIGHBOUR: 'it returns false'. Refute it at one input. -/
def linksMonitorsWrong : ChangeSpec := { name := "linksMonitors", fn := fun _ => fun
  | [d] => { results := [.lit (.bool false)], args := [d] }
  | _ => none }
def LinksMonitorsWrongFalsely : Prop := linksMonitorsRow.holds Tryz.pinned (OpenSpec.ofChange linksMonitorsWrong)

/-- 'stagehandlaw30.LinksLost': WHATEVER THE INPUT: true; the input reads as it did. -/
def linksLostSpec : ChangeSpec := { name := "linksLost", fn := fun _ => fun
  | [d1, d2] => { results := [.lit (.bool true)], args := [d1, d2] }
  | _ => none }
def linksLostRow : OpenClaim := { program := "ytnakbepcalciiaagreat", sum := "7a187cc9660a4573f1a07e5f4afafe25647ec797102814601fde1551885d8fec", func := "stagehand/stagehandlaw30.LinksLost", spec := "linksLost", inPlace := ["internal/bytealg.abigen_runtime_cmpstring"], unfollowed := true, recurses := true, loops := true, plainKeys := false, apart := false }
def LinksLostSaid : Prop := linksLostRow.holds Tryz.pinned (OpenSpec.ofChange linksLostSpec)

/-- ITS FALSE NEIGHBOUR: 'it returns false'. Refute it at one input. -/
def linksLostWrong : ChangeSpec := { name := "linksLost", fn := fun _ => fun
  | [d1, d2] => { results := [.lit (.bool false)], args := [d1, d2] }
  | _ => none }
def LinksLostWrongFalsely : Prop := linksLostRow.holds Tryz.pinned (OpenSpec.ofChange linksLostWrong)

/-- 'stagehandlaw30.LinksProtocol': WHATEVER THE INPUT: true; the input reads as it did. -/
def linksProtocolSpec : ChangeSpec := { name := "linksProtocol", fn := fun _ => fun
  | [d] => { results := [.lit (.bool true)], args := [d] }
  | _ => none }
def linksProtocolRow : OpenClaim := { program := "ytnakbepcalciiaagreat", sum := "7a187cc9660a4573f1a07e5f4afafe25647ec797102814601fde1551885d8fec", func := "stagehand/stagehandlaw30.LinksProtocol", spec := "linksProtocol", inPlace := ["internal/bytealg.abigen_runtime_cmpstring"], unfollowed := true, recurses := true, plainKeys := false, apart := false }
def LinksProtocolSaid : Prop := linksProtocolRow.holds Tryz.pinned (OpenSpec.ofChange linksProtocolSpec)

/-- ITS FALSE NEIGHBOUR: 'it returns false'. Refute it at one input. -/
def linksProtocolWrong : ChangeSpec := { name := "linksProtocol", fn := fun _ => fun
  | [d] => { results := [.lit (.bool false)], args := [d] }
  | _ => none }
def LinksProtocolWrongFalsely : Prop := linksProtocolRow.holds Tryz.pinned (OpenSpec.ofChange linksProtocolWrong)

/-- 'stagehandlaw30.LinksRuns': WHATEVER THE INPUT: true; the input reads as it did. -/
def linksRunsSpec : ChangeSpec := { name := "linksRuns", fn := fun _ => fun
  | [d1, d2, d3] => { results := [.lit (.bool true)], args := [d1, d2, d3] }
  | _ => none }
def linksRunsRow : OpenClaim := { program := "ytnakbepcalciiaagreat", sum := "7a187cc9660a4573f1a07e5f4afafe25647ec797102814601fde1551885d8fec", func := "stagehand/stagehandlaw30.LinksRuns", spec := "linksRuns", inPlace := ["internal/bytealg.abigen_runtime_cmpstring"], unfollowed := true, recurses := true, loops := true, plainKeys := false, apart := false }
def LinksRunsSaid : Prop := linksRunsRow.holds Tryz.pinned (OpenSpec.ofChange linksRunsSpec)

/-- ITS FALSE NEIGHBOUR: 'it returns false'. Refute it at one input. -/
def linksRunsWrong : ChangeSpec := { name := "linksRuns", fn := fun _ => fun
  | [d1, d2, d3] => { results := [.lit (.bool false)], args := [d1, d2, d3] }
  | _ => none }
def LinksRunsWrongFalsely : Prop := linksRunsRow.holds Tryz.pinned (OpenSpec.ofChange linksRunsWrong)

/-- 'stagehandlaw30.LinksNone': WHATEVER THE INPUT: true; the input reads as it did. -/
def linksNoneSpec : ChangeSpec := { name := "linksNone", fn := fun _ => fun
  | [d1, d2, d3] => { results := [.lit (.bool true)], args := [d1, d2, d3] }
  | _ => none }
def linksNoneRow : OpenClaim := { program := "ytnakbepcalciiaagreat", sum := "7a187cc9660a4573f1a07e5f4afafe25647ec797102814601fde1551885d8fec", func := "stagehand/stagehandlaw30.LinksNone", spec := "linksNone", inPlace := ["internal/bytealg.abigen_runtime_cmpstring"], unfollowed := true, recurses := true, loops := true, plainKeys := false, apart := false }
def LinksNoneSaid : Prop := linksNoneRow.holds Tryz.pinned (OpenSpec.ofChange linksNoneSpec)

/-- ITS FALSE NEIGHBOUR: 'it returns false'. Refute it at one input. -/
def linksNoneWrong : ChangeSpec := { name := "linksNone", fn := fun _ => fun
  | [d1, d2, d3] => { results := [.lit (.bool false)], args := [d1, d2, d3] }
  | _ => none }
def LinksNoneWrongFalsely : Prop := linksNoneRow.holds Tryz.pinned (OpenSpec.ofChange linksNoneWrong)

/-- 'stagehandlaw32.ProcsCascade': WHATEVER THE INPUT: true; the input reads as it did. -/
def procsCascadeSpec : ChangeSpec := { name := "procsCascade", fn := fun _ => fun
  | [d1, d2, d3] => { results := [.lit (.bool true)], args := [d1, d2, d3] }
  | _ => none }
def procsCascadeRow : OpenClaim := { program := "ytnakbepcalciiaagreat", sum := "7a187cc9660a4573f1a07e5f4afafe25647ec797102814601fde1551885d8fec", func := "stagehand/stagehandlaw32.ProcsCascade", spec := "procsCascade", inPlace := ["internal/bytealg.abigen_runtime_cmpstring"], unfollowed := true, recurses := true, plainKeys := false, apart := false }
def ProcsCascadeSaid : Prop := procsCascadeRow.holds Tryz.pinned (OpenSpec.ofChange procsCascadeSpec)

/-- ITS FALSE NEIGHBOUR: 'it returns false'. Refute it at one input. -/
def procsCascadeWrong : ChangeSpec := { name := "procsCascade", fn := fun _ => fun
  | [d1, d2, d3] => { results := [.lit (.bool false)], args := [d1, d2, d3] }
  | _ => none }
def ProcsCascadeWrongFalsely : Prop := procsCascadeRow.holds Tryz.pinned (OpenSpec.ofChange procsCascadeWrong)

/-- 'stagehandlaw32.ProcsPair': WHATEVER THE INPUT: true; the input reads as it did. -/
def procsPairSpec : ChangeSpec := { name := "procsPair", fn := fun _ => fun
  | [d1, d2, d3] => { results := [.lit (.bool true)], args := [d1, d2, d3] }
  | _ => none }
def procsPairRow : OpenClaim := { program := "ytnakbepcalciiaagreat", sum := "7a187cc9660a4573f1a07e5f4afafe25647ec797102814601fde1551885d8fec", func := "stagehand/stagehandlaw32.ProcsPair", spec := "procsPair", inPlace := ["internal/bytealg.abigen_runtime_cmpstring"], unfollowed := true, recurses := true, plainKeys := false, apart := false }
def ProcsPairSaid : Prop := procsPairRow.holds Tryz.pinned (OpenSpec.ofChange procsPairSpec)

/-- ITS FALSE NEIGHBOUR: 'it returns false'. Refute it at one input. -/
def procsPairWrong : ChangeSpec := { name := "procsPair", fn := fun _ => fun
  | [d1, d2, d3] => { results := [.lit (.bool false)], args := [d1, d2, d3] }
  | _ => none }
def ProcsPairWrongFalsely : Prop := procsPairRow.holds Tryz.pinned (OpenSpec.ofChange procsPairWrong)

/-- 'stagehandlaw32.ProcsLost': WHATEVER THE INPUT: true; the input reads as it did. -/
def procsLostSpec : ChangeSpec := { name := "procsLost", fn := fun _ => fun
  | [d1, d2, d3] => { results := [.lit (.bool true)], args := [d1, d2, d3] }
  | _ => none }
def procsLostRow : OpenClaim := { program := "ytnakbepcalciiaagreat", sum := "7a187cc9660a4573f1a07e5f4afafe25647ec797102814601fde1551885d8fec", func := "stagehand/stagehandlaw32.ProcsLost", spec := "procsLost", inPlace := ["internal/bytealg.abigen_runtime_cmpstring"], unfollowed := true, recurses := true, plainKeys := false, apart := false }
def ProcsLostSaid : Prop := procsLostRow.holds Tryz.pinned (OpenSpec.ofChange procsLostSpec)

/-- ITS FALSE NEIGHBOUR: 'it returns false'. Refute it at one input. -/
def procsLostWrong : ChangeSpec := { name := "procsLost", fn := fun _ => fun
  | [d1, d2, d3] => { results := [.lit (.bool false)], args := [d1, d2, d3] }
  | _ => none }
def ProcsLostWrongFalsely : Prop := procsLostRow.holds Tryz.pinned (OpenSpec.ofChange procsLostWrong)

/-- 'stagehandlaw32.ProcsEnds': WHATEVER THE INPUT: true; the input reads as it did. -/
def procsEndsSpec : ChangeSpec := { name := "procsEnds", fn := fun _ => fun
  | [d] => { results := [.lit (.bool true)], args := [d] }
  | _ => none }
def procsEndsRow : OpenClaim := { program := "ytnakbepcalciiaagreat", sum := "7a187cc9660a4573f1a07e5f4afafe25647ec797102814601fde1551885d8fec", func := "stagehand/stagehandlaw32.ProcsEnds", spec := "procsEnds", inPlace := ["internal/bytealg.abigen_runtime_cmpstring"], unfollowed := true, recurses := true, loops := true, plainKeys := false, apart := false }
def ProcsEndsSaid : Prop := procsEndsRow.holds Tryz.pinned (OpenSpec.ofChange procsEndsSpec)

/-- ITS FALSE NEIGHBOUR: 'it returns false'. Refute it at one input. -/
def procsEndsWrong : ChangeSpec := { name := "procsEnds", fn := fun _ => fun
  | [d] => { results := [.lit (.bool false)], args := [d] }
  | _ => none }
def ProcsEndsWrongFalsely : Prop := procsEndsRow.holds Tryz.pinned (OpenSpec.ofChange procsEndsWrong)

/-- 'stagehandlaw32.ProcsNone': WHATEVER THE INPUT: true; the input reads as it did. -/
def procsNoneSpec : ChangeSpec := { name := "procsNone", fn := fun _ => fun
  | [d1, d2, d3] => { results := [.lit (.bool true)], args := [d1, d2, d3] }
  | _ => none }
def procsNoneRow : OpenClaim := { program := "ytnakbepcalciiaagreat", sum := "7a187cc9660a4573f1a07e5f4afafe25647ec797102814601fde1551885d8fec", func := "stagehand/stagehandlaw32.ProcsNone", spec := "procsNone", inPlace := ["internal/bytealg.abigen_runtime_cmpstring"], unfollowed := true, recurses := true, loops := true, plainKeys := false, apart := false }
def ProcsNoneSaid : Prop := procsNoneRow.holds Tryz.pinned (OpenSpec.ofChange procsNoneSpec)

/-- ITS FALSE NEIGHBOUR: 'it returns false'. Refute it at one input. -/
def procsNoneWrong : ChangeSpec := { name := "procsNone", fn := fun _ => fun
  | [d1, d2, d3] => { results := [.lit (.bool false)], args := [d1, d2, d3] }
  | _ => none }
def ProcsNoneWrongFalsely : Prop := procsNoneRow.holds Tryz.pinned (OpenSpec.ofChange procsNoneWrong)

/- THE SECOND FORM. 'bulk': how many values and letters a reading holds, each counted each time it is reached (what is shared counts as often as it is met; a slice's spare places count too). A statement '..UptoSaid' is the law's where the arguments, and the package variables that the reading takes, are together of bulk at most 1048576: NARROWER than '..Said'. Prove '..Said' where nothing that the law and all that it calls make is longer than what came in: it says more and counts as full. Else prove '..UptoSaid'. A law counts once. -/
mutual
def uptoBulk {H : Type} : DataW H → Nat
  | .lit (.string bytes) => bytes.length + 1
  | .lit _ => 1
  | .nil => 1
  | .ptr d => uptoBulk d + 1
  | .slice elems spare => uptoBulkAll elems + uptoBulkAll spare + 1
  | .agg parts => uptoBulkAll parts + 1
  | .iface _ d => uptoBulk d + 1
  | .map entries => uptoBulkEntries entries + 1
  | .held _ => 1
def uptoBulkAll {H : Type} : List (DataW H) → Nat
  | [] => 0
  | d :: r => uptoBulk d + uptoBulkAll r
def uptoBulkEntries {H : Type} : List (Lit × DataW H) → Nat
  | [] => 0
  | x :: r => uptoBulkEntry x + uptoBulkEntries r
def uptoBulkEntry {H : Type} : Lit × DataW H → Nat
  | (.string bytes, d) => bytes.length + uptoBulk d + 1
  | (_, d) => uptoBulk d + 1
 end
def uptoSmall : (H : Type) → List (DataW H) → Bool := fun _ ds => decide (uptoBulkAll ds ≤ 1048576)
def OpenSpec.upto (s : _root_.Go.ChangeSpec) : _root_.Go.OpenSpec := { _root_.Go.OpenSpec.ofChange s with cond := some uptoSmall }

/-- 'stagehandlaw30.LinksSymmetric', WHERE WHAT IT READS IS OF BULK AT MOST 1048576: true; the input reads as it did. -/
def linksSymmetricUptoRow : OpenClaim := { program := "ytnakbepcalciiaagreat", sum := "7a187cc9660a4573f1a07e5f4afafe25647ec797102814601fde1551885d8fec", func := "stagehand/stagehandlaw30.LinksSymmetric", spec := "linksSymmetric", inPlace := ["internal/bytealg.abigen_runtime_cmpstring"], unfollowed := true, recurses := true, loops := true, plainKeys := false, apart := false, narrowed := true }
def LinksSymmetricUptoSaid : Prop := linksSymmetricUptoRow.holds Tryz.pinned (OpenSpec.upto linksSymmetricSpec)

/-- 'stagehandlaw30.LinksMonitors', WHERE WHAT IT READS IS OF BULK AT MOST 1048576: true; the input reads as it did. -/
def linksMonitorsUptoRow : OpenClaim := { program := "ytnakbepcalciiaagreat", sum := "7a187cc9660a4573f1a07e5f4afafe25647ec797102814601fde1551885d8fec", func := "stagehand/stagehandlaw30.LinksMonitors", spec := "linksMonitors", inPlace := ["internal/bytealg.abigen_runtime_cmpstring"], unfollowed := true, recurses := true, loops := true, plainKeys := false, apart := false, narrowed := true }
def LinksMonitorsUptoSaid : Prop := linksMonitorsUptoRow.holds Tryz.pinned (OpenSpec.upto linksMonitorsSpec)

/-- 'stagehandlaw30.LinksLost', WHERE WHAT IT READS IS OF BULK AT MOST 1048576: true; the input reads as it did. -/
def linksLostUptoRow : OpenClaim := { program := "ytnakbepcalciiaagreat", sum := "7a187cc9660a4573f1a07e5f4afafe25647ec797102814601fde1551885d8fec", func := "stagehand/stagehandlaw30.LinksLost", spec := "linksLost", inPlace := ["internal/bytealg.abigen_runtime_cmpstring"], unfollowed := true, recurses := true, loops := true, plainKeys := false, apart := false, narrowed := true }
def LinksLostUptoSaid : Prop := linksLostUptoRow.holds Tryz.pinned (OpenSpec.upto linksLostSpec)

/-- 'stagehandlaw30.LinksProtocol', WHERE WHAT IT READS IS OF BULK AT MOST 1048576: true; the input reads as it did. -/
def linksProtocolUptoRow : OpenClaim := { program := "ytnakbepcalciiaagreat", sum := "7a187cc9660a4573f1a07e5f4afafe25647ec797102814601fde1551885d8fec", func := "stagehand/stagehandlaw30.LinksProtocol", spec := "linksProtocol", inPlace := ["internal/bytealg.abigen_runtime_cmpstring"], unfollowed := true, recurses := true, plainKeys := false, apart := false, narrowed := true }
def LinksProtocolUptoSaid : Prop := linksProtocolUptoRow.holds Tryz.pinned (OpenSpec.upto linksProtocolSpec)

/-- 'stagehandlaw30.LinksRuns', WHERE WHAT IT READS IS OF BULK AT MOST 1048576: true; the input reads as it did. -/
def linksRunsUptoRow : OpenClaim := { program := "ytnakbepcalciiaagreat", sum := "7a187cc9660a4573f1a07e5f4afafe25647ec797102814601fde1551885d8fec", func := "stagehand/stagehandlaw30.LinksRuns", spec := "linksRuns", inPlace := ["internal/bytealg.abigen_runtime_cmpstring"], unfollowed := true, recurses := true, loops := true, plainKeys := false, apart := false, narrowed := true }
def LinksRunsUptoSaid : Prop := linksRunsUptoRow.holds Tryz.pinned (OpenSpec.upto linksRunsSpec)

/-- 'stagehandlaw30.LinksNone', WHERE WHAT IT READS IS OF BULK AT MOST 1048576: true; the input reads as it did. -/
def linksNoneUptoRow : OpenClaim := { program := "ytnakbepcalciiaagreat", sum := "7a187cc9660a4573f1a07e5f4afafe25647ec797102814601fde1551885d8fec", func := "stagehand/stagehandlaw30.LinksNone", spec := "linksNone", inPlace := ["internal/bytealg.abigen_runtime_cmpstring"], unfollowed := true, recurses := true, loops := true, plainKeys := false, apart := false, narrowed := true }
def LinksNoneUptoSaid : Prop := linksNoneUptoRow.holds Tryz.pinned (OpenSpec.upto linksNoneSpec)

/-- 'stagehandlaw32.ProcsCascade', WHERE WHAT IT READS IS OF BULK AT MOST 1048576: true; the input reads as it did. -/
def procsCascadeUptoRow : OpenClaim := { program := "ytnakbepcalciiaagreat", sum := "7a187cc9660a4573f1a07e5f4afafe25647ec797102814601fde1551885d8fec", func := "stagehand/stagehandlaw32.ProcsCascade", spec := "procsCascade", inPlace := ["internal/bytealg.abigen_runtime_cmpstring"], unfollowed := true, recurses := true, plainKeys := false, apart := false, narrowed := true }
def ProcsCascadeUptoSaid : Prop := procsCascadeUptoRow.holds Tryz.pinned (OpenSpec.upto procsCascadeSpec)

/-- 'stagehandlaw32.ProcsPair', WHERE WHAT IT READS IS OF BULK AT MOST 1048576: true; the input reads as it did. -/
def procsPairUptoRow : OpenClaim := { program := "ytnakbepcalciiaagreat", sum := "7a187cc9660a4573f1a07e5f4afafe25647ec797102814601fde1551885d8fec", func := "stagehand/stagehandlaw32.ProcsPair", spec := "procsPair", inPlace := ["internal/bytealg.abigen_runtime_cmpstring"], unfollowed := true, recurses := true, plainKeys := false, apart := false, narrowed := true }
def ProcsPairUptoSaid : Prop := procsPairUptoRow.holds Tryz.pinned (OpenSpec.upto procsPairSpec)

/-- 'stagehandlaw32.ProcsLost', WHERE WHAT IT READS IS OF BULK AT MOST 1048576: true; the input reads as it did. -/
def procsLostUptoRow : OpenClaim := { program := "ytnakbepcalciiaagreat", sum := "7a187cc9660a4573f1a07e5f4afafe25647ec797102814601fde1551885d8fec", func := "stagehand/stagehandlaw32.ProcsLost", spec := "procsLost", inPlace := ["internal/bytealg.abigen_runtime_cmpstring"], unfollowed := true, recurses := true, plainKeys := false, apart := false, narrowed := true }
def ProcsLostUptoSaid : Prop := procsLostUptoRow.holds Tryz.pinned (OpenSpec.upto procsLostSpec)

/-- 'stagehandlaw32.ProcsEnds', WHERE WHAT IT READS IS OF BULK AT MOST 1048576: true; the input reads as it did. -/
def procsEndsUptoRow : OpenClaim := { program := "ytnakbepcalciiaagreat", sum := "7a187cc9660a4573f1a07e5f4afafe25647ec797102814601fde1551885d8fec", func := "stagehand/stagehandlaw32.ProcsEnds", spec := "procsEnds", inPlace := ["internal/bytealg.abigen_runtime_cmpstring"], unfollowed := true, recurses := true, loops := true, plainKeys := false, apart := false, narrowed := true }
def ProcsEndsUptoSaid : Prop := procsEndsUptoRow.holds Tryz.pinned (OpenSpec.upto procsEndsSpec)

/-- 'stagehandlaw32.ProcsNone', WHERE WHAT IT READS IS OF BULK AT MOST 1048576: true; the input reads as it did. -/
def procsNoneUptoRow : OpenClaim := { program := "ytnakbepcalciiaagreat", sum := "7a187cc9660a4573f1a07e5f4afafe25647ec797102814601fde1551885d8fec", func := "stagehand/stagehandlaw32.ProcsNone", spec := "procsNone", inPlace := ["internal/bytealg.abigen_runtime_cmpstring"], unfollowed := true, recurses := true, loops := true, plainKeys := false, apart := false, narrowed := true }
def ProcsNoneUptoSaid : Prop := procsNoneUptoRow.holds Tryz.pinned (OpenSpec.upto procsNoneSpec)

end Rows
end Go.Proofs.YtnakbepcalciiaaGreat
