/- Texts of this seat, one behind the other: TcL, TcM, TcN. No condition beyond theirs. -/
import Derived.Test.YtfbggmbmgohiiaaGreatM34
set_option linter.unusedSimpArgs false
set_option linter.unusedVariables false
set_option maxHeartbeats 4000000
set_option maxRecDepth 100000
namespace Go.Proofs.YtfbggmbmgohiiaaGreat.tb
open Go.RowKit mem rec tm names
section
variable {N : Nat} {w w' : World} {B : Nat} {F : Nat → Prop} {s : TbSt N}
end
section
variable {N : Nat} {w w' : World} {B : Nat} {F : Nat → Prop} {s : TbSt N}
end
section
variable {N : Nat} {w w' : World} {B : Nat} {F : Nat → Prop} {s : TbSt N}
end
end Go.Proofs.YtfbggmbmgohiiaaGreat.tb
