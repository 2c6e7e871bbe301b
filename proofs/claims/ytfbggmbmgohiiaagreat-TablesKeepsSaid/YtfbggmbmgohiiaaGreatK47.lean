/- Texts of this seat, one behind the other: TeC, TeD. No condition beyond theirs. -/
import Derived.Test.YtfbggmbmgohiiaaGreatK01
import Derived.Test.YtfbggmbmgohiiaaGreatK43
import Derived.Test.YtfbggmbmgohiiaaGreatK46
import Derived.Test.YtfbggmbmgohiiaaGreatK24
import Derived.Test.YtfbggmbmgohiiaaGreatK21
set_option linter.unusedSimpArgs false
set_option linter.unusedVariables false
set_option maxHeartbeats 4000000
set_option maxRecDepth 100000
namespace Go.Proofs.YtfbggmbmgohiiaaGreat.tb
open Go.RowKit mem rec tm names
section
variable {N:Nat} {w w':World} {B y:Nat} {lv:Value} {T:List (RTb N)} {t:RTb N}
end
def absRR {N:Nat} (rows:List (RRw N)):List (Tm (N + 1) × Tm (N + 1)):=rows.map (fun r=>(r.k,r.v))
section
variable {N:Nat} {w w':World} {B:Nat}
end
end Go.Proofs.YtfbggmbmgohiiaaGreat.tb
