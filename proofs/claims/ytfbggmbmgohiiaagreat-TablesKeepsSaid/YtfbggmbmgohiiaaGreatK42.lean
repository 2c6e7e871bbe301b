/- Texts of this seat, one behind the other: TeA. No condition beyond theirs. -/
import Derived.Test.YtfbggmbmgohiiaaGreatK03
set_option linter.unusedSimpArgs false
set_option linter.unusedVariables false
set_option maxHeartbeats 1000000
set_option maxRecDepth 100000
namespace Go.Proofs.YtfbggmbmgohiiaaGreat.tm
open Go.RowKit mem
end Go.Proofs.YtfbggmbmgohiiaaGreat.tm
