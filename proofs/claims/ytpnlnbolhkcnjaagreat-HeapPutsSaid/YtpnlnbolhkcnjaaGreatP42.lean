/- TmT,TmU. No condition beyond theirs. -/
import Derived.Test.YtpnlnbolhkcnjaaGreatP06
import Derived.Lib.Bytealg
import Derived.Laws.Cover1
set_option linter.unusedSimpArgs false
set_option linter.unusedVariables false
set_option maxHeartbeats 1000000
set_option maxRecDepth 100000
namespace Go.Proofs.YtpnlnbolhkcnjaaGreat.tm
open Go.RowKit mem
end Go.Proofs.YtpnlnbolhkcnjaaGreat.tm
