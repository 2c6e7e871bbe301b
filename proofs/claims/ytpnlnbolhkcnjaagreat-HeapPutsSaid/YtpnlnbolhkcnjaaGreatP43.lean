/- TmV,TmW. No condition beyond theirs. -/
import Derived.Test.YtpnlnbolhkcnjaaGreatP42
import Derived.Test.YtpnlnbolhkcnjaaGreatP10
set_option linter.unusedSimpArgs false
set_option linter.unusedVariables false
set_option maxHeartbeats 4000000
set_option maxRecDepth 100000
namespace Go.Proofs.YtpnlnbolhkcnjaaGreat.tm
open Go.RowKit mem names
end Go.Proofs.YtpnlnbolhkcnjaaGreat.tm
