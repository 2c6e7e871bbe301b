/- TmT,TmU,TmV,TmW. No condition beyond theirs. -/
import Derived.Test.YtpnlnbolhkcnjaaGreatK17
import Derived.Lib.Bytealg
import Derived.Laws.Cover1
set_option linter.unusedSimpArgs false
set_option linter.unusedVariables false
set_option maxHeartbeats 4000000
set_option maxRecDepth 100000
namespace Go.Proofs.YtpnlnbolhkcnjaaGreat
namespace tm
open Go.RowKit mem
end tm
namespace tm
open Go.RowKit mem names
end tm
end Go.Proofs.YtpnlnbolhkcnjaaGreat
