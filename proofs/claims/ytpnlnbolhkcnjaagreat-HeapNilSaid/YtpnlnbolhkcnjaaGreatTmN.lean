
/- terms: the measure at every depth. -/
import Derived.Test.YtpnlnbolhkcnjaaGreatTmK2
import Derived.Test.YtpnlnbolhkcnjaaGreatTmM
namespace Go.Proofs.YtpnlnbolhkcnjaaGreat.tm
open Go.RowKit mem names
theorem conAll : ∀ n, ConS n
  | 0 => con0
  | n + 1 => con1 (ofStep (conAll n))
theorem ofAll (n : Nat) : OfS n := ofStep (conAll n)
end Go.Proofs.YtpnlnbolhkcnjaaGreat.tm
