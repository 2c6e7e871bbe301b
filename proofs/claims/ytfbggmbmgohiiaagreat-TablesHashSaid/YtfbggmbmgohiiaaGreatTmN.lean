
/- terms: the measure at every depth. -/
import Derived.Test.YtfbggmbmgohiiaaGreatTmK2
import Derived.Test.YtfbggmbmgohiiaaGreatTmM
namespace Go.Proofs.YtfbggmbmgohiiaaGreat.tm
open Go.RowKit mem names
theorem conAll : ∀ n, ConS n
  | 0 => con0
  | n + 1 => con1 (ofStep (conAll n))
theorem ofAll (n : Nat) : OfS n := ofStep (conAll n)
end Go.Proofs.YtfbggmbmgohiiaaGreat.tm
