/- Several texts in one, one behind the other: LkJf6. No condition beyond theirs. -/
import Derived.JoinedOf
import Derived.KernelRfl
import Derived.Test.YtnakbepcalciiaaGreatRows
/- What the claim of LinksProtocol asks of the program's form, by the kernel. No condition. -/
namespace Go.Proofs.YtnakbepcalciiaaGreat.lk
set_option maxRecDepth 100000
theorem joined6 : joinedFacts Tryz.prog 6 Tryz.f6 Rows.linksProtocolSpec Rows.linksProtocolRow = true := by kernel_rfl
end Go.Proofs.YtnakbepcalciiaaGreat.lk
