/- Several texts in one, one behind the other: LkJf4. No condition beyond theirs. -/
import Derived.JoinedOf
import Derived.KernelRfl
import Derived.Test.YtnakbepcalciiaaGreatRows
/- What the claim of LinksMonitors asks of the program's form, by the kernel. No condition. -/
namespace Go.Proofs.YtnakbepcalciiaaGreat.lk
set_option maxRecDepth 100000
theorem joined4 : joinedFacts Tryz.prog 4 Tryz.f4 Rows.linksMonitorsSpec Rows.linksMonitorsRow = true := by kernel_rfl
end Go.Proofs.YtnakbepcalciiaaGreat.lk
