/- Several texts in one, one behind the other: LkJf5. No condition beyond theirs. -/
import Derived.JoinedOf
import Derived.KernelRfl
import Derived.Test.YtnakbepcalciiaaGreatRows
/- What the claim of LinksLost asks of the program's form, by the kernel. No condition. -/
namespace Go.Proofs.YtnakbepcalciiaaGreat.lk
set_option maxRecDepth 100000
theorem joined5 : joinedFacts Tryz.prog 5 Tryz.f5 Rows.linksLostSpec Rows.linksLostRow = true := by kernel_rfl
end Go.Proofs.YtnakbepcalciiaaGreat.lk
