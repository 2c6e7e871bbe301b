/- Several texts in one, one behind the other: LkJf3. No condition beyond theirs. -/
import Derived.JoinedOf
import Derived.KernelRfl
import Derived.Test.YtnakbepcalciiaaGreatRows
/- What the claim of LinksSymmetric asks of the program's form, by the kernel. No condition. -/
namespace Go.Proofs.YtnakbepcalciiaaGreat.lk
set_option maxRecDepth 100000
theorem joined3 : joinedFacts Tryz.prog 3 Tryz.f3 Rows.linksSymmetricSpec Rows.linksSymmetricRow = true := by kernel_rfl
end Go.Proofs.YtnakbepcalciiaaGreat.lk
