/- Several texts in one, one behind the other: LkJf8. No condition beyond theirs. -/
import Derived.JoinedOf
import Derived.KernelRfl
import Derived.Test.YtnakbepcalciiaaGreatRows
/- What the claim of LinksNone asks of the program's form, by the kernel. No condition. -/
namespace Go.Proofs.YtnakbepcalciiaaGreat.lk
set_option maxRecDepth 100000
theorem joined8 : joinedFacts Tryz.prog 8 Tryz.f8 Rows.linksNoneSpec Rows.linksNoneRow = true := by kernel_rfl
end Go.Proofs.YtnakbepcalciiaaGreat.lk
