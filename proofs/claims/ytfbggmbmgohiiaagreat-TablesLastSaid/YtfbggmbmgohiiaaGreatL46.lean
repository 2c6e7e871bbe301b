/- Texts of this seat, one behind the other: ToH, ToL. No condition beyond theirs. -/
import Derived.Test.YtfbggmbmgohiiaaGreatL45
import Derived.Test.YtfbggmbmgohiiaaGreatL23
import Derived.Test.YtfbggmbmgohiiaaGreatL44

/- stagehandref04.Ordered, Search. Conditions: the terms lie in memory; they are few enough. -/
namespace Go.Proofs.YtfbggmbmgohiiaaGreat.tm
open Go.RowKit mem names
set_option linter.unusedVariables false
set_option linter.unusedSimpArgs false
set_option maxHeartbeats 1000000
set_option maxRecDepth 100000

end Go.Proofs.YtfbggmbmgohiiaaGreat.tm

/- stagehandref04.Unique. Conditions: the terms lie in memory; they are few enough. -/
namespace Go.Proofs.YtfbggmbmgohiiaaGreat.tm
open Go.RowKit mem names
set_option linter.unusedVariables false
set_option linter.unusedSimpArgs false
set_option maxHeartbeats 1000000
set_option maxRecDepth 100000

theorem uniqL_first {n : Nat} {A : List (Tm (n + 1))} {t : Tm (n + 1)} (h : A[0]? = some t) : uniqP cmpV A 1 = [] ++ [t] := by
  show A.take 1 = _
  cases A with
  | nil => simp at h
  | cons a A => simp at h; subst h; rfl
end Go.Proofs.YtfbggmbmgohiiaaGreat.tm
