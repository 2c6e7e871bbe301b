/- HrT,HrU. No condition beyond theirs. -/
import Derived.Test.YtpnlnbolhkcnjaaGreatK34
set_option linter.unusedSimpArgs false
set_option linter.unusedVariables false
set_option maxHeartbeats 4000000
set_option maxRecDepth 100000
namespace Go.Proofs.YtpnlnbolhkcnjaaGreat.hp
open Go.RowKit mem words rec tm
section
variable {w:World} {B z a b:Nat} {c:Int} {σ:St} {S:Nat→Prop}
end
structure Chain (σ:St) (v:Int) (ws:List Int) (vs:Nat→Int) (c:Nat):Prop where
 v0:vs 0 = v
 len:ws.length = c + 1
 cell:∀ i,i < c→∃ x,ws[i]? = some x∧cl.Pt (Kb σ) (vs i) [x,vs (i + 1)]∧x % 4 ≠ 0
 last:ws[c]? = some (vs c)
 no:¬ ∃ y,cl.Pt (Kb σ) (vs c) y∧cl.knd y = 0
 rng:∀ i,i ≤ c→0 ≤ vs i∧vs i ≤ 18446744073709551615
section
variable {w:World} {B z a b:Nat} {c:Int} {σ:St} {S:Nat→Prop}
end
end Go.Proofs.YtpnlnbolhkcnjaaGreat.hp
