/- TmP,TmQ,TmR,TmS. No condition beyond theirs. -/
import Derived.Test.YtpnlnbolhkcnjaaGreatK19
set_option linter.unusedSimpArgs false
set_option linter.unusedVariables false
set_option maxHeartbeats 40000000
set_option maxRecDepth 100000
namespace Go.Proofs.YtpnlnbolhkcnjaaGreat.tm
open Go.RowKit mem names
theorem okT_size {n:Nat} (t:Tm (n + 1)) (h:okT t = true):1 ≤ sizeF t.f t.items.length∧(sizeF t.f t.items.length ≤ (t.items.length:Int) - 1∨sizeF t.f t.items.length ≤ 257)∧(t.f.kind = 9→2 ≤ t.items.length)∧(t.f.kind = 10→0 ≤ t.f.bits∧t.f.bits ≤ 16384):=by
 unfold okT at h;simp only [Bool.and_eq_true] at h;obtain ⟨a,b,c,d,_⟩:=size_bound h.2.1 trivial;exact ⟨a,b,c,d⟩
theorem nodesL_cons {n:Nat} (t:Tm (n + 1)) (l:List (Tm (n + 1))):nodesL (n + 1) (t :: l) = nodesT t + nodesL (n + 1) l:=by
 unfold nodesL nodesT;simp
theorem nodesL_append {n:Nat} (a b:List (Tm (n + 1))):nodesL (n + 1) (a ++ b) = nodesL (n + 1) a + nodesL (n + 1) b:=by
 unfold nodesL;simp only [List.map_append,List.sum_append]
end Go.Proofs.YtpnlnbolhkcnjaaGreat.tm
