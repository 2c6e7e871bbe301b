/- CoP,CoQ. No condition beyond theirs. -/
import Derived.Test.YtpnlnbolhkcnjaaGreatP30
import Derived.BigRegion
import Derived.Deep.RegionHeld3
set_option linter.unusedSimpArgs false
set_option linter.unusedVariables false
set_option maxHeartbeats 4000000
set_option maxRecDepth 100000
namespace Go.Proofs.YtpnlnbolhkcnjaaGreat.cl
open Go.RowKit mem words
def okW (m:Mm) (K:Bk) (b:Bool) (i:Nat) (v:Int):Prop:=Tm K v∧(pOk v = true→pOld v = false→b = false∧((i:Int) < m.at_→pIx v < m.at_))
def okAt (m:Mm) (K:Bk) (b:Bool) (i:Nat) (x:List Int):Prop:=okO x = true∧∀ v ∈ fol x,okW m K b i v
end Go.Proofs.YtpnlnbolhkcnjaaGreat.cl
