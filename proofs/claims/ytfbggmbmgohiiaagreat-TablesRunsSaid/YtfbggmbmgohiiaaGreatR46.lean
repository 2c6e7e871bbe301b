/- ToK,TcY,ToH,ToL. No condition beyond theirs. -/
import Derived.Test.YtfbggmbmgohiiaaGreatR45
import Derived.Test.YtfbggmbmgohiiaaGreatR40
set_option linter.unusedSimpArgs false
set_option linter.unusedVariables false
set_option maxHeartbeats 1000000
set_option maxRecDepth 100000
namespace Go.Proofs.YtfbggmbmgohiiaaGreat
namespace tm
open Go.RowKit mem names
end tm
namespace tb
open Go.RowKit mem rec tm names
section
variable {N:Nat}
def two{N:Nat}(hs:Bool)(R:List (Tm (N+1)×Tm (N+1))):List (bW N):=[⟨A8 1,A9 1,hs,R⟩,⟨A8 2,A9 1,!hs,[]⟩]
variable {hs:Bool}{R:List (Tm (N+1)×Tm (N+1))}{k v:Tm (N+1)}
structure qm(hs:Bool)(R:List (Tm (N+1)×Tm (N+1))):Prop where
 sd:jx (bM hs) R
 vd:∀x∈R,Vd x.1
theorem qm.nil:qm (N:=N) hs []:=⟨List.Pairwise.nil,fun x hx=>(nomatch hx)⟩
theorem qm.put(h:qm hs R)(hk:aC k=true)(v:Tm (N+1)):qm hs (lH (bM hs) R k v):=by
 refine⟨x9 (wX hs) h.sd hk h.vd v,fun x hx=>?_⟩;obtain⟨a,b⟩:=x
 rcases(IX (wX hs) h.sd hk h.vd v a b).1 hx with⟨rfl,_⟩|⟨_,hx⟩
 ·exact hk
 ·exact h.vd _ hx
theorem qm.del(h:qm hs R):qm hs (kG (bM hs) R k):=by
 refine⟨x_ h.sd,fun x hx=>?_⟩;obtain⟨a,b⟩:=x;exact h.vd _ ((IY (wX hs) h.sd a b).1 hx).2
theorem qm.has(h:qm hs R):gp (bM hs) R k=true↔∃v,pZ (bM hs) R k=some v:=by
 rw[rI (wX hs) h.sd];exact⟨fun⟨v,hv⟩=>⟨v,(Bm (wX hs) h.sd).2 hv⟩,fun⟨v,hv⟩=>⟨v,(Bm (wX hs) h.sd).1 hv⟩⟩
end
end tb
namespace tm
open Go.RowKit mem names
end tm
end Go.Proofs.YtfbggmbmgohiiaaGreat
