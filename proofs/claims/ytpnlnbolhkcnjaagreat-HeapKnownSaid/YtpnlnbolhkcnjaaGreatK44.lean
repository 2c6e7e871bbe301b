/- Frame,TnY,HsD. No condition beyond theirs. -/
import Derived.Test.YtpnlnbolhkcnjaaGreatK43
import Derived.ProofKit
import Derived.OpenShut
import Derived.Carry
import Derived.Below
import Derived.Lib.SmallJoins
import Derived.Deep.Slices
import Derived.Deep.Fields
import Derived.ChangeSame
set_option linter.unusedSimpArgs false
set_option linter.unusedVariables false
set_option maxHeartbeats 4000000
set_option maxRecDepth 100000
namespace Go.Proofs.YtpnlnbolhkcnjaaGreat
namespace frames
open Go.ChangeShapes Go.WideShapes Go.ChangeAt Go.RowKit Go.Deep Go.Joins
variable {H:Type} {enc:TypeId × Value→H} {P:Program}
theorem trodAll_stays (hl:laidOutB P = true) {W W':World} {sp:Nat→Bool} :
 ∀ (ts:List TypeId) (vs:List Value) (ds:List (DataW H)) (ps:List MemPlace),
 (∀ t ∈ ts,P.readableRec t = true∧t < P.types.size) →
 DataW.TrodAll enc P W 0 (fun _=>true) true ts vs ds ps→(∀ p ∈ ps,W.sameAt W' p)→(∀ p ∈ ps,sp p.block = true) →
 DataW.TrodAll enc P W' 0 sp true ts vs ds ps:=by
 intro ts
 induction ts with
 | nil =>
  intro vs ds ps _ h _ _;obtain ⟨rfl,rfl,rfl⟩:=trodAll_nil h;exact trodAll_mk0
 | cons t ts ih =>
  intro vs ds ps ht h hs hb;obtain ⟨v,vs1,d,ds1,p,q,rfl,rfl,rfl,h0,r0⟩:=trodAll_cons h
  exact trodAll_cons_mk (WideElems.Trod_stays hl (ht t (by simp)).1 (ht t (by simp)).2 h0 (fun x hx=>hs x (by simp [hx])) (fun x hx=>hb x (by simp [hx])))
   (ih vs1 ds1 q (fun t' h'=>ht t' (by simp [h'])) r0 (fun x hx=>hs x (by simp [hx])) (fun x hx=>hb x (by simp [hx])))
theorem trodAll_len:∀ (ts:List TypeId) {W:World} {sp:Nat→Bool} (vs:List Value) (ds:List (DataW H)) (ps:List MemPlace),
 DataW.TrodAll enc P W 0 sp true ts vs ds ps→ds.length = ts.length:=by
 intro ts
 induction ts with
 | nil=>intro W sp vs ds ps h;obtain ⟨rfl,rfl,rfl⟩:=trodAll_nil h;rfl
 | cons t ts ih =>
  intro W sp vs ds ps h;obtain ⟨v,vs1,d,ds1,p,q,rfl,rfl,rfl,h0,r0⟩:=trodAll_cons h;simp [ih vs1 ds1 q r0]
theorem law_post {f:Func} {s:ChangeSpec} {tb:TypeId} (hl:laidOutB P = true) (hpar:∀ t ∈ f.params.toList,P.readableRec t = true∧t < P.types.size)
 (hres:f.resultTypes = #[tb]) (hb:P.underlying tb = some .bool) (hvars:s.vars = [])
 (hfn:∀ l:List (DataW H),l.length = f.params.toList.length→s.fn H l = { results:=[.lit (.bool true)],args:=l })
 {W W':World} {args:Array Value} {ds gs:List (DataW H)} {before:List MemPlace}
 (hW:DataW.Whole enc P f.params.toList s.vars false W args.toList ds gs before) (hB:Below W.heap.size W W') :
 s.post enc P f false true false false W args (.bool true) W':=by
 have hlt:∀ p ∈ before,p.block < W.heap.size:=fun p hp=>by simpa using hW.lt p hp
 have hW':=hW;obtain ⟨p,q,hA,hV,rfl,hfz,hnd⟩:=hW;rw [hvars] at hV;obtain ⟨rfl,rfl⟩:=trodVars_none hV;have hlen:=trodAll_len _ _ _ _ hA;have hs:=hfn ds hlen;simp only [List.append_nil] at hlt hW'
 refine ⟨ds,[],p,[],p,[],by simpa using hW',?_,?_,?_,hB.frame _,fun h=>by cases h⟩
 ·rw [List.append_nil,hs,hres];exact trodAll_cons_mk (shut_bool hb _) trodAll_mk0
 ·rw [List.append_nil,hs];exact trodAll_stays hl _ _ _ _ hpar hA (fun x hx=>hB.same (hlt x hx)) (fun x hx=>by simpa using hlt x hx)
 ·rw [List.append_nil,hs,hvars];rfl
theorem still {k:FuncId} {args:Array Value} {W:World} (h:Calls P k args W fun e w'=>e = .returned (.bool true)∧W = w') :
 Calls P k args W fun e w'=>e = .returned (.bool true)∧Below W.heap.size W w' :=
 h.mono fun e w' h=>⟨h.1,h.2 ▸ Below.refl _ _⟩
end frames
namespace tm
open Go.RowKit mem Go.ChangeShapes Go.WideShapes Go.ChangeAt Go.Deep
variable {H:Type} {enc:TypeId × Value→H} {W:World}
end tm
namespace hp
open Go.RowKit mem words rec tm Go.ChangeShapes Go.WideShapes Go.ChangeAt Go.Deep
variable {H:Type} {enc:TypeId × Value→H} {W:World}
end hp
end Go.Proofs.YtpnlnbolhkcnjaaGreat
