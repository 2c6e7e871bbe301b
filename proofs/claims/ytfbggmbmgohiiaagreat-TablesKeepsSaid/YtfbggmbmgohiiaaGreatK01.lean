/- Texts of this seat, one behind the other: Run. No condition beyond theirs. -/
import Derived.OrdersHeld
import Derived.Deep.RegionHeld
import Derived.KernelRfl
set_option linter.unusedVariables false
namespace Go.Proofs.YtfbggmbmgohiiaaGreat.rec
open Go
def Run (is:List Nat) (X:Prop):Prop:=X
theorem run_in {X:Prop} (is:List Nat) (h:Run is X):X:=h
theorem run_out {X:Prop} (h:X):Run [] X:=h
section
variable {P:Program} {md:Region.Mode} {ops:Array Oper} {Q:Exit→Act→World→Prop} {S:World→Prop} {fuel:Nat} {listed:Array Bool} {a:Act} {w:World} {i:Nat} {is:List Nat} {oi:Oper} {v:Value}
theorem run_e (hi:ops.toList[i]? = some oi) (hb:(Region.noSelect ops && Region.free md ops listed i && (Region.ready md ops listed).contains i) = true) (hw:Region.wanted oi (yielded ops a.tmps) = true)
 (hQ:∀ c a v w,Q (.panic c) (a.put oi.dst v) w→Q (.panic c) a w) (hS:S w)
 (h:∃ v,(∀ w,S w→(execOp a.eval oi).run P w = .ok (.value v) w)∧Run is (wpAnyH P md ops Q S fuel (listed.setIfInBounds i true) (a.put oi.dst v) w)):Run (i :: is) (wpAnyH P md ops Q S (fuel + 1) listed a w):=by
 obtain ⟨v,hx,h⟩:=h
 simp only [Bool.and_eq_true] at hb
 rw [Array.getElem?_toList] at hi
 exact wpAnyH_take hi hb.1.1 hb.1.2 hb.2 (fun c a w=>hQ c a v w) (.inl ⟨hw,hx⟩) hS h
theorem run_r (hi:ops.toList[i]? = some oi) (hb:(Region.noSelect ops && Region.free md ops listed i && (Region.ready md ops listed).contains i) = true)
 (hQ:∀ c a v w,Q (.panic c) (a.put oi.dst v) w→Q (.panic c) a w) (hS:S w) (hy:YieldsIf P ops S oi v a)
 (h:Run is (wpAnyH P md ops Q S fuel (listed.setIfInBounds i true) (a.put oi.dst v) w)):Run (i :: is) (wpAnyH P md ops Q S (fuel + 1) listed a w):=by
 simp only [Bool.and_eq_true] at hb
 rw [Array.getElem?_toList] at hi
 exact wpAnyH_take hi hb.1.1 hb.1.2 hb.2 (fun c a w=>hQ c a v w) hy hS h
end
theorem readyR {P:Program} {md:Region.Mode} {ops:Array Oper} {Q:Exit→Act→World→Prop} {S:World→Prop} {fuel:Nat} {listed:Array Bool} {a:Act} {w:World} {i:Nat} {o:Oper} {rs:List Nat} (ho:ops.toList[i]? = some o)
 (h:∀ K':Act→World→Prop,Shut (∀ a w,S w→(S w→wpAnyH P md ops Q S fuel (listed.setIfInBounds i true) a w)→K' a w)→if Region.wanted o (yielded ops a.tmps) = true then Oper.wp P o a w K' Q else K' (a.put o.dst undef) w)
 (hs:AllReadyH P md ops Q S fuel listed a w rs):AllReadyH P md ops Q S fuel listed a w (i :: rs):=AllReadyH.cons (by rw [← Array.getElem?_toList];exact ho) h hs
theorem pA {α:Type} (l:List α) (i:Nat) (a:α):l.toArray.setIfInBounds i a = (l.set i a).toArray:=List.setIfInBounds_toArray ..
theorem pB {α:Type} (l:List α) (a b:α):(b :: l).set 0 a = a :: l:=rfl
theorem pC {α:Type} (l:List α) (i:Nat) (a b:α):(b :: l).set (i + 1) a = b :: l.set i a:=rfl
end Go.Proofs.YtfbggmbmgohiiaaGreat.rec
