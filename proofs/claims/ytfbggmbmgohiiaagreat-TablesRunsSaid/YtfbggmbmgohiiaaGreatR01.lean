/- TmB. No condition beyond theirs. -/
import Derived.Test.YtfbggmbmgohiiaaGreatR00
import Derived.Deep.QuietTactic
import Derived.BigQuiet
import Derived.WalkSpells
import Derived.StillTailTactics
import Derived.Outline
import Derived.IntWalk
set_option linter.unusedSimpArgs false
set_option linter.unusedVariables false
set_option maxHeartbeats 1000000
set_option maxRecDepth 100000
namespace Go.Proofs.YtfbggmbmgohiiaaGreat.tm
open Go.RowKit mem
noncomputable def dL{α:Type}(a b:α):Bool:=@decide (a=b) (Classical.propDecidable _)
theorem eR{α:Type}{a b:α}(h:a=b):dL a b=true:=@decide_eq_true _ (Classical.propDecidable _) h
theorem gX{α:Type}{a b:α}(h:a≠b):dL a b=false:=@decide_eq_false _ (Classical.propDecidable _) h
theorem CN{k:IntKind}{a b:Int}(h:a=b):Ending.returned (.int k a)=.returned (.int k b):=by rw[h]
theorem gN{a b:Bool}(h:a=b):Ending.returned (.bool a)=.returned (.bool b):=by rw[h]
def aV(b:Bool)(w:World)(e:Ending)(w':World):Prop:=e=.returned (.bool b)∧Below w.heap.size w w'
theorem jI{a b:ByteArray}(h:a≠b):¬a.toList=b.toList:=by
 intro e;rw[ByteArray.toList_eq,ByteArray.toList_eq]at e;exact h (ByteArray.ext (Array.ext' e))
theorem mY{a b:ByteArray}(h:a≠b):(a.toList==b.toList)=false:=by
 cases hh:a.toList==b.toList with
 | false=>rfl
 | true=>exact absurd (eq_of_beq hh) (jI h)
theorem bK(a:ByteArray):(a==a)=true:=(bytes_beq a a).2 rfl
def Af(n:Nat):Prop:=∀(w:World) (B:Nat) (v1 v2:Value) (a b:List (Tm n)),B≤w.heap.size→ah w B n v1 a→ah w B n v2 b→Calls Tryz.prog 61 #[v1,v2] w (aV (dL a b) w)
theorem Ag{n:Nat}(ih:Af n)(w:World)(B:Nat)(v1 v2:Value)(a b:Tm (n+1))(hB:B≤w.heap.size)(h1:ah w B n v1 a.items)(h2:ah w B n v2 b.items) :
 Calls Tryz.prog 27 #[aj a.f v1,aj b.f v2] w (aV (dL a b) w):=by
 have hno:a.f≠b.f→dL a b=false:=fun h=>gX (fun e=>h (by rw[e]));have hin:a.f=b.f→dL a b=dL a.items b.items:=fun h=>by
  by_cases e:a.items=b.items
  ·rw[eR e,eR (Tm.ext h e)]
  ·rw[gX e,gX (fun e2=>e (by rw[e2]))]
 have hI:=fun(W:World) (hb:Qb w W)=>ih W B v1 v2 a.items b.items (Nat.le_trans hB hb.size) (h1.below hb hB) (h2.below hb hB);clear ih h1 h2;generalize a.items=l1,b.items=l2,dL a b=r,a.f=x,b.f=y at*;obtain⟨k1,i1,g1,n1,f1,a1,b1,s1⟩:=x;obtain⟨k2,i2,g2,n2,f2,a2,b2,s2⟩:=y;unfold aj;dsimp only
 by_cases e:k1≠k2
 ·have hq:(k1==k2)=false:=by simp[e]
  rw[hno (by intro h;simp only[TF.mk.injEq]at h;simp_all)];clear hno hin hI e;go_enter Tryz.func27,Tryz.ntmps27;go_wp2_with fail;go_ret;exact⟨rfl,((Below.refl _ _).alloc (Nat.le_refl _) _).alloc (by simp) _⟩
 have e:=Classical.not_not.1 e;subst e;have qk:(k1==k1)=true:=by first|exact bK _|simp
 by_cases e:i1≠i2
 ·have hq:(i1==i2)=false:=by simp[e]
  rw[hno (by intro h;simp only[TF.mk.injEq]at h;simp_all)];clear hno hin hI e;go_enter Tryz.func27,Tryz.ntmps27;go_wp2_with fail;go_ret;exact⟨rfl,((Below.refl _ _).alloc (Nat.le_refl _) _).alloc (by simp) _⟩
 have e:=Classical.not_not.1 e;subst e;have qi:(i1==i1)=true:=by first|exact bK _|simp
 by_cases e:g1≠g2
 ·have hq:(g1==g2)=false:=by simp[e]
  rw[hno (by intro h;simp only[TF.mk.injEq]at h;simp_all)];clear hno hin hI e;go_enter Tryz.func27,Tryz.ntmps27;go_wp2_with fail;go_ret;exact⟨rfl,((Below.refl _ _).alloc (Nat.le_refl _) _).alloc (by simp) _⟩
 have e:=Classical.not_not.1 e;subst e;have qg:(g1==g1)=true:=by first|exact bK _|simp
 by_cases e:n1≠n2
 ·have hq:(n1.toList==n2.toList)=false:=mY e;have jO:¬n1.toList=n2.toList:=jI e;rw[hno (by intro h;simp only[TF.mk.injEq]at h;simp_all)];clear hno hin hI e;go_enter Tryz.func27,Tryz.ntmps27;go_wp2_with fail;go_ret;exact⟨rfl,((Below.refl _ _).alloc (Nat.le_refl _) _).alloc (by simp) _⟩
 have e:=Classical.not_not.1 e;subst e;have qn:(n1==n1)=true:=by first|exact bK _|simp
 by_cases e:f1≠f2
 ·have hq:(f1.toList==f2.toList)=false:=mY e;have jO:¬f1.toList=f2.toList:=jI e;rw[hno (by intro h;simp only[TF.mk.injEq]at h;simp_all)];clear hno hin hI e;go_enter Tryz.func27,Tryz.ntmps27;go_wp2_with fail;go_ret;exact⟨rfl,((Below.refl _ _).alloc (Nat.le_refl _) _).alloc (by simp) _⟩
 have e:=Classical.not_not.1 e;subst e;have qf:(f1==f1)=true:=by first|exact bK _|simp
 by_cases e:a1≠a2
 ·have hq:(a1==a2)=false:=by simp[e]
  rw[hno (by intro h;simp only[TF.mk.injEq]at h;simp_all)];clear hno hin hI e;go_enter Tryz.func27,Tryz.ntmps27;go_wp2_with fail;go_ret;exact⟨rfl,((Below.refl _ _).alloc (Nat.le_refl _) _).alloc (by simp) _⟩
 have e:=Classical.not_not.1 e;subst e;have qa:(a1==a1)=true:=by first|exact bK _|simp
 by_cases e:b1≠b2
 ·have hq:(b1.toList==b2.toList)=false:=mY e;have jO:¬b1.toList=b2.toList:=jI e;rw[hno (by intro h;simp only[TF.mk.injEq]at h;simp_all)];clear hno hin hI e;go_enter Tryz.func27,Tryz.ntmps27;go_wp2_with fail;go_ret;exact⟨rfl,((Below.refl _ _).alloc (Nat.le_refl _) _).alloc (by simp) _⟩
 have e:=Classical.not_not.1 e;subst e;have qb:(b1==b1)=true:=by first|exact bK _|simp
 by_cases e:s1≠s2
 ·have hq:(s1==s2)=false:=by simp[e]
  rw[hno (by intro h;simp only[TF.mk.injEq]at h;simp_all)];clear hno hin hI e;go_enter Tryz.func27,Tryz.ntmps27;go_wp2_with fail;go_ret;exact⟨rfl,((Below.refl _ _).alloc (Nat.le_refl _) _).alloc (by simp) _⟩
 have e:=Classical.not_not.1 e;subst e;have qs:(s1==s1)=true:=by first|exact bK _|simp
 rw[hin rfl];clear hno hin;go_enter Tryz.func27,Tryz.ntmps27;go_wp2_with fail;refine(hI _ (((Below.refl _ _).alloc (Nat.le_refl _) _).alloc (by simp) _)).mono ?_;rintro e w' ⟨rfl,hb⟩;go_wp2_with fail;go_ret;exact⟨rfl,(((Below.refl _ _).alloc (Nat.le_refl _) _).alloc (by simp) _).trans (hb.mono (by simp;omega))⟩
end Go.Proofs.YtfbggmbmgohiiaaGreat.tm
