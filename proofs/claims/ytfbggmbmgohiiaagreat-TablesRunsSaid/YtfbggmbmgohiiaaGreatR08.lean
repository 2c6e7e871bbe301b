/- TmI. No condition beyond theirs. -/
import Derived.Test.YtfbggmbmgohiiaaGreatR06
import Derived.Test.YtfbggmbmgohiiaaGreatR07
set_option linter.unusedSimpArgs false
set_option linter.unusedVariables false
set_option maxHeartbeats 1000000
set_option maxRecDepth 100000
namespace Go.Proofs.YtfbggmbmgohiiaaGreat.tm
open Go.RowKit mem names
def oG:(n:Nat)→List (Tm n)→Int
 | 0,_=>0
 | n+1,l=>(l.getLast?.map (fun t=>t.f.kind)).getD 0
noncomputable def m9(f:TF)(k:Nat):Bool:=dL { bG f with kind:=0 } aY&&decide ((if f.kind=4∨f.kind=7∨f.kind=9 then 0 else k)=0)
noncomputable def G_{n:Nat}(t:Tm (n+1)):Bool:=gq t.f.kind 0 10&&(okF t.f t.items.length (oG n t.items)&&m9 t.f t.items.length)
noncomputable def bp:(n:Nat)→List (Tm n)→Bool
 | 0,_=>true
 | n+1,l=>l.all (fun t=>G_ t&&bp n t.items)
noncomputable def aJ{n:Nat}(t:Tm (n+1)):Bool:=G_ t&&bp n t.items
def gO(f:TF)(k:Nat):Int:=if f.kind=9 then(k:Int)-1 else if f.kind=10 then 1+(f.bits+63)/64 else 1
def cF:(n:Nat)→List (Tm n)→Int
 | 0,_=>0
 | n+1,l=>(l.map (fun t=>gO t.f t.items.length+cF n t.items)).sum
def cD{n:Nat}(t:Tm (n+1)):Int:=gO t.f t.items.length+cF n t.items
def aP:(n:Nat)→List (Tm n)→Nat
 | 0,_=>0
 | n+1,l=>(l.map (fun t=>1+aP n t.items)).sum
def ap{n:Nat}(t:Tm (n+1)):Nat:=1+aP n t.items
theorem iJ:∀(n:Nat) (l:List (Tm n)),l.length≤aP n l:=by
 intro n;cases n with
 | zero=>intro l;rw[Tm.js l];simp
 | succ n =>
  intro l
  induction l with
  | nil=>simp[aP]
  | cons t l ih =>
   have e:aP (n+1) (t::l)=(1+aP n t.items)+aP (n+1) l:=by simp[aP]
   rw[e];simp;omega
theorem iK{n:Nat}{l:List (Tm (n+1))}{k:Nat}(h:k<l.length):aP (n+1) (l.take k)+ap l[k]+aP (n+1) (l.drop (k+1))=aP (n+1) l:=by
 have e:aP (n+1) l=aP (n+1) (l.take k++l[k]::l.drop (k+1)):=by rw[←List.drop_eq_getElem_cons h,List.take_append_drop]
 rw[e];unfold aP ap;simp only[List.map_append,List.map_cons,List.sum_append,List.sum_cons];omega
theorem qt{n:Nat}(l:List (Tm (n+1)))(k:Nat)(h:k<l.length):cF (n+1) (l.take (k+1))=cF (n+1) (l.take k)+cD l[k]:=by
 rw[List.take_succ_eq_append_getElem h];unfold cF cD;simp only[List.map_append,List.map_cons,List.map_nil,List.sum_append,List.sum_cons,List.sum_nil];omega
theorem sq{n:Nat}{l:List (Tm (n+1))}{k:Nat}(h:k<l.length)(hf:aJ l[k]=false):bp (n+1) l=false:=by
 unfold bp;rw[List.all_eq_false];exact⟨l[k],List.getElem_mem h,by unfold aJ at hf;simp[hf]⟩
theorem m_{n:Nat}{l:List (Tm (n+1))}(h:∀k,(hk:k<l.length)→aJ l[k]=true):bp (n+1) l=true:=by
 unfold bp;rw[List.all_eq_true];intro x hx;obtain⟨k,hk,rfl⟩:=List.mem_iff_getElem.1 hx;exact h k hk
theorem NC(p:Option Addr)(n c:Nat)(fv:Value)(w:World):Calls Tryz.prog 94 #[.slice p n c,.slice none 0 0,fv] w fun e w'=>e=.returned (.bool (decide (n=0)))∧w=w':=by
 by_cases h:n=0
 ·subst h;rw[decide_eq_true rfl];go_enter Tryz.func94,Tryz.ntmps94;go_wp2_with fail;refine wp_loop_rounds 1 ?_;rw[rounds_succ];go_wp2_with fail;go_ret;exact⟨rfl,rfl⟩
 ·rw[decide_eq_false h];have hq:((n:Int) != 0)=true:=by simp;omega
  go_enter Tryz.func94,Tryz.ntmps94;go_wp2_with fail;go_ret;exact⟨rfl,rfl⟩
theorem qV(k i g:Int)(nm fn:ByteArray)(ar:Int)(aL:ByteArray)(bt:Int):(⟨k,i,g,nm,fn,ar,aL,bt⟩:TF)=aY↔(k=0∧i=0∧g=0∧nm=⟨#[]⟩∧fn=⟨#[]⟩∧ar=0∧aL=⟨#[]⟩∧bt=0):=by
 unfold aY;rw[TF.mk.injEq]
theorem lN{a:ByteArray}(h:a≠⟨#[]⟩):¬a.toList=[]:=by
 intro e;rw[ByteArray.toList_eq]at e;exact h (ByteArray.ext (Array.ext' e))
theorem sw{a:ByteArray}(h:a≠⟨#[]⟩):a.toList.isEmpty=false:=by
 rw[List.isEmpty_eq_false_iff];exact lN h
theorem pH{a:ByteArray}(h:a≠⟨#[]⟩):(a.toList==[])=false:=by
 cases hh:a.toList==[]with
 | false=>rfl
 | true=>exact absurd (eq_of_beq hh) (lN h)
theorem Rv(f:TF)(p:Option Addr)(n c:Nat)(w:World):Calls Tryz.prog 66 #[aj f (.slice p n c),aj aY (.slice none 0 0)] w fun e w'=>e=.returned (.bool (dL f aY&&decide (n=0)))∧Below w.heap.size w w':=by
 obtain⟨k,i,g,nm,fn,ar,aL,bt⟩:=f;have hno:¬(k=0∧i=0∧g=0∧nm=⟨#[]⟩∧fn=⟨#[]⟩∧ar=0∧aL=⟨#[]⟩∧bt=0)→dL (⟨k,i,g,nm,fn,ar,aL,bt⟩:TF) aY=false:=fun h=>gX (fun e=>h ((qV _ _ _ _ _ _ _ _).1 e));have eP:(k=0∧i=0∧g=0∧nm=⟨#[]⟩∧fn=⟨#[]⟩∧ar=0∧aL=⟨#[]⟩∧bt=0)→dL (⟨k,i,g,nm,fn,ar,aL,bt⟩:TF) aY=true:=fun h=>eR ((qV _ _ _ _ _ _ _ _).2 h);unfold aj aY at*;dsimp only at*;generalize dL (⟨k,i,g,nm,fn,ar,aL,bt⟩:TF) (⟨0,0,0,⟨#[]⟩,⟨#[]⟩,0,⟨#[]⟩,0⟩:TF)=r at*
 by_cases e:k≠0
 ·have hq:(k==0)=false:=by simp[e]
  rw[hno (by simp_all),Bool.false_and];clear hno eP e;go_enter Tryz.func66,Tryz.ntmps66;go_wp2_with fail;go_ret;exact⟨rfl,((Below.refl _ _).alloc (Nat.le_refl _) _).alloc (by simp) _⟩
 have e:=Classical.not_not.1 e;subst e
 by_cases e:i≠0
 ·have hq:(i==0)=false:=by simp[e]
  rw[hno (by simp_all),Bool.false_and];clear hno eP e;go_enter Tryz.func66,Tryz.ntmps66;go_wp2_with fail;go_ret;exact⟨rfl,((Below.refl _ _).alloc (Nat.le_refl _) _).alloc (by simp) _⟩
 have e:=Classical.not_not.1 e;subst e
 by_cases e:g≠0
 ·have hq:(g==0)=false:=by simp[e]
  rw[hno (by simp_all),Bool.false_and];clear hno eP e;go_enter Tryz.func66,Tryz.ntmps66;go_wp2_with fail;go_ret;exact⟨rfl,((Below.refl _ _).alloc (Nat.le_refl _) _).alloc (by simp) _⟩
 have e:=Classical.not_not.1 e;subst e
 by_cases e:nm≠(⟨#[]⟩:ByteArray)
 ·have hq:nm.toList.isEmpty=false:=sw e;have Rw:(nm.toList==[])=false:=pH e;have jO:¬nm.toList=[]:=lN e;rw[hno (by simp_all),Bool.false_and];clear hno eP e;go_enter Tryz.func66,Tryz.ntmps66;go_wp2_with fail;go_ret;exact⟨rfl,((Below.refl _ _).alloc (Nat.le_refl _) _).alloc (by simp) _⟩
 have e:=Classical.not_not.1 e;subst e
 by_cases e:fn≠(⟨#[]⟩:ByteArray)
 ·have hq:fn.toList.isEmpty=false:=sw e;have Rw:(fn.toList==[])=false:=pH e;have jO:¬fn.toList=[]:=lN e;rw[hno (by simp_all),Bool.false_and];clear hno eP e;go_enter Tryz.func66,Tryz.ntmps66;go_wp2_with fail;go_ret;exact⟨rfl,((Below.refl _ _).alloc (Nat.le_refl _) _).alloc (by simp) _⟩
 have e:=Classical.not_not.1 e;subst e
 by_cases e:ar≠0
 ·have hq:(ar==0)=false:=by simp[e]
  rw[hno (by simp_all),Bool.false_and];clear hno eP e;go_enter Tryz.func66,Tryz.ntmps66;go_wp2_with fail;go_ret;exact⟨rfl,((Below.refl _ _).alloc (Nat.le_refl _) _).alloc (by simp) _⟩
 have e:=Classical.not_not.1 e;subst e
 by_cases e:aL≠(⟨#[]⟩:ByteArray)
 ·have hq:aL.toList.isEmpty=false:=sw e;have Rw:(aL.toList==[])=false:=pH e;have jO:¬aL.toList=[]:=lN e;rw[hno (by simp_all),Bool.false_and];clear hno eP e;go_enter Tryz.func66,Tryz.ntmps66;go_wp2_with fail;go_ret;exact⟨rfl,((Below.refl _ _).alloc (Nat.le_refl _) _).alloc (by simp) _⟩
 have e:=Classical.not_not.1 e;subst e
 by_cases e:bt≠0
 ·have hq:(bt==0)=false:=by simp[e]
  rw[hno (by simp_all),Bool.false_and];clear hno eP e;go_enter Tryz.func66,Tryz.ntmps66;go_wp2_with fail;go_ret;exact⟨rfl,((Below.refl _ _).alloc (Nat.le_refl _) _).alloc (by simp) _⟩
 have e:=Classical.not_not.1 e;subst e;rw[eP ⟨rfl,rfl,rfl,rfl,rfl,rfl,rfl,rfl⟩,Bool.true_and];clear hno eP;go_enter Tryz.func66,Tryz.ntmps66;go_wp2_with fail;refine(NC _ _ _ _ _).mono ?_;rintro e w' ⟨rfl,rfl⟩;go_wp2_with fail;go_ret;exact⟨rfl,((Below.refl _ _).alloc (Nat.le_refl _) _).alloc (by simp) _⟩
end Go.Proofs.YtfbggmbmgohiiaaGreat.tm
