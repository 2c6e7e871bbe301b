/- TmT,TmU,OrA. No condition beyond theirs. -/
import Derived.Test.YtfbggmbmgohiiaaGreatR01
import Derived.Lib.Bytealg
import Derived.Laws.Cover1
set_option linter.unusedSimpArgs false
set_option linter.unusedVariables false
set_option maxHeartbeats 1000000
set_option maxRecDepth 100000
namespace Go.Proofs.YtfbggmbmgohiiaaGreat
namespace tm
open Go.RowKit mem
def aO(a b:Int):Int:=if a<b then -1 else if b<a then 1 else 0
def dx(a b:ByteArray):Int:=Lib.compareBytes a.data.toList b.data.toList
theorem dH{a b:Int}(h:a=b):Ending.returned (.int .i64 a)=.returned (.int .i64 b):=by rw[h]
theorem Eg:∀x y:List UInt8,Op.bytesLess x y=decide (Lib.compareBytes x y=-1)
 | [],[]=>rfl
 | [],_::_=>rfl
 | _::_,[]=>rfl
 | a::x,b::y=>by
  unfold Op.bytesLess Lib.compareBytes
  by_cases h:a<b
  ·simp[h]
  ·by_cases h2:b<a
   ·have:a≠b:=fun e=>by subst e;exact h h2
    simp[h,h2,this]
   ·have e:a=b:=by
     apply UInt8.toNat_inj.1;have h1:¬a.toNat<b.toNat:=h;have h3:¬b.toNat<a.toNat:=h2;omega
    subst e;simp[h,Eg x y]
theorem MI:∀x y:List UInt8,(x==y)=decide (Lib.compareBytes x y=0)
 | [],[]=>rfl
 | [],_::_=>rfl
 | _::_,[]=>rfl
 | a::x,b::y=>by
  unfold Lib.compareBytes;have ih:=MI x y
  by_cases h:a<b
  ·have:a≠b:=fun e=>by subst e;exact absurd h (Nat.lt_irrefl _)
   simp[h,this]
  ·by_cases h2:b<a
   ·have:a≠b:=fun e=>by subst e;exact h h2
    simp[h,h2,this]
   ·have e:a=b:=by
     apply UInt8.toNat_inj.1;have h1:¬a.toNat<b.toNat:=h;have h3:¬b.toNat<a.toNat:=h2;omega
    subst e;simp only[List.cons_beq_cons,beq_self_eq_true,Bool.true_and,h,if_false];exact ih
theorem uP:∀x y:List UInt8,Lib.compareBytes x y=-1∨Lib.compareBytes x y=0∨Lib.compareBytes x y=1
 | [],[]=>.inr (.inl rfl)
 | [],_::_=>.inl rfl
 | _::_,[]=>.inr (.inr rfl)
 | a::x,b::y=>by
  unfold Lib.compareBytes
  by_cases h:a<b
  ·rw[if_pos h];exact .inl rfl
  ·rw[if_neg h]
   by_cases h2:b<a
   ·rw[if_pos h2];exact .inr (.inr rfl)
   ·rw[if_neg h2];exact uP x y
theorem CR(a b:ByteArray):(dx a b=-1∧Op.bytesLess a.toList b.toList=true)∨(dx a b=0∧Op.bytesLess a.toList b.toList=false∧(a.toList==b.toList)=true)∨(dx a b=1∧Op.bytesLess a.toList b.toList=false∧(a.toList==b.toList)=false):=by
 unfold dx;rw[ByteArray.toList_eq,ByteArray.toList_eq,Eg,MI];rcases uP a.data.toList b.data.toList with h|h|h <;> simp[h]
theorem yC(x:Int)(w:World):Calls Tryz.prog 153 #[.int .i64 x] w fun e w'=>e=.returned (.bool false)∧w=w':=by
 have q:(x != x)=false:=by simp
 go_enter Tryz.func153,Tryz.ntmps153;go_wp2_with fail;go_ret;exact⟨rfl,rfl⟩
theorem yD(x:Int)(w:World):Calls Tryz.prog 157 #[.int .i64 x] w fun e w'=>e=.returned (.bool false)∧w=w':=by
 have q:(x != x)=false:=by simp
 go_enter Tryz.func157,Tryz.ntmps157;go_wp2_with fail;go_ret;exact⟨rfl,rfl⟩
theorem yE(x:Int)(w:World):Calls Tryz.prog 160 #[.int .u8 x] w fun e w'=>e=.returned (.bool false)∧w=w':=by
 have q:(x != x)=false:=by simp
 go_enter Tryz.func160,Tryz.ntmps160;go_wp2_with fail;go_ret;exact⟨rfl,rfl⟩
theorem kV(a b:Int)(w:World):Calls Tryz.prog 130 #[.int .i64 a,.int .i64 b] w fun e w'=>e=.returned (.int .i64 (aO a b))∧w=w':=by
 unfold aO
 by_cases h:a<b
 ·rw[if_pos h];have q1:decide (a<b)=true:=decide_eq_true h;go_enter Tryz.func130,Tryz.ntmps130;go_wp2_with (go_at_call 153;refine(yC _ _).mono ?_;rintro e w' ⟨rfl,rfl⟩)
  go_ret;exact⟨rfl,rfl⟩
 ·rw[if_neg h];have q1:decide (a<b)=false:=decide_eq_false h
  by_cases h2:b<a
  ·rw[if_pos h2];have q2:decide (b<a)=true:=decide_eq_true h2;go_enter Tryz.func130,Tryz.ntmps130;go_wp2_with (go_at_call 153;refine(yC _ _).mono ?_;rintro e w' ⟨rfl,rfl⟩)
   go_ret;exact⟨rfl,rfl⟩
  ·rw[if_neg h2];have q2:decide (b<a)=false:=decide_eq_false h2;go_enter Tryz.func130,Tryz.ntmps130;go_wp2_with (go_at_call 153;refine(yC _ _).mono ?_;rintro e w' ⟨rfl,rfl⟩)
   go_ret;exact⟨rfl,rfl⟩
theorem Al(a b:Int)(w:World):Calls Tryz.prog 136 #[.int .i64 a,.int .i64 b] w fun e w'=>e=.returned (.int .i64 (aO a b))∧w=w':=by
 unfold aO
 by_cases h:a<b
 ·rw[if_pos h];have q1:decide (a<b)=true:=decide_eq_true h;go_enter Tryz.func136,Tryz.ntmps136;go_wp2_with (go_at_call 157;refine(yD _ _).mono ?_;rintro e w' ⟨rfl,rfl⟩)
  go_ret;exact⟨rfl,rfl⟩
 ·rw[if_neg h];have q1:decide (a<b)=false:=decide_eq_false h
  by_cases h2:b<a
  ·rw[if_pos h2];have q2:decide (b<a)=true:=decide_eq_true h2;go_enter Tryz.func136,Tryz.ntmps136;go_wp2_with (go_at_call 157;refine(yD _ _).mono ?_;rintro e w' ⟨rfl,rfl⟩)
   go_ret;exact⟨rfl,rfl⟩
  ·rw[if_neg h2];have q2:decide (b<a)=false:=decide_eq_false h2;go_enter Tryz.func136,Tryz.ntmps136;go_wp2_with (go_at_call 157;refine(yD _ _).mono ?_;rintro e w' ⟨rfl,rfl⟩)
   go_ret;exact⟨rfl,rfl⟩
theorem Eh(a b:Int)(w:World):Calls Tryz.prog 155 #[.int .u8 a,.int .u8 b] w fun e w'=>e=.returned (.int .i64 (aO a b))∧w=w':=by
 unfold aO
 by_cases h:a<b
 ·rw[if_pos h];have q1:decide (a<b)=true:=decide_eq_true h;go_enter Tryz.func155,Tryz.ntmps155;go_wp2_with (go_at_call 160;refine(yE _ _).mono ?_;rintro e w' ⟨rfl,rfl⟩)
  go_ret;exact⟨rfl,rfl⟩
 ·rw[if_neg h];have q1:decide (a<b)=false:=decide_eq_false h
  by_cases h2:b<a
  ·rw[if_pos h2];have q2:decide (b<a)=true:=decide_eq_true h2;go_enter Tryz.func155,Tryz.ntmps155;go_wp2_with (go_at_call 160;refine(yE _ _).mono ?_;rintro e w' ⟨rfl,rfl⟩)
   go_ret;exact⟨rfl,rfl⟩
  ·rw[if_neg h2];have q2:decide (b<a)=false:=decide_eq_false h2;go_enter Tryz.func155,Tryz.ntmps155;go_wp2_with (go_at_call 160;refine(yE _ _).mono ?_;rintro e w' ⟨rfl,rfl⟩)
   go_ret;exact⟨rfl,rfl⟩
theorem ints(a b:Int)(w:World):Calls Tryz.prog 108 #[.int .i64 a,.int .i64 b] w fun e w'=>e=.returned (.int .i64 (aO a b))∧w=w':=by
 unfold aO
 by_cases h:a<b
 ·rw[if_pos h];have q1:decide (a<b)=true:=decide_eq_true h;go_enter Tryz.func108,Tryz.ntmps108;go_wp2_with fail;go_ret;exact⟨rfl,rfl⟩
 ·rw[if_neg h];have q1:decide (a<b)=false:=decide_eq_false h
  by_cases h2:b<a
  ·rw[if_pos h2];have q2:decide (b<a)=true:=decide_eq_true h2;go_enter Tryz.func108,Tryz.ntmps108;go_wp2_with fail;go_ret;exact⟨rfl,rfl⟩
  ·rw[if_neg h2];have q2:decide (b<a)=false:=decide_eq_false h2;go_enter Tryz.func108,Tryz.ntmps108;go_wp2_with fail;go_ret;exact⟨rfl,rfl⟩
theorem texts(a b:ByteArray)(w:World):Calls Tryz.prog 109 #[.string a,.string b] w fun e w'=>e=.returned (.int .i64 (dx a b))∧w=w':=by
 rcases CR a b with⟨h,q1⟩|⟨h,q1,q2⟩|⟨h,q1,q2⟩
 all_goals
  rw[h];clear h;go_enter Tryz.func109,Tryz.ntmps109;go_wp2_with fail;go_ret;exact⟨rfl,rfl⟩
theorem Am(a b:ByteArray)(w:World):Calls Tryz.prog 156 #[.string a,.string b] w fun e w'=>e=.returned (.int .i64 (dx a b))∧w=w':=by
 go_enter Tryz.func156,Tryz.ntmps156;go_wp2_with fail;rw[run_callFunc_extern Tryz.func161 (by kernel_rfl) (by kernel_rfl) (by kernel_rfl) (e:=Extern.BytealgCompare.compare) (by kernel_rfl),Lib.run_compareString];simp only[Result.andThen];rw[Oper.upon_value];go_wp2_with fail;go_ret;exact⟨rfl,rfl⟩
theorem pG(a b:ByteArray)(w:World):Calls Tryz.prog 135 #[.string a,.string b] w fun e w'=>e=.returned (.int .i64 (dx a b))∧w=w':=by
 go_enter Tryz.func135,Tryz.ntmps135;go_wp2_with (go_at_call 156;refine(Am _ _ _).mono ?_;rintro e w' ⟨rfl,rfl⟩)
 go_ret;exact⟨rfl,rfl⟩
def cn:List Int→Int
 | []=>0
 | x::l=>if x=0 then cn l else x
theorem uQ:∀(l:List Int) (k:Nat) (h:k<l.length),(∀j,(hj:j<l.length)→j<k→l[j]=0)→l[k]≠0→cn l=l[k]
 | x::l,0,h,_,hn=>by
  unfold cn;rw[if_neg (by simpa using hn)];rfl
 | x::l,k+1,h,ha,hn=>by
  unfold cn;have h0:x=0:=ha 0 (by simp) (by omega);rw[if_pos h0,uQ l k (by simpa using h) (fun j hj hk=>ha (j+1) (by simpa using hj) (by omega)) (by simpa using hn)];rfl
theorem qo:∀(l:List Int),(∀j,(hj:j<l.length)→l[j]=0)→cn l=0
 | [],_=>rfl
 | x::l,h=>by
  unfold cn;have h0:x=0:=h 0 (by simp);rw[if_pos h0,qo l (fun j hj=>h (j+1) (by simpa using hj))]
theorem KG(w:World)(g:Nat)(l:List Int)(c:Nat)(hc:l.length≤1000)(hcell:∀j,(h:j<l.length)→w.cell? ⟨g,j,none⟩=some (.int .i64 l[j])) :
 Calls Tryz.prog 134 #[.slice (some ⟨g,0,none⟩) l.length c] w fun e w'=>e=.returned (.int .i64 (cn l))∧w=w':=by
 have HC:=Qh hcell;clear hcell;go_enter Tryz.func134,Tryz.ntmps134;go_wp2_with fail;go_loop [8] (fun i=>∃k:Nat,i=.int .i64 k∧k≤l.length∧Hid (∀j,(h:j<l.length)→j<k→l[j]=0)) (fun i=>l.length-(intOf i).toNat)
 case atStart=>exact⟨0,rfl,by omega,Qh (fun j h hk=>by omega)⟩
 case round=>
  obtain⟨k,rfl,hk,HA⟩:=hrel
  by_cases hlt:k<l.length
  ·have yF:=HC.out k hlt;have cB:=Qh (uQ l k hlt HA.out);have lB:Hid (l[k]=0→∀j,(h:j<l.length)→j<k+1→l[j]=0):=Qh (fun e j h hj=>by
    by_cases e2:j=k
    ·subst e2;exact e
    ·exact HA.out j h (by omega))
   generalize l[k]=x at*
   by_cases hx:x=0
   ·subst hx;have H2:=Qh (lB.out rfl);clear cB lB;go_wp2_with fail;go_round
    case rel=>exact⟨k+1,by go_num,by omega,H2⟩
    case measure=>simp[intOf];omega
   ·have q:(x != 0)=true:=by simp[hx]
    have HF:=Qh (cB.out hx);clear cB lB hx;go_wp2_with fail;go_ret;exact⟨dH HF.out.symm,rfl⟩
  ·have HF:=Qh (qo l (fun j hj=>HA.out j hj (by omega)));go_wp2_with fail;go_ret;exact⟨dH HF.out.symm,rfl⟩
theorem Ao(w:World)(g:Nat)(l:List Int)(c:Nat)(hc:l.length≤1000)(hcell:∀j,(h:j<l.length)→w.cell? ⟨g,j,none⟩=some (.int .i64 l[j])) :
 Calls Tryz.prog 110 #[.slice (some ⟨g,0,none⟩) l.length c] w fun e w'=>e=.returned (.int .i64 (cn l))∧w=w':=by
 have HC:=Qh hcell;clear hcell;go_enter Tryz.func110,Tryz.ntmps110;go_wp2_with fail;go_loop [3] (fun i=>∃k:Nat,i=.int .i64 k∧k≤l.length∧Hid (∀j,(h:j<l.length)→j<k→l[j]=0)) (fun i=>l.length-(intOf i).toNat)
 case atStart=>exact⟨0,rfl,by omega,Qh (fun j h hk=>by omega)⟩
 case round=>
  obtain⟨k,rfl,hk,HA⟩:=hrel
  by_cases hlt:k<l.length
  ·have yF:=HC.out k hlt;have cB:=Qh (uQ l k hlt HA.out);have lB:Hid (l[k]=0→∀j,(h:j<l.length)→j<k+1→l[j]=0):=Qh (fun e j h hj=>by
    by_cases e2:j=k
    ·subst e2;exact e
    ·exact HA.out j h (by omega))
   generalize l[k]=x at*
   by_cases hx:x=0
   ·subst hx;have H2:=Qh (lB.out rfl);clear cB lB;go_wp2_with fail;go_round
    case rel=>exact⟨k+1,by go_num,by omega,H2⟩
    case measure=>simp[intOf];omega
   ·have q:(x != 0)=true:=by simp[hx]
    have HF:=Qh (cB.out hx);clear cB lB hx;go_wp2_with fail;go_ret;exact⟨dH HF.out.symm,rfl⟩
  ·have HF:=Qh (qo l (fun j hj=>HA.out j hj (by omega)));go_wp2_with fail;go_ret;exact⟨dH HF.out.symm,rfl⟩
def kW{α:Type}(c:α→α→Int):List α→List α→Int
 | a::l,b::m=>if c a b=0 then kW c l m else c a b
 | _,_=>0
def eG{α:Type}(c:α→α→Int)(l m:List α):Int:=if l.length=m.length then kW c l m else aO l.length m.length
def fM{α:Type}(kd:α→Int)(c:α→α→Int):α→List α→α→List α→Int
 | a,[],b,[]=>c a b
 | a,[],_,_::_=>aO (kd a) 9
 | _,_::_,b,[]=>aO 9 (kd b)
 | a,x::l,b,y::m=>if c a b=0 then fM kd c x l y m else c a b
def fC{α:Type}(kd:α→Int)(c:α→α→Int):List α→List α→Int
 | a::l,b::m=>fM kd c a l b m
 | _,_=>0
end tm
namespace tm
structure TP{α:Type}(S:α→Prop)(c:α→α→Int):Prop where
 range:∀a b,c a b=-1∨c a b=0∨c a b=1
 anti:∀a b,c b a=- c a b
 trans:∀a b d,S a→S b→S d→c a b≤0→c b d≤0→c a d≤0
theorem TP.refl{α:Type}{S:α→Prop}{c:α→α→Int}(h:TP S c)(a:α):c a a=0:=by have:=h.anti a a;omega
theorem TP.zero{α:Type}{S:α→Prop}{c:α→α→Int}(h:TP S c){a b d:α}(ha:S a)(hb:S b)(hd:S d)(h1:c a b≤0)(h2:c b d≤0)(h3:c a d=0):c a b=0∧c b d=0:=by
 have e:=h.anti a d;have h4:=h.trans b d a hb hd ha h2 (by omega);have h5:=h.trans d a b hd ha hb (by omega) h1;have e1:=h.anti a b;have e2:=h.anti b d;omega
theorem TP.mono{α:Type}{S S':α→Prop}{c:α→α→Int}(h:TP S c)(hs:∀a,S' a→S a):TP S' c:=⟨h.range,h.anti,fun a b d x y z=>h.trans a b d (hs _ x) (hs _ y) (hs _ z)⟩
theorem TP.lK{α β:Type}{S:α→Prop}{c:α→α→Int}(h:TP S c)(f:β→α):TP (fun x=>S (f x)) (fun x y=>c (f x) (f y)):=⟨fun a b=>h.range _ _,fun a b=>h.anti _ _,fun a b d x y z=>h.trans _ _ _ x y z⟩
def eD{α:Type}(c1 c2:α→α→Int)(a b:α):Int:=if c1 a b=0 then c2 a b else c1 a b
theorem TP.then{α:Type}{S:α→Prop}{c1 c2:α→α→Int}(h1:TP S c1)(h2:TP S c2):TP S (eD c1 c2):=by
 refine⟨fun a b=>?_,fun a b=>?_,fun a b d ha hb hd x y=>?_⟩
 ·unfold eD;split
  ·exact h2.range a b
  ·exact h1.range a b
 ·have e1:=h1.anti a b;have e2:=h2.anti a b;unfold eD;split <;> split <;> omega
 ·have k1:c1 a b≤0:=by unfold eD at x;split at x <;> omega
  have k2:c1 b d≤0:=by unfold eD at y;split at y <;> omega
  have k3:=h1.trans a b d ha hb hd k1 k2;unfold eD
  split
  next e =>
   have⟨e1,e2⟩:=h1.zero ha hb hd k1 k2 e;unfold eD at x y;rw[if_pos e1]at x;rw[if_pos e2]at y;exact h2.trans a b d ha hb hd x y
  next=>exact k3
theorem ic(a b:Int):aO a b=-1∨aO a b=0∨aO a b=1:=by unfold aO;split <;> (try split) <;> simp
theorem kK(a b:Int):aO b a=- aO a b:=by
 unfold aO
 by_cases h:a<b
 ·rw[if_pos h,if_neg (by omega),if_pos h];rfl
 ·by_cases h2:b<a
  ·rw[if_pos h2,if_neg h,if_pos h2]
  ·rw[if_neg h,if_neg h2,if_neg h2,if_neg h];rfl
theorem jJ{a b:Int}:aO a b≤0↔a≤b:=by unfold aO;split <;> (try split) <;> omega
theorem uq{a b:Int}:aO a b<0↔a<b:=by unfold aO;split <;> (try split) <;> omega
theorem gw{a b:Int}:aO a b=0↔a=b:=by unfold aO;split <;> (try split) <;> omega
theorem NB:TP (fun _=>True) aO:=⟨ic,kK,fun a b d _ _ _ x y=>by rw[jJ]at*;omega⟩
def ja{α:Type}(c:α→α→Int):List α→List α→Int
 | [],[]=>0
 | [],_::_=>-1
 | _::_,[]=>1
 | a::l,b::m=>if c a b=0 then ja c l m else c a b
theorem uR{α:Type}{c:α→α→Int}(h:∀a b,c a b=-1∨c a b=0∨c a b=1):∀l m,ja c l m=-1∨ja c l m=0∨ja c l m=1
 | [],[]=>.inr (.inl rfl)
 | [],_::_=>.inl rfl
 | _::_,[]=>.inr (.inr rfl)
 | a::l,b::m=>by
  unfold ja;split
  ·exact uR h l m
  ·exact h a b
theorem sj{α:Type}{c:α→α→Int}(h:∀a b,c b a=- c a b):∀l m,ja c m l=- ja c l m
 | [],[]=>rfl
 | [],_::_=>rfl
 | _::_,[]=>rfl
 | a::l,b::m=>by
  have e:=h a b;have ih:=sj h l m;unfold ja;split <;> split <;> omega
theorem TP.lex{α:Type}{S:α→Prop}{c:α→α→Int}(h:TP S c):TP (fun l=>∀x∈l,S x) (ja c):=by
 refine⟨uR h.range,sj h.anti,?_⟩;intro a
 induction a with
 | nil =>
  intro b d _ _ _ _ _;cases d <;> simp[ja]
 | cons x l ih =>
  intro b d ha hb hd h1 h2;cases b with
  | nil=>simp[ja]at h1
  | cons y m =>
   cases d with
   | nil=>simp[ja]at h2
   | cons z k =>
    have hx:=ha x (by simp);have hy:=hb y (by simp);have hz:=hd z (by simp);unfold ja at h1 h2 ⊢;have k1:c x y≤0:=by split at h1 <;> omega
    have k2:c y z≤0:=by split at h2 <;> omega
    split
    next e =>
     have⟨e1,e2⟩:=h.zero hx hy hz k1 k2 e;rw[if_pos e1]at h1;rw[if_pos e2]at h2;exact ih m k (fun u hu=>ha u (by simp[hu])) (fun u hu=>hb u (by simp[hu])) (fun u hu=>hd u (by simp[hu])) h1 h2
    next=>exact h.trans _ _ _ hx hy hz k1 k2
theorem yG{α:Type}{c:α→α→Int}:∀(l m:List α),(∀x∈l,∀y∈m,c x y=0→x=y)→ja c l m=0→l=m
 | [],[],_,_=>rfl
 | [],_::_,_,h=>by simp[ja]at h
 | _::_,[],_,h=>by simp[ja]at h
 | a::l,b::m,hz,h=>by
  unfold ja at h
  split at h
  next e =>
   rw[hz a (by simp) b (by simp) e,yG l m (fun x hx y hy=>hz x (by simp[hx]) y (by simp[hy])) h]
  next e=>exact absurd h e
theorem Ap{α:Type}(c:α→α→Int):∀(l m:List α),l.length=m.length→kW c l m=ja c l m
 | [],[],_=>rfl
 | a::l,b::m,h=>by
  unfold kW ja;rw[Ap c l m (by simpa using h)]
theorem uS{α:Type}(c:α→α→Int)(l m:List α):eG c l m=eD (fun(l m:List α)=>aO l.length m.length) (ja c) l m:=by
 unfold eG eD
 by_cases h:l.length=m.length
 ·rw[if_pos h,if_pos (gw.2 (by omega)),Ap c l m h]
 ·rw[if_neg h,if_neg (fun e=>h (by have:=gw.1 e;omega))]
theorem TP.items{α:Type}{S:α→Prop}{c:α→α→Int}(h:TP S c):TP (fun l=>∀x∈l,S x) (eG c):=by
 have e:eG c=eD (fun(l m:List α)=>aO l.length m.length) (ja c):=by funext l m;exact uS c l m
 rw[e];exact TP.then ((TP.lK NB (fun l:List α=>(l.length:Int))).mono (fun _ _=>trivial)) h.lex
theorem items_eq{α:Type}{c:α→α→Int}(l m:List α)(hz:∀x∈l,∀y∈m,c x y=0→x=y)(h:eG c l m=0):l=m:=by
 rw[uS]at h;unfold eD at h
 split at h
 ·exact yG l m hz h
 ·contradiction
def qU(a b:UInt8):Int:=aO a.toNat b.toNat
theorem Yp:TP (fun _=>True) qU:=TP.lK NB (fun a:UInt8=>(a.toNat:Int))
theorem mZ:∀x y:List UInt8,Lib.compareBytes x y=ja qU x y
 | [],[]=>rfl
 | [],_::_=>rfl
 | _::_,[]=>rfl
 | a::x,b::y=>by
  unfold Lib.compareBytes ja
  by_cases h:a<b
  ·have h':a.toNat<b.toNat:=h;have e:qU a b=-1:=by unfold qU aO;rw[if_pos (by omega)]
   rw[if_pos h,e];rfl
  ·have h':¬a.toNat<b.toNat:=h
   by_cases h2:b<a
   ·have h2':b.toNat<a.toNat:=h2;have e:qU a b=1:=by unfold qU aO;rw[if_neg (by omega),if_pos (by omega)]
    rw[if_neg h,if_pos h2,e];rfl
   ·have h2':¬b.toNat<a.toNat:=h2;have e:qU a b=0:=by unfold qU aO;rw[if_neg (by omega),if_neg (by omega)]
    rw[if_neg h,if_neg h2,e,mZ x y];rfl
theorem U6:TP (fun _=>True) dx:=by
 have e:dx=fun x y=>ja qU x.data.toList y.data.toList:=by funext x y;exact mZ _ _
 rw[e];exact(TP.lK Yp.lex (fun x:ByteArray=>x.data.toList)).mono (fun _ _ _ _=>trivial)
theorem KH{a b:UInt8}(h:qU a b=0):a=b:=UInt8.toNat_inj.1 (by have:=gw.1 h;omega)
theorem G6{x y:List UInt8}(h:Lib.compareBytes x y=0):x=y:=by
 rw[mZ]at h;exact yG x y (fun _ _ _ _ h=>KH h) h
theorem Ei{a b:ByteArray}(h:dx a b=0):a=b:=ByteArray.ext (Array.ext' (G6 h))
theorem sZ{α:Type}{kd:α→Int}{c:α→α→Int}(h:∀a b,c a b=-1∨c a b=0∨c a b=1):∀a l b m,fM kd c a l b m=-1∨fM kd c a l b m=0∨fM kd c a l b m=1
 | a,[],b,[]=>h a b
 | a,[],_,_::_=>ic _ _
 | _,_::_,b,[]=>ic _ _
 | a,x::l,b,y::m=>by
  unfold fM;split
  ·exact sZ h x l y m
  ·exact h a b
theorem uT{α:Type}{kd:α→Int}{c:α→α→Int}(h:∀a b,c b a=- c a b):∀a l b m,fM kd c b m a l=- fM kd c a l b m
 | a,[],b,[]=>h a b
 | a,[],_,_::_=>kK _ _
 | _,_::_,b,[]=>kK _ _
 | a,x::l,b,y::m=>by
  have e:=h a b;have ih:=uT (kd:=kd) h x l y m;unfold fM;split <;> split <;> omega
def lM{α:Type}(S:α→Prop)(kd:α→Int):α→List α→Prop
 | a,[]=>S a∧kd a≠9
 | a,x::l=>S a∧lM S kd x l
theorem lM.head{α:Type}{S:α→Prop}{kd:α→Int}{a:α}{l:List α}(h:lM S kd a l):S a:=by cases l <;> exact h.1
theorem Aq{α:Type}{S:α→Prop}{kd:α→Int}{c:α→α→Int}(h:TP S c)(hk:∀a b,kd a≠kd b→c a b=aO (kd a) (kd b)) :
 ∀l a m b k d,lM S kd a l→lM S kd b m→lM S kd d k→fM kd c a l b m≤0→fM kd c b m d k≤0→fM kd c a l d k≤0:=by
 have hle:∀a b,c a b≤0→kd a≤kd b:=fun a b x=>by
  by_cases e:kd a=kd b
  ·omega
  ·rw[hk a b e,jJ]at x;exact x
 have hlt:∀a b,kd a<kd b→c a b≤0:=fun a b x=>by rw[hk a b (by omega),jJ];omega
 intro l
 induction l with
 | nil =>
  intro a m b k d ha hb hd x y;cases m with
  | nil =>
   cases k with
   | nil=>exact h.trans _ _ _ ha.1 hb.1 hd.1 x y
   | cons z k =>
    have x':c a b≤0:=x;have y':aO (kd b) 9≤0:=y;show aO (kd a) 9≤0;have:=hle _ _ x';rw[jJ]at*;omega
  | cons u m =>
   have x':aO (kd a) 9≤0:=x;cases k with
   | nil =>
    have y':aO 9 (kd d)≤0:=y;have:=ha.2;rw[jJ]at x' y';exact hlt a d (by omega)
   | cons z k=>exact x
 | cons u l ih =>
  intro a m b k d ha hb hd x y;cases m with
  | nil =>
   have x':aO 9 (kd b)≤0:=x;have:=hb.2;cases k with
   | nil =>
    have y':c b d≤0:=y;show aO 9 (kd d)≤0;have:=hle _ _ y';rw[jJ]at*;omega
   | cons z k =>
    have y':aO (kd b) 9≤0:=y;rw[jJ]at x' y';omega
  | cons v m =>
   cases k with
   | nil=>exact y
   | cons z k =>
    unfold fM at x y ⊢;have k1:c a b≤0:=by split at x <;> omega
    have k2:c b d≤0:=by split at y <;> omega
    split
    next e =>
     have⟨e1,e2⟩:=h.zero ha.head hb.head hd.head k1 k2 e;rw[if_pos e1]at x;rw[if_pos e2]at y;exact ih u m v k z ha.2 hb.2 hd.2 x y
    next=>exact h.trans _ _ _ ha.head hb.head hd.head k1 k2
theorem cells_eq{α:Type}{S:α→Prop}{kd:α→Int}{c:α→α→Int}(hz:∀a b,S a→S b→c a b=0→a=b):∀l a m b,lM S kd a l→lM S kd b m→fM kd c a l b m=0→a=b∧l=m
 | [],a,[],b,ha,hb,h=>⟨hz a b ha.1 hb.1 h,rfl⟩
 | [],a,_::_,b,ha,hb,h=>absurd (gw.1 h) ha.2
 | _::_,a,[],b,ha,hb,h=>absurd (gw.1 h).symm hb.2
 | u::l,a,v::m,b,ha,hb,h=>by
  unfold fM at h
  split at h
  next e =>
   obtain⟨e1,e2⟩:=cells_eq hz l u m v ha.2 hb.2 h;exact⟨hz a b ha.1 hb.1 e,by rw[e1,e2]⟩
  next e=>exact absurd h e
def oD{α:Type}(S:α→Prop)(kd:α→Int):List α→Prop
 | []=>True
 | a::l=>lM S kd a l
theorem TP.lists{α:Type}{S:α→Prop}{kd:α→Int}{c:α→α→Int}(h:TP S c)(hk:∀a b,kd a≠kd b→c a b=aO (kd a) (kd b)):TP (fun l=>l≠[]∧oD S kd l) (fC kd c):=by
 refine⟨fun l m=>?_,fun l m=>?_,fun l m k ha hb hd x y=>?_⟩
 ·cases l with
  | nil=>exact .inr (.inl rfl)
  | cons a l=>cases m with
   | nil=>exact .inr (.inl rfl)
   | cons b m=>exact sZ h.range a l b m
 ·cases l with
  | nil=>cases m <;> rfl
  | cons a l=>cases m with
   | nil=>rfl
   | cons b m=>exact uT h.anti a l b m
 ·cases l with
  | nil=>exact absurd rfl ha.1
  | cons a l=>cases m with
   | nil=>exact absurd rfl hb.1
   | cons b m=>cases k with
    | nil=>exact absurd rfl hd.1
    | cons d k=>exact Aq h hk l a m b k d ha.2 hb.2 hd.2 x y
end tm
end Go.Proofs.YtfbggmbmgohiiaaGreat
