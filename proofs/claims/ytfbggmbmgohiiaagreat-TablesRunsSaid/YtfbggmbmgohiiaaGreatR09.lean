/- TmV,TmW. No condition beyond theirs. -/
import Derived.Test.YtfbggmbmgohiiaaGreatR05
import Derived.Test.YtfbggmbmgohiiaaGreatR08
set_option linter.unusedSimpArgs false
set_option linter.unusedVariables false
set_option maxHeartbeats 4000000
set_option maxRecDepth 100000
namespace Go.Proofs.YtfbggmbmgohiiaaGreat.tm
open Go.RowKit mem names
def jP(f1 f2:TF):Int:=cn [dx f1.name f2.name,dx f1.func f2.func,aO f1.gen f2.gen,aO f1.int f2.int,aO f1.arity f2.arity]
def eL(f1 f2:TF):Int :=
 let n:=(min f1.bits f2.bits).toNat
 let k:=Lib.compareBytes (f1.bytes.data.toList.take (n/8)) (f2.bytes.data.toList.take (n/8))
 if k=0 then
  (if n%8=0 then aO f1.bits f2.bits else
    (let x:=((f1.bytes.data.toList.getD (n/8) 0).toNat/2^(8-n%8):Nat)
     let y:=((f2.bytes.data.toList.getD (n/8) 0).toNat/2^(8-n%8):Nat)
     if aO x y=0 then aO f1.bits f2.bits else aO x y))
 else k
def U8{α:Type}(kd:α→Int)(c:α→α→Int)(f1 f2:TF)(l1 l2:List α):Int :=
 if f1.kind=f2.kind then
  (if f1.kind=7 then eG c l1 l2 else if f1.kind=9 then fC kd c l1 l2 else if f1.kind=10 then eL f1 f2 else if jP f1 f2=0 then eG c l1 l2 else jP f1 f2)
 else aO f1.kind f2.kind
def th:(n:Nat)→Tm n→Int
 | 0,_=>0
 | n+1,t=>t.f.kind
def bU:(n:Nat)→Tm n→Tm n→Int
 | 0,_,_=>0
 | n+1,a,b=>U8 (th n) (bU n) a.f b.f a.items b.items
def aM(r:Int)(w:World)(e:Ending)(w':World):Prop:=e=.returned (.int .i64 r)∧Below w.heap.size w w'
def CU(n:Nat):Prop:=∀(w:World) (B:Nat) (v1 v2:Value) (a b:Tm (n+1)),B≤w.heap.size→ah w B n v1 a.items→ah w B n v2 b.items→aJ a=true→aJ b=true→Calls Tryz.prog 121 #[aj a.f v1,aj b.f v2] w (aM (bU (n+1) a b) w)
theorem kL{n:Nat}{l:List (Tm (n+1))}(hf:bp (n+1) l=true)(j:Nat)(h:j<l.length):aJ l[j]=true:=by
 unfold bp at hf;rw[List.all_eq_true]at hf;exact hf l[j] (List.getElem_mem h)
theorem He{n:Nat}(ih:∀m,n=m+1→CU m)(w:World)(B:Nat)(p1 p2:Option Addr)(n1 n2 c1 c2:Nat)(l1 l2:List (Tm n))(hB:B≤w.heap.size)(h1:ah w B n (.slice p1 n1 c1) l1)(h2:ah w B n (.slice p2 n2 c2) l2)(f1:bp n l1=true)(f2:bp n l2=true) :
 ∀i j,(hi:i<l1.length)→(hj:j<l2.length)→∃g1 o1 x1 q1 m1 d1 g2 o2 x2 q2 m2 d2,p1=some ⟨g1,o1,none⟩∧g1<w.heap.size∧Cells w g1 (o1+i*9) x1 (.slice q1 m1 d1)∧p2=some ⟨g2,o2,none⟩∧g2<w.heap.size∧Cells w g2 (o2+j*9) x2 (.slice q2 m2 d2) ∧
  x1.kind=th n l1[i]∧x2.kind=th n l2[j]∧∀W,Below w.heap.size w W→Calls Tryz.prog 121 #[aj x1 (.slice q1 m1 d1),aj x2 (.slice q2 m2 d2)] W (aM (bU n l1[i] l2[j]) W):=by
 cases n with
 | zero=>intro i j hi;rw[Tm.js l1]at hi;exact absurd hi (by simp)
 | succ n =>
  intro i j hi hj;obtain⟨g1,o1,d1,e1,_,_,sg,hx1⟩:=h1.at_ (by intro e;subst e;simp at hi);obtain⟨u1,kq,eW⟩:=hx1 i hi;obtain⟨g2,o2,d2,e2,_,_,nW,rV⟩:=h2.at_ (by intro e;subst e;simp at hj);obtain⟨u2,nM,gR⟩:=rV j hj;simp only[Value.slice.injEq]at e1 e2;obtain⟨q1,NA,rfl,_,_⟩:=eW.shape;obtain⟨q2,QX,rfl,_,_⟩:=gR.shape;refine⟨g1,o1,l1[i].f,q1,_,NA,g2,o2,l2[j].f,q2,_,QX,e1.1,by omega,kq,e2.1,by omega,nM,rfl,rfl,fun W hb=>?_⟩;exact ih n rfl W B _ _ l1[i] l2[j] (Nat.le_trans hB hb.size) (eW.below hb hB) (gR.below hb hB) (kL f1 i hi) (kL f2 j hj)
theorem yH{α:Type}(c:α→α→Int):∀(l m:List α) (k:Nat) (h1:k<l.length) (h2:k<m.length),(∀j,(a:j<l.length)→(b:j<m.length)→j<k→c l[j] m[j]=0)→c l[k] m[k]≠0→kW c l m=c l[k] m[k]
 | x::l,y::m,0,h1,h2,_,hn=>by
  unfold kW;rw[if_neg (show ¬c x y=0 from hn)];rfl
 | x::l,y::m,k+1,h1,h2,ha,hn=>by
  unfold kW;rw[if_pos (show c x y=0 from ha 0 (by simp) (by simp) (by omega)),yH c l m k (by simpa using h1) (by simpa using h2) (fun j a b hk=>ha (j+1) (by simpa using a) (by simpa using b) (by omega)) hn];rfl
theorem sy{α:Type}(c:α→α→Int):∀(l m:List α),l.length=m.length→(∀j,(a:j<l.length)→(b:j<m.length)→c l[j] m[j]=0)→kW c l m=0
 | [],[],_,_=>rfl
 | x::l,y::m,hl,ha=>by
  unfold kW;rw[if_pos (show c x y=0 from ha 0 (by simp) (by simp)),sy c l m (by simpa using hl) (fun j a b=>ha (j+1) (by simpa using a) (by simpa using b))]
theorem Rx{n:Nat}(ih:∀m,n=m+1→CU m)(w:World)(B:Nat)(v1 v2:Value)(l1 l2:List (Tm n))(hB:B≤w.heap.size)(h1:ah w B n v1 l1)(h2:ah w B n v2 l2)(f1:bp n l1=true)(f2:bp n l2=true)(hl:l1.length=l2.length) :
 Calls Tryz.prog 154 #[v1,v2,.func (.func 121) #[] #[]] w (aM (kW (bU n) l1 l2) w):=by
 obtain⟨p1,c1,rfl,dF,hm1⟩:=h1.shape;obtain⟨p2,c2,rfl,eK,hm2⟩:=h2.shape;unfold maxLen at hm1 hm2;have HP:=Qh (He ih w B p1 p2 _ _ c1 c2 l1 l2 hB h1 h2 f1 f2);have cB:=Qh (yH (bU n) l1 l2);have HZ:=Qh (sy (bU n) l1 l2 hl);generalize kW (bU n) l1 l2=r at*;have HL:=Qh hl;rw[←hl]at eK;rw[←hl];clear ih h1 h2 f1 f2 hl;go_enter Tryz.func154,Tryz.ntmps154;go_wp2_with fail;go_loopw [11] (fun s wr=>∃k:Nat,s=.int .i64 k∧k≤l1.length∧Hid (∀j,(a:j<l1.length)→(b:j<l2.length)→j<k→bU n l1[j] l2[j]=0)∧Qb w wr) (fun s _=>l1.length-(intOf s).toNat)
 case atStart=>exact⟨0,rfl,by omega,Qh (fun j _ _ h=>by omega),Below.refl _ _⟩
 case round=>
  obtain⟨k,rfl,hk,HA,hb⟩:=hrel
  by_cases hlt:k<l1.length
  ·have hkb:k<l2.length:=by have:=HL.out;omega
   obtain⟨g1,o1,x1,q1,m1,d1,g2,o2,x2,q2,m2,d2,rfl,sg,kq,rfl,nW,nM,MJ,MK,cT⟩:=HP.out k k hlt hkb;clear MJ MK;have kq:=kq.same (hb.block g1 sg);have nM:=nM.same (hb.block g2 nW);obtain⟨Ek,Cz,CA,CB,CC,CD,CE,CF,CG⟩:=kq;obtain⟨GF,GG,GH,GI,GJ,GK,GL,GM,GN⟩:=nM;have hb':Qb w wr.drew:=hb.drewN 1;have HC:=Qh (cT wr.drew hb');clear cT;have ig:=Qh (cB.out k hlt hkb HA.out);have lB:Hid (bU n l1[k] l2[k]=0→∀j,(a:j<l1.length)→(b:j<l2.length)→j<k+1→bU n l1[j] l2[j]=0):=Qh (fun e j a b hj=>by
    by_cases e2:j=k
    ·subst e2;exact e
    ·exact HA.out j a b (by omega))
   generalize bU n l1[k] l2[k]=x at*;unfold aj aM at HC;go_wp2_with fail;go_still_tail 9,(by kernel_rfl)
   change wpList _ _ _ _ _ wr.drew;clear Ek Cz CA CB CC CD CE CF CG GF GG GH GI GJ GK GL GM GN;generalize wr.drew=w2 at*;go_wp2_with fail;refine HC.out.mono ?_;rintro e w3 ⟨rfl,bN⟩;have dS:Qb w w3:=hb'.trans (bN.mono hb'.size)
   by_cases hx:x=0
   ·subst hx;have H2:=Qh (lB.out rfl);clear ig lB;go_wp2_with fail;go_roundw
    case rel=>exact⟨k+1,by go_num,by omega,H2,dS⟩
    case measure=>simp[intOf];omega
   ·have q:(x != 0)=true:=by simp[hx]
    have HF:=Qh (ig.out hx);clear ig lB hx;go_wp2_with fail;go_ret;exact⟨dH HF.out.symm,dS⟩
  ·have HF:=Qh (HZ.out (fun j a b=>HA.out j a b (by omega)));go_wp2_with fail;go_ret;exact⟨dH HF.out.symm,hb⟩
theorem sA{a b:Int}(h:a=b):aO a b=0:=by subst h;unfold aO;simp
theorem El{a b:Int}(h:a≠b):aO a b≠0:=by unfold aO;split <;> (try split) <;> omega
theorem ND{n:Nat}(ih:∀m,n=m+1→CU m)(w:World)(B:Nat)(v1 v2:Value)(l1 l2:List (Tm n))(hB:B≤w.heap.size)(h1:ah w B n v1 l1)(h2:ah w B n v2 l2)(f1:bp n l1=true)(f2:bp n l2=true) :
 Calls Tryz.prog 131 #[v1,v2] w (aM (eG (bU n) l1 l2) w):=by
 have hE:=fun h=>Rx ih w B v1 v2 l1 l2 hB h1 h2 f1 f2 h;obtain⟨p1,c1,rfl,dF,hm1⟩:=h1.shape;obtain⟨p2,c2,rfl,eK,hm2⟩:=h2.shape;have HE:=Qh hE;have hC:=fun W=>kV l1.length l2.length W;have hr:eG (bU n) l1 l2=(if l1.length=l2.length then kW (bU n) l1 l2 else aO l1.length l2.length):=rfl;rw[hr];clear ih h1 h2 f1 f2 hE hr;generalize kW (bU n) l1 l2=r at*;unfold aM at HE
 by_cases h:l1.length=l2.length
 ·rw[if_pos h];rw[sA (by omega)]at hC;have HH:=Qh (HE.out h);have HC:=Qh hC;clear HE hC h;generalize l1.length=a,l2.length=b at*;go_enter Tryz.func131,Tryz.ntmps131;go_wp2_with fail;refine(HC.out _).mono ?_;rintro e w' ⟨rfl,rfl⟩;go_wp2_with fail;refine HH.out.mono ?_;rintro e w2 ⟨rfl,hb⟩;go_wp2_with fail;go_ret;exact⟨rfl,hb⟩
 ·rw[if_neg h];have hne:=El (a:=(l1.length:Int)) (b:=l2.length) (by omega);have HC:=Qh hC;clear HE hC h;generalize aO (l1.length:Int) l2.length=x at*;have q:(x != 0)=true:=by simp[hne]
  clear hne;generalize l1.length=a,l2.length=b at*;go_enter Tryz.func131,Tryz.ntmps131;go_wp2_with fail;refine(HC.out _).mono ?_;rintro e w' ⟨rfl,rfl⟩;go_wp2_with fail;go_ret;exact⟨rfl,Below.refl _ _⟩
theorem uU{α:Type}(kd:α→Int)(c:α→α→Int)(a x:α)(l:List α)(b y:α)(m:List α):fC kd c (a::x::l) (b::y::m)=if c a b=0 then fC kd c (x::l) (y::m) else c a b:=by
 show fM kd c a (x::l) b (y::m)=if c a b=0 then fM kd c x l y m else c a b
 rw[fM]
theorem Av{α:Type}(kd:α→Int)(c:α→α→Int)(l m:List α)(k:Nat)(h1:k+1<l.length)(h2:k+1<m.length) :
 (c l[k] m[k]≠0→fC kd c (l.drop k) (m.drop k)=c l[k] m[k]) ∧
 (c l[k] m[k]=0→fC kd c (l.drop k) (m.drop k)=fC kd c (l.drop (k+1)) (m.drop (k+1))) ∧
 (l.length=k+2→m.length=k+2→fC kd c (l.drop (k+1)) (m.drop (k+1))=c l[k+1] m[k+1]) ∧
 (l.length=k+2→m.length≠k+2→fC kd c (l.drop (k+1)) (m.drop (k+1))=aO (kd l[k+1]) 9) ∧
 (l.length≠k+2→m.length=k+2→fC kd c (l.drop (k+1)) (m.drop (k+1))=aO 9 (kd m[k+1])):=by
 have e1:l.drop k=l[k]::l.drop (k+1):=List.drop_eq_getElem_cons (by omega);have e2:m.drop k=m[k]::m.drop (k+1):=List.drop_eq_getElem_cons (by omega);have e3:l.drop (k+1)=l[k+1]::l.drop (k+2):=List.drop_eq_getElem_cons h1;have e4:m.drop (k+1)=m[k+1]::m.drop (k+2):=List.drop_eq_getElem_cons h2
 refine⟨fun h=>?_,fun h=>?_,fun ha hb=>?_,fun ha hb=>?_,fun ha hb=>?_⟩
 ·rw[e1,e2,e3,e4,uU,if_neg h]
 ·rw[e1,e2,e3,e4,uU,if_pos h]
 ·rw[e3,e4,List.drop_of_length_le (by omega),List.drop_of_length_le (by omega)];rfl
 ·have e6:m.drop (k+2)=m[k+2]'(by omega)::m.drop (k+3):=List.drop_eq_getElem_cons (by omega);rw[e3,e4,List.drop_of_length_le (by omega),e6];rfl
 ·have e6:l.drop (k+2)=l[k+2]'(by omega)::l.drop (k+3):=List.drop_eq_getElem_cons (by omega);rw[e3,e4,List.drop_of_length_le (l:=m) (by omega),e6];rfl
end Go.Proofs.YtfbggmbmgohiiaaGreat.tm
