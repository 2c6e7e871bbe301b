/- TnE,TnF,TnG,TbF,TbG. No condition beyond theirs. -/
import Derived.Test.YtfbggmbmgohiiaaGreatR16
import Derived.Test.YtfbggmbmgohiiaaGreatR25
import Derived.Test.YtfbggmbmgohiiaaGreatR20
import Derived.Lib.ConvBytes
set_option linter.unusedSimpArgs false
set_option linter.unusedVariables false
set_option maxHeartbeats 4000000
set_option maxRecDepth 100000
namespace Go.Proofs.YtfbggmbmgohiiaaGreat
namespace tm
open Go.RowKit mem names
def xL(n:Nat):Prop:=∀(w:World) (B:Nat) (v1 v2:Value) (a b:Tm (n+1)),B≤w.heap.size→ah w B n v1 a.items→ah w B n v2 b.items→aJ a=true→aJ b=true→Calls Tryz.prog 86 #[aj a.f v1,aj b.f v2] w (aM (bU (n+1) a b) w)
theorem La{n:Nat}(ih:∀m,n=m+1→xL m)(w:World)(B:Nat)(p1 p2:Option Addr)(n1 n2 c1 c2:Nat)(l1 l2:List (Tm n))(hB:B≤w.heap.size)(h1:ah w B n (.slice p1 n1 c1) l1)(h2:ah w B n (.slice p2 n2 c2) l2)(f1:∀x∈l1,FT n x)(f2:∀x∈l2,FT n x) :
 ∀i j,(hi:i<l1.length)→(hj:j<l2.length)→∃g1 o1 x1 q1 m1 d1 g2 o2 x2 q2 m2 d2,p1=some ⟨g1,o1,none⟩∧g1<w.heap.size∧Cells w g1 (o1+i*9) x1 (.slice q1 m1 d1)∧p2=some ⟨g2,o2,none⟩∧g2<w.heap.size∧Cells w g2 (o2+j*9) x2 (.slice q2 m2 d2) ∧
  x1.kind=th n l1[i]∧x2.kind=th n l2[j]∧∀W,Below w.heap.size w W→Calls Tryz.prog 86 #[aj x1 (.slice q1 m1 d1),aj x2 (.slice q2 m2 d2)] W (aM (bU n l1[i] l2[j]) W):=by
 cases n with
 | zero=>intro i j hi;rw[Tm.js l1]at hi;exact absurd hi (by simp)
 | succ n =>
  intro i j hi hj;obtain⟨g1,o1,d1,e1,_,_,sg,hx1⟩:=h1.at_ (by intro e;subst e;simp at hi);obtain⟨u1,kq,eW⟩:=hx1 i hi;obtain⟨g2,o2,d2,e2,_,_,nW,rV⟩:=h2.at_ (by intro e;subst e;simp at hj);obtain⟨u2,nM,gR⟩:=rV j hj;simp only[Value.slice.injEq]at e1 e2;obtain⟨q1,NA,rfl,_,_⟩:=eW.shape;obtain⟨q2,QX,rfl,_,_⟩:=gR.shape;refine⟨g1,o1,l1[i].f,q1,_,NA,g2,o2,l2[j].f,q2,_,QX,e1.1,by omega,kq,e2.1,by omega,nM,rfl,rfl,fun W hb=>?_⟩;exact ih n rfl W B _ _ l1[i] l2[j] (Nat.le_trans hB hb.size) (eW.below hb hB) (gR.below hb hB) (f1 _ (List.getElem_mem hi)) (f2 _ (List.getElem_mem hj))
theorem H6{n:Nat}(ih:∀m,n=m+1→xL m)(w:World)(B:Nat)(v1 v2:Value)(l1 l2:List (Tm n))(hB:B≤w.heap.size)(h1:ah w B n v1 l1)(h2:ah w B n v2 l2)(f1:∀x∈l1,FT n x)(f2:∀x∈l2,FT n x) :
 Calls Tryz.prog 111 #[v1,v2] w (aM (eG (bU n) l1 l2) w):=by
 obtain⟨p1,c1,rfl,dF,hm1⟩:=h1.shape;obtain⟨p2,c2,rfl,eK,hm2⟩:=h2.shape;unfold maxLen at hm1 hm2
 by_cases hl:l1.length=l2.length
 ·rw[show eG (bU n) l1 l2=kW (bU n) l1 l2 by unfold eG;rw[if_pos hl]];have HP:=Qh (La ih w B p1 p2 _ _ c1 c2 l1 l2 hB h1 h2 f1 f2);have cB:=Qh (yH (bU n) l1 l2);have HZ:=Qh (sy (bU n) l1 l2 hl);generalize kW (bU n) l1 l2=r at*;have HL:=Qh hl;rw[←hl]at eK;rw[←hl];clear ih h1 h2 f1 f2 hl;go_enter Tryz.func111,Tryz.ntmps111;go_wp2_with fail;go_loopw [5] (fun s wr=>∃k:Nat,s=.int .i64 k∧k≤l1.length∧Hid (∀j,(a:j<l1.length)→(b:j<l2.length)→j<k→bU n l1[j] l2[j]=0)∧Qb w wr) (fun s _=>l1.length-(intOf s).toNat)
  case atStart=>exact⟨0,rfl,by omega,Qh (fun j _ _ h=>by omega),Below.refl _ _⟩
  case round=>
   obtain⟨k,rfl,hk,HA,hb⟩:=hrel
   by_cases hlt:k<l1.length
   ·have hkb:k<l2.length:=by have:=HL.out;omega
    obtain⟨g1,o1,x1,q1,m1,d1,g2,o2,x2,q2,m2,d2,rfl,sg,kq,rfl,nW,nM,MJ,MK,cT⟩:=HP.out k k hlt hkb;clear MJ MK;have kq:=kq.same (hb.block g1 sg);have nM:=nM.same (hb.block g2 nW);obtain⟨Ek,Cz,CA,CB,CC,CD,CE,CF,CG⟩:=kq;obtain⟨GF,GG,GH,GI,GJ,GK,GL,GM,GN⟩:=nM;have hb':Qb w wr.drew:=hb.drewN 1;have HC:=Qh (cT wr.drew hb');clear cT;have ig:=Qh (cB.out k hlt hkb HA.out);have lB:Hid (bU n l1[k] l2[k]=0→∀j,(a:j<l1.length)→(b:j<l2.length)→j<k+1→bU n l1[j] l2[j]=0):=Qh (fun e j a b hj=>by
     by_cases e2:j=k
     ·subst e2;exact e
     ·exact HA.out j a b (by omega))
    generalize bU n l1[k] l2[k]=x at*;unfold aj aM at HC;go_wp2_with fail;go_still_tail 8,(by kernel_rfl)
    change wpList _ _ _ _ _ wr.drew;clear Ek Cz CA CB CC CD CE CF CG GF GG GH GI GJ GK GL GM GN;generalize wr.drew=w2 at*;go_wp2_with fail;refine HC.out.mono ?_;rintro e w3 ⟨rfl,bN⟩;have dS:Qb w w3:=hb'.trans (bN.mono hb'.size)
    by_cases hx:x=0
    ·subst hx;have H2:=Qh (lB.out rfl);clear ig lB;go_wp2_with fail;go_roundw
     case rel=>exact⟨k+1,by go_num,by omega,H2,dS⟩
     case measure=>simp[intOf];omega
    ·have q:(x != 0)=true:=by simp[hx]
     have HF:=Qh (ig.out hx);clear ig lB hx;go_wp2_with fail;go_ret;exact⟨dH HF.out.symm,dS⟩
   ·have HF:=Qh (HZ.out (fun j a b=>HA.out j a b (by omega)));go_wp2_with fail;go_ret;exact⟨dH HF.out.symm,hb⟩
 ·rw[show eG (bU n) l1 l2=aO l1.length l2.length by unfold eG;rw[if_neg hl]];have HI:=Qh (fun W=>ints (l1.length:Int) (l2.length:Int) W);have q:((l1.length:Int) != (l2.length:Int))=true:=by simp;omega
  clear ih h1 h2 f1 f2 hl;generalize aO (l1.length:Int) (l2.length:Int)=z at*;generalize l1.length=a,l2.length=b at*;go_enter Tryz.func111,Tryz.ntmps111;go_wp2_with fail;refine(HI.out _).mono ?_;rintro e w' ⟨rfl,rfl⟩;go_wp2_with fail;go_ret;exact⟨rfl,Below.refl _ _⟩
def nP(v:Value)(w:World)(e:Ending)(w':World):Prop:=e=.returned v∧Below w.heap.size w w'
def xM:TF:=⟨9,0,0,⟨#[]⟩,⟨#[]⟩,0,⟨#[]⟩,0⟩
theorem MY(g o c:Nat)(f:TF)(q:Option Addr)(m d:Nat)(w:World)(hg:g<w.heap.size)(hC:Cells w g (o+9) f (.slice q m d)) :
 Calls Tryz.prog 125 #[.slice (some ⟨g,o,none⟩) 2 c] w (nP (aj f (.slice q m d)) w):=by
 obtain⟨k,i,gg,nm,fn,ar,aL,bt⟩:=f;obtain⟨x0,x1,x2,x3,x4,x5,x6,x7,x8⟩:=hC;dsimp only at x0 x1 x2 x3 x4 x5 x6 x7 x8;unfold nP aj;dsimp only;go_enter Tryz.func125,Tryz.ntmps125;go_wp2_with fail;exact bodyPost_ret (v:=(.agg (a9 k i gg nm fn ar (.slice q m d) aL bt))) (by simp[results,Tryz.results125,go_sem, *]) rfl ⟨rfl,Qz⟩
theorem MZ(g o a x:Nat)(w:World)(hx:a≤x)(hm:x+3≤maxLen) :
 Calls Tryz.prog 125 #[.slice (some ⟨g,o,none⟩) (a+3) (x+3)] w (nP (aj xM (.slice (some ⟨g,o+9,none⟩) (a+2) (x+2))) w):=by
 unfold maxLen at hm;unfold nP aj xM;dsimp only;have q:((a:Int)+3==2)=false:=by simp;omega
 have q2:((a+3:Nat):Int)=(a:Int)+3:=by omega
 go_enter Tryz.func125,Tryz.ntmps125;go_wp2_with fail;exact bodyPost_ret (v:=(.agg #[.int .i64 9,.int .i64 0,.int .i64 0,.string ⟨#[]⟩,.string ⟨#[]⟩,.int .i64 0,.slice (some ⟨g,o+9,none⟩) (a+2) (x+2),.string ⟨#[]⟩,.int .i64 0])) (by simp[results,Tryz.results125,go_sem, *]) rfl ⟨rfl,Qz⟩
theorem lM.all{α:Type}{S:α→Prop}{kd:α→Int}:∀{l:List α} {a:α},lM S kd a l→∀x∈a::l,S x
 | [],a,h,x,hx=>by simp at hx;subst hx;exact h.1
 | b::l,a,h,x,hx=>by
  rcases List.mem_cons.1 hx with rfl|hx
  ·exact h.1
  ·exact lM.all h.2 x hx
theorem oD.all{α:Type}{S:α→Prop}{kd:α→Int}{l:List α}(h:oD S kd l):∀x∈l,S x:=by
 cases l with
 | nil=>simp
 | cons a l=>exact lM.all h
theorem oD.tail{α:Type}{S:α→Prop}{kd:α→Int}{l:List α}(h:oD S kd l):oD S kd (l.drop 1):=by
 cases l with
 | nil=>trivial
 | cons a l=>cases l with
  | nil=>trivial
  | cons b l=>exact h.2
theorem oD.last{α:Type}{S:α→Prop}{kd:α→Int}{l:List α}(h:oD S kd l)(h2:l.length=2):kd (l[1]'(by omega))≠9:=by
 match l,h,h2 with
 | [a,b],h,_=>exact h.2.2
theorem ah.tail{w:World}{B n a x g o:Nat}{l:List (Tm (n+1))}(h:ah w B (n+1) (.slice (some ⟨g,o,none⟩) (a+3) (x+3)) l):ah w B (n+1) (.slice (some ⟨g,o+9,none⟩) (a+2) (x+2)) (l.drop 1):=by
 obtain⟨p,c,e,h1,h2,h3⟩:=h;simp only[Value.slice.injEq]at e;obtain⟨rfl,e2,rfl⟩:=e;have hl:(l.drop 1).length=a+2:=by simp;omega
 refine⟨some ⟨g,o+9,none⟩,x+2,by rw[hl],by omega,by omega,fun _=>?_⟩;obtain⟨g',o',e,hg,hc⟩:=h3 (by intro e;subst e;simp at e2);simp only[Option.some.injEq,Addr.mk.injEq]at e;obtain⟨rfl,rfl,_⟩:=e;refine⟨g,o+9,rfl,hg,fun j hj=>?_⟩;obtain⟨u,dF,eK⟩:=hc (j+1) (by omega);have e:(l.drop 1)[j]=l[j+1]'(by omega):=by simp[Nat.add_comm]
 rw[e,show o+9+j*9=o+(j+1)*9 by omega];exact⟨u,dF,eK⟩
theorem Oc(g1 o1 g2 o2 a b x y:Nat)(x1 x2:TF)(q1 q2:Option Addr)(m1 d1 m2 d2:Nat)(w:World)(z r:Int)(r1 r2:Value)(hz:z≠0→r=z)
 (kq:Cells w g1 o1 x1 (.slice q1 m1 d1))(nM:Cells w g2 o2 x2 (.slice q2 m2 d2))(Um:a≤x)(hby:b≤y)(Yq:x+2≤maxLen)(Yr:y+2≤maxLen)
 (cT:∀W,Below w.heap.size w W→Calls Tryz.prog 86 #[aj x1 (.slice q1 m1 d1),aj x2 (.slice q2 m2 d2)] W (aM z W))
 (rp:∀W,Below w.heap.size w W→Calls Tryz.prog 125 #[.slice (some ⟨g1,o1,none⟩) (a+2) (x+2)] W (nP r1 W))
 (ED:∀W,Below w.heap.size w W→Calls Tryz.prog 125 #[.slice (some ⟨g2,o2,none⟩) (b+2) (y+2)] W (nP r2 W))
 (hF:z=0→∀W,Below w.heap.size w W→Calls Tryz.prog 86 #[r1,r2] W (aM r W))(hs1:∃f v,r1=aj f v)(iw:∃f v,r2=aj f v) :
 Calls Tryz.prog 112 #[.slice (some ⟨g1,o1,none⟩) (a+2) (x+2),.slice (some ⟨g2,o2,none⟩) (b+2) (y+2)] w (aM r w):=by
 obtain⟨f1,v1,rfl⟩:=hs1;obtain⟨f2,v2,rfl⟩:=iw;unfold maxLen at Yq Yr;have dw:=Qh rp;have nu:=Qh ED;have HF:=Qh hF;have HZ:=Qh hz;have hb':Qb w w.drew:=(Below.refl _ w).drewN 1;have HC:=Qh (cT w.drew hb');clear rp ED hF hz cT;obtain⟨Ek,Cz,CA,CB,CC,CD,CE,CF,CG⟩:=kq;obtain⟨GF,GG,GH,GI,GJ,GK,GL,GM,GN⟩:=nM;unfold aj aM nP at*;have NK:(0:Int)<(a:Int)+2:=by omega
 have a_:(0:Int)<(b:Int)+2:=by omega
 have U':0<a+2:=by omega
 have Va:0<b+2:=by omega
 go_enter Tryz.func112,Tryz.ntmps112;go_wp2_with fail;go_still_tail 6,(by kernel_rfl)
 change wpList _ _ _ _ _ w.drew;clear Ek Cz CA CB CC CD CE CF CG GF GG GH GI GJ GK GL GM GN;have wQ:=Qh hb';clear hb';generalize w.drew=w2 at*;go_wp2_with fail;refine HC.out.mono ?_;rintro e w3 ⟨rfl,bN⟩;have dS:Qb w w3:=wQ.out.trans (bN.mono wQ.out.size)
 by_cases hx:z=0
 ·subst hx;have Q6:=Qh (HF.out rfl);have Wj:=Qh (dw.out w3 dS);clear HF HZ dw;go_wp2_with fail;refine Wj.out.mono ?_;rintro e w4 ⟨rfl,eS⟩;have um:=dS.trans (eS.mono dS.size);have Wk:=Qh (nu.out w4 um);go_wp2_with fail;refine Wk.out.mono ?_;rintro e w5 ⟨rfl,j7⟩;have qp:=um.trans (j7.mono um.size);have HF3:=Qh (Q6.out w5 qp);go_wp2_with fail;refine HF3.out.mono ?_;rintro e w6 ⟨rfl,lR⟩;go_wp2_with fail;go_ret;exact⟨rfl,qp.trans (lR.mono qp.size)⟩
 ·have q:(z != 0)=true:=by simp[hx]
  have HF:=Qh (HZ.out hx);clear hx HZ;go_wp2_with fail;go_ret;exact⟨dH HF.out.symm,dS⟩
theorem Od(f1 f2:TF)(p1 p2:Option Addr)(m1 c1 m2 c2:Nat)(w:World)(h:f1.kind≠f2.kind):Calls Tryz.prog 86 #[aj f1 (.slice p1 m1 c1),aj f2 (.slice p2 m2 c2)] w (aM (aO f1.kind f2.kind) w):=by
 obtain⟨k1,i1,g1,n1,dr,a1,b1,s1⟩:=f1;obtain⟨k2,i2,g2,n2,cU,a2,b2,s2⟩:=f2;exact fNe _ _ _ _ _ _ _ _ _ _ _ _ _ _ _ _ _ _ _ _ w k1 k2 h
theorem Oe{n:Nat}(ih:∀m,n=m+1→xL m):∀(N:Nat) (w:World) (B:Nat) (v1 v2:Value) (l1 l2:List (Tm n)),l1.length≤N→B≤w.heap.size→ah w B n v1 l1→ah w B n v2 l2→oD (FT n) (th n) l1→oD (FT n) (th n) l2→2≤l1.length→2≤l2.length →
 Calls Tryz.prog 112 #[v1,v2] w (aM (fC (th n) (bU n) l1 l2) w):=by
 cases n with
 | zero=>intro N w B v1 v2 l1 l2 _ _ _ _ _ _ h;rw[Tm.js l1]at h;simp at h
 | succ n =>
 intro N
 induction N with
 | zero=>intro w B v1 v2 l1 l2 h _ _ _ _ _ h2;omega
 | succ N ihN =>
  intro w B v1 v2 l1 l2 hN hB h1 h2 f1 f2 e1 e2;obtain⟨g1,o1,c1,rfl,dF,hm1,sg,hx1⟩:=h1.at_ (by intro e;subst e;simp at e1);obtain⟨g2,o2,c2,rfl,eK,hm2,nW,rV⟩:=h2.at_ (by intro e;subst e;simp at e2);obtain⟨u1,kq,eW⟩:=hx1 0 (by omega);obtain⟨u2,nM,gR⟩:=rV 0 (by omega);obtain⟨u3,KU,ru⟩:=hx1 1 (by omega);obtain⟨u4,KV,xN⟩:=rV 1 (by omega);obtain⟨q1,d1,rfl,_,_⟩:=eW.shape;obtain⟨q2,d2,rfl,_,_⟩:=gR.shape;obtain⟨q3,d3,rfl,_,_⟩:=ru.shape;obtain⟨q4,d4,rfl,_,_⟩:=xN.shape;have F1:=f1.all;have F2:=f2.all
  have HA:=Av (th (n+1)) (bU (n+1)) l1 l2 0 (by omega) (by omega);simp only[List.drop_zero,Nat.zero_add]at HA;obtain⟨A1,A2,A3,A4,A5⟩:=HA;have cT:=fun W (hb:Qb w W)=>ih n rfl W B _ _ l1[0] l2[0] (Nat.le_trans hB hb.size) (eW.below hb hB) (gR.below hb hB) (F1 _ (List.getElem_mem _)) (F2 _ (List.getElem_mem _));have yK:=fun W (hb:Qb w W)=>ih n rfl W B _ _ l1[1] l2[1] (Nat.le_trans hB hb.size) (ru.below hb hB) (xN.below hb hB) (F1 _ (List.getElem_mem _)) (F2 _ (List.getElem_mem _));obtain⟨a,ha⟩:∃a,l1.length=a+2:=⟨l1.length-2,by omega⟩
  obtain⟨b,hb⟩:∃b,l2.length=b+2:=⟨l2.length-2,by omega⟩;obtain⟨x,rfl⟩:∃x,c1=x+2:=⟨c1-2,by omega⟩;obtain⟨y,rfl⟩:∃y,c2=y+2:=⟨c2-2,by omega⟩;rw[ha]at h1 dF ⊢;rw[hb]at h2 eK ⊢;have r1:∃R1,(∃f v,R1=aj f v)∧(∀W,Qb w W→Calls Tryz.prog 125 #[.slice (some ⟨g1,o1,none⟩) (a+2) (x+2)] W (nP R1 W))∧(a=0→R1=aj l1[1].f (.slice q3 l1[1].items.length d3))∧(a≠0→∃s,x=s+1∧R1=aj xM (.slice (some ⟨g1,o1+9,none⟩) (a+1) (s+2))∧ah w B (n+1) (.slice (some ⟨g1,o1+9,none⟩) (a+1) (s+2)) (l1.drop 1)):=by
   cases a with
   | zero=>exact⟨_,⟨_,_,rfl⟩,fun W hb=>MY g1 o1 _ _ q3 _ d3 W (Nat.lt_of_lt_of_le (Nat.lt_of_lt_of_le sg hB) hb.size) ((show o1+1*9=o1+9 by omega)▸KU.same (hb.block g1 (by omega))),fun _=>rfl,fun h=>absurd rfl h⟩
   | succ a =>
    obtain⟨s,rfl⟩:∃s,x=s+1:=⟨x-1,by omega⟩;exact⟨_,⟨_,_,rfl⟩,fun W hb=>MZ g1 o1 a s W (by omega) (by omega),fun h=>by omega,fun _=>⟨s,rfl,rfl,h1.tail⟩⟩
  have r2:∃R2,(∃f v,R2=aj f v)∧(∀W,Qb w W→Calls Tryz.prog 125 #[.slice (some ⟨g2,o2,none⟩) (b+2) (y+2)] W (nP R2 W))∧(b=0→R2=aj l2[1].f (.slice q4 l2[1].items.length d4))∧(b≠0→∃s,y=s+1∧R2=aj xM (.slice (some ⟨g2,o2+9,none⟩) (b+1) (s+2))∧ah w B (n+1) (.slice (some ⟨g2,o2+9,none⟩) (b+1) (s+2)) (l2.drop 1)):=by
   cases b with
   | zero=>exact⟨_,⟨_,_,rfl⟩,fun W hb=>MY g2 o2 _ _ q4 _ d4 W (Nat.lt_of_lt_of_le (Nat.lt_of_lt_of_le nW hB) hb.size) ((show o2+1*9=o2+9 by omega)▸KV.same (hb.block g2 (by omega))),fun _=>rfl,fun h=>absurd rfl h⟩
   | succ b =>
    obtain⟨s,rfl⟩:∃s,y=s+1:=⟨y-1,by omega⟩;exact⟨_,⟨_,_,rfl⟩,fun W hb=>MZ g2 o2 b s W (by omega) (by omega),fun h=>by omega,fun _=>⟨s,rfl,rfl,h2.tail⟩⟩
  obtain⟨R1,hs1,rp,Wl,Wn⟩:=r1;obtain⟨R2,iw,ED,Si,Sj⟩:=r2;refine Oc g1 o1 g2 o2 a b x y l1[0].f l2[0].f q1 q2 _ d1 _ d2 w (bU (n+1) l1[0] l2[0]) _ R1 R2 (fun h=>A1 h) ((show o1+0*9=o1 by omega)▸kq) ((show o2+0*9=o2 by omega)▸nM) (by omega) (by omega) hm1 hm2 cT rp ED (fun hz W hb=>?_) hs1 iw;rw[A2 hz]
  by_cases ea:a=0
  ·rw[Wl ea];have k1:l1[1].f.kind≠9:=f1.last (by omega)
   by_cases eb:b=0
   ·rw[Si eb,A3 (by omega) (by omega)];exact yK W hb
   ·obtain⟨s,_,e,_⟩:=Sj eb;rw[e,A4 (by omega) (by omega)];exact Od _ xM _ _ _ _ _ _ W k1
  ·obtain⟨s,_,e,Wo⟩:=Wn ea;rw[e]
   by_cases eb:b=0
   ·have k2:l2[1].f.kind≠9:=f2.last (by omega);rw[Si eb,A5 (by omega) (by omega)];exact Od xM _ _ _ _ _ _ _ W (Ne.symm k2)
   ·obtain⟨s2,_,e2,wO⟩:=Sj eb;rw[e2];exact f9 0 0 0 0 _ _ _ _ 0 0 _ _ 0 0 _ _ _ _ _ _ W _ (fun W' hb'=>ihN W' B _ _ (l1.drop 1) (l2.drop 1) (by simp;omega) (Nat.le_trans hB (Nat.le_trans hb.size hb'.size)) ((Wo.below hb hB).below hb' (Nat.le_trans hB hb.size)) ((wO.below hb hB).below hb' (Nat.le_trans hB hb.size)) f1.tail f2.tail (by simp;omega) (by simp;omega))
theorem kN(a:Int):aO a a=0:=sA rfl
theorem kO(a:ByteArray):dx a a=0:=U6.refl a
theorem mG(a:Int)(l:List Int):cn (a::l)=if a=0 then cn l else a:=rfl
def H7(f1 f2:TF)(ri:Int):Int :=
 if f1.kind=1 then aO f1.int f2.int
 else if f1.kind=2 then dx f1.name f2.name
 else if f1.kind=3∨f1.kind=6 then cn [dx f1.name f2.name,aO f1.gen f2.gen,aO f1.int f2.int]
 else if f1.kind=4 then cn [dx f1.name f2.name,aO f1.gen f2.gen,aO f1.int f2.int,aO f1.arity f2.arity,ri]
 else if f1.kind=5 then cn [dx f1.name f2.name,dx f1.func f2.func,aO f1.arity f2.arity]
 else 0
theorem H8(f1 f2:TF)(ri:Int)(hk:f1.kind=f2.kind)(z1:({ bG f1 with kind:=0 }:TF)=aY)(z2:({ bG f2 with kind:=0 }:TF)=aY)(h7:f1.kind≠7)(h9:f1.kind≠9)(lC:f1.kind≠10)(h0:f1.kind≠4→ri=0) :
 (if jP f1 f2=0 then ri else jP f1 f2)=H7 f1 f2 ri:=by
 obtain⟨k1,i1,g1,n1,dr,a1,b1,s1⟩:=f1;obtain⟨k2,i2,g2,n2,cU,a2,b2,s2⟩:=f2;dsimp only at hk h7 h9 lC h0;subst hk;unfold bG aY at z1 z2;unfold jP H7;dsimp only at z1 z2 ⊢
 by_cases h1:k1=1
 ·rw[h0 (by omega)];rw[if_pos h1]at z1 z2;simp at z1 z2;simp only[z1,z2,kO,kN,mG,if_pos h1,if_true]
  split <;> simp_all [cn]
 rw[if_neg h1]at z1 z2 ⊢
 by_cases h2:k1=2
 ·rw[h0 (by omega)];rw[if_pos h2]at z1 z2;simp at z1 z2;simp only[z1,z2,kO,kN,mG,if_pos h2,if_true]
  split <;> simp_all [cn]
 rw[if_neg h2]at z1 z2 ⊢
 by_cases h3:k1=3∨k1=6
 ·rw[h0 (by omega)];rw[if_pos h3]at z1 z2;simp at z1 z2;simp only[z1,z2,kO,kN,mG,if_pos h3,if_true,cn];generalize dx n1 n2=x;generalize aO g1 g2=y;generalize aO i1 i2=z
  repeat' split
  all_goals first|rfl|omega|simp_all
 rw[if_neg h3]at z1 z2 ⊢
 by_cases h4:k1=4
 ·rw[if_pos h4]at z1 z2;simp at z1 z2;simp only[z1,z2,kO,kN,mG,if_pos h4,if_true,cn];generalize dx n1 n2=x;generalize aO g1 g2=y;generalize aO i1 i2=z;generalize aO a1 a2=t
  repeat' split
  all_goals first|rfl|omega|simp_all
 rw[if_neg h4]at z1 z2 ⊢
 by_cases h5:k1=5
 ·rw[h0 h4];rw[if_pos h5]at z1 z2;simp at z1 z2;simp only[z1,z2,kO,kN,mG,if_pos h5,if_true,cn];generalize dx n1 n2=x;generalize dx dr cU=y;generalize aO a1 a2=z
  repeat' split
  all_goals first|rfl|omega|simp_all
 ·rw[h0 h4];rw[if_neg h5,if_neg lC]at z1 z2;simp at z1 z2;simp only[z1,z2,kO,kN,mG,if_neg h5,if_true,cn]
theorem Lb(x y:TF)(p1 p2:Option Addr)(m1 c1 m2 c2:Nat)(ri rl:Int)(w:World)
 (nj:∀W,Below w.heap.size w W→Calls Tryz.prog 111 #[.slice p1 m1 c1,.slice p2 m2 c2] W (aM ri W))
 (qw:x.kind=9→y.kind=9→∀W,Below w.heap.size w W→Calls Tryz.prog 112 #[.slice p1 m1 c1,.slice p2 m2 c2] W (aM rl W))
 (aD:x.kind=10→ij x)(a_:y.kind=10→ij y)(hkk:1≤x.kind∧x.kind≤10) :
 Calls Tryz.prog 86 #[aj x (.slice p1 m1 c1),aj y (.slice p2 m2 c2)] w (aM (if x.kind=y.kind then(if x.kind=7 then ri else if x.kind=9 then rl else if x.kind=10 then eL x y else H7 x y ri) else aO x.kind y.kind) w):=by
 by_cases hk:x.kind=y.kind
 case neg=>rw[if_neg hk];exact Od _ _ _ _ _ _ _ _ w hk
 rw[if_pos hk];have KX:∀W:World,x.kind=10→Calls Tryz.prog 113 #[aj x (.slice p1 m1 c1),aj y (.slice p2 m2 c2)] W (aM (eL x y) W):=fun W h=>RU x y _ _ _ _ _ _ W (aD h) (a_ (by omega));unfold H7;obtain⟨k1,i1,g1,n1,dr,a1,b1,s1⟩:=x;obtain⟨k2,i2,g2,n2,cU,a2,b2,s2⟩:=y;dsimp only at*;subst hk;generalize eL ⟨k1,i1,g1,n1,dr,a1,b1,s1⟩ ⟨k1,i2,g2,n2,cU,a2,b2,s2⟩=rb at*
 rcases(show k1=1∨k1=2∨k1=3∨k1=4∨k1=5∨k1=6∨k1=7∨k1=8∨k1=9∨k1=10 by omega)with rfl|rfl|rfl|rfl|rfl|rfl|rfl|rfl|rfl|rfl
 ·exact f1 _ _ _ _ _ _ _ _ _ _ _ _ _ _ _ _ _ _ _ _ w
 ·exact f2 _ _ _ _ _ _ _ _ _ _ _ _ _ _ _ _ _ _ _ _ w
 ·exact f3 _ _ _ _ _ _ _ _ _ _ _ _ _ _ _ _ _ _ _ _ w
 ·exact f4 _ _ _ _ _ _ _ _ _ _ _ _ _ _ _ _ _ _ _ _ w ri nj
 ·exact f5 _ _ _ _ _ _ _ _ _ _ _ _ _ _ _ _ _ _ _ _ w
 ·exact f6 _ _ _ _ _ _ _ _ _ _ _ _ _ _ _ _ _ _ _ _ w
 ·exact f7 _ _ _ _ _ _ _ _ _ _ _ _ _ _ _ _ _ _ _ _ w ri nj
 ·exact f8 _ _ _ _ _ _ _ _ _ _ _ _ _ _ _ _ _ _ _ _ w
 ·exact f9 _ _ _ _ _ _ _ _ _ _ _ _ _ _ _ _ _ _ _ _ w rl (qw rfl rfl)
 ·exact f10 _ _ _ _ _ _ _ _ _ _ _ _ _ _ _ _ _ _ _ _ w rb (fun W _=>KX W rfl)
theorem yP{n:Nat}{t:Tm (n+1)}(h:aJ t=true):1≤t.f.kind∧t.f.kind≤10:=by
 obtain⟨h1,h2,_,_⟩:=p8 h;have h3:=of_decide_eq_true (show decide _=true from h1);refine⟨?_,h3.2⟩
 by_cases e:t.f.kind=0
 ·unfold okF at h2;rw[if_neg (by omega),if_neg (by omega),if_neg (by omega),if_neg (by omega),if_neg (by omega),if_neg (by omega),if_neg (by omega),if_neg (by omega)]at h2;cases h2
 ·omega
theorem vD{n:Nat}(ih:∀m,n=m+1→xL m):xL n:=by
 intro w B v1 v2 a b hB h1 h2 f1 f2;have F1:=mr f1;have F2:=mr f2;have nj:=fun W (hb:Qb w W)=>H6 ih W B v1 v2 a.items b.items (Nat.le_trans hB hb.size) (h1.below hb hB) (h2.below hb hB) F1 F2;have qw:=fun e1 e2 W (hb:Qb w W)=>Oe ih a.items.length W B v1 v2 a.items b.items (Nat.le_refl _) (Nat.le_trans hB hb.size) (h1.below hb hB) (h2.below hb hB) (jb f1 e1).2 (jb f2 e2).2 (jb f1 e1).1 (jb f2 e2).1;obtain⟨p1,c1,rfl,_,_⟩:=h1.shape;obtain⟨p2,c2,rfl,_,_⟩:=h2.shape
 have hr:bU (n+1) a b=(if a.f.kind=b.f.kind then(if a.f.kind=7 then eG (bU n) a.items b.items else if a.f.kind=9 then fC (th n) (bU n) a.items b.items else if a.f.kind=10 then eL a.f b.f else H7 a.f b.f (eG (bU n) a.items b.items)) else aO a.f.kind b.f.kind):=by
  rw[jc]
  by_cases hk:a.f.kind=b.f.kind
  ·rw[if_pos hk,if_pos hk];unfold mA eD;dsimp only
   by_cases h7:a.f.kind=7
   ·rw[if_pos h7,if_pos h7]
   rw[if_neg h7,if_neg h7]
   by_cases h9:a.f.kind=9
   ·rw[if_pos h9,if_pos h9]
   rw[if_neg h9,if_neg h9]
   by_cases lC:a.f.kind=10
   ·rw[if_pos lC,if_pos lC]
   rw[if_neg lC,if_neg lC];obtain⟨_,_,z1,y1⟩:=p8 f1;obtain⟨_,_,z2,y2⟩:=p8 f2;refine H8 a.f b.f _ hk z1 z2 h7 h9 lC (fun h4=>?_);rw[if_neg (by omega)]at y1 y2;rw[List.length_eq_zero_iff.1 y1,List.length_eq_zero_iff.1 y2];rfl
  ·rw[if_neg hk,if_neg hk]
 rw[hr];exact Lb a.f b.f p1 p2 _ c1 _ c2 _ _ w nj qw (fun h=>ng f1 h) (fun h=>ng f2 h) (yP f1)
theorem xO:∀n,xL n
 | 0=>vD (fun m h=>by omega)
 | n+1=>vD (fun m h=>by
  obtain rfl:n=m:=by omega
  exact xO n)
theorem FR(x y:TF)(p1 p2:Option Addr)(m1 c1 m2 c2:Nat)(va vb:Bool)(r:Int)(w:World)
 (wJ:∀W,Below w.heap.size w W→Calls Tryz.prog 28 #[aj x (.slice p1 m1 c1)] W (aV va W))
 (pS:∀W,Below w.heap.size w W→Calls Tryz.prog 28 #[aj y (.slice p2 m2 c2)] W (aV vb W))
 (hC:va=true→vb=true→∀W,Below w.heap.size w W→Calls Tryz.prog 86 #[aj x (.slice p1 m1 c1),aj y (.slice p2 m2 c2)] W (aM r W)) :
 Calls Tryz.prog 54 #[aj x (.slice p1 m1 c1),aj y (.slice p2 m2 c2)] w (aM (if va=true then(if vb=true then r else 1) else(if vb=true then -1 else 0)) w):=by
 generalize hres:(if va=true then(if vb=true then r else 1) else(if vb=true then -1 else 0))=res;have qu:=Qh hres;clear hres;have N1:=Qh wJ;have N2:=Qh pS;have HC:=Qh hC;clear wJ pS hC;obtain⟨k1,i1,g1,n1,dr,a1,b1,s1⟩:=x;obtain⟨k2,i2,g2,n2,cU,a2,b2,s2⟩:=y;unfold aj aV aM at*;dsimp only at*;go_enter Tryz.func54,Tryz.ntmps54;go_wp2_with fail;obtain⟨cz,cZ,au,hsz⟩:=j8 w ⟨k1,i1,g1,n1,dr,a1,b1,s1⟩ ⟨k2,i2,g2,n2,cU,a2,b2,s2⟩ (.slice p1 m1 c1) (.slice p2 m2 c2);unfold av at cz cZ au hsz;dsimp only at cz cZ au hsz
 generalize((w.alloc (.cells (a9 k1 i1 g1 n1 dr a1 (.slice p1 m1 c1) b1 s1) 24)).alloc (.cells (a9 k2 i2 g2 n2 cU a2 (.slice p2 m2 c2) b2 s2) 24))=W0 at*;have eT:Hid (w.heap.size<W0.heap.size):=Qh (by omega);have iW:Hid (w.heap.size+1<W0.heap.size):=Qh (by omega);clear hsz;have gF:=Qh cz;have gG:=Qh cZ;obtain⟨x0,x1,x2,x3,x4,x5,x6,x7,x8,xz⟩:=cz;obtain⟨y0,y1,y2,y3,y4,y5,y6,y7,y8,yz⟩:=cZ;dsimp only at x0 x1 x2 x3 x4 x5 x6 x7 x8 y0 y1 y2 y3 y4 y5 y6 y7 y8;have hbd:Qb w (W0.drewN 1):=au.drewN 1
 have C3:=Qh (show gu (W0.drewN 1) w.heap.size ⟨k1,i1,g1,n1,dr,a1,b1,s1⟩ (.slice p1 m1 c1) from cR gF.out);have Hp:=Qh (show gu (W0.drewN 1) (w.heap.size+1) ⟨k2,i2,g2,n2,cU,a2,b2,s2⟩ (.slice p2 m2 c2) from cR gG.out)
 go_region_held3 (fun w'=>(w'.cell? ⟨w.heap.size,0,none⟩=some (.int .i64 k1)∧w'.cell? ⟨w.heap.size,1,none⟩=some (.int .i64 i1)∧w'.cell? ⟨w.heap.size,2,none⟩=some (.int .i64 g1)∧w'.cell? ⟨w.heap.size,3,none⟩=some (.string n1)∧w'.cell? ⟨w.heap.size,4,none⟩=some (.string dr)∧w'.cell? ⟨w.heap.size,5,none⟩=some (.int .i64 a1)∧w'.cell? ⟨w.heap.size,6,none⟩=some (.slice p1 m1 c1)∧w'.cell? ⟨w.heap.size,7,none⟩=some (.string b1)∧w'.cell? ⟨w.heap.size,8,none⟩=some (.int .i64 s1))∧w'.cell? ⟨w.heap.size+1,0,none⟩=some (.int .i64 k2)∧w'.cell? ⟨w.heap.size+1,1,none⟩=some (.int .i64 i2)∧w'.cell? ⟨w.heap.size+1,2,none⟩=some (.int .i64 g2)∧w'.cell? ⟨w.heap.size+1,3,none⟩=some (.string n2)∧w'.cell? ⟨w.heap.size+1,4,none⟩=some (.string cU)∧w'.cell? ⟨w.heap.size+1,5,none⟩=some (.int .i64 a2)∧w'.cell? ⟨w.heap.size+1,6,none⟩=some (.slice p2 m2 c2)∧w'.cell? ⟨w.heap.size+1,7,none⟩=some (.string b2)∧w'.cell? ⟨w.heap.size+1,8,none⟩=some (.int .i64 s2)) (go_keep)
  (first
    | (go_at_call 28;refine(N1.out _ hbd).mono ?_;rintro e w1 ⟨rfl,hb⟩;have C4:=hbd.trans (hb.mono hbd.size);have AG:=Qh (C3.out.below hb eT.out);have wD:=Qh (Hp.out.below hb iW.out);obtain⟨z0,z1,z2,z3,z4,z5,z6,z7,z8,zz⟩:=AG.out;obtain⟨t0,t1,t2,t3,t4,t5,t6,t7,t8,tz⟩:=wD.out;dsimp only at z0 z1 z2 z3 z4 z5 z6 z7 z8 t0 t1 t2 t3 t4 t5 t6 t7 t8)
    | (go_at_call 28;refine(N2.out _ hbd).mono ?_;rintro e w1 ⟨rfl,hb⟩;have C4:=hbd.trans (hb.mono hbd.size);have AG:=Qh (C3.out.below hb eT.out);have wD:=Qh (Hp.out.below hb iW.out);obtain⟨z0,z1,z2,z3,z4,z5,z6,z7,z8,zz⟩:=AG.out;obtain⟨t0,t1,t2,t3,t4,t5,t6,t7,t8,tz⟩:=wD.out;dsimp only at z0 z1 z2 z3 z4 z5 z6 z7 z8 t0 t1 t2 t3 t4 t5 t6 t7 t8)
    | (go_at_call 28;refine(N1.out _ C4).mono ?_;rintro e w2 ⟨rfl,a_⟩;have u_:=C4.trans (a_.mono C4.size);have bT:=Nat.lt_of_lt_of_le eT.out hb.size;have bX:=Nat.lt_of_lt_of_le iW.out hb.size;have wB:=Qh (AG.out.below a_ bT);have wC:=Qh (wD.out.below a_ bX);obtain⟨z0,z1,z2,z3,z4,z5,z6,z7,z8,zz⟩:=wB.out;obtain⟨t0,t1,t2,t3,t4,t5,t6,t7,t8,tz⟩:=wC.out;dsimp only at z0 z1 z2 z3 z4 z5 z6 z7 z8 t0 t1 t2 t3 t4 t5 t6 t7 t8)
    | (go_at_call 28;refine(N2.out _ C4).mono ?_;rintro e w2 ⟨rfl,a_⟩;have u_:=C4.trans (a_.mono C4.size);have bT:=Nat.lt_of_lt_of_le eT.out hb.size;have bX:=Nat.lt_of_lt_of_le iW.out hb.size;have wB:=Qh (AG.out.below a_ bT);have wC:=Qh (wD.out.below a_ bX);obtain⟨z0,z1,z2,z3,z4,z5,z6,z7,z8,zz⟩:=wB.out;obtain⟨t0,t1,t2,t3,t4,t5,t6,t7,t8,tz⟩:=wC.out;dsimp only at z0 z1 z2 z3 z4 z5 z6 z7 z8 t0 t1 t2 t3 t4 t5 t6 t7 t8))
 ·clear AG wD wB wC gF gG x0 x1 x2 x3 x4 x5 x6 x7 x8 xz y0 y1 y2 y3 y4 y5 y6 y7 y8 yz N1 N2
  cases va
  ·cases vb
   ·have HF:=Qh (show 0=res from qu.out);go_wp2_with fail;go_ret;exact⟨dH HF.out,by assumption⟩
   ·have HF:=Qh (show -1=res from qu.out);go_wp2_with fail;go_ret;exact⟨dH HF.out,by assumption⟩
  ·cases vb
   ·have HF:=Qh (show 1=res from qu.out);go_wp2_with fail;go_ret;exact⟨dH HF.out,by assumption⟩
   ·have HF:=Qh (show r=res from qu.out);have nY:=Qh (HC.out rfl rfl _ u_);clear HC;go_wp2_with fail;refine nY.out.mono ?_;rintro e w3 ⟨rfl,bN⟩;go_wp2_with fail;go_ret;exact⟨dH HF.out,u_.trans (bN.mono u_.size)⟩
theorem AP{n:Nat}(w:World)(B:Nat)(v1 v2:Value)(a b:Tm (n+1))(hB:B≤w.heap.size)(h1:ah w B n v1 a.items)(h2:ah w B n v2 b.items)(s1:300*(ap a:Int)≤1000000000000)(s2:300*(ap b:Int)≤1000000000000) :
 Calls Tryz.prog 54 #[aj a.f v1,aj b.f v2] w (aM (cM a b) w):=by
 have wJ:=fun W (hb:Qb w W)=>gA W B v1 a (Nat.le_trans hB hb.size) (h1.below hb hB) s1;have pS:=fun W (hb:Qb w W)=>gA W B v2 b (Nat.le_trans hB hb.size) (h2.below hb hB) s2;have hC:=fun f1 f2 W (hb:Qb w W)=>xO n W B v1 v2 a b (Nat.le_trans hB hb.size) (h1.below hb hB) (h2.below hb hB) (bR f1) (bR f2);obtain⟨p1,c1,rfl,_,_⟩:=h1.shape;obtain⟨p2,c2,rfl,_,_⟩:=h2.shape;exact FR a.f b.f p1 p2 _ c1 _ c2 (aC a) (aC b) _ w wJ pS hC
end tm
namespace tb
open Go.RowKit mem rec tm names
theorem gu.same{w w':World}{z:Nat}{f:TF}{v:Value}(h:w.heap[z]?=some (av f v))(hs:w'.heap[z]?=w.heap[z]?):gu w' z f v:=aW (hs.trans h)
theorem EE(fi fg:Int)(fn ff:ByteArray)(fa:Int)(fb:ByteArray)(fs:Int)(m:Nat):eE ⟨1,fi,fg,fn,ff,fa,fb,fs⟩ m=iP fi:=rfl
theorem EF(fi fg:Int)(fn ff:ByteArray)(fa:Int)(fb:ByteArray)(fs:Int)(m:Nat):eE ⟨2,fi,fg,fn,ff,fa,fb,fs⟩ m=cj fn:=rfl
theorem EG(fi fg:Int)(fn ff:ByteArray)(fa:Int)(fb:ByteArray)(fs:Int)(m:Nat):eE ⟨7,fi,fg,fn,ff,fa,fb,fs⟩ m=[104,byteOf m]:=rfl
theorem EH(fi fg:Int)(fn ff:ByteArray)(fa:Int)(fb:ByteArray)(fs:Int)(m:Nat):eE ⟨8,fi,fg,fn,ff,fa,fb,fs⟩ m=[106]:=rfl
theorem EI(fi fg:Int)(fn ff:ByteArray)(fa:Int)(fb:ByteArray)(fs:Int)(m:Nat):eE ⟨9,fi,fg,fn,ff,fa,fb,fs⟩ m=[108]++bO ((m:Int)-1) 4:=rfl
theorem AQ(fi fg:Int)(fn ff:ByteArray)(fa:Int)(fb:ByteArray)(fs:Int)(m:Nat)(h:fs.tmod 8=0):eE ⟨10,fi,fg,fn,ff,fa,fb,fs⟩ m=[109]++(bO fb.size 4++kx fb):=by
 show xB _=_;unfold xB;rw[if_pos h];rfl
theorem xP(fi fg:Int)(fn ff:ByteArray)(fa:Int)(fb:ByteArray)(fs:Int)(m:Nat)(h:¬fs.tmod 8=0):eE ⟨10,fi,fg,fn,ff,fa,fb,fs⟩ m=[77]++(bO fb.size 4++([byteOf (fs.tmod 8)]++kx fb)):=by
 show xB _=_;unfold xB;rw[if_neg h];rfl
theorem EJ(fi fg:Int)(fn ff:ByteArray)(fa:Int)(fb:ByteArray)(fs:Int)(m:Nat):eE ⟨6,fi,fg,fn,ff,fa,fb,fs⟩ m=[88]++(cj fn++(bO fi 4++(bO 0 4++bO fg 4))):=rfl
theorem EK(fi fg:Int)(fn ff:ByteArray)(fa:Int)(fb:ByteArray)(fs:Int)(m:Nat):eE ⟨3,fi,fg,fn,ff,fa,fb,fs⟩ m=[90,0,1]++(cj fn++(bO fg 4++bO fi 4)):=rfl
theorem EL(fi fg:Int)(fn ff:ByteArray)(fa:Int)(fb:ByteArray)(fs:Int)(m:Nat):eE ⟨5,fi,fg,fn,ff,fa,fb,fs⟩ m=[113]++(cj fn++(cj ff++iP fa)):=rfl
theorem EM(fi fg:Int)(fn ff:ByteArray)(fa:Int)(fb:ByteArray)(fs:Int)(m:Nat):eE ⟨4,fi,fg,fn,ff,fa,fb,fs⟩ m=[112,byteOf fa]++(bO fi 2++([byteOf m]++(cj fn++bO fg 4))):=rfl
def Sk(B b:Nat)(v:Value)(l:List UInt8)(f:TF)(vt:Value)(m z:Nat)(W1 wc:World):Prop:=wE B b v (l++eE f m) W1 wc∧wc.heap[z]?=some (av f vt)
def EN(n:Nat):Prop:=∀(w:World) (B b:Nat) (v:Value) (l:List UInt8) (vt:Value) (t:Tm (n+1)),jh w B b v l→B≤w.heap.size→ah w B n vt t.items→aJ t=true→l.length+3000*ap t≤900000000 →
 Calls Tryz.prog 78 #[.pointer (some ⟨b,0,none⟩),aj t.f vt] w fun e w'=>e=.returned (.tuple #[])∧wE B b v (l++gy t) w w'
def M0{n:Nat}(B b:Nat)(v:Value)(l:List UInt8)(items:List (Tm n))(W1:World)(m:Nat)(iv:Value)(wr:World):Prop:=∃i:Nat,iv=.int .i64 (i:Int)∧i≤items.length∧m=items.length-i∧wE B b v (l++iQ n (items.take i)) W1 wr
theorem kY:∀(n:Nat) (l:List (Tm n)),bp n l=true→(iQ n l).length≤3000*aP n l:=by
 intro n
 induction n with
 | zero=>intro l _;rw[Tm.js l];simp[iQ]
 | succ n ih =>
  intro l hf
  induction l with
  | nil=>simp[iQ]
  | cons t l ih2 =>
   rw[nl,Bool.and_eq_true]at hf;rw[FG,jT,List.length_append];have h1:=ih2 hf.2;have h2:=jB hf.1;have h3:=ih t.items (dg hf.1);unfold gy ap;rw[List.length_append];omega
theorem tG{n:Nat}{l:List (Tm n)}(h:bp n l=true)(k:Nat):bp n (l.take k)=true:=by
 cases n with
 | zero=>rfl
 | succ n =>
  unfold bp at h ⊢;rw[List.all_eq_true]at h ⊢;exact fun x hx=>h x (List.mem_of_mem_take hx)
theorem Og{n:Nat}(ih:∀m,n=m+1→EN m){w:World}{B b:Nat}{v:Value}{l:List UInt8}{p:Option Addr}{len c:Nat}{items:List (Tm n)}(hw:jh w B b v l)(hB:B≤w.heap.size)(hI:ah w B n (.slice p len c) items)(hf:bp n items=true)(i:Nat)(hi:i<items.length)(hs:l.length+3000*aP n items≤900000000+3000*aP n (items.take i)) :
 ∃g o x q m d bs,p=some ⟨g,o,none⟩∧g<B∧Cells w g (o+i*9) x (.slice q m d)∧iQ n (items.take (i+1))=iQ n (items.take i)++bs∧∀W,Below w.heap.size w W→Calls Tryz.prog 78 #[.pointer (some ⟨b,0,none⟩),aj x (.slice q m d)] W fun e w'=>e=.returned (.tuple #[])∧wE B b v (l++bs) W w':=by
 cases n with
 | zero=>rw[Tm.js items]at hi;exact absurd hi (by simp)
 | succ n =>
  obtain⟨g,o,d,e,_,_,hg,hx⟩:=hI.at_ (by intro e;subst e;simp at hi);obtain⟨u,hC,hJ⟩:=hx i hi;simp only[Value.slice.injEq]at e;obtain⟨q,c',rfl,_,_⟩:=hJ.shape;have hn:=iK hi;refine⟨g,o,items[i].f,q,_,c',gy items[i],e.1,hg,hC,xC items i hi,fun W hb=>?_⟩;exact ih n rfl W B b v l _ items[i] (hw.below hb) (Nat.le_trans hB hb.size) (hJ.below hb hB) (kL hf i hi) (by omega)
theorem AR{n:Nat}(ih:∀m,n=m+1→EN m):EN n:=by
 intro w B b v l vt t h hB hI hf hn;have C8:ap t=1+aP n t.items:=rfl;have ry:=Qh (jB hf);have hft:=dg hf;obtain⟨k1,k2,_,_⟩:=p8 hf;have hk:=yP hf;have h2:t.f.kind=9→2≤t.items.length:=fun e=>(jb hf e).1;obtain⟨p,c,rfl,_,_⟩:=hI.shape;have AU:gy t=eE t.f t.items.length++iQ n t.items:=rfl;rw[AU];clear AU hf k1 k2;have H9:=Qh (fun W (hW:Below B w W)=>hI.below hW (Nat.le_refl _));have hlen:=iJ n t.items;generalize Oh:t.items=items,t.f=f at*;obtain⟨fk,fi,fg,fn,ff,fa,fb,fs⟩:=f;unfold aj;dsimp only at hk h2 ry ⊢
 have hb0:=aG (Below.refl w.heap.size w) (av ⟨fk,fi,fg,fn,ff,fa,fb,fs⟩ (.slice p items.length c)) (Nat.le_refl _);have HZ:=Qh (aF w (av ⟨fk,fi,fg,fn,ff,fa,fb,fs⟩ (.slice p items.length c)));have H1:=Qh (h.below hb0);have sG:=Qh hb0;have dU:Hid (B≤w.heap.size∧(w.alloc (av ⟨fk,fi,fg,fn,ff,fa,fb,fs⟩ (.slice p items.length c))).heap.size=w.heap.size+1):=Qh ⟨hB,by rw[World.size_alloc]⟩;have Q7:Hid (w.heap.size≠b∧v.ownBlock≠some w.heap.size∧∀k,v.ownBlock=some k→B≤k):=Qh ⟨by have:=h.lt;omega,fun e=>by have:=(h.row.lt e).2;omega,fun k hk=>(h.row.lt hk).1⟩
 have ny:Hid (l.length+3000*(1+aP n items)≤900000000):=Qh (by omega);have Sl:=Qh hft;have KW:=Qh h2;have Sm:=Qh hI;have C9:Hid (items.length≤1000000):=Qh (by omega);unfold av at HZ sG H1 dU;dsimp only at HZ sG H1 dU;clear hb0 h hB hI hn C8 hlen h2 hft Oh;go_enter Tryz.func78,Tryz.ntmps78;go_upto_region 1 with(fail);generalize Lc:(w.alloc (.cells (a9 fk fi fg fn ff fa (.slice p items.length c) fb fs) 24))=W1 at*;clear Lc;generalize hz:w.heap.size=z at*;have M3:=Qh hz;clear hz
 have HX:=Qh (fun(W':World) (v':Value) (hs:jR b v v' W1 W')=>(aW ((hs.other (by have:=dU.out.2;omega) Q7.out.1 Q7.out.2.1).trans HZ.out):gu W' z ⟨fk,fi,fg,fn,ff,fa,fb,fs⟩ (.slice p items.length c)));have GO:=Qh (fun(W':World) (v':Value) (hs:jR b v v' W1 W')=>((hs.other (by have:=dU.out.2;omega) Q7.out.1 Q7.out.2.1).trans HZ.out));obtain⟨x0,x1,x2,x3,x4,x5,x6,x7,x8,xf⟩:=HX.out W1 v (jR.refl _ _ _);dsimp only at x0 x1 x2 x3 x4 x5 x6 x7 x8;go_upto_block 0 with(fail)
 go_cut [] from 6 (fun wc=>Hid (Sk B b v l ⟨fk,fi,fg,fn,ff,fa,fb,fs⟩ (.slice p items.length c) items.length z W1 wc))
 case first=>
  have hks:fk=1∨fk=2∨fk=7∨fk=8∨fk=9∨fk=10∨fk=6∨fk=3∨fk=5∨fk=4:=by omega
  clear hk;have gT:Hid (B≤W1.heap.size):=Qh (by have:=dU.out;omega)
  rcases hks with rfl|rfl|rfl|rfl|rfl|rfl|rfl|rfl|rfl|rfl
  ·have hE:=EE fi fg fn ff fa fb fs items.length;have hL:=ry.out;rw[hE]at hL;(try simp only[Qn]at hL)
   have HL:Hid _:=Qh hL;have HE:=Qh hE;clear hL hE;have hq:=xJ H1.out gT.out fi (by have:=HL.out;have:=ny.out;(try simp only[Qn]);omega);have HQ:=Qh hq;clear hq;go_wp2_with fail;refine HQ.out.mono ?_;rintro e w1 ⟨rfl,v1,h1,hs1⟩;clear x0 x1 x2 x3 x4 x5 x6 x7 x8 xf HQ;have wR:=Qh h1;have dl:Hid (jR b v v1 W1 w1):=Qh hs1;clear h1 hs1;obtain⟨x0,x1,x2,x3,x4,x5,x6,x7,x8,xf⟩:=HX.out w1 v1 dl.out;dsimp only at x0 x1 x2 x3 x4 x5 x6 x7 x8;go_wp2_with fail;go_meet;case rel=>
    refine Qh ⟨⟨v1,?_,dl.out⟩,GO.out _ _ dl.out⟩;rw[HE.out];have h5:=wR.out;(try simp only[List.append_assoc]at h5)
    exact h5
  ·have hE:=EF fi fg fn ff fa fb fs items.length;have hL:=ry.out;rw[hE]at hL;(try simp only[Qn]at hL)
   have HL:Hid _:=Qh hL;have HE:=Qh hE;clear hL hE;have hq:=pJ H1.out gT.out fn (by have:=HL.out;have:=ny.out;(try simp only[Qn]);omega);have HQ:=Qh hq;clear hq;go_wp2_with fail;refine HQ.out.mono ?_;rintro e w1 ⟨rfl,v1,h1,hs1⟩;clear x0 x1 x2 x3 x4 x5 x6 x7 x8 xf HQ;have wR:=Qh h1;have dl:Hid (jR b v v1 W1 w1):=Qh hs1;clear h1 hs1;obtain⟨x0,x1,x2,x3,x4,x5,x6,x7,x8,xf⟩:=HX.out w1 v1 dl.out;dsimp only at x0 x1 x2 x3 x4 x5 x6 x7 x8;go_wp2_with fail;go_meet;case rel=>
    refine Qh ⟨⟨v1,?_,dl.out⟩,GO.out _ _ dl.out⟩;rw[HE.out];have h5:=wR.out;(try simp only[List.append_assoc]at h5)
    exact h5
  ·have hE:=EG fi fg fn ff fa fb fs items.length;have hL:=ry.out;rw[hE]at hL;(try simp only[Qn]at hL)
   have HL:Hid _:=Qh hL;have HE:=Qh hE;clear hL hE;have hq:=fO H1.out gT.out [104,byteOf items.length] 2 rfl (by have:=HL.out;have:=ny.out;(try simp only[Qn]);omega);have e:(([104,byteOf items.length]:List UInt8).flatMap bw).toArray=#[.int .u8 104,.int .u8 ((items.length:Int)%256)]:=by rw[←bF];rfl
   rw[e]at hq;clear e;have HQ:=Qh hq;clear hq;go_wp2_with fail;refine HQ.out.mono ?_;rintro e w1 ⟨rfl,v1,h1,hs1⟩;clear x0 x1 x2 x3 x4 x5 x6 x7 x8 xf HQ;have wR:=Qh h1;have dl:Hid (jR b v v1 W1 w1):=Qh hs1;clear h1 hs1;obtain⟨x0,x1,x2,x3,x4,x5,x6,x7,x8,xf⟩:=HX.out w1 v1 dl.out;dsimp only at x0 x1 x2 x3 x4 x5 x6 x7 x8;go_wp2_with fail;go_meet;case rel=>
    refine Qh ⟨⟨v1,?_,dl.out⟩,GO.out _ _ dl.out⟩;rw[HE.out];have h5:=wR.out;(try simp only[List.append_assoc]at h5)
    exact h5
  ·have hE:=EH fi fg fn ff fa fb fs items.length;have hL:=ry.out;rw[hE]at hL;(try simp only[Qn]at hL)
   have HL:Hid _:=Qh hL;have HE:=Qh hE;clear hL hE;have hq:=fO H1.out gT.out [106] 1 rfl (by have:=HL.out;have:=ny.out;(try simp only[Qn]);omega);have e:(([106]:List UInt8).flatMap bw).toArray=#[.int .u8 106]:=by rfl
   rw[e]at hq;clear e;have HQ:=Qh hq;clear hq;go_wp2_with fail;refine HQ.out.mono ?_;rintro e w1 ⟨rfl,v1,h1,hs1⟩;clear x0 x1 x2 x3 x4 x5 x6 x7 x8 xf HQ;have wR:=Qh h1;have dl:Hid (jR b v v1 W1 w1):=Qh hs1;clear h1 hs1;obtain⟨x0,x1,x2,x3,x4,x5,x6,x7,x8,xf⟩:=HX.out w1 v1 dl.out;dsimp only at x0 x1 x2 x3 x4 x5 x6 x7 x8;go_wp2_with fail;go_meet;case rel=>
    refine Qh ⟨⟨v1,?_,dl.out⟩,GO.out _ _ dl.out⟩;rw[HE.out];have h5:=wR.out;(try simp only[List.append_assoc]at h5)
    exact h5
  ·have YG:IntKind.i64.wrap ((items.length:Int)-1)=(items.length:Int)-1:=IntWalk.i64_in _ (by have:=C9.out;omega);have hE:=EI fi fg fn ff fa fb fs items.length;have hL:=ry.out;rw[hE]at hL;(try simp only[Qn]at hL)
   have HL:Hid _:=Qh hL;have HE:=Qh hE;clear hL hE;have hq:=fO H1.out gT.out [108] 1 rfl (by have:=HL.out;have:=ny.out;(try simp only[Qn]);omega);have e:(([108]:List UInt8).flatMap bw).toArray=#[.int .u8 108]:=by rfl
   rw[e]at hq;clear e;have HQ:=Qh hq;clear hq;go_wp2_with fail;refine HQ.out.mono ?_;rintro e w1 ⟨rfl,v1,h1,hs1⟩;clear x0 x1 x2 x3 x4 x5 x6 x7 x8 xf HQ;have wR:=Qh h1;have dl:Hid (jR b v v1 W1 w1):=Qh hs1;clear h1 hs1;obtain⟨x0,x1,x2,x3,x4,x5,x6,x7,x8,xf⟩:=HX.out w1 v1 dl.out;dsimp only at x0 x1 x2 x3 x4 x5 x6 x7 x8;have hq:=fj wR.out (Nat.le_trans gT.out dl.out.aX.size) ((items.length:Int)-1) 4 (by decide) (by have:=HL.out;have:=ny.out;(try simp only[Qn]);omega);have HQ:=Qh hq;clear hq;go_wp2_with fail;refine HQ.out.mono ?_;rintro e w2 ⟨rfl,v2,h2,iw⟩
   clear x0 x1 x2 x3 x4 x5 x6 x7 x8 xf HQ;have fP:=Qh h2;have dP:Hid (jR b v v2 W1 w2):=Qh (dl.out.trans iw);clear h2 iw;obtain⟨x0,x1,x2,x3,x4,x5,x6,x7,x8,xf⟩:=HX.out w2 v2 dP.out;dsimp only at x0 x1 x2 x3 x4 x5 x6 x7 x8;go_wp2_with fail;go_meet;case rel=>
    refine Qh ⟨⟨v2,?_,dP.out⟩,GO.out _ _ dP.out⟩;rw[HE.out];have h5:=fP.out;(try simp only[List.append_assoc]at h5)
    exact h5
  ·by_cases h8:fs.tmod 8=0
   ·have hE:=AQ fi fg fn ff fa fb fs items.length h8;have hL:=ry.out;rw[hE]at hL;(try simp only[Qn]at hL)
    have HL:Hid _:=Qh hL;have HE:=Qh hE;clear hL hE;have hq:=fO H1.out gT.out [109] 1 rfl (by have:=HL.out;have:=ny.out;(try simp only[Qn]);omega);have e:(([109]:List UInt8).flatMap bw).toArray=#[.int .u8 109]:=by rfl
    rw[e]at hq;clear e;have HQ:=Qh hq;clear hq;go_wp2_with fail;refine HQ.out.mono ?_;rintro e w1 ⟨rfl,v1,h1,hs1⟩;clear x0 x1 x2 x3 x4 x5 x6 x7 x8 xf HQ;have wR:=Qh h1;have dl:Hid (jR b v v1 W1 w1):=Qh hs1;clear h1 hs1;obtain⟨x0,x1,x2,x3,x4,x5,x6,x7,x8,xf⟩:=HX.out w1 v1 dl.out;dsimp only at x0 x1 x2 x3 x4 x5 x6 x7 x8;have hq:=fj wR.out (Nat.le_trans gT.out dl.out.aX.size) fb.size 4 (by decide) (by have:=HL.out;have:=ny.out;(try simp only[Qn]);omega);have HQ:=Qh hq;clear hq;go_wp2_with fail;refine HQ.out.mono ?_;rintro e w2 ⟨rfl,v2,h2,iw⟩
    clear x0 x1 x2 x3 x4 x5 x6 x7 x8 xf HQ;have fP:=Qh h2;have dP:Hid (jR b v v2 W1 w2):=Qh (dl.out.trans iw);clear h2 iw;obtain⟨x0,x1,x2,x3,x4,x5,x6,x7,x8,xf⟩:=HX.out w2 v2 dP.out;dsimp only at x0 x1 x2 x3 x4 x5 x6 x7 x8;have hq:=mD fP.out (Nat.le_trans gT.out dP.out.aX.size) fb (by have:=HL.out;have:=ny.out;(try simp only[Qn]);omega);have HQ:=Qh hq;clear hq;have Wp:=Qh (mD (jh.same fP.out (w':=w2.drew) rfl (fun _ _=>rfl)) (Nat.le_trans gT.out dP.out.aX.size) fb (by have:=HL.out;have:=ny.out;(try simp only[Qn]);omega));go_wp2_with fail
    go_region_held3 (fun w'=>w'.cell? ⟨z,7,none⟩=some (.string fb)) (go_keep)
     (first|(go_at_call 102;refine Wp.out.mono ?_;rintro e w3 ⟨rfl,v3,h3,rX⟩;obtain⟨x0,x1,x2,x3,x4,x5,x6,x7,x8,xf⟩:=HX.out w3 v3 (dP.out.trans (rX.grow (aZ (Below.refl w2.heap.size w2))));dsimp only at x0 x1 x2 x3 x4 x5 x6 x7 x8))
    all_goals
     go_wp2_with fail;go_meet;case rel=>
      refine Qh ⟨⟨v3,?_,dP.out.trans (rX.grow (aZ (Below.refl w2.heap.size w2)))⟩,GO.out _ _ (dP.out.trans (rX.grow (aZ (Below.refl w2.heap.size w2))))⟩;rw[HE.out];have h5:=h3;simp only[List.append_assoc]at h5;exact h5
   ·have hE:=xP fi fg fn ff fa fb fs items.length h8;have hL:=ry.out;rw[hE]at hL;(try simp only[Qn]at hL)
    have HL:Hid _:=Qh hL;have HE:=Qh hE;clear hL hE;have hq:=fO H1.out gT.out [77] 1 rfl (by have:=HL.out;have:=ny.out;(try simp only[Qn]);omega);have e:(([77]:List UInt8).flatMap bw).toArray=#[.int .u8 77]:=by rfl
    rw[e]at hq;clear e;have HQ:=Qh hq;clear hq;go_wp2_with fail;refine HQ.out.mono ?_;rintro e w1 ⟨rfl,v1,h1,hs1⟩;clear x0 x1 x2 x3 x4 x5 x6 x7 x8 xf HQ;have wR:=Qh h1;have dl:Hid (jR b v v1 W1 w1):=Qh hs1;clear h1 hs1;obtain⟨x0,x1,x2,x3,x4,x5,x6,x7,x8,xf⟩:=HX.out w1 v1 dl.out;dsimp only at x0 x1 x2 x3 x4 x5 x6 x7 x8;have hq:=fj wR.out (Nat.le_trans gT.out dl.out.aX.size) fb.size 4 (by decide) (by have:=HL.out;have:=ny.out;(try simp only[Qn]);omega);have HQ:=Qh hq;clear hq;go_wp2_with fail;refine HQ.out.mono ?_;rintro e w2 ⟨rfl,v2,h2,iw⟩
    clear x0 x1 x2 x3 x4 x5 x6 x7 x8 xf HQ;have fP:=Qh h2;have dP:Hid (jR b v v2 W1 w2):=Qh (dl.out.trans iw);clear h2 iw;obtain⟨x0,x1,x2,x3,x4,x5,x6,x7,x8,xf⟩:=HX.out w2 v2 dP.out;dsimp only at x0 x1 x2 x3 x4 x5 x6 x7 x8;have hq:=fO fP.out (Nat.le_trans gT.out dP.out.aX.size) [byteOf (fs.tmod 8)] 1 rfl (by have:=HL.out;have:=ny.out;(try simp only[Qn]);omega);have e:(([byteOf (fs.tmod 8)]:List UInt8).flatMap bw).toArray=#[.int .u8 (fs.tmod 8%256)]:=by rw[←bF];rfl
    rw[e]at hq;clear e;have HQ:=Qh hq;clear hq;go_wp2_with fail;refine HQ.out.mono ?_;rintro e w3 ⟨rfl,v3,h3,rX⟩;clear x0 x1 x2 x3 x4 x5 x6 x7 x8 xf HQ;have mH:=Qh h3;have py:Hid (jR b v v3 W1 w3):=Qh (dP.out.trans rX);clear h3 rX;obtain⟨x0,x1,x2,x3,x4,x5,x6,x7,x8,xf⟩:=HX.out w3 v3 py.out;dsimp only at x0 x1 x2 x3 x4 x5 x6 x7 x8;have hq:=mD mH.out (Nat.le_trans gT.out py.out.aX.size) fb (by have:=HL.out;have:=ny.out;(try simp only[Qn]);omega);have HQ:=Qh hq;clear hq
    have Wp:=Qh (mD (jh.same mH.out (w':=w3.drew) rfl (fun _ _=>rfl)) (Nat.le_trans gT.out py.out.aX.size) fb (by have:=HL.out;have:=ny.out;(try simp only[Qn]);omega));go_wp2_with fail
    go_region_held3 (fun w'=>w'.cell? ⟨z,7,none⟩=some (.string fb)) (go_keep)
     (first|(go_at_call 102;refine Wp.out.mono ?_;rintro e w4 ⟨rfl,v4,h4,sH⟩;obtain⟨x0,x1,x2,x3,x4,x5,x6,x7,x8,xf⟩:=HX.out w4 v4 (py.out.trans (sH.grow (aZ (Below.refl w3.heap.size w3))));dsimp only at x0 x1 x2 x3 x4 x5 x6 x7 x8))
    all_goals
     go_wp2_with fail;go_meet;case rel=>
      refine Qh ⟨⟨v4,?_,py.out.trans (sH.grow (aZ (Below.refl w3.heap.size w3)))⟩,GO.out _ _ (py.out.trans (sH.grow (aZ (Below.refl w3.heap.size w3))))⟩;rw[HE.out];have h5:=h4;simp only[List.append_assoc]at h5;exact h5
  ·have hE:=EJ fi fg fn ff fa fb fs items.length;have hL:=ry.out;rw[hE]at hL;(try simp only[Qn]at hL)
   have HL:Hid _:=Qh hL;have HE:=Qh hE;clear hL hE;have hq:=fO H1.out gT.out [88] 1 rfl (by have:=HL.out;have:=ny.out;(try simp only[Qn]);omega);have e:(([88]:List UInt8).flatMap bw).toArray=#[.int .u8 88]:=by rfl
   rw[e]at hq;clear e;have HQ:=Qh hq;clear hq;go_wp2_with fail;refine HQ.out.mono ?_;rintro e w1 ⟨rfl,v1,h1,hs1⟩;clear x0 x1 x2 x3 x4 x5 x6 x7 x8 xf HQ;have wR:=Qh h1;have dl:Hid (jR b v v1 W1 w1):=Qh hs1;clear h1 hs1;obtain⟨x0,x1,x2,x3,x4,x5,x6,x7,x8,xf⟩:=HX.out w1 v1 dl.out;dsimp only at x0 x1 x2 x3 x4 x5 x6 x7 x8;have hq:=pJ wR.out (Nat.le_trans gT.out dl.out.aX.size) fn (by have:=HL.out;have:=ny.out;(try simp only[Qn]);omega);have HQ:=Qh hq;clear hq;go_wp2_with fail;refine HQ.out.mono ?_;rintro e w2 ⟨rfl,v2,h2,iw⟩;clear x0 x1 x2 x3 x4 x5 x6 x7 x8 xf HQ;have fP:=Qh h2
   have dP:Hid (jR b v v2 W1 w2):=Qh (dl.out.trans iw);clear h2 iw;obtain⟨x0,x1,x2,x3,x4,x5,x6,x7,x8,xf⟩:=HX.out w2 v2 dP.out;dsimp only at x0 x1 x2 x3 x4 x5 x6 x7 x8;have hq:=fj fP.out (Nat.le_trans gT.out dP.out.aX.size) fi 4 (by decide) (by have:=HL.out;have:=ny.out;(try simp only[Qn]);omega);have HQ:=Qh hq;clear hq;go_wp2_with fail;refine HQ.out.mono ?_;rintro e w3 ⟨rfl,v3,h3,rX⟩;clear x0 x1 x2 x3 x4 x5 x6 x7 x8 xf HQ;have mH:=Qh h3;have py:Hid (jR b v v3 W1 w3):=Qh (dP.out.trans rX);clear h3 rX;obtain⟨x0,x1,x2,x3,x4,x5,x6,x7,x8,xf⟩:=HX.out w3 v3 py.out
   dsimp only at x0 x1 x2 x3 x4 x5 x6 x7 x8;have hq:=fj mH.out (Nat.le_trans gT.out py.out.aX.size) 0 4 (by decide) (by have:=HL.out;have:=ny.out;(try simp only[Qn]);omega);have HQ:=Qh hq;clear hq;go_wp2_with fail;refine HQ.out.mono ?_;rintro e w4 ⟨rfl,v4,h4,sH⟩;clear x0 x1 x2 x3 x4 x5 x6 x7 x8 xf HQ;have Km:=Qh h4;have yQ:Hid (jR b v v4 W1 w4):=Qh (py.out.trans sH);clear h4 sH;obtain⟨x0,x1,x2,x3,x4,x5,x6,x7,x8,xf⟩:=HX.out w4 v4 yQ.out;dsimp only at x0 x1 x2 x3 x4 x5 x6 x7 x8
   have hq:=fj Km.out (Nat.le_trans gT.out yQ.out.aX.size) fg 4 (by decide) (by have:=HL.out;have:=ny.out;(try simp only[Qn]);omega);have HQ:=Qh hq;clear hq;go_wp2_with fail;refine HQ.out.mono ?_;rintro e w5 ⟨rfl,v5,h5,M4⟩;clear x0 x1 x2 x3 x4 x5 x6 x7 x8 xf HQ;have Wq:=Qh h5;have Oi:Hid (jR b v v5 W1 w5):=Qh (yQ.out.trans M4);clear h5 M4;obtain⟨x0,x1,x2,x3,x4,x5,x6,x7,x8,xf⟩:=HX.out w5 v5 Oi.out;dsimp only at x0 x1 x2 x3 x4 x5 x6 x7 x8;go_wp2_with fail;go_meet;case rel=>
    refine Qh ⟨⟨v5,?_,Oi.out⟩,GO.out _ _ Oi.out⟩;rw[HE.out];have h5:=Wq.out;(try simp only[List.append_assoc]at h5)
    exact h5
  ·have hE:=EK fi fg fn ff fa fb fs items.length;have hL:=ry.out;rw[hE]at hL;(try simp only[Qn]at hL)
   have HL:Hid _:=Qh hL;have HE:=Qh hE;clear hL hE;have hq:=fO H1.out gT.out [90,0,1] 3 rfl (by have:=HL.out;have:=ny.out;(try simp only[Qn]);omega);have e:(([90,0,1]:List UInt8).flatMap bw).toArray=#[.int .u8 90,.int .u8 0,.int .u8 1]:=by rfl
   rw[e]at hq;clear e;have HQ:=Qh hq;clear hq;go_wp2_with fail;refine HQ.out.mono ?_;rintro e w1 ⟨rfl,v1,h1,hs1⟩;clear x0 x1 x2 x3 x4 x5 x6 x7 x8 xf HQ;have wR:=Qh h1;have dl:Hid (jR b v v1 W1 w1):=Qh hs1;clear h1 hs1;obtain⟨x0,x1,x2,x3,x4,x5,x6,x7,x8,xf⟩:=HX.out w1 v1 dl.out;dsimp only at x0 x1 x2 x3 x4 x5 x6 x7 x8;have hq:=pJ wR.out (Nat.le_trans gT.out dl.out.aX.size) fn (by have:=HL.out;have:=ny.out;(try simp only[Qn]);omega);have HQ:=Qh hq;clear hq;go_wp2_with fail;refine HQ.out.mono ?_;rintro e w2 ⟨rfl,v2,h2,iw⟩;clear x0 x1 x2 x3 x4 x5 x6 x7 x8 xf HQ;have fP:=Qh h2
   have dP:Hid (jR b v v2 W1 w2):=Qh (dl.out.trans iw);clear h2 iw;obtain⟨x0,x1,x2,x3,x4,x5,x6,x7,x8,xf⟩:=HX.out w2 v2 dP.out;dsimp only at x0 x1 x2 x3 x4 x5 x6 x7 x8;have hq:=fj fP.out (Nat.le_trans gT.out dP.out.aX.size) fg 4 (by decide) (by have:=HL.out;have:=ny.out;(try simp only[Qn]);omega);have HQ:=Qh hq;clear hq;go_wp2_with fail;refine HQ.out.mono ?_;rintro e w3 ⟨rfl,v3,h3,rX⟩;clear x0 x1 x2 x3 x4 x5 x6 x7 x8 xf HQ;have mH:=Qh h3;have py:Hid (jR b v v3 W1 w3):=Qh (dP.out.trans rX);clear h3 rX;obtain⟨x0,x1,x2,x3,x4,x5,x6,x7,x8,xf⟩:=HX.out w3 v3 py.out
   dsimp only at x0 x1 x2 x3 x4 x5 x6 x7 x8;have hq:=fj mH.out (Nat.le_trans gT.out py.out.aX.size) fi 4 (by decide) (by have:=HL.out;have:=ny.out;(try simp only[Qn]);omega);have HQ:=Qh hq;clear hq;go_wp2_with fail;refine HQ.out.mono ?_;rintro e w4 ⟨rfl,v4,h4,sH⟩;clear x0 x1 x2 x3 x4 x5 x6 x7 x8 xf HQ;have Km:=Qh h4;have yQ:Hid (jR b v v4 W1 w4):=Qh (py.out.trans sH);clear h4 sH;obtain⟨x0,x1,x2,x3,x4,x5,x6,x7,x8,xf⟩:=HX.out w4 v4 yQ.out;dsimp only at x0 x1 x2 x3 x4 x5 x6 x7 x8;go_wp2_with fail;go_meet;case rel=>
    refine Qh ⟨⟨v4,?_,yQ.out⟩,GO.out _ _ yQ.out⟩;rw[HE.out];have h5:=Km.out;(try simp only[List.append_assoc]at h5)
    exact h5
  ·have hE:=EL fi fg fn ff fa fb fs items.length;have hL:=ry.out;rw[hE]at hL;(try simp only[Qn]at hL)
   have HL:Hid _:=Qh hL;have HE:=Qh hE;clear hL hE;have hq:=fO H1.out gT.out [113] 1 rfl (by have:=HL.out;have:=ny.out;(try simp only[Qn]);omega);have e:(([113]:List UInt8).flatMap bw).toArray=#[.int .u8 113]:=by rfl
   rw[e]at hq;clear e;have HQ:=Qh hq;clear hq;go_wp2_with fail;refine HQ.out.mono ?_;rintro e w1 ⟨rfl,v1,h1,hs1⟩;clear x0 x1 x2 x3 x4 x5 x6 x7 x8 xf HQ;have wR:=Qh h1;have dl:Hid (jR b v v1 W1 w1):=Qh hs1;clear h1 hs1;obtain⟨x0,x1,x2,x3,x4,x5,x6,x7,x8,xf⟩:=HX.out w1 v1 dl.out;dsimp only at x0 x1 x2 x3 x4 x5 x6 x7 x8;have hq:=pJ wR.out (Nat.le_trans gT.out dl.out.aX.size) fn (by have:=HL.out;have:=ny.out;(try simp only[Qn]);omega);have HQ:=Qh hq;clear hq;go_wp2_with fail;refine HQ.out.mono ?_;rintro e w2 ⟨rfl,v2,h2,iw⟩;clear x0 x1 x2 x3 x4 x5 x6 x7 x8 xf HQ;have fP:=Qh h2
   have dP:Hid (jR b v v2 W1 w2):=Qh (dl.out.trans iw);clear h2 iw;obtain⟨x0,x1,x2,x3,x4,x5,x6,x7,x8,xf⟩:=HX.out w2 v2 dP.out;dsimp only at x0 x1 x2 x3 x4 x5 x6 x7 x8;have hq:=pJ fP.out (Nat.le_trans gT.out dP.out.aX.size) ff (by have:=HL.out;have:=ny.out;(try simp only[Qn]);omega);have HQ:=Qh hq;clear hq;go_wp2_with fail;refine HQ.out.mono ?_;rintro e w3 ⟨rfl,v3,h3,rX⟩;clear x0 x1 x2 x3 x4 x5 x6 x7 x8 xf HQ;have mH:=Qh h3;have py:Hid (jR b v v3 W1 w3):=Qh (dP.out.trans rX);clear h3 rX;obtain⟨x0,x1,x2,x3,x4,x5,x6,x7,x8,xf⟩:=HX.out w3 v3 py.out
   dsimp only at x0 x1 x2 x3 x4 x5 x6 x7 x8;have hq:=xJ mH.out (Nat.le_trans gT.out py.out.aX.size) fa (by have:=HL.out;have:=ny.out;(try simp only[Qn]);omega);have HQ:=Qh hq;clear hq;go_wp2_with fail;refine HQ.out.mono ?_;rintro e w4 ⟨rfl,v4,h4,sH⟩;clear x0 x1 x2 x3 x4 x5 x6 x7 x8 xf HQ;have Km:=Qh h4;have yQ:Hid (jR b v v4 W1 w4):=Qh (py.out.trans sH);clear h4 sH;obtain⟨x0,x1,x2,x3,x4,x5,x6,x7,x8,xf⟩:=HX.out w4 v4 yQ.out;dsimp only at x0 x1 x2 x3 x4 x5 x6 x7 x8;go_wp2_with fail;go_meet;case rel=>
    refine Qh ⟨⟨v4,?_,yQ.out⟩,GO.out _ _ yQ.out⟩;rw[HE.out];have h5:=Km.out;(try simp only[List.append_assoc]at h5)
    exact h5
  ·have hE:=EM fi fg fn ff fa fb fs items.length;have hL:=ry.out;rw[hE]at hL;(try simp only[Qn]at hL)
   have HL:Hid _:=Qh hL;have HE:=Qh hE;clear hL hE;have hq:=fO H1.out gT.out [112,byteOf fa] 2 rfl (by have:=HL.out;have:=ny.out;(try simp only[Qn]);omega);have e:(([112,byteOf fa]:List UInt8).flatMap bw).toArray=#[.int .u8 112,.int .u8 (fa%256)]:=by rw[←bF];rfl
   rw[e]at hq;clear e;have HQ:=Qh hq;clear hq;go_wp2_with fail;refine HQ.out.mono ?_;rintro e w1 ⟨rfl,v1,h1,hs1⟩;clear x0 x1 x2 x3 x4 x5 x6 x7 x8 xf HQ;have wR:=Qh h1;have dl:Hid (jR b v v1 W1 w1):=Qh hs1;clear h1 hs1;obtain⟨x0,x1,x2,x3,x4,x5,x6,x7,x8,xf⟩:=HX.out w1 v1 dl.out;dsimp only at x0 x1 x2 x3 x4 x5 x6 x7 x8;have hq:=fj wR.out (Nat.le_trans gT.out dl.out.aX.size) fi 2 (by decide) (by have:=HL.out;have:=ny.out;(try simp only[Qn]);omega);have HQ:=Qh hq;clear hq;go_wp2_with fail;refine HQ.out.mono ?_;rintro e w2 ⟨rfl,v2,h2,iw⟩;clear x0 x1 x2 x3 x4 x5 x6 x7 x8 xf HQ
   have fP:=Qh h2;have dP:Hid (jR b v v2 W1 w2):=Qh (dl.out.trans iw);clear h2 iw;obtain⟨x0,x1,x2,x3,x4,x5,x6,x7,x8,xf⟩:=HX.out w2 v2 dP.out;dsimp only at x0 x1 x2 x3 x4 x5 x6 x7 x8;have hq:=fO fP.out (Nat.le_trans gT.out dP.out.aX.size) [byteOf items.length] 1 rfl (by have:=HL.out;have:=ny.out;(try simp only[Qn]);omega);have e:(([byteOf items.length]:List UInt8).flatMap bw).toArray=#[.int .u8 ((items.length:Int)%256)]:=by rw[←bF];rfl
   rw[e]at hq;clear e;have HQ:=Qh hq;clear hq;go_wp2_with fail;refine HQ.out.mono ?_;rintro e w3 ⟨rfl,v3,h3,rX⟩;clear x0 x1 x2 x3 x4 x5 x6 x7 x8 xf HQ;have mH:=Qh h3;have py:Hid (jR b v v3 W1 w3):=Qh (dP.out.trans rX);clear h3 rX;obtain⟨x0,x1,x2,x3,x4,x5,x6,x7,x8,xf⟩:=HX.out w3 v3 py.out;dsimp only at x0 x1 x2 x3 x4 x5 x6 x7 x8;have hq:=pJ mH.out (Nat.le_trans gT.out py.out.aX.size) fn (by have:=HL.out;have:=ny.out;(try simp only[Qn]);omega);have HQ:=Qh hq;clear hq;go_wp2_with fail;refine HQ.out.mono ?_;rintro e w4 ⟨rfl,v4,h4,sH⟩;clear x0 x1 x2 x3 x4 x5 x6 x7 x8 xf HQ
   have Km:=Qh h4;have yQ:Hid (jR b v v4 W1 w4):=Qh (py.out.trans sH);clear h4 sH;obtain⟨x0,x1,x2,x3,x4,x5,x6,x7,x8,xf⟩:=HX.out w4 v4 yQ.out;dsimp only at x0 x1 x2 x3 x4 x5 x6 x7 x8;have hq:=fj Km.out (Nat.le_trans gT.out yQ.out.aX.size) fg 4 (by decide) (by have:=HL.out;have:=ny.out;(try simp only[Qn]);omega);have HQ:=Qh hq;clear hq;go_wp2_with fail;refine HQ.out.mono ?_;rintro e w5 ⟨rfl,v5,h5,M4⟩;clear x0 x1 x2 x3 x4 x5 x6 x7 x8 xf HQ;have Wq:=Qh h5;have Oi:Hid (jR b v v5 W1 w5):=Qh (yQ.out.trans M4);clear h5 M4
   obtain⟨x0,x1,x2,x3,x4,x5,x6,x7,x8,xf⟩:=HX.out w5 v5 Oi.out;dsimp only at x0 x1 x2 x3 x4 x5 x6 x7 x8;go_wp2_with fail;go_meet;case rel=>
    refine Qh ⟨⟨v5,?_,Oi.out⟩,GO.out _ _ Oi.out⟩;rw[HE.out];have h5:=Wq.out;(try simp only[List.append_assoc]at h5)
    exact h5
 case rest=>
  obtain⟨⟨v1,h1,hs1⟩,bT⟩:=hcut.out;clear hcut x0 x1 x2 x3 x4 x5 x6 x7 x8 xf hk HX GO KW;have dl:=Qh hs1;obtain⟨x0,x1,x2,x3,x4,x5,x6,x7,x8,xf⟩:=aW bT;dsimp only at x0 x1 x2 x3 x4 x5 x6 x7 x8;have Wr:Hid ((l++eE ⟨fk,fi,fg,fn,ff,fa,fb,fs⟩ items.length).length+3000*aP n items≤900000000):=Qh (by rw[List.length_append];have:=ny.out;have:=ry.out;omega);have Ws:Hid (ah wc B n (.slice p items.length c) items):=Qh (H9.out _ ((sG.out.mono dU.out.1).trans (hs1.low h1.hb (fun k hk=>Q7.out.2.2 k hk) (by have:=dU.out;omega))));clear hs1 bT ry ny H9 Sm Q7
  have hbz:B≤wc.heap.size:=Nat.le_trans dU.out.1 (by have:=dl.out.aX.size;have:=dU.out.2;omega);have HQe:Hid (∀W',wE B b v1 (l++eE ⟨fk,fi,fg,fn,ff,fa,fb,fs⟩ items.length++iQ n items) wc W'→wE B b v (l++(eE ⟨fk,fi,fg,fn,ff,fa,fb,fs⟩ items.length++iQ n items)) w W'):=Qh (fun W' ⟨v2,h2,iw⟩=>⟨v2,by rw[←List.append_assoc];exact h2,(dl.out.trans iw).grow (by rw[M3.out];exact sG.out)⟩);generalize l++eE ⟨fk,fi,fg,fn,ff,fa,fb,fs⟩ items.length=l1 at*;have YI:=Qh h1
  have iL:Hid (M0 B b v1 l1 items wc items.length (.int .i64 0) wc):=Qh ⟨0,rfl,Nat.zero_le _,rfl,v1,by rw[List.take_zero,uZ,List.append_nil];exact h1,jR.refl _ _ _⟩;clear h1 dl;go_wp2_with fail;go_loopg [163] items.length (fun m iv wr=>Hid (M0 B b v1 l1 items wc m iv wr))
  case atStart=>exact iL
  case round=>
   obtain⟨i,rfl,hi,hm,v2,h2,iw⟩:=hrel.out;clear hrel iL;have HM:=Qh hm;have dP:=Qh iw;clear hm
   by_cases hlt:i<items.length
   ·have hlo:Below B wc wr:=iw.low YI.out.hb (fun k hk=>(YI.out.row.lt hk).1) hbz;have bX:B≤wr.heap.size:=Nat.le_trans hbz iw.aX.size;have hfl:bp n (items.take i)=true:=tG Sl.out i;have AU:=kY n (items.take i) hfl;obtain⟨g,o,x,q,mm,d,bs,rfl,hg,hC,CO,cT⟩:=Og ih h2 bX (Ws.out.below hlo (Nat.le_refl _)) Sl.out i hlt (by have:=Wr.out;rw[List.length_append];omega);have cL:=Qh cT;have N3:=Qh CO;have HHz:=Qh (Nat.lt_of_lt_of_le hg bX);clear cT CO AU hfl bX hg hlo h2;obtain⟨x0,x1,x2,x3,x4,x5,x6,x7,x8⟩:=hC
    obtain⟨y0,y1,y2,y3,y4,y5,y6,y7⟩:=x;dsimp only at x0 x1 x2 x3 x4 x5 x6 x7 x8;unfold aj at cL;dsimp only at cL;go_wp2_with fail;have aD:Qb wr (wr.alloc (.cells (a9 y0 y1 y2 y3 y4 y5 (.slice q mm d) y6 y7) 24)):=aG (Below.refl _ _) _ (Nat.le_refl _);refine(cL.out _ aD).mono ?_;rintro e w3 ⟨rfl,v3,h3,rX⟩;have py:Hid (jR b v2 v3 wr w3):=Qh (rX.grow aD);have mH:=Qh h3;clear aD rX h3 x0 x1 x2 x3 x4 x5 x6 x7 x8;have MS:=C9.out;go_wp2_with fail;go_roundg (items.length-(i+1))
    case measure=>have:=HM.out;omega
    case rel=>
     refine Qh ⟨i+1,by go_num,by omega,rfl,v3,?_,dP.out.trans py.out⟩;rw[N3.out,←List.append_assoc];exact mH.out
   ·obtain rfl:i=items.length:=by omega
    go_wp2_with fail;go_end0
    rw[List.take_length]at h2;exact⟨rfl,HQe.out _ ⟨v2,h2,dP.out⟩⟩
theorem Ld:∀n,EN n:=by
 intro n
 induction n with
 | zero=>exact AR (fun m h=>by omega)
 | succ n ih=>exact AR (fun m h=>by
  obtain rfl:n=m:=by omega
  exact ih)
theorem Oj:Tryz.prog.cellsOf 5=1:=by kernel_rfl
theorem H_{w:World}{B b:Nat}{v:Value}{l:List UInt8}(h:jh w B b v l)(h0:l≠[]):Calls Tryz.prog 79 #[.pointer (some ⟨b,0,none⟩)] w fun e w'=>e=.returned (.string ⟨l.toArray⟩)∧Below B w w':=by
 obtain⟨⟨p,_,hbk⟩,hown,_,_⟩:=h;have Sn:l.length≠0:=by simpa using h0
 obtain⟨g,cap,cur,rfl,mC,hg,hnc,gW,hcs,vA⟩:∃g cap cur,v=.slice (some ⟨g,0,none⟩) l.length cap∧B≤g∧w.heap[g]?=some (.cells cur 5 (0,0))∧l.length≤cap∧cap≤maxLen∧cur.size=cap*1∧cur.toList.take (l.length*1)=l.flatMap bw:=by
  rcases hown.2 with⟨_,hz⟩|⟨g,cap,cur,hv,r⟩
  ·exact absurd hz Sn
  ·exact⟨g,cap,cur,hv,r⟩
 have c1:w.drew.cell? ⟨b,1,none⟩=some (.slice (some ⟨g,0,none⟩) l.length cap):=(di (w:=w.drew) hbk).2.1
 have hSD:(Builtin.unsafeSliceData_ #[86] 141 #[.slice (some ⟨g,0,none⟩) l.length cap]).run Tryz.prog w.drew=.ok (.pointer (some ⟨g,0,none⟩)) w.drew :=
  Lib.run_unsafeSliceData_row _ _ _ _ _ _ (by omega)
 have hUS:(Builtin.unsafeString_ #[141,3] 9 #[.pointer (some ⟨g,0,none⟩),.int .i64 l.length]).run Tryz.prog w.drew=.ok (.string ⟨l.toArray⟩) (w.drew.freeze ⟨g,0,none⟩ l.length):=by
  refine Lib.run_unsafeString_row w.drew 141 3 9 5 Tryz.underlying141 Oj g cur.size (by have hg':w.drew.heap[g]?=some (.cells cur 5 (0,0)):=hg;simp[World.shape?,hg']) l h0 (by omega) (by unfold maxLen at gW;omega) ?_;intro j x hx;have:=World.ownsRow.cells (g:=g) hown rfl j (.int .u8 x.toNat) (by rw[pI];simp[Lib.byteCells,hx]);exact this
 clear hbk hown hcs vA hg;go_enter Tryz.func79,Tryz.ntmps79;go_wp2
 go_region
 all_goals (go_wp2;go_ret;exact⟨rfl,Lib.below_freeze (Below.drew (Below.refl B w)) (p:=⟨g,0,none⟩) mC _⟩)
theorem AV:∀(n:Nat) (l:List (Tm n)),bp n l=true→(aP n l:Int)≤cF n l:=by
 intro n
 induction n with
 | zero=>intro l _;rw[Tm.js l];simp[aP,cF]
 | succ n ih =>
  intro l hf
  induction l with
  | nil=>simp[aP,cF]
  | cons t l ih2 =>
   rw[nl,Bool.and_eq_true]at hf;rw[jT,tF];have h1:=ih2 hf.2;have h3:=ih t.items (dg hf.1);have h2:1≤gO t.f t.items.length:=(oI t (by unfold aJ at hf;rw[Bool.and_eq_true]at hf;exact hf.1.1)).1;unfold ap cD;omega
theorem lS{n:Nat}{t:Tm (n+1)}(h:aC t=true):ap t≤2000:=by
 unfold aC at h;rw[Bool.and_eq_true,decide_eq_true_eq]at h;have h1:=AV n t.items (dg h.1);have h2:1≤gO t.f t.items.length:=(oI t (by have h3:=h.1;unfold aJ at h3;rw[Bool.and_eq_true]at h3;exact h3.1)).1;have h3:=h.2;unfold cD at h3;unfold ap;omega
theorem Ok{n:Nat}(w:World)(B:Nat)(v:Value)(t:Tm (n+1))(hB:B≤w.heap.size)(hI:ah w B n v t.items)(hv:aC t=true) :
 Calls Tryz.prog 46 #[aj t.f v] w fun e w'=>e=.returned (.tuple #[.string ⟨(131::gy t).toArray⟩,.int .i64 0])∧Below w.heap.size w w':=by
 have C8:=lS hv;have HV:=Qh (fun W (hb:Qb w W)=>eN (jQ n) W B v t (Nat.le_trans hB hb.size) (hI.below hb hB) (by omega));rw[hv]at HV;have HT:=Qh (fun W b u l (hb:Qb w W) (hl:l.length≤100) (hW:jh W w.heap.size b u l)=>Ld n W w.heap.size b u l v t hW hb.size ((hI.below hb hB).more hB) (bR hv) (by omega));generalize gy t=bs at*;obtain⟨p,c,rfl,_,_⟩:=hI.shape;generalize t.items.length=m,t.f=f at*;clear hI hv C8 hB;obtain⟨fk,fi,fg,fn,ff,fa,fb,fs⟩:=f;unfold aj at*;dsimp only at HV HT ⊢
 have hb0:=aG (Below.refl w.heap.size w) (av ⟨fk,fi,fg,fn,ff,fa,fb,fs⟩ (.slice p m c)) (Nat.le_refl _);have HZ:=Qh (aF w (av ⟨fk,fi,fg,fn,ff,fa,fb,fs⟩ (.slice p m c)));have bT:=(Array.getElem?_eq_some_iff.1 HZ.out).1;have bu:=Qh hb0;have HX:=Qh (fun(W':World) (hs:W'.heap[w.heap.size]?=(w.alloc (av ⟨fk,fi,fg,fn,ff,fa,fb,fs⟩ (.slice p m c))).heap[w.heap.size]?)=>(aW (hs.trans HZ.out):gu W' w.heap.size ⟨fk,fi,fg,fn,ff,fa,fb,fs⟩ (.slice p m c)));have eT:=Qh bT;unfold av at HX bu HZ eT;dsimp only at HX bu HZ eT;clear hb0 bT
 go_enter Tryz.func46,Tryz.ntmps46;go_upto_region 1 with(fail);generalize(w.alloc (.cells (a9 fk fi fg fn ff fa (.slice p m c) fb fs) 24))=W1 at*;obtain⟨x0,x1,x2,x3,x4,x5,x6,x7,x8,xf⟩:=HX.out W1 rfl;dsimp only at x0 x1 x2 x3 x4 x5 x6 x7 x8;go_wp2_with fail;refine(HV.out _ bu.out).mono ?_;rintro e w2 ⟨rfl,a_⟩;have bS:=Qh (a_);have oJ:=Qh (bu.out.trans (a_.mono bu.out.size));clear a_ x0 x1 x2 x3 x4 x5 x6 x7 x8 xf;go_upto_region 4 with(fail)
 have td:jh (w2.alloc (.cells #[.pointer none,.slice none 0 0] 120)) w.heap.size w2.heap.size (.slice none 0 0) []:=⟨⟨_,.inl rfl,aF _ _⟩,aA.nil _ _ _,by simp[Value.ownBlock],oJ.out.size⟩;have bN:=aG oJ.out (.cells #[.pointer none,.slice none 0 0] 120) oJ.out.size;have fY:(w2.alloc (.cells #[.pointer none,.slice none 0 0] 120)).heap[w.heap.size]?=W1.heap[w.heap.size]?:=(Below.heap_alloc _ _ _ (Nat.lt_of_lt_of_le eT.out bS.out.size)).trans (bS.out.block _ eT.out)
 have hzl:w.heap.size<(w2.alloc (.cells #[.pointer none,.slice none 0 0] 120)).heap.size∧w.heap.size≠w2.heap.size:=by rw[World.size_alloc];have:=bS.out.size;have:=eT.out;exact⟨by omega,by omega⟩
 generalize(w2.alloc (.cells #[.pointer none,.slice none 0 0] 120))=w3,w2.heap.size=b at*;have hq:=fO td bN.size [131] 1 rfl (by simp);have e:(([131]:List UInt8).flatMap bw).toArray=#[.int .u8 131]:=rfl;rw[e]at hq;have HQ:=Qh hq;have dJ:=Qh bN;have Q4:=Qh fY;have M5:=Qh hzl;clear e hq bN fY hzl td;go_wp2_with fail;refine HQ.out.mono ?_;rintro e w4 ⟨rfl,v4,h4,sH⟩;obtain⟨x0,x1,x2,x3,x4,x5,x6,x7,x8,xf⟩:=HX.out w4 ((sH.other M5.out.1 M5.out.2 (by simp[Value.ownBlock])).trans Q4.out);dsimp only at x0 x1 x2 x3 x4 x5 x6 x7 x8
 have dS:Qb w w4:=dJ.out.trans (sH.low h4.hb (fun k hk=>by simp[Value.ownBlock]at hk) dJ.out.size);have HC:=Qh (HT.out w4 b v4 _ dS (by simp) h4);have lG:=Qh dS;have So:=Qh (fun k (hk:v4.ownBlock=some k)=>(h4.row.lt hk).1);clear dS h4 sH;go_wp2_with fail;refine HC.out.mono ?_;rintro e w5 ⟨rfl,v5,h5,M4⟩;have HS:=Qh (H_ h5 (by simp));have kZ:Hid (Qb w w5):=Qh (lG.out.trans (M4.low h5.hb So.out lG.out.size));clear h5 M4 x0 x1 x2 x3 x4 x5 x6 x7 x8 xf;go_wp2_with fail;refine HS.out.mono ?_;rintro e w6 ⟨rfl,um⟩;have nZ:Hid (Qb w w6):=Qh (kZ.out.trans um);clear um
 go_wp2_with fail;go_ret2
 exact⟨rfl,nZ.out⟩
theorem Ol{n:Nat}(w:World)(B:Nat)(v:Value)(t:Tm (n+1))(hB:B≤w.heap.size)(hI:ah w B n v t.items)(mB:300*(ap t:Int)≤1000000000000)(hv:aC t=false) :
 Calls Tryz.prog 46 #[aj t.f v] w fun e w'=>e=.returned (.tuple #[.string ⟨#[]⟩,.int .i64 2])∧Below w.heap.size w w':=by
 have HV:=Qh (fun W (hb:Qb w W)=>eN (jQ n) W B v t (Nat.le_trans hB hb.size) (hI.below hb hB) mB);rw[hv]at HV;obtain⟨p,c,rfl,_,_⟩:=hI.shape;generalize t.items.length=m,t.f=f at*;clear hI hv hB mB;obtain⟨fk,fi,fg,fn,ff,fa,fb,fs⟩:=f;unfold aj at*;dsimp only at HV ⊢;have bu:=Qh (aG (Below.refl w.heap.size w) (av ⟨fk,fi,fg,fn,ff,fa,fb,fs⟩ (.slice p m c)) (Nat.le_refl _));have hx:=aW (aF w (av ⟨fk,fi,fg,fn,ff,fa,fb,fs⟩ (.slice p m c)));unfold av at hx bu;dsimp only at hx bu;obtain⟨x0,x1,x2,x3,x4,x5,x6,x7,x8,xf⟩:=hx
 dsimp only at x0 x1 x2 x3 x4 x5 x6 x7 x8;go_enter Tryz.func46,Tryz.ntmps46;go_wp2_with fail;refine(HV.out _ bu.out).mono ?_;rintro e w2 ⟨rfl,a_⟩;have oJ:=Qh (bu.out.trans (a_.mono bu.out.size));clear a_ x0 x1 x2 x3 x4 x5 x6 x7 x8 xf;go_wp2_with fail;go_ret2
 exact⟨rfl,oJ.out⟩
end tb
end Go.Proofs.YtfbggmbmgohiiaaGreat
