/- TmX. No condition beyond theirs. -/
import Derived.Test.YtfbggmbmgohiiaaGreatR09
set_option linter.unusedSimpArgs false
set_option linter.unusedVariables false
set_option maxHeartbeats 4000000
set_option maxRecDepth 100000
namespace Go.Proofs.YtfbggmbmgohiiaaGreat.tm
open Go.RowKit mem names
theorem NJ{n:Nat}(ih:∀m,n=m+1→CU m)(w:World)(B:Nat)(v1 v2:Value)(l1 l2:List (Tm n))(hB:B≤w.heap.size)(h1:ah w B n v1 l1)(h2:ah w B n v2 l2)(f1:bp n l1=true)(f2:bp n l2=true)(iq:2≤l1.length)(jC:2≤l2.length) :
 Calls Tryz.prog 132 #[v1,v2] w (aM (fC (th n) (bU n) l1 l2) w):=by
 obtain⟨p1,c1,rfl,dF,hm1⟩:=h1.shape;obtain⟨p2,c2,rfl,eK,hm2⟩:=h2.shape;unfold maxLen at hm1 hm2;have HP:=Qh (He ih w B p1 p2 _ _ c1 c2 l1 l2 hB h1 h2 f1 f2);have HA:=Qh (Av (th n) (bU n) l1 l2);obtain⟨g1,o1,zx1,zq1,zm1,zd1,g2,o2,zx2,zq2,zm2,zd2,rfl,sg,zC1,rfl,nW,Ry⟩:=HP.out 0 0 (by omega) (by omega);clear Ry zC1;have H0:Hid (fC (th n) (bU n) l1 l2=fC (th n) (bU n) (l1.drop 0) (l2.drop 0)):=Qh rfl;generalize fC (th n) (bU n) l1 l2=r at*;clear ih h1 h2 f1 f2;obtain⟨a0,ha0⟩:∃a,l1.length=a+2:=⟨l1.length-2,by omega⟩
 obtain⟨b0,hb0⟩:∃a,l2.length=a+2:=⟨l2.length-2,by omega⟩;obtain⟨x0,hx0⟩:∃a,c1=a+2:=⟨c1-2,by omega⟩;obtain⟨y0,hy0⟩:∃a,c2=a+2:=⟨c2-2,by omega⟩;subst hx0;subst hy0;rw[ha0,hb0];have wB:=Qh ha0;have wC:=Qh hb0;rw[ha0]at dF;rw[hb0]at eK;clear ha0 hb0 iq jC;go_enter Tryz.func132,Tryz.ntmps132;go_wp2_with fail
 go_loopw [0,1] (fun s t wr=>∃k a b x y ga gb:Nat,s=.slice (some ⟨g1,ga,none⟩) (a+2) (x+2)∧t=.slice (some ⟨g2,gb,none⟩) (b+2) (y+2)∧Hid (ga=o1+k*9)∧Hid (gb=o2+k*9)∧Hid (k+a+2=l1.length)∧Hid (k+b+2=l2.length)∧a≤x∧b≤y∧x+2≤9223372036854775807∧y+2≤9223372036854775807∧Hid (r=fC (th n) (bU n) (l1.drop k) (l2.drop k))∧Qb w wr) (fun s _ _=>match s with|.slice _ m _=>m|_=>0)
 case atStart=>exact⟨0,a0,b0,x0,y0,o1,o2,rfl,rfl,Qh (by omega),Qh (by omega),Qh (by have:=wB.out;omega),Qh (by have:=wC.out;omega),by omega,by omega,by omega,by omega,H0,Below.refl _ _⟩
 case round=>
  obtain⟨k,a,b,x,y,ga,gb,rfl,rfl,U9,KT,hka,hkb,Um,hby,Yq,Yr,hr,hb⟩:=hrel;have U_:k<l1.length:=by have:=hka.out;omega
  have FI:k<l2.length:=by have:=hkb.out;omega
  have hn1:k+1<l1.length:=by have:=hka.out;omega
  have hn2:k+1<l2.length:=by have:=hkb.out;omega
  have gF:=Qh hn1;have gG:=Qh hn2;obtain⟨_,_,x1,q1,m1,d1,_,_,x2,q2,m2,d2,e1,_,kq,e2,_,nM,MJ,MK,cT⟩:=HP.out k k U_ FI;simp only[Option.some.injEq,Addr.mk.injEq]at e1 e2;obtain⟨rfl,rfl,_⟩:=e1;obtain⟨rfl,rfl,_⟩:=e2;clear MJ MK;have kq:=kq.same (hb.block g1 sg);have nM:=nM.same (hb.block g2 nW);rw[←U9.out]at kq;rw[←KT.out]at nM;obtain⟨Ek,Cz,CA,CB,CC,CD,CE,CF,CG⟩:=kq;obtain⟨GF,GG,GH,GI,GJ,GK,GL,GM,GN⟩:=nM;obtain⟨A1,A2,A3,A4,A5⟩:=HA.out k hn1 hn2
  obtain⟨_,_,x3,q3,m3,d3,_,_,x4,q4,m4,d4,e1,_,KU,e2,_,KV,MJ,MK,yK⟩:=HP.out (k+1) (k+1) hn1 hn2;simp only[Option.some.injEq,Addr.mk.injEq]at e1 e2;obtain⟨rfl,rfl,_⟩:=e1;obtain⟨rfl,rfl,_⟩:=e2;rw[show o1+(k+1)*9=ga+9 by have:=U9.out;omega]at KU;rw[show o2+(k+1)*9=gb+9 by have:=KT.out;omega]at KV;have lO:=Qh MJ;have KW:=Qh MK;clear MJ MK;have u9:=Qh KU;have Q0:=Qh KV;clear KU KV;rw[←hr.out]at A1 A2;have hb':Qb w wr.drew:=hb.drewN 1;have HC:=Qh (cT wr.drew hb');clear cT;have ig:=Qh A1;have lB:=Qh A2;have qY:=Qh A3;have yL:=Qh A4
  have nh:=Qh A5;clear A1 A2 A3 A4 A5 hr;have sD:=Qh yK;clear yK;generalize bU n l1[k] l2[k]=z at*;unfold aj aM at HC sD;have NK:(0:Int)<(a:Int)+2:=by omega
  have a_:(0:Int)<(b:Int)+2:=by omega
  have U':0<a+2:=by omega
  have Va:0<b+2:=by omega
  go_wp2_with fail;go_still_tail 6,(by kernel_rfl)
  change wpList _ _ _ _ _ wr.drew;clear Ek Cz CA CB CC CD CE CF CG GF GG GH GI GJ GK GL GM GN;generalize wr.drew=w2 at*;go_wp2_with fail;refine HC.out.mono ?_;rintro e w3 ⟨rfl,bN⟩;have dS:Qb w w3:=hb'.trans (bN.mono hb'.size);clear HC bN hb hb'
  by_cases hz:z=0
  ·subst hz;have mj:=lB.out rfl;have eS:Qb w w3.drew:=dS.drewN 1;go_wp2_with fail;go_quiet (fail)
   have eS:Qb w (w3.drewN nq):=dS.drewN nq;generalize w3.drewN nq=w4 at*;clear ig lB dS
   rcases a with _|a
   ·rcases b with _|b
    ·have bP:r=bU n (l1[k+1]'gF.out) (l2[k+1]'gG.out):=mj.trans (qY.out (by have:=hka.out;omega) (by have:=hkb.out;omega));have eU:=Qh bP;have KU:=u9.out.same (eS.block g1 sg);have KV:=Q0.out.same (eS.block g2 nW);obtain⟨Ek,Cz,CA,CB,CC,CD,CE,CF,CG⟩:=KU;obtain⟨GF,GG,GH,GI,GJ,GK,GL,GM,GN⟩:=KV;have um:Qb w w4.drew:=eS.drewN 1;have HC:=Qh (sD.out w4.drew um);clear bP mj qY yL nh sD;generalize bU n (l1[k+1]'gF.out) (l2[k+1]'gG.out)=zz at*;go_wp2_with fail;go_still_tail 6,(by kernel_rfl)
     change wpList _ _ _ _ _ w4.drew;clear Ek Cz CA CB CC CD CE CF CG GF GG GH GI GJ GK GL GM GN;generalize w4.drew=w5 at*;go_wp2_with fail;refine HC.out.mono ?_;rintro e w6 ⟨rfl,j7⟩;go_wp2_with fail;go_ret;exact⟨dH eU.out.symm,um.trans (j7.mono um.size)⟩
    ·have bP:r=aO (th n (l1[k+1]'gF.out)) 9:=mj.trans (yL.out (by have:=hka.out;omega) (by have:=hkb.out;omega));rw[←lO.out]at bP;have eU:=Qh bP;have KU:=u9.out.same (eS.block g1 sg);obtain⟨Ek,Cz,CA,CB,CC,CD,CE,CF,CG⟩:=KU;have HI:=Qh (fun W=>kV x3.kind 9 W);have qb:((b:Int)+1+1==1)=false:=by simp;omega
     have qb':((b:Int)+1=0)=False:=by simp;omega
     clear bP mj qY yL nh sD Cz CA CB CC CD CE CF CG;go_wp2_with fail;refine(HI.out _).mono ?_;rintro e w6 ⟨rfl,rfl⟩;go_wp2_with fail;go_ret;exact⟨dH eU.out.symm,eS⟩
   ·have qa:((a:Int)+1+1==1)=false:=by simp;omega
    have qa':((a:Int)+1=0)=False:=by simp;omega
    rcases b with _|b
    ·have bP:r=aO 9 (th n (l2[k+1]'gG.out)):=mj.trans (nh.out (by have:=hka.out;omega) (by have:=hkb.out;omega));rw[←KW.out]at bP;have eU:=Qh bP;have KV:=Q0.out.same (eS.block g2 nW);obtain⟨Ek,Cz,CA,CB,CC,CD,CE,CF,CG⟩:=KV;have HI:=Qh (fun W=>kV 9 x4.kind W);clear bP mj qY yL nh sD Cz CA CB CC CD CE CF CG;go_wp2_with fail;refine(HI.out _).mono ?_;rintro e w6 ⟨rfl,rfl⟩;go_wp2_with fail;go_ret;exact⟨dH eU.out.symm,eS⟩
    ·have qb:((b:Int)+1+1==1)=false:=by simp;omega
     have qb':((b:Int)+1=0)=False:=by simp;omega
     have dw:=Qh mj;clear mj qY yL nh sD;obtain⟨x,rfl⟩:∃x',x=x'+1:=⟨x-1,by omega⟩;obtain⟨y,rfl⟩:∃y',y=y'+1:=⟨y-1,by omega⟩;go_wp2_with fail;go_roundw
     case rel=>exact⟨k+1,a,b,x,y,ga+9,gb+9,rfl,rfl,Qh (by have:=U9.out;omega),Qh (by have:=KT.out;omega),Qh (by have:=hka.out;omega),Qh (by have:=hkb.out;omega),by omega,by omega,by omega,by omega,dw,eS⟩
     case measure=>simp
  ·have q:(z != 0)=true:=by simp[hz]
   have HF:=Qh (ig.out hz);go_wp2_with fail;go_ret;exact⟨dH HF.out.symm,dS⟩
end Go.Proofs.YtfbggmbmgohiiaaGreat.tm
