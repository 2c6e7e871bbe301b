/- TbM. No condition beyond theirs. -/
import Derived.Test.YtfbggmbmgohiiaaGreatR17
set_option linter.unusedSimpArgs false
set_option linter.unusedVariables false
set_option maxHeartbeats 4000000
set_option maxRecDepth 100000
namespace Go.Proofs.YtfbggmbmgohiiaaGreat.tb
open Go.RowKit mem rec tm names
def vB(n:Nat):Prop:=∀(w:World) (B:Nat) (v1 v2:Value) (a b:List (Tm n)),B≤w.heap.size→ah w B n v1 a→ah w B n v2 b→Calls Tryz.prog 94 #[v1,v2,.func (.func 66) #[] #[]] w (aV (dL a b) w)
theorem xH{n:Nat}(ih:vB n)(w:World)(B:Nat)(v1 v2:Value)(a b:Tm (n+1))(hB:B≤w.heap.size)(h1:ah w B n v1 a.items)(h2:ah w B n v2 b.items) :
 Calls Tryz.prog 66 #[aj a.f v1,aj b.f v2] w (aV (dL a b) w):=by
 have hno:a.f≠b.f→dL a b=false:=fun h=>gX (fun e=>h (by rw[e]));have hin:a.f=b.f→dL a b=dL a.items b.items:=fun h=>by
  by_cases e:a.items=b.items
  ·rw[eR e,eR (Tm.ext h e)]
  ·rw[gX e,gX (fun e2=>e (by rw[e2]))]
 have hI:=fun(W:World) (hb:Qb w W)=>ih W B v1 v2 a.items b.items (Nat.le_trans hB hb.size) (h1.below hb hB) (h2.below hb hB);clear ih h1 h2;generalize a.items=l1,b.items=l2,dL a b=r,a.f=x,b.f=y at*;obtain⟨k1,i1,g1,n1,f1,a1,b1,s1⟩:=x;obtain⟨k2,i2,g2,n2,f2,a2,b2,s2⟩:=y;unfold aj;dsimp only
 by_cases e:k1≠k2
 ·have hq:(k1==k2)=false:=by simp[e]
  rw[hno (by intro h;simp only[TF.mk.injEq]at h;simp_all)];clear hno hin hI e;go_enter Tryz.func66,Tryz.ntmps66;go_wp2_with fail;go_ret;exact⟨rfl,((Below.refl _ _).alloc (Nat.le_refl _) _).alloc (by simp) _⟩
 have e:=Classical.not_not.1 e;subst e;have qk:(k1==k1)=true:=by first|exact bK _|simp
 by_cases e:i1≠i2
 ·have hq:(i1==i2)=false:=by simp[e]
  rw[hno (by intro h;simp only[TF.mk.injEq]at h;simp_all)];clear hno hin hI e;go_enter Tryz.func66,Tryz.ntmps66;go_wp2_with fail;go_ret;exact⟨rfl,((Below.refl _ _).alloc (Nat.le_refl _) _).alloc (by simp) _⟩
 have e:=Classical.not_not.1 e;subst e;have qi:(i1==i1)=true:=by first|exact bK _|simp
 by_cases e:g1≠g2
 ·have hq:(g1==g2)=false:=by simp[e]
  rw[hno (by intro h;simp only[TF.mk.injEq]at h;simp_all)];clear hno hin hI e;go_enter Tryz.func66,Tryz.ntmps66;go_wp2_with fail;go_ret;exact⟨rfl,((Below.refl _ _).alloc (Nat.le_refl _) _).alloc (by simp) _⟩
 have e:=Classical.not_not.1 e;subst e;have qg:(g1==g1)=true:=by first|exact bK _|simp
 by_cases e:n1≠n2
 ·have hq:(n1.toList==n2.toList)=false:=mY e;have jO:¬n1.toList=n2.toList:=jI e;rw[hno (by intro h;simp only[TF.mk.injEq]at h;simp_all)];clear hno hin hI e;go_enter Tryz.func66,Tryz.ntmps66;go_wp2_with fail;go_ret;exact⟨rfl,((Below.refl _ _).alloc (Nat.le_refl _) _).alloc (by simp) _⟩
 have e:=Classical.not_not.1 e;subst e;have qn:(n1==n1)=true:=by first|exact bK _|simp
 by_cases e:f1≠f2
 ·have hq:(f1.toList==f2.toList)=false:=mY e;have jO:¬f1.toList=f2.toList:=jI e;rw[hno (by intro h;simp only[TF.mk.injEq]at h;simp_all)];clear hno hin hI e;go_enter Tryz.func66,Tryz.ntmps66;go_wp2_with fail;go_ret;exact⟨rfl,((Below.refl _ _).alloc (Nat.le_refl _) _).alloc (by simp) _⟩
 have e:=Classical.not_not.1 e;subst e;have qf:(f1==f1)=true:=by first|exact bK _|simp
 by_cases e:a1≠a2
 ·have hq:(a1==a2)=false:=by simp[e]
  rw[hno (by intro h;simp only[TF.mk.injEq]at h;simp_all)];clear hno hin hI e;go_enter Tryz.func66,Tryz.ntmps66;go_wp2_with fail;go_ret;exact⟨rfl,((Below.refl _ _).alloc (Nat.le_refl _) _).alloc (by simp) _⟩
 have e:=Classical.not_not.1 e;subst e;have qa:(a1==a1)=true:=by first|exact bK _|simp
 by_cases e:b1≠b2
 ·have hq:(b1.toList==b2.toList)=false:=mY e;have jO:¬b1.toList=b2.toList:=jI e;rw[hno (by intro h;simp only[TF.mk.injEq]at h;simp_all)];clear hno hin hI e;go_enter Tryz.func66,Tryz.ntmps66;go_wp2_with fail;go_ret;exact⟨rfl,((Below.refl _ _).alloc (Nat.le_refl _) _).alloc (by simp) _⟩
 have e:=Classical.not_not.1 e;subst e;have qb:(b1==b1)=true:=by first|exact bK _|simp
 by_cases e:s1≠s2
 ·have hq:(s1==s2)=false:=by simp[e]
  rw[hno (by intro h;simp only[TF.mk.injEq]at h;simp_all)];clear hno hin hI e;go_enter Tryz.func66,Tryz.ntmps66;go_wp2_with fail;go_ret;exact⟨rfl,((Below.refl _ _).alloc (Nat.le_refl _) _).alloc (by simp) _⟩
 have e:=Classical.not_not.1 e;subst e;have qs:(s1==s1)=true:=by first|exact bK _|simp
 rw[hin rfl];clear hno hin;go_enter Tryz.func66,Tryz.ntmps66;go_wp2_with fail;refine(hI _ (((Below.refl _ _).alloc (Nat.le_refl _) _).alloc (by simp) _)).mono ?_;rintro e w' ⟨rfl,hb⟩;go_wp2_with fail;go_ret;exact⟨rfl,(((Below.refl _ _).alloc (Nat.le_refl _) _).alloc (by simp) _).trans (hb.mono (by simp;omega))⟩
theorem K6{n:Nat}(ih:∀m,n=m+1→vB m){w:World}{B:Nat}{p1 p2:Option Addr}{n1 n2 c1 c2:Nat}{a b:List (Tm n)}(hB:B≤w.heap.size)(h1:ah w B n (.slice p1 n1 c1) a)(h2:ah w B n (.slice p2 n2 c2) b)(k:Nat)(ha:k<a.length)(hb:k<b.length) :
 ∃g1 o1 x q1 m1 d1 g2 o2 y q2 m2 d2,p1=some ⟨g1,o1,none⟩∧p2=some ⟨g2,o2,none⟩∧g1<B∧g2<B∧Cells w g1 (o1+k*9) x (.slice q1 m1 d1)∧Cells w g2 (o2+k*9) y (.slice q2 m2 d2) ∧
  ∀W,Below w.heap.size w W→Calls Tryz.prog 66 #[aj x (.slice q1 m1 d1),aj y (.slice q2 m2 d2)] W (aV (dL a[k] b[k]) W):=by
 cases n with
 | zero=>rw[Tm.js a]at ha;exact absurd ha (by simp)
 | succ n =>
  obtain⟨g1,o1,NA,e1,_,_,sg,hx1⟩:=h1.at_ (by intro e;subst e;simp at ha);obtain⟨g2,o2,QX,e2,_,_,nW,rV⟩:=h2.at_ (by intro e;subst e;simp at hb);simp only[Value.slice.injEq]at e1 e2;obtain⟨u1,kq,eW⟩:=hx1 k ha;obtain⟨u2,nM,gR⟩:=rV k hb;obtain⟨q1,d1,rfl,_,_⟩:=eW.shape;obtain⟨q2,d2,rfl,_,_⟩:=gR.shape;exact⟨g1,o1,a[k].f,q1,_,d1,g2,o2,b[k].f,q2,_,d2,e1.1,e2.1,sg,nW,kq,nM,fun W hW=>xH (ih n rfl) W B _ _ a[k] b[k] (Nat.le_trans hB hW.size) (eW.below hW hB) (gR.below hW hB)⟩
def Hu{n:Nat}(a b:List (Tm n))(w:World)(m:Nat)(iv:Value)(wr:World):Prop:=∃k:Nat,iv=.int .i64 (k:Int)∧k≤a.length∧m=a.length-k∧a.take k=b.take k∧Below w.heap.size w wr
theorem xI{n:Nat}(ih:∀m,n=m+1→vB m):vB n:=by
 intro w B v1 v2 a b hB h1 h2;obtain⟨p1,c1,rfl,dF,hm1⟩:=h1.shape;obtain⟨p2,c2,rfl,eK,hm2⟩:=h2.shape;unfold maxLen at hm1 hm2
 by_cases hl:a.length=b.length
 ·have hd:(((a.length:Nat):Int) != ((b.length:Nat):Int))=false:=by simp[hl]
  have HL:=Qh hl;clear hl;have H1:=Qh h1;clear h1;have H2:=Qh h2;clear h2;have iL:Hid (Hu a b w a.length (.int .i64 0) w):=Qh ⟨0,rfl,Nat.zero_le _,rfl,rfl,Below.refl _ _⟩;go_enter Tryz.func94,Tryz.ntmps94;go_wp2_with fail;go_loopg [16] a.length (fun m iv wr=>Hid (Hu a b w m iv wr))
  case atStart=>exact iL
  case round=>
   obtain⟨k,rfl,hk,hm,ht,hb⟩:=hrel.out;clear hrel iL;have HM:=Qh hm;have HT:=Qh ht;have HB:=Qh hb;have HBz:=Qh hb.size;clear hm ht
   by_cases hlt:k<a.length
   ·have hkb:k<b.length:=by have:=HL.out;omega
    obtain⟨g1,o1,x,q1,m1,d1,g2,o2,y,q2,m2,d2,rfl,rfl,sg,nW,kq,nM,cT⟩:=K6 ih (Nat.le_trans hB hb.size) (H1.out.below hb hB) (H2.out.below hb hB) k hlt hkb;have cL:=Qh cT;have Rq:=Qh (fun e:a[k]=b[k]=>r_ HT.out hlt hkb e);have FA:=Qh (fun e:a[k]≠b[k]=>gX (yA hlt hkb e));clear cT;generalize a[k]=ak,b[k]=bk at*;obtain⟨x0,x1,x2,x3,x4,x5,x6,x7,x8⟩:=kq;have Us:=Qh (Nat.lt_of_lt_of_le nW (Nat.le_trans hB hb.size));have nY:=Qh nM;obtain⟨k1,i1,j1,n1,f1,a1,b1,s1⟩:=x;dsimp only at x0 x1 x2 x3 x4 x5 x6 x7 x8;unfold aj at cL;dsimp only at cL
    have K7:=Qh (aG (Below.refl wr.heap.size wr) (av ⟨k1,i1,j1,n1,f1,a1,b1,s1⟩ (.slice q1 m1 d1)) (Nat.le_refl _));have N3:=Qh (aW (aF wr (av ⟨k1,i1,j1,n1,f1,a1,b1,s1⟩ (.slice q1 m1 d1))));have N4:=Qh (nY.out.same (K7.out.block _ Us.out));unfold av at K7 N3 N4;dsimp only at K7 N3 N4;clear nM sg nW hb;go_upto_region 6 with(fail);clear x0 x1 x2 x3 x4 x5 x6 x7 x8;generalize(wr.alloc (.cells (a9 k1 i1 j1 n1 f1 a1 (.slice q1 m1 d1) b1 s1) 24))=W1,hz:wr.heap.size=z at*;have HZ:=Qh hz;clear hz;obtain⟨x0,x1,x2,x3,x4,x5,x6,x7,x8,xf⟩:=N3.out
    obtain⟨y0,y1,y2,y3,y4,y5,y6,y7,y8⟩:=N4.out;obtain⟨k2,i2,j2,n2,f2,a2,b2,s2⟩:=y;dsimp only at x0 x1 x2 x3 x4 x5 x6 x7 x8 y0 y1 y2 y3 y4 y5 y6 y7 y8 cL;go_still_tail 6,(by kernel_rfl)
    change wpList _ _ _ _ _ W1.drew;clear x0 x1 x2 x3 x4 x5 x6 x7 x8 xf y0 y1 y2 y3 y4 y5 y6 y7 y8;have hbd:=aZ K7.out;have FP:=Qh hbd;go_wp2_with fail;refine(cL.out _ hbd).mono ?_;rintro e w3 ⟨rfl,bN⟩;have lG:Hid (Qb w w3):=Qh (HB.out.trans ((hbd.trans (bN.mono (by have:=HZ.out;have:=hbd.size;omega))).mono (by have:=HBz.out;have:=HZ.out;omega)));clear hbd bN;have MS:a.length≤9223372036854775807:=by omega
    by_cases e:ak=bk
    ·rw[eR e];have AI:=Qh (Rq.out e);clear e;go_wp2_with fail;go_roundg (a.length-(k+1))
     case measure=>have:=HM.out;omega
     case rel=>exact Qh ⟨k+1,by go_num,by omega,rfl,AI.out,lG.out⟩
    ·rw[gX e];have HN:=Qh (FA.out e);clear e;go_wp2_with fail;go_ret;exact⟨tm.gN HN.out.symm,lG.out⟩
   ·have bP:a=b:=by
     have:=HT.out;rwa[List.take_of_length_le (by omega),List.take_of_length_le (by have:=HL.out;omega)]at this
    have HF:=Qh (eR bP);clear bP;go_wp2_with fail;go_ret;exact⟨tm.gN HF.out.symm,HB.out⟩
 ·have hd:(((a.length:Nat):Int) != ((b.length:Nat):Int))=true:=by simp;omega
  have bP:=gX (fun e:a=b=>hl (by rw[e]));have HF:=Qh bP;clear bP;go_enter Tryz.func94,Tryz.ntmps94;go_wp2_with fail;go_ret;exact⟨tm.gN HF.out.symm,Below.refl _ _⟩
theorem Hv:∀n,vB n:=by
 intro n
 induction n with
 | zero=>exact xI (fun m h=>by omega)
 | succ n ih=>exact xI (fun m h=>by
  obtain rfl:n=m:=by omega
  exact ih)
theorem N5{n:Nat}(w:World)(B:Nat)(v1 v2:Value)(a b:Tm (n+1))(hB:B≤w.heap.size)(h1:ah w B n v1 a.items)(h2:ah w B n v2 b.items) :
 Calls Tryz.prog 66 #[aj a.f v1,aj b.f v2] w (aV (dL a b) w):=xH (Hv n) w B v1 v2 a b hB h1 h2
end Go.Proofs.YtfbggmbmgohiiaaGreat.tb
