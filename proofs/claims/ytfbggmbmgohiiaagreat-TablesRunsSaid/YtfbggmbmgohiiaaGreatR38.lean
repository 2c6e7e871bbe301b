/- TeA. No condition beyond theirs. -/
import Derived.Test.YtfbggmbmgohiiaaGreatR02
set_option linter.unusedSimpArgs false
set_option linter.unusedVariables false
set_option maxHeartbeats 1000000
set_option maxRecDepth 100000
namespace Go.Proofs.YtfbggmbmgohiiaaGreat.tm
open Go.RowKit mem
def vP(n:Nat):Prop:=∀(w:World) (B:Nat) (v1 v2:Value) (a b:List (Tm n)),B≤w.heap.size→ah w B n v1 a→ah w B n v2 b→Calls Tryz.prog 107 #[v1,v2] w (aV (dL a b) w)
theorem yd{n:Nat}(ih:vP n)(w:World)(B:Nat)(v1 v2:Value)(a b:Tm (n+1))(hB:B≤w.heap.size)(h1:ah w B n v1 a.items)(h2:ah w B n v2 b.items) :
 Calls Tryz.prog 85 #[aj a.f v1,aj b.f v2] w (aV (dL a b) w):=by
 have hno:a.f≠b.f→dL a b=false:=fun h=>gX (fun e=>h (by rw[e]));have hin:a.f=b.f→dL a b=dL a.items b.items:=fun h=>by
  by_cases e:a.items=b.items
  ·rw[eR e,eR (Tm.ext h e)]
  ·rw[gX e,gX (fun e2=>e (by rw[e2]))]
 have hI:=fun(W:World) (hb:Qb w W)=>ih W B v1 v2 a.items b.items (Nat.le_trans hB hb.size) (h1.below hb hB) (h2.below hb hB);clear ih h1 h2;generalize a.items=l1,b.items=l2,dL a b=r,a.f=x,b.f=y at*;obtain⟨k1,i1,g1,n1,f1,a1,b1,s1⟩:=x;obtain⟨k2,i2,g2,n2,f2,a2,b2,s2⟩:=y;unfold aj;dsimp only
 by_cases e:k1≠k2
 ·have hq:(k1==k2)=false:=by simp[e]
  rw[hno (by intro h;simp only[TF.mk.injEq]at h;simp_all)];clear hno hin hI e;go_enter Tryz.func85,Tryz.ntmps85;go_wp2_with fail;go_ret;exact⟨rfl,((Below.refl _ _).alloc (Nat.le_refl _) _).alloc (by simp) _⟩
 have e:=Classical.not_not.1 e;subst e;have qk:(k1==k1)=true:=by first|exact bK _|simp
 by_cases e:i1≠i2
 ·have hq:(i1==i2)=false:=by simp[e]
  rw[hno (by intro h;simp only[TF.mk.injEq]at h;simp_all)];clear hno hin hI e;go_enter Tryz.func85,Tryz.ntmps85;go_wp2_with fail;go_ret;exact⟨rfl,((Below.refl _ _).alloc (Nat.le_refl _) _).alloc (by simp) _⟩
 have e:=Classical.not_not.1 e;subst e;have qi:(i1==i1)=true:=by first|exact bK _|simp
 by_cases e:g1≠g2
 ·have hq:(g1==g2)=false:=by simp[e]
  rw[hno (by intro h;simp only[TF.mk.injEq]at h;simp_all)];clear hno hin hI e;go_enter Tryz.func85,Tryz.ntmps85;go_wp2_with fail;go_ret;exact⟨rfl,((Below.refl _ _).alloc (Nat.le_refl _) _).alloc (by simp) _⟩
 have e:=Classical.not_not.1 e;subst e;have qg:(g1==g1)=true:=by first|exact bK _|simp
 by_cases e:n1≠n2
 ·have hq:(n1.toList==n2.toList)=false:=mY e;have jO:¬n1.toList=n2.toList:=jI e;rw[hno (by intro h;simp only[TF.mk.injEq]at h;simp_all)];clear hno hin hI e;go_enter Tryz.func85,Tryz.ntmps85;go_wp2_with fail;go_ret;exact⟨rfl,((Below.refl _ _).alloc (Nat.le_refl _) _).alloc (by simp) _⟩
 have e:=Classical.not_not.1 e;subst e;have qn:(n1==n1)=true:=by first|exact bK _|simp
 by_cases e:f1≠f2
 ·have hq:(f1.toList==f2.toList)=false:=mY e;have jO:¬f1.toList=f2.toList:=jI e;rw[hno (by intro h;simp only[TF.mk.injEq]at h;simp_all)];clear hno hin hI e;go_enter Tryz.func85,Tryz.ntmps85;go_wp2_with fail;go_ret;exact⟨rfl,((Below.refl _ _).alloc (Nat.le_refl _) _).alloc (by simp) _⟩
 have e:=Classical.not_not.1 e;subst e;have qf:(f1==f1)=true:=by first|exact bK _|simp
 by_cases e:a1≠a2
 ·have hq:(a1==a2)=false:=by simp[e]
  rw[hno (by intro h;simp only[TF.mk.injEq]at h;simp_all)];clear hno hin hI e;go_enter Tryz.func85,Tryz.ntmps85;go_wp2_with fail;go_ret;exact⟨rfl,((Below.refl _ _).alloc (Nat.le_refl _) _).alloc (by simp) _⟩
 have e:=Classical.not_not.1 e;subst e;have qa:(a1==a1)=true:=by first|exact bK _|simp
 by_cases e:b1≠b2
 ·have hq:(b1.toList==b2.toList)=false:=mY e;have jO:¬b1.toList=b2.toList:=jI e;rw[hno (by intro h;simp only[TF.mk.injEq]at h;simp_all)];clear hno hin hI e;go_enter Tryz.func85,Tryz.ntmps85;go_wp2_with fail;go_ret;exact⟨rfl,((Below.refl _ _).alloc (Nat.le_refl _) _).alloc (by simp) _⟩
 have e:=Classical.not_not.1 e;subst e;have qb:(b1==b1)=true:=by first|exact bK _|simp
 by_cases e:s1≠s2
 ·have hq:(s1==s2)=false:=by simp[e]
  rw[hno (by intro h;simp only[TF.mk.injEq]at h;simp_all)];clear hno hin hI e;go_enter Tryz.func85,Tryz.ntmps85;go_wp2_with fail;go_ret;exact⟨rfl,((Below.refl _ _).alloc (Nat.le_refl _) _).alloc (by simp) _⟩
 have e:=Classical.not_not.1 e;subst e;have qs:(s1==s1)=true:=by first|exact bK _|simp
 rw[hin rfl];clear hno hin;go_enter Tryz.func85,Tryz.ntmps85;go_wp2_with fail;refine(hI _ (((Below.refl _ _).alloc (Nat.le_refl _) _).alloc (by simp) _)).mono ?_;rintro e w' ⟨rfl,hb⟩;go_wp2_with fail;go_ret;exact⟨rfl,(((Below.refl _ _).alloc (Nat.le_refl _) _).alloc (by simp) _).trans (hb.mono (by simp;omega))⟩
theorem Gf:vP 0:=by
 intro w B v1 v2 a b hB h1 h2;obtain⟨p1,c1,rfl,dF⟩:=h1;obtain⟨p2,c2,rfl,eK⟩:=h2;rw[Tm.js a,Tm.js b,eR rfl];go_enter Tryz.func107,Tryz.ntmps107;go_wp2_with fail;refine wp_loop_rounds 1 ?_;rw[rounds_succ];go_wp2_with fail;go_ret;exact⟨rfl,Below.refl _ _⟩
theorem Gg{n:Nat}(ih:vP n):vP (n+1):=by
 intro w B v1 v2 a b hB h1 h2;obtain⟨p1,c1,e1,dF,hm1⟩:=h1.shape;obtain⟨p2,c2,e2,eK,hm2⟩:=h2.shape;unfold maxLen at hm1 hm2
 by_cases hl:a.length=b.length
 ·have hd:(((a.length:Nat):Int) != ((b.length:Nat):Int))=false:=by simp[hl]
  have HL:=Qh hl;clear hl;have H1:=Qh h1;clear h1;have H2:=Qh h2;clear h2;subst e1;subst e2;go_enter Tryz.func107,Tryz.ntmps107;go_wp2_with fail;go_loopw [5] (fun s wr=>∃k:Nat,s=.int .i64 k∧k≤a.length∧Hid (a.take k=b.take k)∧Qb w wr) (fun s _=>a.length-(intOf s).toNat)
  case atStart=>exact⟨0,rfl,by omega,Qh rfl,Below.refl _ _⟩
  case round=>
   obtain⟨k,rfl,hk,ht,hb⟩:=hrel
   by_cases hlt:k<a.length
   ·have hkb:k<b.length:=by have:=HL.out;omega
    obtain⟨g1,o1,NA,e1,_,_,sg,hx1⟩:=(H1.out.below hb hB).at_ (by intro e;subst e;simp at hlt);obtain⟨g2,o2,QX,e2,_,_,nW,rV⟩:=(H2.out.below hb hB).at_ (by intro e;subst e;simp at hkb);simp only[Value.slice.injEq]at e1 e2;obtain⟨rfl,_,rfl⟩:=e1;obtain⟨rfl,_,rfl⟩:=e2;obtain⟨u1,kq,eW⟩:=hx1 k hlt;obtain⟨u2,nM,gR⟩:=rV k hkb;have hS:=fun(W:World) (hW:Below w.heap.size wr W)=>yd ih W B u1 u2 a[k] b[k] (by have:=hW.size;have:=hb.size;omega) (eW.below hW hB) (gR.below hW hB);obtain⟨x0,x1,x2,x3,x4,x5,x6,x7,x8⟩:=kq;obtain⟨y0,y1,y2,y3,y4,y5,y6,y7,y8⟩:=nM
    have hys:a[k]=b[k]→a.take (k+1)=b.take (k+1):=fun e=>r_ ht.out hlt hkb e;have hno:a[k]≠b[k]→dL a b=false:=fun e=>gX (yA hlt hkb e);have Rq:=Qh hys;clear hys;have FA:=Qh hno;clear hno;clear hx1 rV eW gR;unfold aj at hS;have HS:=Qh hS;clear hS;generalize a[k]=x,b[k]=y at*;generalize x.f=xf,y.f=yf at*;have hb':Below w.heap.size wr wr.drew:=⟨rfl,rfl,rfl,Nat.le_refl _,fun _ _=>rfl⟩;go_wp2_with fail;go_still_tail 8,(by kernel_rfl)
    change wpList _ _ _ _ _ wr.drew;have hS:=HS.out wr.drew hb';have a_:Qb w wr.drew:=hb.trans hb';clear x0 x1 x2 x3 x4 x5 x6 x7 x8 y0 y1 y2 y3 y4 y5 y6 y7 y8;have hz:=a_.size;generalize wr.drew=w2 at*;go_wp2_with fail;refine hS.mono ?_;rintro e w3 ⟨rfl,bN⟩;have dS:Qb w w3:=a_.trans (bN.mono hz)
    by_cases e:x=y
    ·rw[eR e];have HT:=Qh (Rq.out e);clear hS;go_wp2_with fail;go_roundw
     case rel=>exact⟨k+1,by go_num,by omega,HT,dS⟩
     case measure=>simp[intOf];omega
    ·rw[gX e];have HN:=Qh (FA.out e);clear hS;go_wp2_with fail;go_ret;exact⟨gN HN.out.symm,dS⟩
   ·have bP:a=b:=by
     have:=ht.out;rwa[List.take_of_length_le (by omega),List.take_of_length_le (by have:=HL.out;omega)]at this
    have HF:=Qh (eR bP);clear bP;go_wp2_with fail;go_ret;exact⟨gN HF.out.symm,hb⟩
 ·have hd:(((a.length:Nat):Int) != ((b.length:Nat):Int))=true:=by simp;omega
  have bP:=gX (fun e:a=b=>hl (by rw[e]));have HF:=Qh bP;clear bP;subst e1;subst e2;go_enter Tryz.func107,Tryz.ntmps107;go_wp2_with fail;go_ret;exact⟨gN HF.out.symm,Below.refl _ _⟩
theorem Gh(n:Nat):vP n:=by
 induction n with
 | zero=>exact Gf
 | succ n ih=>exact Gg ih
theorem vQ{n:Nat}(w:World)(B:Nat)(v1 v2:Value)(a b:Tm (n+1))(hB:B≤w.heap.size)(h1:ah w B n v1 a.items)(h2:ah w B n v2 b.items) :
 Calls Tryz.prog 85 #[aj a.f v1,aj b.f v2] w (aV (dL a b) w):=yd (Gh n) w B v1 v2 a b hB h1 h2
end Go.Proofs.YtfbggmbmgohiiaaGreat.tm
