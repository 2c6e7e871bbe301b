/- TmL,TmM. No condition beyond theirs. -/
import Derived.Test.YtfbggmbmgohiiaaGreatR14
set_option linter.unusedSimpArgs false
set_option linter.unusedVariables false
set_option maxHeartbeats 1000000
set_option maxRecDepth 100000
namespace Go.Proofs.YtfbggmbmgohiiaaGreat.tm
open Go.RowKit mem names
theorem closure{n:Nat}(ho:MN n)(w:World)(B g z:Nat)(v:Value)(t:Tm (n+1))(s:Int)(hB:B≤w.heap.size)(hI:ah w B n v t.items)(hM:fN w g s)(hg:B≤g)(hp:w.cell? ⟨z,0,none⟩=some (.pointer (some ⟨g,0,none⟩)))(hz:z<w.heap.size)(hs:0≤s)(mB:s+300*(ap t:Int)-1≤1000000000000) :
 Calls Tryz.prog 151 #[aj t.f v,.pointer (some ⟨z,0,none⟩)] w fun e w'=>e=.returned (.bool (!aJ t))∧∃s',fN w' g s'∧ax (fun k=>k=g) w w'∧0≤s'∧s'≤s+300*ap t-1∧(aJ t=true→s'=s+cD t):=by
 obtain⟨p,c,rfl,_,_⟩:=hI.shape;have mo:=hM.lt;have hO:=fun(W:World) (hb:Qb w W)=>ho W B g _ t s (Nat.le_trans hB hb.size) (hI.below hb hB) (hM.block (hb.block g mo)) hg hs mB;have HO:=Qh hO;clear hO hI hM;unfold tC at HO;generalize aJ t=r,(ap t)=N,(cD t)=W,t.f=f,t.items.length=len at*;obtain⟨k,i,gg,nm,fn,ar,aL,bt⟩:=f;unfold aj at*;dsimp only at*;go_enter Tryz.func151,Tryz.ntmps151;go_wp2_with fail;refine(HO.out _ ((Below.refl _ _).alloc (Nat.le_refl _) _)).mono ?_;rintro e w' ⟨rfl,s',m1,m2,m3,m4,m5⟩;have HM:=Qh m1;have HE:=Qh m5;clear m1 m5
 go_wp2_with fail;go_ret;refine⟨rfl,s',HM.out,?_,m3,m4,HE.out⟩;exact((ax.refl _ w).alloc _).trans m2 (fun _ _ e=>e)
def Eu{n:Nat}(g:Nat)(s:Int)(l:List (Tm n))(w:World)(e:Ending)(w':World):Prop :=
 ∃r:Int,e=.returned (.int .i64 r)∧(bp n l=true→r=-1)∧(bp n l=false→0≤r)∧∃s',fN w' g s'∧ax (fun k=>k=g) w w'∧0≤s'∧s'≤s+300*aP n l-l.length∧(bp n l=true→s'=s+cF n l)
theorem K0(w:World)(g z:Nat)(p:Option Addr)(c:Nat)(s:Int)(hM:fN w g s)(hs:0≤s)(l:List (Tm 0)) :
 Calls Tryz.prog 158 #[.slice p 0 c,.func (.func 151) #[] #[.pointer (some ⟨z,0,none⟩)]] w (Eu g s l w):=by
 have bP:Eu g s l w (.returned (.int .i64 (-1))) w:=⟨-1,rfl,fun _=>rfl,(fun h=>by cases h),s,hM,ax.refl _ _,hs,by rw[Tm.js l];simp[aP],fun _=>by simp[cF]⟩;have HF:=Qh bP;clear bP hM;go_enter Tryz.func158,Tryz.ntmps158;go_wp2_with fail;refine wp_loop_rounds 1 ?_;rw[rounds_succ];go_wp2_with fail;go_ret;exact HF.out
theorem K1{n:Nat}(ho:MN n)(w:World)(B g z:Nat)(v:Value)(l:List (Tm (n+1)))(s:Int)(hB:B≤w.heap.size)(hI:ah w B (n+1) v l)(hM:fN w g s)(hg:B≤g)(hp:w.cell? ⟨z,0,none⟩=some (.pointer (some ⟨g,0,none⟩)))(hz:z<w.heap.size)(Uo:z≠g)(hs:0≤s)(mB:s+300*(aP (n+1) l:Int)-l.length≤1000000000000) :
 Calls Tryz.prog 158 #[v,.func (.func 151) #[] #[.pointer (some ⟨z,0,none⟩)]] w (Eu g s l w):=by
 obtain⟨p,c,rfl,hlc,gW⟩:=hI.shape;have mo:=hM.lt;have HI:=Qh hI;have HM:=Qh hM;have HP:=Qh hp;have HS:=Qh mB;clear hI hM hp mB;unfold maxLen at gW;go_enter Tryz.func158,Tryz.ntmps158;go_wp2_with fail;go_loopw [8] (fun s8 wr=>∃(k:Nat) (sk:Int),s8=.int .i64 k∧k≤l.length∧Hid (fN wr g sk)∧ax (fun k=>k=g) w wr∧0≤sk∧Hid (sk=s+cF (n+1) (l.take k))∧Hid (∀j,(h:j<l.length)→j<k→aJ l[j]=true)∧Hid (sk≤s+300*aP (n+1) (l.take k)-k)) (fun s8 _=>l.length-(intOf s8).toNat)
 case atStart=>
  refine⟨0,s,rfl,by omega,HM,ax.refl _ _,hs,Qh ?_,Qh (fun j _ h=>by omega),Qh ?_⟩
  ·simp[cF]
  ·simp[aP]
 case round=>
  obtain⟨k,sk,rfl,hk,MO,hT,RP,hw,hall,hbd⟩:=hrel
  by_cases hlt:k<l.length
  ·have gR:=HI.out.same (w':=wr) (fun q hq=>hT.block q (by omega) (by omega));obtain⟨g1,o1,c1,e1,_,_,sg,hx1⟩:=gR.at_ (by intro e;subst e;simp at hlt);simp only[Value.slice.injEq]at e1;obtain⟨rfl,_,rfl⟩:=e1;obtain⟨u1,kq,eW⟩:=hx1 k hlt;clear hx1 gR;have hpk:wr.cell? ⟨z,0,none⟩=some (.pointer (some ⟨g,0,none⟩)):=(hT.cell (by exact hz) Uo).trans HP.out;have hnm:=iK hlt;have hnd:=iJ (n+1) (l.drop (k+1));simp only[List.length_drop]at hnd
   have RQ:=closure ho wr B g z u1 l[k] sk (Nat.le_trans hB hT.size) eW MO.out hg hpk (Nat.lt_of_lt_of_le hz hT.size) RP (by have:=HS.out;have:=hbd.out;omega);have AD:=qt l k hlt;have Vp:=Qh AD;have hnb:∀s':Int,s'≤sk+300*ap l[k]-1→s'≤s+300*aP (n+1) l-l.length∧s'≤s+300*aP (n+1) (l.take (k+1))-((k:Int)+1):=fun s' h=>by
    have:=hbd.out;refine⟨by omega,?_⟩;have e:aP (n+1) (l.take (k+1))=aP (n+1) (l.take k)+ap l[k]:=by
     rw[List.take_succ_eq_append_getElem hlt];unfold aP ap;simp only[List.map_append,List.map_cons,List.map_nil,List.sum_append,List.sum_cons,List.sum_nil];omega
    rw[e];omega
   have NV:=Qh hnb;clear hnb AD hnm hnd MO;obtain⟨x0,x1,x2,x3,x4,x5,x6,x7,x8⟩:=kq;have FA:=Qh (sq hlt);have NW:Hid (aJ l[k]=true→∀j,(h:j<l.length)→j<k+1→aJ l[j]=true):=Qh (fun h j hj Vq=>by
    by_cases e:j=k
    ·subst e;exact h
    ·exact hall.out j hj (by omega))
   have NX:=Qh RQ;clear RQ eW;unfold aj at NX;generalize l[k]=x at*;generalize x.f=xf at*;go_wp2_with fail;refine NX.out.mono ?_;rintro e w2 ⟨rfl,s2,m1,m2,m3,m4,m5⟩;have wD:=Qh m1;have wO:ax (fun k=>k=g) w w2:=hT.trans m2 (fun _ _ e=>e);obtain⟨b1,b2⟩:=NV.out s2 m4
   by_cases hf:aJ x=true
   ·have h5:=Qh (m5 hf);have hY:=NW.out hf;have HY:=Qh hY;have B2:=Qh b2;clear hY b1 b2 m1 m4 m5 NV;rw[hf];go_wp2_with fail;go_roundw
    case rel=>
     refine⟨k+1,s2,by go_num,by omega,wD,wO,m3,Qh ?_,HY,Qh ?_⟩
     ·rw[Vp.out,h5.out,hw.out];omega
     ·have:=B2.out;push_cast;omega
    case measure=>simp[intOf];omega
   ·have hf:aJ x=false:=by simpa using hf
    have hN:=Qh (FA.out hf);rw[hf];have MP:=Qh b1;clear b1 b2 m1 m4 m5 NV;go_wp2_with fail;go_ret;refine⟨k,rfl,(fun h=>by rw[hN.out]at h;cases h),(fun _=>by omega),s2,wD.out,wO,m3,MP.out,(fun h=>by rw[hN.out]at h;cases h)⟩
  ·have bP:bp (n+1) l=true:=m_ (fun j hj=>hall.out j hj (by omega));have HF:=Qh bP;have e:k=l.length:=by omega
   have hw':sk=s+cF (n+1) l:=by have:=hw.out;rwa[List.take_of_length_le (by omega)]at this
   have hb':sk≤s+300*aP (n+1) l-l.length:=by have:=hbd.out;rw[List.take_of_length_le (by omega)]at this;omega
   have HW:=Qh hw';have HB:=Qh hb';clear bP e hw' hb';go_wp2_with fail;go_ret;exact⟨-1,rfl,fun _=>rfl,(fun h=>by rw[HF.out]at h;cases h),sk,MO.out,hT,RP,HB.out,fun _=>HW.out⟩
theorem contains{n:Nat}(l:List (Tm n))(g:Nat)(s:Int)(v fv:Value)(w:World)(h:Calls Tryz.prog 158 #[v,fv] w (Eu g s l w)) :
 Calls Tryz.prog 150 #[v,fv] w fun e w'=>e=.returned (.bool (!bp n l))∧∃s',fN w' g s'∧ax (fun k=>k=g) w w'∧0≤s'∧s'≤s+300*aP n l-l.length∧(bp n l=true→s'=s+cF n l):=by
 have HH:=Qh h;clear h;go_enter Tryz.func150,Tryz.ntmps150;go_wp2_with fail;refine HH.out.mono ?_;rintro e w' ⟨r,rfl,h1,h2,h3⟩;have H3:=Qh h3;clear h3
 by_cases hf:bp n l=true
 ·obtain rfl:=h1 hf;have HF:=Qh hf;clear h1 h2 hf;go_wp2_with fail;go_ret;exact⟨by rw[HF.out];rfl,H3.out⟩
 ·have hf:bp n l=false:=by simpa using hf
  have h0:=h2 hf;have HF:=Qh hf;have q:decide (0≤r)=true:=decide_eq_true h0;clear h1 h2 hf;go_wp2_with fail;go_ret;exact⟨by rw[HF.out];rfl,H3.out⟩
theorem Vr:Hh 0:=by
 intro w B g z v l s hB hI hM hg hp hz Uo hs mB;obtain⟨p,c,rfl,_⟩:=hI;exact contains l g s _ _ w (K0 w g z p c s hM hs l)
theorem Vs{n:Nat}(ho:MN n):Hh (n+1):=by
 intro w B g z v l s hB hI hM hg hp hz Uo hs mB;exact contains l g s _ _ w (K1 ho w B g z v l s hB hI hM hg hp hz Uo hs mB)
def MQ{n:Nat}(l:List (Tm n))(w:World)(e:Ending)(w':World):Prop :=
 ∃r:Int,e=.returned (.tuple #[.int .i64 r,.bool (bp n l)])∧(bp n l=true→r=cF n l)∧0≤r∧Below w.heap.size w w'
theorem Vt{n:Nat}(ho:MN n)(w:World)(B:Nat)(v:Value)(l:List (Tm (n+1)))(hB:B≤w.heap.size)(hI:ah w B (n+1) v l)(mB:300*(aP (n+1) l:Int)≤1000000000000) :
 Calls Tryz.prog 106 #[v] w (MQ l w):=by
 obtain⟨p,c,rfl,hlc,gW⟩:=hI.shape;have HI:=Qh hI;have HS:=Qh mB;clear hI mB;unfold maxLen at gW;go_enter Tryz.func106,Tryz.ntmps106;go_wp2_with fail;refine(kinds _).mono ?_;rintro e w1 ⟨rfl,aD⟩;unfold NR;go_wp2_with fail;obtain⟨W,hW⟩:∃x,x=w1.alloc (tu 0):=⟨_,rfl⟩;have Yz:fN W w1.heap.size 0:=by rw[hW];exact(MapKept.heap_alloc w1 (tu 0)).1
 have j9:Qb w W:=by rw[hW];exact aD.alloc aD.size _
 have Vu:w.heap.size≤w1.heap.size:=aD.size;unfold tu at hW;rw[←hW];clear hW aD;generalize w1.heap.size=g at*;have HMW:=Qh Yz;clear Yz;go_loopw [15] (fun s8 wr=>∃(k:Nat) (sk:Int),s8=.int .i64 k∧k≤l.length∧Hid (fN wr g sk)∧ax (fun k=>k=g) W wr∧0≤sk∧Hid (sk=cF (n+1) (l.take k))∧Hid (∀j,(h:j<l.length)→j<k→aJ l[j]=true)∧Hid (sk≤300*aP (n+1) (l.take k)-k)) (fun s8 _=>l.length-(intOf s8).toNat)
 case atStart=>
  refine⟨0,0,rfl,by omega,HMW,ax.refl _ _,by omega,Qh ?_,Qh (fun j _ h=>by omega),Qh ?_⟩
  ·simp[cF]
  ·simp[aP]
 case round=>
  obtain⟨k,sk,rfl,hk,MO,hT,RP,hw,hall,hbd⟩:=hrel;have vh:g<wr.heap.size:=MO.out.lt;have NY:Qb w wr:=j9.trans (hT.below (fun k e=>by subst e;exact Vu) j9.size)
  by_cases hlt:k<l.length
  ·have gR:=HI.out.below NY hB;obtain⟨g1,o1,c1,e1,_,_,sg,hx1⟩:=gR.at_ (by intro e;subst e;simp at hlt);simp only[Value.slice.injEq]at e1;obtain⟨rfl,_,rfl⟩:=e1;obtain⟨u1,kq,eW⟩:=hx1 k hlt;clear hx1 gR;obtain⟨p1,c1,rfl,_,_⟩:=eW.shape;have hnm:=iK hlt;have hnd:=iJ (n+1) (l.drop (k+1));simp only[List.length_drop]at hnd;have RQ:=fun(W':World) (h:Qb wr W')=>ho W' B g _ l[k] sk (Nat.le_trans hB (NY.trans (h.mono NY.size)).size) (eW.below h (Nat.le_trans hB NY.size)) (MO.out.block (h.block g vh)) (Nat.le_trans hB Vu) RP (by have:=HS.out;have:=hbd.out;omega)
   have AD:=qt l k hlt;have Vp:=Qh AD;have hnb:∀s':Int,s'≤sk+300*ap l[k]-1→s'≤300*aP (n+1) (l.take (k+1))-((k:Int)+1):=fun s' h=>by
    have:=hbd.out;have e:aP (n+1) (l.take (k+1))=aP (n+1) (l.take k)+ap l[k]:=by
     rw[List.take_succ_eq_append_getElem hlt];unfold aP ap;simp only[List.map_append,List.map_cons,List.map_nil,List.sum_append,List.sum_cons,List.sum_nil];omega
    rw[e];omega
   have NV:=Qh hnb;clear hnb AD hnm hnd MO;obtain⟨x0,x1,x2,x3,x4,x5,x6,x7,x8⟩:=kq;have FA:=Qh (sq hlt);have NW:Hid (aJ l[k]=true→∀j,(h:j<l.length)→j<k+1→aJ l[j]=true):=Qh (fun h j hj Vq=>by
    by_cases e:j=k
    ·subst e;exact h
    ·exact hall.out j hj (by omega))
   have NX:=Qh RQ;clear RQ eW;unfold aj tC at NX;generalize l[k]=x at*;generalize x.items.length=xl,x.f=xf at*;go_wp2_with fail;refine(NX.out _ ((Below.refl _ _).alloc (Nat.le_refl _) _)).mono ?_;rintro e w2 ⟨rfl,s2,m1,m2,m3,m4,m5⟩;have wD:=Qh m1;have wO:ax (fun k=>k=g) W w2:=(hT.alloc _).trans m2 (fun _ _ e=>e);have b2:=NV.out s2 m4
   by_cases hf:aJ x=true
   ·have h5:=Qh (m5 hf);have hY:=NW.out hf;have HY:=Qh hY;have B2:=Qh b2;clear hY b2 m1 m4 m5 NV;rw[hf];go_wp2_with fail;go_roundw
    case rel=>
     refine⟨k+1,s2,by go_num,by omega,wD,wO,m3,Qh ?_,HY,Qh ?_⟩
     ·rw[Vp.out,h5.out,hw.out]
     ·have:=B2.out;push_cast;omega
    case measure=>simp[intOf];omega
   ·have hf:aJ x=false:=by simpa using hf
    have hN:=Qh (FA.out hf);rw[hf];clear b2 m1 m4 m5 NV;go_wp2_with fail;go_ret2
    exact⟨0,(by rw[hN.out];try rfl),(fun h=>by rw[hN.out]at h;cases h),by omega,j9.trans (wO.below (fun k e=>by subst e;exact Vu) j9.size)⟩
  ·have bP:bp (n+1) l=true:=m_ (fun j hj=>hall.out j hj (by omega));have HF:=Qh bP;have e:k=l.length:=by omega
   have hw':sk=cF (n+1) l:=by have:=hw.out;rwa[List.take_of_length_le (by omega)]at this
   have HW:=Qh hw';have RN:=MO.out.size;clear bP e hw';go_wp2_with fail;go_ret2
   exact⟨sk,(by rw[HF.out];try rfl),fun _=>HW.out,RP,NY⟩
theorem Vv{n:Nat}(t:Tm (n+1)):bp (n+1) [t]=aJ t∧cF (n+1) [t]=cD t∧aP (n+1) [t]=ap t:=by
 refine⟨?_,?_,?_⟩
 ·unfold bp;simp[aJ]
 ·unfold cF;simp[cD]
 ·unfold aP;simp[ap]
noncomputable def ni{n:Nat}(t:Tm (n+1)):Int:=if aJ t=true then(if cD t≤2000 then 0 else 3) else 2
noncomputable def aC{n:Nat}(t:Tm (n+1)):Bool:=aJ t&&decide (cD t≤2000)
theorem Check{n:Nat}(ho:MN n)(w:World)(B:Nat)(v:Value)(t:Tm (n+1))(hB:B≤w.heap.size)(hI:ah w B n v t.items)(mB:300*(ap t:Int)≤1000000000000) :
 Calls Tryz.prog 83 #[aj t.f v] w fun e w'=>e=.returned (.int .i64 (ni t))∧Below w.heap.size w w':=by
 obtain⟨p,c,rfl,_,hc⟩:=hI.shape;obtain⟨e1,e2,e3⟩:=Vv t;have hrow:∀W:World,Qb w W→∀g,W.heap[g]?=some (av t.f (.slice p t.items.length c))→g<W.heap.size→ah W W.heap.size (n+1) (.slice (some ⟨g,0,none⟩) 1 1) [t]:=fun W hb g hg mo=>by
  refine⟨_,1,rfl,Nat.le_refl _,by unfold maxLen;omega,fun _=>⟨g,0,rfl,mo,fun j hj=>?_⟩⟩;obtain rfl:j=0:=by simp at hj;omega
  have hN:=aW hg;exact⟨_,⟨hN.c0,hN.c1,hN.c2,hN.c3,hN.c4,hN.c5,hN.c6,hN.c7,hN.c8⟩,(hI.below hb hB).more (Nat.le_trans hB hb.size)⟩
 have hS:=fun(W:World) (hb:Qb w W) (g:Nat) (hg:W.heap[g]?=some (av t.f (.slice p t.items.length c))) (mo:g<W.heap.size)=>Vt ho W W.heap.size _ [t] (Nat.le_refl _) (hrow W hb g hg mo) (by rw[e3];exact mB);unfold MQ at hS;rw[e1,e2]at hS;unfold ni;have YA:=Qh hS;clear hS hrow hI mB e1 e2 e3;generalize aJ t=ok,cD t=W,t.f=f,t.items.length=len at*;obtain⟨k,i,gg,nm,fn,ar,aL,bt⟩:=f;unfold aj av at*;dsimp only at*;generalize MR:(if ok=true then(if W≤2000 then(0:Int) else 3) else 2)=ck at*;have Kl:=Qh MR;clear MR
 go_enter Tryz.func83,Tryz.ntmps83;go_wp2_with fail;have hA:=(MapKept.heap_alloc (w.alloc (.cells (a9 k i gg nm fn ar (.slice p len c) aL bt) 24)) (.cells (a9 k i gg nm fn ar (.slice p len c) aL bt) 24)).1;have Vw:=((Below.refl w.heap.size w).alloc (Nat.le_refl _) (.cells (a9 k i gg nm fn ar (.slice p len c) aL bt) 24)).alloc (by simp) (.cells (a9 k i gg nm fn ar (.slice p len c) aL bt) 24);refine(YA.out _ Vw (w.heap.size+1) (by simpa using hA) (by simp)).mono ?_;clear hA YA;rintro e w1 ⟨r,rfl,h1,h2,h3⟩;have hb:=Vw.trans (h3.mono (by simp;omega));clear h3 Vw
 by_cases hok:ok=true
 ·subst hok;obtain rfl:=h1 rfl
  by_cases hw:r≤2000
  ·have q:decide (2000<r)=false:=decide_eq_false (by omega);obtain rfl:0=ck:=by have:=Kl.out;rwa[if_pos rfl,if_pos hw]at this
   clear hw h1;go_wp2_with fail;go_ret;exact⟨rfl,hb⟩
  ·have q:decide (2000<r)=true:=decide_eq_true (by omega);obtain rfl:3=ck:=by have:=Kl.out;rwa[if_pos rfl,if_neg hw]at this
   clear hw h1;go_wp2_with fail;go_ret;exact⟨rfl,hb⟩
 ·have hok:ok=false:=by simpa using hok
  subst hok;obtain rfl:2=ck:=by have:=Kl.out;rwa[if_neg (by decide)]at this
  clear h1;go_wp2_with fail;go_ret;exact⟨rfl,hb⟩
theorem AE{n:Nat}(t:Tm (n+1)):(ni t==0)=aC t:=by
 unfold ni aC
 by_cases h:aJ t=true
 ·rw[if_pos h,h]
  by_cases h2:cD t≤2000
  ·rw[if_pos h2,decide_eq_true h2];rfl
  ·rw[if_neg h2,decide_eq_false h2];rfl
 ·rw[if_neg h];have h:aJ t=false:=by simpa using h
  rw[h];rfl
theorem eN{n:Nat}(ho:MN n)(w:World)(B:Nat)(v:Value)(t:Tm (n+1))(hB:B≤w.heap.size)(hI:ah w B n v t.items)(mB:300*(ap t:Int)≤1000000000000) :
 Calls Tryz.prog 50 #[aj t.f v] w (aV (aC t) w):=by
 obtain⟨p,c,rfl,_,hc⟩:=hI.shape;have hC:=fun(W:World) (hb:Qb w W)=>Check ho W B _ t (Nat.le_trans hB hb.size) (hI.below hb hB) mB;have hv:=AE t;have HC:=Qh hC;clear hC hI mB;generalize ni t=ck,aC t=vt,t.f=f,t.items.length=len at*;obtain⟨k,i,gg,nm,fn,ar,aL,bt⟩:=f;unfold aj at*;dsimp only at*;go_enter Tryz.func50,Tryz.ntmps50;go_wp2_with fail;refine(HC.out _ ((Below.refl _ _).alloc (Nat.le_refl _) _)).mono ?_;rintro e w1 ⟨rfl,hb⟩;go_wp2_with fail;go_ret;exact⟨rfl,((Below.refl w.heap.size w).alloc (Nat.le_refl _) _).trans (hb.mono (by simp))⟩
end Go.Proofs.YtfbggmbmgohiiaaGreat.tm
