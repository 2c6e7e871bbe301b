/- TmR. No condition beyond theirs. -/
import Derived.Test.YtfbggmbmgohiiaaGreatR23
import Derived.Test.YtfbggmbmgohiiaaGreatR14
set_option linter.unusedSimpArgs false
set_option linter.unusedVariables false
set_option maxHeartbeats 40000000
set_option maxRecDepth 100000
namespace Go.Proofs.YtfbggmbmgohiiaaGreat.tm
open Go.RowKit mem names
def K9(n:Nat):Prop:=∀(w:World) (B:Nat) (v:Value) (t:Tm (n+1)),B≤w.heap.size→ah w B n v t.items→Calls Tryz.prog 92 #[aj t.f v] w (aV (aJ t) w)
theorem Oa{n:Nat}(ih:∀m,n=m+1→K9 m)(w:World)(B:Nat)(p:Option Addr)(len c:Nat)(l:List (Tm n))(hlen:l.length=len)(hB:B≤w.heap.size)(hI:ah w B n (.slice p len c) l) :
 ∃bs:Nat→Bool,(∀j,j<len→∃g o f' q m c',p=some ⟨g,o,none⟩∧g<w.heap.size∧Cells w g (o+j*9) f' (.slice q m c')∧∀W,Below w.heap.size w W→Calls Tryz.prog 92 #[aj f' (.slice q m c')] W (aV (bs j) W)) ∧
  ((∀j,j<len→bs j=true)→bp n l=true)∧(∀j,j<len→bs j=false→bp n l=false):=by
 cases n with
 | zero =>
  obtain rfl:=Tm.js l;subst hlen;exact⟨fun _=>true,fun j hj=>absurd hj (by simp),fun _=>rfl,fun j hj=>absurd hj (by simp)⟩
 | succ n =>
  subst hlen;obtain⟨bs,xw⟩:∃bs:Nat→Bool,∀j,(h:j<l.length)→bs j=aJ l[j]:=⟨fun j=>if h:j<l.length then aJ l[j] else true,fun j h=>dif_pos h⟩;refine⟨bs,fun j hj=>?_,fun h=>m_ (fun k hk=>by rw[←xw k hk];exact h k hk),fun j hj h=>sq hj (by rw[←xw j hj];exact h)⟩;obtain⟨g,o,c2,e,_,_,hg,hx⟩:=hI.at_ (by intro e;subst e;simp at hj);obtain⟨u,hC,gR⟩:=hx j hj;simp only[Value.slice.injEq]at e;obtain⟨q,c',rfl,_,_⟩:=gR.shape;refine⟨g,o,l[j].f,q,_,c',e.1,by omega,hC,fun W hb=>?_⟩;rw[xw j hj]
  exact ih n rfl W B _ l[j] (Nat.le_trans hB hb.size) (gR.below hb hB)
theorem Sd{k:Int}(h:¬(k=1∨k=2∨k=3∨k=4∨k=5∨k=6∨k=7∨k=8∨k=9∨k=10))(f:TF)(hf:f.kind=k)(n:Nat)(last:Int):okF f n last=false:=by
 unfold okF;rw[hf,if_neg (by omega),if_neg (by omega),if_neg (by omega),if_neg (by omega),if_neg (by omega),if_neg (by omega),if_neg (by omega),if_neg (by omega)]
theorem FQ(f:TF)(p:Option Addr)(len c:Nat):∃p3 n3 c3,bQ f (.slice p len c)=.slice p3 n3 c3∧n3=(if f.kind=4∨f.kind=7∨f.kind=9 then 0 else len):=by
 unfold bQ aK
 by_cases h:f.kind=4∨f.kind=7∨f.kind=9
 ·rw[if_pos h,if_pos h];exact⟨_,_,_,rfl,rfl⟩
 ·rw[if_neg h,if_neg h];exact⟨_,_,_,rfl,rfl⟩
theorem Ez{n:Nat}(ih:∀m,n=m+1→K9 m):K9 n:=by
 intro w B v t hB hI;obtain⟨p,c,rfl,hlc,gW⟩:=hI.shape;unfold maxLen at gW;generalize hlen:t.items.length=len at*;obtain⟨bs,pV,eP,hno⟩:=Oa ih w B p len c t.items hlen hB hI;have p7:=fun h2=>xE hI h2;clear ih hI;have hform:aJ t=(gq t.f.kind 0 10&&(okF t.f len (oG n t.items)&&m9 t.f len)&&bp n t.items):=by unfold aJ G_;rw[hlen]
 obtain⟨p3,n3,c3,CH,FL⟩:=FQ t.f p len c;have Uu:m9 t.f len=(dL { bG t.f with kind:=0 } aY&&decide (n3=0)):=by unfold m9;rw[FL]
 have Hy:=fun W=>bare t.f p len c W;rw[CH]at Hy;have EA:=fun W=>Sb { bG t.f with kind:=0 } p3 n3 c3 W;rw[←Uu]at EA;clear Uu CH FL;generalize oG n t.items=last,bp n t.items=fl,aJ t=r,hf:t.f=f at*;clear hf hlen;generalize m9 f len=zb at*;obtain⟨k,i,gg,nm,fn,ar,aL,bt⟩:=f;generalize bG ⟨k,i,gg,nm,fn,ar,aL,bt⟩=bf at*;obtain⟨k2,i2,g2,iu,cU,gS,fW,tD⟩:=bf;unfold aj at*;unfold aV at EA;dsimp only at*;have MU:=Qh Hy;have MV:=Qh EA;have HF:=Qh hform;have tU:=Qh pV;have mF:=Qh p7;have C7:=Qh eP
 have uy:=Qh hno;clear Hy EA hform pV p7 eP hno;go_enter Tryz.func92,Tryz.ntmps92;go_wp2_with fail;obtain⟨W0,hW⟩:∃x,x=w.alloc (.cells (a9 k i gg nm fn ar (.slice p len c) aL bt) 24):=⟨_,rfl⟩;have EB:gu W0 w.heap.size ⟨k,i,gg,nm,fn,ar,aL,bt⟩ (.slice p len c):=by rw[hW];exact aW (MapKept.heap_alloc w _).1
 have au:Qb w W0:=by rw[hW];exact(Below.refl _ _).alloc (Nat.le_refl _) _
 have hsz:W0.heap.size=w.heap.size+1:=by rw[hW];simp
 rw[←hW];clear hW;have qv:=Qh hsz;clear hsz;have pU:=Qh EB;clear EB;refine(MU.out _).mono ?_;rintro e w1 ⟨rfl,aD⟩;go_wp2_with fail;refine(MV.out _).mono ?_;rintro e w2 ⟨rfl,a_⟩;have hb:Qb W0 w2:=aD.trans (a_.mono aD.size);clear aD a_ MU MV
 by_cases hz:zb=true
 ·subst hz;go_wp2_with fail;go_loopw [3] (fun s wr=>∃j:Nat,s=.int .i64 j∧j≤len∧Hid (∀q,q<j→bs q=true)∧Qb W0 wr) (fun s _=>len-(intOf s).toNat)
  case atStart=>exact⟨0,rfl,by omega,Qh (fun q h=>by omega),hb⟩
  case round=>
   obtain⟨j,rfl,hj,HA,fK⟩:=hrel;have dY:Qb w wr:=au.trans (fK.mono au.size);have hN:=pU.out.below fK (by have:=qv.out;omega);obtain⟨x0,x1,x2,x3,x4,x5,x6,x7,x8,xz⟩:=hN;dsimp only at x0 x1 x2 x3 x4 x5 x6 x7 x8
   by_cases hlt:j<len
   ·obtain⟨g0,o0,f',q,m,c',rfl,yB,hC,cT⟩:=tU.out j hlt;have hC:=hC.same (dY.block g0 yB);obtain⟨y0,y1,y2,y3,y4,y5,y6,y7,y8⟩:=hC;have HC:=Qh (cT wr dY);clear cT;unfold aj aV at HC;go_wp2_with fail;refine HC.out.mono ?_;rintro e w3 ⟨rfl,bN⟩;have dS:=fK.trans (bN.mono fK.size)
    by_cases MW:bs j=true
    ·have lB:Hid (∀q,q<j+1→bs q=true):=Qh (fun q hq=>by
      by_cases e:q=j
      ·subst e;exact MW
      ·exact HA.out q (by omega))
     rw[MW];clear MW;go_wp2_with fail;go_roundw
     case rel=>exact⟨j+1,by go_num,by omega,lB,dS⟩
     case measure=>simp[intOf];omega
    ·have MW:bs j=false:=by simpa using MW
     have hfl:=uy.out j hlt MW;obtain rfl:r=false:=by rw[HF.out,hfl,Bool.and_false]
     rw[MW];clear MW hfl;go_wp2_with fail;go_ret;exact⟨rfl,au.trans (dS.mono au.size)⟩
   ·have hfl:fl=true:=C7.out (fun q hq=>HA.out q (by omega));have hr:r=(gq k 0 10&&okF ⟨k,i,gg,nm,fn,ar,aL,bt⟩ len last):=by rw[HF.out,hfl,Bool.and_true,Bool.and_true]
    have HR:=Qh hr;clear hfl hr HF tU C7 uy HA;have hjl:len≤j:=by omega
    have HXB:=Qh dY
    by_cases ways:k=1∨k=2∨k=3∨k=4∨k=5∨k=6∨k=7∨k=8∨k=9∨k=10
    ·rcases ways with rfl|rfl|rfl|rfl|rfl|rfl|rfl|rfl|rfl|rfl
     ·have hr:r=true:=by rw[HR.out,mq (by omega),Bool.true_and];simp[okF]
      clear HR mF;obtain rfl:r=true:=hr;go_wp2_with fail;go_ret;exact⟨rfl,au.trans (fK.mono au.size)⟩
     ·have hr:r=b_ nm:=by rw[HR.out,mq (by omega),Bool.true_and];simp[okF]
      clear HR mF
      by_cases h0:b_ nm=true
      ·obtain rfl:r=true:=by rw[hr,h0];try rfl
       have hc0:=fun W=>jS nm W;rw[h0]at hc0;clear h0 hr;have H0:=Qh hc0;clear hc0;go_wp2_with fail;refine(H0.out _).mono ?_;rintro e v1 ⟨rfl,mW⟩;have dR:=fK.trans (mW.mono fK.size);obtain⟨x0,x1,x2,x3,x4,x5,x6,x7,x8,xz⟩:=pU.out.below dR (by have:=qv.out;omega);dsimp only at x0 x1 x2 x3 x4 x5 x6 x7 x8;go_wp2_with fail;go_ret;exact⟨rfl,au.trans (dR.mono au.size)⟩
      ·have h0:b_ nm=false:=by simpa using h0
       obtain rfl:r=false:=by rw[hr,h0];try rfl
       have hc0:=fun W=>jS nm W;rw[h0]at hc0;clear h0 hr;have H0:=Qh hc0;clear hc0;go_wp2_with fail;refine(H0.out _).mono ?_;rintro e v1 ⟨rfl,mW⟩;have dR:=fK.trans (mW.mono fK.size);obtain⟨x0,x1,x2,x3,x4,x5,x6,x7,x8,xz⟩:=pU.out.below dR (by have:=qv.out;omega);dsimp only at x0 x1 x2 x3 x4 x5 x6 x7 x8;go_wp2_with fail;go_ret;exact⟨rfl,au.trans (dR.mono au.size)⟩
     ·have hr:r=(gq i 1 2147483647&&(gq gg 1 2147483647&&b_ nm)):=by rw[HR.out,mq (by omega),Bool.true_and];simp[okF]
      clear HR mF
      by_cases h0:gq i 1 2147483647=true
      ·by_cases h1:gq gg 1 2147483647=true
       ·by_cases h2:b_ nm=true
        ·obtain rfl:r=true:=by rw[hr,h0,h1,h2];try rfl
         have hc0:=fun W=>between i 1 2147483647 W;rw[h0]at hc0;have dF:=fun W=>between gg 1 2147483647 W;rw[h1]at dF;have eK:=fun W=>jS nm W;rw[h2]at eK;clear h0 h1 h2 hr;have H0:=Qh hc0;clear hc0;have H1:=Qh dF;clear dF;have H2:=Qh eK;clear eK;go_wp2_with fail;refine(H0.out _).mono ?_;rintro e w' ⟨rfl,rfl⟩;go_wp2_with fail;refine(H1.out _).mono ?_;rintro e w' ⟨rfl,rfl⟩;go_wp2_with fail;refine(H2.out _).mono ?_;rintro e v1 ⟨rfl,mW⟩;have dR:=fK.trans (mW.mono fK.size);obtain⟨x0,x1,x2,x3,x4,x5,x6,x7,x8,xz⟩:=pU.out.below dR (by have:=qv.out;omega)
         dsimp only at x0 x1 x2 x3 x4 x5 x6 x7 x8;go_wp2_with fail;go_ret;exact⟨rfl,au.trans (dR.mono au.size)⟩
        ·have h2:b_ nm=false:=by simpa using h2
         obtain rfl:r=false:=by rw[hr,h0,h1,h2];try rfl
         have hc0:=fun W=>between i 1 2147483647 W;rw[h0]at hc0;have dF:=fun W=>between gg 1 2147483647 W;rw[h1]at dF;have eK:=fun W=>jS nm W;rw[h2]at eK;clear h0 h1 h2 hr;have H0:=Qh hc0;clear hc0;have H1:=Qh dF;clear dF;have H2:=Qh eK;clear eK;go_wp2_with fail;refine(H0.out _).mono ?_;rintro e w' ⟨rfl,rfl⟩;go_wp2_with fail;refine(H1.out _).mono ?_;rintro e w' ⟨rfl,rfl⟩;go_wp2_with fail;refine(H2.out _).mono ?_;rintro e v1 ⟨rfl,mW⟩;have dR:=fK.trans (mW.mono fK.size);obtain⟨x0,x1,x2,x3,x4,x5,x6,x7,x8,xz⟩:=pU.out.below dR (by have:=qv.out;omega)
         dsimp only at x0 x1 x2 x3 x4 x5 x6 x7 x8;go_wp2_with fail;go_ret;exact⟨rfl,au.trans (dR.mono au.size)⟩
       ·have h1:gq gg 1 2147483647=false:=by simpa using h1
        obtain rfl:r=false:=by rw[hr,h0,h1];try rfl
        have hc0:=fun W=>between i 1 2147483647 W;rw[h0]at hc0;have dF:=fun W=>between gg 1 2147483647 W;rw[h1]at dF;clear h0 h1 hr;have H0:=Qh hc0;clear hc0;have H1:=Qh dF;clear dF;go_wp2_with fail;refine(H0.out _).mono ?_;rintro e w' ⟨rfl,rfl⟩;go_wp2_with fail;refine(H1.out _).mono ?_;rintro e w' ⟨rfl,rfl⟩;go_wp2_with fail;go_ret;exact⟨rfl,au.trans (fK.mono au.size)⟩
      ·have h0:gq i 1 2147483647=false:=by simpa using h0
       obtain rfl:r=false:=by rw[hr,h0];try rfl
       have hc0:=fun W=>between i 1 2147483647 W;rw[h0]at hc0;clear h0 hr;have H0:=Qh hc0;clear hc0;go_wp2_with fail;refine(H0.out _).mono ?_;rintro e w' ⟨rfl,rfl⟩;go_wp2_with fail;go_ret;exact⟨rfl,au.trans (fK.mono au.size)⟩
     ·have hr:r=(gq i 0 999&&(gq gg 1 2147483647&&(b_ nm&&(gq ar 0 16&&decide (len≤200))))):=by rw[HR.out,mq (by omega),Bool.true_and];simp[okF]
      clear HR mF
      by_cases h0:gq i 0 999=true
      ·by_cases h1:gq gg 1 2147483647=true
       ·by_cases h2:b_ nm=true
        ·by_cases h3:gq ar 0 16=true
         ·by_cases h4:decide (len≤200)=true
          ·obtain rfl:r=true:=by rw[hr,h0,h1,h2,h3,h4];try rfl
           have hc0:=fun W=>between i 0 999 W;rw[h0]at hc0;have dF:=fun W=>between gg 1 2147483647 W;rw[h1]at dF;have eK:=fun W=>jS nm W;rw[h2]at eK;have EC:=fun W=>between ar 0 16 W;rw[h3]at EC;have d4:decide ((len:Int)≤200)=true:=by have:=of_decide_eq_true h4;exact decide_eq_true (by omega)
           clear h0 h1 h2 h3 h4 hr;have H0:=Qh hc0;clear hc0;have H1:=Qh dF;clear dF;have H2:=Qh eK;clear eK;have H3:=Qh EC;clear EC;go_wp2_with fail;refine(H0.out _).mono ?_;rintro e w' ⟨rfl,rfl⟩;go_wp2_with fail;refine(H1.out _).mono ?_;rintro e w' ⟨rfl,rfl⟩;go_wp2_with fail;refine(H2.out _).mono ?_;rintro e v1 ⟨rfl,mW⟩;have dR:=fK.trans (mW.mono fK.size);obtain⟨x0,x1,x2,x3,x4,x5,x6,x7,x8,xz⟩:=pU.out.below dR (by have:=qv.out;omega);dsimp only at x0 x1 x2 x3 x4 x5 x6 x7 x8;go_wp2_with fail;refine(H3.out _).mono ?_;rintro e w' ⟨rfl,rfl⟩;go_wp2_with fail;go_ret
           exact⟨rfl,au.trans (dR.mono au.size)⟩
          ·have h4:decide (len≤200)=false:=by simpa using h4
           obtain rfl:r=false:=by rw[hr,h0,h1,h2,h3,h4];try rfl
           have hc0:=fun W=>between i 0 999 W;rw[h0]at hc0;have dF:=fun W=>between gg 1 2147483647 W;rw[h1]at dF;have eK:=fun W=>jS nm W;rw[h2]at eK;have EC:=fun W=>between ar 0 16 W;rw[h3]at EC;have d4:decide ((len:Int)≤200)=false:=by have:=of_decide_eq_false h4;exact decide_eq_false (by omega)
           clear h0 h1 h2 h3 h4 hr;have H0:=Qh hc0;clear hc0;have H1:=Qh dF;clear dF;have H2:=Qh eK;clear eK;have H3:=Qh EC;clear EC;go_wp2_with fail;refine(H0.out _).mono ?_;rintro e w' ⟨rfl,rfl⟩;go_wp2_with fail;refine(H1.out _).mono ?_;rintro e w' ⟨rfl,rfl⟩;go_wp2_with fail;refine(H2.out _).mono ?_;rintro e v1 ⟨rfl,mW⟩;have dR:=fK.trans (mW.mono fK.size);obtain⟨x0,x1,x2,x3,x4,x5,x6,x7,x8,xz⟩:=pU.out.below dR (by have:=qv.out;omega);dsimp only at x0 x1 x2 x3 x4 x5 x6 x7 x8;go_wp2_with fail;refine(H3.out _).mono ?_;rintro e w' ⟨rfl,rfl⟩;go_wp2_with fail;go_ret
           exact⟨rfl,au.trans (dR.mono au.size)⟩
         ·have h3:gq ar 0 16=false:=by simpa using h3
          obtain rfl:r=false:=by rw[hr,h0,h1,h2,h3];try rfl
          have hc0:=fun W=>between i 0 999 W;rw[h0]at hc0;have dF:=fun W=>between gg 1 2147483647 W;rw[h1]at dF;have eK:=fun W=>jS nm W;rw[h2]at eK;have EC:=fun W=>between ar 0 16 W;rw[h3]at EC;clear h0 h1 h2 h3 hr;have H0:=Qh hc0;clear hc0;have H1:=Qh dF;clear dF;have H2:=Qh eK;clear eK;have H3:=Qh EC;clear EC;go_wp2_with fail;refine(H0.out _).mono ?_;rintro e w' ⟨rfl,rfl⟩;go_wp2_with fail;refine(H1.out _).mono ?_;rintro e w' ⟨rfl,rfl⟩;go_wp2_with fail;refine(H2.out _).mono ?_;rintro e v1 ⟨rfl,mW⟩;have dR:=fK.trans (mW.mono fK.size)
          obtain⟨x0,x1,x2,x3,x4,x5,x6,x7,x8,xz⟩:=pU.out.below dR (by have:=qv.out;omega);dsimp only at x0 x1 x2 x3 x4 x5 x6 x7 x8;go_wp2_with fail;refine(H3.out _).mono ?_;rintro e w' ⟨rfl,rfl⟩;go_wp2_with fail;go_ret;exact⟨rfl,au.trans (dR.mono au.size)⟩
        ·have h2:b_ nm=false:=by simpa using h2
         obtain rfl:r=false:=by rw[hr,h0,h1,h2];try rfl
         have hc0:=fun W=>between i 0 999 W;rw[h0]at hc0;have dF:=fun W=>between gg 1 2147483647 W;rw[h1]at dF;have eK:=fun W=>jS nm W;rw[h2]at eK;clear h0 h1 h2 hr;have H0:=Qh hc0;clear hc0;have H1:=Qh dF;clear dF;have H2:=Qh eK;clear eK;go_wp2_with fail;refine(H0.out _).mono ?_;rintro e w' ⟨rfl,rfl⟩;go_wp2_with fail;refine(H1.out _).mono ?_;rintro e w' ⟨rfl,rfl⟩;go_wp2_with fail;refine(H2.out _).mono ?_;rintro e v1 ⟨rfl,mW⟩;have dR:=fK.trans (mW.mono fK.size);obtain⟨x0,x1,x2,x3,x4,x5,x6,x7,x8,xz⟩:=pU.out.below dR (by have:=qv.out;omega)
         dsimp only at x0 x1 x2 x3 x4 x5 x6 x7 x8;go_wp2_with fail;go_ret;exact⟨rfl,au.trans (dR.mono au.size)⟩
       ·have h1:gq gg 1 2147483647=false:=by simpa using h1
        obtain rfl:r=false:=by rw[hr,h0,h1];try rfl
        have hc0:=fun W=>between i 0 999 W;rw[h0]at hc0;have dF:=fun W=>between gg 1 2147483647 W;rw[h1]at dF;clear h0 h1 hr;have H0:=Qh hc0;clear hc0;have H1:=Qh dF;clear dF;go_wp2_with fail;refine(H0.out _).mono ?_;rintro e w' ⟨rfl,rfl⟩;go_wp2_with fail;refine(H1.out _).mono ?_;rintro e w' ⟨rfl,rfl⟩;go_wp2_with fail;go_ret;exact⟨rfl,au.trans (fK.mono au.size)⟩
      ·have h0:gq i 0 999=false:=by simpa using h0
       obtain rfl:r=false:=by rw[hr,h0];try rfl
       have hc0:=fun W=>between i 0 999 W;rw[h0]at hc0;clear h0 hr;have H0:=Qh hc0;clear hc0;go_wp2_with fail;refine(H0.out _).mono ?_;rintro e w' ⟨rfl,rfl⟩;go_wp2_with fail;go_ret;exact⟨rfl,au.trans (fK.mono au.size)⟩
     ·have hr:r=(b_ nm&&(b_ fn&&gq ar 0 16)):=by rw[HR.out,mq (by omega),Bool.true_and];simp[okF]
      clear HR mF
      by_cases h0:b_ nm=true
      ·by_cases h1:b_ fn=true
       ·by_cases h2:gq ar 0 16=true
        ·obtain rfl:r=true:=by rw[hr,h0,h1,h2];try rfl
         have hc0:=fun W=>jS nm W;rw[h0]at hc0;have dF:=fun W=>jS fn W;rw[h1]at dF;have eK:=fun W=>between ar 0 16 W;rw[h2]at eK;clear h0 h1 h2 hr;have H0:=Qh hc0;clear hc0;have H1:=Qh dF;clear dF;have H2:=Qh eK;clear eK;go_wp2_with fail;refine(H0.out _).mono ?_;rintro e v1 ⟨rfl,mW⟩;have dR:=fK.trans (mW.mono fK.size);obtain⟨x0,x1,x2,x3,x4,x5,x6,x7,x8,xz⟩:=pU.out.below dR (by have:=qv.out;omega);dsimp only at x0 x1 x2 x3 x4 x5 x6 x7 x8;go_wp2_with fail;refine(H1.out _).mono ?_;rintro e v2 ⟨rfl,MX⟩;have AL:=dR.trans (MX.mono dR.size)
         obtain⟨x0,x1,x2,x3,x4,x5,x6,x7,x8,xz⟩:=pU.out.below AL (by have:=qv.out;omega);dsimp only at x0 x1 x2 x3 x4 x5 x6 x7 x8;go_wp2_with fail;refine(H2.out _).mono ?_;rintro e w' ⟨rfl,rfl⟩;go_wp2_with fail;go_ret;exact⟨rfl,au.trans (AL.mono au.size)⟩
        ·have h2:gq ar 0 16=false:=by simpa using h2
         obtain rfl:r=false:=by rw[hr,h0,h1,h2];try rfl
         have hc0:=fun W=>jS nm W;rw[h0]at hc0;have dF:=fun W=>jS fn W;rw[h1]at dF;have eK:=fun W=>between ar 0 16 W;rw[h2]at eK;clear h0 h1 h2 hr;have H0:=Qh hc0;clear hc0;have H1:=Qh dF;clear dF;have H2:=Qh eK;clear eK;go_wp2_with fail;refine(H0.out _).mono ?_;rintro e v1 ⟨rfl,mW⟩;have dR:=fK.trans (mW.mono fK.size);obtain⟨x0,x1,x2,x3,x4,x5,x6,x7,x8,xz⟩:=pU.out.below dR (by have:=qv.out;omega);dsimp only at x0 x1 x2 x3 x4 x5 x6 x7 x8;go_wp2_with fail;refine(H1.out _).mono ?_;rintro e v2 ⟨rfl,MX⟩;have AL:=dR.trans (MX.mono dR.size)
         obtain⟨x0,x1,x2,x3,x4,x5,x6,x7,x8,xz⟩:=pU.out.below AL (by have:=qv.out;omega);dsimp only at x0 x1 x2 x3 x4 x5 x6 x7 x8;go_wp2_with fail;refine(H2.out _).mono ?_;rintro e w' ⟨rfl,rfl⟩;go_wp2_with fail;go_ret;exact⟨rfl,au.trans (AL.mono au.size)⟩
       ·have h1:b_ fn=false:=by simpa using h1
        obtain rfl:r=false:=by rw[hr,h0,h1];try rfl
        have hc0:=fun W=>jS nm W;rw[h0]at hc0;have dF:=fun W=>jS fn W;rw[h1]at dF;clear h0 h1 hr;have H0:=Qh hc0;clear hc0;have H1:=Qh dF;clear dF;go_wp2_with fail;refine(H0.out _).mono ?_;rintro e v1 ⟨rfl,mW⟩;have dR:=fK.trans (mW.mono fK.size);obtain⟨x0,x1,x2,x3,x4,x5,x6,x7,x8,xz⟩:=pU.out.below dR (by have:=qv.out;omega);dsimp only at x0 x1 x2 x3 x4 x5 x6 x7 x8;go_wp2_with fail;refine(H1.out _).mono ?_;rintro e v2 ⟨rfl,MX⟩;have AL:=dR.trans (MX.mono dR.size);obtain⟨x0,x1,x2,x3,x4,x5,x6,x7,x8,xz⟩:=pU.out.below AL (by have:=qv.out;omega)
        dsimp only at x0 x1 x2 x3 x4 x5 x6 x7 x8;go_wp2_with fail;go_ret;exact⟨rfl,au.trans (AL.mono au.size)⟩
      ·have h0:b_ nm=false:=by simpa using h0
       obtain rfl:r=false:=by rw[hr,h0];try rfl
       have hc0:=fun W=>jS nm W;rw[h0]at hc0;clear h0 hr;have H0:=Qh hc0;clear hc0;go_wp2_with fail;refine(H0.out _).mono ?_;rintro e v1 ⟨rfl,mW⟩;have dR:=fK.trans (mW.mono fK.size);obtain⟨x0,x1,x2,x3,x4,x5,x6,x7,x8,xz⟩:=pU.out.below dR (by have:=qv.out;omega);dsimp only at x0 x1 x2 x3 x4 x5 x6 x7 x8;go_wp2_with fail;go_ret;exact⟨rfl,au.trans (dR.mono au.size)⟩
     ·have hr:r=(gq i 1 2147483647&&(gq gg 1 2147483647&&b_ nm)):=by rw[HR.out,mq (by omega),Bool.true_and];simp[okF]
      clear HR mF
      by_cases h0:gq i 1 2147483647=true
      ·by_cases h1:gq gg 1 2147483647=true
       ·by_cases h2:b_ nm=true
        ·obtain rfl:r=true:=by rw[hr,h0,h1,h2];try rfl
         have hc0:=fun W=>between i 1 2147483647 W;rw[h0]at hc0;have dF:=fun W=>between gg 1 2147483647 W;rw[h1]at dF;have eK:=fun W=>jS nm W;rw[h2]at eK;clear h0 h1 h2 hr;have H0:=Qh hc0;clear hc0;have H1:=Qh dF;clear dF;have H2:=Qh eK;clear eK;go_wp2_with fail;refine(H0.out _).mono ?_;rintro e w' ⟨rfl,rfl⟩;go_wp2_with fail;refine(H1.out _).mono ?_;rintro e w' ⟨rfl,rfl⟩;go_wp2_with fail;refine(H2.out _).mono ?_;rintro e v1 ⟨rfl,mW⟩;have dR:=fK.trans (mW.mono fK.size);obtain⟨x0,x1,x2,x3,x4,x5,x6,x7,x8,xz⟩:=pU.out.below dR (by have:=qv.out;omega)
         dsimp only at x0 x1 x2 x3 x4 x5 x6 x7 x8;go_wp2_with fail;go_ret;exact⟨rfl,au.trans (dR.mono au.size)⟩
        ·have h2:b_ nm=false:=by simpa using h2
         obtain rfl:r=false:=by rw[hr,h0,h1,h2];try rfl
         have hc0:=fun W=>between i 1 2147483647 W;rw[h0]at hc0;have dF:=fun W=>between gg 1 2147483647 W;rw[h1]at dF;have eK:=fun W=>jS nm W;rw[h2]at eK;clear h0 h1 h2 hr;have H0:=Qh hc0;clear hc0;have H1:=Qh dF;clear dF;have H2:=Qh eK;clear eK;go_wp2_with fail;refine(H0.out _).mono ?_;rintro e w' ⟨rfl,rfl⟩;go_wp2_with fail;refine(H1.out _).mono ?_;rintro e w' ⟨rfl,rfl⟩;go_wp2_with fail;refine(H2.out _).mono ?_;rintro e v1 ⟨rfl,mW⟩;have dR:=fK.trans (mW.mono fK.size);obtain⟨x0,x1,x2,x3,x4,x5,x6,x7,x8,xz⟩:=pU.out.below dR (by have:=qv.out;omega)
         dsimp only at x0 x1 x2 x3 x4 x5 x6 x7 x8;go_wp2_with fail;go_ret;exact⟨rfl,au.trans (dR.mono au.size)⟩
       ·have h1:gq gg 1 2147483647=false:=by simpa using h1
        obtain rfl:r=false:=by rw[hr,h0,h1];try rfl
        have hc0:=fun W=>between i 1 2147483647 W;rw[h0]at hc0;have dF:=fun W=>between gg 1 2147483647 W;rw[h1]at dF;clear h0 h1 hr;have H0:=Qh hc0;clear hc0;have H1:=Qh dF;clear dF;go_wp2_with fail;refine(H0.out _).mono ?_;rintro e w' ⟨rfl,rfl⟩;go_wp2_with fail;refine(H1.out _).mono ?_;rintro e w' ⟨rfl,rfl⟩;go_wp2_with fail;go_ret;exact⟨rfl,au.trans (fK.mono au.size)⟩
      ·have h0:gq i 1 2147483647=false:=by simpa using h0
       obtain rfl:r=false:=by rw[hr,h0];try rfl
       have hc0:=fun W=>between i 1 2147483647 W;rw[h0]at hc0;clear h0 hr;have H0:=Qh hc0;clear hc0;go_wp2_with fail;refine(H0.out _).mono ?_;rintro e w' ⟨rfl,rfl⟩;go_wp2_with fail;go_ret;exact⟨rfl,au.trans (fK.mono au.size)⟩
     ·have hr:r=decide (len≤255):=by rw[HR.out,mq (by omega),Bool.true_and];simp[okF]
      clear HR mF
      by_cases h0:decide (len≤255)=true
      ·obtain rfl:r=true:=by rw[hr,h0];try rfl
       have d0:decide ((len:Int)≤255)=true:=by have:=of_decide_eq_true h0;exact decide_eq_true (by omega)
       clear h0 hr;go_wp2_with fail;go_ret;exact⟨rfl,au.trans (fK.mono au.size)⟩
      ·have h0:decide (len≤255)=false:=by simpa using h0
       obtain rfl:r=false:=by rw[hr,h0];try rfl
       have d0:decide ((len:Int)≤255)=false:=by have:=of_decide_eq_false h0;exact decide_eq_false (by omega)
       clear h0 hr;go_wp2_with fail;go_ret;exact⟨rfl,au.trans (fK.mono au.size)⟩
     ·have hr:r=true:=by rw[HR.out,mq (by omega),Bool.true_and];simp[okF]
      clear HR mF;obtain rfl:r=true:=hr;go_wp2_with fail;go_ret;exact⟨rfl,au.trans (fK.mono au.size)⟩
     ·have hr:r=(decide (2≤len)&&decide (last≠9)):=by rw[HR.out,mq (by omega),Bool.true_and];simp[okF]
      clear HR
      by_cases h0:2≤len
      ·obtain⟨g0,o0,rfl,hcell,yB⟩:=mF.out h0;obtain⟨m,rfl⟩:∃m,len=m+2:=⟨len-2,by omega⟩;rw[show m+2-1=m+1 by omega]at hcell;have hcell:=(dY.cell (p:=⟨g0,o0+(m+1)*9,none⟩) (by simp;omega)).trans hcell;rw[decide_eq_true h0,Bool.true_and]at hr;clear mF
       by_cases h1:last≠9
       ·obtain rfl:r=true:=by rw[hr,decide_eq_true h1]
        have hq:(last != 9)=true:=by simpa using h1
        clear hr h1 h0;go_wp2_with fail;go_ret;exact⟨rfl,au.trans (fK.mono au.size)⟩
       ·obtain rfl:r=false:=by rw[hr,decide_eq_false h1]
        have hq:(last != 9)=false:=by simpa using h1
        clear hr h1 h0;go_wp2_with fail;go_ret;exact⟨rfl,au.trans (fK.mono au.size)⟩
      ·obtain rfl:r=false:=by rw[hr,decide_eq_false h0];rfl
       have hq:decide (2≤(len:Int))=false:=decide_eq_false (by omega);clear hr h0 mF;go_wp2_with fail;go_ret;exact⟨rfl,au.trans (fK.mono au.size)⟩
     ·have hr:r=kU ⟨10,i,gg,nm,fn,ar,aL,bt⟩:=by rw[HR.out,mq (by omega),Bool.true_and];simp[okF]
      clear HR mF
      by_cases h0:kU ⟨10,i,gg,nm,fn,ar,aL,bt⟩=true
      ·obtain rfl:r=true:=by rw[hr,h0];try rfl
       have hc0:=fun W=>MT 10 i gg nm fn ar aL bt p len c W;rw[h0]at hc0;unfold aj aV at hc0;clear h0 hr;have H0:=Qh hc0;clear hc0;go_wp2_with fail;refine(H0.out _).mono ?_;rintro e v1 ⟨rfl,mW⟩;have dR:=fK.trans (mW.mono fK.size);obtain⟨x0,x1,x2,x3,x4,x5,x6,x7,x8,xz⟩:=pU.out.below dR (by have:=qv.out;omega);dsimp only at x0 x1 x2 x3 x4 x5 x6 x7 x8;go_wp2_with fail;go_ret;exact⟨rfl,au.trans (dR.mono au.size)⟩
      ·have h0:kU ⟨10,i,gg,nm,fn,ar,aL,bt⟩=false:=by simpa using h0
       obtain rfl:r=false:=by rw[hr,h0];try rfl
       have hc0:=fun W=>MT 10 i gg nm fn ar aL bt p len c W;rw[h0]at hc0;unfold aj aV at hc0;clear h0 hr;have H0:=Qh hc0;clear hc0;go_wp2_with fail;refine(H0.out _).mono ?_;rintro e v1 ⟨rfl,mW⟩;have dR:=fK.trans (mW.mono fK.size);obtain⟨x0,x1,x2,x3,x4,x5,x6,x7,x8,xz⟩:=pU.out.below dR (by have:=qv.out;omega);dsimp only at x0 x1 x2 x3 x4 x5 x6 x7 x8;go_wp2_with fail;go_ret;exact⟨rfl,au.trans (dR.mono au.size)⟩
    ·have hr:r=false:=by rw[HR.out,Sd ways _ rfl,Bool.and_false]
     subst hr;have q1:(k==1)=false:=by simp;omega
     have q2:(k==2)=false:=by simp;omega
     have q3:(k==3)=false:=by simp;omega
     have q4:(k==4)=false:=by simp;omega
     have q5:(k==5)=false:=by simp;omega
     have q6:(k==6)=false:=by simp;omega
     have q7:(k==7)=false:=by simp;omega
     have q8:(k==8)=false:=by simp;omega
     have q9:(k==9)=false:=by simp;omega
     have NQ:(k==10)=false:=by simp;omega
     clear ways HR mF;go_wp2_with fail;go_ret;exact⟨rfl,au.trans (fK.mono au.size)⟩
 ·have hz:zb=false:=by simpa using hz
  subst hz;obtain rfl:r=false:=by rw[HF.out,Bool.and_false,Bool.and_false,Bool.false_and]
  go_wp2_with fail;go_ret;exact⟨rfl,au.trans (hb.mono au.size)⟩
theorem Hz:∀n,K9 n
 | 0=>Ez (fun m h=>by omega)
 | n+1=>Ez (fun m h=>by
  obtain rfl:n=m:=by omega
  exact Hz n)
end Go.Proofs.YtfbggmbmgohiiaaGreat.tm
