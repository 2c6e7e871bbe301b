/- TmS. No condition beyond theirs. -/
import Derived.Test.YtfbggmbmgohiiaaGreatR24
import Derived.Test.YtfbggmbmgohiiaaGreatR15
set_option linter.unusedSimpArgs false
set_option linter.unusedVariables false
set_option maxHeartbeats 4000000
set_option maxRecDepth 100000
namespace Go.Proofs.YtfbggmbmgohiiaaGreat.tm
open Go.RowKit mem names
theorem oI{n:Nat}(t:Tm (n+1))(h:G_ t=true):1≤gO t.f t.items.length∧(gO t.f t.items.length≤(t.items.length:Int)-1∨gO t.f t.items.length≤257)∧(t.f.kind=9→2≤t.items.length)∧(t.f.kind=10→0≤t.f.bits∧t.f.bits≤16384):=by
 unfold G_ at h;simp only[Bool.and_eq_true]at h;obtain⟨a,b,c,d,_⟩:=ve h.2.1 trivial;exact⟨a,b,c,d⟩
theorem tF{n:Nat}(t:Tm (n+1))(l:List (Tm (n+1))):cF (n+1) (t::l)=cD t+cF (n+1) l:=by
 unfold cF cD;simp
theorem jT{n:Nat}(t:Tm (n+1))(l:List (Tm (n+1))):aP (n+1) (t::l)=ap t+aP (n+1) l:=by
 unfold aP ap;simp
theorem nl{n:Nat}(t:Tm (n+1))(l:List (Tm (n+1))):bp (n+1) (t::l)=(aJ t&&bp (n+1) l):=by
 unfold bp aJ;simp
theorem rm:∀(n:Nat) (l:List (Tm n)),bp n l=true→0≤cF n l∧cF n l≤300*aP n l-l.length:=by
 intro n
 induction n with
 | zero=>intro l _;rw[Tm.js l];simp[cF,aP]
 | succ n ih =>
  intro l
  induction l with
  | nil=>intro _;simp[cF,aP]
  | cons t l ih2 =>
   intro h;rw[nl,Bool.and_eq_true]at h;obtain⟨h1,h2⟩:=h;obtain⟨a,b⟩:=ih2 h2;have h1':=h1;unfold aJ at h1';rw[Bool.and_eq_true]at h1';obtain⟨c,d⟩:=ih t.items h1'.2;obtain⟨e,f,_⟩:=oI t h1'.1;rw[tF,jT];unfold cD ap;simp only[List.length_cons]
   push_cast
   omega
theorem yN{n:Nat}(t:Tm (n+1))(h:aJ t=true):1≤cD t∧cD t≤300*ap t-1:=by
 unfold aJ at h;rw[Bool.and_eq_true]at h;obtain⟨c,d⟩:=rm n t.items h.2;obtain⟨e,f,_⟩:=oI t h.1;unfold cD ap
 push_cast
 omega
theorem qc{n:Nat}(a b:List (Tm (n+1))):aP (n+1) (a++b)=aP (n+1) a+aP (n+1) b:=by
 unfold aP;simp only[List.map_append,List.sum_append]
def yO(n:Nat):Prop:=∀(w:World) (B:Nat) (v:Value) (t:Tm (n+1)),B≤w.heap.size→ah w B n v t.items→aJ t=true→300*(ap t:Int)≤1000000000000 →
 Calls Tryz.prog 93 #[aj t.f v] w fun e w'=>e=.returned (.int .i64 (cD t))∧Below w.heap.size w w'
theorem K_{n:Nat}(ih:∀m,n=m+1→yO m)(w:World)(B:Nat)(p:Option Addr)(len c:Nat)(l:List (Tm n))(hlen:l.length=len)(hB:B≤w.heap.size)(hI:ah w B n (.slice p len c) l)(hf:bp n l=true)(hs:300*(aP n l:Int)≤1000000000000) :
 ∃ws ps:Nat→Int,(∀j,j<len→∃g o f' q m c',p=some ⟨g,o,none⟩∧g<w.heap.size∧Cells w g (o+j*9) f' (.slice q m c')∧∀W,Below w.heap.size w W→Calls Tryz.prog 93 #[aj f' (.slice q m c')] W fun e w'=>e=.returned (.int .i64 (ws j))∧Below W.heap.size W w') ∧
  ps 0=0∧(∀j,j<len→ps (j+1)=ps j+ws j)∧ps len=cF n l∧(∀j,j≤len→0≤ps j∧ps j≤1000000000000)∧(∀j,j<len→0≤ws j∧ws j≤1000000000000):=by
 cases n with
 | zero =>
  obtain rfl:=Tm.js l;subst hlen;exact⟨fun _=>0,fun _=>0,fun j hj=>absurd hj (by simp),rfl,fun _ _=>rfl,rfl,fun _ _=>⟨by simp,by simp⟩,fun _ _=>⟨by simp,by simp⟩⟩
 | succ n =>
  subst hlen;obtain⟨ws,Wb⟩:∃ws:Nat→Int,∀j,(h:j<l.length)→ws j=cD l[j]:=⟨fun j=>if h:j<l.length then cD l[j] else 0,fun j h=>dif_pos h⟩;have Wc:∀j,(h:j<l.length)→aJ l[j]=true:=fun j h=>by
   unfold bp at hf;rw[List.all_eq_true]at hf;exact hf l[j] (List.getElem_mem h)
  have YC:∀j,(h:j<l.length)→300*(ap l[j]:Int)≤1000000000000:=fun j h=>by
   have:=iK h;omega
  refine⟨ws,fun j=>cF (n+1) (l.take j),fun j hj=>?_,?_,fun j hj=>?_,?_,fun j hj=>?_,fun j hj=>?_⟩
  ·obtain⟨g,o,c2,e,_,_,hg,hx⟩:=hI.at_ (by intro e;subst e;simp at hj);obtain⟨u,hC,gR⟩:=hx j hj;simp only[Value.slice.injEq]at e;obtain⟨q,c',rfl,_,_⟩:=gR.shape;refine⟨g,o,l[j].f,q,_,c',e.1,by omega,hC,fun W hb=>?_⟩;rw[Wb j hj];exact ih n rfl W B _ l[j] (Nat.le_trans hB hb.size) (gR.below hb hB) (Wc j hj) (YC j hj)
  ·simp[cF]
  ·rw[Wb j hj];exact qt l j hj
  ·show cF (n+1) (l.take l.length)=_;rw[List.take_of_length_le (Nat.le_refl _)]
  ·have hfl:bp (n+1) (l.take j)=true:=m_ (fun k hk=>by
    rw[List.getElem_take];exact Wc k (by simp at hk;omega))
   obtain⟨a,b⟩:=rm (n+1) _ hfl;refine⟨a,?_⟩;have hle:aP (n+1) (l.take j)≤aP (n+1) l:=by
    have e:aP (n+1) l=aP (n+1) (l.take j++l.drop j):=by rw[List.take_append_drop]
    rw[e,qc];omega
   show cF (n+1) (l.take j)≤_;omega
  ·rw[Wb j hj];obtain⟨a,b⟩:=yN l[j] (Wc j hj);have:=YC j hj;omega
theorem xK{n:Nat}(ih:∀m,n=m+1→yO m):yO n:=by
 intro w B v t hB hI hft hs;obtain⟨p,c,rfl,hlc,gW⟩:=hI.shape;unfold maxLen at gW;generalize hlen:t.items.length=len at*;have HU:=hft;unfold aJ at HU;rw[Bool.and_eq_true]at HU;have Se:300*(aP n t.items:Int)≤1000000000000:=by unfold ap at hs;omega
 obtain⟨ws,ps,pV,QZ,hps,tV,YD,YE⟩:=K_ ih w B p len c t.items hlen hB hI HU.2 Se;obtain⟨bT,bX,YF,Wd⟩:=oI t HU.1;have Uv:=iJ n t.items;rw[hlen]at bT bX YF Uv;have hlb:(len:Int)≤1000000000000:=by omega
 have hW:cD t=gO t.f len+ps len:=by unfold cD;rw[hlen,tV]
 clear ih hI hft HU hs Se Uv tV gW;generalize cD t=W,hf:t.f=f at*;clear hf hlen;obtain⟨k,i,gg,nm,fn,ar,aL,bt⟩:=f;unfold aj at*;dsimp only at*;have tU:=Qh pV;have We:=Qh QZ;have Wf:=Qh hps;have Wh:=Qh YD;have Wi:=Qh YE;have HW:=Qh hW;clear pV QZ hps YD hW YE
 by_cases h9:k=9
 ·subst h9;have jC:=YF rfl;have YG:IntKind.i64.wrap ((len:Int)-1)=(len:Int)-1:=IntWalk.i64_in _ (by omega);go_enter Tryz.func93,Tryz.ntmps93;go_wp2_with fail;obtain⟨W0,AM⟩:∃x,x=w.alloc (.cells (a9 9 i gg nm fn ar (.slice p len c) aL bt) 24):=⟨_,rfl⟩;have EB:gu W0 w.heap.size ⟨9,i,gg,nm,fn,ar,aL,bt⟩ (.slice p len c):=by rw[AM];exact aW (MapKept.heap_alloc w _).1
  have au:Qb w W0:=by rw[AM];exact(Below.refl _ _).alloc (Nat.le_refl _) _
  have hsz:W0.heap.size=w.heap.size+1:=by rw[AM];simp
  rw[←AM];clear AM;have qv:=Qh hsz;clear hsz;have pU:=Qh EB;clear EB;go_loopw [3,4] (fun a s wr=>∃(j:Nat) (x:Int),a=.int .i64 x∧s=.int .i64 j∧j≤len∧Hid (x=((len:Int)-1)+ps j)∧Qb W0 wr) (fun _ s _=>len-(intOf s).toNat)
  case atStart=>exact⟨0,((len:Int)-1),rfl,rfl,by omega,Qh (by rw[We.out];omega),Below.refl _ _⟩
  case round=>
   obtain⟨j,x,rfl,rfl,hj,HX,fK⟩:=hrel;have dY:Qb w wr:=au.trans (fK.mono au.size);have hN:=pU.out.below fK (by have:=qv.out;omega);obtain⟨x0,x1,x2,x3,x4,x5,x6,x7,x8,xz⟩:=hN;dsimp only at x0 x1 x2 x3 x4 x5 x6 x7 x8
   by_cases hlt:j<len
   ·obtain⟨g0,o0,f',q,m,c',rfl,yB,hC,cT⟩:=tU.out j hlt;have hC:=hC.same (dY.block g0 yB);obtain⟨y0,y1,y2,y3,y4,y5,y6,y7,y8⟩:=hC;have HC:=Qh (cT wr dY);clear cT;unfold aj at HC;have Sf:=HX.out;have Sg:=Wh.out j (by omega);have Sh:=Wi.out j hlt;have YH:IntKind.i64.wrap (x+ws j)=x+ws j:=IntWalk.i64_in _ (by omega);have Hg:Hid (x+ws j=((len:Int)-1)+ps (j+1)):=Qh (by rw[Wf.out j hlt];omega);clear Sf Sg Sh;go_wp2_with fail;refine HC.out.mono ?_;rintro e w3 ⟨rfl,bN⟩;have dS:=fK.trans (bN.mono fK.size);go_wp2_with fail;go_roundw
    case rel=>exact⟨j+1,x+ws j,rfl,by go_num,by omega,Hg,dS⟩
    case measure=>simp[intOf];omega
   ·obtain rfl:j=len:=by omega
    have bP:x=W:=by rw[HX.out,HW.out];unfold gO;dsimp only;rw[if_pos rfl]
    have eU:=Qh bP;clear bP;go_wp2_with fail;go_ret;exact⟨CN eU.out,au.trans (fK.mono au.size)⟩
 ·by_cases lC:k=10
  ·subst lC;have KO:=Wd rfl;have hd1:(bt+63).tdiv 64=(bt+63)/64:=Int.tdiv_eq_ediv_of_nonneg (by omega);have hw1:IntKind.i64.wrap (bt+63)=bt+63:=IntWalk.i64_in _ (by omega);have td:IntKind.i64.wrap ((bt+63)/64)=(bt+63)/64:=IntWalk.i64_in _ (by omega);have CS:IntKind.i64.wrap (1+(bt+63)/64)=1+(bt+63)/64:=IntWalk.i64_in _ (by omega);go_enter Tryz.func93,Tryz.ntmps93;go_wp2_with fail;obtain⟨W0,AM⟩:∃x,x=w.alloc (.cells (a9 10 i gg nm fn ar (.slice p len c) aL bt) 24):=⟨_,rfl⟩
   have EB:gu W0 w.heap.size ⟨10,i,gg,nm,fn,ar,aL,bt⟩ (.slice p len c):=by rw[AM];exact aW (MapKept.heap_alloc w _).1
   have au:Qb w W0:=by rw[AM];exact(Below.refl _ _).alloc (Nat.le_refl _) _
   have hsz:W0.heap.size=w.heap.size+1:=by rw[AM];simp
   rw[←AM];clear AM;have qv:=Qh hsz;clear hsz;have pU:=Qh EB;clear EB;go_loopw [3,4] (fun a s wr=>∃(j:Nat) (x:Int),a=.int .i64 x∧s=.int .i64 j∧j≤len∧Hid (x=(1+(bt+63)/64)+ps j)∧Qb W0 wr) (fun _ s _=>len-(intOf s).toNat)
   case atStart=>exact⟨0,(1+(bt+63)/64),rfl,rfl,by omega,Qh (by rw[We.out];omega),Below.refl _ _⟩
   case round=>
    obtain⟨j,x,rfl,rfl,hj,HX,fK⟩:=hrel;have dY:Qb w wr:=au.trans (fK.mono au.size);have hN:=pU.out.below fK (by have:=qv.out;omega);obtain⟨x0,x1,x2,x3,x4,x5,x6,x7,x8,xz⟩:=hN;dsimp only at x0 x1 x2 x3 x4 x5 x6 x7 x8
    by_cases hlt:j<len
    ·obtain⟨g0,o0,f',q,m,c',rfl,yB,hC,cT⟩:=tU.out j hlt;have hC:=hC.same (dY.block g0 yB);obtain⟨y0,y1,y2,y3,y4,y5,y6,y7,y8⟩:=hC;have HC:=Qh (cT wr dY);clear cT;unfold aj at HC;have Sf:=HX.out;have Sg:=Wh.out j (by omega);have Sh:=Wi.out j hlt;have YH:IntKind.i64.wrap (x+ws j)=x+ws j:=IntWalk.i64_in _ (by omega);have Hg:Hid (x+ws j=(1+(bt+63)/64)+ps (j+1)):=Qh (by rw[Wf.out j hlt];omega);clear Sf Sg Sh;go_wp2_with fail;refine HC.out.mono ?_;rintro e w3 ⟨rfl,bN⟩;have dS:=fK.trans (bN.mono fK.size);go_wp2_with fail;go_roundw
     case rel=>exact⟨j+1,x+ws j,rfl,by go_num,by omega,Hg,dS⟩
     case measure=>simp[intOf];omega
    ·obtain rfl:j=len:=by omega
     have bP:x=W:=by rw[HX.out,HW.out];unfold gO;dsimp only;rw[if_neg (by decide),if_pos rfl]
     have eU:=Qh bP;clear bP;go_wp2_with fail;go_ret;exact⟨CN eU.out,au.trans (fK.mono au.size)⟩
  ·have q9:(k==9)=false:=by simp[h9]
   have NQ:(k==10)=false:=by simp[lC]
   go_enter Tryz.func93,Tryz.ntmps93;go_wp2_with fail;obtain⟨W0,AM⟩:∃x,x=w.alloc (.cells (a9 k i gg nm fn ar (.slice p len c) aL bt) 24):=⟨_,rfl⟩;have EB:gu W0 w.heap.size ⟨k,i,gg,nm,fn,ar,aL,bt⟩ (.slice p len c):=by rw[AM];exact aW (MapKept.heap_alloc w _).1
   have au:Qb w W0:=by rw[AM];exact(Below.refl _ _).alloc (Nat.le_refl _) _
   have hsz:W0.heap.size=w.heap.size+1:=by rw[AM];simp
   rw[←AM];clear AM;have qv:=Qh hsz;clear hsz;have pU:=Qh EB;clear EB;go_loopw [3,4] (fun a s wr=>∃(j:Nat) (x:Int),a=.int .i64 x∧s=.int .i64 j∧j≤len∧Hid (x=(1:Int)+ps j)∧Qb W0 wr) (fun _ s _=>len-(intOf s).toNat)
   case atStart=>exact⟨0,(1:Int),rfl,rfl,by omega,Qh (by rw[We.out];omega),Below.refl _ _⟩
   case round=>
    obtain⟨j,x,rfl,rfl,hj,HX,fK⟩:=hrel;have dY:Qb w wr:=au.trans (fK.mono au.size);have hN:=pU.out.below fK (by have:=qv.out;omega);obtain⟨x0,x1,x2,x3,x4,x5,x6,x7,x8,xz⟩:=hN;dsimp only at x0 x1 x2 x3 x4 x5 x6 x7 x8
    by_cases hlt:j<len
    ·obtain⟨g0,o0,f',q,m,c',rfl,yB,hC,cT⟩:=tU.out j hlt;have hC:=hC.same (dY.block g0 yB);obtain⟨y0,y1,y2,y3,y4,y5,y6,y7,y8⟩:=hC;have HC:=Qh (cT wr dY);clear cT;unfold aj at HC;have Sf:=HX.out;have Sg:=Wh.out j (by omega);have Sh:=Wi.out j hlt;have YH:IntKind.i64.wrap (x+ws j)=x+ws j:=IntWalk.i64_in _ (by omega);have Hg:Hid (x+ws j=(1:Int)+ps (j+1)):=Qh (by rw[Wf.out j hlt];omega);clear Sf Sg Sh;go_wp2_with fail;refine HC.out.mono ?_;rintro e w3 ⟨rfl,bN⟩;have dS:=fK.trans (bN.mono fK.size);go_wp2_with fail;go_roundw
     case rel=>exact⟨j+1,x+ws j,rfl,by go_num,by omega,Hg,dS⟩
     case measure=>simp[intOf];omega
    ·obtain rfl:j=len:=by omega
     have bP:x=W:=by rw[HX.out,HW.out];unfold gO;dsimp only;rw[if_neg h9,if_neg lC]
     have eU:=Qh bP;clear bP;go_wp2_with fail;go_ret;exact⟨CN eU.out,au.trans (fK.mono au.size)⟩
theorem AO:∀n,yO n
 | 0=>xK (fun m h=>by omega)
 | n+1=>xK (fun m h=>by
  obtain rfl:n=m:=by omega
  exact AO n)
theorem Ob{n:Nat}(w:World)(B:Nat)(v:Value)(t:Tm (n+1))(hB:B≤w.heap.size)(hI:ah w B n v t.items)(mB:300*(ap t:Int)≤1000000000000) :
 Calls Tryz.prog 62 #[aj t.f v] w fun e w'=>e=.returned (.int .i64 (ni t))∧Below w.heap.size w w':=by
 obtain⟨p,c,rfl,_,hc⟩:=hI.shape;have hF:=fun(W:World) (hb:Qb w W)=>Hz n W B _ t (Nat.le_trans hB hb.size) (hI.below hb hB);have hW:=fun(h:aJ t=true) (W:World) (hb:Qb w W)=>AO n W B _ t (Nat.le_trans hB hb.size) (hI.below hb hB) h mB;have MR:ni t=(if aJ t=true then(if cD t≤2000 then 0 else 3) else 2):=rfl;have HF:=Qh hF;have HW:=Qh hW;have Kl:=Qh MR;clear hF hW hI mB MR;generalize ni t=ck,aJ t=ok,cD t=W,t.f=f,t.items.length=len at*;obtain⟨k,i,gg,nm,fn,ar,aL,bt⟩:=f;unfold aj aV at*;dsimp only at*
 go_enter Tryz.func62,Tryz.ntmps62;go_wp2_with fail;have hb0:=(Below.refl w.heap.size w).alloc (Nat.le_refl _) (.cells (a9 k i gg nm fn ar (.slice p len c) aL bt) 24);have h9:=(MapKept.heap_alloc w (.cells (a9 k i gg nm fn ar (.slice p len c) aL bt) 24)).1;have EB:=aW (f:=⟨k,i,gg,nm,fn,ar,aL,bt⟩) (v:=.slice p len c) h9;have pU:=Qh EB;clear EB h9;refine(HF.out _ hb0).mono ?_;rintro e w1 ⟨rfl,aD⟩;have a_:=hb0.trans (aD.mono (by simp));obtain⟨x0,x1,x2,x3,x4,x5,x6,x7,x8,xz⟩:=pU.out.below aD (by simp);dsimp only at x0 x1 x2 x3 x4 x5 x6 x7 x8;clear hb0 aD pU HF
 by_cases hok:ok=true
 ·subst hok;go_wp2_with fail;refine(HW.out (by simp) _ a_).mono ?_;rintro e w2 ⟨rfl,bN⟩;have dS:=a_.trans (bN.mono a_.size)
  by_cases hw:W≤2000
  ·have q:decide (2000<W)=false:=decide_eq_false (by omega);obtain rfl:ck=0:=by rw[Kl.out];simp[hw]
   clear hw Kl;go_wp2_with fail;go_ret;exact⟨rfl,dS⟩
  ·have q:decide (2000<W)=true:=decide_eq_true (by omega);obtain rfl:ck=3:=by rw[Kl.out];simp[hw]
   clear hw Kl;go_wp2_with fail;go_ret;exact⟨rfl,dS⟩
 ·have hok:ok=false:=by simpa using hok
  subst hok;obtain rfl:ck=2:=by rw[Kl.out];simp
  clear Kl;go_wp2_with fail;go_ret;exact⟨rfl,a_⟩
theorem gA{n:Nat}(w:World)(B:Nat)(v:Value)(t:Tm (n+1))(hB:B≤w.heap.size)(hI:ah w B n v t.items)(mB:300*(ap t:Int)≤1000000000000) :
 Calls Tryz.prog 28 #[aj t.f v] w (aV (aC t) w):=by
 obtain⟨p,c,rfl,_,hc⟩:=hI.shape;have hC:=fun(W:World) (hb:Qb w W)=>Ob W B _ t (Nat.le_trans hB hb.size) (hI.below hb hB) mB;have hv:=AE t;have HC:=Qh hC;clear hC hI mB;generalize ni t=ck,aC t=vt,t.f=f,t.items.length=len at*;obtain⟨k,i,gg,nm,fn,ar,aL,bt⟩:=f;unfold aj at*;dsimp only at*;go_enter Tryz.func28,Tryz.ntmps28;go_wp2_with fail;refine(HC.out _ ((Below.refl _ _).alloc (Nat.le_refl _) _)).mono ?_;rintro e w1 ⟨rfl,hb⟩;go_wp2_with fail;go_ret;exact⟨rfl,((Below.refl w.heap.size w).alloc (Nat.le_refl _) _).trans (hb.mono (by simp))⟩
end Go.Proofs.YtfbggmbmgohiiaaGreat.tm
