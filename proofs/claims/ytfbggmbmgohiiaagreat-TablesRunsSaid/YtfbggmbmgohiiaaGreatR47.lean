/- TeI,TrA,TrB,TrD,TrE. No condition beyond theirs. -/
import Derived.Test.YtfbggmbmgohiiaaGreatR43
set_option linter.unusedSimpArgs false
set_option linter.unusedVariables false
set_option maxHeartbeats 4000000
set_option maxRecDepth 100000
namespace Go.Proofs.YtfbggmbmgohiiaaGreat.tb
open Go.RowKit mem rec tm names
noncomputable def uj{N:Nat}(T:List (g6 N))(r:Tm (N+1)):Nat:=T.findIdx (fun t=>!decide (cM t.ref r<0))
def MkI{N:Nat}(T:List (g6 N))(r:Tm (N+1))(w:World)(m:Nat)(iv:Value)(wr:World):Prop:=∃i:Nat,iv=.int .i64 (i:Int)∧i≤T.length∧m=T.length-i∧(∀j x,j<i→T[j]?=some x→cM x.ref r<0)∧Below w.heap.size w wr
def XO{N:Nat}(B y:Nat)(T:List (g6 N))(n:g6 N)(r:Tm (N+1))(w:World)(w':World):Prop:=∃CL,cY w' B y CL (([]++T.take (uj T r))++[n]++T.drop (uj T r))∧TT gC B w w'
theorem XP(w:World)(a:Addr)(v0 v:Value)(hv:v.oneCell'=true)(h:w.cell? a=some v0)(hf:w.frozen? a=false):(storeVar 37 a v).run Tryz.prog w=.ok () (w.setCell a v):=DB 37 (by kernel_rfl) w a v0 v hv h hf
theorem Fo{N:Nat}{T:List (g6 N)}{r:Tm (N+1)}{i:Nat}(hi:i≤T.length)(h:∀j x,j<i→T[j]?=some x→cM x.ref r<0)(hn:∀x,T[i]?=some x→¬cM x.ref r<0):uj T r=i:=by
 unfold uj
 by_cases hlt:i<T.length
 ·rw[List.findIdx_eq hlt]
  refine⟨?_,fun j hj=>?_⟩
  ·have:=hn _ (List.getElem?_eq_getElem hlt);simpa using this
  ·have:=h j _ hj (List.getElem?_eq_getElem (by omega));simpa using this
 ·obtain rfl:i=T.length:=by omega
  exact List.findIdx_eq_length.2 (fun x hx=>by
   obtain⟨j,hj⟩:=List.mem_iff_getElem?.1 hx
   have:=h j x (List.getElem?_eq_some_iff.1 hj).1 hj
   simpa using this)
section
variable {N:Nat}{w w' W:World}{B y:Nat}{lv:Value}{T:List (g6 N)}{r o:Tm (N+1)}{fF rZ:Value}
theorem cY.P_(h:cY w B y lv T)(hb:Below w.heap.size w W){CL:Value}{T':List (g6 N)}(hown:aA ku 53 20 W w.heap.size CL T')(ht:∀t∈T',mN W B t) :
 cY (W.setCell ⟨y,0,none⟩ CL) B y CL T'∧TT gC B w (W.setCell ⟨y,0,none⟩ CL):=by
 have hBw:=h.blt;have hyw:=h.ylt;have fQ:∀q,q≠y→(W.setCell ⟨y,0,none⟩ CL).heap[q]?=W.heap[q]?:=fun q hq=>Below.heap_setCell _ _ _ _ hq;have UW:=(h.below hb).obj;have rF:=h.low;have hty:dA W y=some 39:=br UW
 refine⟨⟨fp UW CL,(hown.base (base':=B) (fun k hk=>Nat.le_trans hBw (hown.lt hk).1)).same (fun q hq=>fQ q (by have:=(hown.lt hq).1;omega)),fun t Kk=>(ht t Kk).keep (fun g hg=>fQ g (by omega)) (fun g hg=>fQ g (dX (dW (ht t Kk).rows hg) hty (by decide))),h.low⟩,ax.setCell ((ax.refl _ _).bJ hb (Nat.le_refl _)) _ _ (fun _=>⟨h.low,39,br h.obj,.inl rfl⟩)⟩
structure Gs(w:World)(B:Nat)(r o:Tm (N+1))(fF rZ:Value):Prop where
 ir:ah w B N fF r.items
 io:ah w B N rZ o.items
 nr:ap r≤100000000
 no:ap o≤100000000
theorem Mg(h:cY w B y lv T)(hT:T.length≤1000)(a:Gs w B r o fF rZ)(hs:Bool)(hk:(decide (r.f.kind=3)&&aC r)=false) :
 Calls Tryz.prog 20 #[.pointer (some ⟨y,0,none⟩),aj r.f fF,aj o.f rZ,.bool hs] w fun e w'=>e=.returned (.int .i64 2)∧Below w.heap.size w w':=by
 have hB:=h.blt;have iY:=Qh (fun(W:World) (hW:Qb w W)=>jN (w:=W) (t:=r) (u:=fF) 3 (Nat.le_trans hB hW.size) (a.ir.below hW hB) a.nr);have lI:=Qh (fun(W:World) (hW:Qb w W)=>jN (w:=W) (t:=o) (u:=rZ) 6 (Nat.le_trans hB hW.size) (a.io.below hW hB) a.no);have cB:=Qh (fun(W:World) (hW:Qb w W)=>lq (h.below hW) hT (Nat.le_trans hB hW.size) (a.ir.below hW hB));obtain⟨pr,cr,e1,_,_⟩:=a.ir.shape;obtain⟨po,co,e2,_,_⟩:=a.io.shape;rw[hk]at iY;rw[e1]at iY cB ⊢;rw[e2]at lI ⊢;clear h hT a hB e1 e2;generalize r.items.length=nr at*;generalize o.items.length=no at*
 generalize lJ:r.f=fr at*;generalize vO:o.f=fo at*;obtain⟨rk,ri,rg,rn,rf,ra,rb,rz⟩:=fr;obtain⟨ok,oi,og,on,of,oa,ob,oz⟩:=fo;unfold aj aV at*;dsimp only at*;obtain⟨hb0,cI,cS⟩:=bI w (.cells (a9 rk ri rg rn rf ra (.slice pr nr cr) rb rz) 24) (.cells (a9 ok oi og on of oa (.slice po no co) ob oz) 24);have dM:=(Qg cI);have fA:=(Qg cS);go_enter Tryz.func20,Tryz.ntmps20;go_upto_region 1 with(fail);generalize((w.alloc (.cells (a9 rk ri rg rn rf ra (.slice pr nr cr) rb rz) 24)).alloc (.cells (a9 ok oi og on of oa (.slice po no co) ob oz) 24))=W1 at*
 have HX:=Qh (fun W (hW:Qb W1 W)=>(And.intro (aq (x:=(l9 rk ri rg rn rf ra (.slice pr nr cr) rb rz)) ((hW.block _ dM).trans cI)) (aq (x:=(l9 ok oi og on of oa (.slice po no co) ob oz)) ((hW.block _ fA).trans cS))));have Ns:=Qh (fun W (hW:Qb W1 W)=>(hW.block _ fA).trans cS);have hb:=Below.refl W1.heap.size W1;have bu:=Qh hb0;have au:=hb0;clear cI cS dM fA hb0;have Bd:=Qh (HX.out _ hb).1;go_wp2_with (first
  | (refine Ql Bd.out ?_))
 refine(iY.out _ au).mono ?_;rintro e w2 ⟨rfl,aD⟩;replace hb:=hb.trans (aD.mono hb.size);replace au:=au.trans (aD.mono au.size);clear aD iY Bd;go_wp2_with fail;go_ret;exact⟨rfl,au⟩
theorem Mh(h:cY w B y lv T)(hT:T.length≤1000)(a:Gs w B r o fF rZ)(hs:Bool)(hk:(decide (r.f.kind=3)&&aC r)=true)(hv:(decide (o.f.kind=6)&&aC o)=false) :
 Calls Tryz.prog 20 #[.pointer (some ⟨y,0,none⟩),aj r.f fF,aj o.f rZ,.bool hs] w fun e w'=>e=.returned (.int .i64 2)∧Below w.heap.size w w':=by
 have hB:=h.blt;have iY:=Qh (fun(W:World) (hW:Qb w W)=>jN (w:=W) (t:=r) (u:=fF) 3 (Nat.le_trans hB hW.size) (a.ir.below hW hB) a.nr);have lI:=Qh (fun(W:World) (hW:Qb w W)=>jN (w:=W) (t:=o) (u:=rZ) 6 (Nat.le_trans hB hW.size) (a.io.below hW hB) a.no);have cB:=Qh (fun(W:World) (hW:Qb w W)=>lq (h.below hW) hT (Nat.le_trans hB hW.size) (a.ir.below hW hB));obtain⟨pr,cr,e1,_,_⟩:=a.ir.shape;obtain⟨po,co,e2,_,_⟩:=a.io.shape;rw[hk]at iY;rw[hv]at lI;rw[e1]at iY cB ⊢;rw[e2]at lI ⊢;clear h hT a hB e1 e2;generalize r.items.length=nr at*
 generalize o.items.length=no at*;generalize lJ:r.f=fr at*;generalize vO:o.f=fo at*;obtain⟨rk,ri,rg,rn,rf,ra,rb,rz⟩:=fr;obtain⟨ok,oi,og,on,of,oa,ob,oz⟩:=fo;unfold aj aV at*;dsimp only at*;obtain⟨hb0,cI,cS⟩:=bI w (.cells (a9 rk ri rg rn rf ra (.slice pr nr cr) rb rz) 24) (.cells (a9 ok oi og on of oa (.slice po no co) ob oz) 24);have dM:=(Qg cI);have fA:=(Qg cS);go_enter Tryz.func20,Tryz.ntmps20;go_upto_region 1 with(fail)
 generalize((w.alloc (.cells (a9 rk ri rg rn rf ra (.slice pr nr cr) rb rz) 24)).alloc (.cells (a9 ok oi og on of oa (.slice po no co) ob oz) 24))=W1 at*;have HX:=Qh (fun W (hW:Qb W1 W)=>(And.intro (aq (x:=(l9 rk ri rg rn rf ra (.slice pr nr cr) rb rz)) ((hW.block _ dM).trans cI)) (aq (x:=(l9 ok oi og on of oa (.slice po no co) ob oz)) ((hW.block _ fA).trans cS))));have Ns:=Qh (fun W (hW:Qb W1 W)=>(hW.block _ fA).trans cS);have hb:=Below.refl W1.heap.size W1;have bu:=Qh hb0;have au:=hb0;clear cI cS dM fA hb0;have Bd:=Qh (HX.out _ hb).1;go_wp2_with (first
  | (refine Ql Bd.out ?_))
 refine(iY.out _ au).mono ?_;rintro e w2 ⟨rfl,aD⟩;replace hb:=hb.trans (aD.mono hb.size);replace au:=au.trans (aD.mono au.size);clear aD iY Bd;obtain⟨x0,x1,x2,x3,x4,x5,x6,x7,x8,xf⟩:=aW (f:=⟨ok,oi,og,on,of,oa,ob,oz⟩) (v:=.slice po no co) (Ns.out _ hb);dsimp only at x0 x1 x2 x3 x4 x5 x6 x7 x8;go_wp2_with fail;refine(lI.out _ au).mono ?_;rintro e w3 ⟨rfl,aD⟩;replace hb:=hb.trans (aD.mono hb.size);replace au:=au.trans (aD.mono au.size);clear aD lI x0 x1 x2 x3 x4 x5 x6 x7 x8 xf;go_wp2_with fail;go_ret;exact⟨rfl,au⟩
theorem Mi(h:cY w B y lv T)(hT:T.length≤1000)(a:Gs w B r o fF rZ)(hs:Bool)(hk:(decide (r.f.kind=3)&&aC r)=true)(hv:(decide (o.f.kind=6)&&aC o)=true){i:Nat}(hr:jG T r=some i) :
 Calls Tryz.prog 20 #[.pointer (some ⟨y,0,none⟩),aj r.f fF,aj o.f rZ,.bool hs] w fun e w'=>e=.returned (.int .i64 8)∧Below w.heap.size w w':=by
 have hB:=h.blt;have iY:=Qh (fun(W:World) (hW:Qb w W)=>jN (w:=W) (t:=r) (u:=fF) 3 (Nat.le_trans hB hW.size) (a.ir.below hW hB) a.nr);have lI:=Qh (fun(W:World) (hW:Qb w W)=>jN (w:=W) (t:=o) (u:=rZ) 6 (Nat.le_trans hB hW.size) (a.io.below hW hB) a.no);have cB:=Qh (fun(W:World) (hW:Qb w W)=>lq (h.below hW) hT (Nat.le_trans hB hW.size) (a.ir.below hW hB));obtain⟨pr,cr,e1,_,_⟩:=a.ir.shape;obtain⟨po,co,e2,_,_⟩:=a.io.shape;rw[hk]at iY;rw[hv]at lI;rw[hr]at cB;unfold lm at cB;dsimp only at cB;rw[e1]at iY cB ⊢;rw[e2]at lI ⊢;clear h hT a hB e1 e2
 generalize r.items.length=nr at*;generalize o.items.length=no at*;generalize lJ:r.f=fr at*;generalize vO:o.f=fo at*;obtain⟨rk,ri,rg,rn,rf,ra,rb,rz⟩:=fr;obtain⟨ok,oi,og,on,of,oa,ob,oz⟩:=fo;unfold aj aV at*;dsimp only at*;obtain⟨hb0,cI,cS⟩:=bI w (.cells (a9 rk ri rg rn rf ra (.slice pr nr cr) rb rz) 24) (.cells (a9 ok oi og on of oa (.slice po no co) ob oz) 24);have dM:=(Qg cI);have fA:=(Qg cS);go_enter Tryz.func20,Tryz.ntmps20;go_upto_region 1 with(fail)
 generalize((w.alloc (.cells (a9 rk ri rg rn rf ra (.slice pr nr cr) rb rz) 24)).alloc (.cells (a9 ok oi og on of oa (.slice po no co) ob oz) 24))=W1 at*;have HX:=Qh (fun W (hW:Qb W1 W)=>(And.intro (aq (x:=(l9 rk ri rg rn rf ra (.slice pr nr cr) rb rz)) ((hW.block _ dM).trans cI)) (aq (x:=(l9 ok oi og on of oa (.slice po no co) ob oz)) ((hW.block _ fA).trans cS))));have Ns:=Qh (fun W (hW:Qb W1 W)=>(hW.block _ fA).trans cS);have hb:=Below.refl W1.heap.size W1;have bu:=Qh hb0;have au:=hb0;clear cI cS dM fA hb0;have Bd:=Qh (HX.out _ hb).1;go_wp2_with (first
  | (refine Ql Bd.out ?_))
 refine(iY.out _ au).mono ?_;rintro e w2 ⟨rfl,aD⟩;replace hb:=hb.trans (aD.mono hb.size);replace au:=au.trans (aD.mono au.size);clear aD iY Bd;obtain⟨x0,x1,x2,x3,x4,x5,x6,x7,x8,xf⟩:=aW (f:=⟨ok,oi,og,on,of,oa,ob,oz⟩) (v:=.slice po no co) (Ns.out _ hb);dsimp only at x0 x1 x2 x3 x4 x5 x6 x7 x8;go_wp2_with fail;refine(lI.out _ au).mono ?_;rintro e w3 ⟨rfl,aD⟩;replace hb:=hb.trans (aD.mono hb.size);replace au:=au.trans (aD.mono au.size);clear aD lI x0 x1 x2 x3 x4 x5 x6 x7 x8 xf;have dw:=Qh (HX.out _ hb).1;go_wp2_with (first
  | (refine Ql dw.out ?_))
 refine(cB.out _ au).mono ?_;rintro e w4 ⟨rfl,aD⟩;replace hb:=hb.trans (aD.mono hb.size);replace au:=au.trans (aD.mono au.size);clear aD cB dw;have r2:(0:Int)≤(i:Int):=by omega
 have r3:decide ((0:Int)≤(i:Int))=true:=decide_eq_true r2;go_wp2_with fail;go_ret;exact⟨rfl,au⟩
theorem Mj(h:cY w B y lv T)(hT:T.length≤1000)(a:Gs w B r o fF rZ)(hs:Bool)(hk:(decide (r.f.kind=3)&&aC r)=true)(hv:(decide (o.f.kind=6)&&aC o)=true)(hr:jG T r=none)(hfull:64≤T.length) :
 Calls Tryz.prog 20 #[.pointer (some ⟨y,0,none⟩),aj r.f fF,aj o.f rZ,.bool hs] w fun e w'=>e=.returned (.int .i64 5)∧Below w.heap.size w w':=by
 have hB:=h.blt;have iY:=Qh (fun(W:World) (hW:Qb w W)=>jN (w:=W) (t:=r) (u:=fF) 3 (Nat.le_trans hB hW.size) (a.ir.below hW hB) a.nr);have lI:=Qh (fun(W:World) (hW:Qb w W)=>jN (w:=W) (t:=o) (u:=rZ) 6 (Nat.le_trans hB hW.size) (a.io.below hW hB) a.no);have cB:=Qh (fun(W:World) (hW:Qb w W)=>lq (h.below hW) hT (Nat.le_trans hB hW.size) (a.ir.below hW hB));obtain⟨pl,cl,hlv,_,_⟩:=h.l.shape;have eC:=Qh (fun(W:World) (hW:Qb w W)=>cm (x:=[lv]) (h.below hW).obj 0 _ rfl);rw[hlv]at eC;obtain⟨pr,cr,e1,_,_⟩:=a.ir.shape;obtain⟨po,co,e2,_,_⟩:=a.io.shape;rw[hk]at iY
 rw[hv]at lI;rw[hr]at cB;unfold lm at cB;dsimp only at cB;rw[e1]at iY cB ⊢;rw[e2]at lI ⊢;clear h hT a hB e1 e2;generalize r.items.length=nr at*;generalize o.items.length=no at*;generalize lJ:r.f=fr at*;generalize vO:o.f=fo at*;obtain⟨rk,ri,rg,rn,rf,ra,rb,rz⟩:=fr;obtain⟨ok,oi,og,on,of,oa,ob,oz⟩:=fo;unfold aj aV at*;dsimp only at*;obtain⟨hb0,cI,cS⟩:=bI w (.cells (a9 rk ri rg rn rf ra (.slice pr nr cr) rb rz) 24) (.cells (a9 ok oi og on of oa (.slice po no co) ob oz) 24);have dM:=(Qg cI);have fA:=(Qg cS);go_enter Tryz.func20,Tryz.ntmps20
 go_upto_region 1 with(fail);generalize((w.alloc (.cells (a9 rk ri rg rn rf ra (.slice pr nr cr) rb rz) 24)).alloc (.cells (a9 ok oi og on of oa (.slice po no co) ob oz) 24))=W1 at*;have HX:=Qh (fun W (hW:Qb W1 W)=>(And.intro (aq (x:=(l9 rk ri rg rn rf ra (.slice pr nr cr) rb rz)) ((hW.block _ dM).trans cI)) (aq (x:=(l9 ok oi og on of oa (.slice po no co) ob oz)) ((hW.block _ fA).trans cS))));have Ns:=Qh (fun W (hW:Qb W1 W)=>(hW.block _ fA).trans cS);have hb:=Below.refl W1.heap.size W1;have bu:=Qh hb0;have au:=hb0;clear cI cS dM fA hb0;have Bd:=Qh (HX.out _ hb).1
 go_wp2_with (first
  | (refine Ql Bd.out ?_))
 refine(iY.out _ au).mono ?_;rintro e w2 ⟨rfl,aD⟩;replace hb:=hb.trans (aD.mono hb.size);replace au:=au.trans (aD.mono au.size);clear aD iY Bd;obtain⟨x0,x1,x2,x3,x4,x5,x6,x7,x8,xf⟩:=aW (f:=⟨ok,oi,og,on,of,oa,ob,oz⟩) (v:=.slice po no co) (Ns.out _ hb);dsimp only at x0 x1 x2 x3 x4 x5 x6 x7 x8;go_wp2_with fail;refine(lI.out _ au).mono ?_;rintro e w3 ⟨rfl,aD⟩;replace hb:=hb.trans (aD.mono hb.size);replace au:=au.trans (aD.mono au.size);clear aD lI x0 x1 x2 x3 x4 x5 x6 x7 x8 xf;have dw:=Qh (HX.out _ hb).1;go_wp2_with (first
  | (refine Ql dw.out ?_))
 refine(cB.out _ au).mono ?_;rintro e w4 ⟨rfl,aD⟩;replace hb:=hb.trans (aD.mono hb.size);replace au:=au.trans (aD.mono au.size);clear aD cB dw;have k0:=eC.out _ au;have r1:(64:Int)≤(T.length:Int):=by omega
 have r3:decide ((64:Int)≤(T.length:Int))=true:=decide_eq_true r1;go_wp2_with fail;go_ret;exact⟨rfl,au⟩
theorem Mk(h:cY w B y lv T)(hT:T.length≤1000)(a:Gs w B r o fF rZ)(hs:Bool)(hk:(decide (r.f.kind=3)&&aC r)=true)(hv:(decide (o.f.kind=6)&&aC o)=true)(hr:jG T r=none)(Xj:T.length<64)(hnd:∀t∈T,ap t.ref≤100000000) :
 Calls Tryz.prog 20 #[.pointer (some ⟨y,0,none⟩),aj r.f fF,aj o.f rZ,.bool hs] w fun e w'=>e=.returned (.int .i64 0)∧XO B y T ⟨r,o,fF,rZ,hs,aK,[]⟩ r w w':=by
 have hB:=h.blt;have iY:=Qh (fun(W:World) (hW:Qb w W)=>jN (w:=W) (t:=r) (u:=fF) 3 (Nat.le_trans hB hW.size) (a.ir.below hW hB) a.nr);have lI:=Qh (fun(W:World) (hW:Qb w W)=>jN (w:=W) (t:=o) (u:=rZ) 6 (Nat.le_trans hB hW.size) (a.io.below hW hB) a.no);have cB:=Qh (fun(W:World) (hW:Qb w W)=>lq (h.below hW) hT (Nat.le_trans hB hW.size) (a.ir.below hW hB));obtain⟨pl,cl,hlv,_,_⟩:=h.l.shape;have eC:=Qh (fun(W:World) (hW:Qb w W)=>cm (x:=[lv]) (h.below hW).obj 0 _ rfl)
 have hfz:∀W,Qb w W→W.frozen? ⟨y,0,none⟩=false:=fun W hW=>by simp only[World.frozen?,(h.below hW).obj];simp
 have wG:=Qh hfz;have hrows:=h.l.row h.enc;rw[hlv]at hrows;have tU:=Qh (fun(i:Nat) (hi:i<T.length)=>lV hrows hi);have lU:=Qh (fun(i:Nat) (hi:i<T.length)=>(h.tabs _ (List.getElem_mem hi)).ld.shape);have XQ:=Qh (fun(W:World) (hW:Qb w W) (i:Nat) (hi:i<T.length)=>AP W B (T[i]).ur fF (T[i]).ref r (Nat.le_trans hB hW.size) ((h.tabs _ (List.getElem_mem hi)).ld.below hW hB) (a.ir.below hW hB) (by have:=hnd _ (List.getElem_mem hi);omega) (by have:=a.nr;omega));have hE:=h.enc;have PN:bD ku 20 [(⟨r,o,fF,rZ,hs,aK,[]⟩:g6 N)]:=fun x hx=>by
  obtain rfl:=List.mem_singleton.1 hx;exact⟨rfl,fun u hu=>by
   unfold ku at hu
   rcases List.mem_append.1 hu with hu|hu
   ·exact aH (cP a.ir) u hu
   rcases List.mem_append.1 hu with hu|hu
   ·exact aH (cP a.io) u hu
   ·simp at hu
    rcases hu with rfl|rfl <;> rfl⟩
 have fG:=Qh (fun(W:World) (O:Obj) (hO:O=.cells ([(⟨r,o,fF,rZ,hs,aK,[]⟩:g6 N)].flatMap ku).toArray 53)=>bq.fresh (w:=W.alloc O) PN (by decide) (by rw[←hO];exact aF W O) (c:=1) (Nat.le_refl _) (by decide));have o5:=Qh (fun(W:World) (hW:Qb w W) (v':Value) (T':List (g6 N)) (ho:aA ku 53 20 W w.heap.size v' T') (he:T'=([]++T.take (uj T r))++[⟨r,o,fF,rZ,hs,aK,[]⟩]++T.drop (uj T r))=>(show XO B y T ⟨r,o,fF,rZ,hs,aK,[]⟩ r w (W.setCell ⟨y,0,none⟩ v') from by
  obtain⟨q1,q2⟩:=cY.P_ h hW ho (fun t ht=>by
   rw[he,List.nil_append]at ht
   have hold:∀t∈T,mN W B t:=fun t ht=>(h.below hW).tabs t ht
   rcases List.mem_append.1 ht with ht|ht
   ·rcases List.mem_append.1 ht with ht|ht
    ·exact hold t (List.mem_of_mem_take ht)
    ·obtain rfl:=List.mem_singleton.1 ht
     exact⟨aA.nil _ _ _,a.ir.below hW hB,a.io.below hW hB,fun r hr=>(nomatch hr)⟩
   ·exact hold t (List.mem_of_mem_drop ht))
  exact⟨v',he▸q1,q2⟩))
 have o6:=Qh (fun(j:Nat) (hj:j≤T.length) (W:World) (hW:Qb w W)=>ym hE (h.below hW).l hj);have jZ:=Qh (fun(j:Nat) (hj:j≤T.length) (W:World) (hW:Qb w W)=>vT hE (h.below hW).l hj);have vU:=Qh (fun(q:Nat) (hq:lv.ownBlock=some q)=>(h.l.lt hq).2);have L6:=Qh (fun(j:Nat)=>(hE.sub (fun x hx=>List.mem_of_mem_take hx):bD ku 20 (T.take j)));have L7:=Qh (fun(j:Nat)=>(hE.sub (fun x hx=>List.mem_of_mem_drop hx):bD ku 20 (T.drop j)))
 have hd:∀i x,i≤T.length→(∀j x,j<i→T[j]?=some x→cM x.ref r<0)→T[i]?=some x→¬cM x.ref r<0→uj T r=i:=fun i x hi h1 h2 h3=>Fo hi h1 (fun y hy=>by rw[h2]at hy;obtain rfl:=Option.some.inj hy;exact h3);have he:(∀j x,j<T.length→T[j]?=some x→cM x.ref r<0)→uj T r=T.length:=fun h1=>Fo (Nat.le_refl _) h1 (fun y hy=>by rw[List.getElem?_eq_none (Nat.le_refl _)]at hy;cases hy);have hil:uj T r≤T.length:=List.findIdx_le_length;have HD:=Qh hd;have HE:=Qh he;have Jl:=Qh PN;generalize Nl:XO B y T ⟨r,o,fF,rZ,hs,aK,[]⟩ r w=PV at*
 generalize uj T r=px at*;obtain⟨pr,cr,e1,_,_⟩:=a.ir.shape;obtain⟨po,co,e2,_,_⟩:=a.io.shape;rw[hk]at iY;rw[hv]at lI;rw[hr]at cB;unfold lm at cB;dsimp only at cB;rw[e1]at iY cB XQ o5 fG Jl ⊢;rw[e2]at lI o5 fG Jl ⊢;have hcells:∀(u1 u2:Value),([(⟨r,o,u1,u2,hs,aK,[]⟩:g6 N)].flatMap ku)=aE r.f u1++(aE o.f u2++[.bool hs,aK]):=fun u1 u2=>by simp[ku]
 rw[hcells]at fG;obtain⟨tnE,TE⟩:∃x:g6 N,x=⟨r,o,.slice pr r.items.length cr,.slice po o.items.length co,hs,aK,[]⟩:=⟨_,rfl⟩;rw[←TE]at o5 fG Jl;have hIr:=Qh a.ir;rw[hlv]at eC o6 jZ vU;clear hcells TE hd he hfz hrows PN hE;unfold aE aK at fG;clear h hT a hB e1 e2 hnd hr hlv hk hv Nl hIr;generalize r.items.length=nr at*;generalize o.items.length=no at*;generalize lJ:r.f=fr at*;generalize vO:o.f=fo at*;obtain⟨rk,ri,rg,rn,rf,ra,rb,rz⟩:=fr;obtain⟨ok,oi,og,on,of,oa,ob,oz⟩:=fo;unfold aj aV aM at*;dsimp only at*
 simp only[List.cons_append,List.nil_append]at fG;obtain⟨hb0,cI,cS⟩:=bI w (.cells (a9 rk ri rg rn rf ra (.slice pr nr cr) rb rz) 24) (.cells (a9 ok oi og on of oa (.slice po no co) ob oz) 24);have dM:=(Qg cI);have fA:=(Qg cS);go_enter Tryz.func20,Tryz.ntmps20;go_upto_region 1 with(fail);generalize((w.alloc (.cells (a9 rk ri rg rn rf ra (.slice pr nr cr) rb rz) 24)).alloc (.cells (a9 ok oi og on of oa (.slice po no co) ob oz) 24))=W1 at*
 have HX:=Qh (fun W (hW:Qb W1 W)=>(And.intro (aq (x:=(l9 rk ri rg rn rf ra (.slice pr nr cr) rb rz)) ((hW.block _ dM).trans cI)) (aq (x:=(l9 ok oi og on of oa (.slice po no co) ob oz)) ((hW.block _ fA).trans cS))));have Ns:=Qh (fun W (hW:Qb W1 W)=>(hW.block _ fA).trans cS);have hb:=Below.refl W1.heap.size W1;have bu:=Qh hb0;have au:=hb0;clear cI cS dM fA hb0;have Bd:=Qh (HX.out _ hb).1;go_wp2_with (first
  | (refine Ql Bd.out ?_))
 refine(iY.out _ au).mono ?_;rintro e w2 ⟨rfl,aD⟩;replace hb:=hb.trans (aD.mono hb.size);replace au:=au.trans (aD.mono au.size);clear aD iY Bd;obtain⟨x0,x1,x2,x3,x4,x5,x6,x7,x8,xf⟩:=aW (f:=⟨ok,oi,og,on,of,oa,ob,oz⟩) (v:=.slice po no co) (Ns.out _ hb);dsimp only at x0 x1 x2 x3 x4 x5 x6 x7 x8;go_wp2_with fail;refine(lI.out _ au).mono ?_;rintro e w3 ⟨rfl,aD⟩;replace hb:=hb.trans (aD.mono hb.size);replace au:=au.trans (aD.mono au.size);clear aD lI x0 x1 x2 x3 x4 x5 x6 x7 x8 xf;have dw:=Qh (HX.out _ hb).1;go_wp2_with (first
  | (refine Ql dw.out ?_))
 refine(cB.out _ au).mono ?_;rintro e w4 ⟨rfl,aD⟩;replace hb:=hb.trans (aD.mono hb.size);replace au:=au.trans (aD.mono au.size);clear aD cB dw;have k0:=eC.out _ au;have r1:¬((64:Int)≤(T.length:Int)):=by omega
 have r3:decide ((64:Int)≤(T.length:Int))=false:=decide_eq_false r1;have iL:Hid (MkI T r w4 T.length (.int .i64 0) w4):=Qh ⟨0,rfl,Nat.zero_le _,rfl,fun j x hj=>by omega,Below.refl _ _⟩;have lG:=Qh (And.intro hb au);go_wp2_with fail;clear k0 hb au;go_loopg [9] T.length (fun m iv wr=>Hid (MkI T r w4 m iv wr))
 case atStart=>exact iL
 case round=>
  obtain⟨i,rfl,hi,hm,hno,dS⟩:=hrel.out;clear hrel iL;go_upto_region 8 with(fail);replace dS:=dS.trans ((aZ (Below.refl wr.heap.size wr)).mono dS.size);have hb:=lG.out.1.trans (dS.mono lG.out.1.size);have au:=lG.out.2.trans (dS.mono lG.out.2.size)
  by_cases hlt:i<T.length
  ·have r1:(i:Int)<(T.length:Int):=by omega
   have r2:decide ((i:Int)<(T.length:Int))=true:=decide_eq_true r1;have r4:decide (i<T.length)=true:=decide_eq_true hlt;obtain⟨g,oo,rfl,hg,hR⟩:=tU.out i hlt;obtain⟨pe,ce,ee,_,_⟩:=lU.out i hlt;have HC:=Qh (fun W hW=>XQ.out W hW i hlt);have qx:=List.getElem?_eq_getElem hlt;have PD:=Qh (fun(hn:¬cM (T[i]).ref r<0)=>HD.out i _ (by omega) hno qx (by omega));have uy:Hid (cM (T[i]).ref r<0→∀j x,j<i+1→T[j]?=some x→cM x.ref r<0):=Qh (fun h j x hj hx=>by
    by_cases e:j=i
    ·subst e;rw[qx]at hx;rw[←Option.some.inj hx];exact h
    ·exact hno j x (by omega) hx)
   have Bv:=jn (a:=aE (T[i]).ref.f (T[i]).ur) hR;rw[ee]at HC Bv;clear hno qx hR ee;generalize cM (T[i]).ref r=Du at*;generalize(T[i]).ref.items.length=ne at*;generalize(T[i]).ref.f=ef at*;obtain⟨ek,ei,eg,en,ef,ea,eb,ez⟩:=ef;unfold aE at Bv;dsimp only at HC Bv;have HR:=Qh (fun W (hW:Qb w W)=>dn Bv (hW.block g hg));have HM:=Qh hm;clear hm Bv
   refine wp_region_held_drew (S:=(fun w'=>w'.cell? ⟨y,0,none⟩=some (.slice (some ⟨g,oo,none⟩) T.length cl)∧w'.rangeAt w.heap.size 0 (l9 rk ri rg rn rf ra (.slice pr nr cr) rb rz)∧w'.rangeAt g (oo+i*20) (l9 ek ei eg en ef ea (.slice pe ne ce) eb ez))) (by kernel_rfl) ?_ (fun hHeld=>?_)
   ·exact⟨eC.out _ au,(HX.out _ hb).1,HR.out _ au⟩
   generalize wr.drew=wd at*;refine run_in [0,1,2,3,4,5,6,7,8,9,10,11,12,13,14,15,16] ?_;iterate 4 refine Qe ?_
   refine Qc oZ (fun w hs=>hs.1) ?_;iterate 6 refine Qe ?_
   refine Qc oZ (fun w hs=>hs.1) ?_;iterate 3 refine Qe ?_
   refine Qm (fun w hs=>hs.2.2) ?_;refine Qm (fun w hs=>hs.2.1) ?_;refine aI ?_;refine Qd 17 (fun K hK=>?_);go_simp;refine(HC.out _ au).mono ?_;rintro e v1 ⟨rfl,aD⟩;replace hb:=hb.trans (aD.mono hb.size);replace au:=au.trans (aD.mono au.size);replace dS:=dS.trans (aD.mono dS.size);clear aD;go_wp2_with fail;refine Qk hK (⟨eC.out _ au,(HX.out _ hb).1,HR.out _ au⟩) (fun hHeld=>?_);clear hK K;refine run_in [18,19] ?_;iterate 2 refine Qe ?_
   refine aI ?_;refine wpAnyH_done (by kernel_rfl) ?_ _
   by_cases Dy:Du<0
   ·have q1:decide (Du<0)=true:=decide_eq_true Dy;have HN:=Qh (uy.out Dy);clear PD uy;go_wp2_with fail;go_roundg (T.length-(i+1))
    case measure=>have:=HM.out;omega
    case rel=>exact Qh ⟨i+1,by go_num,by omega,rfl,HN.out,dS⟩
   ·have q1:decide (Du<0)=false:=decide_eq_false Dy;have hpx:=(PD.out (by omega)).symm;subst hpx;clear PD uy HM HR HC;go_upto_region 10 with(fail);have k0:=eC.out _ au;have XG:(i:Int)≤(T.length:Int):=by omega
    obtain⟨p1,c1,j5,rp,xd,_⟩:=o6.out (i) (by omega) v1 au;obtain⟨RV,yj⟩:∃x,x=Value.slice p1 (T.length-(i)) c1:=⟨_,rfl⟩;rw[←yj]at rp xd j5;obtain⟨p3,c3,mO,xe,DC⟩:=jZ.out (i) (by omega) v1 au;obtain⟨RH,L_⟩:∃x,x=Value.slice p3 (i) c3:=⟨_,rfl⟩;rw[←L_]at xe DC mO;have vV:=Qh (fun W' (hW:Qb v1 W')=>rp.block (w':=W') (fun q hq=>hW.block q (by have:=vU.out q (xd q hq);have:=au.size;omega)));have AI:=Qh xe;have nZ:=Qh (And.intro hb au);clear rp xe xd DC o6 jZ yj L_;go_upto_region 11 with(first
     | (at_builtin;refine ay zA rfl (.const (.slice none 0 0)) (.tmp 56) rfl rfl (aA.nil 53 _ v1.heap.size) (Nat.le_refl _) rfl AI.out (L6.out _) (by simp;omega) ?_;intro va1 W7 sR)
     | fail)
    have j7:Qb v1 W7:=sR.bL (Below.refl _ _) (Nat.le_refl _) (fun q hq=>by have h0:(Value.slice none 0 0).ownBlock=some q:=hq;simp[Value.ownBlock]at h0);have DD:=HX.out _ (nZ.out.1.trans (j7.mono nZ.out.1.size));have PS:=Qh DD.1;have PT:=Qh DD.2;clear DD k0;have qp:=j7.trans ((aG (Below.refl W7.heap.size W7) (.cells (Cy rk ri rg rn rf ra (.slice pr nr cr) rb rz ok oi og on of oa (.slice po no co) ob oz hs (.slice none 0 0)) 53) (Nat.le_refl _)).mono j7.size)
    have lW:=sR.own.below (aG (Below.refl W7.heap.size W7) (.cells (Cy rk ri rg rn rf ra (.slice pr nr cr) rb rz ok oi og on of oa (.slice po no co) ob oz hs (.slice none 0 0)) 53) (Nat.le_refl _));have vW:=fG.out W7 (.cells (Cy rk ri rg rn rf ra (.slice pr nr cr) rb rz ok oi og on of oa (.slice po no co) ob oz hs (.slice none 0 0)) 53) rfl;have Gm:=Qh lW;have PU:=Qh vW;have BC:=Qh qp;clear lW vW qp sR j7;go_upto_region 12 with(first
     | (refine Ql PS.out ?_)
     | (refine Ql PT.out ?_)
     | (at_builtin;refine ay zA rfl (.tmp 58) (.tmp 63) rfl rfl Gm.out BC.out.size rfl PU.out Jl.out (by simp;omega) ?_;intro v2 W9 uf)
     | fail)
    have lR:Qb v1 W9:=uf.bL BC.out BC.out.size (fun q hq=>by have h1:=(Gm.out.lt hq).1;exact h1);have n_:=nZ.out.2.trans (lR.mono nZ.out.2.size);have k0:=eC.out _ n_;have Qa:=Qh uf.own;have Qf:=Qh lR;have XR:=Qh (vV.out _ lR);clear uf lR n_;go_upto_region 13 with(first
     | (at_builtin;refine ay zA rfl (.tmp 66) (.tmp 72) rfl rfl Qa.out Qf.out.size rfl XR.out (L7.out _) (by simp;omega) ?_;intro v3 om uF;have zB:=uF.bL Qf.out Qf.out.size (fun q hq=>(Qa.out.lt hq).1);have jo:=nZ.out.2.trans (zB.mono nZ.out.2.size);have pT:=eC.out _ jo;have f10:=wG.out _ jo;obtain⟨UT,c10,TG,_,_⟩:=uF.own.shape;rw[show(([]++T.take (i):List (g6 N))++[tnE]++T.drop (i)).length=T.length+1 from by(simp <;> omega)]at TG;have HP:=Qh (o5.out om jo v3 _ (uF.own.base (base':=w.heap.size) (fun q hq=>by have h1:=(uF.own.lt hq).1;have h2:=nZ.out.2.size;omega)) rfl);clear uF zB jo;subst TG)
     | fail)
    go_wp2_with fail;go_ret;exact⟨rfl,HP.out⟩
  ·obtain rfl:i=T.length:=by omega
   have hpx:=HE.out hno;subst hpx;clear hno hm XQ HD HE
   refine wp_region_held_drew (S:=(fun w'=>w'.cell? ⟨y,0,none⟩=some (.slice pl T.length cl))) (by kernel_rfl) ?_ (fun hHeld=>?_)
   ·exact eC.out _ au
   generalize wr.drew=wd at*;refine run_in [0,1,2,3,4,5,6,7,8,9,10,11,12,13,14,15,16,17,18,19] ?_;iterate 4 refine Qe ?_
   refine Qc oZ (fun w hs=>hs) ?_;iterate 3 refine Qe ?_
   refine Qu ?_;refine Qu ?_;refine Qu ?_;refine Qu ?_;refine Qu ?_;refine Qu ?_;refine Qu ?_;refine Qu ?_;refine Qu ?_;refine Qu ?_;refine Qu ?_;refine Qe ?_;refine aI ?_;refine wpAnyH_done (by kernel_rfl) ?_ _;go_upto_region 10 with(fail);have k0:=eC.out _ au;have XG:(T.length:Int)≤(T.length:Int):=by omega
   obtain⟨p1,c1,j5,rp,xd,_⟩:=o6.out (T.length) (by omega) wd au;obtain⟨RV,yj⟩:∃x,x=Value.slice p1 (T.length-(T.length)) c1:=⟨_,rfl⟩;rw[←yj]at rp xd j5;obtain⟨p3,c3,mO,xe,DC⟩:=jZ.out (T.length) (by omega) wd au;obtain⟨RH,L_⟩:∃x,x=Value.slice p3 (T.length) c3:=⟨_,rfl⟩;rw[←L_]at xe DC mO;have vV:=Qh (fun W' (hW:Qb wd W')=>rp.block (w':=W') (fun q hq=>hW.block q (by have:=vU.out q (xd q hq);have:=au.size;omega)));have AI:=Qh xe;have nZ:=Qh (And.intro hb au);clear rp xe xd DC o6 jZ yj L_;go_upto_region 11 with(first
    | (at_builtin;refine ay zA rfl (.const (.slice none 0 0)) (.tmp 56) rfl rfl (aA.nil 53 _ wd.heap.size) (Nat.le_refl _) rfl AI.out (L6.out _) (by simp;omega) ?_;intro va1 W7 sR)
    | fail)
   have j7:Qb wd W7:=sR.bL (Below.refl _ _) (Nat.le_refl _) (fun q hq=>by have h0:(Value.slice none 0 0).ownBlock=some q:=hq;simp[Value.ownBlock]at h0);have DD:=HX.out _ (nZ.out.1.trans (j7.mono nZ.out.1.size));have PS:=Qh DD.1;have PT:=Qh DD.2;clear DD k0;have qp:=j7.trans ((aG (Below.refl W7.heap.size W7) (.cells (Cy rk ri rg rn rf ra (.slice pr nr cr) rb rz ok oi og on of oa (.slice po no co) ob oz hs (.slice none 0 0)) 53) (Nat.le_refl _)).mono j7.size)
   have lW:=sR.own.below (aG (Below.refl W7.heap.size W7) (.cells (Cy rk ri rg rn rf ra (.slice pr nr cr) rb rz ok oi og on of oa (.slice po no co) ob oz hs (.slice none 0 0)) 53) (Nat.le_refl _));have vW:=fG.out W7 (.cells (Cy rk ri rg rn rf ra (.slice pr nr cr) rb rz ok oi og on of oa (.slice po no co) ob oz hs (.slice none 0 0)) 53) rfl;have Gm:=Qh lW;have PU:=Qh vW;have BC:=Qh qp;clear lW vW qp sR j7;go_upto_region 12 with(first
    | (refine Ql PS.out ?_)
    | (refine Ql PT.out ?_)
    | (at_builtin;refine ay zA rfl (.tmp 58) (.tmp 63) rfl rfl Gm.out BC.out.size rfl PU.out Jl.out (by simp;omega) ?_;intro v2 W9 uf)
    | fail)
   have lR:Qb wd W9:=uf.bL BC.out BC.out.size (fun q hq=>by have h1:=(Gm.out.lt hq).1;exact h1);have n_:=nZ.out.2.trans (lR.mono nZ.out.2.size);have k0:=eC.out _ n_;have Qa:=Qh uf.own;have Qf:=Qh lR;have XR:=Qh (vV.out _ lR);clear uf lR n_;go_upto_region 13 with(first
    | (at_builtin;refine ay zA rfl (.tmp 66) (.tmp 72) rfl rfl Qa.out Qf.out.size rfl XR.out (L7.out _) (by simp;omega) ?_;intro v3 om uF;have zB:=uF.bL Qf.out Qf.out.size (fun q hq=>(Qa.out.lt hq).1);have jo:=nZ.out.2.trans (zB.mono nZ.out.2.size);have pT:=eC.out _ jo;have f10:=wG.out _ jo;obtain⟨UT,c10,TG,_,_⟩:=uF.own.shape;rw[show(([]++T.take (T.length):List (g6 N))++[tnE]++T.drop (T.length)).length=T.length+1 from by(simp <;> omega)]at TG;have HP:=Qh (o5.out om jo v3 _ (uF.own.base (base':=w.heap.size) (fun q hq=>by have h1:=(uF.own.lt hq).1;have h2:=nZ.out.2.size;omega)) rfl);clear uF zB jo;subst TG)
    | fail)
   go_wp2_with fail;go_ret;exact⟨rfl,HP.out⟩
end
section
variable {N:Nat}{w w':World}{B y:Nat}{lv:Value}{T:List (g6 N)}{t:g6 N}{r k:Tm (N+1)}{fF uk:Value}
theorem Ml(h:cY w B y lv T)(hT:T.length≤1000)(hI:ah w B N fF r.items)(hr:jG T r=none):Calls Tryz.prog 36 #[.pointer (some ⟨y,0,none⟩),aj r.f fF] w fun e w'=>e=.returned (.tuple #[.int .i64 0,.int .i64 4])∧Below w.heap.size w w':=by
 have hB:=h.blt;have cB:=Qh (fun(W:World) (hW:Qb w W)=>lq (h.below hW) hT (Nat.le_trans hB hW.size) (hI.below hW hB));obtain⟨pr,cr,e1,_,_⟩:=hI.shape;rw[hr]at cB;unfold lm at cB;dsimp only at cB;rw[e1]at cB ⊢;clear h hT hI hB e1 hr;generalize r.items.length=nr at*;generalize lJ:r.f=fr at*;obtain⟨rk,ri,rg,rn,rf,ra,rb,rz⟩:=fr;unfold aj at*;dsimp only at*;have hb0:=aG (Below.refl w.heap.size w) (.cells (a9 rk ri rg rn rf ra (.slice pr nr cr) rb rz) 24) (Nat.le_refl _);have bT:=aF w (.cells (a9 rk ri rg rn rf ra (.slice pr nr cr) rb rz) 24);have iq:=(Qg bT)
 go_enter Tryz.func36,Tryz.ntmps36;go_upto_region 1 with(fail);generalize(w.alloc (.cells (a9 rk ri rg rn rf ra (.slice pr nr cr) rb rz) 24))=W1 at*;have HX:=Qh (fun W (hW:Qb W1 W)=>(aq (x:=(l9 rk ri rg rn rf ra (.slice pr nr cr) rb rz)) ((hW.block _ iq).trans bT)));have hb:=Below.refl W1.heap.size W1;have au:=hb0;clear hb0 bT iq;have dw:=Qh (HX.out _ hb);go_wp2_with (first
  | (refine Ql dw.out ?_))
 refine(cB.out _ au).mono ?_;rintro e' w2 ⟨rfl,aD⟩;replace hb:=hb.trans (aD.mono hb.size);replace au:=au.trans (aD.mono au.size);clear aD cB dw;go_wp2_with fail;go_ret2
 exact⟨rfl,au⟩
theorem Mm(h:cY w B y lv T)(hT:T.length≤1000)(hI:ah w B N fF r.items){i:Nat}(hr:jG T r=some i)(ht:T[i]?=some t):Calls Tryz.prog 36 #[.pointer (some ⟨y,0,none⟩),aj r.f fF] w fun e w'=>e=.returned (.tuple #[.int .i64 t.rows.length,.int .i64 0])∧Below w.heap.size w w':=by
 have hB:=h.blt;have cB:=Qh (fun(W:World) (hW:Qb w W)=>lq (h.below hW) hT (Nat.le_trans hB hW.size) (hI.below hW hB));obtain⟨pr,cr,e1,_,_⟩:=hI.shape;obtain⟨gl,cl,hlv,hil,mo,Gl,_,hm⟩:=h.main ht;have nQ:=h.tabs t (List.mem_of_getElem? ht);rw[hr]at cB;unfold lm at cB;dsimp only at cB;rw[e1]at cB ⊢;rw[hlv]at hm;obtain⟨pv,cv,jL,_,_⟩:=nQ.rows.shape;unfold ku aE at hm;rw[jL]at hm;have HM:=Qh hm;clear h hT hI hB e1 hr ht hm nQ hlv jL;generalize T.length=nT at*;generalize t.rows.length=zS at*;obtain⟨ko,kp,ur,uo,hs,vr,rows⟩:=t;dsimp only at*
 generalize ko.f=fe at*;generalize kp.f=fo at*;obtain⟨ek,ei,eg,en,ef,ea,eb,ez⟩:=fe;obtain⟨ok,oi,og,on,of,oa,ob,oz⟩:=fo;generalize r.items.length=nr at*;generalize lJ:r.f=fr at*;obtain⟨rk,ri,rg,rn,rf,ra,rb,rz⟩:=fr;unfold aj at*;dsimp only at*;simp only[List.cons_append,List.nil_append]at HM;have hb0:=aG (Below.refl w.heap.size w) (.cells (a9 rk ri rg rn rf ra (.slice pr nr cr) rb rz) 24) (Nat.le_refl _);have bT:=aF w (.cells (a9 rk ri rg rn rf ra (.slice pr nr cr) rb rz) 24);have iq:=(Qg bT);go_enter Tryz.func36,Tryz.ntmps36;go_upto_region 1 with(fail)
 generalize(w.alloc (.cells (a9 rk ri rg rn rf ra (.slice pr nr cr) rb rz) 24))=W1 at*;have HX:=Qh (fun W (hW:Qb W1 W)=>(aq (x:=(l9 rk ri rg rn rf ra (.slice pr nr cr) rb rz)) ((hW.block _ iq).trans bT)));have hb:=Below.refl W1.heap.size W1;have au:=hb0;clear hb0 bT iq;have dw:=Qh (HX.out _ hb);go_wp2_with (first
  | (refine Ql dw.out ?_))
 refine(cB.out _ au).mono ?_;rintro e' w2 ⟨rfl,aD⟩;replace hb:=hb.trans (aD.mono hb.size);replace au:=au.trans (aD.mono au.size);clear aD cB dw;have r1:(i:Int)<(nT:Int):=by omega
 have r2:¬((i:Int)<0):=by omega
 have k0:=(HM.out _ au).2.1;have Ri:w2.cell? ⟨gl,i*20+19,none⟩=some (.slice pv zS cv):=(HM.out _ au).1 19 _ rfl;go_wp2_with fail;go_ret2
 exact⟨rfl,au⟩
theorem Qi(h:cY w B y lv T)(hT:T.length≤1000)(hI:ah w B N fF r.items)(hr:jG T r=none):Calls Tryz.prog 38 #[.pointer (some ⟨y,0,none⟩),aj r.f fF] w fun e w'=>e=.returned (.tuple #[.agg #[.int .i64 0,.int .i64 0,.int .i64 0,.string ⟨#[]⟩,.string ⟨#[]⟩,.int .i64 0,.slice none 0 0,.string ⟨#[]⟩,.int .i64 0],.int .i64 4])∧Below w.heap.size w w':=by
 have hB:=h.blt;have cB:=Qh (fun(W:World) (hW:Qb w W)=>lq (h.below hW) hT (Nat.le_trans hB hW.size) (hI.below hW hB));obtain⟨pr,cr,e1,_,_⟩:=hI.shape;rw[hr]at cB;unfold lm at cB;dsimp only at cB;rw[e1]at cB ⊢;clear h hT hI hB e1 hr;generalize r.items.length=nr at*;generalize lJ:r.f=fr at*;obtain⟨rk,ri,rg,rn,rf,ra,rb,rz⟩:=fr;unfold aj at*;dsimp only at*;have cE:(Tryz.prog.info? 24).map (·.size)=some 9:=by kernel_rfl
 obtain⟨hb0,bT,bX⟩:=bI w (.cells (a9 rk ri rg rn rf ra (.slice pr nr cr) rb rz) 24) cQ;have iq:=(Qg bT);have jC:=(Qg bX);go_enter Tryz.func38,Tryz.ntmps38;go_upto_region 1 with(fail);generalize((w.alloc (.cells (a9 rk ri rg rn rf ra (.slice pr nr cr) rb rz) 24)).alloc cQ)=W1 at*;have HX:=Qh (fun W (hW:Qb W1 W)=>(And.intro (aq (x:=(l9 rk ri rg rn rf ra (.slice pr nr cr) rb rz)) ((hW.block _ iq).trans bT)) ((hW.block _ jC).trans bX)));have hb:=Below.refl W1.heap.size W1;have au:=hb0;clear hb0 bT iq bX jC;have dw:=Qh ((HX.out _ hb).1);go_wp2_with (first
  | (refine Ql dw.out ?_))
 refine(cB.out _ au).mono ?_;rintro e' w2 ⟨rfl,aD⟩;replace hb:=hb.trans (aD.mono hb.size);replace au:=au.trans (aD.mono au.size);clear aD cB dw;have cS:=(HX.out _ hb).2;have qh:=setRow_heap w2 (w.heap.size+1) _ dG _ _ cS;have dZ:=au.trans ((aB w2 (w.heap.size+1) dG).below (fun q e=>by omega) au.size);have HZ:=Qh cS;have HF:=Qh (And.intro (run_loadVar_mid (P:=Tryz.prog) _ (w.heap.size+1) 0 24 uJ _ (aq qh) Tryz.underlying24 rfl cE) dZ);clear cS qh dZ;go_wp2_with (first
  | (refine Qs HZ.out fJ ?_))
 (try simp only[Exit.inBlock,Exit.then])
 obtain⟨fA,fR⟩:=HF.out;refine bodyPost_ret (v:=.tuple #[.agg dG,.int .i64 4]) ?_ rfl ⟨rfl,fR⟩;have hA:∀(a:Addr) (w:World),(asAddr (.pointer (some a))).run Tryz.prog w=.ok a w:=fun _ _=>rfl;rw[nJ rfl];simp[hA,fA,Result.andThen]
theorem Qj(h:cY w B y lv T)(hT:T.length≤1000)(hI:ah w B N fF r.items){i:Nat}(hr:jG T r=some i)(ht:T[i]?=some t):Calls Tryz.prog 38 #[.pointer (some ⟨y,0,none⟩),aj r.f fF] w fun e w'=>e=.returned (.tuple #[aj t.own.f t.uo,.int .i64 0])∧Below w.heap.size w w':=by
 have hB:=h.blt;have cB:=Qh (fun(W:World) (hW:Qb w W)=>lq (h.below hW) hT (Nat.le_trans hB hW.size) (hI.below hW hB));obtain⟨pr,cr,e1,_,_⟩:=hI.shape;obtain⟨gl,cl,hlv,hil,mo,Gl,_,hm⟩:=h.main ht;have nQ:=h.tabs t (List.mem_of_getElem? ht);rw[hr]at cB;unfold lm at cB;dsimp only at cB;rw[e1]at cB ⊢;rw[hlv]at hm;have hon:=cP nQ.pX;have hown:∀W,Qb w W→W.rangeAt gl (i*20+9) (aE t.own.f t.uo):=fun W hW=>jn (kI (a:=aE t.ref.f t.ur) ((hm W hW).1) rfl);unfold aE at hown;have mE:=Qh hown;have HM:=Qh (fun W hW=>(hm W hW).2.1)
 clear h hT hI hB e1 hr ht hm nQ hlv hown;generalize T.length=nT at*;obtain⟨ko,kp,ur,uo,hs,vr,rows⟩:=t;dsimp only at*;generalize ko.f=fe at*;generalize kp.f=fo at*;obtain⟨ek,ei,eg,en,ef,ea,eb,ez⟩:=fe;obtain⟨ok,oi,og,on,of,oa,ob,oz⟩:=fo;generalize r.items.length=nr at*;generalize lJ:r.f=fr at*;obtain⟨rk,ri,rg,rn,rf,ra,rb,rz⟩:=fr;unfold aj at*;dsimp only at*;have cE:(Tryz.prog.info? 24).map (·.size)=some 9:=by kernel_rfl
 obtain⟨hb0,bT,bX⟩:=bI w (.cells (a9 rk ri rg rn rf ra (.slice pr nr cr) rb rz) 24) cQ;have iq:=(Qg bT);have jC:=(Qg bX);go_enter Tryz.func38,Tryz.ntmps38;go_upto_region 1 with(fail);generalize((w.alloc (.cells (a9 rk ri rg rn rf ra (.slice pr nr cr) rb rz) 24)).alloc cQ)=W1 at*;have HX:=Qh (fun W (hW:Qb W1 W)=>(And.intro (aq (x:=(l9 rk ri rg rn rf ra (.slice pr nr cr) rb rz)) ((hW.block _ iq).trans bT)) ((hW.block _ jC).trans bX)));have hb:=Below.refl W1.heap.size W1;have au:=hb0;clear hb0 bT iq bX jC;have dw:=Qh ((HX.out _ hb).1);go_wp2_with (first
  | (refine Ql dw.out ?_))
 refine(cB.out _ au).mono ?_;rintro e' w2 ⟨rfl,aD⟩;replace hb:=hb.trans (aD.mono hb.size);replace au:=au.trans (aD.mono au.size);clear aD cB dw;have r1:(i:Int)<(nT:Int):=by omega
 have r2:¬((i:Int)<0):=by omega
 have k0:=HM.out _ au;have Qa:=Qh (mE.out _ au);have Gn:((a9 ok oi og on of oa uo ob oz):Array Value).all (·.oneCell')=true:=all_oneCell_toArray (aH (f:=⟨ok,oi,og,on,of,oa,ob,oz⟩) (u:=uo) hon);have cS:=(HX.out _ hb).2;have qh:=setRow_heap w2 (w.heap.size+1) _ (a9 ok oi og on of oa uo ob oz) _ _ cS;have dZ:=au.trans ((aB w2 (w.heap.size+1) (a9 ok oi og on of oa uo ob oz)).below (fun q e=>by omega) au.size);have HZ:=Qh cS
 have HF:=Qh (And.intro (run_loadVar_mid (P:=Tryz.prog) _ (w.heap.size+1) 0 24 (l9 ok oi og on of oa uo ob oz) _ (aq qh) Tryz.underlying24 rfl cE) dZ);clear cS qh dZ;go_wp2_with (first
  | (refine Ql Qa.out ?_)
  | (refine Qs HZ.out Gn ?_))
 (try simp only[Exit.inBlock,Exit.then])
 obtain⟨fA,fR⟩:=HF.out;refine bodyPost_ret (v:=.tuple #[.agg (a9 ok oi og on of oa uo ob oz),.int .i64 0]) ?_ rfl ⟨rfl,fR⟩;have hA:∀(a:Addr) (w:World),(asAddr (.pointer (some a))).run Tryz.prog w=.ok a w:=fun _ _=>rfl;rw[nJ rfl];simp[hA,fA,Result.andThen]
end
section
variable {N:Nat}{w w':World}{B y:Nat}{lv:Value}{T:List (g6 N)}{t:g6 N}{r k:Tm (N+1)}{fF uk:Value}
def DV(x:Option (qI N)):TF:=x.elim aY (·.k.f)
def BS(x:Option (qI N)):Value:=x.elim aK (·.uk)
def DW(x:Option (qI N)):TF:=x.elim aY (·.v.f)
def BU(x:Option (qI N)):Value:=x.elim aK (·.uv)
def CM(x:Option (qI N))(n:Int)(w:World)(e:Ending)(w':World):Prop:=e=.returned (.tuple #[aj (DV x) (BS x),aj (DW x) (BU x),.bool x.isSome,.int .i64 n])∧Below w.heap.size w w'
theorem Fp{w0 W:World}{c:Nat}{y:Array Value}{t:TypeId}(h:Below w0.heap.size w0 W)(hc:w0.heap.size≤c)(x:Array Value)(hZ:W.heap[c]?=some (.cells y t)):∃X,W.setRow c x=X∧ax (fun q=>q=c) W X∧Below w0.heap.size w0 X∧X.heap[c]?=some (.cells x t)∧∀d,d≠c→X.heap[d]?=W.heap[d]? :=
 ⟨_,rfl,aB W c x,h.trans ((aB W c x).below (fun q e=>by omega) h.size),setRow_heap _ _ _ x _ _ hZ,fun d hd=>setRow_other W c d x hd⟩
theorem ed{w W:World}{b:Nat}(h:Below w.heap.size w W)(hb:w.heap.size≤b)(x:Array Value):Below w.heap.size w (W.setRow b x):=h.trans ((aB W b x).below (fun q e=>by omega) h.size)
theorem Qo(h:mN w B t){i:Nat}(hi:t.rows.length≤i):Calls Tryz.prog 97 #[.agg (ku t).toArray,.int .i64 i] w (CM (t.rows[i]?) 0 w):=by
 rw[List.getElem?_eq_none hi];unfold CM DV BS DW BU;obtain⟨pv,cv,jL,_,_⟩:=h.rows.shape;unfold ku aE;rw[jL];have hi2:(t.rows.length:Int)≤(i:Int):=by omega
 have hi3:¬(i:Int)<(t.rows.length:Int):=by omega
 clear h jL hi;generalize t.rows.length=zS at*;obtain⟨ko,kp,ur,uo,hs,vr,rows⟩:=t;dsimp only at*;generalize ko.f=fe at*;generalize kp.f=fo at*;obtain⟨ek,ei,eg,en,ef,ea,eb,ez⟩:=fe;obtain⟨ok,oi,og,on,of,oa,ob,oz⟩:=fo;simp only[List.cons_append,List.nil_append,Option.elim_none,Option.isSome_none];unfold aY aK aj;(try dsimp only)
 have cE:(Tryz.prog.info? 24).map (·.size)=some 9:=by kernel_rfl
 obtain⟨hb0,_,bT,bX,fY⟩:=bV w (.cells (Cy ek ei eg en ef ea ur eb ez ok oi og on of oa uo ob oz hs (.slice pv zS cv)) 53) cQ cQ;have iq:=(Qg bT);have jC:=(Qg bX);have nR:=(Qg fY);go_enter Tryz.func97,Tryz.ntmps97;go_upto_region 1 with(fail);generalize(((w.alloc (.cells (Cy ek ei eg en ef ea ur eb ez ok oi og on of oa uo ob oz hs (.slice pv zS cv)) 53)).alloc cQ).alloc cQ)=W1 at*
 have HX:=Qh (fun W (hW:Qb W1 W)=>(And.intro (aq (x:=(wH ek ei eg en ef ea ur eb ez ok oi og on of oa uo ob oz hs (.slice pv zS cv))) ((hW.block _ iq).trans bT)) (And.intro ((hW.block _ jC).trans bX) ((hW.block _ nR).trans fY))));have hb:=Below.refl W1.heap.size W1;have au:=hb0;clear hb0 bT iq bX jC fY nR;have Ri:W1.cell? ⟨w.heap.size,19,none⟩=some (.slice pv zS cv):=by
  have h:=(HX.out _ hb).1 19 _ rfl;rwa[Nat.zero_add]at h
 have bT:=(HX.out _ hb).2.1;have bX:=(HX.out _ hb).2.2;have jO:=(setRow_other W1 (w.heap.size+1) (w.heap.size+2) dG (by omega)).trans bX;have BV:=(setRow_other _ (w.heap.size+2) (w.heap.size+1) dG (by omega)).trans (setRow_heap W1 (w.heap.size+1) _ dG _ _ bT);have wN:=setRow_heap _ (w.heap.size+2) _ dG _ _ jO;have dZ:=ed (b:=(w.heap.size+2)) (ed (b:=(w.heap.size+1)) au (by omega) dG) (by omega) dG;have eT:=Qh bT;have iW:=Qh jO
 have HF:=Qh (And.intro (run_loadVar_mid (P:=Tryz.prog) _ (w.heap.size+1) 0 24 uJ _ (aq BV) Tryz.underlying24 rfl cE) (And.intro (run_loadVar_mid (P:=Tryz.prog) _ (w.heap.size+2) 0 24 uJ _ (aq wN) Tryz.underlying24 rfl cE) dZ));clear bT bX jO BV wN dZ;go_wp2_with (first
  | (refine Qs eT.out fJ ?_)
  | (refine Qs iW.out fJ ?_))
 (try simp only[Exit.inBlock,Exit.then])
 obtain⟨gP,dM,fR⟩:=HF.out;refine bodyPost_ret (v:=.tuple #[.agg dG,.agg dG,.bool false,.int .i64 0]) ?_ rfl ⟨rfl,fR⟩;have hA:∀(a:Addr) (w:World),(asAddr (.pointer (some a))).run Tryz.prog w=.ok a w:=fun _ _=>rfl;rw[cX rfl];simp[hA,gP,dM,Result.andThen]
theorem Qq(h:mN w B t){i:Nat}{e:qI N}(he:t.rows[i]?=some e)(hl:t.rows.length≤1000000):Calls Tryz.prog 97 #[.agg (ku t).toArray,.int .i64 i] w (CM (t.rows[i]?) 0 w):=by
 have hil:i<t.rows.length:=(List.getElem?_eq_some_iff.1 he).1;obtain⟨gv,cv,jL⟩:∃gv cv,t.vr=.slice (some ⟨gv,0,none⟩) t.rows.length cv:=by
  rcases h.rows.2 with⟨_,h0⟩|⟨g,cap,cur,e,_⟩
  ·omega
  ·exact⟨g,cap,e⟩
 obtain⟨g9,o9,e9,Rj,Np⟩:=lV (by have:=h.rows.row h.enc;rwa[jL]at this) hil;simp only[Option.some.injEq,Addr.mk.injEq,and_true]at e9;obtain⟨rfl,rfl⟩:=e9;have hee:t.rows[i]=e:=by rw[List.getElem?_eq_getElem hil]at he;exact Option.some.inj he
 rw[hee,Nat.zero_add]at Np;have h1:=jn (a:=aE e.k.f e.uk) Np;have h2:=kI (a:=aE e.k.f e.uk) Np rfl;have UB:=h.gU e (List.mem_of_getElem? he);have oX:=cP UB.1;have ud:=cP UB.2;rw[he];unfold CM DV BS DW BU;unfold ku;unfold aE at*;rw[jL];have HR:=Qh (fun(W:World) (hW:Qb w W)=>And.intro (dn h1 (hW.block gv Rj)) (dn h2 (hW.block gv Rj)));have r1:(i:Int)<(t.rows.length:Int):=by omega
 have r2:¬(t.rows.length:Int)≤(i:Int):=by omega
 have r3:¬((i:Int)<0):=by omega
 clear h jL h1 h2 UB Np hee he Rj;generalize t.rows.length=zS at*;obtain⟨ko,kp,ur,uo,hs,vr,rows⟩:=t;dsimp only at*;generalize ko.f=fe at*;generalize kp.f=fo at*;obtain⟨ek,ei,eg,en,ef,ea,eb,ez⟩:=fe;obtain⟨ok,oi,og,on,of,oa,ob,oz⟩:=fo;obtain⟨kt,vt,ua,ub⟩:=e;(try dsimp only at*)
 simp only[Option.elim_some,Option.isSome_some,Option.elim];generalize kt.f=fa at*;generalize vt.f=fb at*;obtain⟨ak,ai,ag,an,af,aa,ab,az⟩:=fa;obtain⟨bk,bi,bg,bn,bf,ba,bb,bz⟩:=fb;simp only[List.cons_append,List.nil_append];unfold aj;(try dsimp only)
 have cE:(Tryz.prog.info? 24).map (·.size)=some 9:=by kernel_rfl
 obtain⟨hb0,_,bT,bX,fY⟩:=bV w (.cells (Cy ek ei eg en ef ea ur eb ez ok oi og on of oa uo ob oz hs (.slice (some ⟨gv,0,none⟩) zS cv)) 53) cQ cQ;have iq:=(Qg bT);have jC:=(Qg bX);have nR:=(Qg fY);go_enter Tryz.func97,Tryz.ntmps97;go_upto_region 1 with(fail);generalize(((w.alloc (.cells (Cy ek ei eg en ef ea ur eb ez ok oi og on of oa uo ob oz hs (.slice (some ⟨gv,0,none⟩) zS cv)) 53)).alloc cQ).alloc cQ)=W1 at*
 have HX:=Qh (fun W (hW:Qb W1 W)=>(And.intro (aq (x:=(wH ek ei eg en ef ea ur eb ez ok oi og on of oa uo ob oz hs (.slice (some ⟨gv,0,none⟩) zS cv))) ((hW.block _ iq).trans bT)) (And.intro ((hW.block _ jC).trans bX) ((hW.block _ nR).trans fY))));have hb:=Below.refl W1.heap.size W1;have au:=hb0;clear hb0 bT iq bX jC fY nR;have Ri:W1.cell? ⟨w.heap.size,19,none⟩=some (.slice (some ⟨gv,0,none⟩) zS cv):=by
  have h:=(HX.out _ hb).1 19 _ rfl;rwa[Nat.zero_add]at h
 go_upto_region 3 with(fail);clear Ri;replace au:=au.trans ((aZ (Below.refl W1.heap.size W1)).mono au.size);replace hb:=hb.trans ((aZ (Below.refl W1.heap.size W1)).mono hb.size);have Qt:((a9 ak ai ag an af aa ua ab az):Array Value).all (·.oneCell')=true:=all_oneCell_toArray (aH (f:=⟨ak,ai,ag,an,af,aa,ab,az⟩) (u:=ua) oX);have Gn:((a9 bk bi bg bn bf ba ub bb bz):Array Value).all (·.oneCell')=true:=all_oneCell_toArray (aH (f:=⟨bk,bi,bg,bn,bf,ba,bb,bz⟩) (u:=ub) ud)
 refine wp_region_held_drew (S:=(fun w'=>w'.cell? ⟨w.heap.size,19,none⟩=some (.slice (some ⟨gv,0,none⟩) zS cv)∧w'.rangeAt gv (i*18) (l9 ak ai ag an af aa ua ab az)∧w'.rangeAt gv (i*18+9) (l9 bk bi bg bn bf ba ub bb bz))) (by kernel_rfl) ?_ (fun hHeld=>?_)
 ·exact⟨by have h:=(HX.out _ hb).1 19 _ rfl;rwa[Nat.zero_add]at h,HR.out _ au⟩
 generalize hwd:W1.drew=wd at*;have bT:=(HX.out _ hb).2.1;have bX:=(HX.out _ hb).2.2;clear HX hwd;obtain⟨x1,hw1,Wo,Jv,Rl,BW⟩:=Fp au (Nat.le_succ _) (a9 ak ai ag an af aa ua ab az) bT;obtain⟨x2,td,wO,XS,hZM,Jw⟩:=Fp Jv (by omega) (a9 bk bi bg bn bf ba ub bb bz) ((BW _ (by omega)).trans bX);have TH:=(BW (w.heap.size+2) (by omega)).trans bX;have TI:=(Jw (w.heap.size+1) (by omega)).trans Rl
 have lO:=Qh (And.intro (show x1.cell? ⟨w.heap.size,19,none⟩=_ from(World.cell?_of_block (w:=wd) (w':=x1) (a:=⟨w.heap.size,19,none⟩) (BW w.heap.size (by omega))).trans hHeld.1) (HR.out _ Jv));have KW:=Qh (And.intro (show x2.cell? ⟨w.heap.size,19,none⟩=_ from(World.cell?_of_block (w:=x1) (w':=x2) (a:=⟨w.heap.size,19,none⟩) (Jw w.heap.size (by omega))).trans lO.out.1) (HR.out _ XS));clear Wo wO BW Jw;refine run_in [0,1,2,3,4,5,6,7,8,9,10,11] ?_;refine Qe ?_;refine Qc sQ (fun w hs=>hs.1) ?_;iterate 3 refine Qe ?_
 refine Qm (fun w hs=>hs.2.1) ?_;refine Qe ?_;refine Qc sQ (fun w hs=>hs.1) ?_;iterate 3 refine Qe ?_
 refine Qm (fun w hs=>hs.2.2) ?_;refine aI ?_;refine Qd 12 (fun K hK=>?_);refine aR (by rfl) 24 (.tmp 4) (.tmp 20) rfl (p:=⟨_,0,none⟩) rfl rfl (run_storeVar_row _ _ 24 24 _ (a9 ak ai ag an af aa ua ab az) bT cE rfl Qt) ?_;rw[hw1]
 refine hK.out _ _ ?_ (fun hHeld=>?_)
 ·first|exact KW.out|exact lO.out
 clear hK K;(try simp only[Act.put,pA,pB,pC])
 refine Qd 13 (fun K hK=>?_);refine aR (by rfl) 24 (.tmp 5) (.tmp 26) rfl (p:=⟨_,0,none⟩) rfl rfl (run_storeVar_row _ _ 24 24 _ (a9 bk bi bg bn bf ba ub bb bz) TH cE rfl Gn) ?_;rw[td]
 refine hK.out _ _ ?_ (fun hHeld=>?_)
 ·first|exact KW.out|exact lO.out
 clear hK K;(try simp only[Act.put,pA,pB,pC])
 refine run_in [14,15] ?_;iterate 2 refine Qe ?_
 refine aI ?_;refine wpAnyH_done (by kernel_rfl) ?_ _;have HF:=Qh (And.intro (run_loadVar_mid (P:=Tryz.prog) _ (w.heap.size+1) 0 24 (l9 ak ai ag an af aa ua ab az) _ (aq TI) Tryz.underlying24 rfl cE) (And.intro (run_loadVar_mid (P:=Tryz.prog) _ (w.heap.size+2) 0 24 (l9 bk bi bg bn bf ba ub bb bz) _ (aq hZM) Tryz.underlying24 rfl cE) XS));clear bT bX TH TI Rl hZM Jv XS lO KW hw1 td;go_wp2_with fail;(try simp only[Exit.inBlock,Exit.then])
 obtain⟨gP,dM,fR⟩:=HF.out;refine bodyPost_ret (v:=.tuple #[.agg (a9 ak ai ag an af aa ua ab az),.agg (a9 bk bi bg bn bf ba ub bb bz),.bool true,.int .i64 0]) ?_ rfl ⟨rfl,fR⟩;have hA:∀(a:Addr) (w:World),(asAddr (.pointer (some a))).run Tryz.prog w=.ok a w:=fun _ _=>rfl;rw[cX rfl];simp[hA,gP,dM,Result.andThen]
end
section
variable {N:Nat}{w w':World}{B y:Nat}{lv:Value}{T:List (g6 N)}{t:g6 N}{r k:Tm (N+1)}{fF uk:Value}
def Fq{N:Nat}(B y:Nat)(T':List (g6 N))(w w':World):Prop:=∃CL,cY w' B y CL T'∧TT gC B w w'
theorem Mn(h:cY w B y lv T)(hT:T.length≤1000)(hI:ah w B N fF r.items)(hr:jG T r=none):Calls Tryz.prog 71 #[.pointer (some ⟨y,0,none⟩),aj r.f fF] w fun e w'=>e=.returned (.int .i64 4)∧Below w.heap.size w w':=by
 have hB:=h.blt;have cB:=Qh (fun(W:World) (hW:Qb w W)=>lq (h.below hW) hT (Nat.le_trans hB hW.size) (hI.below hW hB));obtain⟨pr,cr,e1,_,_⟩:=hI.shape;rw[hr]at cB;unfold lm at cB;dsimp only at cB;rw[e1]at cB ⊢;clear h hT hI hB e1 hr;generalize r.items.length=nr at*;generalize lJ:r.f=fr at*;obtain⟨rk,ri,rg,rn,rf,ra,rb,rz⟩:=fr;unfold aj at*;dsimp only at*;have hb0:=aG (Below.refl w.heap.size w) (.cells (a9 rk ri rg rn rf ra (.slice pr nr cr) rb rz) 24) (Nat.le_refl _);have bT:=aF w (.cells (a9 rk ri rg rn rf ra (.slice pr nr cr) rb rz) 24);have iq:=(Qg bT)
 go_enter Tryz.func71,Tryz.ntmps71;go_upto_region 1 with(fail);generalize(w.alloc (.cells (a9 rk ri rg rn rf ra (.slice pr nr cr) rb rz) 24))=W1 at*;have HX:=Qh (fun W (hW:Qb W1 W)=>(aq (x:=(l9 rk ri rg rn rf ra (.slice pr nr cr) rb rz)) ((hW.block _ iq).trans bT)));have hb:=Below.refl W1.heap.size W1;have au:=hb0;clear hb0 bT iq;have dw:=Qh (HX.out _ hb);go_wp2_with (first
  | (refine Ql dw.out ?_))
 refine(cB.out _ au).mono ?_;rintro e' w2 ⟨rfl,aD⟩;replace hb:=hb.trans (aD.mono hb.size);replace au:=au.trans (aD.mono au.size);clear aD cB dw;go_wp2_with fail;go_ret;exact⟨rfl,au⟩
theorem Mo(h:cY w B y lv T)(hT:T.length≤1000)(hI:ah w B N fF r.items){i:Nat}(hr:jG T r=some i)(ht:T[i]?=some t):Calls Tryz.prog 71 #[.pointer (some ⟨y,0,none⟩),aj r.f fF] w fun e w'=>e=.returned (.int .i64 0)∧Fq B y (([]++T.take i)++T.drop (i+1)) w w':=by
 have hB:=h.blt;have cB:=Qh (fun(W:World) (hW:Qb w W)=>lq (h.below hW) hT (Nat.le_trans hB hW.size) (hI.below hW hB));obtain⟨pr,cr,e1,_,_⟩:=hI.shape;obtain⟨gl,cl,hlv,hil,mo,Gl,_,hm⟩:=h.main ht;have nQ:=h.tabs t (List.mem_of_getElem? ht);rw[hr]at cB;unfold lm at cB;dsimp only at cB;rw[e1]at cB ⊢;rw[hlv]at hm;clear hm;have eC:=Qh (fun(W:World) (hW:Qb w W)=>(show W.cell? ⟨y,0,none⟩=some (.slice (some ⟨gl,0,none⟩) T.length cl) from by rw[←hlv];exact cm (x:=[lv]) (h.below hW).obj 0 _ rfl))
 have wG:=Qh (fun(W:World) (hW:Qb w W)=>(show W.frozen? ⟨y,0,none⟩=false from by have e:=(h.below hW).obj;simp only[World.frozen?,e];simp));have hE:=h.enc;have o5:=Qh (fun(W:World) (hW:Qb w W) (v':Value) (T':List (g6 N)) (ho:aA ku 53 20 W w.heap.size v' T') (he:T'=([]++T.take i)++T.drop (i+1))=>(show Fq B y (([]++T.take i)++T.drop (i+1)) w (W.setCell ⟨y,0,none⟩ v') from by
  obtain⟨q1,q2⟩:=cY.P_ h hW ho (fun x hx=>by
   rw[he,List.nil_append]at hx
   rcases List.mem_append.1 hx with hx|hx
   ·exact(h.below hW).tabs x (List.mem_of_mem_take hx)
   ·exact(h.below hW).tabs x (List.mem_of_mem_drop hx))
  rw[he]at q1
  exact⟨v',q1,q2⟩))
 have o6:=Qh (fun(j:Nat) (hj:j≤T.length) (W:World) (hW:Qb w W)=>ym hE (h.below hW).l hj);have jZ:=Qh (fun(j:Nat) (hj:j≤T.length) (W:World) (hW:Qb w W)=>vT hE (h.below hW).l hj);have vU:=Qh (fun(q:Nat) (hq:lv.ownBlock=some q)=>(h.l.lt hq).2);have L6:=Qh (fun(j:Nat)=>(hE.sub (fun x hx=>List.mem_of_mem_take hx):bD ku 20 (T.take j)));have L7:=Qh (fun(j:Nat)=>(hE.sub (fun x hx=>List.mem_of_mem_drop hx):bD ku 20 (T.drop j)));rw[hlv]at o6 jZ vU;clear h hI hB e1 hr ht nQ hlv hE;generalize r.items.length=nr at*;generalize lJ:r.f=fr at*
 obtain⟨rk,ri,rg,rn,rf,ra,rb,rz⟩:=fr;unfold aj at*;dsimp only at*;have hb0:=aG (Below.refl w.heap.size w) (.cells (a9 rk ri rg rn rf ra (.slice pr nr cr) rb rz) 24) (Nat.le_refl _);have bT:=aF w (.cells (a9 rk ri rg rn rf ra (.slice pr nr cr) rb rz) 24);have iq:=(Qg bT);go_enter Tryz.func71,Tryz.ntmps71;go_upto_region 1 with(fail);generalize(w.alloc (.cells (a9 rk ri rg rn rf ra (.slice pr nr cr) rb rz) 24))=W1 at*;have HX:=Qh (fun W (hW:Qb W1 W)=>(aq (x:=(l9 rk ri rg rn rf ra (.slice pr nr cr) rb rz)) ((hW.block _ iq).trans bT)))
 have hb:=Below.refl W1.heap.size W1;have au:=hb0;clear hb0 bT iq;have dw:=Qh (HX.out _ hb);go_wp2_with (first
  | (refine Ql dw.out ?_))
 refine(cB.out _ au).mono ?_;rintro e' w2 ⟨rfl,aD⟩;replace hb:=hb.trans (aD.mono hb.size);replace au:=au.trans (aD.mono au.size);clear aD cB dw;have r1:(i:Int)<(T.length:Int):=by omega
 have r2:¬((i:Int)<0):=by omega
 have ZB:IntKind.i64.wrap ((i:Int)+1)=(i:Int)+1:=IntWalk.i64_in _ (by omega);go_upto_region 4 with(fail);replace au:=au.trans ((aZ (Below.refl w2.heap.size w2)).mono au.size);clear hb;obtain⟨p1,c1,j5,rp,xd,_⟩:=o6.out (i+1) (by omega) w2.drew au;rw[show((i+1:Nat):Int)=(i:Int)+1 from by omega]at j5;obtain⟨RV,yj⟩:∃x,x=Value.slice p1 (T.length-(i+1)) c1:=⟨_,rfl⟩;rw[←yj]at rp xd j5;obtain⟨p3,c3,mO,xe,DC⟩:=jZ.out i (by omega) w2.drew au;obtain⟨RH,L_⟩:∃x,x=Value.slice p3 i c3:=⟨_,rfl⟩;rw[←L_]at xe DC mO
 obtain⟨v1,W7,mj,sR⟩:=dI zA (aA.nil 53 w2.drew w2.drew.heap.size) (Nat.le_refl _) 37 xe (L6.out i) (by simp;omega);have j7:Below w2.drew.heap.size w2.drew W7:=sR.bL (Below.refl _ _) (Nat.le_refl _) (fun q hq=>by have h0:(Value.slice none 0 0).ownBlock=some q:=hq;simp[Value.ownBlock]at h0);have vX:=rp.block (w':=W7) (fun q hq=>j7.block q (by have:=vU.out q (xd q hq);have:=au.size;omega));obtain⟨v2,W8,uz,uf⟩:=dI zA sR.own j7.size 37 vX (L7.out (i+1)) (by simp;omega)
 have qp:Below w2.drew.heap.size w2.drew W8:=uf.bL j7 j7.size (fun q hq=>(sR.own.lt hq).1);have Jn:=au.trans (j7.mono au.size);have mP:=au.trans (qp.mono au.size);have Fk:v2.oneCell'=true:=by obtain⟨p,c,e,_,_⟩:=uf.own.shape;rw[e];rfl
 have HP:=Qh (o5.out W8 mP v2 _ (uf.own.base (base':=w.heap.size) (fun q hq=>by have h1:=(uf.own.lt hq).1;have h2:=au.size;omega)) rfl);have k9:=eC.out _ au;have k7:=eC.out _ Jn;have k8:=eC.out _ mP;have hst:=XP W8 ⟨y,0,none⟩ _ v2 Fk k8 (wG.out _ mP);clear rp xe xd DC sR uf j7 qp vX o6 jZ o5 eC wG au Jn mP Fk k8;generalize T.length=nT at*
 refine wp_region_held_drew (S:=(fun w'=>True)) (by kernel_rfl) ?_ (fun hHeld=>?_)
 ·trivial
 generalize w2.drew=we at*;refine run_in [0,1,2,3,5,8,9,10,12,13] ?_;iterate 10 refine Qe ?_
 refine aI ?_;refine wpAnyH_ready (rs:=[4,11]) (by kernel_rfl) (by simp) ?_
 refine(ia rfl (fun K hK=>?_) (ia rfl (fun K hK=>?_) AllReadyH.nil))
 ·refine cH (by rfl) 37 (.tmp 14) rfl (p:=⟨y,0,none⟩) (v:=.slice (some ⟨gl,0,none⟩) nT cl) rfl (oZ _ _ _ ?_) ?_
  ·first|exact k9|exact k7
  refine hK.out _ _ ?_ (fun hHeld=>?_)
  ·trivial
  clear hK K;(try simp only[Act.put,pA,pB,pC])
  refine run_in [6] ?_;refine Qr rfl (dD (by rfl) Tryz.underlying37 (.tmp 15) none (some (.tmp 16)) rfl rfl rfl rfl mO) ?_;refine aI ?_;refine wpAnyH_ready (rs:=[7,11]) (by kernel_rfl) (by simp) ?_
  refine(ia rfl (fun K hK=>?_) (ia rfl (fun K hK=>?_) AllReadyH.nil))
  ·refine bA (t:=37) (t':=37) (w':=W7) (v:=v1) rfl (.const (.slice none 0 0)) (.tmp 17) rfl rfl rfl ?_ ?_
   ·exact mj
   refine hK.out _ _ ?_ (fun hHeld=>?_)
   ·trivial
   clear hK K;(try simp only[Act.put,pA,pB,pC])
   refine Qd 11 (fun K hK=>?_)
   refine cH (by rfl) 37 (.tmp 21) rfl (p:=⟨y,0,none⟩) (v:=.slice (some ⟨gl,0,none⟩) nT cl) rfl (oZ _ _ _ ?_) ?_
   ·first|exact k9|exact k7
   refine hK.out _ _ ?_ (fun hHeld=>?_)
   ·trivial
   clear hK K;(try simp only[Act.put,pA,pB,pC])
   refine run_in [14] ?_;refine Qr rfl (dD (by rfl) Tryz.underlying37 (.tmp 22) (some (.tmp 24)) none rfl rfl rfl rfl j5) ?_;refine aI ?_;refine Qd 15 (fun K hK=>?_)
   refine bA (t:=37) (t':=37) (w':=W8) (v:=v2) rfl (.tmp 18) (.tmp 25) rfl rfl rfl ?_ ?_
   ·exact uz
   refine hK.out _ _ ?_ (fun hHeld=>?_)
   ·trivial
   clear hK K;(try simp only[Act.put,pA,pB,pC])
   refine run_in [16,17] ?_;iterate 2 refine Qe ?_
   refine aI ?_;refine Qd 18 (fun K hK=>?_);refine aR (by rfl) 37 (.tmp 28) (.tmp 26) rfl (p:=⟨y,0,none⟩) (v:=v2) rfl rfl hst ?_
   refine hK.out _ _ ?_ (fun hHeld=>?_)
   ·trivial
   clear hK K;(try simp only[Act.put,pA,pB,pC])
   refine wpAnyH_done (by kernel_rfl) ?_ _;go_wp2_with fail;go_ret;exact⟨rfl,HP.out⟩
  ·refine cH (by rfl) 37 (.tmp 21) rfl (p:=⟨y,0,none⟩) (v:=.slice (some ⟨gl,0,none⟩) nT cl) rfl (oZ _ _ _ ?_) ?_
   ·first|exact k9|exact k7
   refine hK.out _ _ ?_ (fun hHeld=>?_)
   ·trivial
   clear hK K;(try simp only[Act.put,pA,pB,pC])
   refine run_in [14] ?_;refine Qr rfl (dD (by rfl) Tryz.underlying37 (.tmp 22) (some (.tmp 24)) none rfl rfl rfl rfl j5) ?_;refine aI ?_;refine Qd 7 (fun K hK=>?_)
   refine bA (t:=37) (t':=37) (w':=W7) (v:=v1) rfl (.const (.slice none 0 0)) (.tmp 17) rfl rfl rfl ?_ ?_
   ·exact mj
   refine hK.out _ _ ?_ (fun hHeld=>?_)
   ·trivial
   clear hK K;(try simp only[Act.put,pA,pB,pC])
   refine Qd 15 (fun K hK=>?_)
   refine bA (t:=37) (t':=37) (w':=W8) (v:=v2) rfl (.tmp 18) (.tmp 25) rfl rfl rfl ?_ ?_
   ·exact uz
   refine hK.out _ _ ?_ (fun hHeld=>?_)
   ·trivial
   clear hK K;(try simp only[Act.put,pA,pB,pC])
   refine run_in [16,17] ?_;iterate 2 refine Qe ?_
   refine aI ?_;refine Qd 18 (fun K hK=>?_);refine aR (by rfl) 37 (.tmp 28) (.tmp 26) rfl (p:=⟨y,0,none⟩) (v:=v2) rfl rfl hst ?_
   refine hK.out _ _ ?_ (fun hHeld=>?_)
   ·trivial
   clear hK K;(try simp only[Act.put,pA,pB,pC])
   refine wpAnyH_done (by kernel_rfl) ?_ _;go_wp2_with fail;go_ret;exact⟨rfl,HP.out⟩
 ·refine cH (by rfl) 37 (.tmp 21) rfl (p:=⟨y,0,none⟩) (v:=.slice (some ⟨gl,0,none⟩) nT cl) rfl (oZ _ _ _ ?_) ?_
  ·first|exact k9|exact k7
  refine hK.out _ _ ?_ (fun hHeld=>?_)
  ·trivial
  clear hK K;(try simp only[Act.put,pA,pB,pC])
  refine run_in [14] ?_;refine Qr rfl (dD (by rfl) Tryz.underlying37 (.tmp 22) (some (.tmp 24)) none rfl rfl rfl rfl j5) ?_;refine aI ?_;refine Qd 4 (fun K hK=>?_)
  refine cH (by rfl) 37 (.tmp 14) rfl (p:=⟨y,0,none⟩) (v:=.slice (some ⟨gl,0,none⟩) nT cl) rfl (oZ _ _ _ ?_) ?_
  ·first|exact k9|exact k7
  refine hK.out _ _ ?_ (fun hHeld=>?_)
  ·trivial
  clear hK K;(try simp only[Act.put,pA,pB,pC])
  refine run_in [6] ?_;refine Qr rfl (dD (by rfl) Tryz.underlying37 (.tmp 15) none (some (.tmp 16)) rfl rfl rfl rfl mO) ?_;refine aI ?_;refine Qd 7 (fun K hK=>?_)
  refine bA (t:=37) (t':=37) (w':=W7) (v:=v1) rfl (.const (.slice none 0 0)) (.tmp 17) rfl rfl rfl ?_ ?_
  ·exact mj
  refine hK.out _ _ ?_ (fun hHeld=>?_)
  ·trivial
  clear hK K;(try simp only[Act.put,pA,pB,pC])
  refine Qd 15 (fun K hK=>?_)
  refine bA (t:=37) (t':=37) (w':=W8) (v:=v2) rfl (.tmp 18) (.tmp 25) rfl rfl rfl ?_ ?_
  ·exact uz
  refine hK.out _ _ ?_ (fun hHeld=>?_)
  ·trivial
  clear hK K;(try simp only[Act.put,pA,pB,pC])
  refine run_in [16,17] ?_;iterate 2 refine Qe ?_
  refine aI ?_;refine Qd 18 (fun K hK=>?_);refine aR (by rfl) 37 (.tmp 28) (.tmp 26) rfl (p:=⟨y,0,none⟩) (v:=v2) rfl rfl hst ?_
  refine hK.out _ _ ?_ (fun hHeld=>?_)
  ·trivial
  clear hK K;(try simp only[Act.put,pA,pB,pC])
  refine wpAnyH_done (by kernel_rfl) ?_ _;go_wp2_with fail;go_ret;exact⟨rfl,HP.out⟩
end
theorem rO{α:Type}(p:α→Bool){l:List α}{i:Nat}{x:α}(hx:l[i]?=some x):(l.take (i+1)).filter p=(l.take i).filter p++(if p x then[x] else[]):=by
 rw[List.take_add_one,hx,List.filter_append];cases hp:p x <;> simp[hp]
section
variable {N:Nat}{w w' W W' W1:World}{B y:Nat}{lv:Value}{T:List (g6 N)}{t:g6 N}{r o:Tm (N+1)}{fF rZ vo vl:Value}{i:Nat}
noncomputable def DX(o:Tm (N+1))(t:g6 N):Bool:=dL t.own o
def GS(t:g6 N):Tm (N+1)×Value:=(t.ref,t.ur)
structure DY(o:Tm (N+1))(T:List (g6 N))(W1:World)(i:Nat)(vo vl:Value)(W:World):Prop where
 base:Below W1.heap.size W1 W
 out:aA tE 24 9 W W1.heap.size vo (((T.take i).filter (DX o)).map GS)
 left:aA ku 53 20 W W1.heap.size vl ((T.take i).filter (fun t=>!DX o t))
theorem DY.below(h:DY o T W1 i vo vl W)(hb:Below W.heap.size W W'):DY o T W1 i vo vl W':=⟨h.base.trans (hb.mono h.base.size),h.out.below hb,h.left.below hb⟩
theorem DY.yes(h:DY o T W1 i vo vl W)(ht:T[i]?=some t)(hp:DX o t=true){W2:World}{Kw:Value}(hA:dz tE 24 9 W W1.heap.size vo (((T.take i).filter (DX o)).map GS) [GS t] Kw W2):DY o T W1 (i+1) Kw vl W2:=by
 have hb:Qb W1 W2:=hA.bL h.base h.base.size (fun q hq=>(h.out.lt hq).1)
 refine⟨hb,?_,?_⟩
 ·rw[rO _ ht,hp,if_pos rfl,List.map_append];exact hA.own
 ·rw[rO _ ht,hp];simp only[Bool.not_true,Bool.false_eq_true,if_false,List.append_nil];exact h.left.same (fun q hq=>hA.other (h.left.lt hq).2 (fun e=>dX (dW h.left hq) (dW h.out e) (by decide) rfl))
theorem DY.no(h:DY o T W1 i vo vl W)(ht:T[i]?=some t)(hp:DX o t=false){W2:World}{Py:Value}(hA:dz ku 53 20 W W1.heap.size vl ((T.take i).filter (fun t=>!DX o t)) [t] Py W2):DY o T W1 (i+1) vo Py W2:=by
 have hb:Qb W1 W2:=hA.bL h.base h.base.size (fun q hq=>(h.left.lt hq).1)
 refine⟨hb,?_,?_⟩
 ·rw[rO _ ht,hp];simp only[Bool.false_eq_true,if_false,List.append_nil];exact h.out.same (fun q hq=>hA.other (h.out.lt hq).2 (fun e=>dX (dW h.out hq) (dW h.left e) (by decide) rfl))
 ·rw[rO _ ht,hp];simp only[Bool.not_false,if_true];exact hA.own
def Nt(B y:Nat)(T:List (g6 N))(o:Tm (N+1))(w:World)(e:Ending)(w':World):Prop:=∃vo,e=.returned vo∧ah w' w'.heap.size (N+1) vo ((T.filter (DX o)).map (·.ref))∧Fq B y (T.filter (fun t=>!DX o t)) w w'
theorem DY.fin(h:cY w B y lv T)(au:Below w.heap.size w W1)(hd:DY o T W1 T.length vo vl W):ah (W.setCell ⟨y,0,none⟩ vl) (W.setCell ⟨y,0,none⟩ vl).heap.size (N+1) vo ((T.filter (DX o)).map (·.ref))∧Fq B y (T.filter (fun t=>!DX o t)) w (W.setCell ⟨y,0,none⟩ vl):=by
 have hW:=au.trans (hd.base.mono au.size);have ho:=hd.out;have hl:=hd.left;rw[List.take_length]at ho hl;have UW:=(h.below hW).obj;have hs:∀g,g≠y→(W.setCell ⟨y,0,none⟩ vl).heap[g]?=W.heap[g]?:=fun g hg=>Below.heap_setCell _ _ _ _ hg;obtain⟨q1,q2⟩:=cY.P_ h hW (hl.base (base':=w.heap.size) (fun k hk=>by have h1:=(hl.lt hk).1;have h2:=au.size;omega)) (fun t ht=>(h.below hW).tabs t (List.mem_filter.1 ht).1);refine⟨?_,vl,q1,q2⟩;have hit:∀x∈(T.filter (DX o)).map GS,ah W B N x.2 x.1.items:=fun x hx=>by
  obtain⟨t,ht,rfl⟩:=List.mem_map.1 hx;exact((h.below hW).tabs t (List.mem_filter.1 ht).1).ld
 have hE:bD tE 9 ((T.filter (DX o)).map GS):=fun x hx=>⟨qC x,fun u hu=>aH (cP (hit x hx)) u hu⟩;have hrow:=(ho.same (fun q hq=>hs q (dX (dW ho hq) (br UW) (by decide)))).row hE;have UH:B≤(W.setCell ⟨y,0,none⟩ vl).heap.size:=by
  have h1:=h.blt;have h2:=hW.size;have h3:=q2.size;omega
 have hr:=sJ hrow (fun x hx=>((hit x hx).same (fun g hg=>hs g (by have:=h.low;omega))).more UH);rw[List.map_map]at hr;exact hr
def EdJ(o:Tm (N+1))(T:List (g6 N))(W1:World)(mm:Nat)(vo vl iv:Value)(W:World):Prop:=∃i:Nat,iv=.int .i64 i∧i≤T.length∧mm=T.length-i∧DY o T W1 i vo vl W
theorem Qv(h:cY w B y lv T)(hT:T.length≤1000)(hI:ah w B N rZ o.items):Calls Tryz.prog 72 #[.pointer (some ⟨y,0,none⟩),aj o.f rZ] w (Nt B y T o w):=by
 have hB:=h.blt;obtain⟨pl,cl,hlv,hlc,hlm⟩:=h.l.shape;have eC:=Qh (fun(W:World) (hW:Qb w W)=>(show W.cell? ⟨y,0,none⟩=some (.slice pl T.length cl) from by rw[←hlv];exact cm (x:=[lv]) (h.below hW).obj 0 _ rfl));have wG:=Qh (fun(W:World) (hW:Qb w W)=>(show W.frozen? ⟨y,0,none⟩=false from by have e:=(h.below hW).obj;simp only[World.frozen?,e];simp));have eU:=Qh (fun(W1 W:World) (vo vl:Value) (au:Qb w W1) (hd:DY o T W1 T.length vo vl W)=>hd.fin h au)
 have nX:=Qh (fun(i:Nat) (t:g6 N) (ht:T[i]?=some t) (W:World) (hW:Qb w W)=>(show Calls Tryz.prog 85 #[aj t.own.f t.uo,aj o.f rZ] W (aV (DX o t) W) from vQ W W.heap.size t.uo rZ t.own o (Nat.le_refl _) ((((h.below hW).tabs t (List.mem_of_getElem? ht)).pX).more (Nat.le_trans hB hW.size)) ((hI.below hW hB).more (Nat.le_trans hB hW.size))));have HMn:=Qh (fun(i:Nat) (t:g6 N) (ht:T[i]?=some t)=>(show ∃gl,pl=some ⟨gl,0,none⟩∧∀W,Qb w W→W.rangeAt gl (i*20) (ku t) from by
  obtain⟨gl,cl',Qw,_,_,_,_,hm⟩:=h.main ht
  rw[hlv]at Qw
  simp only[Value.slice.injEq,true_and]at Qw
  exact⟨gl,Qw.1,fun W hW=>(hm W hW).1⟩))
 have HOn:=Qh (fun(i:Nat) (t:g6 N) (ht:T[i]?=some t)=>(show t.ur.oneCell'=true∧(∃p c,t.uo=.slice p t.own.items.length c)∧bD tE 9 [GS t]∧bD ku 20 [t] from by
  have nQ:=h.tabs t (List.mem_of_getElem? ht)
  obtain⟨p,c,e,_,_⟩:=nQ.pX.shape
  exact⟨cP nQ.ld,⟨p,c,e⟩,fun x hx=>by
   obtain rfl:=List.mem_singleton.1 hx
   exact⟨rfl,fun u hu=>aH (cP nQ.ld) u hu⟩,h.enc.sub (fun x hx=>by
   obtain rfl:=List.mem_singleton.1 hx
   exact List.mem_of_getElem? ht)⟩))
 obtain⟨po,co,e1,_,_⟩:=hI.shape;rw[e1]at nX ⊢;unfold Nt;clear h hB hI e1 hlv;generalize o.items.length=no at*;generalize vO:o.f=fo at*;obtain⟨pk,pi,pg,pn,pf,pa,pb,pz⟩:=fo;unfold aj aV at*;dsimp only at*;have jY:(Tryz.prog.info? 53).map (·.size)=some 20:=by kernel_rfl
 have hb0:=aG (Below.refl w.heap.size w) (.cells (a9 pk pi pg pn pf pa (.slice po no co) pb pz) 24) (Nat.le_refl _);have bT:=aF w (.cells (a9 pk pi pg pn pf pa (.slice po no co) pb pz) 24);have iq:=(Qg bT);go_enter Tryz.func72,Tryz.ntmps72;go_upto_region 1 with(fail);generalize(w.alloc (.cells (a9 pk pi pg pn pf pa (.slice po no co) pb pz) 24))=W1 at*;have HX:=Qh (fun W (hW:Qb W1 W)=>aq (x:=(l9 pk pi pg pn pf pa (.slice po no co) pb pz)) ((hW.block _ iq).trans bT));have bu:=Qh hb0
 have H0:Hid (EdJ o T W1 T.length (.slice none 0 0) (.slice none 0 0) (.int .i64 0) W1):=Qh ⟨0,rfl,Nat.zero_le _,rfl,Below.refl _ _,aA.nil _ _ _,aA.nil _ _ _⟩;clear hb0 bT iq;go_wp2_with fail;go_loopg [5,6,7] T.length (fun mm vo vl iv wr=>Hid (EdJ o T W1 mm vo vl iv wr))
 case atStart=>exact H0
 case round=>
  obtain⟨i,rfl,hi,hm,hd⟩:=hrel.out;clear hrel H0;have HM:=Qh hm;clear hm;have au:=bu.out.trans (hd.base.mono bu.out.size);have k0:=eC.out _ au;obtain⟨p5,c5,e5,_,_⟩:=hd.out.shape;obtain⟨p6,c6,e6,_,_⟩:=hd.left.shape;subst e5 e6;have hn5:(((T.take i).filter (DX o)).map GS).length≤1000:=by
   rw[List.length_map];exact Nat.le_trans (List.length_filter_le _ _) (by rw[List.length_take];omega)
  have hn6:((T.take i).filter (fun t=>!DX o t)).length≤1000:=Nat.le_trans (List.length_filter_le _ _) (by rw[List.length_take];omega);obtain⟨n5,dM⟩:∃x,(((T.take i).filter (DX o)).map GS).length=x:=⟨_,rfl⟩;obtain⟨n6,fA⟩:∃x,((T.take i).filter (fun t=>!DX o t)).length=x:=⟨_,rfl⟩;rw[dM,fA]at hd;rw[dM,fA];clear dM fA
  by_cases hlt:i<T.length
  ·obtain⟨t,ht⟩:∃t,T[i]?=some t:=⟨_,List.getElem?_eq_getElem hlt⟩;obtain⟨gl,rfl,xS⟩:=HMn.out i t ht;obtain⟨oX,⟨pw,cw,td⟩,XT,XU⟩:=HOn.out i t ht;have L5:=Qh (nX.out i t ht);have C7:=Qh (fun(hp:DX o t=true) (W:World) (vo vl:Value) (hd:DY o T W1 i vo vl W) (W2:World) (Kw:Value) hA=>hd.yes ht hp (W2:=W2) (Kw:=Kw) hA);have uy:=Qh (fun(hp:DX o t=false) (W:World) (vo vl:Value) (hd:DY o T W1 i vo vl W) (W2:World) (Py:Value) hA=>hd.no ht hp (W2:=W2) (Py:=Py) hA)
   have Qx:=Qh (fun(W:World) (O:Obj) (hO:O=.cells ([GS t].flatMap tE).toArray 24)=>bq.fresh (w:=W.alloc O) XT (by decide) (by rw[←hO];exact aF W O) (c:=1) (Nat.le_refl _) (by decide));have Gt:=Qh (fun(W:World) (O:Obj) (hO:O=.cells ([t].flatMap ku).toArray 53)=>bq.fresh (w:=W.alloc O) XU (by decide) (by rw[←hO];exact aF W O) (c:=1) (Nat.le_refl _) (by decide));have dF:[GS t].flatMap tE=aE t.ref.f t.ur:=by simp[tE,GS]
   have eK:[t].flatMap ku=aE t.ref.f t.ur++(aE t.own.f t.uo++[.bool t.hs,t.vr]):=by simp[ku]
   rw[dF]at Qx;rw[eK]at Gt;have hro:∀W,Qb w W→W.rangeAt gl (i*20) (aE t.ref.f t.ur)∧W.rangeAt gl (i*20+9) (aE t.own.f t.uo):=fun W hW=>⟨jn (xS W hW),jn (kI (a:=aE t.ref.f t.ur) (xS W hW) rfl)⟩;unfold ku at xS;rw[td]at L5 Gt xS hro;generalize DX o t=q at*;have HEt:=Qh XT;have UX:=Qh XU;obtain⟨nt,hnt⟩:∃x,GS t=x:=⟨_,rfl⟩;rw[hnt]at Qx HEt C7;obtain⟨t2,RW⟩:∃x,t=x:=⟨_,rfl⟩;rw[RW]at uy UX
   have Gt:Hid (∀(W:World) (O:Obj),O=.cells (aE t.ref.f t.ur++(aE t.own.f (.slice pw t.own.items.length cw)++[.bool t.hs,t.vr])).toArray 53→bq ku 20 (W.alloc O) (W.heap.size+1) (.slice (some ⟨W.heap.size,0,none⟩) [t2].length 1) [t2]):=by rw[←RW];exact Gt
   clear XT XU dF eK hnt ht td RW HMn HOn nX vO;unfold aE at*;generalize t.own.items.length=nw at*;generalize t.ref.f=fe at*;generalize t.own.f=fw at*;generalize t.ur=ur at*;generalize t.hs=hs at*;generalize t.vr=vr at*;obtain⟨ek,ei,eg,en,ef,ea,eb,ez⟩:=fe;obtain⟨wk,wi,wg,wn,wf,wa,wb,wz⟩:=fw;dsimp only at*;simp only[List.cons_append,List.nil_append]at Gt xS;have wY:=Qh hro;have uD:=Qh xS;clear hro xS;have r1:(i:Int)<(T.length:Int):=by omega
   have hw1:IntKind.i64.wrap ((i:Int)+1)=(i:Int)+1:=IntWalk.i64_in _ (by omega);go_upto_region 6 with(fail);clear k0;have hdr:=aZ (Below.refl wr.heap.size wr);replace hd:=hd.below hdr;replace au:=au.trans (hdr.mono au.size);clear hdr
   refine wp_region_held_drew (S:=(fun w'=>w'.cell? ⟨y,0,none⟩=some (.slice (some ⟨gl,0,none⟩) T.length cl)∧w'.rangeAt gl (i*20+9) (l9 wk wi wg wn wf wa (.slice pw nw cw) wb wz)∧w'.rangeAt w.heap.size 0 (l9 pk pi pg pn pf pa (.slice po no co) pb pz))) (by kernel_rfl) ?_ (fun hHeld=>?_)
   ·exact⟨eC.out _ au,(wY.out _ au).2,HX.out _ hd.base⟩
   generalize wr.drew=wd at*;refine run_in [0,1,2,3,4,5,6,7,8] ?_;iterate 3 refine Qe ?_
   refine Qc oZ (fun w hs=>hs.1) ?_;iterate 3 refine Qe ?_
   refine Qm (fun w hs=>hs.2.1) ?_;refine Qm (fun w hs=>hs.2.2) ?_;refine aI ?_;refine Qd 9 (fun K hK=>?_);go_simp;refine(L5.out _ au).mono ?_;rintro e x1 ⟨rfl,hb⟩;replace hd:=hd.below hb;replace au:=au.trans (hb.mono au.size);clear hb;go_wp2_with fail;refine Qk hK (⟨eC.out _ au,(wY.out _ au).2,HX.out _ hd.base⟩) (fun hHeld=>?_);clear hK K;refine wpAnyH_done (by kernel_rfl) ?_ _;cases q;case true=>
    have k0:=eC.out _ au;have HR:=Qh (wY.out _ au).1;have hba:=aG (Below.refl x1.heap.size x1) (.cells (a9 ek ei eg en ef ea ur eb ez) 24) (Nat.le_refl _);have XV:=Qh (Qx.out x1 (.cells (a9 ek ei eg en ef ea ur eb ez) 24) rfl);have XW:=Qh (hd.below hba);have mE:=Qh (hd.below hba).out;have XX:=Qh (Nat.le_trans hd.base.size hba.size);clear hd hba;go_upto_region 5 with(first
     | (refine Ql HR.out ?_)
     | (at_builtin;refine ay II.el rfl (.tmp 27) (.tmp 36) rfl rfl mE.out XX.out rfl XV.out HEt.out (by simp only[List.length_singleton];omega) ?_;intro Kw W5 hA))
    have HN:=Qh (C7.out (by trivial) _ _ _ XW.out _ _ hA);clear hA;go_wp2_with fail;go_roundg (T.length-(i+1))
    case measure=>have:=HM.out;omega
    case rel=>exact Qh ⟨i+1,by go_num,by omega,rfl,HN.out⟩
   case false=>
    have k0:=eC.out _ au;have HR:=Qh (uD.out _ au);have hba:=aG (Below.refl x1.heap.size x1) (.cells (Cy ek ei eg en ef ea ur eb ez wk wi wg wn wf wa (.slice pw nw cw) wb wz hs vr) 53) (Nat.le_refl _);have XV:=Qh (Gt.out x1 (.cells (Cy ek ei eg en ef ea ur eb ez wk wi wg wn wf wa (.slice pw nw cw) wb wz hs vr) 53) rfl);have XW:=Qh (hd.below hba);have mE:=Qh (hd.below hba).left;have XX:=Qh (Nat.le_trans hd.base.size hba.size);clear hd hba;go_upto_region 5 with(first
     | (refine wpList_load_mid rfl 53 (.tmp 44) rfl gl (i*20) rfl (wH ek ei eg en ef ea ur eb ez wk wi wg wn wf wa (.slice pw nw cw) wb wz hs vr) _ HR.out Tryz.underlying53 rfl jY ?_)
     | (at_builtin;refine ay zA rfl (.tmp 38) (.tmp 46) rfl rfl mE.out XX.out rfl XV.out UX.out (by simp only[List.length_singleton];omega) ?_;intro Kw W5 hA))
    have HN:=Qh (uy.out (by trivial) _ _ _ XW.out _ _ hA);clear hA;go_wp2_with fail;go_roundg (T.length-(i+1))
    case measure=>have:=HM.out;omega
    case rel=>exact Qh ⟨i+1,by go_num,by omega,rfl,HN.out⟩
  ·obtain rfl:i=T.length:=by omega
   have r1:¬((T.length:Int)<(T.length:Int)):=by omega
   have HP:=Qh (eU.out _ _ _ _ bu.out hd);have f0:=wG.out _ au;clear hd;go_wp2_with fail;go_ret;exact⟨_,rfl,HP.out⟩
end
end Go.Proofs.YtfbggmbmgohiiaaGreat.tb
