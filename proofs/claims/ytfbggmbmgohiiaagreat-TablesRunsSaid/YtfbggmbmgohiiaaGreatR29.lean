/- TbP,TbQ,TbR,TbS,TbT,TbU. No condition beyond theirs. -/
import Derived.Test.YtfbggmbmgohiiaaGreatR28
set_option linter.unusedSimpArgs false
set_option linter.unusedVariables false
set_option maxHeartbeats 4000000
set_option maxRecDepth 100000
namespace Go.Proofs.YtfbggmbmgohiiaaGreat.tb
open Go.RowKit mem rec tm names
noncomputable def dK{N:Nat}(l:List (ct N))(r:Tm (N+1)):Option Nat:=l.findIdx? (fun t=>dL t.ref r)
def lm(o:Option Nat):Int:=match o with
 | none=>-1
 | some i=>i
section
variable {N:Nat}{w w':World}{B:Nat}{F:Nat→Prop}{s:iy N}
theorem xU{α:Type}{p:α→Bool}{l:List α}(h:∀j,(hj:j<l.length)→p l[j]=false):l.findIdx? p=none:=by
 rw[List.findIdx?_eq_none_iff];intro x hx;obtain⟨j,hj,rfl⟩:=List.mem_iff_getElem.1 hx;exact h j hj
theorem xV{α:Type}{p:α→Bool}{l:List α}{i:Nat}(hi:i<l.length)(h:∀j,(hj:j<i)→p (l[j]'(by omega))=false)(hp:p l[i]=true):l.findIdx? p=some i:=by
 rw[List.findIdx?_eq_some_iff_getElem];exact⟨hi,hp,fun j hj=>by rw[h j hj];simp⟩
theorem cN.ptr(h:cN w B F s){i:Nat}(hi:i<s.tabs.length):∃g c,s.vl=.slice (some ⟨g,0,none⟩) s.tabs.length c∧g<w.heap.size∧w.cell? ⟨g,i,none⟩=some (.pointer (some ⟨(s.tabs[i]).b,0,none⟩)):=by
 have hr:=h.l
 rcases id hr.2 with⟨_,h0⟩|⟨g,cap,cur,h1,_,hh,_⟩
 ·rw[List.length_map]at h0;omega
 ·rw[List.length_map]at h1;have hrow:=hr.row (jk _);rw[h1]at hrow;obtain⟨g',o,e,_,hg,hc⟩:=hrow.nth (by rw[List.length_map];omega);simp only[Option.some.injEq,Addr.mk.injEq,and_true]at e;obtain⟨rfl,rfl⟩:=e;refine⟨g,cap,h1,hg,?_⟩;have:=hc i (s.tabs[i]).b (by rw[List.getElem?_map,List.getElem?_eq_getElem hi];rfl) 0 _ rfl;simpa using this
def SC(l:List (ct N))(r:Tm (N+1))(w:World)(m:Nat)(iv:Value)(wr:World):Prop:=∃i:Nat,iv=.int .i64 (i:Int)∧i≤l.length∧m=l.length-i∧(∀j,(hj:j<i)→(hl:j<l.length)→dL (l[j]).ref r=false)∧Below w.heap.size w wr
theorem Ln(h:cN w B F s)(hlen:s.tabs.length≤1000){r:Tm (N+1)}{u:Value}{zb B2:Nat}(hB:B2≤w.heap.size)(hI:ah w B2 N u r.items)(hz:w.heap[zb]?=some (av r.f u)) :
 Calls Tryz.prog 81 #[s.vl,.func (.func 82) #[] #[.pointer (some ⟨zb,0,none⟩)]] w fun e w'=>e=.returned (.int .i64 (lm (dK s.tabs r)))∧Below w.heap.size w w':=by
 have hzl:=(Qg hz);obtain⟨pl,cl,hv,_,_⟩:=h.l.shape;rw[List.length_map]at hv;have HC:=Qh (fun(W:World) (hW:Qb w W) (i:Nat) (hi:i<s.tabs.length)=>Ox ((h.below hW).tabs _ (List.getElem_mem hi)) (h.below hW).fl (Nat.le_trans hB hW.size) (hI.below hW hB) ((hW.block _ hzl).trans hz));have yT:=Qh (fun(W:World) (hW:Qb w W) (i:Nat) (hi:i<s.tabs.length)=>(h.below hW).ptr hi);clear h hB hI hz hzl;generalize s.tabs=l at*;rw[hv]at yT ⊢;clear hv;have iL:Hid (SC l r w l.length (.int .i64 0) w):=Qh ⟨0,rfl,Nat.zero_le _,rfl,fun j hj=>by omega,Below.refl _ _⟩
 go_enter Tryz.func81,Tryz.ntmps81;go_wp2_with fail;go_loopg [8] l.length (fun m iv wr=>Hid (SC l r w m iv wr))
 case atStart=>exact iL
 case round=>
  obtain⟨i,rfl,hi,hm,hno,hb⟩:=hrel.out;clear hrel iL;have HM:=Qh hm;have uy:=Qh hno;have HB:=Qh hb;clear hm hno
  by_cases hlt:i<l.length
  ·obtain⟨g,c,hv,hg,hp⟩:=yT.out wr hb i hlt;simp only[Value.slice.injEq]at hv;obtain⟨rfl,_,rfl⟩:=hv;have Ip:=Qh (HC.out wr hb i hlt);have UA:=Qh (fun(e:dL (l[i]).ref r=false)=>(fun j (hj:j<i+1) (hl:j<l.length)=>(by
    by_cases h:j<i
    ·exact uy.out j h hl
    ·obtain rfl:j=i:=by omega
     exact e:dL (l[j]).ref r=false)))
   have HYe:=Qh (fun(e:dL (l[i]).ref r=true)=>(xV (p:=fun t:ct N=>dL t.ref r) hlt (fun j hj=>uy.out j hj (by omega)) e));clear hg hb;generalize(l[i]).b=tb at*;generalize dL (l[i]).ref r=q at*;go_wp2_with fail;refine Ip.out.mono ?_;rintro e w2 ⟨rfl,a_⟩;have bS:=Qh (HB.out.trans (a_.mono HB.out.size));clear a_ hp
   cases q
   ·have HN:=Qh (UA.out rfl);go_wp2_with fail;go_roundg (l.length-(i+1))
    case measure=>have:=HM.out;omega
    case rel=>exact Qh ⟨i+1,by go_num,by omega,rfl,HN.out,bS.out⟩
   ·have HY:=Qh (HYe.out rfl);go_wp2_with fail;go_ret;refine⟨?_,bS.out⟩;unfold dK;rw[HY.out];rfl
  ·have hn:=xU (p:=fun t:ct N=>dL t.ref r) (l:=l) (fun j hj=>uy.out j (by omega) hj);have HN:=Qh hn;clear hn;go_wp2_with fail;go_ret;refine⟨?_,HB.out⟩;unfold dK;rw[HN.out];rfl
end
section
variable {N:Nat}{w w':World}{B:Nat}{F:Nat→Prop}{s:iy N}
theorem Bc{l:List (ct N)}{r:Tm (N+1)}{i:Nat}(h:dK l r=some i):∃hi:i<l.length,l[i].ref=r:=by
 unfold dK at h;rw[List.findIdx?_eq_some_iff_getElem]at h;obtain⟨hi,hp,_⟩:=h;exact⟨hi,oH hp⟩
def mJ(l:List (ct N))(r:Tm (N+1))(po:Option Addr)(er:Int):Prop:=(dK l r=none∧po=none∧er=4)∨∃i,∃hi:i<l.length,dK l r=some i∧po=some ⟨(l[i]).b,0,none⟩∧er=0
theorem mJ.of(l:List (ct N))(r:Tm (N+1)):∃po er,mJ l r po er:=by
 cases h:dK l r with
 | none=>exact⟨none,4,.inl ⟨h,rfl,rfl⟩⟩
 | some i=>obtain⟨hi,_⟩:=Bc h;exact⟨_,0,.inr ⟨i,hi,h,rfl,rfl⟩⟩
theorem eV(h:cN w B F s)(hlen:s.tabs.length≤1000){r:Tm (N+1)}{u:Value}{B2:Nat}(hB:B2≤w.heap.size)(hI:ah w B2 N u r.items){po:Option Addr}{er:Int}(hR:mJ s.tabs r po er) :
 Calls Tryz.prog 49 #[.pointer (some ⟨s.z,0,none⟩),aj r.f u] w fun e w'=>e=.returned (.tuple #[.pointer po,.int .i64 er])∧Below w.heap.size w w':=by
 have hb0:=aG (Below.refl w.heap.size w) (av r.f u) (Nat.le_refl _);have hx0:=Ln (h.below hb0) hlen (Nat.le_trans hB hb0.size) (hI.below hb0 hB) (aF w (av r.f u));have HO:=Qh (fun(W:World) (hW:Qb w W)=>di (h.below hW).obj);have yT:=Qh (fun(W:World) (hW:Qb w W) (i:Nat) (hi:i<s.tabs.length)=>(h.below hW).ptr hi);obtain⟨pl,cl,hv,_,_⟩:=h.l.shape;rw[List.length_map]at hv;obtain⟨pu,cu,eu,_,_⟩:=hI.shape;generalize s.z=z at*;unfold mJ at hR;generalize hq:dK s.tabs r=q at*;generalize s.tabs=l at*;rw[hv]at hx0 HO yT;rw[eu]at hx0 hb0 ⊢
 clear h hB hI hv eu hq;generalize r.items.length=nr at*;generalize r.f=f at*;obtain⟨fk,fi,fg,fn,ff,fa,fb,fs⟩:=f;unfold aj;unfold av at hx0 hb0;dsimp only at hx0 hb0 ⊢;obtain⟨o0,o1,of⟩:=HO.out _ hb0;have bu:=Qh hb0;have HX:=Qh hx0;have HR:=Qh hR;clear hx0 hb0 hR
 rcases HR.out with⟨rfl,rfl,rfl⟩|⟨i,hi,rfl,rfl,rfl⟩
 ·clear yT HR;unfold lm at HX;dsimp only at HX;go_enter Tryz.func49,Tryz.ntmps49;go_upto_region 1 with(fail);generalize(w.alloc (.cells (a9 fk fi fg fn ff fa (.slice pu nr cu) fb fs) 24))=W1 at*;go_wp2_with fail;refine HX.out.mono ?_;rintro e w2 ⟨rfl,a_⟩;have au:=bu.out.trans (a_.mono bu.out.size);have bS:=Qh au;obtain⟨o0,o1,of⟩:=HO.out _ au;clear a_;go_wp2_with fail;go_ret2
  exact⟨rfl,bS.out⟩
 ·have HPi:=Qh (fun W hW=>yT.out W hW i hi);clear yT HR;unfold lm at HX;dsimp only at HX;generalize(l[i]).b=tb at*;go_enter Tryz.func49,Tryz.ntmps49;go_upto_region 1 with(fail);generalize(w.alloc (.cells (a9 fk fi fg fn ff fa (.slice pu nr cu) fb fs) 24))=W1 at*;go_wp2_with fail;refine HX.out.mono ?_;rintro e w2 ⟨rfl,a_⟩;have au:=bu.out.trans (a_.mono bu.out.size);have bS:=Qh au;obtain⟨o0,o1,of⟩:=HO.out _ au;clear a_;obtain⟨g,c,hv,hg,hp⟩:=HPi.out w2 au;simp only[Value.slice.injEq]at hv;obtain⟨rfl,_,rfl⟩:=hv;clear au hg;go_wp2_with fail;go_ret2
  exact⟨rfl,bS.out⟩
theorem De(h:cN w B F s)(hlen:s.tabs.length≤1000){r:Tm (N+1)}{u:Value}{B2:Nat}(hB:B2≤w.heap.size)(hI:ah w B2 N u r.items){n er:Int}(hr:(dK s.tabs r=none∧n=0∧er=4)∨∃i,∃hi:i<s.tabs.length,dK s.tabs r=some i∧n=(s.tabs[i]).rows.length∧er=0) :
 Calls Tryz.prog 31 #[.pointer (some ⟨s.z,0,none⟩),aj r.f u] w fun e w'=>e=.returned (.tuple #[.int .i64 n,.int .i64 er])∧Below w.heap.size w w':=by
 have hb0:=aG (Below.refl w.heap.size w) (av r.f u) (Nat.le_refl _);have hx0:=fun po er hR=>eV (h.below hb0) hlen (Nat.le_trans hB hb0.size) (hI.below hb0 hB) (po:=po) (er:=er) hR;have hn:=aW (aF w (av r.f u));have iX:=Qh (fun(W:World) (hW:Qb w W) (i:Nat) (hi:i<s.tabs.length)=>(dN ((h.below hW).tabs _ (List.getElem_mem hi)).blk).2.2.2.1);have iY:=Qh (fun(i:Nat) (hi:i<s.tabs.length)=>(h.tabs _ (List.getElem_mem hi)).rows.shape);obtain⟨pu,cu,eu,_,_⟩:=hI.shape;unfold mJ at hx0;generalize hq:dK s.tabs r=q at*;generalize s.tabs=l at*
 generalize s.z=z at*;rw[eu]at hx0 hb0 hn ⊢;clear h hB hI eu hq;generalize r.items.length=nr at*;generalize r.f=f at*;obtain⟨fk,fi,fg,fn,ff,fa,fb,fs⟩:=f;obtain⟨x0,x1,x2,x3,x4,x5,x6,x7,x8,xf⟩:=hn;unfold aj at hx0 ⊢;unfold av at hx0 hb0 x0 x1 x2 x3 x4 x5 x6 x7 x8 xf;dsimp only at hx0 hb0 x0 x1 x2 x3 x4 x5 x6 x7 x8 xf ⊢;have bu:=Qh hb0;have HX:=Qh hx0;clear hx0 hb0
 rcases hr with⟨rfl,rfl,rfl⟩|⟨i,hi,rfl,rfl,rfl⟩
 ·have HT:=Qh (HX.out none 4 (by simp));clear HX iX iY;go_enter Tryz.func31,Tryz.ntmps31;go_wp2_with fail;refine HT.out.mono ?_;rintro e w2 ⟨rfl,a_⟩;have au:=bu.out.trans (a_.mono bu.out.size);have bS:=Qh au;clear a_ x0 x1 x2 x3 x4 x5 x6 x7 x8 xf;go_wp2_with fail;go_ret2
  exact⟨rfl,bS.out⟩
 ·have HT:=Qh (HX.out _ 0 (.inr ⟨i,hi,rfl,rfl,rfl⟩));have YP:=Qh (fun W hW=>iX.out W hW i hi);obtain⟨pr,cr,jL,_,_⟩:=iY.out i hi;rw[jL]at YP;clear HX iX iY jL;generalize(l[i]).rows.length=zS at*;generalize(l[i]).b=tb at*;go_enter Tryz.func31,Tryz.ntmps31;go_wp2_with fail;refine HT.out.mono ?_;rintro e w2 ⟨rfl,a_⟩;have au:=bu.out.trans (a_.mono bu.out.size);have bS:=Qh au;clear a_ x0 x1 x2 x3 x4 x5 x6 x7 x8 xf;have hc:=YP.out w2 au;go_wp2_with fail;go_ret2
  exact⟨rfl,bS.out⟩
end
noncomputable def oN{N:Nat}(hs:Bool)(x y:Tm (N+1))(a b:Int):Bool:=if hs then(decide (a<b)||((a==b)&&decide (cM x y<0))) else decide (cM x y<0)
theorem bI(w:World)(o1 o2:Obj):Below w.heap.size w ((w.alloc o1).alloc o2)∧((w.alloc o1).alloc o2).heap[w.heap.size]?=some o1∧((w.alloc o1).alloc o2).heap[w.heap.size+1]?=some o2:=by
 have h1:=aG (Below.refl w.heap.size w) o1 (Nat.le_refl _);refine⟨aG h1 o2 h1.size,(Below.heap_alloc _ _ _ (by rw[World.size_alloc];omega)).trans (aF w o1),?_⟩;have:=aF (w.alloc o1) o2;rwa[World.size_alloc]at this
theorem OB{N:Nat}(w:World)(B:Nat)(u1 u2:Value)(x y:Tm (N+1))(a b:Int)(hB:B≤w.heap.size)(h1:ah w B N u1 x.items)(h2:ah w B N u2 y.items)(s1:300*(ap x:Int)≤1000000000000)(s2:300*(ap y:Int)≤1000000000000) :
 Calls Tryz.prog 177 #[.agg #[],aj x.f u1,aj y.f u2,.int .u32 a,.int .u32 b] w (aV (oN false x y a b) w):=by
 have HL:=Qh (fun W (hW:Qb w W)=>RS W B u1 u2 x y (Nat.le_trans hB hW.size) (h1.below hW hB) (h2.below hW hB) s1 s2);have u_:oN false x y a b=decide (cM x y<0):=rfl;rw[u_];obtain⟨pa,ca,rfl,_,_⟩:=h1.shape;obtain⟨pb,cb,rfl,_,_⟩:=h2.shape;generalize decide (cM x y<0)=q at*;generalize x.items.length=na at*;generalize y.items.length=nb at*;generalize x.f=fa at*;generalize y.f=fb at*;clear h1 h2 s1 s2 hB u_;obtain⟨k1,i1,j1,n1,f1,a1,b1,t1⟩:=fa;obtain⟨k2,i2,j2,n2,f2,a2,b2,t2⟩:=fb;unfold aj at*;dsimp only at HL ⊢
 have hb0:=aG (Below.refl w.heap.size w) (.cells #[] 93) (Nat.le_refl _);obtain⟨aD,dF,eK⟩:=bI (w.alloc (.cells #[] 93)) (.cells (a9 k1 i1 j1 n1 f1 a1 (.slice pa na ca) b1 t1) 24) (.cells (a9 k2 i2 j2 n2 f2 a2 (.slice pb nb cb) b2 t2) 24);rw[World.size_alloc]at dF eK;have HB:=Qh (hb0.trans (aD.mono hb0.size));have gF:=Qh (aW (f:=⟨k1,i1,j1,n1,f1,a1,b1,t1⟩) (v:=.slice pa na ca) dF);have gG:=Qh (aW (f:=⟨k2,i2,j2,n2,f2,a2,b2,t2⟩) (v:=.slice pb nb cb) eK);clear hb0 aD dF eK;go_enter Tryz.func177,Tryz.ntmps177;go_upto_region 1 with(fail)
 generalize(((w.alloc (.cells #[] 93)).alloc (.cells (a9 k1 i1 j1 n1 f1 a1 (.slice pa na ca) b1 t1) 24)).alloc (.cells (a9 k2 i2 j2 n2 f2 a2 (.slice pb nb cb) b2 t2) 24))=W1 at*;obtain⟨x0,x1,x2,x3,x4,x5,x6,x7,x8,xf⟩:=gF.out;obtain⟨y0,y1,y2,y3,y4,y5,y6,y7,y8,yf⟩:=gG.out;dsimp only at x0 x1 x2 x3 x4 x5 x6 x7 x8 y0 y1 y2 y3 y4 y5 y6 y7 y8;go_wp2_with fail;refine(HL.out _ HB.out).mono ?_;rintro e w2 ⟨rfl,a_⟩;have bS:=Qh (HB.out.trans (a_.mono HB.out.size));clear a_ x0 x1 x2 x3 x4 x5 x6 x7 x8 xf y0 y1 y2 y3 y4 y5 y6 y7 y8 yf;go_wp2_with fail;go_ret;exact⟨rfl,bS.out⟩
theorem OC{N:Nat}(w:World)(B:Nat)(u1 u2:Value)(x y:Tm (N+1))(a b:Int)(hB:B≤w.heap.size)(h1:ah w B N u1 x.items)(h2:ah w B N u2 y.items)(s1:300*(ap x:Int)≤1000000000000)(s2:300*(ap y:Int)≤1000000000000) :
 Calls Tryz.prog 179 #[.agg #[],aj x.f u1,aj y.f u2,.int .u32 a,.int .u32 b] w (aV (oN true x y a b) w):=by
 have HL:=Qh (fun W (hW:Qb w W)=>RS W B u1 u2 x y (Nat.le_trans hB hW.size) (h1.below hW hB) (h2.below hW hB) s1 s2);have u_:oN true x y a b=(decide (a<b)||((a==b)&&decide (cM x y<0))):=rfl;rw[u_];obtain⟨pa,ca,rfl,_,_⟩:=h1.shape;obtain⟨pb,cb,rfl,_,_⟩:=h2.shape;generalize decide (cM x y<0)=q at*;generalize x.items.length=na at*;generalize y.items.length=nb at*;generalize x.f=fa at*;generalize y.f=fb at*;clear h1 h2 s1 s2 hB u_;obtain⟨k1,i1,j1,n1,f1,a1,b1,t1⟩:=fa;obtain⟨k2,i2,j2,n2,f2,a2,b2,t2⟩:=fb;unfold aj at*;dsimp only at HL ⊢
 have hb0:=aG (Below.refl w.heap.size w) (.cells #[] 99) (Nat.le_refl _);obtain⟨aD,dF,eK⟩:=bI (w.alloc (.cells #[] 99)) (.cells (a9 k1 i1 j1 n1 f1 a1 (.slice pa na ca) b1 t1) 24) (.cells (a9 k2 i2 j2 n2 f2 a2 (.slice pb nb cb) b2 t2) 24);rw[World.size_alloc]at dF eK;have HB:=Qh (hb0.trans (aD.mono hb0.size));have gF:=Qh (aW (f:=⟨k1,i1,j1,n1,f1,a1,b1,t1⟩) (v:=.slice pa na ca) dF);have gG:=Qh (aW (f:=⟨k2,i2,j2,n2,f2,a2,b2,t2⟩) (v:=.slice pb nb cb) eK);clear hb0 aD dF eK
 by_cases c1:a<b
 ·have hd:decide (a<b)=true:=decide_eq_true c1;rw[hd,Bool.true_or];go_enter Tryz.func179,Tryz.ntmps179;go_upto_region 1 with(fail);generalize(((w.alloc (.cells #[] 99)).alloc (.cells (a9 k1 i1 j1 n1 f1 a1 (.slice pa na ca) b1 t1) 24)).alloc (.cells (a9 k2 i2 j2 n2 f2 a2 (.slice pb nb cb) b2 t2) 24))=W1 at*;obtain⟨x0,x1,x2,x3,x4,x5,x6,x7,x8,xf⟩:=gF.out;obtain⟨y0,y1,y2,y3,y4,y5,y6,y7,y8,yf⟩:=gG.out;dsimp only at x0 x1 x2 x3 x4 x5 x6 x7 x8 y0 y1 y2 y3 y4 y5 y6 y7 y8;go_wp2_with fail;go_ret;exact⟨rfl,HB.out⟩
 ·have hd:decide (a<b)=false:=decide_eq_false c1;rw[hd,Bool.false_or]
  by_cases c2:a=b
  ·have he:(a==b)=true:=by simp[c2]
   rw[he,Bool.true_and];clear c1 c2;go_enter Tryz.func179,Tryz.ntmps179;go_upto_region 1 with(fail);generalize(((w.alloc (.cells #[] 99)).alloc (.cells (a9 k1 i1 j1 n1 f1 a1 (.slice pa na ca) b1 t1) 24)).alloc (.cells (a9 k2 i2 j2 n2 f2 a2 (.slice pb nb cb) b2 t2) 24))=W1 at*;obtain⟨x0,x1,x2,x3,x4,x5,x6,x7,x8,xf⟩:=gF.out;obtain⟨y0,y1,y2,y3,y4,y5,y6,y7,y8,yf⟩:=gG.out;dsimp only at x0 x1 x2 x3 x4 x5 x6 x7 x8 y0 y1 y2 y3 y4 y5 y6 y7 y8;go_wp2_with fail;refine(HL.out _ HB.out).mono ?_;rintro e w2 ⟨rfl,a_⟩;have bS:=Qh (HB.out.trans (a_.mono HB.out.size))
   clear a_ x0 x1 x2 x3 x4 x5 x6 x7 x8 xf y0 y1 y2 y3 y4 y5 y6 y7 y8 yf;go_wp2_with fail;go_ret;exact⟨rfl,bS.out⟩
  ·have he:(a==b)=false:=by simp[c2]
   rw[he,Bool.false_and];clear c1 c2;go_enter Tryz.func179,Tryz.ntmps179;go_upto_region 1 with(fail);generalize(((w.alloc (.cells #[] 99)).alloc (.cells (a9 k1 i1 j1 n1 f1 a1 (.slice pa na ca) b1 t1) 24)).alloc (.cells (a9 k2 i2 j2 n2 f2 a2 (.slice pb nb cb) b2 t2) 24))=W1 at*;obtain⟨x0,x1,x2,x3,x4,x5,x6,x7,x8,xf⟩:=gF.out;obtain⟨y0,y1,y2,y3,y4,y5,y6,y7,y8,yf⟩:=gG.out;dsimp only at x0 x1 x2 x3 x4 x5 x6 x7 x8 y0 y1 y2 y3 y4 y5 y6 y7 y8;go_wp2_with fail;go_ret;exact⟨rfl,HB.out⟩
section
variable {N:Nat}{w w':World}{B:Nat}{F:Nat→Prop}{t:ct N}
theorem fZ.below(h:fZ w B F t)(hb:Below w.heap.size w w')(hF:∀g,F g→g<w.heap.size):fZ w' B F t:=h.same (hb.block _ h.lt) (fun k hk=>hb.block k (h.rows.lt hk).2) (fun g hg=>hb.block g (hF g hg)) (fun _ hg=>hg)
theorem fZ.Lo(h:fZ w B F t){i:Nat}(hi:i<t.rows.length):∃g c,t.vr=.slice (some ⟨g,0,none⟩) t.rows.length c∧g<w.heap.size∧Cells w g (i*19) (t.rows[i]).k.f (t.rows[i]).uk∧Cells w g (i*19+9) (t.rows[i]).v.f (t.rows[i]).uv∧w.cell? ⟨g,i*19+18,none⟩=some (.int .u32 (t.rows[i]).h):=by
 rcases id h.rows.2 with⟨_,h0⟩|⟨g,cap,cur,h1,_,hh,_⟩
 ·omega
 ·have hrow:=h.rows.row h.enc;rw[h1]at hrow;obtain⟨g',o,e,_,hg,hc⟩:=hrow.nth (by omega);simp only[Option.some.injEq,Addr.mk.injEq,and_true]at e;obtain⟨rfl,rfl⟩:=e;have hx:∀k u,(bC t.rows[i])[k]?=some u→w.cell? ⟨g,i*19+k,none⟩=some u:=fun k u hu=>by
   have:=hc i _ (List.getElem?_eq_getElem hi) k u hu;rwa[Nat.zero_add]at this
  exact⟨g,cap,h1,hg,⟨hx 0 _ rfl,hx 1 _ rfl,hx 2 _ rfl,hx 3 _ rfl,hx 4 _ rfl,hx 5 _ rfl,hx 6 _ rfl,hx 7 _ rfl,hx 8 _ rfl⟩,⟨hx 9 _ rfl,hx 10 _ rfl,hx 11 _ rfl,hx 12 _ rfl,hx 13 _ rfl,hx 14 _ rfl,hx 15 _ rfl,hx 16 _ rfl,hx 17 _ rfl⟩,hx 18 _ rfl⟩
theorem gB{w:World}{z:Nat}{a:Value}{ty:TypeId}(h:w.heap[z]?=some (.cells #[a] ty)):w.cell? ⟨z,0,none⟩=some a∧∀o,w.frozen? ⟨z,o,none⟩=false:=by
 refine⟨?_,fun o=>?_⟩
 ·simp only[World.cell?,h];rfl
 ·simp only[World.frozen?,h];simp
theorem OD(h:fZ w B F t)(hF:∀g,F g→g<w.heap.size){r:Tm (N+1)}{u:Value}{zt zk zh B2:Nat}{hh:Int}(hB:B2≤w.heap.size)(hI:ah w B2 N u r.items)(hn:300*(ap r:Int)≤1000000000000)
 (SD:w.heap[zt]?=some (.cells #[.pointer (some ⟨t.b,0,none⟩)] 89))(SE:w.heap[zk]?=some (av r.f u))(SF:w.heap[zh]?=some (.cells #[.int .u32 hh] 28)){i:Nat}(hi:i<t.rows.length)(iZ:300*(ap (t.rows[i]).k:Int)≤1000000000000) :
 Calls Tryz.prog 88 #[.int .i64 i,.pointer (some ⟨zt,0,none⟩),.pointer (some ⟨zk,0,none⟩),.pointer (some ⟨zh,0,none⟩)] w (aV (!oN t.hs (t.rows[i]).k r (t.rows[i]).h hh) w):=by
 have hit:=(h.gU _ (List.getElem_mem hi)).1;have kq:=fun(a b:Int)=>OB w.drew w.heap.size (t.rows[i]).uk u (t.rows[i]).k r a b (Nat.le_refl _) (bl.pR hF (bl.mono (w:=w) (w':=w.drew) (F:=F) (F':=F) (fun _ _=>rfl) (fun _ hg=>hg) hit)) ((ah.same (w:=w) (w':=w.drew) (fun _ _=>rfl) hI).more hB) iZ hn;have nM:=fun(a b:Int)=>OC w.drew w.heap.size (t.rows[i]).uk u (t.rows[i]).k r a b (Nat.le_refl _) (bl.pR hF (bl.mono (w:=w) (w':=w.drew) (F:=F) (F':=F) (fun _ _=>rfl) (fun _ hg=>hg) hit)) ((ah.same (w:=w) (w':=w.drew) (fun _ _=>rfl) hI).more hB) iZ hn
 obtain⟨g,cg,hv,hg,⟨x0,x1,x2,x3,x4,x5,x6,x7,x8⟩,xv,xh⟩:=h.Lo hi;clear xv;obtain⟨_,_,Iq,zU,_⟩:=dN h.blk;obtain⟨y0,y1,y2,y3,y4,y5,y6,y7,y8,yf⟩:=aW SE;obtain⟨YQ,_⟩:=gB SD;obtain⟨YR,_⟩:=gB SF;obtain⟨pa,ca,ea,_,_⟩:=bl.shape hit;obtain⟨pb,cb,eb,_,_⟩:=hI.shape;have hcb:=h.rows.shape;obtain⟨q1,q2,q3,EU,gW⟩:=hcb;clear q3;clear h hF hB hI hn SD SE SF iZ hit;rw[ea]at x6 kq nM;rw[eb]at y6 kq nM;rw[hv]at zU;clear ea eb hv;have UB:(i:Int)<(t.rows.length:Int):=by omega
 generalize t.rows[i]=row at*;generalize t.rows.length=nr at*;generalize row.k.items.length=na at*;generalize r.items.length=nb at*;have lZ:=Qh (kq row.h hh);have nY:=Qh (nM row.h hh);clear kq nM;generalize row.k.f=fa at*;generalize r.f=fb at*;generalize t.b=tb at*;generalize row.h=hr at*;generalize row.k=ke at*;generalize t.hs=hs at*;obtain⟨k1,i1,j1,n1,f1,a1,b1,t1⟩:=fa;obtain⟨k2,i2,j2,n2,f2,a2,b2,t2⟩:=fb;unfold aj at lZ nY;dsimp only at lZ nY x0 x1 x2 x3 x4 x5 x6 x7 x8 y0 y1 y2 y3 y4 y5 y6 y7 y8;unfold maxLen at gW
 cases hs
 ·generalize oN false ke r hr hh=q at*;have Ir:rB false=.iface 93 (.agg #[]):=rfl;rw[Ir]at Iq;clear nY Ir;go_enter Tryz.func88,Tryz.ntmps88;go_wp2_with fail;go_still_tail 24,(by kernel_rfl)
  change wpList _ _ _ _ _ w.drew;clear x0 x1 x2 x3 x4 x5 x6 x7 x8 y0 y1 y2 y3 y4 y5 y6 y7 y8 yf xh Iq zU YQ YR;have FP:=Qh (aZ (Below.refl w.heap.size w));go_wp2_with fail;refine lZ.out.mono ?_;rintro e w3 ⟨rfl,bN⟩;have lG:=Qh (FP.out.trans (bN.mono FP.out.size));clear bN;go_wp2_with fail;go_ret;exact⟨rfl,lG.out⟩
 ·generalize oN true ke r hr hh=q at*;have Ir:rB true=.iface 99 (.agg #[]):=rfl;rw[Ir]at Iq;clear lZ Ir;go_enter Tryz.func88,Tryz.ntmps88;go_wp2_with fail;go_still_tail 24,(by kernel_rfl)
  change wpList _ _ _ _ _ w.drew;clear x0 x1 x2 x3 x4 x5 x6 x7 x8 y0 y1 y2 y3 y4 y5 y6 y7 y8 yf xh Iq zU YQ YR;have FP:=Qh (aZ (Below.refl w.heap.size w));go_wp2_with fail;refine nY.out.mono ?_;rintro e w3 ⟨rfl,bN⟩;have lG:=Qh (FP.out.trans (bN.mono FP.out.size));clear bN;go_wp2_with fail;go_ret;exact⟨rfl,lG.out⟩
end
noncomputable def tH{N:Nat}(hs:Bool)(rows:List (j_ N))(r:Tm (N+1))(hh:Int):Nat:=rows.findIdx (fun x=>!oN hs x.k r x.h hh)
def OE{α:Type}(p:α→Bool)(l:List α):Prop:=∀i j,(hj:j<l.length)→(hi:i<j)→p l[j]=true→p (l[i]'(by omega))=true
theorem Iu{N:Nat}{hs:Bool}{rows:List (j_ N)}{r:Tm (N+1)}{hh:Int}(hm:OE (fun x=>oN hs x.k r x.h hh) rows){k:Nat}(hk:k≤rows.length)(h1:∀(h:0<k),oN hs (rows[k-1]'(by omega)).k r (rows[k-1]'(by omega)).h hh=true)(h2:∀(h:k<rows.length),oN hs rows[k].k r rows[k].h hh=false):tH hs rows r hh=k:=by
 unfold tH
 by_cases hlt:k<rows.length
 ·rw[List.findIdx_eq hlt];refine⟨by rw[h2 hlt];rfl,fun j hj=>?_⟩;have:=h1 (by omega)
  by_cases e:j=k-1
  ·subst e;rw[this];rfl
  ·have:=hm j (k-1) (by omega) (by omega) this;dsimp only at this;rw[this];rfl
 ·obtain rfl:k=rows.length:=by omega
  rw[List.findIdx_eq_length];intro x hx;obtain⟨j,hj,rfl⟩:=List.mem_iff_getElem.1 hx;have:=h1 (by omega)
  by_cases e:j=rows.length-1
  ·subst e;rw[this];rfl
  ·have:=hm j (rows.length-1) (by omega) (by omega) this;dsimp only at this;rw[this];rfl
def Nc(n:Nat)(p:Nat→Bool)(w:World)(m:Nat)(iv jv:Value)(wr:World):Prop:=∃i j:Nat,iv=.int .i64 (i:Int)∧jv=.int .i64 (j:Int)∧i≤j∧j≤n∧m=j-i∧(0<i→p (i-1)=true)∧(j<n→p j=false)∧Below w.heap.size w wr
section
variable {N:Nat}{w w':World}{B:Nat}{F:Nat→Prop}{t:ct N}
theorem Iv(h:fZ w B F t)(hF:∀g,F g→g<w.heap.size){r:Tm (N+1)}{u:Value}{zt zk zh B2:Nat}{hh:Int}(hB:B2≤w.heap.size)(hI:ah w B2 N u r.items)(hn:300*(ap r:Int)≤1000000000000)
 (SD:w.heap[zt]?=some (.cells #[.pointer (some ⟨t.b,0,none⟩)] 89))(SE:w.heap[zk]?=some (av r.f u))(SF:w.heap[zh]?=some (.cells #[.int .u32 hh] 28))(iZ:∀x∈t.rows,300*(ap x.k:Int)≤1000000000000)(hlen:t.rows.length≤1000000)(hm:OE (fun x=>oN t.hs x.k r x.h hh) t.rows) :
 Calls Tryz.prog 87 #[.int .i64 t.rows.length,.func (.func 88) #[] #[.pointer (some ⟨zt,0,none⟩),.pointer (some ⟨zk,0,none⟩),.pointer (some ⟨zh,0,none⟩)]] w fun e w'=>e=.returned (.int .i64 (tH t.hs t.rows r hh))∧Below w.heap.size w w':=by
 have HC:=Qh (fun(W:World) (hW:Qb w W) (i:Nat) (hi:i<t.rows.length)=>OD (h.below hW hF) (fun g hg=>Nat.lt_of_lt_of_le (hF g hg) hW.size) (Nat.le_trans hB hW.size) (hI.below hW hB) hn (Qp hW SD) (Qp hW SE) (Qp hW SF) hi (iZ _ (List.getElem_mem hi)));have HK:=Qh (fun(k:Nat) (hk:k≤t.rows.length) h1 h2=>Iu hm hk h1 h2);clear h hF hB hI hn SD SE SF iZ hm;generalize tH t.hs t.rows r hh=ka at*;obtain⟨p,hp⟩:∃p:Nat→Bool,p=fun i=>(t.rows[i]?).elim false (fun x=>oN t.hs x.k r x.h hh):=⟨_,rfl⟩
 have hpi:∀i (hi:i<t.rows.length),p i=oN t.hs (t.rows[i]).k r (t.rows[i]).h hh:=fun i hi=>by rw[hp];dsimp only;rw[List.getElem?_eq_getElem hi];rfl
 have nY:Hid (∀W,Qb w W→∀i:Nat,i<t.rows.length→Calls Tryz.prog 88 #[.int .i64 i,.pointer (some ⟨zt,0,none⟩),.pointer (some ⟨zk,0,none⟩),.pointer (some ⟨zh,0,none⟩)] W (aV (!p i) W)):=Qh (fun W hW i hi=>by rw[hpi i hi];exact HC.out W hW i hi);have KW:Hid (∀k,k≤t.rows.length→(0<k→p (k-1)=true)→(k<t.rows.length→p k=false)→ka=k):=Qh (fun k hk h1 h2=>HK.out k hk (fun h=>by rw[←hpi (k-1) (by omega)];exact h1 h) (fun h=>by rw[←hpi k h];exact h2 h));clear HC HK hp hpi;generalize t.rows.length=n at*
 have iL:Hid (Nc n p w n (.int .i64 0) (.int .i64 n) w):=Qh ⟨0,n,rfl,rfl,Nat.zero_le _,Nat.le_refl _,rfl,fun h=>absurd h (Nat.lt_irrefl 0),fun h=>absurd h (Nat.lt_irrefl n),Below.refl _ _⟩;go_enter Tryz.func87,Tryz.ntmps87;go_wp2_with fail;go_loopg [5,6] n (fun m iv jv wr=>Hid (Nc n p w m iv jv wr))
 case atStart=>exact iL
 case round=>
  obtain⟨i,j,rfl,rfl,hij,hj,hmm,h1,h2,hb⟩:=hrel.out;clear hrel iL;have HM:=Qh hmm;have H1:=Qh h1;have H2:=Qh h2;have HB:=Qh hb;clear hmm h1 h2
  by_cases hlt:i<j
  ·have e:(((i+j)/2:Nat):Int)=((i:Int)+(j:Int))/2:=by omega
   have hC:=nY.out wr hb ((i+j)/2) (by omega);rw[e]at hC;have Ip:=Qh hC;have HE:=Qh e;clear hb hC e;generalize YS:p ((i+j)/2)=pm at*;have YT:=Qh YS;clear YS;have hw1:IntKind.i64.wrap (((i:Int)+(j:Int))/2+1)=((i:Int)+(j:Int))/2+1:=IntWalk.i64_in _ (by omega);go_wp2_with fail;refine Ip.out.mono ?_;rintro e w2 ⟨rfl,a_⟩;have bS:=Qh (HB.out.trans (a_.mono HB.out.size));clear a_
   cases pm
   ·dsimp only[Bool.not_false];go_wp2_with fail;go_roundg ((i+j)/2-i)
    case measure=>have:=HM.out;omega
    case rel=>exact Qh ⟨i,(i+j)/2,rfl,by rw[←HE.out],by omega,by omega,rfl,H1.out,fun _=>YT.out,bS.out⟩
   ·dsimp only[Bool.not_true];go_wp2_with fail;go_roundg (j-((i+j)/2+1))
    case measure=>have:=HM.out;omega
    case rel=>exact Qh ⟨(i+j)/2+1,j,by rw[←HE.out];rfl,rfl,by omega,by omega,rfl,fun _=>by rw[Nat.add_sub_cancel];exact YT.out,H2.out,bS.out⟩
  ·obtain rfl:i=j:=by omega
   have hk:=KW.out i hj H1.out H2.out;have HE:=Qh hk;clear hk;go_wp2_with fail;go_ret;exact⟨by rw[HE.out];rfl,HB.out⟩
end
noncomputable def hK{N:Nat}(hs:Bool)(r:Tm (N+1)):Int:=if hs then cy r else 0
noncomputable def cG{N:Nat}(t:ct N)(r:Tm (N+1)):Nat:=tH t.hs t.rows r (hK t.hs r)
noncomputable def iz{N:Nat}(t:ct N)(r:Tm (N+1)):Bool:=(t.rows[cG t r]?).elim false (fun x=>dL x.k r)
structure lp{N:Nat}(t:ct N)(r:Tm (N+1)):Prop where
 nodes:∀x∈t.rows,300*(ap x.k:Int)≤1000000000000
 len:t.rows.length≤1000000
 mono:OE (fun x=>oN t.hs x.k r x.h (hK t.hs r)) t.rows
theorem Wy(W:World):(Instr.typeAssert (.iface 99 (.agg #[])) 95 99 true).run Tryz.prog W=.ok (.tuple #[.agg #[],.bool true]) W:=by
 simp[Instr.typeAssert,run_underlying Tryz.underlying99]
theorem Wz(W:World):(Instr.typeAssert (.iface 93 (.agg #[])) 95 99 true).run Tryz.prog W=.ok (.tuple #[.agg #[],.bool false]) W:=by
 have hz:(zeroValue 99).run Tryz.prog W=.ok (.agg #[]) W:=by kernel_rfl
 simp[Instr.typeAssert,run_underlying Tryz.underlying99,hz]
theorem aQ{w w':World}{B g o:Nat}{v:Value}(hb:Below B w w')(hg:g<B)(h:w.cell? ⟨g,o,none⟩=some v):w'.cell? ⟨g,o,none⟩=some v:=(hb.cell (p:=⟨g,o,none⟩) hg).trans h
section
variable {N:Nat}{w w':World}{B:Nat}{F:Nat→Prop}{t:ct N}
theorem lT(t:ct N)(r:Tm (N+1)):cG t r≤t.rows.length:=List.findIdx_le_length
theorem qy(h:fZ w B F t)(hF:∀g,F g→g<w.heap.size){r:Tm (N+1)}{u:Value}{B2:Nat}(hB:B2≤w.heap.size)(hI:ah w B2 N u r.items)(hn:300*(ap r:Int)≤1000000000000)(hok:lp t r) :
 Calls Tryz.prog 56 #[.pointer (some ⟨t.b,0,none⟩),aj r.f u] w fun e w'=>e=.returned (.tuple #[.int .i64 (cG t r),.bool (iz t r)])∧Below w.heap.size w w':=by
 have aD:=aG (Below.refl w.heap.size w) (.cells #[.pointer (some ⟨t.b,0,none⟩)] 89) (Nat.le_refl _);have a_:=aG aD (av r.f u) aD.size;have bN:=aG a_ (.cells #[.int .u32 0] 28) a_.size;obtain⟨p1,p2,p3⟩:=bI w (.cells #[.pointer (some ⟨t.b,0,none⟩)] 89) (av r.f u);have p4:=aF ((w.alloc (Obj.cells #[.pointer (some ⟨t.b,0,none⟩)] 89)).alloc (av r.f u)) (.cells #[.int .u32 0] 28);have iw:((w.alloc (Obj.cells #[.pointer (some ⟨t.b,0,none⟩)] 89)).alloc (av r.f u)).heap.size=w.heap.size+1+1:=by rw[World.size_alloc,World.size_alloc]
 rw[iw]at p4;have YU:=(Below.heap_alloc ((w.alloc (Obj.cells #[.pointer (some ⟨t.b,0,none⟩)] 89)).alloc (av r.f u)) (.cells #[.int .u32 0] 28) w.heap.size (by omega)).trans p2;have YV:=(Below.heap_alloc ((w.alloc (Obj.cells #[.pointer (some ⟨t.b,0,none⟩)] 89)).alloc (av r.f u)) (.cells #[.int .u32 0] 28) (w.heap.size+1) (by omega)).trans p3;have dJ:=Qh bN;have gJ:=Qh YU;have Lp:=Qh YV;have Q8:=Qh p4;have HH:=Qh (fun W (hW:Qb w W)=>Dc W B2 u r (Nat.le_trans hB hW.size) (hI.below hW hB) hn)
 have HS:=Qh (fun W (hW:Qb w W) zt zk zh (a:W.heap[zt]?=some (Obj.cells #[.pointer (some ⟨t.b,0,none⟩)] 89)) (b:W.heap[zk]?=some (av r.f u)) (c:W.heap[zh]?=some (Obj.cells #[.int .u32 (hK t.hs r)] 28))=>Iv (h.below hW hF) (fun g hg=>Nat.lt_of_lt_of_le (hF g hg) hW.size) (Nat.le_trans hB hW.size) (hI.below hW hB) hn a b c hok.nodes hok.len hok.mono);have nX:=Qh (fun W (hW:Qb w W) (i:Nat) (hi:i<t.rows.length)=>yU (w:=W) (F:=F) (fun g hg=>Nat.lt_of_lt_of_le (hF g hg) hW.size) (((h.below hW hF).gU _ (List.getElem_mem hi)).1) (Nat.le_trans hB hW.size) (hI.below hW hB))
 have HT:=Qh (fun W (hW:Qb w W)=>dN (h.below hW hF).blk);have CI:=Qh (fun W (hW:Qb w W) (i:Nat) (hi:i<t.rows.length)=>(h.below hW hF).Lo hi);have iX:=Qh (fun W (hW:Qb w W)=>(h.below hW hF).lt);have lU:=Qh (fun(i:Nat) (hi:i<t.rows.length)=>bl.shape (h.gU _ (List.getElem_mem hi)).1);have hle:=lT t r;have hlen:=hok.len;obtain⟨pv,cv,ev,EU,gW⟩:=h.rows.shape;obtain⟨pb,cb,eb,_,_⟩:=hI.shape;unfold maxLen at gW;unfold iz;have hpk:cG t r=tH t.hs t.rows r (hK t.hs r):=rfl;rw[←hpk]at HS;clear aD a_ bN p1 p2 p3 p4 iw YU YV h hF hB hI hn hok hpk
 rw[ev]at HT CI;clear ev;generalize t.rows=rows at*;generalize t.b=tb at*;generalize cG t r=pos at*;generalize t.hs=hs at*;rw[eb]at HH nX Lp dJ HS gJ Q8 ⊢;generalize r.items.length=nb at*;clear eb;generalize r.f=f at*;obtain⟨fk,fi,fg,fn,ff,fa,fb,fs⟩:=f;unfold aj at HH nX ⊢;unfold av at gJ Lp Q8 dJ HS;dsimp only at HH nX gJ Lp Q8 dJ HS ⊢
 cases hs
 ·have Ir:rB false=.iface 93 (.agg #[]):=rfl;rw[Ir]at HT;clear Ir;have nQ:=fun W=>Wz W;go_enter Tryz.func56,Tryz.ntmps56;go_upto_region 2 with(fail);generalize(((w.alloc (.cells #[.pointer (some ⟨tb,0,none⟩)] 89)).alloc (.cells (a9 fk fi fg fn ff fa (.slice pb nb cb) fb fs) 24)).alloc (.cells #[.int .u32 0] 28))=W3 at*;obtain⟨q0,qf⟩:=gB gJ.out;obtain⟨_,_,Iq,zU,_⟩:=HT.out _ dJ.out;have OG:hK false r=0:=rfl;rw[OG]at HS;clear OG HH;go_upto_region 5 with(fail);have SG:=Qh (HS.out _ dJ.out _ _ _ gJ.out Lp.out Q8.out);obtain⟨q0,qf⟩:=gB gJ.out
  obtain⟨_,_,Iq,zU,_⟩:=HT.out _ dJ.out;go_wp2_with fail;refine SG.out.mono ?_;rintro e w5 ⟨rfl,eS⟩;have kZ:=Qh (dJ.out.trans (eS.mono dJ.out.size));have jC:=(Array.getElem?_eq_some_iff.1 gJ.out).1;have nR:=(Array.getElem?_eq_some_iff.1 Lp.out).1;obtain⟨q0,qf⟩:=gB ((eS.block _ jC).trans gJ.out);obtain⟨y0,y1,y2,y3,y4,y5,y6,y7,y8,yf⟩:=aW (f:=⟨fk,fi,fg,fn,ff,fa,fb,fs⟩) (v:=.slice pb nb cb) ((eS.block _ nR).trans Lp.out);obtain⟨_,_,Iq,zU,_⟩:=HT.out _ kZ.out;dsimp only at y0 y1 y2 y3 y4 y5 y6 y7 y8
  have M5:Hid (w.heap.size<w5.heap.size∧w.heap.size+1<w5.heap.size):=Qh ⟨Nat.lt_of_lt_of_le jC eS.size,Nat.lt_of_lt_of_le nR eS.size⟩;have WA:=Qh (iX.out _ kZ.out);clear eS SG jC nR;go_upto_region 6 with(fail)
  by_cases hlt:pos<rows.length
  ·obtain⟨g,cg,hv,hg,⟨x0,x1,x2,x3,x4,x5,x6,x7,x8⟩,xv,xh⟩:=CI.out _ kZ.out pos hlt;have WB:=Qh hg;clear xv xh hg;simp only[Value.slice.injEq]at hv;obtain⟨rfl,_,rfl⟩:=hv;obtain⟨px,cx,ex,_,_⟩:=lU.out pos hlt;have hC:=nX.out w5.drew (aZ kZ.out) pos hlt;rw[ex]at x6 hC;have tU:=Qh (show(rows[pos]?).elim false (fun x=>dL x.k r)=dL (rows[pos]).k r by rw[List.getElem?_eq_getElem hlt];rfl);generalize rows[pos]=row at*;generalize row.k.f=fx at*;generalize row.k.items.length=nx at*;obtain⟨k1,i1,j1,n1,f1,a1,b1,t1⟩:=fx;(try unfold aj at hC)
   dsimp only at hC x0 x1 x2 x3 x4 x5 x6 x7 x8;generalize dL row.k r=q at*;have HC:=Qh hC;clear hC ex;have hd:decide ((pos:Int)<(rows.length:Int))=true:=decide_eq_true (by omega);have hbd:=aZ (Below.refl w5.heap.size w5);have FP:=Qh hbd;have mK:Hid (g<w5.heap.size∧tb<w5.heap.size∧w.heap.size<w5.heap.size∧w.heap.size+1<w5.heap.size):=Qh ⟨WB.out,WA.out,M5.out.1,M5.out.2⟩
   have SH:=Qh (fun W (hW:Qb w5 W)=>(⟨aQ hW mK.out.2.2.1 q0,aQ hW mK.out.2.1 zU,aQ hW mK.out.1 x0,aQ hW mK.out.1 x1,aQ hW mK.out.1 x2,aQ hW mK.out.1 x3,aQ hW mK.out.1 x4,aQ hW mK.out.1 x5,aQ hW mK.out.1 x6,aQ hW mK.out.1 x7,aQ hW mK.out.1 x8,aQ hW mK.out.2.2.2 y0,aQ hW mK.out.2.2.2 y1,aQ hW mK.out.2.2.2 y2,aQ hW mK.out.2.2.2 y3,aQ hW mK.out.2.2.2 y4,aQ hW mK.out.2.2.2 y5,aQ hW mK.out.2.2.2 y6,aQ hW mK.out.2.2.2 y7,aQ hW mK.out.2.2.2 y8⟩:W.cell? ⟨w.heap.size,0,none⟩=some (.pointer (some ⟨tb,0,none⟩))∧W.cell? ⟨tb,19,none⟩=some (.slice (some ⟨g,0,none⟩) rows.length cv)∧W.cell? ⟨g,pos*19,none⟩=some (.int .i64 k1)∧W.cell? ⟨g,pos*19+1,none⟩=some (.int .i64 i1)∧W.cell? ⟨g,pos*19+1+1,none⟩=some (.int .i64 j1)∧W.cell? ⟨g,pos*19+1+1+1,none⟩=some (.string n1)∧W.cell? ⟨g,pos*19+1+1+1+1,none⟩=some (.string f1)∧W.cell? ⟨g,pos*19+1+1+1+1+1,none⟩=some (.int .i64 a1)∧W.cell? ⟨g,pos*19+1+1+1+1+1+1,none⟩=some (.slice px nx cx)∧W.cell? ⟨g,pos*19+1+1+1+1+1+1+1,none⟩=some (.string b1)∧W.cell? ⟨g,pos*19+1+1+1+1+1+1+1+1,none⟩=some (.int .i64 t1)∧W.cell? ⟨(w.heap.size+1),0,none⟩=some (.int .i64 fk)∧W.cell? ⟨(w.heap.size+1),1,none⟩=some (.int .i64 fi)∧W.cell? ⟨(w.heap.size+1),2,none⟩=some (.int .i64 fg)∧W.cell? ⟨(w.heap.size+1),3,none⟩=some (.string fn)∧W.cell? ⟨(w.heap.size+1),4,none⟩=some (.string ff)∧W.cell? ⟨(w.heap.size+1),5,none⟩=some (.int .i64 fa)∧W.cell? ⟨(w.heap.size+1),6,none⟩=some (.slice pb nb cb)∧W.cell? ⟨(w.heap.size+1),7,none⟩=some (.string fb)∧W.cell? ⟨(w.heap.size+1),8,none⟩=some (.int .i64 fs)))
   obtain⟨q0,zU,x0,x1,x2,x3,x4,x5,x6,x7,x8,y0,y1,y2,y3,y4,y5,y6,y7,y8⟩:=SH.out _ hbd
   go_region_held3 (fun w'=>w'.cell? ⟨w.heap.size,0,none⟩=some (.pointer (some ⟨tb,0,none⟩))∧w'.cell? ⟨tb,19,none⟩=some (.slice (some ⟨g,0,none⟩) rows.length cv)∧w'.cell? ⟨g,pos*19,none⟩=some (.int .i64 k1)∧w'.cell? ⟨g,pos*19+1,none⟩=some (.int .i64 i1)∧w'.cell? ⟨g,pos*19+1+1,none⟩=some (.int .i64 j1)∧w'.cell? ⟨g,pos*19+1+1+1,none⟩=some (.string n1)∧w'.cell? ⟨g,pos*19+1+1+1+1,none⟩=some (.string f1)∧w'.cell? ⟨g,pos*19+1+1+1+1+1,none⟩=some (.int .i64 a1)∧w'.cell? ⟨g,pos*19+1+1+1+1+1+1,none⟩=some (.slice px nx cx)∧w'.cell? ⟨g,pos*19+1+1+1+1+1+1+1,none⟩=some (.string b1)∧w'.cell? ⟨g,pos*19+1+1+1+1+1+1+1+1,none⟩=some (.int .i64 t1)∧w'.cell? ⟨(w.heap.size+1),0,none⟩=some (.int .i64 fk)∧w'.cell? ⟨(w.heap.size+1),1,none⟩=some (.int .i64 fi)∧w'.cell? ⟨(w.heap.size+1),2,none⟩=some (.int .i64 fg)∧w'.cell? ⟨(w.heap.size+1),3,none⟩=some (.string fn)∧w'.cell? ⟨(w.heap.size+1),4,none⟩=some (.string ff)∧w'.cell? ⟨(w.heap.size+1),5,none⟩=some (.int .i64 fa)∧w'.cell? ⟨(w.heap.size+1),6,none⟩=some (.slice pb nb cb)∧w'.cell? ⟨(w.heap.size+1),7,none⟩=some (.string fb)∧w'.cell? ⟨(w.heap.size+1),8,none⟩=some (.int .i64 fs)) (go_keep)
    (first|(go_at_call 66;refine HC.out.mono ?_;rintro e w6 ⟨rfl,um⟩;have j7:=FP.out.trans um;obtain⟨q0,zU,x0,x1,x2,x3,x4,x5,x6,x7,x8,y0,y1,y2,y3,y4,y5,y6,y7,y8⟩:=SH.out _ j7)|fail)
   all_goals
    have nZ:=Qh (kZ.out.trans (j7.mono kZ.out.size));clear q0 zU x0 x1 x2 x3 x4 x5 x6 x7 x8 y0 y1 y2 y3 y4 y5 y6 y7 y8 um j7;go_wp2_with fail;go_ret2
    exact⟨by rw[tU.out];rfl,nZ.out⟩
  ·have tU:Hid ((rows[pos]?).elim false (fun x=>dL x.k r)=false):=Qh (by rw[List.getElem?_eq_none (by omega)];rfl);have hd:decide ((pos:Int)<(rows.length:Int))=false:=decide_eq_false (by omega);clear y0 y1 y2 y3 y4 y5 y6 y7 y8 yf;go_quiet (fail)
   go_wp2_with fail;go_ret2
   exact⟨by rw[tU.out];rfl,Hr kZ.out _⟩
 ·have Ir:rB true=.iface 99 (.agg #[]):=rfl;rw[Ir]at HT;clear Ir;have nQ:=fun W=>Wy W;go_enter Tryz.func56,Tryz.ntmps56;go_upto_region 2 with(fail);generalize(((w.alloc (.cells #[.pointer (some ⟨tb,0,none⟩)] 89)).alloc (.cells (a9 fk fi fg fn ff fa (.slice pb nb cb) fb fs) 24)).alloc (.cells #[.int .u32 0] 28))=W3 at*;obtain⟨q0,qf⟩:=gB gJ.out;obtain⟨_,_,Iq,zU,_⟩:=HT.out _ dJ.out;have OG:hK true r=cy r:=rfl;rw[OG]at HS;clear OG;obtain⟨y0,y1,y2,y3,y4,y5,y6,y7,y8,yf⟩:=aW (f:=⟨fk,fi,fg,fn,ff,fa,fb,fs⟩) (v:=.slice pb nb cb) Lp.out
  dsimp only at y0 y1 y2 y3 y4 y5 y6 y7 y8;go_wp2_with fail;refine(HH.out _ dJ.out).mono ?_;rintro e w4 ⟨rfl,dS⟩;have lG:=Qh (dJ.out.trans (dS.mono dJ.out.size));have jC:=(Array.getElem?_eq_some_iff.1 gJ.out).1;have nR:=(Array.getElem?_eq_some_iff.1 Lp.out).1;have gP:=(Array.getElem?_eq_some_iff.1 Q8.out).1;have YW:=(dS.block _ jC).trans gJ.out;have YX:=(dS.block _ nR).trans Lp.out;have WC:=(dS.block _ gP).trans Q8.out;clear y0 y1 y2 y3 y4 y5 y6 y7 y8 yf q0 qf Iq zU dS jC nR gP;obtain⟨z0,zf⟩:=gB WC;generalize cy r=hr at*
  have HQ4:Hid ((w4.setCell ⟨w.heap.size+1+1,0,none⟩ (.int .u32 hr)).heap[w.heap.size+1+1]?=some (.cells #[.int .u32 hr] 28)):=Qh (heap_setCell_same w4 _ 0 _ 28 _ WC);have Ey:Hid ((w4.setCell ⟨w.heap.size+1+1,0,none⟩ (.int .u32 hr)).heap[w.heap.size]?=some (.cells #[.pointer (some ⟨tb,0,none⟩)] 89)):=Qh ((Below.heap_setCell _ _ _ _ (fun e=>by first|(have e':w.heap.size=w.heap.size+1+1:=e;omega)|(have e':w.heap.size+1+1=w.heap.size:=e;omega))).trans YW)
  have WD:Hid ((w4.setCell ⟨w.heap.size+1+1,0,none⟩ (.int .u32 hr)).heap[w.heap.size+1]?=some (.cells (a9 fk fi fg fn ff fa (.slice pb nb cb) fb fs) 24)):=Qh ((Below.heap_setCell _ _ _ _ (fun e=>by first|(have e':w.heap.size+1=w.heap.size+1+1:=e;omega)|(have e':w.heap.size+1+1=w.heap.size+1:=e;omega))).trans YX);have OA:=Qh (lG.out.setCell (p:=⟨w.heap.size+1+1,0,none⟩) (by show w.heap.size≤w.heap.size+1+1;omega) (.int .u32 hr));clear YW YX WC;go_upto_region 5 with(fail);generalize(w4.setCell ⟨w.heap.size+1+1,0,none⟩ (.int .u32 hr))=W4 at*
  clear z0 zf;have SG:=Qh (HS.out _ OA.out _ _ _ Ey.out WD.out HQ4.out);obtain⟨q0,qf⟩:=gB Ey.out;obtain⟨_,_,Iq,zU,_⟩:=HT.out _ OA.out;go_wp2_with fail;refine SG.out.mono ?_;rintro e w5 ⟨rfl,eS⟩;have kZ:=Qh (OA.out.trans (eS.mono OA.out.size));have jC:=(Array.getElem?_eq_some_iff.1 Ey.out).1;have nR:=(Array.getElem?_eq_some_iff.1 WD.out).1;obtain⟨q0,qf⟩:=gB ((eS.block _ jC).trans Ey.out);obtain⟨y0,y1,y2,y3,y4,y5,y6,y7,y8,yf⟩:=aW (f:=⟨fk,fi,fg,fn,ff,fa,fb,fs⟩) (v:=.slice pb nb cb) ((eS.block _ nR).trans WD.out);obtain⟨_,_,Iq,zU,_⟩:=HT.out _ kZ.out
  dsimp only at y0 y1 y2 y3 y4 y5 y6 y7 y8;have M5:Hid (w.heap.size<w5.heap.size∧w.heap.size+1<w5.heap.size):=Qh ⟨Nat.lt_of_lt_of_le jC eS.size,Nat.lt_of_lt_of_le nR eS.size⟩;have WA:=Qh (iX.out _ kZ.out);clear eS SG jC nR;go_upto_region 6 with(fail)
  by_cases hlt:pos<rows.length
  ·obtain⟨g,cg,hv,hg,⟨x0,x1,x2,x3,x4,x5,x6,x7,x8⟩,xv,xh⟩:=CI.out _ kZ.out pos hlt;have WB:=Qh hg;clear xv xh hg;simp only[Value.slice.injEq]at hv;obtain⟨rfl,_,rfl⟩:=hv;obtain⟨px,cx,ex,_,_⟩:=lU.out pos hlt;have hC:=nX.out w5.drew (aZ kZ.out) pos hlt;rw[ex]at x6 hC;have tU:=Qh (show(rows[pos]?).elim false (fun x=>dL x.k r)=dL (rows[pos]).k r by rw[List.getElem?_eq_getElem hlt];rfl);generalize rows[pos]=row at*;generalize row.k.f=fx at*;generalize row.k.items.length=nx at*;obtain⟨k1,i1,j1,n1,f1,a1,b1,t1⟩:=fx;(try unfold aj at hC)
   dsimp only at hC x0 x1 x2 x3 x4 x5 x6 x7 x8;generalize dL row.k r=q at*;have HC:=Qh hC;clear hC ex;have hd:decide ((pos:Int)<(rows.length:Int))=true:=decide_eq_true (by omega);have hbd:=aZ (Below.refl w5.heap.size w5);have FP:=Qh hbd;have mK:Hid (g<w5.heap.size∧tb<w5.heap.size∧w.heap.size<w5.heap.size∧w.heap.size+1<w5.heap.size):=Qh ⟨WB.out,WA.out,M5.out.1,M5.out.2⟩
   have SH:=Qh (fun W (hW:Qb w5 W)=>(⟨aQ hW mK.out.2.2.1 q0,aQ hW mK.out.2.1 zU,aQ hW mK.out.1 x0,aQ hW mK.out.1 x1,aQ hW mK.out.1 x2,aQ hW mK.out.1 x3,aQ hW mK.out.1 x4,aQ hW mK.out.1 x5,aQ hW mK.out.1 x6,aQ hW mK.out.1 x7,aQ hW mK.out.1 x8,aQ hW mK.out.2.2.2 y0,aQ hW mK.out.2.2.2 y1,aQ hW mK.out.2.2.2 y2,aQ hW mK.out.2.2.2 y3,aQ hW mK.out.2.2.2 y4,aQ hW mK.out.2.2.2 y5,aQ hW mK.out.2.2.2 y6,aQ hW mK.out.2.2.2 y7,aQ hW mK.out.2.2.2 y8⟩:W.cell? ⟨w.heap.size,0,none⟩=some (.pointer (some ⟨tb,0,none⟩))∧W.cell? ⟨tb,19,none⟩=some (.slice (some ⟨g,0,none⟩) rows.length cv)∧W.cell? ⟨g,pos*19,none⟩=some (.int .i64 k1)∧W.cell? ⟨g,pos*19+1,none⟩=some (.int .i64 i1)∧W.cell? ⟨g,pos*19+1+1,none⟩=some (.int .i64 j1)∧W.cell? ⟨g,pos*19+1+1+1,none⟩=some (.string n1)∧W.cell? ⟨g,pos*19+1+1+1+1,none⟩=some (.string f1)∧W.cell? ⟨g,pos*19+1+1+1+1+1,none⟩=some (.int .i64 a1)∧W.cell? ⟨g,pos*19+1+1+1+1+1+1,none⟩=some (.slice px nx cx)∧W.cell? ⟨g,pos*19+1+1+1+1+1+1+1,none⟩=some (.string b1)∧W.cell? ⟨g,pos*19+1+1+1+1+1+1+1+1,none⟩=some (.int .i64 t1)∧W.cell? ⟨(w.heap.size+1),0,none⟩=some (.int .i64 fk)∧W.cell? ⟨(w.heap.size+1),1,none⟩=some (.int .i64 fi)∧W.cell? ⟨(w.heap.size+1),2,none⟩=some (.int .i64 fg)∧W.cell? ⟨(w.heap.size+1),3,none⟩=some (.string fn)∧W.cell? ⟨(w.heap.size+1),4,none⟩=some (.string ff)∧W.cell? ⟨(w.heap.size+1),5,none⟩=some (.int .i64 fa)∧W.cell? ⟨(w.heap.size+1),6,none⟩=some (.slice pb nb cb)∧W.cell? ⟨(w.heap.size+1),7,none⟩=some (.string fb)∧W.cell? ⟨(w.heap.size+1),8,none⟩=some (.int .i64 fs)))
   obtain⟨q0,zU,x0,x1,x2,x3,x4,x5,x6,x7,x8,y0,y1,y2,y3,y4,y5,y6,y7,y8⟩:=SH.out _ hbd
   go_region_held3 (fun w'=>w'.cell? ⟨w.heap.size,0,none⟩=some (.pointer (some ⟨tb,0,none⟩))∧w'.cell? ⟨tb,19,none⟩=some (.slice (some ⟨g,0,none⟩) rows.length cv)∧w'.cell? ⟨g,pos*19,none⟩=some (.int .i64 k1)∧w'.cell? ⟨g,pos*19+1,none⟩=some (.int .i64 i1)∧w'.cell? ⟨g,pos*19+1+1,none⟩=some (.int .i64 j1)∧w'.cell? ⟨g,pos*19+1+1+1,none⟩=some (.string n1)∧w'.cell? ⟨g,pos*19+1+1+1+1,none⟩=some (.string f1)∧w'.cell? ⟨g,pos*19+1+1+1+1+1,none⟩=some (.int .i64 a1)∧w'.cell? ⟨g,pos*19+1+1+1+1+1+1,none⟩=some (.slice px nx cx)∧w'.cell? ⟨g,pos*19+1+1+1+1+1+1+1,none⟩=some (.string b1)∧w'.cell? ⟨g,pos*19+1+1+1+1+1+1+1+1,none⟩=some (.int .i64 t1)∧w'.cell? ⟨(w.heap.size+1),0,none⟩=some (.int .i64 fk)∧w'.cell? ⟨(w.heap.size+1),1,none⟩=some (.int .i64 fi)∧w'.cell? ⟨(w.heap.size+1),2,none⟩=some (.int .i64 fg)∧w'.cell? ⟨(w.heap.size+1),3,none⟩=some (.string fn)∧w'.cell? ⟨(w.heap.size+1),4,none⟩=some (.string ff)∧w'.cell? ⟨(w.heap.size+1),5,none⟩=some (.int .i64 fa)∧w'.cell? ⟨(w.heap.size+1),6,none⟩=some (.slice pb nb cb)∧w'.cell? ⟨(w.heap.size+1),7,none⟩=some (.string fb)∧w'.cell? ⟨(w.heap.size+1),8,none⟩=some (.int .i64 fs)) (go_keep)
    (first|(go_at_call 66;refine HC.out.mono ?_;rintro e w6 ⟨rfl,um⟩;have j7:=FP.out.trans um;obtain⟨q0,zU,x0,x1,x2,x3,x4,x5,x6,x7,x8,y0,y1,y2,y3,y4,y5,y6,y7,y8⟩:=SH.out _ j7)|fail)
   all_goals
    have nZ:=Qh (kZ.out.trans (j7.mono kZ.out.size));clear q0 zU x0 x1 x2 x3 x4 x5 x6 x7 x8 y0 y1 y2 y3 y4 y5 y6 y7 y8 um j7;go_wp2_with fail;go_ret2
    exact⟨by rw[tU.out];rfl,nZ.out⟩
  ·have tU:Hid ((rows[pos]?).elim false (fun x=>dL x.k r)=false):=Qh (by rw[List.getElem?_eq_none (by omega)];rfl);have hd:decide ((pos:Int)<(rows.length:Int))=false:=decide_eq_false (by omega);clear y0 y1 y2 y3 y4 y5 y6 y7 y8 yf;go_quiet (fail)
   go_wp2_with fail;go_ret2
   exact⟨by rw[tU.out];rfl,Hr kZ.out _⟩
end
end Go.Proofs.YtfbggmbmgohiiaaGreat.tb
