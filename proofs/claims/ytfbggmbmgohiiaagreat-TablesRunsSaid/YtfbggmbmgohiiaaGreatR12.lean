/- TmY. No condition beyond theirs. -/
import Derived.Test.YtfbggmbmgohiiaaGreatR09
set_option linter.unusedSimpArgs false
set_option linter.unusedVariables false
set_option maxHeartbeats 4000000
set_option maxRecDepth 100000
namespace Go.Proofs.YtfbggmbmgohiiaaGreat.tm
open Go.RowKit mem names
theorem MM(x:ByteArray)(q:Nat):(x.extract 0 q).data.toList=x.data.toList.take q:=by
 rw[ByteArray.data_extract,Array.toList_extract];simp
theorem AB(f1 f2:TF)(n q lf:Nat)(hn:(n:Int)=min f1.bits f2.bits)(hq:n/8=q)(hl:n%8=lf) :
 eL f1 f2=(if dx (f1.bytes.extract 0 q) (f2.bytes.extract 0 q)=0 then
  (if lf=0 then aO f1.bits f2.bits else
    (if aO ((f1.bytes.data.toList.getD q 0).toNat/2^(8-lf):Nat) ((f2.bytes.data.toList.getD q 0).toNat/2^(8-lf):Nat)=0 then aO f1.bits f2.bits else aO ((f1.bytes.data.toList.getD q 0).toNat/2^(8-lf):Nat) ((f2.bytes.data.toList.getD q 0).toNat/2^(8-lf):Nat)))
  else dx (f1.bytes.extract 0 q) (f2.bytes.extract 0 q)):=by
 unfold eL dx;dsimp only;rw[MM,MM,show(min f1.bits f2.bits).toNat=n by omega,hq,hl]
theorem cR{w:World}{z:Nat}{f:TF}{v:Value}(h:gu w z f v):gu w.drew z f v:=⟨h.c0,h.c1,h.c2,h.c3,h.c4,h.c5,h.c6,h.c7,h.c8,h.fz⟩
theorem j8(w:World)(f1 f2:TF)(v1 v2:Value):gu ((w.alloc (av f1 v1)).alloc (av f2 v2)) w.heap.size f1 v1∧gu ((w.alloc (av f1 v1)).alloc (av f2 v2)) (w.heap.size+1) f2 v2∧Below w.heap.size w ((w.alloc (av f1 v1)).alloc (av f2 v2))∧((w.alloc (av f1 v1)).alloc (av f2 v2)).heap.size=w.heap.size+2:=by
 have h1:=(MapKept.heap_alloc w (av f1 v1)).1;have h2:=(MapKept.heap_alloc (w.alloc (av f1 v1)) (av f2 v2)).1;have h3:((w.alloc (av f1 v1)).alloc (av f2 v2)).heap[w.heap.size]?=some (av f1 v1):=by rw[Below.heap_alloc _ _ _ (by simp)];exact h1
 exact⟨aW h3,aW (by simpa using h2),((Below.refl _ _).alloc (Nat.le_refl _) _).alloc (by simp) _,by simp⟩
theorem NL(k1 i1 g1 k2 i2 g2 a b:Int)(oh dr iu cU x y:ByteArray)(mV gS:Int)(p1 p2:Option Addr)(m1 c1 m2 c2:Nat)(w:World)(h1:0≤a∧a≤16384)(h2:0≤b∧b≤16384)(s1:(x.size:Int)=(a+7)/8)(s2:(y.size:Int)=(b+7)/8)(hab:a≤b) :
 Calls Tryz.prog 133 #[aj ⟨k1,i1,g1,oh,dr,mV,x,a⟩ (.slice p1 m1 c1),aj ⟨k2,i2,g2,iu,cU,gS,y,b⟩ (.slice p2 m2 c2)] w (aM (eL ⟨k1,i1,g1,oh,dr,mV,x,a⟩ ⟨k2,i2,g2,iu,cU,gS,y,b⟩) w):=by
 obtain⟨n,hn⟩:∃n:Nat,(n:Int)=a:=⟨(a).toNat,by omega⟩;obtain⟨q,hq⟩:∃q:Nat,n/8=q:=⟨_,rfl⟩;obtain⟨lf,hl⟩:∃lf:Nat,n%8=lf:=⟨_,rfl⟩;have HR:=Qh (AB ⟨k1,i1,g1,oh,dr,mV,x,a⟩ ⟨k2,i2,g2,iu,cU,gS,y,b⟩ n q lf (by dsimp only;omega) hq hl);generalize eL ⟨k1,i1,g1,oh,dr,mV,x,a⟩ ⟨k2,i2,g2,iu,cU,gS,y,b⟩=r at*;dsimp only at HR;have Rz:a/8=(q:Int):=by omega
 have RA:a%8=(lf:Int):=by omega
 have Vb:(a).tdiv 8=(q:Int):=by rw[Int.tdiv_eq_ediv_of_nonneg (by omega)];exact Rz
 have Kk:(a).tmod 8=(lf:Int):=by rw[Int.tmod_eq_emod_of_nonneg (by omega)];exact RA
 have Q1:(q:Int)≤2048:=by omega
 have G2:(0:Int)≤(q:Int):=by omega
 have hwq:IntKind.i64.wrap (q:Int)=q:=IntWalk.i64_in _ (by omega);have hlf:lf<8:=by omega
 have NM:(lf:Int)<8:=by omega
 have NN:(0:Int)≤(lf:Int):=by omega
 have hma:(0:Int)≤a:=by omega
 have hx:q≤x.size:=by omega
 have hy:q≤y.size:=by omega
 have Vc:(q:Int)≤(x.size:Int):=by omega
 have Ve:(q:Int)≤(y.size:Int):=by omega
 have rV:lf≠0→q<x.size∧q<y.size:=by omega
 have Hg:=Qh rV;have Vf:=Qh (fun W=>pG (x.extract 0 q) (y.extract 0 q) W);have RB:=Qh (fun W=>kV a b W);clear hn hq hl rV s1 s2 h1 h2;unfold aj;dsimp only;generalize dx (x.extract 0 q) (y.extract 0 q)=z,aO a b=zi at*;go_enter Tryz.func133,Tryz.ntmps133;go_wp2_with fail;obtain⟨cz,cZ,au,hsz⟩:=j8 w ⟨k1,i1,g1,oh,dr,mV,x,a⟩ ⟨k2,i2,g2,iu,cU,gS,y,b⟩ (.slice p1 m1 c1) (.slice p2 m2 c2);unfold av at cz cZ au hsz;dsimp only at cz cZ au hsz
 generalize((w.alloc (.cells (a9 k1 i1 g1 oh dr mV (.slice p1 m1 c1) x a) 24)).alloc (.cells (a9 k2 i2 g2 iu cU gS (.slice p2 m2 c2) y b) 24))=W0 at*;clear hsz;have gF:=Qh cz;have gG:=Qh cZ;obtain⟨x0,x1,x2,x3,x4,x5,x6,x7,x8,xz⟩:=cz;obtain⟨y0,y1,y2,y3,y4,y5,y6,y7,y8,yz⟩:=cZ;dsimp only at x0 x1 x2 x3 x4 x5 x6 x7 x8 y0 y1 y2 y3 y4 y5 y6 y7 y8;go_still_tail 8,(by kernel_rfl)
 change wpList _ _ _ _ _ W0.drew;have cz:=cR gF.out;have cZ:=cR gG.out;have jt:=au.drewN 1;clear x0 x1 x2 x3 x4 x5 x6 x7 x8 xz y0 y1 y2 y3 y4 y5 y6 y7 y8 yz gF gG au;change Qb w W0.drew at jt;generalize W0.drew=W1 at*;have gF:=Qh cz;have gG:=Qh cZ;obtain⟨x0,x1,x2,x3,x4,x5,x6,x7,x8,xz⟩:=cz;obtain⟨y0,y1,y2,y3,y4,y5,y6,y7,y8,yz⟩:=cZ;dsimp only at x0 x1 x2 x3 x4 x5 x6 x7 x8 y0 y1 y2 y3 y4 y5 y6 y7 y8;go_wp2_with fail;refine(Vf.out _).mono ?_;rintro e w' ⟨rfl,rfl⟩
 by_cases hz:z=0
 ·subst hz;have hr:=HR.out;rw[if_pos rfl]at hr;clear HR
  by_cases h0:lf=0
  ·subst h0;rw[if_pos rfl]at hr;have HR:=Qh hr;clear hr;go_wp2_with fail;refine(RB.out _).mono ?_;rintro e w' ⟨rfl,rfl⟩;go_wp2_with fail;go_ret;exact⟨dH HR.out.symm,jt⟩
  ·rw[if_neg h0]at hr;obtain⟨rV,Vg⟩:=Hg.out h0;have RC:x.data.toList.getD q 0=x[q]'rV:=by
    rw[List.getD_eq_getElem?_getD,List.getElem?_eq_getElem (by rw[Array.length_toList];exact rV)];rfl
   have RD:y.data.toList.getD q 0=y[q]'Vg:=by
    rw[List.getD_eq_getElem?_getD,List.getElem?_eq_getElem (by rw[Array.length_toList];exact Vg)];rfl
   rw[RC,RD]at hr;have U7:∀w:World,(Instr.index 9 (.string x) (.int .i64 (q:Int))).run Tryz.prog w=.ok (.int .u8 ((x[q]'rV).toNat:Int)) w:=fun w=>by
    rw[run_index_string w 9 x .i64 (q:Int) Tryz.underlying9,dif_pos ⟨by omega,by omega⟩];rfl
   have hiy:∀w:World,(Instr.index 9 (.string y) (.int .i64 (q:Int))).run Tryz.prog w=.ok (.int .u8 ((y[q]'Vg).toNat:Int)) w:=fun w=>by
    rw[run_index_string w 9 y .i64 (q:Int) Tryz.underlying9,dif_pos ⟨by omega,by omega⟩];rfl
   have dY:(x[q]'rV).toNat<256:=UInt8.toNat_lt _;have hby:(y[q]'Vg).toNat<256:=UInt8.toNat_lt _;clear RC RD;generalize(x[q]'rV).toNat=bx,(y[q]'Vg).toNat=RE at*;have RF:=fun W=>Eh ((bx/2^(8-lf):Nat):Int) ((RE/2^(8-lf):Nat):Int) W;generalize aO ((bx/2^(8-lf):Nat):Int) ((RE/2^(8-lf):Nat):Int)=zz at*;have HR:=Qh hr;clear hr;rcases(show lf=1∨lf=2∨lf=3∨lf=4∨lf=5∨lf=6∨lf=7 by omega)with rfl|rfl|rfl|rfl|rfl|rfl|rfl
   all_goals
    clear h0 Hg hx hy Vc Ve hlf NM NN;have Vh:=Qh RF;clear RF;have hw1:IntKind.i64.wrap 1=1:=by decide
    have td:IntKind.i64.wrap 2=2:=by decide
    have CS:IntKind.i64.wrap 3=3:=by decide
    have Yt:IntKind.i64.wrap 4=4:=by decide
    have hw5:IntKind.i64.wrap 5=5:=by decide
    have hw6:IntKind.i64.wrap 6=6:=by decide
    have Yu:IntKind.i64.wrap 7=7:=by decide
    go_wp2_with fail;go_still_tail 14,(by kernel_rfl)
    change wpList _ _ _ _ _ W1.drew;have cz:=cR gF.out;have cZ:=cR gG.out;have qZ:Qb w W1.drew:=jt.drewN 1;clear x0 x1 x2 x3 x4 x5 x6 x7 x8 xz y0 y1 y2 y3 y4 y5 y6 y7 y8 yz gF gG jt;generalize W1.drew=W2 at*;obtain⟨x0,x1,x2,x3,x4,x5,x6,x7,x8,xz⟩:=cz;obtain⟨y0,y1,y2,y3,y4,y5,y6,y7,y8,yz⟩:=cZ;dsimp only at x0 x1 x2 x3 x4 x5 x6 x7 x8 y0 y1 y2 y3 y4 y5 y6 y7 y8;go_wp2_with fail;refine(Vh.out _).mono ?_;rintro e w' ⟨rfl,rfl⟩
    by_cases p_:zz=0
    ·subst p_;go_wp2_with fail;refine(RB.out _).mono ?_;rintro e w' ⟨rfl,rfl⟩;go_wp2_with fail;go_ret;exact⟨dH (by rw[HR.out];simp),qZ⟩
    ·have qz:(zz != 0)=true:=by simp[p_]
     have HZ:=Qh p_;clear p_;go_wp2_with fail;go_ret;exact⟨dH (by rw[HR.out,if_neg HZ.out]),qZ⟩
 ·have qz:(z != 0)=true:=by simp[hz]
  have hr:=HR.out;rw[if_neg hz]at hr;have HR:=Qh hr;clear hr hz;go_wp2_with fail;go_ret;exact⟨dH HR.out.symm,jt⟩
theorem NP(k1 i1 g1 k2 i2 g2 a b:Int)(oh dr iu cU x y:ByteArray)(mV gS:Int)(p1 p2:Option Addr)(m1 c1 m2 c2:Nat)(w:World)(h1:0≤a∧a≤16384)(h2:0≤b∧b≤16384)(s1:(x.size:Int)=(a+7)/8)(s2:(y.size:Int)=(b+7)/8)(hab:b<a) :
 Calls Tryz.prog 133 #[aj ⟨k1,i1,g1,oh,dr,mV,x,a⟩ (.slice p1 m1 c1),aj ⟨k2,i2,g2,iu,cU,gS,y,b⟩ (.slice p2 m2 c2)] w (aM (eL ⟨k1,i1,g1,oh,dr,mV,x,a⟩ ⟨k2,i2,g2,iu,cU,gS,y,b⟩) w):=by
 obtain⟨n,hn⟩:∃n:Nat,(n:Int)=b:=⟨(b).toNat,by omega⟩;obtain⟨q,hq⟩:∃q:Nat,n/8=q:=⟨_,rfl⟩;obtain⟨lf,hl⟩:∃lf:Nat,n%8=lf:=⟨_,rfl⟩;have HR:=Qh (AB ⟨k1,i1,g1,oh,dr,mV,x,a⟩ ⟨k2,i2,g2,iu,cU,gS,y,b⟩ n q lf (by dsimp only;omega) hq hl);generalize eL ⟨k1,i1,g1,oh,dr,mV,x,a⟩ ⟨k2,i2,g2,iu,cU,gS,y,b⟩=r at*;dsimp only at HR;have Rz:b/8=(q:Int):=by omega
 have RA:b%8=(lf:Int):=by omega
 have Vb:(b).tdiv 8=(q:Int):=by rw[Int.tdiv_eq_ediv_of_nonneg (by omega)];exact Rz
 have Kk:(b).tmod 8=(lf:Int):=by rw[Int.tmod_eq_emod_of_nonneg (by omega)];exact RA
 have Q1:(q:Int)≤2048:=by omega
 have G2:(0:Int)≤(q:Int):=by omega
 have hwq:IntKind.i64.wrap (q:Int)=q:=IntWalk.i64_in _ (by omega);have hlf:lf<8:=by omega
 have NM:(lf:Int)<8:=by omega
 have NN:(0:Int)≤(lf:Int):=by omega
 have hma:(0:Int)≤b:=by omega
 have hx:q≤x.size:=by omega
 have hy:q≤y.size:=by omega
 have Vc:(q:Int)≤(x.size:Int):=by omega
 have Ve:(q:Int)≤(y.size:Int):=by omega
 have rV:lf≠0→q<x.size∧q<y.size:=by omega
 have Hg:=Qh rV;have Vf:=Qh (fun W=>pG (x.extract 0 q) (y.extract 0 q) W);have RB:=Qh (fun W=>kV a b W);clear hn hq hl rV s1 s2 h1 h2;unfold aj;dsimp only;generalize dx (x.extract 0 q) (y.extract 0 q)=z,aO a b=zi at*;go_enter Tryz.func133,Tryz.ntmps133;go_wp2_with fail;obtain⟨cz,cZ,au,hsz⟩:=j8 w ⟨k1,i1,g1,oh,dr,mV,x,a⟩ ⟨k2,i2,g2,iu,cU,gS,y,b⟩ (.slice p1 m1 c1) (.slice p2 m2 c2);unfold av at cz cZ au hsz;dsimp only at cz cZ au hsz
 generalize((w.alloc (.cells (a9 k1 i1 g1 oh dr mV (.slice p1 m1 c1) x a) 24)).alloc (.cells (a9 k2 i2 g2 iu cU gS (.slice p2 m2 c2) y b) 24))=W0 at*;clear hsz;have gF:=Qh cz;have gG:=Qh cZ;obtain⟨x0,x1,x2,x3,x4,x5,x6,x7,x8,xz⟩:=cz;obtain⟨y0,y1,y2,y3,y4,y5,y6,y7,y8,yz⟩:=cZ;dsimp only at x0 x1 x2 x3 x4 x5 x6 x7 x8 y0 y1 y2 y3 y4 y5 y6 y7 y8;go_still_tail 8,(by kernel_rfl)
 change wpList _ _ _ _ _ W0.drew;have cz:=cR gF.out;have cZ:=cR gG.out;have jt:=au.drewN 1;clear x0 x1 x2 x3 x4 x5 x6 x7 x8 xz y0 y1 y2 y3 y4 y5 y6 y7 y8 yz gF gG au;change Qb w W0.drew at jt;generalize W0.drew=W1 at*;have gF:=Qh cz;have gG:=Qh cZ;obtain⟨x0,x1,x2,x3,x4,x5,x6,x7,x8,xz⟩:=cz;obtain⟨y0,y1,y2,y3,y4,y5,y6,y7,y8,yz⟩:=cZ;dsimp only at x0 x1 x2 x3 x4 x5 x6 x7 x8 y0 y1 y2 y3 y4 y5 y6 y7 y8;go_wp2_with fail;refine(Vf.out _).mono ?_;rintro e w' ⟨rfl,rfl⟩
 by_cases hz:z=0
 ·subst hz;have hr:=HR.out;rw[if_pos rfl]at hr;clear HR
  by_cases h0:lf=0
  ·subst h0;rw[if_pos rfl]at hr;have HR:=Qh hr;clear hr;go_wp2_with fail;refine(RB.out _).mono ?_;rintro e w' ⟨rfl,rfl⟩;go_wp2_with fail;go_ret;exact⟨dH HR.out.symm,jt⟩
  ·rw[if_neg h0]at hr;obtain⟨rV,Vg⟩:=Hg.out h0;have RC:x.data.toList.getD q 0=x[q]'rV:=by
    rw[List.getD_eq_getElem?_getD,List.getElem?_eq_getElem (by rw[Array.length_toList];exact rV)];rfl
   have RD:y.data.toList.getD q 0=y[q]'Vg:=by
    rw[List.getD_eq_getElem?_getD,List.getElem?_eq_getElem (by rw[Array.length_toList];exact Vg)];rfl
   rw[RC,RD]at hr;have U7:∀w:World,(Instr.index 9 (.string x) (.int .i64 (q:Int))).run Tryz.prog w=.ok (.int .u8 ((x[q]'rV).toNat:Int)) w:=fun w=>by
    rw[run_index_string w 9 x .i64 (q:Int) Tryz.underlying9,dif_pos ⟨by omega,by omega⟩];rfl
   have hiy:∀w:World,(Instr.index 9 (.string y) (.int .i64 (q:Int))).run Tryz.prog w=.ok (.int .u8 ((y[q]'Vg).toNat:Int)) w:=fun w=>by
    rw[run_index_string w 9 y .i64 (q:Int) Tryz.underlying9,dif_pos ⟨by omega,by omega⟩];rfl
   have dY:(x[q]'rV).toNat<256:=UInt8.toNat_lt _;have hby:(y[q]'Vg).toNat<256:=UInt8.toNat_lt _;clear RC RD;generalize(x[q]'rV).toNat=bx,(y[q]'Vg).toNat=RE at*;have RF:=fun W=>Eh ((bx/2^(8-lf):Nat):Int) ((RE/2^(8-lf):Nat):Int) W;generalize aO ((bx/2^(8-lf):Nat):Int) ((RE/2^(8-lf):Nat):Int)=zz at*;have HR:=Qh hr;clear hr;rcases(show lf=1∨lf=2∨lf=3∨lf=4∨lf=5∨lf=6∨lf=7 by omega)with rfl|rfl|rfl|rfl|rfl|rfl|rfl
   all_goals
    clear h0 Hg hx hy Vc Ve hlf NM NN;have Vh:=Qh RF;clear RF;have hw1:IntKind.i64.wrap 1=1:=by decide
    have td:IntKind.i64.wrap 2=2:=by decide
    have CS:IntKind.i64.wrap 3=3:=by decide
    have Yt:IntKind.i64.wrap 4=4:=by decide
    have hw5:IntKind.i64.wrap 5=5:=by decide
    have hw6:IntKind.i64.wrap 6=6:=by decide
    have Yu:IntKind.i64.wrap 7=7:=by decide
    go_wp2_with fail;go_still_tail 14,(by kernel_rfl)
    change wpList _ _ _ _ _ W1.drew;have cz:=cR gF.out;have cZ:=cR gG.out;have qZ:Qb w W1.drew:=jt.drewN 1;clear x0 x1 x2 x3 x4 x5 x6 x7 x8 xz y0 y1 y2 y3 y4 y5 y6 y7 y8 yz gF gG jt;generalize W1.drew=W2 at*;obtain⟨x0,x1,x2,x3,x4,x5,x6,x7,x8,xz⟩:=cz;obtain⟨y0,y1,y2,y3,y4,y5,y6,y7,y8,yz⟩:=cZ;dsimp only at x0 x1 x2 x3 x4 x5 x6 x7 x8 y0 y1 y2 y3 y4 y5 y6 y7 y8;go_wp2_with fail;refine(Vh.out _).mono ?_;rintro e w' ⟨rfl,rfl⟩
    by_cases p_:zz=0
    ·subst p_;go_wp2_with fail;refine(RB.out _).mono ?_;rintro e w' ⟨rfl,rfl⟩;go_wp2_with fail;go_ret;exact⟨dH (by rw[HR.out];simp),qZ⟩
    ·have qz:(zz != 0)=true:=by simp[p_]
     have HZ:=Qh p_;clear p_;go_wp2_with fail;go_ret;exact⟨dH (by rw[HR.out,if_neg HZ.out]),qZ⟩
 ·have qz:(z != 0)=true:=by simp[hz]
  have hr:=HR.out;rw[if_neg hz]at hr;have HR:=Qh hr;clear hr hz;go_wp2_with fail;go_ret;exact⟨dH HR.out.symm,jt⟩
theorem RG(f1 f2:TF)(p1 p2:Option Addr)(m1 c1 m2 c2:Nat)(w:World)(h1:0≤f1.bits∧f1.bits≤16384)(h2:0≤f2.bits∧f2.bits≤16384)(s1:(f1.bytes.size:Int)=(f1.bits+7)/8)(s2:(f2.bytes.size:Int)=(f2.bits+7)/8) :
 Calls Tryz.prog 133 #[aj f1 (.slice p1 m1 c1),aj f2 (.slice p2 m2 c2)] w (aM (eL f1 f2) w):=by
 obtain⟨k1,i1,g1,oh,dr,mV,x,a⟩:=f1;obtain⟨k2,i2,g2,iu,cU,gS,y,b⟩:=f2
 by_cases h:a≤b
 ·exact NL k1 i1 g1 k2 i2 g2 a b oh dr iu cU x y mV gS p1 p2 m1 c1 m2 c2 w h1 h2 s1 s2 h
 ·exact NP k1 i1 g1 k2 i2 g2 a b oh dr iu cU x y mV gS p1 p2 m1 c1 m2 c2 w h1 h2 s1 s2 (by omega)
end Go.Proofs.YtfbggmbmgohiiaaGreat.tm
