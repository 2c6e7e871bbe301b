/- TmN,TnA,TnB,TnC,TnD. No condition beyond theirs. -/
import Derived.Test.YtfbggmbmgohiiaaGreatR15
import Derived.Test.YtfbggmbmgohiiaaGreatR13
import Derived.Test.YtfbggmbmgohiiaaGreatR10
set_option linter.unusedSimpArgs false
set_option linter.unusedVariables false
set_option maxHeartbeats 4000000
set_option maxRecDepth 100000
namespace Go.Proofs.YtfbggmbmgohiiaaGreat.tm
open Go.RowKit mem names
theorem Hl:∀n,Hh n
 | 0=>Vr
 | n+1=>Vs (Hj (Hl n))
theorem jQ(n:Nat):MN n:=Hj (Hl n)
theorem K2(k1 i1 g1 k2 i2 g2 a b:Int)(oh dr iu cU x y:ByteArray)(mV gS:Int)(p1 p2:Option Addr)(m1 c1 m2 c2:Nat)(w:World)(hk:k1≠k2) :
 Calls Tryz.prog 121 #[aj ⟨k1,i1,g1,oh,dr,mV,x,a⟩ (.slice p1 m1 c1),aj ⟨k2,i2,g2,iu,cU,gS,y,b⟩ (.slice p2 m2 c2)] w (aM (aO k1 k2) w):=by
 have FK:=Qh (fun W=>kV k1 k2 W);have h0:=El hk;clear hk;generalize aO k1 k2=z at*;have q:(z != 0)=true:=by simp[h0]
 clear h0;unfold aM at*;unfold aj;dsimp only;go_enter Tryz.func121,Tryz.ntmps121;go_wp2_with fail;refine(FK.out _).mono ?_;rintro e w' ⟨rfl,rfl⟩;go_wp2_with fail;go_ret;exact⟨rfl,((Below.refl _ _).alloc (Nat.le_refl _) _).alloc (by simp) _⟩
theorem CY(k i1 g1 i2 g2 a b:Int)(oh dr iu cU x y:ByteArray)(mV gS:Int)(p1 p2:Option Addr)(m1 c1 m2 c2:Nat)(w:World)(hk:k=7)(r:Int)
 (hI:∀W,Below w.heap.size w W→Calls Tryz.prog 131 #[.slice p1 m1 c1,.slice p2 m2 c2] W (aM r W)) :
 Calls Tryz.prog 121 #[aj ⟨k,i1,g1,oh,dr,mV,x,a⟩ (.slice p1 m1 c1),aj ⟨k,i2,g2,iu,cU,gS,y,b⟩ (.slice p2 m2 c2)] w (aM r w):=by
 subst hk;have FK:=Qh (fun W=>kV 7 7 W);rw[sA rfl]at FK;have HI:=Qh hI;clear hI;unfold aM at*;unfold aj;dsimp only;go_enter Tryz.func121,Tryz.ntmps121;go_wp2_with fail;refine(FK.out _).mono ?_;rintro e w' ⟨rfl,rfl⟩;go_wp2_with fail;refine(HI.out _ (((Below.refl _ _).alloc (Nat.le_refl _) _).alloc (by simp) _)).mono ?_;rintro e w3 ⟨rfl,bN⟩;go_wp2_with fail;go_ret;exact⟨rfl,(((Below.refl _ _).alloc (Nat.le_refl _) _).alloc (by simp) _).trans (bN.mono (by simp;omega))⟩
theorem CZ(k i1 g1 i2 g2 a b:Int)(oh dr iu cU x y:ByteArray)(mV gS:Int)(p1 p2:Option Addr)(m1 c1 m2 c2:Nat)(w:World)(hk:k=9)(r:Int)
 (hI:∀W,Below w.heap.size w W→Calls Tryz.prog 132 #[.slice p1 m1 c1,.slice p2 m2 c2] W (aM r W)) :
 Calls Tryz.prog 121 #[aj ⟨k,i1,g1,oh,dr,mV,x,a⟩ (.slice p1 m1 c1),aj ⟨k,i2,g2,iu,cU,gS,y,b⟩ (.slice p2 m2 c2)] w (aM r w):=by
 subst hk;have FK:=Qh (fun W=>kV 9 9 W);rw[sA rfl]at FK;have HI:=Qh hI;clear hI;unfold aM at*;unfold aj;dsimp only;go_enter Tryz.func121,Tryz.ntmps121;go_wp2_with fail;refine(FK.out _).mono ?_;rintro e w' ⟨rfl,rfl⟩;go_wp2_with fail;refine(HI.out _ (((Below.refl _ _).alloc (Nat.le_refl _) _).alloc (by simp) _)).mono ?_;rintro e w3 ⟨rfl,bN⟩;go_wp2_with fail;go_ret;exact⟨rfl,(((Below.refl _ _).alloc (Nat.le_refl _) _).alloc (by simp) _).trans (bN.mono (by simp;omega))⟩
theorem FM(k i1 g1 i2 g2 a b:Int)(oh dr iu cU x y:ByteArray)(mV gS:Int)(p1 p2:Option Addr)(m1 c1 m2 c2:Nat)(w:World)(hk:k=10)(r:Int)
 (hI:∀W,Below w.heap.size w W→Calls Tryz.prog 133 #[aj ⟨k,i1,g1,oh,dr,mV,x,a⟩ (.slice p1 m1 c1),aj ⟨k,i2,g2,iu,cU,gS,y,b⟩ (.slice p2 m2 c2)] W (aM r W)) :
 Calls Tryz.prog 121 #[aj ⟨k,i1,g1,oh,dr,mV,x,a⟩ (.slice p1 m1 c1),aj ⟨k,i2,g2,iu,cU,gS,y,b⟩ (.slice p2 m2 c2)] w (aM r w):=by
 subst hk;have FK:=Qh (fun W=>kV 10 10 W);rw[sA rfl]at FK;have HI:=Qh hI;clear hI;unfold aM at*;unfold aj at*;dsimp only at*;go_enter Tryz.func121,Tryz.ntmps121;go_wp2_with fail;refine(FK.out _).mono ?_;rintro e w' ⟨rfl,rfl⟩;go_wp2_with fail;refine(HI.out _ (((Below.refl _ _).alloc (Nat.le_refl _) _).alloc (by simp) _)).mono ?_;rintro e w3 ⟨rfl,bN⟩;go_wp2_with fail;go_ret;exact⟨rfl,(((Below.refl _ _).alloc (Nat.le_refl _) _).alloc (by simp) _).trans (bN.mono (by simp;omega))⟩
theorem dg{n:Nat}{t:Tm (n+1)}(h:aJ t=true):bp n t.items=true:=by
 unfold aJ at h;simp only[Bool.and_eq_true]at h;exact h.2
theorem NZ(x y:TF)(p1 p2:Option Addr)(m1 c1 m2 c2:Nat)(ri rl:Int)(w:World)
 (nj:∀W,Below w.heap.size w W→Calls Tryz.prog 131 #[.slice p1 m1 c1,.slice p2 m2 c2] W (aM ri W))
 (qw:∀W,Below w.heap.size w W→2≤m1→2≤m2→Calls Tryz.prog 132 #[.slice p1 m1 c1,.slice p2 m2 c2] W (aM rl W))
 (aD:x.kind=10→ij x)(a_:y.kind=10→ij y)(iq:x.kind=9→2≤m1)(jC:y.kind=9→2≤m2) :
 Calls Tryz.prog 121 #[aj x (.slice p1 m1 c1),aj y (.slice p2 m2 c2)] w (aM (if x.kind=y.kind then(if x.kind=7 then ri else if x.kind=9 then rl else if x.kind=10 then eL x y else if jP x y=0 then ri else jP x y) else aO x.kind y.kind) w):=by
 obtain⟨k1,i1,g1,n1,dr,a1,b1,s1⟩:=x;obtain⟨k2,i2,g2,n2,cU,a2,b2,s2⟩:=y;dsimp only at*
 by_cases hk:k1=k2
 ·subst hk;rw[if_pos rfl]
  by_cases h7:k1=7
  ·rw[if_pos h7];exact CY k1 _ _ _ _ _ _ _ _ _ _ _ _ _ _ _ _ _ _ _ _ w h7 ri nj
  rw[if_neg h7]
  by_cases h9:k1=9
  ·rw[if_pos h9];exact CZ k1 _ _ _ _ _ _ _ _ _ _ _ _ _ _ _ _ _ _ _ _ w h9 rl (fun W hb=>qw W hb (iq h9) (jC h9))
  rw[if_neg h9]
  by_cases lC:k1=10
  ·rw[if_pos lC];exact FM k1 _ _ _ _ _ _ _ _ _ _ _ _ _ _ _ _ _ _ _ _ w lC _ (fun W hb=>RG _ _ _ _ _ _ _ _ W ⟨(aD lC).lo,(aD lC).hi⟩ ⟨(a_ lC).lo,(a_ lC).hi⟩ (aD lC).size (a_ lC).size)
  rw[if_neg lC];exact FJ k1 _ _ k1 _ _ _ _ _ _ _ _ _ _ _ _ _ _ _ _ _ _ w rfl h7 h9 lC ri nj
 ·rw[if_neg hk];exact K2 _ _ _ _ _ _ _ _ _ _ _ _ _ _ _ _ _ _ _ _ _ _ w hk
theorem xF{n:Nat}(ih:∀m,n=m+1→CU m):CU n:=by
 intro w B v1 v2 a b hB h1 h2 f1 f2;have F1:=dg f1;have F2:=dg f2;have nj:=fun W (hb:Qb w W)=>ND ih W B v1 v2 a.items b.items (Nat.le_trans hB hb.size) (h1.below hb hB) (h2.below hb hB) F1 F2;have qw:=fun W (hb:Qb w W)=>NJ ih W B v1 v2 a.items b.items (Nat.le_trans hB hb.size) (h1.below hb hB) (h2.below hb hB) F1 F2;obtain⟨p1,c1,rfl,_,_⟩:=h1.shape;obtain⟨p2,c2,rfl,_,_⟩:=h2.shape;exact NZ a.f b.f p1 p2 _ c1 _ c2 _ _ w nj qw (fun h=>ng f1 h) (fun h=>ng f2 h) (fun h=>(jb f1 h).1) (fun h=>(jb f2 h).1)
theorem AF:∀n,CU n
 | 0=>xF (fun m h=>by omega)
 | n+1=>xF (fun m h=>by
  obtain rfl:n=m:=by omega
  exact AF n)
noncomputable def cM{n:Nat}(a b:Tm (n+1)):Int:=if aC a=true then(if aC b=true then bU (n+1) a b else 1) else(if aC b=true then -1 else 0)
theorem bR{n:Nat}{t:Tm (n+1)}(h:aC t=true):aJ t=true:=by
 unfold aC at h;simp only[Bool.and_eq_true]at h;exact h.1
theorem Ho(x y:TF)(p1 p2:Option Addr)(m1 c1 m2 c2:Nat)(va vb:Bool)(r:Int)(w:World)
 (wJ:∀W,Below w.heap.size w W→Calls Tryz.prog 50 #[aj x (.slice p1 m1 c1)] W (aV va W))
 (pS:∀W,Below w.heap.size w W→Calls Tryz.prog 50 #[aj y (.slice p2 m2 c2)] W (aV vb W))
 (hC:va=true→vb=true→∀W,Below w.heap.size w W→Calls Tryz.prog 121 #[aj x (.slice p1 m1 c1),aj y (.slice p2 m2 c2)] W (aM r W)) :
 Calls Tryz.prog 96 #[aj x (.slice p1 m1 c1),aj y (.slice p2 m2 c2)] w (aM (if va=true then(if vb=true then r else 1) else(if vb=true then -1 else 0)) w):=by
 generalize hres:(if va=true then(if vb=true then r else 1) else(if vb=true then -1 else 0))=res;have qu:=Qh hres;clear hres;have N1:=Qh wJ;have N2:=Qh pS;have HC:=Qh hC;clear wJ pS hC;obtain⟨k1,i1,g1,n1,dr,a1,b1,s1⟩:=x;obtain⟨k2,i2,g2,n2,cU,a2,b2,s2⟩:=y;unfold aj aV aM at*;dsimp only at*;go_enter Tryz.func96,Tryz.ntmps96;go_wp2_with fail;obtain⟨cz,cZ,au,hsz⟩:=j8 w ⟨k1,i1,g1,n1,dr,a1,b1,s1⟩ ⟨k2,i2,g2,n2,cU,a2,b2,s2⟩ (.slice p1 m1 c1) (.slice p2 m2 c2);unfold av at cz cZ au hsz;dsimp only at cz cZ au hsz
 generalize((w.alloc (.cells (a9 k1 i1 g1 n1 dr a1 (.slice p1 m1 c1) b1 s1) 24)).alloc (.cells (a9 k2 i2 g2 n2 cU a2 (.slice p2 m2 c2) b2 s2) 24))=W0 at*;have eT:Hid (w.heap.size<W0.heap.size):=Qh (by omega);have iW:Hid (w.heap.size+1<W0.heap.size):=Qh (by omega);clear hsz;have gF:=Qh cz;have gG:=Qh cZ;obtain⟨x0,x1,x2,x3,x4,x5,x6,x7,x8,xz⟩:=cz;obtain⟨y0,y1,y2,y3,y4,y5,y6,y7,y8,yz⟩:=cZ;dsimp only at x0 x1 x2 x3 x4 x5 x6 x7 x8 y0 y1 y2 y3 y4 y5 y6 y7 y8;have hbd:Qb w (W0.drewN 1):=au.drewN 1
 have C3:=Qh (show gu (W0.drewN 1) w.heap.size ⟨k1,i1,g1,n1,dr,a1,b1,s1⟩ (.slice p1 m1 c1) from cR gF.out);have Hp:=Qh (show gu (W0.drewN 1) (w.heap.size+1) ⟨k2,i2,g2,n2,cU,a2,b2,s2⟩ (.slice p2 m2 c2) from cR gG.out)
 go_region_held3 (fun w'=>(w'.cell? ⟨w.heap.size,0,none⟩=some (.int .i64 k1)∧w'.cell? ⟨w.heap.size,1,none⟩=some (.int .i64 i1)∧w'.cell? ⟨w.heap.size,2,none⟩=some (.int .i64 g1)∧w'.cell? ⟨w.heap.size,3,none⟩=some (.string n1)∧w'.cell? ⟨w.heap.size,4,none⟩=some (.string dr)∧w'.cell? ⟨w.heap.size,5,none⟩=some (.int .i64 a1)∧w'.cell? ⟨w.heap.size,6,none⟩=some (.slice p1 m1 c1)∧w'.cell? ⟨w.heap.size,7,none⟩=some (.string b1)∧w'.cell? ⟨w.heap.size,8,none⟩=some (.int .i64 s1))∧w'.cell? ⟨w.heap.size+1,0,none⟩=some (.int .i64 k2)∧w'.cell? ⟨w.heap.size+1,1,none⟩=some (.int .i64 i2)∧w'.cell? ⟨w.heap.size+1,2,none⟩=some (.int .i64 g2)∧w'.cell? ⟨w.heap.size+1,3,none⟩=some (.string n2)∧w'.cell? ⟨w.heap.size+1,4,none⟩=some (.string cU)∧w'.cell? ⟨w.heap.size+1,5,none⟩=some (.int .i64 a2)∧w'.cell? ⟨w.heap.size+1,6,none⟩=some (.slice p2 m2 c2)∧w'.cell? ⟨w.heap.size+1,7,none⟩=some (.string b2)∧w'.cell? ⟨w.heap.size+1,8,none⟩=some (.int .i64 s2)) (go_keep)
  (first
    | (go_at_call 50;refine(N1.out _ hbd).mono ?_;rintro e w1 ⟨rfl,hb⟩;have C4:=hbd.trans (hb.mono hbd.size);have AG:=Qh (C3.out.below hb eT.out);have wD:=Qh (Hp.out.below hb iW.out);obtain⟨z0,z1,z2,z3,z4,z5,z6,z7,z8,zz⟩:=AG.out;obtain⟨t0,t1,t2,t3,t4,t5,t6,t7,t8,tz⟩:=wD.out;dsimp only at z0 z1 z2 z3 z4 z5 z6 z7 z8 t0 t1 t2 t3 t4 t5 t6 t7 t8)
    | (go_at_call 50;refine(N2.out _ hbd).mono ?_;rintro e w1 ⟨rfl,hb⟩;have C4:=hbd.trans (hb.mono hbd.size);have AG:=Qh (C3.out.below hb eT.out);have wD:=Qh (Hp.out.below hb iW.out);obtain⟨z0,z1,z2,z3,z4,z5,z6,z7,z8,zz⟩:=AG.out;obtain⟨t0,t1,t2,t3,t4,t5,t6,t7,t8,tz⟩:=wD.out;dsimp only at z0 z1 z2 z3 z4 z5 z6 z7 z8 t0 t1 t2 t3 t4 t5 t6 t7 t8)
    | (go_at_call 50;refine(N1.out _ C4).mono ?_;rintro e w2 ⟨rfl,a_⟩;have u_:=C4.trans (a_.mono C4.size);have bT:=Nat.lt_of_lt_of_le eT.out hb.size;have bX:=Nat.lt_of_lt_of_le iW.out hb.size;have wB:=Qh (AG.out.below a_ bT);have wC:=Qh (wD.out.below a_ bX);obtain⟨z0,z1,z2,z3,z4,z5,z6,z7,z8,zz⟩:=wB.out;obtain⟨t0,t1,t2,t3,t4,t5,t6,t7,t8,tz⟩:=wC.out;dsimp only at z0 z1 z2 z3 z4 z5 z6 z7 z8 t0 t1 t2 t3 t4 t5 t6 t7 t8)
    | (go_at_call 50;refine(N2.out _ C4).mono ?_;rintro e w2 ⟨rfl,a_⟩;have u_:=C4.trans (a_.mono C4.size);have bT:=Nat.lt_of_lt_of_le eT.out hb.size;have bX:=Nat.lt_of_lt_of_le iW.out hb.size;have wB:=Qh (AG.out.below a_ bT);have wC:=Qh (wD.out.below a_ bX);obtain⟨z0,z1,z2,z3,z4,z5,z6,z7,z8,zz⟩:=wB.out;obtain⟨t0,t1,t2,t3,t4,t5,t6,t7,t8,tz⟩:=wC.out;dsimp only at z0 z1 z2 z3 z4 z5 z6 z7 z8 t0 t1 t2 t3 t4 t5 t6 t7 t8))
 ·clear AG wD wB wC gF gG x0 x1 x2 x3 x4 x5 x6 x7 x8 xz y0 y1 y2 y3 y4 y5 y6 y7 y8 yz N1 N2
  cases va
  ·cases vb
   ·have HF:=Qh (show 0=res from qu.out);go_wp2_with fail;go_ret;exact⟨dH HF.out,by assumption⟩
   ·have HF:=Qh (show -1=res from qu.out);go_wp2_with fail;go_ret;exact⟨dH HF.out,by assumption⟩
  ·cases vb
   ·have HF:=Qh (show 1=res from qu.out);go_wp2_with fail;go_ret;exact⟨dH HF.out,by assumption⟩
   ·have HF:=Qh (show r=res from qu.out);have nY:=Qh (HC.out rfl rfl _ u_);clear HC;go_wp2_with fail;refine nY.out.mono ?_;rintro e w3 ⟨rfl,bN⟩;go_wp2_with fail;go_ret;exact⟨dH HF.out,u_.trans (bN.mono u_.size)⟩
theorem Compare{n:Nat}(w:World)(B:Nat)(v1 v2:Value)(a b:Tm (n+1))(hB:B≤w.heap.size)(h1:ah w B n v1 a.items)(h2:ah w B n v2 b.items)(s1:300*(ap a:Int)≤1000000000000)(s2:300*(ap b:Int)≤1000000000000) :
 Calls Tryz.prog 96 #[aj a.f v1,aj b.f v2] w (aM (cM a b) w):=by
 have wJ:=fun W (hb:Qb w W)=>eN (jQ n) W B v1 a (Nat.le_trans hB hb.size) (h1.below hb hB) s1;have pS:=fun W (hb:Qb w W)=>eN (jQ n) W B v2 b (Nat.le_trans hB hb.size) (h2.below hb hB) s2;have hC:=fun f1 f2 W (hb:Qb w W)=>AF n W B v1 v2 a b (Nat.le_trans hB hb.size) (h1.below hb hB) (h2.below hb hB) (bR f1) (bR f2);obtain⟨p1,c1,rfl,_,_⟩:=h1.shape;obtain⟨p2,c2,rfl,_,_⟩:=h2.shape;exact Ho a.f b.f p1 p2 _ c1 _ c2 (aC a) (aC b) _ w wJ pS hC
theorem RR(x y:TF)(p1 p2:Option Addr)(m1 c1 m2 c2:Nat)(r:Int)(w:World)
 (hC:∀W,Below w.heap.size w W→Calls Tryz.prog 96 #[aj x (.slice p1 m1 c1),aj y (.slice p2 m2 c2)] W (aM r W)) :
 Calls Tryz.prog 178 #[aj x (.slice p1 m1 c1),aj y (.slice p2 m2 c2)] w (aV (decide (r<0)) w):=by
 have HC:=Qh hC;clear hC;obtain⟨k1,i1,g1,n1,dr,a1,b1,s1⟩:=x;obtain⟨k2,i2,g2,n2,cU,a2,b2,s2⟩:=y;unfold aj aV aM at*;dsimp only at*;go_enter Tryz.func178,Tryz.ntmps178;go_wp2_with fail;refine(HC.out _ (((Below.refl _ _).alloc (Nat.le_refl _) _).alloc (by simp) _)).mono ?_;rintro e w3 ⟨rfl,bN⟩;go_wp2_with fail;go_ret;exact⟨rfl,(((Below.refl _ _).alloc (Nat.le_refl _) _).alloc (by simp) _).trans (bN.mono (by simp;omega))⟩
theorem RS{n:Nat}(w:World)(B:Nat)(v1 v2:Value)(a b:Tm (n+1))(hB:B≤w.heap.size)(h1:ah w B n v1 a.items)(h2:ah w B n v2 b.items)(s1:300*(ap a:Int)≤1000000000000)(s2:300*(ap b:Int)≤1000000000000) :
 Calls Tryz.prog 178 #[aj a.f v1,aj b.f v2] w (aV (decide (cM a b<0)) w):=by
 have hC:=fun W (hb:Qb w W)=>Compare W B v1 v2 a b (Nat.le_trans hB hb.size) (h1.below hb hB) (h2.below hb hB) s1 s2;obtain⟨p1,c1,rfl,_,_⟩:=h1.shape;obtain⟨p2,c2,rfl,_,_⟩:=h2.shape;exact RR a.f b.f p1 p2 _ c1 _ c2 _ w hC
theorem RT(f:TF)(p:Option Addr)(m c i:Nat)(w:World)(hi:i/8<f.bytes.size)(hm:i≤20000) :
 Calls Tryz.prog 126 #[aj f (.slice p m c),.int .i64 i] w (aM (eM f.bytes.data.toList i) w):=by
 obtain⟨k1,i1,g1,n1,dr,a1,gY,s1⟩:=f;dsimp only at hi ⊢;unfold aj aM;dsimp only;obtain⟨q,hq⟩:∃q:Nat,i/8=q:=⟨_,rfl⟩;obtain⟨r,hr⟩:∃r:Nat,i%8=r:=⟨_,rfl⟩;have Rz:(i:Int)/8=(q:Int):=by omega
 have RA:(i:Int)%8=(r:Int):=by omega
 have Vb:(i:Int).tdiv 8=(q:Int):=by rw[Int.tdiv_eq_ediv_of_nonneg (by omega)];exact Rz
 have Kk:(i:Int).tmod 8=(r:Int):=by rw[Int.tmod_eq_emod_of_nonneg (by omega)];exact RA
 have xm:q<gY.size:=by omega
 have hr8:r<8:=by omega
 have Ev:(q:Int)<(gY.size:Int):=by omega
 have G2:(0:Int)≤(q:Int):=by omega
 have hby:eH gY.data.toList q=(gY[q]'xm).toNat:=by
  unfold eH;rw[getD_in (by rw[Array.length_toList];exact xm)];rfl
 have hb0:(0:Int)≤((gY[q]'xm).toNat:Int):=by omega
 have aD:((gY[q]'xm).toNat:Int)≤255:=by have:=UInt8.toNat_lt (gY[q]'xm);omega
 have hres:eM gY.data.toList i=(((gY[q]'xm).toNat/2^(7-r)%2:Nat):Int):=by unfold eM;rw[hq,hr,hby]
 rw[hres];obtain⟨B,hB⟩:∃B:Nat,(gY[q]'xm).toNat=B:=⟨_,rfl⟩;rw[hB];obtain⟨R,hR⟩:∃R:Nat,B/2^(7-r)%2=R:=⟨_,rfl⟩;rw[hR];have HR:=Qh hR;have HB:=Qh hB;clear hi hres hby hq hr hB hR;go_enter Tryz.func126,Tryz.ntmps126;go_wp2_with fail;go_loop [5,6] (fun s t=>∃k n:Nat,s=.int .i64 n∧t=.int .i64 k∧k≤7∧n≤255∧Hid (r≤k∧n=B/2^(k-r))) (fun _ t=>7-(intOf t).toNat)
 case atStart=>exact⟨r,B,by rw[HB.out],rfl,by omega,by have:=HB.out;omega,Qh ⟨by omega,by rw[Nat.sub_self,Nat.pow_zero,Nat.div_one]⟩⟩
 case round=>
  obtain⟨k,n,rfl,rfl,hk,hn,HN⟩:=hrel
  by_cases hlt:k<7
  ·have hd:(n:Int).tdiv 2=((n/2:Nat):Int):=by rw[Int.tdiv_eq_ediv_of_nonneg (by omega)];omega
   have H2:Hid (r≤k+1∧n/2=B/2^(k+1-r)):=Qh (by
    obtain⟨h1,h2⟩:=HN.out
    refine⟨by omega,?_⟩
    rw[h2,show k+1-r=(k-r)+1 by omega,Nat.pow_succ,←Nat.div_div_eq_div_mul])
   go_wp2_with fail;go_round
   case rel=>exact⟨k+1,n/2,by go_num,by go_num,by omega,by omega,H2⟩
   case measure=>simp[intOf];omega
  ·obtain rfl:k=7:=by omega
   have hd:(n:Int).tmod 2=((n%2:Nat):Int):=by rw[Int.tmod_eq_emod_of_nonneg (by omega)];omega
   have HF:Hid (R=n%2):=Qh (by obtain⟨h1,h2⟩:=HN.out;rw[h2,HR.out]);go_wp2_with fail;go_ret;exact⟨dH (by have:=HF.out;omega),(Below.refl _ _).alloc (Nat.le_refl _) _⟩
theorem xG(x y:Nat→Int)(k:Nat)(h:lF x y (k+1)≠0):∀n,k+1≤n→lF x y n=lF x y (k+1)
 | 0,hn=>by omega
 | n+1,hn=>by
  by_cases e:n=k
  ·rw[e]
  ·have ih:=xG x y k h n (by omega);rw[lF,ih,if_neg h]
theorem RU(f1 f2:TF)(p1 p2:Option Addr)(m1 c1 m2 c2:Nat)(w:World)(h1:ij f1)(h2:ij f2) :
 Calls Tryz.prog 113 #[aj f1 (.slice p1 m1 c1),aj f2 (.slice p2 m2 c2)] w (aM (eL f1 f2) w):=by
 rw[xx f1 f2 h1 h2];obtain⟨q1,q0,q2,q3⟩:=h1;obtain⟨r1,r0,r2,r3⟩:=h2;have MP:=fun(i:Nat) (h:(i:Int)<f1.bits) (W:World)=>RT f1 p1 m1 c1 i W (by omega) (by omega);have gZ:=fun(i:Nat) (h:(i:Int)<f2.bits) (W:World)=>RT f2 p2 m2 c2 i W (by omega) (by omega);obtain⟨t1,ht1⟩:∃n:Nat,f1.bits=n:=⟨f1.bits.toNat,by omega⟩;obtain⟨t2,RW⟩:∃n:Nat,f2.bits=n:=⟨f2.bits.toNat,by omega⟩;have hmin:(min f1.bits f2.bits).toNat=min t1 t2:=by omega
 rw[hmin];have hst:=Qh (xG (eM f1.bytes.data.toList) (eM f2.bytes.data.toList));have hsu:=Qh (fun k=>show lF (eM f1.bytes.data.toList) (eM f2.bytes.data.toList) (k+1)=(if lF (eM f1.bytes.data.toList) (eM f2.bytes.data.toList) k=0 then aO (eM f1.bytes.data.toList k) (eM f2.bytes.data.toList k) else lF (eM f1.bytes.data.toList) (eM f2.bytes.data.toList) k) from rfl);have Vx:=Qh (show lF (eM f1.bytes.data.toList) (eM f2.bytes.data.toList) 0=0 from rfl);clear q2 r2 q3 r3 hmin;unfold aM at*;obtain⟨k1,i1,g1,n1,dr,a1,gY,s1⟩:=f1
 obtain⟨k2,i2,g2,n2,cU,a2,fW,s2⟩:=f2;dsimp only at*;subst ht1;subst RW;generalize lF (eM gY.data.toList) (eM fW.data.toList)=L at*;generalize eM gY.data.toList=X,eM fW.data.toList=Y at*;have RX:=Qh (fun W=>ints t1 t2 W);generalize hres:(if L (min t1 t2)=0 then aO (t1:Int) t2 else L (min t1 t2))=res at*;have qu:=Qh hres;clear q1 r1;have dU:=Qh MP;have bS:=Qh gZ;clear hres MP gZ;unfold aj at*;dsimp only at*;go_enter Tryz.func113,Tryz.ntmps113;go_wp2_with fail
 obtain⟨cz,cZ,au,hsz⟩:=j8 w ⟨k1,i1,g1,n1,dr,a1,gY,(t1:Int)⟩ ⟨k2,i2,g2,n2,cU,a2,fW,(t2:Int)⟩ (.slice p1 m1 c1) (.slice p2 m2 c2);unfold av at cz cZ au hsz;dsimp only at cz cZ au hsz;generalize((w.alloc (.cells (a9 k1 i1 g1 n1 dr a1 (.slice p1 m1 c1) gY t1) 24)).alloc (.cells (a9 k2 i2 g2 n2 cU a2 (.slice p2 m2 c2) fW t2) 24))=W0 at*;have eT:Hid (w.heap.size<W0.heap.size):=Qh (by omega);have iW:Hid (w.heap.size+1<W0.heap.size):=Qh (by omega);clear hsz;have gF:=Qh cz;have gG:=Qh cZ;clear cz cZ
 go_loopw [5] (fun s wr=>∃(k:Nat),s=.int .i64 k∧k≤t1∧k≤t2∧Hid (L k=0)∧Qb W0 wr) (fun s _=>t1-(intOf s).toNat)
 case atStart=>exact⟨0,rfl,by omega,by omega,Vx,Below.refl _ _⟩
 case round=>
  obtain⟨k,rfl,hk1,hk2,HL,hb⟩:=hrel;have jw:=Qh (gF.out.below hb eT.out);have gJ:=Qh (gG.out.below hb iW.out);obtain⟨x0,x1,x2,x3,x4,x5,x6,x7,x8,xz⟩:=jw.out;obtain⟨y0,y1,y2,y3,y4,y5,y6,y7,y8,yz⟩:=gJ.out;dsimp only at x0 x1 x2 x3 x4 x5 x6 x7 x8 y0 y1 y2 y3 y4 y5 y6 y7 y8
  by_cases hlt:k<t1∧k<t2
  ·obtain⟨l1,l2⟩:=hlt;have lZ:=Qh (fun W=>dU.out k (by omega) W);have nY:=Qh (fun W=>bS.out k (by omega) W);have u9:=Qh (fun W=>ints (X k) (Y k) W);have dl:=Qh (hsu.out k);generalize X k=x,Y k=y at*;have C3:=Qh (show gu (wr.drewN 1) w.heap.size ⟨k1,i1,g1,n1,dr,a1,gY,(t1:Int)⟩ (.slice p1 m1 c1) from cR jw.out);have Hp:=Qh (show gu (wr.drewN 1) (w.heap.size+1) ⟨k2,i2,g2,n2,cU,a2,fW,(t2:Int)⟩ (.slice p2 m2 c2) from cR gJ.out);have FN:w.heap.size<(wr.drewN 1).heap.size:=Nat.lt_of_lt_of_le eT.out hb.size
   have FO:w.heap.size+1<(wr.drewN 1).heap.size:=Nat.lt_of_lt_of_le iW.out hb.size;go_wp2_with fail
   go_region_held3 (fun w'=>(w'.cell? ⟨w.heap.size,0,none⟩=some (.int .i64 k1)∧w'.cell? ⟨w.heap.size,1,none⟩=some (.int .i64 i1)∧w'.cell? ⟨w.heap.size,2,none⟩=some (.int .i64 g1)∧w'.cell? ⟨w.heap.size,3,none⟩=some (.string n1)∧w'.cell? ⟨w.heap.size,4,none⟩=some (.string dr)∧w'.cell? ⟨w.heap.size,5,none⟩=some (.int .i64 a1)∧w'.cell? ⟨w.heap.size,6,none⟩=some (.slice p1 m1 c1)∧w'.cell? ⟨w.heap.size,7,none⟩=some (.string gY)∧w'.cell? ⟨w.heap.size,8,none⟩=some (.int .i64 t1))∧w'.cell? ⟨w.heap.size+1,0,none⟩=some (.int .i64 k2)∧w'.cell? ⟨w.heap.size+1,1,none⟩=some (.int .i64 i2)∧w'.cell? ⟨w.heap.size+1,2,none⟩=some (.int .i64 g2)∧w'.cell? ⟨w.heap.size+1,3,none⟩=some (.string n2)∧w'.cell? ⟨w.heap.size+1,4,none⟩=some (.string cU)∧w'.cell? ⟨w.heap.size+1,5,none⟩=some (.int .i64 a2)∧w'.cell? ⟨w.heap.size+1,6,none⟩=some (.slice p2 m2 c2)∧w'.cell? ⟨w.heap.size+1,7,none⟩=some (.string fW)∧w'.cell? ⟨w.heap.size+1,8,none⟩=some (.int .i64 t2)) (go_keep)
    (first
      | (go_at_call 126;(with_reducible refine(lZ.out wr.drew).mono ?_);rintro e w1 ⟨rfl,dZ⟩;have Q2:=Qh (C3.out.below dZ (FN));have Q3:=Qh (Hp.out.below dZ (FO));obtain⟨Vy,Vz,VA,VB,VC,VD,VE,VF,VG,aqz⟩:=Q2.out;obtain⟨VH,VI,VJ,VK,VL,VM,VN,VO,VP,bqz⟩:=Q3.out;dsimp only at Vy Vz VA VB VC VD VE VF VG VH VI VJ VK VL VM VN VO VP)
      | (go_at_call 126;(with_reducible refine(nY.out wr.drew).mono ?_);rintro e w1 ⟨rfl,dZ⟩;have Q2:=Qh (C3.out.below dZ (FN));have Q3:=Qh (Hp.out.below dZ (FO));obtain⟨Vy,Vz,VA,VB,VC,VD,VE,VF,VG,aqz⟩:=Q2.out;obtain⟨VH,VI,VJ,VK,VL,VM,VN,VO,VP,bqz⟩:=Q3.out;dsimp only at Vy Vz VA VB VC VD VE VF VG VH VI VJ VK VL VM VN VO VP)
      | (go_at_call 126;(with_reducible refine(lZ.out w1).mono ?_);rintro e w2 ⟨rfl,fK⟩;have Up:=Qh (Q2.out.below fK (Nat.lt_of_lt_of_le FN dZ.size));have Uq:=Qh (Q3.out.below fK (Nat.lt_of_lt_of_le FO dZ.size));obtain⟨VR,mV,gS,VS,VT,VU,VV,VW,VX,arz⟩:=Up.out;obtain⟨VY,VZ,V0,V4,V5,V6,V7,V8,V9,brz⟩:=Uq.out;dsimp only at VR mV gS VS VT VU VV VW VX VY VZ V0 V4 V5 V6 V7 V8 V9)
      | (go_at_call 126;(with_reducible refine(nY.out w1).mono ?_);rintro e w2 ⟨rfl,fK⟩;have Up:=Qh (Q2.out.below fK (Nat.lt_of_lt_of_le FN dZ.size));have Uq:=Qh (Q3.out.below fK (Nat.lt_of_lt_of_le FO dZ.size));obtain⟨VR,mV,gS,VS,VT,VU,VV,VW,VX,arz⟩:=Up.out;obtain⟨VY,VZ,V0,V4,V5,V6,V7,V8,V9,brz⟩:=Uq.out;dsimp only at VR mV gS VS VT VU VV VW VX VY VZ V0 V4 V5 V6 V7 V8 V9)
      | (go_at_call 108;refine(u9.out _).mono ?_;rintro e w3 ⟨rfl,rfl⟩))
   have Ur:Qb W0 w2:=((hb.drewN 1).trans (dZ.mono hb.size)).trans (fK.mono (Nat.le_trans hb.size dZ.size));have Q4:Hid (L (k+1)=aO x y):=Qh (by rw[dl.out,if_pos HL.out]);clear dl lZ nY u9 C3 Hp Q2 Q3 Up Uq dZ fK FN FO;generalize aO x y=zc at*
   by_cases hz:zc=0
   ·subst hz;go_wp2_with fail;go_roundw
    case rel=>exact⟨k+1,by go_num,by omega,by omega,Q4,Ur⟩
    case measure=>simp[intOf];omega
   ·have q:(zc != 0)=true:=by simp[hz]
    have HF:Hid (zc=res):=Qh (by
     rw[←qu.out,hst.out k (by rw[Q4.out];exact hz) (min t1 t2) (by omega),if_neg (by rw[Q4.out];exact hz),Q4.out])
    clear hz;go_wp2_with fail;go_ret;exact⟨dH HF.out,au.trans (Ur.mono au.size)⟩
  ·have HF:Hid (aO (t1:Int) t2=res):=Qh (by
    rw[←qu.out,show min t1 t2=k by omega,if_pos HL.out])
   by_cases l1:k<t1
   ·have l2:¬k<t2:=fun h=>hlt ⟨l1,h⟩;clear hlt;go_wp2_with fail;refine(RX.out _).mono ?_;rintro e w3 ⟨rfl,rfl⟩;go_wp2_with fail;go_ret;exact⟨dH HF.out,au.trans (hb.mono au.size)⟩
   ·clear hlt;go_wp2_with fail;refine(RX.out _).mono ?_;rintro e w3 ⟨rfl,rfl⟩;go_wp2_with fail;go_ret;exact⟨dH HF.out,au.trans (hb.mono au.size)⟩
theorem vp(W:World)(u1 u2 u3:Int):Calls Tryz.prog 110 #[.slice (some ⟨W.heap.size,0,none⟩) 3 3] (W.alloc (.cells #[.int .i64 u1,.int .i64 u2,.int .i64 u3] 3)) fun e w'=>e=.returned (.int .i64 (cn [u1,u2,u3]))∧W.alloc (.cells #[.int .i64 u1,.int .i64 u2,.int .i64 u3] 3)=w':=by
 have hA:=(MapKept.heap_alloc W (.cells #[.int .i64 u1,.int .i64 u2,.int .i64 u3] 3)).1;refine Ao _ _ [u1,u2,u3] 3 (by simp) (fun j h=>?_);rcases(show j=0∨j=1∨j=2 by simp at h;omega)with rfl|rfl|rfl <;> (simp only[World.cell?,hA];rfl)
theorem Hq(W:World)(u1 u2 u3 u4 u5:Int):Calls Tryz.prog 110 #[.slice (some ⟨W.heap.size,0,none⟩) 5 5] (W.alloc (.cells #[.int .i64 u1,.int .i64 u2,.int .i64 u3,.int .i64 u4,.int .i64 u5] 3)) fun e w'=>e=.returned (.int .i64 (cn [u1,u2,u3,u4,u5]))∧W.alloc (.cells #[.int .i64 u1,.int .i64 u2,.int .i64 u3,.int .i64 u4,.int .i64 u5] 3)=w':=by
 have hA:=(MapKept.heap_alloc W (.cells #[.int .i64 u1,.int .i64 u2,.int .i64 u3,.int .i64 u4,.int .i64 u5] 3)).1;refine Ao _ _ [u1,u2,u3,u4,u5] 5 (by simp) (fun j h=>?_);rcases(show j=0∨j=1∨j=2∨j=3∨j=4 by simp at h;omega)with rfl|rfl|rfl|rfl|rfl <;> (simp only[World.cell?,hA];rfl)
section
variable (i1 g1 i2 g2:Int)(n1 dr n2 cU:ByteArray)(a1 a2:Int)(gY fW:ByteArray)(s1 s2:Int)(p1 p2:Option Addr)(m1 c1 m2 c2:Nat)(w:World)
theorem fNe(k1 k2:Int)(hk:k1≠k2) :
 Calls Tryz.prog 86 #[aj ⟨k1,i1,g1,n1,dr,a1,gY,s1⟩ (.slice p1 m1 c1),aj ⟨k2,i2,g2,n2,cU,a2,fW,s2⟩ (.slice p2 m2 c2)] w (aM (aO k1 k2) w):=by
 have HI:=Qh (fun W=>ints k1 k2 W);have q:(k1 != k2)=true:=by simp[hk]
 clear hk;generalize aO k1 k2=z at*;unfold aM aj;dsimp only;go_enter Tryz.func86,Tryz.ntmps86;go_wp2_with fail;refine(HI.out _).mono ?_;rintro e w' ⟨rfl,rfl⟩;go_wp2_with fail;go_ret;exact⟨rfl,((Below.refl _ _).alloc (Nat.le_refl _) _).alloc (by simp) _⟩
theorem f1  :
 Calls Tryz.prog 86 #[aj ⟨1,i1,g1,n1,dr,a1,gY,s1⟩ (.slice p1 m1 c1),aj ⟨1,i2,g2,n2,cU,a2,fW,s2⟩ (.slice p2 m2 c2)] w (aM (aO i1 i2) w):=by
 have HI:=Qh (fun W=>ints i1 i2 W);generalize aO i1 i2=z at*;unfold aM aj;dsimp only;go_enter Tryz.func86,Tryz.ntmps86;go_wp2_with fail;refine(HI.out _).mono ?_;rintro e w' ⟨rfl,rfl⟩;go_wp2_with fail;go_ret;exact⟨rfl,((Below.refl _ _).alloc (Nat.le_refl _) _).alloc (by simp) _⟩
theorem f2  :
 Calls Tryz.prog 86 #[aj ⟨2,i1,g1,n1,dr,a1,gY,s1⟩ (.slice p1 m1 c1),aj ⟨2,i2,g2,n2,cU,a2,fW,s2⟩ (.slice p2 m2 c2)] w (aM (dx n1 n2) w):=by
 have HI:=Qh (fun W=>texts n1 n2 W);generalize dx n1 n2=z at*;unfold aM aj;dsimp only;go_enter Tryz.func86,Tryz.ntmps86;go_wp2_with fail;refine(HI.out _).mono ?_;rintro e w' ⟨rfl,rfl⟩;go_wp2_with fail;go_ret;exact⟨rfl,((Below.refl _ _).alloc (Nat.le_refl _) _).alloc (by simp) _⟩
theorem f8  :
 Calls Tryz.prog 86 #[aj ⟨8,i1,g1,n1,dr,a1,gY,s1⟩ (.slice p1 m1 c1),aj ⟨8,i2,g2,n2,cU,a2,fW,s2⟩ (.slice p2 m2 c2)] w (aM (0) w):=by
 unfold aM aj;dsimp only;go_enter Tryz.func86,Tryz.ntmps86;go_wp2_with fail;go_ret;exact⟨rfl,((Below.refl _ _).alloc (Nat.le_refl _) _).alloc (by simp) _⟩
theorem f7(r:Int)(hI:∀W,Below w.heap.size w W→Calls Tryz.prog 111 #[.slice p1 m1 c1,.slice p2 m2 c2] W (aM r W)) :
 Calls Tryz.prog 86 #[aj ⟨7,i1,g1,n1,dr,a1,gY,s1⟩ (.slice p1 m1 c1),aj ⟨7,i2,g2,n2,cU,a2,fW,s2⟩ (.slice p2 m2 c2)] w (aM (r) w):=by
 have HI:=Qh hI;clear hI;unfold aM aj at*;dsimp only at*;go_enter Tryz.func86,Tryz.ntmps86;go_wp2_with fail;refine(HI.out _ (((Below.refl _ _).alloc (Nat.le_refl _) _).alloc (by simp) _)).mono ?_;rintro e w3 ⟨rfl,bN⟩;go_wp2_with fail;go_ret;exact⟨rfl,(((Below.refl _ _).alloc (Nat.le_refl _) _).alloc (by simp) _).trans (bN.mono (by simp;omega))⟩
theorem f9(r:Int)(hI:∀W,Below w.heap.size w W→Calls Tryz.prog 112 #[.slice p1 m1 c1,.slice p2 m2 c2] W (aM r W)) :
 Calls Tryz.prog 86 #[aj ⟨9,i1,g1,n1,dr,a1,gY,s1⟩ (.slice p1 m1 c1),aj ⟨9,i2,g2,n2,cU,a2,fW,s2⟩ (.slice p2 m2 c2)] w (aM (r) w):=by
 have HI:=Qh hI;clear hI;unfold aM aj at*;dsimp only at*;go_enter Tryz.func86,Tryz.ntmps86;go_wp2_with fail;refine(HI.out _ (((Below.refl _ _).alloc (Nat.le_refl _) _).alloc (by simp) _)).mono ?_;rintro e w3 ⟨rfl,bN⟩;go_wp2_with fail;go_ret;exact⟨rfl,(((Below.refl _ _).alloc (Nat.le_refl _) _).alloc (by simp) _).trans (bN.mono (by simp;omega))⟩
theorem f10(r:Int)(hI:∀W,Below w.heap.size w W→Calls Tryz.prog 113 #[aj ⟨10,i1,g1,n1,dr,a1,gY,s1⟩ (.slice p1 m1 c1),aj ⟨10,i2,g2,n2,cU,a2,fW,s2⟩ (.slice p2 m2 c2)] W (aM r W)) :
 Calls Tryz.prog 86 #[aj ⟨10,i1,g1,n1,dr,a1,gY,s1⟩ (.slice p1 m1 c1),aj ⟨10,i2,g2,n2,cU,a2,fW,s2⟩ (.slice p2 m2 c2)] w (aM (r) w):=by
 have HI:=Qh hI;clear hI;unfold aM aj at*;dsimp only at*;go_enter Tryz.func86,Tryz.ntmps86;go_wp2_with fail;refine(HI.out _ (((Below.refl _ _).alloc (Nat.le_refl _) _).alloc (by simp) _)).mono ?_;rintro e w3 ⟨rfl,bN⟩;go_wp2_with fail;go_ret;exact⟨rfl,(((Below.refl _ _).alloc (Nat.le_refl _) _).alloc (by simp) _).trans (bN.mono (by simp;omega))⟩
theorem f3  :
 Calls Tryz.prog 86 #[aj ⟨3,i1,g1,n1,dr,a1,gY,s1⟩ (.slice p1 m1 c1),aj ⟨3,i2,g2,n2,cU,a2,fW,s2⟩ (.slice p2 m2 c2)] w (aM (cn [dx n1 n2,aO g1 g2,aO i1 i2]) w):=by
 obtain⟨z,hz⟩:∃z,cn [dx n1 n2,aO g1 g2,aO i1 i2]=z:=⟨_,rfl⟩;rw[hz];have HZ:=Qh hz;clear hz;unfold aM aj;dsimp only;go_enter Tryz.func86,Tryz.ntmps86;go_wp2_with fail;obtain⟨cz,cZ,au,hsz⟩:=j8 w ⟨3,i1,g1,n1,dr,a1,gY,s1⟩ ⟨3,i2,g2,n2,cU,a2,fW,s2⟩ (.slice p1 m1 c1) (.slice p2 m2 c2);unfold av at cz cZ au hsz;dsimp only at cz cZ au hsz;generalize((w.alloc (.cells (a9 3 i1 g1 n1 dr a1 (.slice p1 m1 c1) gY s1) 24)).alloc (.cells (a9 3 i2 g2 n2 cU a2 (.slice p2 m2 c2) fW s2) 24))=W0 at*;have eT:Hid (w.heap.size<W0.heap.size):=Qh (by omega)
 have iW:Hid (w.heap.size+1<W0.heap.size):=Qh (by omega);clear hsz;have gF:=Qh cz;have gG:=Qh cZ;clear cz cZ;obtain⟨x0,x1,x2,x3,x4,x5,x6,x7,x8,xz⟩:=gF.out;obtain⟨y0,y1,y2,y3,y4,y5,y6,y7,y8,yz⟩:=gG.out;dsimp only at x0 x1 x2 x3 x4 x5 x6 x7 x8 y0 y1 y2 y3 y4 y5 y6 y7 y8;go_still_tail 15,(by kernel_rfl)
 still_call ((texts n1 n2 _).mono (fun e w' h=>⟨h.1,h.2.symm⟩))
 repeat still_step
 still_call ((ints g1 g2 _).mono (fun e w' h=>⟨h.1,h.2.symm⟩))
 repeat still_step
 still_call ((ints i1 i2 _).mono (fun e w' h=>⟨h.1,h.2.symm⟩))
 repeat still_step
 refine wpStill_nil ?_;change wpList _ _ _ _ _ W0.drew;have jt:Qb w W0.drew:=au.drewN 1;clear x0 x1 x2 x3 x4 x5 x6 x7 x8 xz y0 y1 y2 y3 y4 y5 y6 y7 y8 yz;clear gF gG au eT iW;generalize W0.drew=W1,dx n1 n2=u1,aO g1 g2=u2,aO i1 i2=u3 at*;have hF:=Qh (vp W1 u1 u2 u3);rw[HZ.out]at hF;go_wp2_with fail;refine hF.out.mono ?_;rintro e w3 ⟨rfl,rfl⟩;go_wp2_with fail;go_ret;exact⟨rfl,jt.alloc jt.size _⟩
theorem f6  :
 Calls Tryz.prog 86 #[aj ⟨6,i1,g1,n1,dr,a1,gY,s1⟩ (.slice p1 m1 c1),aj ⟨6,i2,g2,n2,cU,a2,fW,s2⟩ (.slice p2 m2 c2)] w (aM (cn [dx n1 n2,aO g1 g2,aO i1 i2]) w):=by
 obtain⟨z,hz⟩:∃z,cn [dx n1 n2,aO g1 g2,aO i1 i2]=z:=⟨_,rfl⟩;rw[hz];have HZ:=Qh hz;clear hz;unfold aM aj;dsimp only;go_enter Tryz.func86,Tryz.ntmps86;go_wp2_with fail;obtain⟨cz,cZ,au,hsz⟩:=j8 w ⟨6,i1,g1,n1,dr,a1,gY,s1⟩ ⟨6,i2,g2,n2,cU,a2,fW,s2⟩ (.slice p1 m1 c1) (.slice p2 m2 c2);unfold av at cz cZ au hsz;dsimp only at cz cZ au hsz;generalize((w.alloc (.cells (a9 6 i1 g1 n1 dr a1 (.slice p1 m1 c1) gY s1) 24)).alloc (.cells (a9 6 i2 g2 n2 cU a2 (.slice p2 m2 c2) fW s2) 24))=W0 at*;have eT:Hid (w.heap.size<W0.heap.size):=Qh (by omega)
 have iW:Hid (w.heap.size+1<W0.heap.size):=Qh (by omega);clear hsz;have gF:=Qh cz;have gG:=Qh cZ;clear cz cZ;obtain⟨x0,x1,x2,x3,x4,x5,x6,x7,x8,xz⟩:=gF.out;obtain⟨y0,y1,y2,y3,y4,y5,y6,y7,y8,yz⟩:=gG.out;dsimp only at x0 x1 x2 x3 x4 x5 x6 x7 x8 y0 y1 y2 y3 y4 y5 y6 y7 y8;go_still_tail 15,(by kernel_rfl)
 still_call ((texts n1 n2 _).mono (fun e w' h=>⟨h.1,h.2.symm⟩))
 repeat still_step
 still_call ((ints g1 g2 _).mono (fun e w' h=>⟨h.1,h.2.symm⟩))
 repeat still_step
 still_call ((ints i1 i2 _).mono (fun e w' h=>⟨h.1,h.2.symm⟩))
 repeat still_step
 refine wpStill_nil ?_;change wpList _ _ _ _ _ W0.drew;have jt:Qb w W0.drew:=au.drewN 1;clear x0 x1 x2 x3 x4 x5 x6 x7 x8 xz y0 y1 y2 y3 y4 y5 y6 y7 y8 yz;clear gF gG au eT iW;generalize W0.drew=W1,dx n1 n2=u1,aO g1 g2=u2,aO i1 i2=u3 at*;have hF:=Qh (vp W1 u1 u2 u3);rw[HZ.out]at hF;go_wp2_with fail;refine hF.out.mono ?_;rintro e w3 ⟨rfl,rfl⟩;go_wp2_with fail;go_ret;exact⟨rfl,jt.alloc jt.size _⟩
theorem f5  :
 Calls Tryz.prog 86 #[aj ⟨5,i1,g1,n1,dr,a1,gY,s1⟩ (.slice p1 m1 c1),aj ⟨5,i2,g2,n2,cU,a2,fW,s2⟩ (.slice p2 m2 c2)] w (aM (cn [dx n1 n2,dx dr cU,aO a1 a2]) w):=by
 obtain⟨z,hz⟩:∃z,cn [dx n1 n2,dx dr cU,aO a1 a2]=z:=⟨_,rfl⟩;rw[hz];have HZ:=Qh hz;clear hz;unfold aM aj;dsimp only;go_enter Tryz.func86,Tryz.ntmps86;go_wp2_with fail;obtain⟨cz,cZ,au,hsz⟩:=j8 w ⟨5,i1,g1,n1,dr,a1,gY,s1⟩ ⟨5,i2,g2,n2,cU,a2,fW,s2⟩ (.slice p1 m1 c1) (.slice p2 m2 c2);unfold av at cz cZ au hsz;dsimp only at cz cZ au hsz;generalize((w.alloc (.cells (a9 5 i1 g1 n1 dr a1 (.slice p1 m1 c1) gY s1) 24)).alloc (.cells (a9 5 i2 g2 n2 cU a2 (.slice p2 m2 c2) fW s2) 24))=W0 at*;have eT:Hid (w.heap.size<W0.heap.size):=Qh (by omega)
 have iW:Hid (w.heap.size+1<W0.heap.size):=Qh (by omega);clear hsz;have gF:=Qh cz;have gG:=Qh cZ;clear cz cZ;obtain⟨x0,x1,x2,x3,x4,x5,x6,x7,x8,xz⟩:=gF.out;obtain⟨y0,y1,y2,y3,y4,y5,y6,y7,y8,yz⟩:=gG.out;dsimp only at x0 x1 x2 x3 x4 x5 x6 x7 x8 y0 y1 y2 y3 y4 y5 y6 y7 y8;go_still_tail 15,(by kernel_rfl)
 still_call ((texts n1 n2 _).mono (fun e w' h=>⟨h.1,h.2.symm⟩))
 repeat still_step
 still_call ((texts dr cU _).mono (fun e w' h=>⟨h.1,h.2.symm⟩))
 repeat still_step
 still_call ((ints a1 a2 _).mono (fun e w' h=>⟨h.1,h.2.symm⟩))
 repeat still_step
 refine wpStill_nil ?_;change wpList _ _ _ _ _ W0.drew;have jt:Qb w W0.drew:=au.drewN 1;clear x0 x1 x2 x3 x4 x5 x6 x7 x8 xz y0 y1 y2 y3 y4 y5 y6 y7 y8 yz;clear gF gG au eT iW;generalize W0.drew=W1,dx n1 n2=u1,dx dr cU=u2,aO a1 a2=u3 at*;have hF:=Qh (vp W1 u1 u2 u3);rw[HZ.out]at hF;go_wp2_with fail;refine hF.out.mono ?_;rintro e w3 ⟨rfl,rfl⟩;go_wp2_with fail;go_ret;exact⟨rfl,jt.alloc jt.size _⟩
theorem f4(r:Int)(hI:∀W,Below w.heap.size w W→Calls Tryz.prog 111 #[.slice p1 m1 c1,.slice p2 m2 c2] W (aM r W)) :
 Calls Tryz.prog 86 #[aj ⟨4,i1,g1,n1,dr,a1,gY,s1⟩ (.slice p1 m1 c1),aj ⟨4,i2,g2,n2,cU,a2,fW,s2⟩ (.slice p2 m2 c2)] w (aM (cn [dx n1 n2,aO g1 g2,aO i1 i2,aO a1 a2,r]) w):=by
 have HI:=Qh hI;clear hI;have HT:=Qh (fun W=>texts n1 n2 W);have HG:=Qh (fun W=>ints g1 g2 W);have HJ:=Qh (fun W=>ints i1 i2 W);have HA:=Qh (fun W=>ints a1 a2 W);generalize dx n1 n2=u1,aO g1 g2=u2,aO i1 i2=u3,aO a1 a2=u4 at*;have HF:=Qh (fun W=>Hq W u1 u2 u3 u4 r);generalize cn [u1,u2,u3,u4,r]=z at*;unfold aM aj at*;dsimp only at*;go_enter Tryz.func86,Tryz.ntmps86;go_wp2_with fail;obtain⟨cz,cZ,au,hsz⟩:=j8 w ⟨4,i1,g1,n1,dr,a1,gY,s1⟩ ⟨4,i2,g2,n2,cU,a2,fW,s2⟩ (.slice p1 m1 c1) (.slice p2 m2 c2);unfold av at cz cZ au hsz
 dsimp only at cz cZ au hsz;generalize((w.alloc (.cells (a9 4 i1 g1 n1 dr a1 (.slice p1 m1 c1) gY s1) 24)).alloc (.cells (a9 4 i2 g2 n2 cU a2 (.slice p2 m2 c2) fW s2) 24))=W0 at*;have eT:Hid (w.heap.size<W0.heap.size):=Qh (by omega);have iW:Hid (w.heap.size+1<W0.heap.size):=Qh (by omega);clear hsz;have gF:=Qh cz;have gG:=Qh cZ;clear cz cZ;obtain⟨x0,x1,x2,x3,x4,x5,x6,x7,x8,xz⟩:=gF.out;obtain⟨y0,y1,y2,y3,y4,y5,y6,y7,y8,yz⟩:=gG.out;dsimp only at x0 x1 x2 x3 x4 x5 x6 x7 x8 y0 y1 y2 y3 y4 y5 y6 y7 y8;have hbd:Qb w W0.drew:=au.drewN 1;have HIW:=Qh (HI.out W0.drew hbd)
 have C3:=Qh (show gu W0.drew w.heap.size ⟨4,i1,g1,n1,dr,a1,gY,s1⟩ (.slice p1 m1 c1) from cR gF.out);have Hp:=Qh (show gu W0.drew (w.heap.size+1) ⟨4,i2,g2,n2,cU,a2,fW,s2⟩ (.slice p2 m2 c2) from cR gG.out)
 go_region_held3 (fun w'=>(w'.cell? ⟨w.heap.size,0,none⟩=some (.int .i64 4)∧w'.cell? ⟨w.heap.size,1,none⟩=some (.int .i64 i1)∧w'.cell? ⟨w.heap.size,2,none⟩=some (.int .i64 g1)∧w'.cell? ⟨w.heap.size,3,none⟩=some (.string n1)∧w'.cell? ⟨w.heap.size,4,none⟩=some (.string dr)∧w'.cell? ⟨w.heap.size,5,none⟩=some (.int .i64 a1)∧w'.cell? ⟨w.heap.size,6,none⟩=some (.slice p1 m1 c1)∧w'.cell? ⟨w.heap.size,7,none⟩=some (.string gY)∧w'.cell? ⟨w.heap.size,8,none⟩=some (.int .i64 s1))∧w'.cell? ⟨w.heap.size+1,0,none⟩=some (.int .i64 4)∧w'.cell? ⟨w.heap.size+1,1,none⟩=some (.int .i64 i2)∧w'.cell? ⟨w.heap.size+1,2,none⟩=some (.int .i64 g2)∧w'.cell? ⟨w.heap.size+1,3,none⟩=some (.string n2)∧w'.cell? ⟨w.heap.size+1,4,none⟩=some (.string cU)∧w'.cell? ⟨w.heap.size+1,5,none⟩=some (.int .i64 a2)∧w'.cell? ⟨w.heap.size+1,6,none⟩=some (.slice p2 m2 c2)∧w'.cell? ⟨w.heap.size+1,7,none⟩=some (.string fW)∧w'.cell? ⟨w.heap.size+1,8,none⟩=some (.int .i64 s2)) (go_keep)
  (first
    | (go_at_call 109;(with_reducible refine(HT.out _).mono ?_);rintro e w4 ⟨rfl,rfl⟩)
    | (go_at_call 108;(with_reducible refine(HG.out _).mono ?_);rintro e w4 ⟨rfl,rfl⟩)
    | (go_at_call 108;(with_reducible refine(HJ.out _).mono ?_);rintro e w4 ⟨rfl,rfl⟩)
    | (go_at_call 108;(with_reducible refine(HA.out _).mono ?_);rintro e w4 ⟨rfl,rfl⟩)
    | (go_at_call 111;(with_reducible refine HIW.out.mono ?_);rintro e w1 ⟨rfl,hb⟩;have AG:=Qh (C3.out.below hb eT.out);have wD:=Qh (Hp.out.below hb iW.out);obtain⟨z0,z1,z2,z3,z4,z5,z6,z7,z8,zz⟩:=AG.out;obtain⟨t0,t1,t2,t3,t4,t5,t6,t7,t8,tz⟩:=wD.out;dsimp only at z0 z1 z2 z3 z4 z5 z6 z7 z8 t0 t1 t2 t3 t4 t5 t6 t7 t8)
    | (go_at_call 110;(with_reducible refine(HF.out w1).mono ?_);rintro e w5 ⟨rfl,rfl⟩))
 have u_:Qb w w1:=hbd.trans (hb.mono hbd.size);go_wp2_with fail;go_ret;exact⟨rfl,u_.alloc u_.size _⟩
end
end Go.Proofs.YtfbggmbmgohiiaaGreat.tm
