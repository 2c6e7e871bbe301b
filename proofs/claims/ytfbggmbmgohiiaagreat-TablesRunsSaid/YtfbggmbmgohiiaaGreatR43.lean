/- TeG,TeH,TcZ,TeL. No condition beyond theirs. -/
import Derived.Test.YtfbggmbmgohiiaaGreatR41
import Derived.Test.YtfbggmbmgohiiaaGreatR42
import Derived.Test.YtfbggmbmgohiiaaGreatR31
set_option linter.unusedSimpArgs false
set_option linter.unusedVariables false
set_option maxHeartbeats 4000000
set_option maxRecDepth 100000
namespace Go.Proofs.YtfbggmbmgohiiaaGreat
namespace tb
open Go.RowKit mem rec tm names
section
variable {N:Nat}{w w':World}{B y:Nat}{lv:Value}{T:List (g6 N)}{t:g6 N}{r k:Tm (N+1)}{fF uk:Value}
theorem cY.main(h:cY w B y lv T){i:Nat}(ht:T[i]?=some t):∃gl cl,lv=.slice (some ⟨gl,0,none⟩) T.length cl∧i<T.length∧gl<w.heap.size∧y≠gl∧B≤gl∧∀W,Below w.heap.size w W→W.rangeAt gl (i*20) (ku t)∧W.cell? ⟨y,0,none⟩=some lv∧∀o,W.frozen? ⟨gl,o,none⟩=false:=by
 have hil:i<T.length:=(List.getElem?_eq_some_iff.1 ht).1;obtain⟨gl,cl,hlv⟩:∃gl cl,lv=.slice (some ⟨gl,0,none⟩) T.length cl:=by
  rcases h.l.2 with⟨_,h0⟩|⟨g,cap,cur,e,_⟩
  ·omega
  ·exact⟨g,cap,e⟩
 obtain⟨g9,o9,e9,mo,xS⟩:=lV (by have:=h.l.row h.enc;rwa[hlv]at this) hil;simp only[Option.some.injEq,Addr.mk.injEq,and_true]at e9;obtain⟨rfl,rfl⟩:=e9;rw[Nat.zero_add]at xS;have UQ:T[i]=t:=by rw[List.getElem?_eq_getElem hil]at ht;exact Option.some.inj ht
 rw[UQ]at xS;refine⟨gl,cl,hlv,hil,mo,dX (br h.obj) (dW h.l (k:=gl) (by rw[hlv];rfl)) (by decide),(h.l.lt (k:=gl) (by rw[hlv];rfl)).1,fun W hW=>⟨dn xS (hW.block gl mo),cm (x:=[lv]) (h.below hW).obj 0 _ rfl,fun o=>?_⟩⟩
 rcases(h.below hW).l.2 with⟨e,_⟩|⟨g,cap,cur,e,_,hh,_⟩
 ·rw[hlv]at e;simp at e
 ·rw[hlv]at e;simp only[Value.slice.injEq,Option.some.injEq,Addr.mk.injEq,and_true,true_and]at e;obtain⟨rfl,_⟩:=e;simp only[World.frozen?,hh];simp
structure sS(w:World)(B:Nat)(r k:Tm (N+1))(fF uk:Value):Prop where
 ir:ah w B N fF r.items
 ik:ah w B N uk k.items
 nk:ap k≤100000000
theorem DJ(h:cY w B y lv T)(hT:T.length≤1000)(a:sS w B r k fF uk)(hk:aC k=false) :
 Calls Tryz.prog 58 #[.pointer (some ⟨y,0,none⟩),aj r.f fF,aj k.f uk] w fun e w'=>e=.returned (.tuple #[.agg #[.int .i64 0,.int .i64 0,.int .i64 0,.string ⟨#[]⟩,.string ⟨#[]⟩,.int .i64 0,.slice none 0 0,.string ⟨#[]⟩,.int .i64 0],.bool false,.int .i64 2])∧Below w.heap.size w w':=by
 have hB:=h.blt;have nL:=Qh (fun(W:World) (hW:Qb w W)=>gA W B uk k (Nat.le_trans hB hW.size) (a.ik.below hW hB) (by have:=a.nk;omega));have cB:=Qh (fun(W:World) (hW:Qb w W)=>lq (h.below hW) hT (Nat.le_trans hB hW.size) (a.ir.below hW hB));obtain⟨pr,cr,e1,_,_⟩:=a.ir.shape;obtain⟨pk,ck,e2,_,_⟩:=a.ik.shape;rw[hk]at nL;rw[e1];rw[e2]at nL ⊢;clear cB h hT a hB e1 e2;generalize r.items.length=nr at*;generalize k.items.length=nk at*;generalize lJ:r.f=fr at*;generalize Gk:k.f=fk at*;obtain⟨rk,ri,rg,rn,rf,ra,rb,rz⟩:=fr;obtain⟨kk,ki,kg,kn,kf,ka,kb,kz⟩:=fk
 unfold aj aV at*;dsimp only at*;have cE:(Tryz.prog.info? 24).map (·.size)=some 9:=by kernel_rfl
 obtain⟨hb0,_,cI,cS,kT⟩:=bV w (.cells (a9 rk ri rg rn rf ra (.slice pr nr cr) rb rz) 24) (.cells (a9 kk ki kg kn kf ka (.slice pk nk ck) kb kz) 24) cQ;have dM:=(Qg cI);have fA:=(Qg cS);have pO:=(Qg kT);go_enter Tryz.func58,Tryz.ntmps58;go_upto_region 1 with(fail);generalize(((w.alloc (.cells (a9 rk ri rg rn rf ra (.slice pr nr cr) rb rz) 24)).alloc (.cells (a9 kk ki kg kn kf ka (.slice pk nk ck) kb kz) 24)).alloc cQ)=W1 at*
 have HX:=Qh (fun W (hW:Qb W1 W)=>(And.intro (aq (x:=(l9 rk ri rg rn rf ra (.slice pr nr cr) rb rz)) ((hW.block _ dM).trans cI)) (And.intro (aq (x:=(l9 kk ki kg kn kf ka (.slice pk nk ck) kb kz)) ((hW.block _ fA).trans cS)) ((hW.block _ pO).trans kT))));have hb:=Below.refl W1.heap.size W1;have bu:=Qh hb0;have au:=hb0;clear cI cS kT dM fA pO hb0;have lO:=Qh (HX.out _ hb).2.1;go_wp2_with (first
  | (refine Ql lO.out ?_))
 refine(nL.out _ au).mono ?_;rintro e w2 ⟨rfl,aD⟩;replace hb:=hb.trans (aD.mono hb.size);replace au:=au.trans (aD.mono au.size);clear aD nL lO;have cS:=(HX.out _ hb).2.2;have qh:=setRow_heap w2 (w.heap.size+2) _ dG _ _ cS;have dZ:=au.trans ((aB w2 (w.heap.size+2) dG).below (fun q e=>by omega) au.size);have HZ:=Qh cS;have HF:=Qh (And.intro (run_loadVar_mid (P:=Tryz.prog) _ (w.heap.size+2) 0 24 uJ _ (aq qh) Tryz.underlying24 rfl cE) dZ);clear cS qh dZ;go_wp2_with (first
  | (refine Qs HZ.out fJ ?_))
 (try simp only[Exit.inBlock,Exit.then])
 obtain⟨fA,fR⟩:=HF.out;refine bodyPost_ret (v:=.tuple #[.agg dG,.bool false,.int .i64 2]) ?_ rfl ⟨rfl,fR⟩;have hA:∀(a:Addr) (w:World),(asAddr (.pointer (some a))).run Tryz.prog w=.ok a w:=fun _ _=>rfl;rw[iG rfl];simp[hA,fA,Result.andThen]
theorem DK(h:cY w B y lv T)(hT:T.length≤1000)(a:sS w B r k fF uk)(hk:aC k=true)(hr:jG T r=none) :
 Calls Tryz.prog 58 #[.pointer (some ⟨y,0,none⟩),aj r.f fF,aj k.f uk] w fun e w'=>e=.returned (.tuple #[.agg #[.int .i64 0,.int .i64 0,.int .i64 0,.string ⟨#[]⟩,.string ⟨#[]⟩,.int .i64 0,.slice none 0 0,.string ⟨#[]⟩,.int .i64 0],.bool false,.int .i64 4])∧Below w.heap.size w w':=by
 have hB:=h.blt;have nL:=Qh (fun(W:World) (hW:Qb w W)=>gA W B uk k (Nat.le_trans hB hW.size) (a.ik.below hW hB) (by have:=a.nk;omega));have cB:=Qh (fun(W:World) (hW:Qb w W)=>lq (h.below hW) hT (Nat.le_trans hB hW.size) (a.ir.below hW hB));obtain⟨pr,cr,e1,_,_⟩:=a.ir.shape;obtain⟨pk,ck,e2,_,_⟩:=a.ik.shape;rw[hk]at nL;rw[hr]at cB;unfold lm at cB;dsimp only at cB;rw[e1]at cB ⊢;rw[e2]at nL ⊢;clear h hT a hB e1 e2;generalize r.items.length=nr at*;generalize k.items.length=nk at*;generalize lJ:r.f=fr at*;generalize Gk:k.f=fk at*
 obtain⟨rk,ri,rg,rn,rf,ra,rb,rz⟩:=fr;obtain⟨kk,ki,kg,kn,kf,ka,kb,kz⟩:=fk;unfold aj aV at*;dsimp only at*;have cE:(Tryz.prog.info? 24).map (·.size)=some 9:=by kernel_rfl
 obtain⟨hb0,_,cI,cS,kT⟩:=bV w (.cells (a9 rk ri rg rn rf ra (.slice pr nr cr) rb rz) 24) (.cells (a9 kk ki kg kn kf ka (.slice pk nk ck) kb kz) 24) cQ;have dM:=(Qg cI);have fA:=(Qg cS);have pO:=(Qg kT);go_enter Tryz.func58,Tryz.ntmps58;go_upto_region 1 with(fail);generalize(((w.alloc (.cells (a9 rk ri rg rn rf ra (.slice pr nr cr) rb rz) 24)).alloc (.cells (a9 kk ki kg kn kf ka (.slice pk nk ck) kb kz) 24)).alloc cQ)=W1 at*
 have HX:=Qh (fun W (hW:Qb W1 W)=>(And.intro (aq (x:=(l9 rk ri rg rn rf ra (.slice pr nr cr) rb rz)) ((hW.block _ dM).trans cI)) (And.intro (aq (x:=(l9 kk ki kg kn kf ka (.slice pk nk ck) kb kz)) ((hW.block _ fA).trans cS)) ((hW.block _ pO).trans kT))));have hb:=Below.refl W1.heap.size W1;have bu:=Qh hb0;have au:=hb0;clear cI cS kT dM fA pO hb0;have lO:=Qh (HX.out _ hb).2.1;go_wp2_with (first
  | (refine Ql lO.out ?_))
 refine(nL.out _ au).mono ?_;rintro e w2 ⟨rfl,aD⟩;replace hb:=hb.trans (aD.mono hb.size);replace au:=au.trans (aD.mono au.size);clear aD nL lO;have dw:=Qh (HX.out _ hb).1;go_wp2_with (first
  | (refine Ql dw.out ?_))
 refine(cB.out _ au).mono ?_;rintro e w4 ⟨rfl,aD⟩;replace hb:=hb.trans (aD.mono hb.size);replace au:=au.trans (aD.mono au.size);clear aD cB dw;have cS:=(HX.out _ hb).2.2;have qh:=setRow_heap w4 (w.heap.size+2) _ dG _ _ cS;have dZ:=au.trans ((aB w4 (w.heap.size+2) dG).below (fun q e=>by omega) au.size);have HZ:=Qh cS;have HF:=Qh (And.intro (run_loadVar_mid (P:=Tryz.prog) _ (w.heap.size+2) 0 24 uJ _ (aq qh) Tryz.underlying24 rfl cE) dZ);clear cS qh dZ;go_wp2_with (first
  | (refine Qs HZ.out fJ ?_))
 (try simp only[Exit.inBlock,Exit.then])
 obtain⟨fA,fR⟩:=HF.out;refine bodyPost_ret (v:=.tuple #[.agg dG,.bool false,.int .i64 4]) ?_ rfl ⟨rfl,fR⟩;have hA:∀(a:Addr) (w:World),(asAddr (.pointer (some a))).run Tryz.prog w=.ok a w:=fun _ _=>rfl;rw[iG rfl];simp[hA,fA,Result.andThen]
theorem DL(h:cY w B y lv T)(hT:T.length≤1000)(a:sS w B r k fF uk)(hk:aC k=true){i:Nat}(hr:jG T r=some i)(ht:T[i]?=some t)(hl:t.rows.length≤1000000)(hnd:∀r∈t.rows,ap r.k≤100000000)(hno:gp (bM t.hs) (bh t.rows) k=false) :
 Calls Tryz.prog 58 #[.pointer (some ⟨y,0,none⟩),aj r.f fF,aj k.f uk] w fun e w'=>e=.returned (.tuple #[.agg #[.int .i64 0,.int .i64 0,.int .i64 0,.string ⟨#[]⟩,.string ⟨#[]⟩,.int .i64 0,.slice none 0 0,.string ⟨#[]⟩,.int .i64 0],.bool false,.int .i64 0])∧Below w.heap.size w w':=by
 have hB:=h.blt;have nL:=Qh (fun(W:World) (hW:Qb w W)=>gA W B uk k (Nat.le_trans hB hW.size) (a.ik.below hW hB) (by have:=a.nk;omega));have cB:=Qh (fun(W:World) (hW:Qb w W)=>lq (h.below hW) hT (Nat.le_trans hB hW.size) (a.ir.below hW hB));obtain⟨gl,cl,hlv,hil,mo,Gl,_,hm⟩:=h.main ht;have HM:=Qh hm;have qO:=Qh (fun(W:World) (hW:Qb w W)=>rL t (Nat.le_trans hB hW.size) ((h.below hW).tabs t (List.mem_of_getElem? ht)) hl hnd (Nat.le_trans hB hW.size) (a.ik.below hW hB) a.nk);rw[hno]at qO;generalize cK (bM t.hs) (bh t.rows) k=px at*;clear hno
 obtain⟨pr,cr,e1,_,_⟩:=a.ir.shape;obtain⟨pk,ck,e2,_,_⟩:=a.ik.shape;rw[hk]at nL;rw[hr]at cB;unfold lm at cB;dsimp only at cB;rw[e1]at cB ⊢;rw[e2]at nL qO ⊢;unfold ku aE at HM qO;rw[hlv]at HM;clear h hT a hB e1 e2 hnd hr ht hlv hk hm hl;generalize T.length=nT at*;obtain⟨ko,kp,ur,uo,hs,vr,rows⟩:=t;dsimp only at*;generalize ko.f=fe at*;generalize kp.f=fo at*;obtain⟨ek,ei,eg,en,ef,ea,eb,ez⟩:=fe;obtain⟨ok,oi,og,on,of,oa,ob,oz⟩:=fo;generalize r.items.length=nr at*;generalize k.items.length=nk at*;generalize lJ:r.f=fr at*
 generalize Gk:k.f=fk at*;obtain⟨rk,ri,rg,rn,rf,ra,rb,rz⟩:=fr;obtain⟨kk,ki,kg,kn,kf,ka,kb,kz⟩:=fk;unfold aj aV PA at*;dsimp only at*;simp only[List.cons_append,List.nil_append]at HM qO;have jY:(Tryz.prog.info? 53).map (·.size)=some 20:=by kernel_rfl
 have cE:(Tryz.prog.info? 24).map (·.size)=some 9:=by kernel_rfl
 obtain⟨hb0,_,cI,cS,kT⟩:=bV w (.cells (a9 rk ri rg rn rf ra (.slice pr nr cr) rb rz) 24) (.cells (a9 kk ki kg kn kf ka (.slice pk nk ck) kb kz) 24) cQ;have dM:=(Qg cI);have fA:=(Qg cS);have pO:=(Qg kT);go_enter Tryz.func58,Tryz.ntmps58;go_upto_region 1 with(fail);generalize(((w.alloc (.cells (a9 rk ri rg rn rf ra (.slice pr nr cr) rb rz) 24)).alloc (.cells (a9 kk ki kg kn kf ka (.slice pk nk ck) kb kz) 24)).alloc cQ)=W1 at*
 have HX:=Qh (fun W (hW:Qb W1 W)=>(And.intro (aq (x:=(l9 rk ri rg rn rf ra (.slice pr nr cr) rb rz)) ((hW.block _ dM).trans cI)) (And.intro (aq (x:=(l9 kk ki kg kn kf ka (.slice pk nk ck) kb kz)) ((hW.block _ fA).trans cS)) ((hW.block _ pO).trans kT))));have hb:=Below.refl W1.heap.size W1;have bu:=Qh hb0;have au:=hb0;clear cI cS kT dM fA pO hb0;have lO:=Qh (HX.out _ hb).2.1;go_wp2_with (first
  | (refine Ql lO.out ?_))
 refine(nL.out _ au).mono ?_;rintro e w2 ⟨rfl,aD⟩;replace hb:=hb.trans (aD.mono hb.size);replace au:=au.trans (aD.mono au.size);clear aD nL lO;have dw:=Qh (HX.out _ hb).1;go_wp2_with (first
  | (refine Ql dw.out ?_))
 refine(cB.out _ au).mono ?_;rintro e w4 ⟨rfl,aD⟩;replace hb:=hb.trans (aD.mono hb.size);replace au:=au.trans (aD.mono au.size);clear aD cB dw;have r1:(i:Int)<(nT:Int):=by omega
 have r2:¬((i:Int)<0):=by omega
 go_upto_region 6 with(fail);replace hb:=hb.trans ((aZ (Below.refl w4.heap.size w4)).mono hb.size);replace au:=au.trans ((aZ (Below.refl w4.heap.size w4)).mono au.size)
 refine wp_region_held_drew (S:=(fun w'=>w'.cell? ⟨y,0,none⟩=some (.slice (some ⟨gl,0,none⟩) nT cl)∧w'.rangeAt gl (i*20) (wH ek ei eg en ef ea ur eb ez ok oi og on of oa uo ob oz hs vr)∧w'.rangeAt (w.heap.size+1) 0 (l9 kk ki kg kn kf ka (.slice pk nk ck) kb kz))) (by kernel_rfl) ?_ (fun hHeld=>?_)
 ·exact⟨(HM.out _ au).2.1,(HM.out _ au).1,(HX.out _ hb).2.1⟩
 generalize w4.drew=wd at*;refine run_in [0,1,2,3,4,5,6,7] ?_;iterate 6 refine Qe ?_
 refine Qr rfl (yieldsIf_load_mid (by rfl) 53 (.tmp 28) rfl gl (i*20) rfl (wH ek ei eg en ef ea ur eb ez ok oi og on of oa uo ob oz hs vr) _ (fun w hs=>hs.2.1) Tryz.underlying53 rfl jY) ?_;refine Qm (fun w hs=>hs.2.2) ?_;refine aI ?_;refine Qd 8 (fun K hK=>?_);go_simp;refine(qO.out _ au).mono ?_;rintro e w6 ⟨rfl,aD⟩;replace hb:=hb.trans (aD.mono hb.size);replace au:=au.trans (aD.mono au.size);clear aD;go_wp2_with fail;refine Qk hK (⟨(HM.out _ au).2.1,(HM.out _ au).1,(HX.out _ hb).2.1⟩) (fun hHeld=>?_);clear hK K;refine run_in [9,10,11,12,13] ?_;iterate 5 refine Qe ?_
 refine aI ?_;refine wpAnyH_done (by kernel_rfl) ?_ _;have cS:=(HX.out _ hb).2.2;have qh:=setRow_heap w6 (w.heap.size+2) _ dG _ _ cS;have dZ:=au.trans ((aB w6 (w.heap.size+2) dG).below (fun q e=>by omega) au.size);have HZ:=Qh cS;have HF:=Qh (And.intro (run_loadVar_mid (P:=Tryz.prog) _ (w.heap.size+2) 0 24 uJ _ (aq qh) Tryz.underlying24 rfl cE) dZ);clear cS qh dZ;go_wp2_with (first
  | (refine Qs HZ.out fJ ?_))
 (try simp only[Exit.inBlock,Exit.then])
 obtain⟨fA,fR⟩:=HF.out;refine bodyPost_ret (v:=.tuple #[.agg dG,.bool false,.int .i64 0]) ?_ rfl ⟨rfl,fR⟩;have hA:∀(a:Addr) (w:World),(asAddr (.pointer (some a))).run Tryz.prog w=.ok a w:=fun _ _=>rfl;rw[iG rfl];simp[hA,fA,Result.andThen]
theorem DM(h:cY w B y lv T)(hT:T.length≤1000)(a:sS w B r k fF uk)(hk:aC k=true){i:Nat}(hr:jG T r=some i)(ht:T[i]?=some t)(hl:t.rows.length≤1000000)(hnd:∀r∈t.rows,ap r.k≤100000000)(eP:gp (bM t.hs) (bh t.rows) k=true){e:qI N}(he:t.rows[cK (bM t.hs) (bh t.rows) k]?=some e) :
 Calls Tryz.prog 58 #[.pointer (some ⟨y,0,none⟩),aj r.f fF,aj k.f uk] w fun e' w'=>e'=.returned (.tuple #[aj e.v.f e.uv,.bool true,.int .i64 0])∧Below w.heap.size w w':=by
 have hB:=h.blt;have nL:=Qh (fun(W:World) (hW:Qb w W)=>gA W B uk k (Nat.le_trans hB hW.size) (a.ik.below hW hB) (by have:=a.nk;omega));have cB:=Qh (fun(W:World) (hW:Qb w W)=>lq (h.below hW) hT (Nat.le_trans hB hW.size) (a.ir.below hW hB));obtain⟨gl,cl,hlv,hil,mo,Gl,_,hm⟩:=h.main ht;have HM:=Qh hm;have qO:=Qh (fun(W:World) (hW:Qb w W)=>rL t (Nat.le_trans hB hW.size) ((h.below hW).tabs t (List.mem_of_getElem? ht)) hl hnd (Nat.le_trans hB hW.size) (a.ik.below hW hB) a.nk);rw[eP]at qO;have nQ:=h.tabs t (List.mem_of_getElem? ht)
 generalize cK (bM t.hs) (bh t.rows) k=px at*;have tV:px<t.rows.length:=(List.getElem?_eq_some_iff.1 he).1;obtain⟨gv,Du,jL⟩:∃gv cv,t.vr=.slice (some ⟨gv,0,none⟩) t.rows.length cv:=by
  rcases nQ.rows.2 with⟨_,h0⟩|⟨g,cap,cur,e,_⟩
  ·omega
  ·exact⟨g,cap,e⟩
 obtain⟨g9,o9,e9,Rj,Np⟩:=lV (by have:=nQ.rows.row nQ.enc;rwa[jL]at this) tV;simp only[Option.some.injEq,Addr.mk.injEq,and_true]at e9;obtain⟨rfl,rfl⟩:=e9;have hee:t.rows[px]=e:=by rw[List.getElem?_eq_getElem tV]at he;exact Option.some.inj he
 rw[hee,Nat.zero_add]at Np;have PZ:=kI (a:=aE e.k.f e.uk) Np rfl;have Tn:=(nQ.gU e (List.mem_of_getElem? he)).2;obtain⟨pv,cv,Tp,_,_⟩:=Tn.shape;rw[Tp]at PZ ⊢;have HEv:=Qh (fun(W:World) (hW:Qb w W)=>dn PZ (hW.block gv Rj));have r5:(px:Int)<(t.rows.length:Int):=by omega
 clear eP he hee Np PZ Tn Tp nQ Rj;generalize e.v.items.length=nv at*;generalize e.v.f=fv at*;obtain⟨vk,vi,vg,vn,vf,va,vb,vz⟩:=fv;unfold aE at HEv;generalize hrl:t.rows.length=zS at*;obtain⟨pr,cr,e1,_,_⟩:=a.ir.shape;obtain⟨pk,ck,e2,_,_⟩:=a.ik.shape;rw[hk]at nL;rw[hr]at cB;unfold lm at cB;dsimp only at cB;rw[e1]at cB ⊢;rw[e2]at nL qO ⊢;unfold ku aE at HM qO;rw[hlv]at HM;clear h hT a hB e1 e2 hnd hr ht hlv hk hm hl;generalize T.length=nT at*;obtain⟨ko,kp,ur,uo,hs,vr,rows⟩:=t;dsimp only at*;subst jL;generalize ko.f=fe at*
 generalize kp.f=fo at*;obtain⟨ek,ei,eg,en,ef,ea,eb,ez⟩:=fe;obtain⟨ok,oi,og,on,of,oa,ob,oz⟩:=fo;generalize r.items.length=nr at*;generalize k.items.length=nk at*;generalize lJ:r.f=fr at*;generalize Gk:k.f=fk at*;obtain⟨rk,ri,rg,rn,rf,ra,rb,rz⟩:=fr;obtain⟨kk,ki,kg,kn,kf,ka,kb,kz⟩:=fk;unfold aj aV PA at*;dsimp only at*;simp only[List.cons_append,List.nil_append]at HM qO;have jY:(Tryz.prog.info? 53).map (·.size)=some 20:=by kernel_rfl
 have cE:(Tryz.prog.info? 24).map (·.size)=some 9:=by kernel_rfl
 obtain⟨hb0,_,cI,cS,kT⟩:=bV w (.cells (a9 rk ri rg rn rf ra (.slice pr nr cr) rb rz) 24) (.cells (a9 kk ki kg kn kf ka (.slice pk nk ck) kb kz) 24) cQ;have dM:=(Qg cI);have fA:=(Qg cS);have pO:=(Qg kT);go_enter Tryz.func58,Tryz.ntmps58;go_upto_region 1 with(fail);generalize(((w.alloc (.cells (a9 rk ri rg rn rf ra (.slice pr nr cr) rb rz) 24)).alloc (.cells (a9 kk ki kg kn kf ka (.slice pk nk ck) kb kz) 24)).alloc cQ)=W1 at*
 have HX:=Qh (fun W (hW:Qb W1 W)=>(And.intro (aq (x:=(l9 rk ri rg rn rf ra (.slice pr nr cr) rb rz)) ((hW.block _ dM).trans cI)) (And.intro (aq (x:=(l9 kk ki kg kn kf ka (.slice pk nk ck) kb kz)) ((hW.block _ fA).trans cS)) ((hW.block _ pO).trans kT))));have hb:=Below.refl W1.heap.size W1;have bu:=Qh hb0;have au:=hb0;clear cI cS kT dM fA pO hb0;have lO:=Qh (HX.out _ hb).2.1;go_wp2_with (first
  | (refine Ql lO.out ?_))
 refine(nL.out _ au).mono ?_;rintro e w2 ⟨rfl,aD⟩;replace hb:=hb.trans (aD.mono hb.size);replace au:=au.trans (aD.mono au.size);clear aD nL lO;have dw:=Qh (HX.out _ hb).1;go_wp2_with (first
  | (refine Ql dw.out ?_))
 refine(cB.out _ au).mono ?_;rintro e w4 ⟨rfl,aD⟩;replace hb:=hb.trans (aD.mono hb.size);replace au:=au.trans (aD.mono au.size);clear aD cB dw;have r1:(i:Int)<(nT:Int):=by omega
 have r2:¬((i:Int)<0):=by omega
 go_upto_region 6 with(fail);replace hb:=hb.trans ((aZ (Below.refl w4.heap.size w4)).mono hb.size);replace au:=au.trans ((aZ (Below.refl w4.heap.size w4)).mono au.size)
 refine wp_region_held_drew (S:=(fun w'=>w'.cell? ⟨y,0,none⟩=some (.slice (some ⟨gl,0,none⟩) nT cl)∧w'.rangeAt gl (i*20) (wH ek ei eg en ef ea ur eb ez ok oi og on of oa uo ob oz hs (.slice (some ⟨gv,0,none⟩) zS Du))∧w'.rangeAt (w.heap.size+1) 0 (l9 kk ki kg kn kf ka (.slice pk nk ck) kb kz))) (by kernel_rfl) ?_ (fun hHeld=>?_)
 ·exact⟨(HM.out _ au).2.1,(HM.out _ au).1,(HX.out _ hb).2.1⟩
 generalize w4.drew=wd at*;refine run_in [0,1,2,3,4,5,6,7] ?_;iterate 6 refine Qe ?_
 refine Qr rfl (yieldsIf_load_mid (by rfl) 53 (.tmp 28) rfl gl (i*20) rfl (wH ek ei eg en ef ea ur eb ez ok oi og on of oa uo ob oz hs (.slice (some ⟨gv,0,none⟩) zS Du)) _ (fun w hs=>hs.2.1) Tryz.underlying53 rfl jY) ?_;refine Qm (fun w hs=>hs.2.2) ?_;refine aI ?_;refine Qd 8 (fun K hK=>?_);go_simp;refine(qO.out _ au).mono ?_;rintro e w6 ⟨rfl,aD⟩;replace hb:=hb.trans (aD.mono hb.size);replace au:=au.trans (aD.mono au.size);clear aD;go_wp2_with fail;refine Qk hK (⟨(HM.out _ au).2.1,(HM.out _ au).1,(HX.out _ hb).2.1⟩) (fun hHeld=>?_);clear hK K
 refine run_in [9,10,11,12,13] ?_;iterate 5 refine Qe ?_
 refine aI ?_;refine wpAnyH_done (by kernel_rfl) ?_ _;have k0:=(HM.out _ au).2.1;have Ri:w6.cell? ⟨gl,i*20+19,none⟩=some (.slice (some ⟨gv,0,none⟩) zS Du):=(HM.out _ au).1 19 _ rfl;have iY:=Qh (HEv.out _ au);have Gn:((a9 vk vi vg vn vf va (.slice pv nv cv) vb vz):Array Value).all (·.oneCell')=true:=all_oneCell_toArray (aH (f:=⟨vk,vi,vg,vn,vf,va,vb,vz⟩) (u:=.slice pv nv cv) rfl);have cS:=(HX.out _ hb).2.2;have qh:=setRow_heap w6 (w.heap.size+2) _ (a9 vk vi vg vn vf va (.slice pv nv cv) vb vz) _ _ cS
 have dZ:=au.trans ((aB w6 (w.heap.size+2) (a9 vk vi vg vn vf va (.slice pv nv cv) vb vz)).below (fun q e=>by omega) au.size);have HZ:=Qh cS;have HF:=Qh (And.intro (run_loadVar_mid (P:=Tryz.prog) _ (w.heap.size+2) 0 24 (l9 vk vi vg vn vf va (.slice pv nv cv) vb vz) _ (aq qh) Tryz.underlying24 rfl cE) dZ);clear cS qh dZ;go_wp2_with (first
  | (refine Qs HZ.out Gn ?_)
  | (refine Ql iY.out ?_))
 (try simp only[Exit.inBlock,Exit.then])
 obtain⟨fA,fR⟩:=HF.out;refine bodyPost_ret (v:=.tuple #[.agg (a9 vk vi vg vn vf va (.slice pv nv cv) vb vz),.bool true,.int .i64 0]) ?_ rfl ⟨rfl,fR⟩;have hA:∀(a:Addr) (w:World),(asAddr (.pointer (some a))).run Tryz.prog w=.ok a w:=fun _ _=>rfl;rw[iG rfl];simp[hA,fA,Result.andThen]
end
theorem BI{ty e:TypeId}(hu:Tryz.prog.underlying ty=some (.slice e))(v:Value)(lo hi mx:Option Value)(w:World):(Instr.sliceAt ty v lo hi mx).run Tryz.prog w=(Instr.slice ty v lo hi mx).run Tryz.prog w:=by
 unfold Instr.sliceAt;rw[Sem.run_bind,run_underlying hu];rfl
theorem dD{ops:Array Oper}{S:World→Prop}{op:Oper}{a:Act}(hw:Region.wanted op (yielded ops a.tmps)=true){ty e:TypeId}(hu:Tryz.prog.underlying ty=some (.slice e))(x:Operand)(lo hi:Option Operand)(ho:op.op=.slice ty x lo hi none){v r:Value}{lv hv:Option Value}(hx:a.eval x=v)(hlo:lo.map a.eval=lv)(hhi:hi.map a.eval=hv)
 (hr:∀W,(Instr.slice ty v lv hv none).run Tryz.prog W=.ok r W):YieldsIf Tryz.prog ops S op r a :=
 .inl ⟨hw,fun w _=>by
  unfold execOp
  simp only[ho,hx,hlo,hhi,Option.map_none,Sem.run_bind,BI hu,hr w,Result.andThen_ok,Sem.run_pure]⟩
theorem cH{w:World}{ops:Array Oper}{o:Oper}{a:Act}{K:Act→World→Prop}{Q:Exit→Act→World→Prop}{E:Prop}(hw:Region.wanted o (yielded ops a.tmps)=true)(ty:TypeId)(x:Operand)
 (ho:o.op=.load ty x){p:Addr}{v:Value}(hx:a.eval x=.pointer (some p))(hr:(loadVar ty p).run Tryz.prog w=.ok v w)
 (hK:K (a.put o.dst v) w):if Region.wanted o (yielded ops a.tmps)=true then Oper.wp Tryz.prog o a w K Q else E:=by
 rw[if_pos hw];unfold Oper.wp execOp;simp only[ho,hx,Instr.loadAt,Instr.sureAddr,Sem.run_bind,Sem.run_pure,Result.andThen_ok,hr];exact hK
section
variable {N:Nat}{w w':World}{B y:Nat}{lv:Value}{T:List (g6 N)}{t:g6 N}{r k:Tm (N+1)}{fF uk:Value}
theorem DN(a:sS w B r k fF uk){er:Int}(hG0:∀W,Below w.heap.size w W→Calls Tryz.prog 58 #[.pointer (some ⟨y,0,none⟩),aj r.f fF,aj k.f uk] W fun e w'=>e=.returned (.tuple #[.agg #[.int .i64 0,.int .i64 0,.int .i64 0,.string ⟨#[]⟩,.string ⟨#[]⟩,.int .i64 0,.slice none 0 0,.string ⟨#[]⟩,.int .i64 0],.bool false,.int .i64 er])∧Below W.heap.size W w') :
 Calls Tryz.prog 23 #[.pointer (some ⟨y,0,none⟩),aj r.f fF,aj k.f uk] w fun e w'=>e=.returned (.tuple #[.bool false,.int .i64 er])∧Below w.heap.size w w':=by
 have HG:=Qh hG0;clear hG0;obtain⟨pr,cr,e1,_,_⟩:=a.ir.shape;obtain⟨pk,ck,e2,_,_⟩:=a.ik.shape;rw[e1]at HG ⊢;rw[e2]at HG ⊢;clear a e1 e2;generalize r.items.length=nr at*;generalize k.items.length=nk at*;generalize lJ:r.f=fr at*;generalize Gk:k.f=fk at*;obtain⟨rk,ri,rg,rn,rf,ra,rb,rz⟩:=fr;obtain⟨kk,ki,kg,kn,kf,ka,kb,kz⟩:=fk;unfold aj at*;dsimp only at*;obtain⟨hb0,cI,cS⟩:=bI w (.cells (a9 rk ri rg rn rf ra (.slice pr nr cr) rb rz) 24) (.cells (a9 kk ki kg kn kf ka (.slice pk nk ck) kb kz) 24);have dM:=(Qg cI);have fA:=(Qg cS)
 go_enter Tryz.func23,Tryz.ntmps23;go_upto_region 1 with(fail);generalize((w.alloc (.cells (a9 rk ri rg rn rf ra (.slice pr nr cr) rb rz) 24)).alloc (.cells (a9 kk ki kg kn kf ka (.slice pk nk ck) kb kz) 24))=W1 at*;have HX:=Qh (fun W (hW:Qb W1 W)=>(And.intro (aq (x:=(l9 rk ri rg rn rf ra (.slice pr nr cr) rb rz)) ((hW.block _ dM).trans cI)) (aq (x:=(l9 kk ki kg kn kf ka (.slice pk nk ck) kb kz)) ((hW.block _ fA).trans cS))));have hb:=Below.refl W1.heap.size W1;have au:=hb0;clear cI cS dM fA hb0;have lO:=Qh (HX.out _ hb);go_wp2_with (first
  | (refine Ql lO.out.1 ?_)
  | (refine Ql lO.out.2 ?_))
 refine(HG.out _ au).mono ?_;rintro e' w2 ⟨rfl,aD⟩;replace hb:=hb.trans (aD.mono hb.size);replace au:=au.trans (aD.mono au.size);clear aD HG lO;have hba:=aG (Below.refl w2.heap.size w2) cQ (Nat.le_refl _);have Bs:=Qh (aF w2 cQ);have xw:=hba.trans ((aB (w2.alloc cQ) w2.heap.size dG).below (fun q e=>Nat.le_of_eq e.symm) hba.size);replace hb:=hb.trans (xw.mono hb.size);replace au:=au.trans (xw.mono au.size);clear hba xw;go_upto_region 2 with(first
  | (refine Qs Bs.out fJ ?_))
 clear Bs;generalize(w2.alloc cQ).setRow w2.heap.size dG=w3 at*;go_wp2_with fail;go_ret2
 exact⟨rfl,au⟩
theorem P0(h:cY w B y lv T)(hT:T.length≤1000)(a:sS w B r k fF uk)(hk:aC k=true){i:Nat}(hr:jG T r=some i)(ht:T[i]?=some t)(hl:t.rows.length≤1000000)(hnd:∀r∈t.rows,ap r.k≤100000000)(eP:gp (bM t.hs) (bh t.rows) k=true) :
 Calls Tryz.prog 23 #[.pointer (some ⟨y,0,none⟩),aj r.f fF,aj k.f uk] w fun e w'=>e=.returned (.tuple #[.bool true,.int .i64 0])∧BB B y lv T i t (kG (bM t.hs) (bh t.rows) k) w w':=by
 have hB:=h.blt;obtain⟨gl,cl,hlv,hil,mo,Gl,_,hm⟩:=h.main ht;have HM:=Qh hm;have nQ:=h.tabs t (List.mem_of_getElem? ht);have cB:=Qh (fun(W:World) (hW:Qb w W)=>lq (h.below hW) hT (Nat.le_trans hB hW.size) (a.ir.below hW hB));have qO:=Qh (fun(W:World) (hW:Qb w W)=>rL t (Nat.le_trans hB hW.size) ((h.below hW).tabs t (List.mem_of_getElem? ht)) hl hnd (Nat.le_trans hB hW.size) (a.ik.below hW hB) a.nk);obtain⟨Tq,_⟩:=kQ eP;have Rh:(bh t.rows).length=t.rows.length:=by unfold bh;rw[List.length_map]
 rw[Rh]at Tq;have Tr:kG (bM t.hs) (bh t.rows) k=bh (([]++t.rows.take (cK (bM t.hs) (bh t.rows) k))++t.rows.drop (cK (bM t.hs) (bh t.rows) k+1)):=by
  unfold kG;rw[eP,if_pos rfl];unfold bh;simp only[List.nil_append,List.map_append,List.map_take,List.map_drop]
 have qx:=List.getElem?_eq_getElem Tq;have HG:=Qh (fun(W:World) (hW:Qb w W)=>DM (h.below hW) hT ⟨a.ir.below hW hB,a.ik.below hW hB,a.nk⟩ hk hr ht hl hnd eP qx);have Tn:=(nQ.gU _ (List.mem_of_getElem? qx)).2;obtain⟨pv,cv,Tp,_,_⟩:=Tn.shape;rw[Tp]at HG;rw[eP]at qO;generalize cK (bM t.hs) (bh t.rows) k=px at*;generalize hrl:(t.rows[px]).v=vt at*;clear qx Tn Tp hrl;generalize vt.items.length=nv at*;generalize vt.f=fv at*;obtain⟨vk,vi,vg,vn,vf,va,vb,vz⟩:=fv;have hE:=nQ.enc
 have o5:=Qh (fun(W:World) (hW:Qb w W) (v':Value) (fB:List (qI N)) (ho:aA vR 55 18 W w.heap.size v' fB) (he:fB=([]++t.rows.take px)++t.rows.drop (px+1))=>(show BB B y lv T i t (kG (bM t.hs) (bh t.rows) k) w (W.setCell ⟨gl,i*20+19,none⟩ v') from by
  obtain⟨q1,q2⟩:=cY.Nf h hlv ht hW ho (fun r hr=>by
   rw[he,List.nil_append]at hr
   have ho:∀r∈t.rows,ah W B N r.uk r.k.items∧ah W B N r.uv r.v.items:=fun r hr=>⟨(nQ.gU r hr).1.below hW hB,(nQ.gU r hr).2.below hW hB⟩
   rcases List.mem_append.1 hr with hr|hr
   ·exact ho r (List.mem_of_mem_take hr)
   ·exact ho r (List.mem_of_mem_drop hr))
  exact⟨v',fB,by rw[he];exact Tr.symm,q1,q2⟩))
 have o6:=Qh (fun(j:Nat) (hj:j≤t.rows.length) (W:World) (hW:Qb w W)=>yl hE ((h.below hW).tabs t (List.mem_of_getElem? ht)).rows hj);have jZ:=Qh (fun(j:Nat) (hj:j≤t.rows.length) (W:World) (hW:Qb w W)=>vS hE ((h.below hW).tabs t (List.mem_of_getElem? ht)).rows hj);have vU:=Qh (fun(q:Nat) (hq:t.vr.ownBlock=some q)=>(nQ.rows.lt hq).2);have L6:=Qh (fun(j:Nat)=>(hE.sub (fun x hx=>List.mem_of_mem_take hx):bD vR 18 (t.rows.take j)));have L7:=Qh (fun(j:Nat)=>(hE.sub (fun x hx=>List.mem_of_mem_drop hx):bD vR 18 (t.rows.drop j)))
 generalize kG (bM t.hs) (bh t.rows) k=PR at*;generalize Nl:BB B y lv T i t PR w=PV at*;obtain⟨pr,cr,e1,_,_⟩:=a.ir.shape;obtain⟨pk,ck,e2,_,_⟩:=a.ik.shape;rw[hr]at cB;unfold lm at cB;dsimp only at cB;rw[e1]at cB HG ⊢;rw[e2]at qO HG ⊢;unfold ku aE at HM qO;rw[hlv]at HM;clear h hT a hB e1 e2 hnd hr ht hlv hk hm nQ hE Rh Tr eP Nl;generalize T.length=nT at*;obtain⟨ko,kp,ur,uo,hs,vr,rows⟩:=t;dsimp only at*;generalize ko.f=fe at*;generalize kp.f=fo at*;obtain⟨ek,ei,eg,en,ef,ea,eb,ez⟩:=fe;obtain⟨ok,oi,og,on,of,oa,ob,oz⟩:=fo
 generalize r.items.length=nr at*;generalize k.items.length=nk at*;generalize lJ:r.f=fr at*;generalize Gk:k.f=fk at*;obtain⟨rk,ri,rg,rn,rf,ra,rb,rz⟩:=fr;obtain⟨kk,ki,kg,kn,kf,ka,kb,kz⟩:=fk;unfold aj PA at*;dsimp only at*;simp only[List.cons_append,List.nil_append]at HM qO;have jY:(Tryz.prog.info? 53).map (·.size)=some 20:=by kernel_rfl
 have Gn:((a9 vk vi vg vn vf va (.slice pv nv cv) vb vz):Array Value).all (·.oneCell')=true:=all_oneCell_toArray (aH (f:=⟨vk,vi,vg,vn,vf,va,vb,vz⟩) (u:=.slice pv nv cv) rfl);obtain⟨hb0,cI,cS⟩:=bI w (.cells (a9 rk ri rg rn rf ra (.slice pr nr cr) rb rz) 24) (.cells (a9 kk ki kg kn kf ka (.slice pk nk ck) kb kz) 24);have dM:=(Qg cI);have fA:=(Qg cS);go_enter Tryz.func23,Tryz.ntmps23;go_upto_region 1 with(fail);generalize((w.alloc (.cells (a9 rk ri rg rn rf ra (.slice pr nr cr) rb rz) 24)).alloc (.cells (a9 kk ki kg kn kf ka (.slice pk nk ck) kb kz) 24))=W1 at*
 have HX:=Qh (fun W (hW:Qb W1 W)=>(And.intro (aq (x:=(l9 rk ri rg rn rf ra (.slice pr nr cr) rb rz)) ((hW.block _ dM).trans cI)) (aq (x:=(l9 kk ki kg kn kf ka (.slice pk nk ck) kb kz)) ((hW.block _ fA).trans cS))));have hb:=Below.refl W1.heap.size W1;have au:=hb0;clear cI cS dM fA hb0;have lO:=Qh (HX.out _ hb);go_wp2_with (first
  | (refine Ql lO.out.1 ?_)
  | (refine Ql lO.out.2 ?_))
 refine(HG.out _ au).mono ?_;rintro e' w2 ⟨rfl,aD⟩;replace hb:=hb.trans (aD.mono hb.size);replace au:=au.trans (aD.mono au.size);clear aD HG lO;have hba:=aG (Below.refl w2.heap.size w2) cQ (Nat.le_refl _);have Bs:=Qh (aF w2 cQ);have xw:=hba.trans ((aB (w2.alloc cQ) w2.heap.size (a9 vk vi vg vn vf va (.slice pv nv cv) vb vz)).below (fun q e=>Nat.le_of_eq e.symm) hba.size);replace hb:=hb.trans (xw.mono hb.size);replace au:=au.trans (xw.mono au.size);clear hba xw;go_upto_region 2 with(first
  | (refine Qs Bs.out Gn ?_))
 clear Bs;generalize(w2.alloc cQ).setRow w2.heap.size (a9 vk vi vg vn vf va (.slice pv nv cv) vb vz)=w3 at*;have dw:=Qh (HX.out _ hb).1;go_wp2_with (first
  | (refine Ql dw.out ?_))
 refine(cB.out _ au).mono ?_;rintro e' w4 ⟨rfl,aD⟩;replace hb:=hb.trans (aD.mono hb.size);replace au:=au.trans (aD.mono au.size);clear aD cB dw;have r1:(i:Int)<(nT:Int):=by omega
 have r2:¬((i:Int)<0):=by omega
 go_upto_region 4 with(fail);replace hb:=hb.trans ((aZ (Below.refl w4.heap.size w4)).mono hb.size);replace au:=au.trans ((aZ (Below.refl w4.heap.size w4)).mono au.size)
 refine wp_region_held_drew (S:=(fun w'=>w'.cell? ⟨y,0,none⟩=some (.slice (some ⟨gl,0,none⟩) nT cl)∧w'.rangeAt gl (i*20) (wH ek ei eg en ef ea ur eb ez ok oi og on of oa uo ob oz hs vr)∧w'.rangeAt (w.heap.size+1) 0 (l9 kk ki kg kn kf ka (.slice pk nk ck) kb kz))) (by kernel_rfl) ?_ (fun hHeld=>?_)
 ·exact⟨(HM.out _ au).2.1,(HM.out _ au).1,(HX.out _ hb).2⟩
 generalize w4.drew=wd at*;refine run_in [0,1,2,3,4,5,6,7] ?_;iterate 6 refine Qe ?_
 refine Qr rfl (yieldsIf_load_mid (by rfl) 53 (.tmp 32) rfl gl (i*20) rfl (wH ek ei eg en ef ea ur eb ez ok oi og on of oa uo ob oz hs vr) _ (fun w hs=>hs.2.1) Tryz.underlying53 rfl jY) ?_;refine Qm (fun w hs=>hs.2.2) ?_;refine aI ?_;refine Qd 8 (fun K hK=>?_);go_simp;refine(qO.out _ au).mono ?_;rintro e' w6 ⟨rfl,aD⟩;replace hb:=hb.trans (aD.mono hb.size);replace au:=au.trans (aD.mono au.size);clear aD;go_wp2_with fail;refine Qk hK (⟨(HM.out _ au).2.1,(HM.out _ au).1,(HX.out _ hb).2⟩) (fun hHeld=>?_);clear hK K;refine run_in [9,10,11,12,13] ?_;iterate 5 refine Qe ?_
 refine aI ?_;refine wpAnyH_done (by kernel_rfl) ?_ _;have ZB:IntKind.i64.wrap ((px:Int)+1)=(px:Int)+1:=IntWalk.i64_in _ (by omega);go_upto_region 5 with(fail);replace au:=au.trans ((aZ (Below.refl w6.heap.size w6)).mono au.size);clear hb;obtain⟨p1,c1,j5,rp,xd,_⟩:=o6.out (px+1) (by omega) w6.drew au;rw[show((px+1:Nat):Int)=(px:Int)+1 from by omega]at j5;obtain⟨RV,yj⟩:∃x,x=Value.slice p1 (rows.length-(px+1)) c1:=⟨_,rfl⟩;rw[←yj]at rp xd j5;obtain⟨p3,c3,mO,xe,DC⟩:=jZ.out px (by omega) w6.drew au
 obtain⟨RH,L_⟩:∃x,x=Value.slice p3 px c3:=⟨_,rfl⟩;rw[←L_]at xe DC mO;obtain⟨v1,W7,mj,sR⟩:=dI BA (aA.nil 55 w6.drew w6.drew.heap.size) (Nat.le_refl _) 49 xe (L6.out px) (by simp;omega);have j7:Below w6.drew.heap.size w6.drew W7:=sR.bL (Below.refl _ _) (Nat.le_refl _) (fun q hq=>by have h0:(Value.slice none 0 0).ownBlock=some q:=hq;simp[Value.ownBlock]at h0);have vX:=rp.block (w':=W7) (fun q hq=>j7.block q (by have:=vU.out q (xd q hq);have:=au.size;omega))
 obtain⟨v2,W8,uz,uf⟩:=dI BA sR.own j7.size 49 vX (L7.out (px+1)) (by simp;omega);have qp:Below w6.drew.heap.size w6.drew W8:=uf.bL j7 j7.size (fun q hq=>(sR.own.lt hq).1);have Jn:=au.trans (j7.mono au.size);have mP:=au.trans (qp.mono au.size);have Fk:v2.oneCell'=true:=by obtain⟨p,c,e,_,_⟩:=uf.own.shape;rw[e];rfl
 have hP:=o5.out W8 mP v2 _ (uf.own.base (base':=w.heap.size) (fun q hq=>by have h1:=(uf.own.lt hq).1;have h2:=au.size;omega)) rfl;have k9:=(HM.out _ au).2.1;have pT:=(HM.out _ mP).2.1;have k7:=(HM.out _ Jn).2.1;have l9:w6.drew.cell? ⟨gl,i*20+19,none⟩=some vr:=(HM.out _ au).1 19 _ rfl;have l7:W7.cell? ⟨gl,i*20+19,none⟩=some vr:=(HM.out _ Jn).1 19 _ rfl;have l8:W8.cell? ⟨gl,i*20+19,none⟩=some vr:=(HM.out _ mP).1 19 _ rfl;have f8:=(HM.out _ mP).2.2 (i*20+19)
 have yp:(W8.setCell ⟨gl,i*20+19,none⟩ v2).cell? ⟨y,0,none⟩=some (.slice (some ⟨gl,0,none⟩) nT cl):=(World.cell?_of_block (w:=W8) (a:=⟨y,0,none⟩) (Below.heap_setCell _ _ _ _ Gl)).trans pT;have hst:=PI W8 ⟨gl,i*20+19,none⟩ vr v2 Fk l8 f8;have HP:=Qh hP;clear hP;clear rp xe xd DC sR uf j7 qp vX o6 jZ o5 HM
 refine wp_region_held_drew (S:=(fun w'=>w'.cell? ⟨y,0,none⟩=some (.slice (some ⟨gl,0,none⟩) nT cl))) (by kernel_rfl) ?_ (fun hHeld=>?_)
 ·exact k9
 generalize w6.drew=we at*;refine run_in [0,1,2,3,4,5,6,7,8,9,10,11,13,16,17,18,19,20,21,22,24,25] ?_;iterate 3 refine Qe ?_
 refine Qc oZ (fun w hs=>hs) ?_;iterate 4 refine Qe ?_
 refine Qc oZ (fun w hs=>hs) ?_;iterate 7 refine Qe ?_
 refine Qc oZ (fun w hs=>hs) ?_;iterate 5 refine Qe ?_
 refine aI ?_;refine wpAnyH_ready (rs:=[12,23]) (by kernel_rfl) (by simp) ?_
 refine(ia rfl (fun K hK=>?_) (ia rfl (fun K hK=>?_) AllReadyH.nil))
 ·refine cH (by rfl) 49 (.tmp 49) rfl (p:=⟨gl,i*20+19,none⟩) (v:=vr) rfl (sQ _ _ _ ?_) ?_
  ·first|exact l9|exact l7
  refine hK.out _ _ ?_ (fun hHeld=>?_)
  ·first|exact yp|exact pT|exact k7|exact k9
  clear hK K;(try simp only[Act.put,pA,pB,pC])
  refine run_in [14] ?_;refine Qr rfl (dD (by rfl) Tryz.underlying49 (.tmp 50) none (some (.tmp 51)) rfl rfl rfl rfl mO) ?_;refine aI ?_;refine wpAnyH_ready (rs:=[15,23]) (by kernel_rfl) (by simp) ?_
  refine(ia rfl (fun K hK=>?_) (ia rfl (fun K hK=>?_) AllReadyH.nil))
  ·refine bA (t:=49) (t':=49) (w':=W7) (v:=v1) rfl (.const (.slice none 0 0)) (.tmp 52) rfl rfl rfl ?_ ?_
   ·exact mj
   refine hK.out _ _ ?_ (fun hHeld=>?_)
   ·first|exact yp|exact pT|exact k7|exact k9
   clear hK K;(try simp only[Act.put,pA,pB,pC])
   refine Qd 23 (fun K hK=>?_)
   refine cH (by rfl) 49 (.tmp 60) rfl (p:=⟨gl,i*20+19,none⟩) (v:=vr) rfl (sQ _ _ _ ?_) ?_
   ·first|exact l9|exact l7
   refine hK.out _ _ ?_ (fun hHeld=>?_)
   ·first|exact yp|exact pT|exact k7|exact k9
   clear hK K;(try simp only[Act.put,pA,pB,pC])
   refine run_in [26] ?_;refine Qr rfl (dD (by rfl) Tryz.underlying49 (.tmp 61) (some (.tmp 63)) none rfl rfl rfl rfl j5) ?_;refine aI ?_;refine Qd 27 (fun K hK=>?_)
   refine bA (t:=49) (t':=49) (w':=W8) (v:=v2) rfl (.tmp 53) (.tmp 64) rfl rfl rfl ?_ ?_
   ·exact uz
   refine hK.out _ _ ?_ (fun hHeld=>?_)
   ·first|exact yp|exact pT|exact k7|exact k9
   clear hK K;(try simp only[Act.put,pA,pB,pC])
   refine run_in [28,29] ?_;iterate 2 refine Qe ?_
   refine aI ?_;refine Qd 30 (fun K hK=>?_);refine aR (by rfl) 49 (.tmp 67) (.tmp 65) rfl (p:=⟨gl,i*20+19,none⟩) (v:=v2) rfl rfl hst ?_
   refine hK.out _ _ ?_ (fun hHeld=>?_)
   ·first|exact yp|exact pT|exact k7|exact k9
   clear hK K;(try simp only[Act.put,pA,pB,pC])
   refine wpAnyH_done (by kernel_rfl) ?_ _;go_wp2_with fail;go_ret2
   exact⟨rfl,HP.out⟩
  ·refine cH (by rfl) 49 (.tmp 60) rfl (p:=⟨gl,i*20+19,none⟩) (v:=vr) rfl (sQ _ _ _ ?_) ?_
   ·first|exact l9|exact l7
   refine hK.out _ _ ?_ (fun hHeld=>?_)
   ·first|exact yp|exact pT|exact k7|exact k9
   clear hK K;(try simp only[Act.put,pA,pB,pC])
   refine run_in [26] ?_;refine Qr rfl (dD (by rfl) Tryz.underlying49 (.tmp 61) (some (.tmp 63)) none rfl rfl rfl rfl j5) ?_;refine aI ?_;refine Qd 15 (fun K hK=>?_)
   refine bA (t:=49) (t':=49) (w':=W7) (v:=v1) rfl (.const (.slice none 0 0)) (.tmp 52) rfl rfl rfl ?_ ?_
   ·exact mj
   refine hK.out _ _ ?_ (fun hHeld=>?_)
   ·first|exact yp|exact pT|exact k7|exact k9
   clear hK K;(try simp only[Act.put,pA,pB,pC])
   refine Qd 27 (fun K hK=>?_)
   refine bA (t:=49) (t':=49) (w':=W8) (v:=v2) rfl (.tmp 53) (.tmp 64) rfl rfl rfl ?_ ?_
   ·exact uz
   refine hK.out _ _ ?_ (fun hHeld=>?_)
   ·first|exact yp|exact pT|exact k7|exact k9
   clear hK K;(try simp only[Act.put,pA,pB,pC])
   refine run_in [28,29] ?_;iterate 2 refine Qe ?_
   refine aI ?_;refine Qd 30 (fun K hK=>?_);refine aR (by rfl) 49 (.tmp 67) (.tmp 65) rfl (p:=⟨gl,i*20+19,none⟩) (v:=v2) rfl rfl hst ?_
   refine hK.out _ _ ?_ (fun hHeld=>?_)
   ·first|exact yp|exact pT|exact k7|exact k9
   clear hK K;(try simp only[Act.put,pA,pB,pC])
   refine wpAnyH_done (by kernel_rfl) ?_ _;go_wp2_with fail;go_ret2
   exact⟨rfl,HP.out⟩
 ·refine cH (by rfl) 49 (.tmp 60) rfl (p:=⟨gl,i*20+19,none⟩) (v:=vr) rfl (sQ _ _ _ ?_) ?_
  ·first|exact l9|exact l7
  refine hK.out _ _ ?_ (fun hHeld=>?_)
  ·first|exact yp|exact pT|exact k7|exact k9
  clear hK K;(try simp only[Act.put,pA,pB,pC])
  refine run_in [26] ?_;refine Qr rfl (dD (by rfl) Tryz.underlying49 (.tmp 61) (some (.tmp 63)) none rfl rfl rfl rfl j5) ?_;refine aI ?_;refine Qd 12 (fun K hK=>?_)
  refine cH (by rfl) 49 (.tmp 49) rfl (p:=⟨gl,i*20+19,none⟩) (v:=vr) rfl (sQ _ _ _ ?_) ?_
  ·first|exact l9|exact l7
  refine hK.out _ _ ?_ (fun hHeld=>?_)
  ·first|exact yp|exact pT|exact k7|exact k9
  clear hK K;(try simp only[Act.put,pA,pB,pC])
  refine run_in [14] ?_;refine Qr rfl (dD (by rfl) Tryz.underlying49 (.tmp 50) none (some (.tmp 51)) rfl rfl rfl rfl mO) ?_;refine aI ?_;refine Qd 15 (fun K hK=>?_)
  refine bA (t:=49) (t':=49) (w':=W7) (v:=v1) rfl (.const (.slice none 0 0)) (.tmp 52) rfl rfl rfl ?_ ?_
  ·exact mj
  refine hK.out _ _ ?_ (fun hHeld=>?_)
  ·first|exact yp|exact pT|exact k7|exact k9
  clear hK K;(try simp only[Act.put,pA,pB,pC])
  refine Qd 27 (fun K hK=>?_)
  refine bA (t:=49) (t':=49) (w':=W8) (v:=v2) rfl (.tmp 53) (.tmp 64) rfl rfl rfl ?_ ?_
  ·exact uz
  refine hK.out _ _ ?_ (fun hHeld=>?_)
  ·first|exact yp|exact pT|exact k7|exact k9
  clear hK K;(try simp only[Act.put,pA,pB,pC])
  refine run_in [28,29] ?_;iterate 2 refine Qe ?_
  refine aI ?_;refine Qd 30 (fun K hK=>?_);refine aR (by rfl) 49 (.tmp 67) (.tmp 65) rfl (p:=⟨gl,i*20+19,none⟩) (v:=v2) rfl rfl hst ?_
  refine hK.out _ _ ?_ (fun hHeld=>?_)
  ·first|exact yp|exact pT|exact k7|exact k9
  clear hK K;(try simp only[Act.put,pA,pB,pC])
  refine wpAnyH_done (by kernel_rfl) ?_ _;go_wp2_with fail;go_ret2
  exact⟨rfl,HP.out⟩
end
end tb
namespace tm
open Go.RowKit mem names
theorem DP:∀(n:Nat) (l:List (Tm n)) (m:Int),0≤cJ n l m→(aP n l:Int)≤m-cJ n l m:=by
 intro n
 induction n with
 | zero=>intro l m h;rw[Tm.js l]at*;simp[aP,cJ]
 | succ n ih =>
  intro l
  induction l with
  | nil=>intro m h;simp[aP,cJ]
  | cons t l ihl =>
   intro m h;rw[jT];have e:cJ (n+1) (t::l) m=cJ (n+1) l (dQ (cJ n) m t):=rfl;rw[e]at h ⊢
   by_cases h0:dQ (cJ n) m t<0
   ·have:=Ai (cJ n) _ h0 l;have e2:cJ (n+1) l (dQ (cJ n) m t)=dQ (cJ n) m t:=this;rw[e2]at h;omega
   ·have k1:=ihl _ h;have k2:(ap t:Int)≤m-dQ (cJ n) m t:=by
     unfold dQ at h0 ⊢
     by_cases hm:m<0
     ·rw[if_pos hm]at h0;omega
     ·rw[if_neg hm]at h0 ⊢
      by_cases hb:nN t.f m
      ·rw[if_pos hb]at h0;omega
      ·rw[if_neg hb]at h0 ⊢;have k3:=ih t.items (qQ t.f m) (by omega);have k4:=qR t.f m (by omega) hb;unfold ap;omega
    omega
theorem tK{n:Nat}{l:List (Tm n)}{m:Int}(h:si n l m=false):(aP n l:Int)≤m:=by
 unfold si at h;have h':=of_decide_eq_false h;have:=DP n l m (by omega);omega
def rM(W:World)(B n:Nat)(v0 v:Value)(l:List (Tm n)):Prop:=∃F:Nat→Prop,(∀g,F g→g<W.heap.size)∧fT W B F n v0 v l∧B≤W.heap.size
theorem rM.below{W W':World}{B n:Nat}{v0 v:Value}{l:List (Tm n)}(h:rM W B n v0 v l)(hb:Below W.heap.size W W'):rM W' B n v0 v l:=by
 obtain⟨F,h1,h2,h3⟩:=h;exact⟨F,fun g hg=>Nat.lt_of_lt_of_le (h1 g hg) hb.size,h2.mono (fun g hg=>hb.block g (h1 g hg)) (fun g hg=>hb.block g (by omega)) (fun _ h=>h),Nat.le_trans h3 hb.size⟩
theorem rM.of{w w':World}{B:Nat}{F:Nat→Prop}{n:Nat}{v0 v:Value}{l:List (Tm n)}(h:uG w w' B F n v0 v l)(hB:B≤w.heap.size):rM w' B n v0 v l :=
 ⟨F,fun g hg=>(h.inr g hg).2,h.items,Nat.le_trans hB h.below.size⟩
theorem rM.kept{W:World}{B n:Nat}{v0 v:Value}{t:Tm (n+1)}(h:rM W B n v0 v t.items):Calls Tryz.prog 14 #[aj t.f v,aj t.f v0] W (aV true W):=by
 obtain⟨F,h1,h2,h3⟩:=h;exact L9 n W B F v0 v t h3 h1 h2
theorem rM.items{W:World}{B n:Nat}{v0 v:Value}{l:List (Tm n)}(h:rM W B n v0 v l):ah W W.heap.size n v l:=by
 obtain⟨F,h1,h2,h3⟩:=h;exact h2.KF.pR h1
end tm
namespace tb
open Go.RowKit mem rec tm names
def jq{n:Nat}(l:List (qD n)):List (Tm (n+1)×Value):=l.flatMap (fun e=>[(e.a,e.ua),(e.b,e.ub),(e.r,e.ur)])
theorem DR{n:Nat}{l:List (qD n)}{i:Nat}{e:qD n}(h:l[i]?=some e):jq (l.take (i+1))=jq (l.take i)++[(e.a,e.ua),(e.b,e.ub),(e.r,e.ur)]:=by
 unfold jq;rw[List.take_add_one,h,List.flatMap_append];simp
theorem Gp{n:Nat}(l:List (qD n)):(jq l).length=3*l.length:=by
 induction l with
 | nil=>rfl
 | cons e l ih =>
  have:jq (e::l)=[(e.a,e.ua),(e.b,e.ub),(e.r,e.ur)]++jq l:=rfl;rw[this,List.length_append,ih,List.length_cons];simp;omega
theorem Jo{n:Nat}{W:World}{B:Nat}{l:List (qD n)}(h:∀e∈l,nC W B e):∀r∈jq l,F4 W B r:=fun r hr=>by
 obtain⟨e,he,hm⟩:=List.mem_flatMap.1 hr;obtain⟨h1,h2,h3⟩:=h e he;simp only[List.mem_cons,List.mem_nil_iff,or_false]at hm
 rcases hm with rfl|rfl|rfl
 ·exact h1
 ·exact h2
 ·exact h3
theorem BJ{n:Nat}{l:List (qD n)}(h:si (n+1) ((jq l).map (·.1)) 8000=false):aP (n+1) ((jq l).map (·.1))≤8000∧∀e∈l,(ap e.a:Int)≤8000∧(ap e.b:Int)≤8000∧(ap e.r:Int)≤8000:=by
 have key:∀r∈jq l,(ap r.1:Int)≤8000:=fun r hr=>by
  obtain⟨k,hk,e⟩:=List.getElem_of_mem (List.mem_map_of_mem (f:=(·.1)) hr);have h1:=iK hk;have h2:=tK h;rw[e]at h1;omega
 refine⟨by have:=tK h;omega,fun e he=>?_⟩;have hm:∀r∈[(e.a,e.ua),(e.b,e.ub),(e.r,e.ur)],r∈jq l:=fun r hr=>List.mem_flatMap.2 ⟨e,he,hr⟩;exact⟨key _ (hm (e.a,e.ua) (by simp)),key _ (hm (e.b,e.ub) (by simp)),key _ (hm (e.r,e.ur) (by simp))⟩
def GaO{n:Nat}(l:List (qD n))(W:World)(m:Nat)(tv iv:Value)(wr:World):Prop:=∃i:Nat,iv=.int .i64 (i:Int)∧i≤l.length∧m=l.length-i∧aA tE 24 9 wr W.heap.size tv (jq (l.take i))∧Below W.heap.size W wr
def Jp{n:Nat}(l:List (qD n)):Prop:=l.length≤200∧aP (n+1) ((jq l).map (·.1))≤8000∧∀e∈l,(ap e.a:Int)≤8000∧(ap e.b:Int)≤8000∧(ap e.r:Int)≤8000
def GrP{n:Nat}(l:List (qD n))(w:World)(e:Ending)(w':World):Prop:=∃b,e=.returned (.bool b)∧(b=false→Jp l)∧Below w.heap.size w w'
theorem BK{α:Type}{enc:α→List Value}{s:Nat}{w:World}{B g o n c:Nat}{l:List α}(h:bq enc s w B (.slice (some ⟨g,o,none⟩) n c) l){i:Nat}{a:α}(ha:l[i]?=some a):w.rangeAt g (o+i*s) (enc a):=by
 obtain⟨g',o',e,_,_,hc⟩:=h.nth (by have:=(List.getElem?_eq_some_iff.1 ha).1;omega);simp only[Option.some.injEq,Addr.mk.injEq,and_true]at e;obtain⟨rfl,rfl⟩:=e;exact fun j u hu=>by
  have:=hc i a ha j u hu;rwa[←Nat.add_assoc]at this
theorem BL{n:Nat}{w:World}{g o:Nat}{e:qD n}(h:w.rangeAt g o (jM e)):w.cell? ⟨g,o,none⟩=some (.int .i64 e.kind)∧w.rangeAt g (o+1) (aE e.a.f e.ua)∧w.rangeAt g (o+10) (aE e.b.f e.ub)∧w.rangeAt g (o+19) (aE e.r.f e.ur)∧w.cell? ⟨g,o+28,none⟩=some (.bool e.hs):=by
 have e1:jM e=[.int .i64 e.kind]++(aE e.a.f e.ua++(aE e.b.f e.ub++(aE e.r.f e.ur++[.bool e.hs]))):=by unfold jM;simp
 rw[e1]at h;have h1:=kI h (n:=1) rfl;have h2:=kI h1 (n:=9) rfl;have h3:=kI h2 (n:=9) rfl;have h4:=kI h3 (n:=9) rfl;rw[show o+1+9=o+10 by omega]at h2 h3 h4;rw[show o+10+9=o+19 by omega]at h3 h4;rw[show o+19+9=o+28 by omega]at h4;exact⟨h 0 _ rfl,jn h1,jn h2,jn h3,h4 0 _ rfl⟩
theorem Ma{n:Nat}(w1:World){B:Nat}(hB:B≤w1.heap.size)(v:Value)(l:List (qD n))(hr:bq jM 29 w1 B v l)(hin:∀e∈l,nC w1 B e)(hsz:l.length*352≤140737488355328):Calls Tryz.prog 15 #[v,.int .i64 8000] w1 (GrP l w1):=by
 obtain⟨pv,cv,rfl,_,_⟩:=hr.shape;have HR:=Qh (fun w' (h:Qb w1 w')=>hr.below h hB);have AY:=Qh hin;have hlb:l.length≤1000000000000:=by omega
 have S9:=Qh hsz;have Ts:=Qh hB;clear hr hin hsz hB;have iL:Hid (GaO l w1 l.length (.slice none 0 0) (.int .i64 0) w1):=Qh ⟨0,rfl,Nat.zero_le _,rfl,aA.nil _ _ _,Below.refl _ _⟩;go_enter Tryz.func15,Tryz.ntmps15;go_wp2_with fail;go_loopg [5,6] l.length (fun m tv iv wr=>Hid (GaO l w1 m tv iv wr))
 case atStart=>exact iL
 case round=>
  obtain⟨i,rfl,hi,hn,hown,au⟩:=hrel.out;clear hrel iL
  by_cases hlt:i<l.length
  ·have r1:(i:Int)<(l.length:Int):=by omega
   have qx:=List.getElem?_eq_getElem hlt;obtain⟨g,o,e1,hn0,hg,_⟩:=(HR.out _ au).nth (by omega);subst e1;have hR:=BK (HR.out _ (Below.refl _ _)) qx;have hme:=AY.out _ (List.getElem_mem hlt);have AI:=Qh (DR qx);have HG3:Hid ((jq (l.take i)).length=3*i):=Qh (by rw[Gp,List.length_take];omega);generalize l[i]=e at*;obtain⟨BM,ta,tb,tc,zW,ua,ub,uc⟩:=e;have HOk:Hid (∀r∈[(ta,ua),(tb,ub),(tc,uc)],F4 w1 B r):=Qh (fun r hr=>by
    obtain⟨h1,h2,h3⟩:=hme
    simp only[List.mem_cons,List.mem_nil_iff,or_false]at hr
    rcases hr with rfl|rfl|rfl
    ·exact h1
    ·exact h2
    ·exact h3)
   obtain⟨m1,m2,m3⟩:=hme;obtain⟨pa,ca,ea,_,_⟩:=m1.shape;obtain⟨pb,cb,eb,_,_⟩:=m2.shape;obtain⟨pc,cc,ec,_,_⟩:=m3.shape;dsimp only at ea eb ec;subst ea;subst eb;subst ec;obtain⟨_,Tt,Tu,Tv,_⟩:=BL hR;dsimp only at Tt Tu Tv AI;have hE:bD tE 9 [(ta,Value.slice pa ta.items.length ca),(tb,.slice pb tb.items.length cb),(tc,.slice pc tc.items.length cc)]:=fun r hr=>⟨qC r,Dg (HOk.out r hr)⟩;have HE:=Qh hE;have HN:=Qh hn;obtain⟨G3,UU⟩:∃x,x=[(ta,Value.slice pa ta.items.length ca),(tb,.slice pb tb.items.length cb),(tc,.slice pc tc.items.length cc)]:=⟨_,rfl⟩
   have hfl:(G3.flatMap tE)=aE ta.f (.slice pa ta.items.length ca)++(aE tb.f (.slice pb tb.items.length cb)++aE tc.f (.slice pc tc.items.length cc)):=by rw[UU];simp[tE]
   have XK:G3.length=3:=by rw[UU];rfl
   rw[←UU]at AI HE;clear hR qx m1 m2 m3 hE UU HOk hn hn0;generalize ta.items.length=na at*;generalize tb.items.length=nb at*;generalize tc.items.length=nc at*;generalize ta.f=fa at*;generalize tb.f=fb at*;generalize tc.f=fc at*;obtain⟨xk,xi,xg,xn,xf,xa,xb,xz⟩:=fa;obtain⟨yk,yi,yg,yn,yf,ya,yb,yz⟩:=fb;obtain⟨zk,zi,zg,zn,zf,za,zb,zz⟩:=fc;unfold aE at Tt Tu Tv hfl;dsimp only at Tt Tu Tv;have Tw:=Qh (fun W (hW:Qb w1 W)=>dn Tt (hW.block g (by have:=Ts.out;omega)));have Tx:=Qh (fun W (hW:Qb w1 W)=>dn Tu (hW.block g (by have:=Ts.out;omega)))
   have Ty:=Qh (fun W (hW:Qb w1 W)=>dn Tv (hW.block g (by have:=Ts.out;omega)));have fG:=Qh (fun(W:World)=>(show bq tE 9 (W.alloc (.cells #[.int .i64 xk,.int .i64 xi,.int .i64 xg,.string xn,.string xf,.int .i64 xa,.slice pa na ca,.string xb,.int .i64 xz,.int .i64 yk,.int .i64 yi,.int .i64 yg,.string yn,.string yf,.int .i64 ya,.slice pb nb cb,.string yb,.int .i64 yz,.int .i64 zk,.int .i64 zi,.int .i64 zg,.string zn,.string zf,.int .i64 za,.slice pc nc cc,.string zb,.int .i64 zz] 24)) (W.heap.size+1) (.slice (some ⟨W.heap.size,0,none⟩) 3 3) G3 from by
    have h1:=aF W (.cells (G3.flatMap tE).toArray 24)
    have h2:=bq.fresh (c:=3) HE.out (by decide) h1 (by rw[XK];exact Nat.le_refl _) (by decide)
    rw[hfl,XK]at h2
    exact h2))
   go_upto_region 5 with(fail);replace hown:=hown.below (aZ (Below.refl wr.heap.size wr));replace au:=au.trans ((aZ (Below.refl wr.heap.size wr)).mono au.size);clear Tt Tu Tv hfl
   refine wp_region_held_drew (S:=(fun w'=>w'.rangeAt g (o+i*29+1) (l9 xk xi xg xn xf xa (.slice pa na ca) xb xz)∧w'.rangeAt g (o+i*29+10) (l9 yk yi yg yn yf ya (.slice pb nb cb) yb yz)∧w'.rangeAt g (o+i*29+19) (l9 zk zi zg zn zf za (.slice pc nc cc) zb zz))) (by kernel_rfl) ?_ (fun hHeld=>?_)
   ·exact⟨Tw.out _ au,Tx.out _ au,Ty.out _ au⟩
   generalize wr.drew=wd at*;refine run_in [0,1,2,3,4,5,6,7,8,9,10,11,12,13,14,15] ?_;iterate 5 refine Qe ?_
   refine Qm (fun w hs=>hs.1) ?_;iterate 4 refine Qe ?_
   refine Qm (fun w hs=>hs.2.1) ?_;iterate 4 refine Qe ?_
   refine Qm (fun w hs=>hs.2.2) ?_;refine aI ?_;refine Qd 16 (fun K hK=>?_);have hba:=aG (Below.refl wd.heap.size wd) (.cells #[.int .i64 xk,.int .i64 xi,.int .i64 xg,.string xn,.string xf,.int .i64 xa,.slice pa na ca,.string xb,.int .i64 xz,.int .i64 yk,.int .i64 yi,.int .i64 yg,.string yn,.string yf,.int .i64 ya,.slice pb nb cb,.string yb,.int .i64 yz,.int .i64 zk,.int .i64 zi,.int .i64 zg,.string zn,.string zf,.int .i64 za,.slice pc nc cc,.string zb,.int .i64 zz] 24) (Nat.le_refl _);have mP:=au.trans (hba.mono au.size);have lW:=hown.below hba;have hfr:=fG.out wd
   obtain⟨v8,W9,Tz,Rk⟩:=nS II lW mP.size 22 hfr HE.out (by have h1:=S9.out;have h2:=HG3.out;rw[h2,XK];omega) (by decide) (by decide);have n_:=Rk.bL mP mP.size (fun k hk=>(hown.lt hk).1);go_simp
   refine hK.out _ _ ?_ (fun hHeld=>?_)
   ·first|exact⟨Tw.out _ n_,Tx.out _ n_,Ty.out _ n_⟩|exact⟨Tw.out _ mP,Tx.out _ mP,Ty.out _ mP⟩
   clear hK K;(try simp only[Act.put,pA,pB,pC])
   refine Qd 17 (fun K hK=>?_);refine bA (t:=22) (t':=22) (w':=W9) (v:=v8) rfl (.tmp 13) (.tmp 29) rfl rfl rfl Tz ?_
   refine hK.out _ _ ?_ (fun hHeld=>?_)
   ·first|exact⟨Tw.out _ n_,Tx.out _ n_,Ty.out _ n_⟩|exact⟨Tw.out _ mP,Tx.out _ mP,Ty.out _ mP⟩
   clear hK K;(try simp only[Act.put,pA,pB,pC])
   refine run_in [18] ?_;refine Qe ?_;refine aI ?_;refine wpAnyH_done (by kernel_rfl) ?_ _;have Gm:Hid (aA tE 24 9 W9 w1.heap.size v8 (jq (l.take (i+1)))):=Qh (by rw[AI.out];exact Rk.own);have BC:=Qh n_;clear Rk Tz hfr lW hown au mP n_ hba;go_wp2_with fail;go_roundg (l.length-(i+1))
   case measure=>have:=HN.out;omega
   case rel=>exact Qh ⟨i+1,by go_num,by omega,rfl,Gm.out,BC.out⟩
  ·obtain rfl:i=l.length:=by omega
   have bS:=Qh au;obtain⟨po,co,rfl,_,_⟩:=hown.shape;rw[List.take_length]at hown;have HO:=Qh hown;clear au hn hown
   by_cases TA:(200:Int)<(l.length:Int)
   ·have q1:decide ((200:Int)<(l.length:Int))=true:=decide_eq_true TA;go_wp2_with fail;go_ret;exact⟨true,rfl,(fun h=>by cases h),bS.out⟩
   have q1:decide ((200:Int)<(l.length:Int))=false:=decide_eq_false TA;have TB:l.length≤200:=by omega
   have HL:=Qh TB;have XL:∀r∈jq l,F4 wr B r:=fun r hr=>ah.below (Jo AY.out r hr) bS.out Ts.out;have iC:=HO.out.row (fun r hr=>⟨qC r,Dg (XL r hr)⟩);have TC:=sJ iC (fun r hr=>(XL r hr).more (Nat.le_trans Ts.out bS.out.size));have Nq:=Qh (tm.Rt wr wr.heap.size _ _ 8000 (Nat.le_refl _) (by decide) (by decide) TC);clear XL iC TC;obtain⟨gr,vh⟩:∃b,si (n+1) ((jq l).map (·.1)) 8000=b:=⟨_,rfl⟩;rw[vh]at Nq;unfold aV at Nq;have HGe:=Qh vh;clear vh
   have htl:(jq (l.take l.length)).length=(jq l).length:=by rw[List.take_length]
   rw[htl];clear htl;go_wp2_with fail;refine Nq.out.mono ?_;rintro e w2 ⟨rfl,a_⟩;have dJ:=Qh (bS.out.trans (a_.mono bS.out.size));clear a_ Nq;go_wp2_with fail;go_ret;exact⟨gr,rfl,fun h=>⟨HL.out,BJ (HGe.out.trans h)⟩,dJ.out⟩
def iM(k m:Int):Int:=if Int.tmod k m<0 then Int.tmod k m+m else Int.tmod k m
theorem o7(w:World)(k:Int)(m:Nat)(h1:1≤m)(h2:m≤1000):Calls Tryz.prog 21 #[.int .i64 k,.int .i64 (m:Int)] w fun e w'=>e=.returned (.int .i64 (iM k m))∧Below w.heap.size w w':=by
 have hb:=Below.refl w.heap.size w;have hm0:¬((m:Int)=0):=by omega
 have hlo:-(m:Int)<Int.tmod k m∧Int.tmod k m<(m:Int):=by
  have h:=Int.natAbs_tmod k m;have h3:(Int.tmod k m).natAbs<m:=by
   rw[h];simpa using Nat.mod_lt k.natAbs (by omega:0<m)
  omega
 unfold iM;generalize hq:Int.tmod k m=q at*;have hw:IntKind.i64.wrap q=q:=IntWalk.i64_in _ (by omega);have td:IntKind.i64.wrap (q+(m:Int))=q+(m:Int):=IntWalk.i64_in _ (by omega);have HB:=Qh hb;clear hb
 by_cases hneg:q<0
 ·rw[if_pos hneg];go_enter Tryz.func21,Tryz.ntmps21;go_wp2_with fail;go_ret;exact⟨rfl,HB.out⟩
 ·rw[if_neg hneg];go_enter Tryz.func21,Tryz.ntmps21;go_wp2_with fail;go_ret;exact⟨rfl,HB.out⟩
end tb
end Go.Proofs.YtfbggmbmgohiiaaGreat
