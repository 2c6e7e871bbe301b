/- TcQ,TcR,TcS. No condition beyond theirs. -/
import Derived.Test.YtfbggmbmgohiiaaGreatR36
set_option linter.unusedSimpArgs false
set_option linter.unusedVariables false
set_option maxHeartbeats 4000000
set_option maxRecDepth 100000
namespace Go.Proofs.YtfbggmbmgohiiaaGreat.tb
open Go.RowKit mem rec tm names
noncomputable def fS{N:Nat}(t:ct N)(k:Tm (N+1)):Nat:=if iz t k then cG t k+1 else cG t k
theorem kS(w:World)(o1 o2 o3 o4:Obj):Below w.heap.size w ((((w.alloc o1).alloc o2).alloc o3).alloc o4)∧((((w.alloc o1).alloc o2).alloc o3).alloc o4).heap.size=w.heap.size+4∧((((w.alloc o1).alloc o2).alloc o3).alloc o4).heap[w.heap.size]?=some o1∧((((w.alloc o1).alloc o2).alloc o3).alloc o4).heap[w.heap.size+1]?=some o2∧((((w.alloc o1).alloc o2).alloc o3).alloc o4).heap[w.heap.size+2]?=some o3∧((((w.alloc o1).alloc o2).alloc o3).alloc o4).heap[w.heap.size+3]?=some o4:=by
 obtain⟨h0,hs,h1,h2,h3⟩:=bV w o1 o2 o3;have h4:=aF (((w.alloc o1).alloc o2).alloc o3) o4;rw[hs]at h4;have k:∀g,g<w.heap.size+3→((((w.alloc o1).alloc o2).alloc o3).alloc o4).heap[g]?=(((w.alloc o1).alloc o2).alloc o3).heap[g]?:=fun g hg=>Below.heap_alloc _ o4 g (by omega);exact⟨aG h0 o4 h0.size,by rw[World.size_alloc,hs],(k _ (by omega)).trans h1,(k _ (by omega)).trans h2,(k _ (by omega)).trans h3,h4⟩
section
variable {N:Nat}{w w':World}{B:Nat}{F:Nat→Prop}{s:iy N}
theorem E_(h:cN w B F s)(hlen:s.tabs.length≤1000){r k:Tm (N+1)}{ur uk:Value}{B2:Nat}(hB:B2≤w.heap.size)(hI:ah w B2 N ur r.items)(hJ:ah w B2 N uk k.items)(hnk:ap k≤100000000){er:Int}(he:er≠0)(qd:sI s.tabs r k none er) :
 Calls Tryz.prog 40 #[.pointer (some ⟨s.z,0,none⟩),aj r.f ur,aj k.f uk] w fun e w'=>e=.returned (.tuple #[.agg #[.int .i64 0,.int .i64 0,.int .i64 0,.string ⟨#[]⟩,.string ⟨#[]⟩,.int .i64 0,.slice none 0 0,.string ⟨#[]⟩,.int .i64 0],.agg #[.int .i64 0,.int .i64 0,.int .i64 0,.string ⟨#[]⟩,.string ⟨#[]⟩,.int .i64 0,.slice none 0 0,.string ⟨#[]⟩,.int .i64 0],.bool false,.int .i64 er])∧Below w.heap.size w w':=by
 have iT:=Qh (fun(W:World) (hW:Qb w W)=>jl (h.below hW) hlen (Nat.le_trans hB hW.size) (hI.below hW hB) (hJ.below hW hB) (by omega) (po:=none) (er:=er) qd);obtain⟨pr,cr,gQ,_,_⟩:=hI.shape;obtain⟨pk,ck,ek,_,_⟩:=hJ.shape;rw[gQ]at iT ⊢;rw[ek]at iT ⊢;clear h hlen hB hI hJ hnk qd gQ ek;generalize s.z=z at*;generalize r.items.length=nr at*;generalize k.items.length=nk at*;generalize r.f=fr at*;generalize k.f=fk at*;obtain⟨rk,ri,rg,rn,rf,ra,rb,rs⟩:=fr;obtain⟨kk,ki,kg,kn,kf,ka,kb,ks⟩:=fk;unfold aj at*;dsimp only at*
 have cE:(Tryz.prog.info? 24).map (·.size)=some 9:=by kernel_rfl
 obtain⟨hb0,hs1,eA,cI,cS,kT⟩:=kS w (.cells (a9 rk ri rg rn rf ra (.slice pr nr cr) rb rs) 24) (.cells (a9 kk ki kg kn kf ka (.slice pk nk ck) kb ks) 24) cQ cQ;go_enter Tryz.func40,Tryz.ntmps40;go_upto_region 1 with(fail);generalize((((w.alloc (.cells (a9 rk ri rg rn rf ra (.slice pr nr cr) rb rs) 24)).alloc (.cells (a9 kk ki kg kn kf ka (.slice pk nk ck) kb ks) 24)).alloc cQ).alloc cQ)=W1 at*;have tJ:=Qh (aq eA);have gm:=Qh (aq cI);have rY:=Qh cI;have I8:=Qh cS;have S4:=Qh kT;have bu:=Qh hb0;clear eA cI cS kT hb0;go_wp2_with (first
  | (refine Ql tJ.out ?_)
  | (refine Ql gm.out ?_))
 refine(iT.out _ bu.out).mono ?_;rintro e w2 ⟨rfl,a_⟩;have bS:=Qh (bu.out.trans (a_.mono bu.out.size));have fP:=Qh a_;clear tJ gm a_ iT bu;have cS:=(fP.out.block (w.heap.size+2) (by omega)).trans I8.out;have kT:=(fP.out.block (w.heap.size+3) (by omega)).trans S4.out;have hbd:=bS.out;have tI:=setRow_heap w2 (w.heap.size+2) _ dG _ _ cS;have oW:=(setRow_other w2 (w.heap.size+2) (w.heap.size+3) dG (by omega)).trans kT;have dZ:=hbd.trans ((aB w2 (w.heap.size+2) dG).below (fun q e=>by omega) hbd.size)
 have oq:=setRow_heap (w2.setRow (w.heap.size+2) dG) (w.heap.size+3) _ dG _ _ oW;have ou:=(setRow_other (w2.setRow (w.heap.size+2) dG) (w.heap.size+3) (w.heap.size+2) dG (by omega)).trans tI;have fR:=dZ.trans ((aB (w2.setRow (w.heap.size+2) dG) (w.heap.size+3) dG).below (fun q e=>by omega) dZ.size);have gP:=run_loadVar_mid (P:=Tryz.prog) _ (w.heap.size+2) 0 24 uJ _ (aq ou) Tryz.underlying24 rfl cE;have dM:=run_loadVar_mid (P:=Tryz.prog) _ (w.heap.size+3) 0 24 uJ _ (aq oq) Tryz.underlying24 rfl cE;have sO:=Qh cS;have CJ:=Qh oW
 have HF:=Qh (And.intro gP (And.intro dM fR));clear gP dM ou oq fR dZ tI oW;go_wp2_with (first
  | (refine Qs sO.out fJ ?_)
  | (refine Qs CJ.out fJ ?_))
 (try simp only[Exit.inBlock,Exit.then])
 obtain⟨gP,dM,fR⟩:=HF.out;refine bodyPost_ret (v:=.tuple #[.agg dG,.agg dG,.bool false,.int .i64 er]) ?_ rfl ⟨rfl,fR⟩;have hA:∀(a:Addr) (w:World),(asAddr (.pointer (some a))).run Tryz.prog w=.ok a w:=fun _ _=>rfl;rw[cX rfl];simp[hA,gP,dM,Result.andThen]
theorem LY(h:cN w B F s)(hlen:s.tabs.length≤1000){r k:Tm (N+1)}{ur uk:Value}{B2:Nat}(hB:B2≤w.heap.size)(hI:ah w B2 N ur r.items)(hJ:ah w B2 N uk k.items)(hnk:ap k≤100000000)(wF:aC k=true){i:Nat}(hi:i<s.tabs.length)(hr:dK s.tabs r=some i)(hok:lp s.tabs[i] k)(CO:(s.tabs[i]).rows.length≤fS s.tabs[i] k) :
 Calls Tryz.prog 40 #[.pointer (some ⟨s.z,0,none⟩),aj r.f ur,aj k.f uk] w fun e w'=>e=.returned (.tuple #[.agg #[.int .i64 0,.int .i64 0,.int .i64 0,.string ⟨#[]⟩,.string ⟨#[]⟩,.int .i64 0,.slice none 0 0,.string ⟨#[]⟩,.int .i64 0],.agg #[.int .i64 0,.int .i64 0,.int .i64 0,.string ⟨#[]⟩,.string ⟨#[]⟩,.int .i64 0,.slice none 0 0,.string ⟨#[]⟩,.int .i64 0],.bool false,.int .i64 0])∧Below w.heap.size w w':=by
 have ht:=h.tabs _ (List.getElem_mem hi);have qd:sI s.tabs r k (some ⟨(s.tabs[i]).b,0,none⟩) 0:=.inr ⟨wF,.inr ⟨i,hi,hr,rfl,rfl⟩⟩;have qE:=Qh (fun(W:World) (hW:Qb w W)=>qy (ht.below hW h.fl) (fun g hg=>Nat.lt_of_lt_of_le (h.fl g hg) hW.size) (Nat.le_trans hB hW.size) (hJ.below hW hB) (by omega) hok);have wY:=Qh (fun(W:World) (hW:Qb w W)=>I_ (ht.below hW h.fl) CO);have tV:=lT s.tabs[i] k;have hrl:=hok.len
 have iT:=Qh (fun(W:World) (hW:Qb w W)=>jl (h.below hW) hlen (Nat.le_trans hB hW.size) (hI.below hW hB) (hJ.below hW hB) (by omega) (po:=some ⟨(s.tabs[i]).b,0,none⟩) (er:=0) qd);obtain⟨pr,cr,gQ,_,_⟩:=hI.shape;obtain⟨pk,ck,ek,_,_⟩:=hJ.shape;rw[gQ]at iT ⊢;rw[ek]at iT qE ⊢;have hna:fS s.tabs[i] k=if iz s.tabs[i] k then cG s.tabs[i] k+1 else cG s.tabs[i] k:=rfl
 clear CO ht;generalize fS s.tabs[i] k=na at*;generalize iz s.tabs[i] k=hs at*;generalize cG s.tabs[i] k=pos at*;have Xp:pos≤1000000:=by omega
 clear tV hrl;generalize(s.tabs[i]).b=tb at*;clear h hlen hB hI hJ hnk qd gQ ek hok hr hi wF;generalize s.z=z at*;generalize r.items.length=nr at*;generalize k.items.length=nk at*;generalize r.f=fr at*;generalize k.f=fk at*;obtain⟨rk,ri,rg,rn,rf,ra,rb,rs⟩:=fr;obtain⟨kk,ki,kg,kn,kf,ka,kb,ks⟩:=fk;unfold aj at*;dsimp only at*;have cE:(Tryz.prog.info? 24).map (·.size)=some 9:=by kernel_rfl
 obtain⟨hb0,hs1,eA,cI,cS,kT⟩:=kS w (.cells (a9 rk ri rg rn rf ra (.slice pr nr cr) rb rs) 24) (.cells (a9 kk ki kg kn kf ka (.slice pk nk ck) kb ks) 24) cQ cQ;go_enter Tryz.func40,Tryz.ntmps40;go_upto_region 1 with(fail);generalize((((w.alloc (.cells (a9 rk ri rg rn rf ra (.slice pr nr cr) rb rs) 24)).alloc (.cells (a9 kk ki kg kn kf ka (.slice pk nk ck) kb ks) 24)).alloc cQ).alloc cQ)=W1 at*;have tJ:=Qh (aq eA);have gm:=Qh (aq cI);have rY:=Qh cI;have I8:=Qh cS;have S4:=Qh kT;have bu:=Qh hb0;clear eA cI cS kT hb0;go_wp2_with (first
  | (refine Ql tJ.out ?_)
  | (refine Ql gm.out ?_))
 refine(iT.out _ bu.out).mono ?_;rintro e w2 ⟨rfl,a_⟩;have bS:=Qh (bu.out.trans (a_.mono bu.out.size));have fP:=Qh a_;clear tJ gm a_ iT bu;have cI:=(fP.out.block (w.heap.size+1) (by omega)).trans rY.out;have gm:=Qh (aq cI);clear cI;go_wp2_with (first
  | (refine Ql gm.out ?_))
 refine(qE.out _ bS.out).mono ?_;rintro e w3 ⟨rfl,bN⟩;have dJ:=Qh (bS.out.trans (bN.mono bS.out.size));have mH:=Qh (fP.out.trans (bN.mono fP.out.size));clear bN bS fP gm qE;cases hs
 all_goals
  simp only[Bool.false_eq_true,if_false,if_true]at hna;subst hna;go_wp2_with fail;refine(wY.out _ dJ.out).mono ?_;rintro e w4 ⟨rfl,dS⟩;have hbd:=dJ.out.trans (dS.mono dJ.out.size);have j9:=mH.out.trans (dS.mono mH.out.size);have cS:=(j9.block (w.heap.size+2) (by omega)).trans I8.out;have kT:=(j9.block (w.heap.size+3) (by omega)).trans S4.out;clear dS j9 wY;have tI:=setRow_heap w4 (w.heap.size+2) _ dG _ _ cS;have oW:=(setRow_other w4 (w.heap.size+2) (w.heap.size+3) dG (by omega)).trans kT
  have dZ:=hbd.trans ((aB w4 (w.heap.size+2) dG).below (fun q e=>by omega) hbd.size);have oq:=setRow_heap (w4.setRow (w.heap.size+2) dG) (w.heap.size+3) _ dG _ _ oW;have ou:=(setRow_other (w4.setRow (w.heap.size+2) dG) (w.heap.size+3) (w.heap.size+2) dG (by omega)).trans tI;have fR:=dZ.trans ((aB (w4.setRow (w.heap.size+2) dG) (w.heap.size+3) dG).below (fun q e=>by omega) dZ.size);have gP:=run_loadVar_mid (P:=Tryz.prog) _ (w.heap.size+2) 0 24 uJ _ (aq ou) Tryz.underlying24 rfl cE
  have dM:=run_loadVar_mid (P:=Tryz.prog) _ (w.heap.size+3) 0 24 uJ _ (aq oq) Tryz.underlying24 rfl cE;have sO:=Qh cS;have CJ:=Qh oW;have HF:=Qh (And.intro gP (And.intro dM fR));clear gP dM ou oq fR dZ tI oW;go_wp2_with (first
   | (refine Qs sO.out fJ ?_)
   | (refine Qs CJ.out fJ ?_))
  (try simp only[Exit.inBlock,Exit.then])
  obtain⟨gP,dM,fR⟩:=HF.out;refine bodyPost_ret (v:=.tuple #[.agg dG,.agg dG,.bool false,.int .i64 0]) ?_ rfl ⟨rfl,fR⟩;have hA:∀(a:Addr) (w:World),(asAddr (.pointer (some a))).run Tryz.prog w=.ok a w:=fun _ _=>rfl;rw[cX rfl];simp[hA,gP,dM,Result.andThen]
theorem LZ(h:cN w B F s)(hlen:s.tabs.length≤1000){r k:Tm (N+1)}{ur uk:Value}{B2:Nat}(hB:B2≤w.heap.size)(hI:ah w B2 N ur r.items)(hJ:ah w B2 N uk k.items)(hnk:ap k≤100000000)(wF:aC k=true){i:Nat}(hi:i<s.tabs.length)(hr:dK s.tabs r=some i)(hok:lp s.tabs[i] k)(CO:fS s.tabs[i] k<(s.tabs[i]).rows.length)(Xq:ap ((s.tabs[i]).rows[fS s.tabs[i] k]).k≤100000000)(Xr:ap ((s.tabs[i]).rows[fS s.tabs[i] k]).v≤100000000) :
 Calls Tryz.prog 40 #[.pointer (some ⟨s.z,0,none⟩),aj r.f ur,aj k.f uk] w (zm ((s.tabs[i]).rows[fS s.tabs[i] k]).k ((s.tabs[i]).rows[fS s.tabs[i] k]).v w):=by
 have ht:=h.tabs _ (List.getElem_mem hi);have qd:sI s.tabs r k (some ⟨(s.tabs[i]).b,0,none⟩) 0:=.inr ⟨wF,.inr ⟨i,hi,hr,rfl,rfl⟩⟩;have qE:=Qh (fun(W:World) (hW:Qb w W)=>qy (ht.below hW h.fl) (fun g hg=>Nat.lt_of_lt_of_le (h.fl g hg) hW.size) (Nat.le_trans hB hW.size) (hJ.below hW hB) (by omega) hok);have wY:=Qh (fun(W:World) (hW:Qb w W)=>I6 (ht.below hW h.fl) (fun g hg=>Nat.lt_of_lt_of_le (h.fl g hg) hW.size) CO Xq Xr);have tV:=lT s.tabs[i] k;have hrl:=hok.len
 have iT:=Qh (fun(W:World) (hW:Qb w W)=>jl (h.below hW) hlen (Nat.le_trans hB hW.size) (hI.below hW hB) (hJ.below hW hB) (by omega) (po:=some ⟨(s.tabs[i]).b,0,none⟩) (er:=0) qd);obtain⟨pr,cr,gQ,_,_⟩:=hI.shape;obtain⟨pk,ck,ek,_,_⟩:=hJ.shape;rw[gQ]at iT ⊢;rw[ek]at iT qE ⊢;have hna:fS s.tabs[i] k=if iz s.tabs[i] k then cG s.tabs[i] k+1 else cG s.tabs[i] k:=rfl
 have lU:Hid (∀(W W':World) G u (k:Tm (N+1)),bZ W W' G N u k.items→u.oneCell'=true):=Qh (fun W W' G u k hN=>l_ hN.items);unfold zm at*;generalize((s.tabs[i]).rows[fS s.tabs[i] k]).k=kt at*;generalize((s.tabs[i]).rows[fS s.tabs[i] k]).v=vt at*;have gF:=Qh (fun W W' G u=>lU.out W W' G u kt);have gG:=Qh (fun W W' G u=>lU.out W W' G u vt);clear lU;clear CO ht;generalize fS s.tabs[i] k=na at*;generalize iz s.tabs[i] k=hs at*;generalize cG s.tabs[i] k=pos at*;have Xp:pos≤1000000:=by omega
 clear tV hrl;generalize(s.tabs[i]).b=tb at*;clear h hlen hB hI hJ hnk qd gQ ek hok hr hi wF;generalize kt.items=nD at*;generalize vt.items=jV at*;generalize kt.f=fa at*;generalize vt.f=fv at*;obtain⟨ak,ai,ag,an,af,aa,ab,Fa⟩:=fa;obtain⟨vk,vi,vg,vn,vf,va,vb,vs⟩:=fv;generalize s.z=z at*;generalize r.items.length=nr at*;generalize k.items.length=nk at*;generalize r.f=fr at*;generalize k.f=fk at*;obtain⟨rk,ri,rg,rn,rf,ra,rb,rs⟩:=fr;obtain⟨kk,ki,kg,kn,kf,ka,kb,ks⟩:=fk;unfold aj at*;dsimp only at*
 have cE:(Tryz.prog.info? 24).map (·.size)=some 9:=by kernel_rfl
 obtain⟨hb0,hs1,eA,cI,cS,kT⟩:=kS w (.cells (a9 rk ri rg rn rf ra (.slice pr nr cr) rb rs) 24) (.cells (a9 kk ki kg kn kf ka (.slice pk nk ck) kb ks) 24) cQ cQ;go_enter Tryz.func40,Tryz.ntmps40;go_upto_region 1 with(fail);generalize((((w.alloc (.cells (a9 rk ri rg rn rf ra (.slice pr nr cr) rb rs) 24)).alloc (.cells (a9 kk ki kg kn kf ka (.slice pk nk ck) kb ks) 24)).alloc cQ).alloc cQ)=W1 at*;have tJ:=Qh (aq eA);have gm:=Qh (aq cI);have rY:=Qh cI;have I8:=Qh cS;have S4:=Qh kT;have bu:=Qh hb0;clear eA cI cS kT hb0;go_wp2_with (first
  | (refine Ql tJ.out ?_)
  | (refine Ql gm.out ?_))
 refine(iT.out _ bu.out).mono ?_;rintro e w2 ⟨rfl,a_⟩;have bS:=Qh (bu.out.trans (a_.mono bu.out.size));have fP:=Qh a_;clear tJ gm a_ iT bu;have cI:=(fP.out.block (w.heap.size+1) (by omega)).trans rY.out;have gm:=Qh (aq cI);clear cI;go_wp2_with (first
  | (refine Ql gm.out ?_))
 refine(qE.out _ bS.out).mono ?_;rintro e w3 ⟨rfl,bN⟩;have dJ:=Qh (bS.out.trans (bN.mono bS.out.size));have mH:=Qh (fP.out.trans (bN.mono fP.out.size));clear bN bS fP gm qE;cases hs
 all_goals
  simp only[Bool.false_eq_true,if_false,if_true]at hna;subst hna;go_wp2_with fail;refine(wY.out _ dJ.out).mono ?_;rintro e w4 ⟨F1,F2,u1,u2,rfl,dS,cz,cZ⟩;have lG:=Qh (dJ.out.trans (dS.mono dJ.out.size));have j9:=mH.out.trans (dS.mono mH.out.size);have aaq:=mH.out.size;have eA:=(j9.block (w.heap.size+2) (by omega)).trans I8.out;have cI:=(j9.block (w.heap.size+3) (by omega)).trans S4.out;have oX:((a9 ak ai ag an af aa u1 ab Fa):Array Value).all (·.oneCell')=true:=all_oneCell_toArray (aH (f:=⟨ak,ai,ag,an,af,aa,ab,Fa⟩) (u:=u1) (gF.out _ _ _ _ cz))
  have ud:((a9 vk vi vg vn vf va u2 vb vs):Array Value).all (·.oneCell')=true:=all_oneCell_toArray (aH (f:=⟨vk,vi,vg,vn,vf,va,vb,vs⟩) (u:=u2) (gG.out _ _ _ _ cZ));have tI:=setRow_heap w4 (w.heap.size+2) _ (a9 ak ai ag an af aa u1 ab Fa) _ _ eA;have oW:=(setRow_other w4 (w.heap.size+2) (w.heap.size+3) (a9 ak ai ag an af aa u1 ab Fa) (by omega)).trans cI;have ox:=cz.aX (aB w4 (w.heap.size+2) (a9 ak ai ag an af aa u1 ab Fa)) (fun q e=>by subst e;omega)
  have ju:=cZ.aX (aB w4 (w.heap.size+2) (a9 ak ai ag an af aa u1 ab Fa)) (fun q e=>by subst e;omega);have dZ:=lG.out.trans ((aB w4 (w.heap.size+2) (a9 ak ai ag an af aa u1 ab Fa)).below (fun q e=>by omega) lG.out.size);have oq:=setRow_heap (w4.setRow (w.heap.size+2) (a9 ak ai ag an af aa u1 ab Fa)) (w.heap.size+3) _ (a9 vk vi vg vn vf va u2 vb vs) _ _ oW;have ou:=(setRow_other (w4.setRow (w.heap.size+2) (a9 ak ai ag an af aa u1 ab Fa)) (w.heap.size+3) (w.heap.size+2) (a9 vk vi vg vn vf va u2 vb vs) (by omega)).trans tI
  have LQ:=ox.aX (aB (w4.setRow (w.heap.size+2) (a9 ak ai ag an af aa u1 ab Fa)) (w.heap.size+3) (a9 vk vi vg vn vf va u2 vb vs)) (fun q e=>by subst e;omega);have LR:=ju.aX (aB (w4.setRow (w.heap.size+2) (a9 ak ai ag an af aa u1 ab Fa)) (w.heap.size+3) (a9 vk vi vg vn vf va u2 vb vs)) (fun q e=>by subst e;omega);have fR:=dZ.trans ((aB (w4.setRow (w.heap.size+2) (a9 ak ai ag an af aa u1 ab Fa)) (w.heap.size+3) (a9 vk vi vg vn vf va u2 vb vs)).below (fun q e=>by omega) dZ.size)
  have gP:=run_loadVar_mid (P:=Tryz.prog) _ (w.heap.size+2) 0 24 (l9 ak ai ag an af aa u1 ab Fa) _ (aq ou) Tryz.underlying24 rfl cE;have dM:=run_loadVar_mid (P:=Tryz.prog) _ (w.heap.size+3) 0 24 (l9 vk vi vg vn vf va u2 vb vs) _ (aq oq) Tryz.underlying24 rfl cE;have sO:=Qh eA;have CJ:=Qh oW;have HF:=Qh (And.intro gP (And.intro dM (And.intro fR (And.intro (LQ.base (dJ.out.size)) (LR.base (dJ.out.size))))));clear gP dM ou oq LQ LR fR dZ ox ju tI oW eA cI j9 cz cZ dS gF gG wY;go_wp2_with (first
   | (refine Qs sO.out oX ?_)
   | (refine Qs CJ.out ud ?_))
  (try simp only[Exit.inBlock,Exit.then])
  obtain⟨gP,dM,fR,LQ,LR⟩:=HF.out;refine bodyPost_ret (v:=.tuple #[.agg (a9 ak ai ag an af aa u1 ab Fa),.agg (a9 vk vi vg vn vf va u2 vb vs),.bool true,.int .i64 0]) ?_ rfl ⟨F1,F2,u1,u2,rfl,fR,LQ,LR⟩;have hA:∀(a:Addr) (w:World),(asAddr (.pointer (some a))).run Tryz.prog w=.ok a w:=fun _ _=>rfl;rw[cX rfl];simp[hA,gP,dM,Result.andThen]
end
section
variable {N:Nat}{w:World}{B:Nat}{l:List (j_ N)}{g cap:Nat}
theorem Dv(hown:aA bC 108 19 w B (.slice (some ⟨g,0,none⟩) l.length cap) l)(hc:l.length<cap)(c:Nat)(ty:TypeId) :
 ∃w',(Builtin.clear_ #[96] ty #[.slice (some ⟨g,l.length*19,none⟩) 1 c]).run Tryz.prog w=.ok (.tuple #[]) w'∧aA bC 108 19 w' B (.slice (some ⟨g,0,none⟩) l.length cap) l∧ax (fun q=>q=g) w w':=by
 obtain⟨hlen,hz|⟨g',cap',cur,hv,mC,hg,hnc,gW,hcs,tX⟩⟩:=hown
 ·simp at hz
 simp only[Value.slice.injEq,Option.some.injEq,Addr.mk.injEq,and_true,true_and]at hv;obtain⟨rfl,rfl⟩:=hv;obtain⟨i0,nA,pq,hs0,hb0⟩:=info_parts pL;have WK:(Builtin.zeroCells (Value.agg #[.int .i64 0,.int .i64 0,.int .i64 0,.string ⟨#[]⟩,.string ⟨#[]⟩,.int .i64 0,.slice none 0 0,.string ⟨#[]⟩,.int .i64 0,.int .i64 0,.int .i64 0,.int .i64 0,.string ⟨#[]⟩,.string ⟨#[]⟩,.int .i64 0,.slice none 0 0,.string ⟨#[]⟩,.int .i64 0,.int .u32 0]).cells 1).toList=aE aY aK++(aE aY aK++[.int .u32 0]):=by kernel_rfl
 have yF:cur.toList.length=cap*19:=by rw[Array.length_toList];exact hcs
 have S5:(aE aY aK++(aE aY aK++[Value.int .u32 0])).length=19:=rfl;have hst:=run_storeCells_at Tryz.prog g (l.length*19) 108 (aE aY aK++(aE aY aK++[.int .u32 0])) 0 cur w hg (by rw[S5,hcs];omega) (fun v hv=>by
  rcases List.mem_append.1 hv with hv|hv
  ·exact aH rfl v hv
  rcases List.mem_append.1 hv with hv|hv
  ·exact aH rfl v hv
  ·simp at hv;subst hv;rfl)
 simp only[Nat.add_zero]at hst;have hput:(put cur.toList (l.length*19) (aE aY aK++(aE aY aK++[Value.int .u32 0]))).take (l.length*19)=l.flatMap bC:=(Iw (l.length*19) (Nat.le_refl _) (by rw[yF];omega)).trans tX
 refine⟨w.setRow g (put cur.toList (l.length*19) (aE aY aK++(aE aY aK++[.int .u32 0]))).toArray,?_,⟨hlen,.inr ⟨g,cap,_,rfl,mC,setRow_heap _ _ _ _ _ _ hg,hnc,gW,?_,?_⟩⟩,aB _ _ _⟩
 ·have Dj:(zeroValue 108).run Tryz.prog w=.ok (.agg #[.int .i64 0,.int .i64 0,.int .i64 0,.string ⟨#[]⟩,.string ⟨#[]⟩,.int .i64 0,.slice none 0 0,.string ⟨#[]⟩,.int .i64 0,.int .i64 0,.int .i64 0,.int .i64 0,.string ⟨#[]⟩,.string ⟨#[]⟩,.int .i64 0,.slice none 0 0,.string ⟨#[]⟩,.int .i64 0,.int .u32 0]) w:=by kernel_rfl
  unfold put;unfold Builtin.clear_;simp[run_underlying Tryz.underlying96,Dj,WK,hst]
 ·rw[List.size_toArray,nB (by rw[yF,S5];omega),yF]
 ·rw[List.toList_toArray];exact hput
theorem Dw(hown:aA bC 108 19 w B (.slice (some ⟨g,0,none⟩) l.length cap) l)(hE:bD bC 19 l){p:Nat}(hp:p<l.length){o:Nat}(ho:o=(p+1)*19∨l.length=p+1)(c:Nat)(ty:TypeId) :
 ∃w',(Builtin.append_ #[96,96] ty #[.slice (some ⟨g,0,none⟩) p cap,.slice (some ⟨g,o,none⟩) (l.length-(p+1)) c]).run Tryz.prog w=.ok (.slice (some ⟨g,0,none⟩) (l.length-1) cap) w'∧aA bC 108 19 w' B (.slice (some ⟨g,0,none⟩) (l.take p++l.drop (p+1)).length cap) (l.take p++l.drop (p+1))∧ax (fun q=>q=g) w w'∧(l.take p++l.drop (p+1)).length=l.length-1:=by
 have Ni:(l.take p++l.drop (p+1)).length=l.length-1:=by rw[List.length_append,List.length_take,List.length_drop];omega
 obtain⟨g',cap',cur,hv,mC,hg,hnc,gW,hcs,tX⟩:=kP hown (by omega);simp only[Value.slice.injEq,Option.some.injEq,Addr.mk.injEq,and_true,true_and]at hv;obtain⟨rfl,rfl⟩:=hv;obtain⟨i0,nA,pq,hs0,hb0⟩:=info_parts pL;have WS:bD bC 19 (l.take p):=hE.sub (fun a ha=>List.mem_of_mem_take ha);have yX:bD bC 19 (l.drop (p+1)):=hE.sub (fun a ha=>List.mem_of_mem_drop ha);have yF:cur.toList.length=cap*19:=by rw[Array.length_toList];exact hcs
 have hrow:w.ownsRow B 108 19 (.slice (some ⟨g,0,none⟩) p cap) p ((l.take p).flatMap bC):=by
  refine⟨by rw[bH WS,List.length_take,Nat.min_eq_left (by omega)],.inr ⟨g,cap,cur,rfl,mC,hg,by omega,gW,hcs,?_⟩⟩;have h1:cur.toList.take (p*19)=(cur.toList.take (l.length*19)).take (p*19):=by rw[List.take_take,Nat.min_eq_left (by omega)]
  rw[h1,tX];exact pM hE p (by omega)
 have hnews:∀j u,((l.drop (p+1)).flatMap bC)[j]?=some u→w.cell? ((⟨g,o,none⟩:Addr).add j)=some u:=fun j u hj=>by
  rcases ho with rfl|ho
  rotate_left
  ·rw[List.drop_of_length_le (by omega)]at hj;simp at hj
  rw[Addr.add_lit];rw[←mL hE (p+1) (by omega),←tX,List.getElem?_drop,List.getElem?_take]at hj
  split at hj
  ·rw[cell_of_row w g _ cur 108 _ hg];rwa[Array.getElem?_toList]at hj
  ·cases hj
 obtain⟨w',hr,ho',vh⟩:=run_append_fits (P:=Tryz.prog) (w:=w) B 96 ty 108 i0 19 Tryz.underlying96 nA hs0 g p cap _ hrow ⟨g,o,none⟩ (l.length-(p+1)) c ((l.drop (p+1)).flatMap bC) (by rw[bH yX,List.length_drop]) hnews (fun u hu=>by
  obtain⟨a,ha,hu⟩:=List.mem_flatMap.1 hu
  exact(yX a ha).2 u hu) (by omega)
 have e:p+(l.length-(p+1))=l.length-1:=by omega
 rw[e]at hr ho';refine⟨w',hr,?_,⟨vh.os,vh.tape,vh.output,vh.size,fun k hk hn=>vh.block k hk (fun e=>hn (by simpa using e))⟩,Ni⟩;unfold aA;rw[Ni,List.flatMap_append];exact ho'
end
theorem bA{w w':World}{ops:Array Oper}{o:Oper}{a:Act}{K:Act→World→Prop}{Q:Exit→Act→World→Prop}{E:Prop}(hgd:o.guard=none)(x y:Operand){t t':TypeId}
 (ho:o.op=.call { callee:=.builtin .append,args:=#[x,y],argTypes:=#[t,t'] }){vx vy v:Value}(hx:a.eval x=vx)(hy:a.eval y=vy)(hr:(Builtin.append_ #[t,t'] o.type #[vx,vy]).run Tryz.prog w=.ok v w')
 (hK:K (a.put o.dst v) w'):if Region.wanted o (yielded ops a.tmps)=true then Oper.wp Tryz.prog o a w K Q else E:=by
 have hw:Region.wanted o (yielded ops a.tmps)=true:=by simp[Region.wanted,hgd]
 rw[if_pos hw];unfold Oper.wp execOp;simp only[ho,resolve,invoke,builtin,Sem.run_bind,Sem.run_pure,Result.andThen_ok,List.map_toArray,List.map_cons,List.map_nil,hx,hy,hr];exact hK
theorem jE{w w':World}{ops:Array Oper}{rest:List Oper}{o:Oper}{a:Act}{Q:Exit→Act→World→Prop}(hgd:o.guard=none)(x:Operand){t:TypeId}
 (ho:o.op=.call { callee:=.builtin .clear,args:=#[x],argTypes:=#[t] }){vx v:Value}(hx:a.eval x=vx)(hr:(Builtin.clear_ #[t] o.type #[vx]).run Tryz.prog w=.ok v w')
 (h:wpList Tryz.prog ops Q rest (a.put o.dst v) w'):wpList Tryz.prog ops Q (o::rest) a w:=by
 refine wpList_plain hgd fun K hK=>?_;unfold Oper.wp execOp;simp only[ho,resolve,invoke,builtin,Sem.run_bind,Sem.run_pure,Result.andThen_ok,List.map_toArray,List.map_cons,List.map_nil,hx,hr];exact hK _ _ h
section
variable {N:Nat}{w:World}{B:Nat}{l:List (j_ N)}{g cap:Nat}
theorem Jc(hown:aA bC 108 19 w B (.slice (some ⟨g,0,none⟩) l.length cap) l)(hE:bD bC 19 l)(hl:l.length≤1000000){p:Nat}(hp:p<l.length) :
 Calls Tryz.prog 57 #[.slice (some ⟨g,0,none⟩) l.length cap,.int .i64 p,.int .i64 ((p:Int)+1)] w fun e w'=>e=.returned (.slice (some ⟨g,0,none⟩) (l.length-1) cap)∧aA bC 108 19 w' B (.slice (some ⟨g,0,none⟩) (l.length-1) cap) (l.take p++l.drop (p+1))∧ax (fun q=>q=g) w w':=by
 have hcb:l.length≤cap∧cap≤maxLen:=by
  obtain⟨_,c',ec,h1,h2⟩:=hown.shape;simp only[Value.slice.injEq]at ec;rw[ec.2.2];exact⟨h1,h2⟩
 obtain⟨yF,gW⟩:=hcb;have yc:aA bC 108 19 w.drew B (.slice (some ⟨g,0,none⟩) l.length cap) l:=hown.below (aZ (Below.refl _ _));have HA:=Qh (fun o ho c ty=>Dw yc hE hp (o:=o) ho c ty);have HC:=Qh (fun(W:World) (h:aA bC 108 19 W B (.slice (some ⟨g,0,none⟩) (l.take p++l.drop (p+1)).length cap) (l.take p++l.drop (p+1))) c ty=>Dv h (by
  have:(l.take p++l.drop (p+1)).length=l.length-1:=by rw[List.length_append,List.length_take,List.length_drop];omega
  omega) c ty)
 clear hown yc hE;generalize l.take p++l.drop (p+1)=l2 at*;generalize hn:l.length=n at*;unfold maxLen at gW;have h1:((p:Int)+1).toNat=p+1:=by omega
 have h2:(p:Int)+1≤(n:Int):=by omega
 have h3:(n:Int)≤(cap:Int):=by omega
 have h4:(p:Int)≤(p:Int)+1:=by omega
 have h5:¬((p:Int)=(p:Int)+1):=by omega
 have h6:(0:Int)≤(p:Int)+1:=by omega
 have h7:(p:Int)≤(cap:Int):=by omega
 have h8:(n:Int)≤1000000:=by omega
 have h9:(((n-1:Nat):Int))≤(n:Int):=by omega
 have hcp:¬(cap=p):=by omega
 have hnp:n-1≤cap:=by omega
 go_enter Tryz.func57,Tryz.ntmps57;go_upto_region 5 with(fail)
 refine wp_region_held_drew (S:=(fun _=>True)) (by kernel_rfl) ?_ (fun hHeld=>?_)
 ·trivial
 refine run_in [0,1,2,3,4,5] ?_;iterate 6 refine Qe ?_
 refine aI ?_;try simp only[Option.map_some,Addr.add_lit,Nat.zero_add]
 obtain⟨o,ho,he⟩:∃o:Nat,(o=(p+1)*19∨n=p+1)∧(if cap=p+1 then some (⟨g,0,none⟩:Addr) else some ⟨g,(p+1)*19,none⟩)=some ⟨g,o,none⟩:=by
  by_cases hq:cap=p+1
  ·exact⟨0,.inr (by omega),by rw[if_pos hq]⟩
  ·exact⟨_,.inl rfl,by rw[if_neg hq]⟩
 rw[he];refine Qd 6 (fun K hK=>?_);obtain⟨w6,hr,S6,hT6,fA⟩:=HA.out o ho (cap-(p+1)) 96
 refine bA (t:=96) (t':=96) (w':=w6) (v:=.slice (some ⟨g,0,none⟩) (n-1) cap) rfl (.tmp 22) (.tmp 25) rfl rfl rfl ?_ ?_
 ·exact hr
 refine hK.out _ _ ?_ (fun hHeld=>?_)
 ·trivial
 clear hK K;(try simp only[Act.put,pA,pB,pC])
 refine run_in [7] ?_;refine Qe ?_;refine aI ?_;refine wpAnyH_done (by kernel_rfl) ?_ _;obtain⟨w7,KP,qj,L0⟩:=HC.out _ S6 (cap-(n-1)) 0;rw[fA]at KP qj;have Xt:n-(n-1)=1:=by omega
 go_wp2_with (refine jE rfl (.tmp 31) rfl (by first|rfl|(rw[Xt])) KP ?_)
 go_ret;exact⟨rfl,qj,((ax.refl (fun q=>q=g) w).drew.trans hT6 (fun _ _ e=>e)).trans L0 (fun _ _ e=>e)⟩
end
end Go.Proofs.YtfbggmbmgohiiaaGreat.tb
