/- TeD,TeE,TeF. No condition beyond theirs. -/
import Derived.Test.YtfbggmbmgohiiaaGreatR40
set_option linter.unusedSimpArgs false
set_option linter.unusedVariables false
set_option maxHeartbeats 4000000
set_option maxRecDepth 100000
namespace Go.Proofs.YtfbggmbmgohiiaaGreat.tb
open Go.RowKit mem rec tm names
theorem Fh{K V:Type}{c:K→K→Int}{R:List (K×V)}{k:K}{i:Nat}(hi:i≤R.length)(h:∀j x,j<i→R[j]?=some x→c x.1 k<0)(hn:∀x,R[i]?=some x→¬c x.1 k<0):cK c R k=i:=by
 unfold cK
 by_cases hlt:i<R.length
 ·rw[List.findIdx_eq hlt]
  refine⟨?_,fun j hj=>?_⟩
  ·have:=hn _ (List.getElem?_eq_getElem hlt);simpa using this
  ·have:=h j _ hj (List.getElem?_eq_getElem (by omega));simpa using this
 ·obtain rfl:i=R.length:=by omega
  exact List.findIdx_eq_length.2 (fun x hx=>by
   obtain⟨j,hj⟩:=List.mem_iff_getElem?.1 hx
   have:=h j x (List.getElem?_eq_some_iff.1 hj).1 hj
   simpa using this)
def bh{N:Nat}(rows:List (qI N)):List (Tm (N+1)×Tm (N+1)):=rows.map (fun r=>(r.k,r.v))
def ZD{N:Nat}(hs:Bool)(rows:List (qI N))(k:Tm (N+1))(w:World)(m:Nat)(iv:Value)(wr:World):Prop:=∃i:Nat,iv=.int .i64 (i:Int)∧i≤rows.length∧m=rows.length-i∧(∀j x,j<i→rows[j]?=some x→bM hs x.k k<0)∧Below w.heap.size w wr
def PA(n:Nat)(b:Bool)(w:World)(e:Ending)(w':World):Prop:=e=.returned (.tuple #[.int .i64 n,.bool b])∧Below w.heap.size w w'
section
variable {N:Nat}{w w':World}{B:Nat}
theorem rL(t:g6 N)(hB:B≤w.heap.size)(h:mN w B t)(hl:t.rows.length≤1000000)(hnd:∀r∈t.rows,ap r.k≤100000000){k:Tm (N+1)}{uk:Value}{B2:Nat}(gZ:B2≤w.heap.size)(hJ:ah w B2 N uk k.items)(hk:ap k≤100000000) :
 Calls Tryz.prog 59 #[.agg (ku t).toArray,aj k.f uk] w (PA (cK (bM t.hs) (bh t.rows) k) (gp (bM t.hs) (bh t.rows) k) w):=by
 obtain⟨px,hpx⟩:∃q,cK (bM t.hs) (bh t.rows) k=q:=⟨_,rfl⟩;obtain⟨hx,PB⟩:∃q,gp (bM t.hs) (bh t.rows) k=q:=⟨_,rfl⟩;have hd:∀i x,i≤t.rows.length→(∀j x,j<i→t.rows[j]?=some x→bM t.hs x.k k<0)→t.rows[i]?=some x→¬bM t.hs x.k k<0→px=i∧hx=dL x.k k:=fun i x hi h1 h2 h3=>by
  have hp:cK (bM t.hs) (bh t.rows) k=i:=Fh (by unfold bh;rw[List.length_map];exact hi) (fun j y hj hy=>by
   unfold bh at hy
   rw[List.getElem?_map]at hy
   cases hq:t.rows[j]? with
   | none=>rw[hq]at hy;cases hy
   | some r=>rw[hq]at hy;obtain rfl:=Option.some.inj hy;exact h1 j r hj hq) (fun y hy=>by
   unfold bh at hy
   rw[List.getElem?_map,h2]at hy
   obtain rfl:=Option.some.inj hy
   exact h3)
  refine⟨hpx.symm.trans hp,?_⟩;rw[←PB];unfold gp;rw[hp];unfold bh;rw[List.getElem?_map,h2];rfl
 have he:(∀j x,j<t.rows.length→t.rows[j]?=some x→bM t.hs x.k k<0)→px=t.rows.length∧hx=false:=fun h1=>by
  have hp:cK (bM t.hs) (bh t.rows) k=t.rows.length:=Fh (by unfold bh;rw[List.length_map];exact Nat.le_refl _) (fun j y hj hy=>by
   unfold bh at hy
   rw[List.getElem?_map]at hy
   cases hq:t.rows[j]? with
   | none=>rw[hq]at hy;cases hy
   | some r=>rw[hq]at hy;obtain rfl:=Option.some.inj hy;exact h1 j r hj hq) (fun y hy=>by
   unfold bh at hy
   rw[List.getElem?_map,List.getElem?_eq_none (Nat.le_refl _)]at hy
   cases hy)
  refine⟨hpx.symm.trans hp,?_⟩;rw[←PB];unfold gp;rw[hp];unfold bh;rw[List.getElem?_map,List.getElem?_eq_none (Nat.le_refl _)];rfl
 rw[hpx,PB];clear hpx PB;have HD:=Qh hd;have HE:=Qh he;clear hd he;have XE:t.ur.oneCell'=true∧t.uo.oneCell'=true∧t.vr.oneCell'=true:=⟨cP h.ld,cP h.pX,by obtain⟨p,c,e,_,_⟩:=h.rows.shape;rw[e];rfl⟩;have PC:=Qh (fun(W:World) (hW:Qb w W) (i:Nat) (hi:i<t.rows.length)=>Ji (w:=W) t (Nat.le_refl _) XE (((h.gU _ (List.getElem_mem hi)).1.below hW hB).more (Nat.le_trans hB hW.size)) ((hJ.below hW gZ).more (Nat.le_trans gZ hW.size)) (hnd _ (List.getElem_mem hi)) hk)
 have nX:=Qh (fun(W:World) (hW:Qb w W) (i:Nat) (hi:i<t.rows.length)=>vQ W W.heap.size (t.rows[i]).uk uk (t.rows[i]).k k (Nat.le_refl _) (((h.gU _ (List.getElem_mem hi)).1.below hW hB).more (Nat.le_trans hB hW.size)) ((hJ.below hW gZ).more (Nat.le_trans gZ hW.size)));have lU:=Qh (fun(i:Nat) (hi:i<t.rows.length)=>(h.gU _ (List.getElem_mem hi)).1.shape);have hrows:=h.rows.row h.enc;obtain⟨pv,cv,ev,_,_⟩:=h.rows.shape;rw[ev]at hrows;have tU:=Qh (fun(i:Nat) (hi:i<t.rows.length)=>lV hrows hi);obtain⟨pk,ck,ek,_,_⟩:=hJ.shape;rw[ek]at PC nX ⊢
 obtain⟨ko,kp,ur,uo,hs,vr,rows⟩:=t;dsimp only at ev XE HD HE PC nX lU tU hl ⊢;subst ev;have htv:∀x,(ku (N:=N) ⟨ko,kp,ur,uo,hs,.slice pv rows.length cv,rows⟩)=x→x=aE ko.f ur++(aE kp.f uo++[.bool hs,.slice pv rows.length cv]):=fun x e=>e.symm;unfold ku aE at PC ⊢;dsimp only at PC ⊢;simp only[List.cons_append,List.nil_append]at PC ⊢;clear hB h hnd gZ hJ hk hrows ek htv XE;generalize k.items.length=nk at*;generalize Gk:k.f=fk at*;clear Gk;generalize ko.f=fr at*;generalize kp.f=fo at*;obtain⟨kk,ki,kg,kn,kf,ka,kb,kz⟩:=fk
 obtain⟨rk,ri,rg,rn,rf,ra,rb,rz⟩:=fr;obtain⟨ok,oi,og,on,of,oa,ob,oz⟩:=fo;unfold aj aV PA at*;dsimp only at*;have jY:(Tryz.prog.info? 53).map (·.size)=some 20:=by kernel_rfl
 obtain⟨hb0,fY,eA⟩:=bI w (.cells (Cy rk ri rg rn rf ra ur rb rz ok oi og on of oa uo ob oz hs (.slice pv rows.length cv)) 53) (.cells (a9 kk ki kg kn kf ka (.slice pk nk ck) kb kz) 24);have nR:=(Qg fY);have gP:=(Qg eA);go_enter Tryz.func59,Tryz.ntmps59;go_upto_region 1 with(fail);generalize((w.alloc (.cells (Cy rk ri rg rn rf ra ur rb rz ok oi og on of oa uo ob oz hs (.slice pv rows.length cv)) 53)).alloc (.cells (a9 kk ki kg kn kf ka (.slice pk nk ck) kb kz) 24))=W1 at*
 have HX:=Qh (fun W (hW:Qb W1 W)=>(And.intro (cm (x:=(wH rk ri rg rn rf ra ur rb rz ok oi og on of oa uo ob oz hs (.slice pv rows.length cv))) ((hW.block _ nR).trans fY) 19 _ rfl) (And.intro (aq (x:=(wH rk ri rg rn rf ra ur rb rz ok oi og on of oa uo ob oz hs (.slice pv rows.length cv))) ((hW.block _ nR).trans fY)) (aq (x:=(l9 kk ki kg kn kf ka (.slice pk nk ck) kb kz)) ((hW.block _ gP).trans eA)))));have bu:=Qh hb0;have iL:Hid (ZD hs rows k W1 rows.length (.int .i64 0) W1):=Qh ⟨0,rfl,Nat.zero_le _,rfl,fun j x hj=>by omega,Below.refl _ _⟩;clear fY eA nR gP hb0
 go_wp2_with fail;go_loopg [6] rows.length (fun m iv wr=>Hid (ZD hs rows k W1 m iv wr))
 case atStart=>exact iL
 case round=>
  obtain⟨i,rfl,hi,hm,hno,hb⟩:=hrel.out;clear hrel iL;have au:=bu.out.trans (hb.mono bu.out.size);go_upto_region 2 with(fail);replace hb:=hb.trans ((aZ (Below.refl wr.heap.size wr)).mono hb.size);replace au:=au.trans ((aZ (Below.refl wr.heap.size wr)).mono au.size)
  by_cases hlt:i<rows.length
  ·have r1:(i:Int)<(rows.length:Int):=by omega
   have r2:decide ((i:Int)<(rows.length:Int))=true:=decide_eq_true r1;have r3:decide (i<rows.length)=true:=decide_eq_true hlt;obtain⟨g,o,rfl,hg,hR⟩:=tU.out i hlt;obtain⟨pe,ce,ee,_,_⟩:=lU.out i hlt;have HB:=Qh (fun W hW=>PC.out W hW i hlt);have HS:=Qh (fun W hW=>nX.out W hW i hlt);have qx:=List.getElem?_eq_getElem hlt;have PD:=Qh (fun(hn:¬bM hs (rows[i]).k k<0)=>HD.out i _ (by omega) hno qx (by omega));have uy:Hid (bM hs (rows[i]).k k<0→∀j x,j<i+1→rows[j]?=some x→bM hs x.k k<0):=Qh (fun h j x hj hx=>by
    by_cases e:j=i
    ·subst e;rw[qx]at hx;rw[←Option.some.inj hx];exact h
    ·exact hno j x (by omega) hx)
   have Bv:=jn (a:=aE (rows[i]).k.f (rows[i]).uk) hR;rw[ee]at HB HS Bv;clear hno qx hR ee;generalize bM hs (rows[i]).k k=Du at*;generalize dL (rows[i]).k k=eq0 at*;generalize(rows[i]).k.items.length=ne at*;generalize(rows[i]).k.f=ef at*;obtain⟨ek,ei,eg,en,ef,ea,eb,ez⟩:=ef;unfold aE at Bv;dsimp only at HB HS Bv;have HR:=Qh (fun W (hW:Qb w W)=>dn Bv (hW.block g hg));have HM:=Qh hm;clear hm Bv
   refine wp_region_held_drew (S:=(fun w'=>w'.cell? ⟨w.heap.size,19,none⟩=some (.slice (some ⟨g,o,none⟩) rows.length cv)∧w'.rangeAt w.heap.size 0 (wH rk ri rg rn rf ra ur rb rz ok oi og on of oa uo ob oz hs (.slice (some ⟨g,o,none⟩) rows.length cv))∧w'.rangeAt (w.heap.size+1) 0 (l9 kk ki kg kn kf ka (.slice pk nk ck) kb kz)∧w'.rangeAt g (o+i*18) (l9 ek ei eg en ef ea (.slice pe ne ce) eb ez))) (by kernel_rfl) ?_ (fun hHeld=>?_)
   ·exact⟨(HX.out _ hb).1,(HX.out _ hb).2.1,(HX.out _ hb).2.2,HR.out _ au⟩
   generalize wr.drew=wd at*;refine run_in [0,1,2,3,4,5,6,7,8,9,10,11,12,13] ?_;iterate 2 refine Qe ?_
   refine Qc sQ (fun w hs=>hs.1) ?_;iterate 3 refine Qe ?_
   refine Qr rfl (yieldsIf_load_mid (by rfl) 53 (.tmp 2) rfl w.heap.size 0 rfl (wH rk ri rg rn rf ra ur rb rz ok oi og on of oa uo ob oz hs (.slice (some ⟨g,o,none⟩) rows.length cv)) _ (fun w hs=>hs.2.1) Tryz.underlying53 rfl jY) ?_;refine Qe ?_;refine Qc sQ (fun w hs=>hs.1) ?_;iterate 3 refine Qe ?_
   refine Qm (fun w hs=>hs.2.2.2) ?_;refine Qm (fun w hs=>hs.2.2.1) ?_;refine aI ?_;refine Qd 14 (fun K hK=>?_);go_simp;refine(HB.out _ au).mono ?_;rintro e v1 ⟨rfl,aD⟩;replace hb:=hb.trans (aD.mono hb.size);replace au:=au.trans (aD.mono au.size);clear aD;go_wp2_with fail;refine Qk hK (⟨(HX.out _ hb).1,(HX.out _ hb).2.1,(HX.out _ hb).2.2,HR.out _ au⟩) (fun hHeld=>?_);clear hK K;refine run_in [15] ?_;refine Qe ?_;refine aI ?_;refine wpAnyH_done (by kernel_rfl) ?_ _
   by_cases Dy:Du<0
   ·have q1:decide (Du<0)=true:=decide_eq_true Dy;have HN:=Qh (uy.out Dy);clear PD uy;go_wp2_with fail;go_roundg (rows.length-(i+1))
    case measure=>have:=HM.out;omega
    case rel=>exact Qh ⟨i+1,by go_num,by omega,rfl,HN.out,hb⟩
   ·have q1:decide (Du<0)=false:=decide_eq_false Dy;obtain⟨Di,jO⟩:=PD.out (by omega);replace Di:=Di.symm;subst Di jO;clear PD uy;go_upto_region 4 with(fail);replace hb:=hb.trans ((aZ (Below.refl v1.heap.size v1)).mono hb.size);replace au:=au.trans ((aZ (Below.refl v1.heap.size v1)).mono au.size)
    refine wp_region_held_drew (S:=(fun w'=>w'.cell? ⟨w.heap.size,19,none⟩=some (.slice (some ⟨g,o,none⟩) rows.length cv)∧w'.rangeAt (w.heap.size+1) 0 (l9 kk ki kg kn kf ka (.slice pk nk ck) kb kz)∧w'.rangeAt g (o+i*18) (l9 ek ei eg en ef ea (.slice pe ne ce) eb ez))) (by kernel_rfl) ?_ (fun hHeld=>?_)
    ·exact⟨(HX.out _ hb).1,(HX.out _ hb).2.2,HR.out _ au⟩
    refine run_in [0,1,2,3,4,5,6,7,8,9,10,11,12,13] ?_;iterate 3 refine Qe ?_
    refine Qc sQ (fun w hs=>hs.1) ?_;iterate 4 refine Qe ?_
    refine Qc sQ (fun w hs=>hs.1) ?_;iterate 3 refine Qe ?_
    refine Qm (fun w hs=>hs.2.2) ?_;refine Qm (fun w hs=>hs.2.1) ?_;refine aI ?_;refine Qd 14 (fun K hK=>?_);go_simp;refine(HS.out _ au).mono ?_;rintro e v2 ⟨rfl,aD⟩;replace hb:=hb.trans (aD.mono hb.size);replace au:=au.trans (aD.mono au.size);clear aD;go_wp2_with fail;refine Qk hK (⟨(HX.out _ hb).1,(HX.out _ hb).2.2,HR.out _ au⟩) (fun hHeld=>?_);clear hK K;refine run_in [15,16,17] ?_;iterate 3 refine Qe ?_
    refine aI ?_;refine wpAnyH_done (by kernel_rfl) ?_ _;go_wp2_with fail;go_ret2
    exact⟨rfl,au⟩
  ·obtain rfl:i=rows.length:=by omega
   obtain⟨Di,jO⟩:=HE.out hno;subst Di jO;clear hno hm PC nX HD HE
   refine wp_region_held_drew (S:=(fun w'=>w'.cell? ⟨w.heap.size,19,none⟩=some (.slice pv rows.length cv))) (by kernel_rfl) ?_ (fun hHeld=>?_)
   ·exact(HX.out _ hb).1
   generalize wr.drew=wd at*;refine run_in [0,1,2,3,4,5,6,7,8,9,10,11,12,13,14,15] ?_;iterate 2 refine Qe ?_
   refine Qc sQ (fun w hs=>hs) ?_;iterate 3 refine Qe ?_
   refine Qu ?_;refine Qu ?_;refine Qu ?_;refine Qu ?_;refine Qu ?_;refine Qu ?_;refine Qu ?_;refine Qu ?_;refine Qu ?_;refine Qe ?_;refine aI ?_;refine wpAnyH_done (by kernel_rfl) ?_ _;go_upto_region 4 with(fail);replace hb:=hb.trans ((aZ (Below.refl wd.heap.size wd)).mono hb.size);replace au:=au.trans ((aZ (Below.refl wd.heap.size wd)).mono au.size)
   refine wp_region_held_drew (S:=(fun w'=>w'.cell? ⟨w.heap.size,19,none⟩=some (.slice pv rows.length cv))) (by kernel_rfl) ?_ (fun hHeld=>?_)
   ·exact(HX.out _ hb).1
   refine run_in [0,1,2,3,4,5,6,7,8,9,10,11,12,13,14,15,16,17] ?_;iterate 3 refine Qe ?_
   refine Qc sQ (fun w hs=>hs) ?_;iterate 3 refine Qe ?_
   refine Qu ?_;refine Qu ?_;refine Qu ?_;refine Qu ?_;refine Qu ?_;refine Qu ?_;refine Qu ?_;refine Qu ?_;iterate 3 refine Qe ?_
   refine aI ?_;refine wpAnyH_done (by kernel_rfl) ?_ _;go_wp2_with fail;go_ret2
   exact⟨rfl,au⟩
end
theorem Dz(w:World)(g o n c i:Nat)(hi:i≤c):(Instr.slice 49 (.slice (some ⟨g,o,none⟩) n c) none (some (.int .i64 (i:Int))) none).run Tryz.prog w=.ok (.slice (some ⟨g,o,none⟩) i c) w:=by
 have h1:¬((i:Int)<0):=by omega
 have h2:¬((c:Int)<(i:Int)):=by omega
 have h3:(i:Int)≤(c:Int):=by omega
 go_simp
theorem zu(w:World)(g o n c i:Nat)(hi:i≤n)(hc:n≤c)(hne:i<c):(Instr.slice 49 (.slice (some ⟨g,o,none⟩) n c) (some (.int .i64 (i:Int))) none none).run Tryz.prog w=.ok (.slice (some ⟨g,o+i*18,none⟩) (n-i) (c-i)) w:=by
 have h1:¬((i:Int)<0):=by omega
 have h3:(i:Int)≤(n:Int):=by omega
 go_simp;intro e;omega
theorem Bw(w:World)(g o n:Nat):(Instr.slice 49 (.slice (some ⟨g,o,none⟩) n n) (some (.int .i64 (n:Int))) none none).run Tryz.prog w=.ok (.slice (some ⟨g,o,none⟩) 0 0) w:=by
 have h1:¬((n:Int)<0):=by omega
 go_simp
theorem zw(w:World):(Instr.slice 49 (.slice none 0 0) (some (.int .i64 ((0:Nat):Int))) none none).run Tryz.prog w=.ok (.slice none 0 0) w:=by
 go_simp
theorem wZ(w:World):(Instr.slice 49 (.slice none 0 0) none (some (.int .i64 ((0:Nat):Int))) none).run Tryz.prog w=.ok (.slice none 0 0) w:=by
 go_simp
theorem Bx{α:Type}{enc:α→List Value}{w:World}{D g o c i:Nat}{l:List α}(h:bq enc 18 w D (.slice (some ⟨g,o,none⟩) l.length c) l)(hi:i≤l.length):∃p' c',(∀W':World,(Instr.slice 49 (.slice (some ⟨g,o,none⟩) l.length c) (some (.int .i64 (i:Int))) none none).run Tryz.prog W'=.ok (.slice (some ⟨g,p',none⟩) (l.length-i) c') W')∧bq enc 18 w D (.slice (some ⟨g,p',none⟩) (l.length-i) c') (l.drop i):=by
 obtain⟨p',c',e,hc,hm⟩:=h.shape;simp only[Value.slice.injEq,true_and]at e;obtain⟨_,rfl⟩:=e
 by_cases hne:i<c
 ·exact⟨_,_,fun W'=>zu W' g o l.length c i hi hc hne,bq.drop h hi⟩
 ·obtain rfl:i=c:=by omega
  have hl:l.length=i:=by omega
  rw[hl,Nat.sub_self];refine⟨o,0,fun W'=>Bw W' g o i,?_⟩;rw[List.drop_eq_nil_of_le (by omega)];exact bq.nil _ _ _ _ (Nat.zero_le _)
theorem yl{α:Type}{enc:α→List Value}{e:TypeId}{w:World}{B i:Nat}{v:Value}{l:List α}(hE:bD enc 18 l)(h:aA enc e 18 w B v l)(hi:i≤l.length):∃p' c',(∀W':World,(Instr.slice 49 v (some (.int .i64 (i:Int))) none none).run Tryz.prog W'=.ok (.slice p' (l.length-i) c') W')∧bq enc 18 w w.heap.size (.slice p' (l.length-i) c') (l.drop i)∧(∀g,(Value.slice p' (l.length-i) c').ownBlock=some g→v.ownBlock=some g)∧(i<l.length→∃g o,p'=some ⟨g,o,none⟩):=by
 have hrow:=h.row hE
 rcases h.2 with⟨rfl,h0⟩|⟨g,cap,cur,rfl,_⟩
 ·obtain rfl:i=0:=by omega
  rw[h0];refine⟨none,0,fun W'=>zw W',?_,fun g hg=>by simp[Value.ownBlock]at hg,fun hq=>by omega⟩;have:l=[]:=List.eq_nil_of_length_eq_zero h0;subst this;exact bq.nil _ _ _ _ (Nat.zero_le _)
 ·obtain⟨p',c',h1,h2⟩:=Bx hrow hi;exact⟨_,c',h1,h2,fun g' hg=>by simpa[Value.ownBlock] using hg,fun _=>⟨g,p',rfl⟩⟩
theorem vS{α:Type}{enc:α→List Value}{e:TypeId}{w:World}{B i:Nat}{v:Value}{l:List α}(hE:bD enc 18 l)(h:aA enc e 18 w B v l)(hi:i≤l.length):∃p' c',(∀W':World,(Instr.slice 49 v none (some (.int .i64 (i:Int))) none).run Tryz.prog W'=.ok (.slice p' i c') W')∧bq enc 18 w w.heap.size (.slice p' i c') (l.take i)∧(∀g,(Value.slice p' i c').ownBlock=some g→v.ownBlock=some g):=by
 have hrow:=h.row hE
 rcases h.2 with⟨rfl,h0⟩|⟨g,cap,cur,rfl,_,_,hnc,_⟩
 ·obtain rfl:i=0:=by omega
  refine⟨none,0,fun W'=>wZ W',?_,fun g hg=>by simp[Value.ownBlock]at hg⟩;rw[List.take_zero];exact bq.nil _ _ _ _ (Nat.zero_le _)
 ·exact⟨some ⟨g,0,none⟩,cap,fun W'=>Dz W' g 0 l.length cap i (by omega),bq.take hrow hi,fun g' hg=>by simpa[Value.ownBlock] using hg⟩
theorem DA(w:World)(g o n c i:Nat)(hi:i≤c):(Instr.slice 37 (.slice (some ⟨g,o,none⟩) n c) none (some (.int .i64 (i:Int))) none).run Tryz.prog w=.ok (.slice (some ⟨g,o,none⟩) i c) w:=by
 have h1:¬((i:Int)<0):=by omega
 have h2:¬((c:Int)<(i:Int)):=by omega
 have h3:(i:Int)≤(c:Int):=by omega
 go_simp
theorem zx(w:World)(g o n c i:Nat)(hi:i≤n)(hc:n≤c)(hne:i<c):(Instr.slice 37 (.slice (some ⟨g,o,none⟩) n c) (some (.int .i64 (i:Int))) none none).run Tryz.prog w=.ok (.slice (some ⟨g,o+i*20,none⟩) (n-i) (c-i)) w:=by
 have h1:¬((i:Int)<0):=by omega
 have h3:(i:Int)≤(n:Int):=by omega
 go_simp;intro e;omega
theorem Bz(w:World)(g o n:Nat):(Instr.slice 37 (.slice (some ⟨g,o,none⟩) n n) (some (.int .i64 (n:Int))) none none).run Tryz.prog w=.ok (.slice (some ⟨g,o,none⟩) 0 0) w:=by
 have h1:¬((n:Int)<0):=by omega
 go_simp
theorem zy(w:World):(Instr.slice 37 (.slice none 0 0) (some (.int .i64 ((0:Nat):Int))) none none).run Tryz.prog w=.ok (.slice none 0 0) w:=by
 go_simp
theorem w_(w:World):(Instr.slice 37 (.slice none 0 0) none (some (.int .i64 ((0:Nat):Int))) none).run Tryz.prog w=.ok (.slice none 0 0) w:=by
 go_simp
theorem Jj{α:Type}{enc:α→List Value}{w:World}{D g o c i:Nat}{l:List α}(h:bq enc 20 w D (.slice (some ⟨g,o,none⟩) l.length c) l)(hi:i≤l.length):∃p' c',(∀W':World,(Instr.slice 37 (.slice (some ⟨g,o,none⟩) l.length c) (some (.int .i64 (i:Int))) none none).run Tryz.prog W'=.ok (.slice (some ⟨g,p',none⟩) (l.length-i) c') W')∧bq enc 20 w D (.slice (some ⟨g,p',none⟩) (l.length-i) c') (l.drop i):=by
 obtain⟨p',c',e,hc,hm⟩:=h.shape;simp only[Value.slice.injEq,true_and]at e;obtain⟨_,rfl⟩:=e
 by_cases hne:i<c
 ·exact⟨_,_,fun W'=>zx W' g o l.length c i hi hc hne,bq.drop h hi⟩
 ·obtain rfl:i=c:=by omega
  have hl:l.length=i:=by omega
  rw[hl,Nat.sub_self];refine⟨o,0,fun W'=>Bz W' g o i,?_⟩;rw[List.drop_eq_nil_of_le (by omega)];exact bq.nil _ _ _ _ (Nat.zero_le _)
theorem ym{α:Type}{enc:α→List Value}{e:TypeId}{w:World}{B i:Nat}{v:Value}{l:List α}(hE:bD enc 20 l)(h:aA enc e 20 w B v l)(hi:i≤l.length):∃p' c',(∀W':World,(Instr.slice 37 v (some (.int .i64 (i:Int))) none none).run Tryz.prog W'=.ok (.slice p' (l.length-i) c') W')∧bq enc 20 w w.heap.size (.slice p' (l.length-i) c') (l.drop i)∧(∀g,(Value.slice p' (l.length-i) c').ownBlock=some g→v.ownBlock=some g)∧(i<l.length→∃g o,p'=some ⟨g,o,none⟩):=by
 have hrow:=h.row hE
 rcases h.2 with⟨rfl,h0⟩|⟨g,cap,cur,rfl,_⟩
 ·obtain rfl:i=0:=by omega
  rw[h0];refine⟨none,0,fun W'=>zy W',?_,fun g hg=>by simp[Value.ownBlock]at hg,fun hq=>by omega⟩;have:l=[]:=List.eq_nil_of_length_eq_zero h0;subst this;exact bq.nil _ _ _ _ (Nat.zero_le _)
 ·obtain⟨p',c',h1,h2⟩:=Jj hrow hi;exact⟨_,c',h1,h2,fun g' hg=>by simpa[Value.ownBlock] using hg,fun _=>⟨g,p',rfl⟩⟩
theorem vT{α:Type}{enc:α→List Value}{e:TypeId}{w:World}{B i:Nat}{v:Value}{l:List α}(hE:bD enc 20 l)(h:aA enc e 20 w B v l)(hi:i≤l.length):∃p' c',(∀W':World,(Instr.slice 37 v none (some (.int .i64 (i:Int))) none).run Tryz.prog W'=.ok (.slice p' i c') W')∧bq enc 20 w w.heap.size (.slice p' i c') (l.take i)∧(∀g,(Value.slice p' i c').ownBlock=some g→v.ownBlock=some g):=by
 have hrow:=h.row hE
 rcases h.2 with⟨rfl,h0⟩|⟨g,cap,cur,rfl,_,_,hnc,_⟩
 ·obtain rfl:i=0:=by omega
  refine⟨none,0,fun W'=>w_ W',?_,fun g hg=>by simp[Value.ownBlock]at hg⟩;rw[List.take_zero];exact bq.nil _ _ _ _ (Nat.zero_le _)
 ·exact⟨some ⟨g,0,none⟩,cap,fun W'=>DA W' g 0 l.length cap i (by omega),bq.take hrow hi,fun g' hg=>by simpa[Value.ownBlock] using hg⟩
theorem PE:(Tryz.prog.info? 55).map (fun i=>(i.zero,i.size,i.bytes))=some (some (.agg #[.int .i64 0,.int .i64 0,.int .i64 0,.string ⟨#[]⟩,.string ⟨#[]⟩,.int .i64 0,.slice none 0 0,.string ⟨#[]⟩,.int .i64 0,.int .i64 0,.int .i64 0,.int .i64 0,.string ⟨#[]⟩,.string ⟨#[]⟩,.int .i64 0,.slice none 0 0,.string ⟨#[]⟩,.int .i64 0]),18,224):=by kernel_rfl
theorem BA:vq 49 55 18:=rj Tryz.underlying49 PE rfl (by decide) (by decide)
theorem PF:(Tryz.prog.info? 53).map (fun i=>(i.zero,i.size,i.bytes))=some (some (.agg #[.int .i64 0,.int .i64 0,.int .i64 0,.string ⟨#[]⟩,.string ⟨#[]⟩,.int .i64 0,.slice none 0 0,.string ⟨#[]⟩,.int .i64 0,.int .i64 0,.int .i64 0,.int .i64 0,.string ⟨#[]⟩,.string ⟨#[]⟩,.int .i64 0,.slice none 0 0,.string ⟨#[]⟩,.int .i64 0,.bool false,.slice none 0 0]),20,256):=by kernel_rfl
theorem zA:vq 37 53 20:=rj Tryz.underlying37 PF rfl (by decide) (by decide)
section
variable {N:Nat}{w W:World}{B y:Nat}{lv:Value}{T:List (g6 N)}{t:g6 N}
theorem yo:∀(T:List (g6 N)) (i:Nat) (t:g6 N) (v':Value) (fB:List (qI N)),T[i]?=some t→(T.flatMap ku).set (i*20+19) v'=(T.set i { t with vr:=v',rows:=fB }).flatMap ku
 | [],i,t,v',fB,h=>by simp at h
 | a::T,0,t,v',fB,h=>by
  simp at h;subst h;rw[List.set_cons_zero,List.flatMap_cons,List.flatMap_cons,Nat.zero_mul,Nat.zero_add];have hl:(ku a).length=20:=rfl;rw[List.set_append_left _ _ (by omega)];rfl
 | a::T,i+1,t,v',fB,h=>by
  rw[List.getElem?_cons_succ]at h;rw[List.set_cons_succ,List.flatMap_cons,List.flatMap_cons];have hl:(ku a).length=20:=rfl;rw[List.set_append_right _ _ (by omega),hl,show(i+1)*20+19-20=i*20+19 by omega,yo T i t v' fB h]
theorem cY.Nf(h:cY w B y lv T){g c:Nat}(hlv:lv=.slice (some ⟨g,0,none⟩) T.length c){i:Nat}(hi:T[i]?=some t)(hb:Below w.heap.size w W){v':Value}{fB:List (qI N)}(hown:aA vR 55 18 W w.heap.size v' fB)(hr:∀r∈fB,ah W B N r.uk r.k.items∧ah W B N r.uv r.v.items) :
 cY (W.setCell ⟨g,i*20+19,none⟩ v') B y lv (T.set i { t with vr:=v',rows:=fB })∧TT gC B w (W.setCell ⟨g,i*20+19,none⟩ v'):=by
 have hW:=h.below hb;have hBw:=h.blt
 obtain⟨hlen,hz|⟨g',cap,cur,hv,mC,hg,hnc,gW,hcs,tX⟩⟩:=hW.l
 ·rw[hlv]at hz;simp at hz
 rw[hlv]at hv;simp only[Value.slice.injEq,Option.some.injEq,Addr.mk.injEq,and_true,true_and]at hv;obtain⟨rfl,rfl⟩:=hv;have hil:i<T.length:=(List.getElem?_eq_some_iff.1 hi).1;have Sr:g<w.heap.size:=(h.l.lt (k:=g) (by rw[hlv];rfl)).2;have PG:dA w g=some 53:=dW h.l (by rw[hlv];rfl);have fQ:∀q,q≠g→(W.setCell ⟨g,i*20+19,none⟩ v').heap[q]?=W.heap[q]?:=fun q hq=>Below.heap_setCell _ _ _ _ hq;have Gl:y≠g:=dX (br h.obj) PG (by decide);have rF:∀q,q<B→(W.setCell ⟨g,i*20+19,none⟩ v').heap[q]?=W.heap[q]?:=fun q hq=>fQ q (by omega)
 have hT:TT gC B w (W.setCell ⟨g,i*20+19,none⟩ v'):=ax.setCell ((ax.refl _ _).bJ hb (Nat.le_refl _)) _ _ (fun _=>⟨mC,53,PG,.inr (.inl rfl)⟩);have Nm:=yo T i t v' fB hi
 refine⟨⟨(fQ y Gl).trans hW.obj,?_,fun u hu=>?_,h.low⟩,hT⟩
 ·have hls:(T.set i { t with vr:=v',rows:=fB }).length=T.length:=List.length_set;unfold aA
  refine⟨?_,.inr ⟨g,c,cur.setIfInBounds (i*20+19) v',?_,mC,fp hg v',by rw[hls];exact hnc,gW,by rw[Array.size_setIfInBounds];exact hcs,?_⟩⟩
  ·rw[←Nm,List.length_set,hls];exact hlen
  ·rw[hls];exact hlv
  ·rw[hls,Array.toList_setIfInBounds,List.take_set,tX,Nm]
 ·rcases List.mem_or_eq_of_mem_set hu with hu|rfl
  ·exact(hW.tabs u hu).keep rF (fun q hq=>fQ q (dX (dW (h.tabs u hu).rows hq) PG (by decide)))
  ·have ht:=hW.tabs t (List.mem_of_getElem? hi);exact⟨(hown.base (base':=B) (fun k hk=>Nat.le_trans hBw (hown.lt hk).1)).same (fun q hq=>fQ q (by have:=(hown.lt hq).1;omega)),ht.ld.same rF,ht.pX.same rF,fun r hr'=>⟨(hr r hr').1.same rF,(hr r hr').2.same rF⟩⟩
end
theorem DB(ty:TypeId)(hi:(Tryz.prog.info? ty).map (·.size)=some 1)(w:World)(a:Addr)(v0 v:Value)(hv:v.oneCell'=true)(h:w.cell? a=some v0)(hf:w.frozen? a=false):(storeVar ty a v).run Tryz.prog w=.ok () (w.setCell a v):=by
 cases hq:Tryz.prog.info? ty with
 | none=>simp[hq]at hi
 | some ie =>
  have hs:ie.size=1:=by simpa[hq] using hi
  have hc:v.cells=#[v]:=by cases v <;> first|rfl|simp[Value.oneCell']at hv
  have ha:a.add 0=a:=by cases a;simp[Addr.add]
  simp[storeVar,hc,sizeOf,typeInfo,hq,hs,storeCells,run_store Tryz.prog _ _ v _ hv,ha,h,hf,Result.andThen]
theorem PI(w:World)(a:Addr)(v0 v:Value)(hv:v.oneCell'=true)(h:w.cell? a=some v0)(hf:w.frozen? a=false):(storeVar 49 a v).run Tryz.prog w=.ok () (w.setCell a v):=DB 49 (by kernel_rfl) w a v0 v hv h hf
def BB{N:Nat}(B y:Nat)(lv:Value)(T:List (g6 N))(i:Nat)(t:g6 N)(R:List (Tm (N+1)×Tm (N+1)))(w:World)(w':World):Prop:=∃v' fB,bh fB=R∧cY w' B y lv (T.set i { t with vr:=v',rows:=fB })∧TT gC B w w'
section
variable {N:Nat}{w w':World}{B y:Nat}{lv:Value}{T:List (g6 N)}{t:g6 N}{r k v:Tm (N+1)}{fF uk uv:Value}
structure Jk(w:World)(B:Nat)(r k v:Tm (N+1))(fF uk uv:Value):Prop where
 ir:ah w B N fF r.items
 ik:ah w B N uk k.items
 iv:ah w B N uv v.items
 nk:ap k≤100000000
 nv:ap v≤100000000
theorem PJ(h:cY w B y lv T)(hT:T.length≤1000)(a:Jk w B r k v fF uk uv)(hk:aC k=false) :
 Calls Tryz.prog 25 #[.pointer (some ⟨y,0,none⟩),aj r.f fF,aj k.f uk,aj v.f uv] w fun e w'=>e=.returned (.int .i64 2)∧Below w.heap.size w w':=by
 have hB:=h.blt;have nL:=Qh (fun(W:World) (hW:Qb w W)=>gA W B uk k (Nat.le_trans hB hW.size) (a.ik.below hW hB) (by have:=a.nk;omega));have CK:=Qh (fun(W:World) (hW:Qb w W)=>gA W B uv v (Nat.le_trans hB hW.size) (a.iv.below hW hB) (by have:=a.nv;omega));have cB:=Qh (fun(W:World) (hW:Qb w W)=>lq (h.below hW) hT (Nat.le_trans hB hW.size) (a.ir.below hW hB));obtain⟨pr,cr,e1,_,_⟩:=a.ir.shape;obtain⟨pk,ck,e2,_,_⟩:=a.ik.shape;obtain⟨pv,cv,e3,_,_⟩:=a.iv.shape;rw[hk]at nL;clear CK;rw[e1]at cB ⊢;rw[e2]at nL ⊢;rw[e3];clear h hT a hB e1 e2 e3
 generalize r.items.length=nr at*;generalize k.items.length=nk at*;generalize v.items.length=nv at*;generalize lJ:r.f=fr at*;generalize Gk:k.f=fk at*;generalize XF:v.f=fv at*;obtain⟨rk,ri,rg,rn,rf,ra,rb,rz⟩:=fr;obtain⟨kk,ki,kg,kn,kf,ka,kb,kz⟩:=fk;obtain⟨vk,vi,vg,vn,vf,va,vb,vz⟩:=fv;unfold aj aV at*;dsimp only at*;obtain⟨hb0,_,cI,cS,kT⟩:=bV w (.cells (a9 rk ri rg rn rf ra (.slice pr nr cr) rb rz) 24) (.cells (a9 kk ki kg kn kf ka (.slice pk nk ck) kb kz) 24) (.cells (a9 vk vi vg vn vf va (.slice pv nv cv) vb vz) 24);have dM:=(Qg cI)
 have fA:=(Qg cS);have pO:=(Qg kT);go_enter Tryz.func25,Tryz.ntmps25;go_upto_region 1 with(fail);generalize(((w.alloc (.cells (a9 rk ri rg rn rf ra (.slice pr nr cr) rb rz) 24)).alloc (.cells (a9 kk ki kg kn kf ka (.slice pk nk ck) kb kz) 24)).alloc (.cells (a9 vk vi vg vn vf va (.slice pv nv cv) vb vz) 24))=W1 at*
 have HX:=Qh (fun W (hW:Qb W1 W)=>(And.intro (aq (x:=(l9 rk ri rg rn rf ra (.slice pr nr cr) rb rz)) ((hW.block _ dM).trans cI)) (And.intro (aq (x:=(l9 kk ki kg kn kf ka (.slice pk nk ck) kb kz)) ((hW.block _ fA).trans cS)) (aq (x:=(l9 vk vi vg vn vf va (.slice pv nv cv) vb vz)) ((hW.block _ pO).trans kT)))));have Rg:=Qh (fun W (hW:Qb W1 W)=>(hW.block _ pO).trans kT);have hb:=Below.refl W1.heap.size W1;have bu:=Qh hb0;have au:=hb0;have HL:=Qh (And.intro dM (And.intro fA pO));clear cI cS kT dM fA pO hb0;have lO:=Qh (HX.out _ hb).2.1;go_wp2_with (first
  | (refine Ql lO.out ?_))
 refine(nL.out _ au).mono ?_;rintro e w2 ⟨rfl,aD⟩;replace hb:=hb.trans (aD.mono hb.size);replace au:=au.trans (aD.mono au.size);clear aD nL lO;go_wp2_with fail;go_ret;exact⟨rfl,au⟩
theorem PK(h:cY w B y lv T)(hT:T.length≤1000)(a:Jk w B r k v fF uk uv)(hk:aC k=true)(hv:aC v=false) :
 Calls Tryz.prog 25 #[.pointer (some ⟨y,0,none⟩),aj r.f fF,aj k.f uk,aj v.f uv] w fun e w'=>e=.returned (.int .i64 2)∧Below w.heap.size w w':=by
 have hB:=h.blt;have nL:=Qh (fun(W:World) (hW:Qb w W)=>gA W B uk k (Nat.le_trans hB hW.size) (a.ik.below hW hB) (by have:=a.nk;omega));have CK:=Qh (fun(W:World) (hW:Qb w W)=>gA W B uv v (Nat.le_trans hB hW.size) (a.iv.below hW hB) (by have:=a.nv;omega));have cB:=Qh (fun(W:World) (hW:Qb w W)=>lq (h.below hW) hT (Nat.le_trans hB hW.size) (a.ir.below hW hB));obtain⟨pr,cr,e1,_,_⟩:=a.ir.shape;obtain⟨pk,ck,e2,_,_⟩:=a.ik.shape;obtain⟨pv,cv,e3,_,_⟩:=a.iv.shape;rw[hk]at nL;rw[hv]at CK;rw[e1]at cB ⊢;rw[e2]at nL ⊢;rw[e3]at CK ⊢;clear h hT a hB e1 e2 e3
 generalize r.items.length=nr at*;generalize k.items.length=nk at*;generalize v.items.length=nv at*;generalize lJ:r.f=fr at*;generalize Gk:k.f=fk at*;generalize XF:v.f=fv at*;obtain⟨rk,ri,rg,rn,rf,ra,rb,rz⟩:=fr;obtain⟨kk,ki,kg,kn,kf,ka,kb,kz⟩:=fk;obtain⟨vk,vi,vg,vn,vf,va,vb,vz⟩:=fv;unfold aj aV at*;dsimp only at*;obtain⟨hb0,_,cI,cS,kT⟩:=bV w (.cells (a9 rk ri rg rn rf ra (.slice pr nr cr) rb rz) 24) (.cells (a9 kk ki kg kn kf ka (.slice pk nk ck) kb kz) 24) (.cells (a9 vk vi vg vn vf va (.slice pv nv cv) vb vz) 24);have dM:=(Qg cI)
 have fA:=(Qg cS);have pO:=(Qg kT);go_enter Tryz.func25,Tryz.ntmps25;go_upto_region 1 with(fail);generalize(((w.alloc (.cells (a9 rk ri rg rn rf ra (.slice pr nr cr) rb rz) 24)).alloc (.cells (a9 kk ki kg kn kf ka (.slice pk nk ck) kb kz) 24)).alloc (.cells (a9 vk vi vg vn vf va (.slice pv nv cv) vb vz) 24))=W1 at*
 have HX:=Qh (fun W (hW:Qb W1 W)=>(And.intro (aq (x:=(l9 rk ri rg rn rf ra (.slice pr nr cr) rb rz)) ((hW.block _ dM).trans cI)) (And.intro (aq (x:=(l9 kk ki kg kn kf ka (.slice pk nk ck) kb kz)) ((hW.block _ fA).trans cS)) (aq (x:=(l9 vk vi vg vn vf va (.slice pv nv cv) vb vz)) ((hW.block _ pO).trans kT)))));have Rg:=Qh (fun W (hW:Qb W1 W)=>(hW.block _ pO).trans kT);have hb:=Below.refl W1.heap.size W1;have bu:=Qh hb0;have au:=hb0;have HL:=Qh (And.intro dM (And.intro fA pO));clear cI cS kT dM fA pO hb0;have lO:=Qh (HX.out _ hb).2.1;go_wp2_with (first
  | (refine Ql lO.out ?_))
 refine(nL.out _ au).mono ?_;rintro e w2 ⟨rfl,aD⟩;replace hb:=hb.trans (aD.mono hb.size);replace au:=au.trans (aD.mono au.size);clear aD nL lO;obtain⟨x0,x1,x2,x3,x4,x5,x6,x7,x8,xf⟩:=aW (f:=⟨vk,vi,vg,vn,vf,va,vb,vz⟩) (v:=.slice pv nv cv) (Rg.out _ hb);dsimp only at x0 x1 x2 x3 x4 x5 x6 x7 x8;go_wp2_with fail;refine(CK.out _ au).mono ?_;rintro e w3 ⟨rfl,aD⟩;replace hb:=hb.trans (aD.mono hb.size);replace au:=au.trans (aD.mono au.size);clear aD CK x0 x1 x2 x3 x4 x5 x6 x7 x8 xf;go_wp2_with fail;go_ret;exact⟨rfl,au⟩
theorem PL(h:cY w B y lv T)(hT:T.length≤1000)(a:Jk w B r k v fF uk uv)(hk:aC k=true)(hv:aC v=true)(hr:jG T r=none) :
 Calls Tryz.prog 25 #[.pointer (some ⟨y,0,none⟩),aj r.f fF,aj k.f uk,aj v.f uv] w fun e w'=>e=.returned (.int .i64 4)∧Below w.heap.size w w':=by
 have hB:=h.blt;have nL:=Qh (fun(W:World) (hW:Qb w W)=>gA W B uk k (Nat.le_trans hB hW.size) (a.ik.below hW hB) (by have:=a.nk;omega));have CK:=Qh (fun(W:World) (hW:Qb w W)=>gA W B uv v (Nat.le_trans hB hW.size) (a.iv.below hW hB) (by have:=a.nv;omega));have cB:=Qh (fun(W:World) (hW:Qb w W)=>lq (h.below hW) hT (Nat.le_trans hB hW.size) (a.ir.below hW hB));obtain⟨pr,cr,e1,_,_⟩:=a.ir.shape;obtain⟨pk,ck,e2,_,_⟩:=a.ik.shape;obtain⟨pv,cv,e3,_,_⟩:=a.iv.shape;rw[hk]at nL;rw[hv]at CK;rw[hr]at cB;unfold lm at cB;dsimp only at cB;rw[e1]at cB ⊢;rw[e2]at nL ⊢
 rw[e3]at CK ⊢;clear h hT a hB e1 e2 e3;generalize r.items.length=nr at*;generalize k.items.length=nk at*;generalize v.items.length=nv at*;generalize lJ:r.f=fr at*;generalize Gk:k.f=fk at*;generalize XF:v.f=fv at*;obtain⟨rk,ri,rg,rn,rf,ra,rb,rz⟩:=fr;obtain⟨kk,ki,kg,kn,kf,ka,kb,kz⟩:=fk;obtain⟨vk,vi,vg,vn,vf,va,vb,vz⟩:=fv;unfold aj aV at*;dsimp only at*
 obtain⟨hb0,_,cI,cS,kT⟩:=bV w (.cells (a9 rk ri rg rn rf ra (.slice pr nr cr) rb rz) 24) (.cells (a9 kk ki kg kn kf ka (.slice pk nk ck) kb kz) 24) (.cells (a9 vk vi vg vn vf va (.slice pv nv cv) vb vz) 24);have dM:=(Qg cI);have fA:=(Qg cS);have pO:=(Qg kT);go_enter Tryz.func25,Tryz.ntmps25;go_upto_region 1 with(fail);generalize(((w.alloc (.cells (a9 rk ri rg rn rf ra (.slice pr nr cr) rb rz) 24)).alloc (.cells (a9 kk ki kg kn kf ka (.slice pk nk ck) kb kz) 24)).alloc (.cells (a9 vk vi vg vn vf va (.slice pv nv cv) vb vz) 24))=W1 at*
 have HX:=Qh (fun W (hW:Qb W1 W)=>(And.intro (aq (x:=(l9 rk ri rg rn rf ra (.slice pr nr cr) rb rz)) ((hW.block _ dM).trans cI)) (And.intro (aq (x:=(l9 kk ki kg kn kf ka (.slice pk nk ck) kb kz)) ((hW.block _ fA).trans cS)) (aq (x:=(l9 vk vi vg vn vf va (.slice pv nv cv) vb vz)) ((hW.block _ pO).trans kT)))));have Rg:=Qh (fun W (hW:Qb W1 W)=>(hW.block _ pO).trans kT);have hb:=Below.refl W1.heap.size W1;have bu:=Qh hb0;have au:=hb0;have HL:=Qh (And.intro dM (And.intro fA pO));clear cI cS kT dM fA pO hb0;have lO:=Qh (HX.out _ hb).2.1;go_wp2_with (first
  | (refine Ql lO.out ?_))
 refine(nL.out _ au).mono ?_;rintro e w2 ⟨rfl,aD⟩;replace hb:=hb.trans (aD.mono hb.size);replace au:=au.trans (aD.mono au.size);clear aD nL lO;obtain⟨x0,x1,x2,x3,x4,x5,x6,x7,x8,xf⟩:=aW (f:=⟨vk,vi,vg,vn,vf,va,vb,vz⟩) (v:=.slice pv nv cv) (Rg.out _ hb);dsimp only at x0 x1 x2 x3 x4 x5 x6 x7 x8;go_wp2_with fail;refine(CK.out _ au).mono ?_;rintro e w3 ⟨rfl,aD⟩;replace hb:=hb.trans (aD.mono hb.size);replace au:=au.trans (aD.mono au.size);clear aD CK x0 x1 x2 x3 x4 x5 x6 x7 x8 xf;have dw:=Qh (HX.out _ hb).1;go_wp2_with (first
  | (refine Ql dw.out ?_))
 refine(cB.out _ au).mono ?_;rintro e w4 ⟨rfl,aD⟩;replace hb:=hb.trans (aD.mono hb.size);replace au:=au.trans (aD.mono au.size);clear aD cB dw;go_wp2_with fail;go_ret;exact⟨rfl,au⟩
theorem PM(h:cY w B y lv T)(hT:T.length≤1000)(a:Jk w B r k v fF uk uv)(hk:aC k=true)(hv:aC v=true){i:Nat}(hr:jG T r=some i)(ht:T[i]?=some t)(hl:t.rows.length≤1000000)(hnd:∀r∈t.rows,ap r.k≤100000000) :
 Calls Tryz.prog 25 #[.pointer (some ⟨y,0,none⟩),aj r.f fF,aj k.f uk,aj v.f uv] w fun e w'=>e=.returned (.int .i64 0)∧BB B y lv T i t (lH (bM t.hs) (bh t.rows) k v) w w':=by
 have hB:=h.blt;have nL:=Qh (fun(W:World) (hW:Qb w W)=>gA W B uk k (Nat.le_trans hB hW.size) (a.ik.below hW hB) (by have:=a.nk;omega));have CK:=Qh (fun(W:World) (hW:Qb w W)=>gA W B uv v (Nat.le_trans hB hW.size) (a.iv.below hW hB) (by have:=a.nv;omega));have cB:=Qh (fun(W:World) (hW:Qb w W)=>lq (h.below hW) hT (Nat.le_trans hB hW.size) (a.ir.below hW hB));have hil:i<T.length:=(List.getElem?_eq_some_iff.1 ht).1;have nQ:=h.tabs t (List.mem_of_getElem? ht)
 have qO:=Qh (fun(W:World) (hW:Qb w W)=>rL t (Nat.le_trans hB hW.size) ((h.below hW).tabs t (List.mem_of_getElem? ht)) hl hnd (Nat.le_trans hB hW.size) (a.ik.below hW hB) a.nk);have tV:=uB (c:=bM t.hs) (bh t.rows) k;have Rh:(bh t.rows).length=t.rows.length:=by unfold bh;rw[List.length_map]
 rw[Rh]at tV;have ZE:gp (bM t.hs) (bh t.rows) k=true→cK (bM t.hs) (bh t.rows) k<t.rows.length:=fun e=>by
  obtain⟨hp,_⟩:=kQ e;rwa[Rh]at hp
 have hput:lH (bM t.hs) (bh t.rows) k v=bh (([]++t.rows.take (cK (bM t.hs) (bh t.rows) k))++[⟨k,v,uk,uv⟩]++t.rows.drop (if gp (bM t.hs) (bh t.rows) k then cK (bM t.hs) (bh t.rows) k+1 else cK (bM t.hs) (bh t.rows) k)):=by
  unfold lH bh;simp only[List.nil_append,List.map_append,List.map_take,List.map_drop,List.map_cons,List.map_nil,List.append_assoc,List.cons_append]
 obtain⟨gl,cl,hlv⟩:∃gl cl,lv=.slice (some ⟨gl,0,none⟩) T.length cl:=by
  rcases h.l.2 with⟨_,h0⟩|⟨g,cap,cur,e,_⟩
  ·omega
  ·exact⟨g,cap,e⟩
 have hrl:=lV (by have:=h.l.row h.enc;rwa[hlv]at this) hil;obtain⟨g9,o9,e9,mo,xS⟩:=hrl;simp only[Option.some.injEq,Addr.mk.injEq,and_true]at e9;obtain⟨rfl,rfl⟩:=e9;rw[Nat.zero_add]at xS;have UQ:T[i]=t:=by rw[List.getElem?_eq_getElem hil]at ht;exact Option.some.inj ht
 rw[UQ]at xS;have cO:=Qh (fun(W:World) (hW:Qb w W)=>dn xS (hW.block gl mo));have eC:=Qh (fun(W:World) (hW:Qb w W)=>cm (x:=[lv]) (h.below hW).obj 0 _ rfl);have Ti:∀W,Qb w W→∀o,W.frozen? ⟨gl,o,none⟩=false:=fun W hW o=>by
  rcases(h.below hW).l.2 with⟨e,_⟩|⟨g,cap,cur,e,_,hh,_⟩
  ·rw[hlv]at e;simp at e
  ·rw[hlv]at e;simp only[Value.slice.injEq,Option.some.injEq,Addr.mk.injEq,and_true,true_and]at e;obtain⟨rfl,_⟩:=e;simp only[World.frozen?,hh];simp
 have wG:=Qh Ti;have Gl:y≠gl:=dX (br h.obj) (dW h.l (k:=gl) (by rw[hlv];rfl)) (by decide);have hE:=nQ.enc;have PN:bD vR 18 [(⟨k,v,uk,uv⟩:qI N)]:=fun x hx=>by
  obtain rfl:=List.mem_singleton.1 hx;exact⟨rfl,fun u hu=>by
   unfold vR at hu
   rcases List.mem_append.1 hu with hu|hu
   ·exact aH (cP a.ik) u hu
   ·exact aH (cP a.iv) u hu⟩
 have fG:=Qh (fun(W:World) (O:Obj) (hO:O=.cells ([(⟨k,v,uk,uv⟩:qI N)].flatMap vR).toArray 55)=>bq.fresh (w:=W.alloc O) PN (by decide) (by rw[←hO];exact aF W O) (c:=1) (Nat.le_refl _) (by decide));obtain⟨px,hpx⟩:∃q,cK (bM t.hs) (bh t.rows) k=q:=⟨_,rfl⟩;obtain⟨hx,PB⟩:∃q,gp (bM t.hs) (bh t.rows) k=q:=⟨_,rfl⟩;rw[hpx,PB]at qO hput ZE;rw[hpx]at tV
 have o5:=Qh (fun(W:World) (hW:Qb w W) (v':Value) (fB:List (qI N)) (ho:aA vR 55 18 W w.heap.size v' fB) (he:fB=([]++t.rows.take px)++[⟨k,v,uk,uv⟩]++t.rows.drop (if hx then px+1 else px))=>(show BB B y lv T i t (lH (bM t.hs) (bh t.rows) k v) w (W.setCell ⟨gl,i*20+19,none⟩ v') from by
  obtain⟨q1,q2⟩:=cY.Nf h hlv ht hW ho (fun r hr=>by
   rw[he,List.nil_append]at hr
   have ho:∀r∈t.rows,ah W B N r.uk r.k.items∧ah W B N r.uv r.v.items:=fun r hr=>⟨(nQ.gU r hr).1.below hW hB,(nQ.gU r hr).2.below hW hB⟩
   rcases List.mem_append.1 hr with hr|hr
   ·rcases List.mem_append.1 hr with hr|hr
    ·exact ho r (List.mem_of_mem_take hr)
    ·obtain rfl:=List.mem_singleton.1 hr
     exact⟨a.ik.below hW hB,a.iv.below hW hB⟩
   ·exact ho r (List.mem_of_mem_drop hr))
  exact⟨v',fB,by rw[he];exact hput.symm,q1,q2⟩))
 have o6:=Qh (fun(j:Nat) (hj:j≤t.rows.length) (W:World) (hW:Qb w W)=>yl hE ((h.below hW).tabs t (List.mem_of_getElem? ht)).rows hj);have jZ:=Qh (fun(j:Nat) (hj:j≤t.rows.length) (W:World) (hW:Qb w W)=>vS hE ((h.below hW).tabs t (List.mem_of_getElem? ht)).rows hj);have vU:=Qh (fun(q:Nat) (hq:t.vr.ownBlock=some q)=>(nQ.rows.lt hq).2);have L6:=Qh (fun(j:Nat)=>(hE.sub (fun x hx=>List.mem_of_mem_take hx):bD vR 18 (t.rows.take j)));have L7:=Qh (fun(j:Nat)=>(hE.sub (fun x hx=>List.mem_of_mem_drop hx):bD vR 18 (t.rows.drop j)));have Jl:=Qh PN
 have Q9:=h.ylt;generalize lH (bM t.hs) (bh t.rows) k v=PR at*;generalize Nl:BB B y lv T i t PR w=PV at*;obtain⟨pr,cr,e1,_,_⟩:=a.ir.shape;obtain⟨pk,ck,e2,_,_⟩:=a.ik.shape;obtain⟨pv,cv,e3,_,_⟩:=a.iv.shape;rw[hk]at nL;rw[hv]at CK;rw[hr]at cB;unfold lm at cB;dsimp only at cB;rw[e1]at cB ⊢;rw[e2]at nL qO o5 fG Jl ⊢;rw[e3]at CK o5 fG Jl ⊢;have hcells:∀(u1 u2:Value),([(⟨k,v,u1,u2⟩:qI N)].flatMap vR)=aE k.f u1++aE v.f u2:=fun u1 u2=>by simp[vR]
 rw[hcells]at fG;obtain⟨rwE,Tj⟩:∃x:qI N,x=⟨k,v,.slice pk k.items.length ck,.slice pv v.items.length cv⟩:=⟨_,rfl⟩;rw[←Tj]at o5 fG Jl;clear hcells Tj;unfold ku aE at cO qO;unfold aE at fG;rw[hlv]at eC;clear h hT a hB e1 e2 e3 nQ hE PN hput Rh PB hpx xS Ti UQ hnd hr ht hlv hk hv Nl;have hpi:=hil;generalize T.length=nT at*;obtain⟨ko,kp,ur,uo,hs,vr,rows⟩:=t;dsimp only at*;generalize ko.f=fe at*;generalize kp.f=fo at*;obtain⟨ek,ei,eg,en,ef,ea,eb,ez⟩:=fe;obtain⟨ok,oi,og,on,of,oa,ob,oz⟩:=fo;generalize r.items.length=nr at*
 generalize k.items.length=nk at*;generalize v.items.length=nv at*;generalize lJ:r.f=fr at*;generalize Gk:k.f=fk at*;generalize XF:v.f=fv at*;obtain⟨rk,ri,rg,rn,rf,ra,rb,rz⟩:=fr;obtain⟨kk,ki,kg,kn,kf,ka,kb,kz⟩:=fk;obtain⟨vk,vi,vg,vn,vf,va,vb,vz⟩:=fv;unfold aj aV PA at*;dsimp only at*;simp only[List.cons_append,List.nil_append]at cO qO fG;have jY:(Tryz.prog.info? 53).map (·.size)=some 20:=by kernel_rfl
 obtain⟨hb0,_,cI,cS,kT⟩:=bV w (.cells (a9 rk ri rg rn rf ra (.slice pr nr cr) rb rz) 24) (.cells (a9 kk ki kg kn kf ka (.slice pk nk ck) kb kz) 24) (.cells (a9 vk vi vg vn vf va (.slice pv nv cv) vb vz) 24);have dM:=(Qg cI);have fA:=(Qg cS);have pO:=(Qg kT);go_enter Tryz.func25,Tryz.ntmps25;go_upto_region 1 with(fail);generalize(((w.alloc (.cells (a9 rk ri rg rn rf ra (.slice pr nr cr) rb rz) 24)).alloc (.cells (a9 kk ki kg kn kf ka (.slice pk nk ck) kb kz) 24)).alloc (.cells (a9 vk vi vg vn vf va (.slice pv nv cv) vb vz) 24))=W1 at*
 have HX:=Qh (fun W (hW:Qb W1 W)=>(And.intro (aq (x:=(l9 rk ri rg rn rf ra (.slice pr nr cr) rb rz)) ((hW.block _ dM).trans cI)) (And.intro (aq (x:=(l9 kk ki kg kn kf ka (.slice pk nk ck) kb kz)) ((hW.block _ fA).trans cS)) (aq (x:=(l9 vk vi vg vn vf va (.slice pv nv cv) vb vz)) ((hW.block _ pO).trans kT)))));have Rg:=Qh (fun W (hW:Qb W1 W)=>(hW.block _ pO).trans kT);have hb:=Below.refl W1.heap.size W1;have bu:=Qh hb0;have au:=hb0;have HL:=Qh (And.intro dM (And.intro fA pO));clear cI cS kT dM fA pO hb0;have lO:=Qh (HX.out _ hb).2.1;go_wp2_with (first
  | (refine Ql lO.out ?_))
 refine(nL.out _ au).mono ?_;rintro e w2 ⟨rfl,aD⟩;replace hb:=hb.trans (aD.mono hb.size);replace au:=au.trans (aD.mono au.size);clear aD nL lO;obtain⟨x0,x1,x2,x3,x4,x5,x6,x7,x8,xf⟩:=aW (f:=⟨vk,vi,vg,vn,vf,va,vb,vz⟩) (v:=.slice pv nv cv) (Rg.out _ hb);dsimp only at x0 x1 x2 x3 x4 x5 x6 x7 x8;go_wp2_with fail;refine(CK.out _ au).mono ?_;rintro e w3 ⟨rfl,aD⟩;replace hb:=hb.trans (aD.mono hb.size);replace au:=au.trans (aD.mono au.size);clear aD CK x0 x1 x2 x3 x4 x5 x6 x7 x8 xf;have dw:=Qh (HX.out _ hb).1;go_wp2_with (first
  | (refine Ql dw.out ?_))
 refine(cB.out _ au).mono ?_;rintro e w4 ⟨rfl,aD⟩;replace hb:=hb.trans (aD.mono hb.size);replace au:=au.trans (aD.mono au.size);clear aD cB dw;have r1:(i:Int)<(nT:Int):=by omega
 have r2:¬((i:Int)<0):=by omega
 go_upto_region 6 with(fail);replace hb:=hb.trans ((aZ (Below.refl w4.heap.size w4)).mono hb.size);replace au:=au.trans ((aZ (Below.refl w4.heap.size w4)).mono au.size)
 refine wp_region_held_drew (S:=(fun w'=>w'.cell? ⟨y,0,none⟩=some (.slice (some ⟨gl,0,none⟩) nT cl)∧w'.rangeAt gl (i*20) (wH ek ei eg en ef ea ur eb ez ok oi og on of oa uo ob oz hs vr)∧w'.rangeAt (w.heap.size+1) 0 (l9 kk ki kg kn kf ka (.slice pk nk ck) kb kz))) (by kernel_rfl) ?_ (fun hHeld=>?_)
 ·exact⟨eC.out _ au,cO.out _ au,(HX.out _ hb).2.1⟩
 generalize w4.drew=wd at*;refine run_in [0,1,2,3,4,5,6,7] ?_;iterate 3 refine Qe ?_
 refine Qc oZ (fun w hs=>hs.1) ?_;iterate 2 refine Qe ?_
 refine Qr rfl (yieldsIf_load_mid (by rfl) 53 (.tmp 33) rfl gl (i*20) rfl (wH ek ei eg en ef ea ur eb ez ok oi og on of oa uo ob oz hs vr) _ (fun w hs=>hs.2.1) Tryz.underlying53 rfl jY) ?_;refine Qm (fun w hs=>hs.2.2) ?_;refine aI ?_;refine Qd 8 (fun K hK=>?_);go_simp;refine(qO.out _ au).mono ?_;rintro e w6 ⟨rfl,aD⟩;replace hb:=hb.trans (aD.mono hb.size);replace au:=au.trans (aD.mono au.size);clear aD;go_wp2_with fail;refine Qk hK (⟨eC.out _ au,cO.out _ au,(HX.out _ hb).2.1⟩) (fun hHeld=>?_);clear hK K;refine run_in [9,10,11,12,13] ?_;iterate 5 refine Qe ?_
 refine aI ?_;refine wpAnyH_done (by kernel_rfl) ?_ _
 cases hx
 ·have k0:=eC.out _ au;have Ri:w6.cell? ⟨gl,i*20+19,none⟩=some vr:=cO.out _ au 19 _ rfl;obtain⟨p1,c1,j5,rp,xd,mX⟩:=o6.out px tV w6 au;have ED:=rp;have PO:=xd;obtain⟨RV,yj⟩:∃x,x=Value.slice p1 (rows.length-px) c1:=⟨_,rfl⟩;rw[←yj]at ED PO;clear rp mX;obtain⟨p3,c3,mO,xe,DC⟩:=jZ.out px tV w6 au;have vV:=Qh (fun W (hW:Qb w6 W)=>ED.block (w':=W) (fun q hq=>hW.block q (by have:=vU.out q (PO q hq);have:=au.size;omega)));have AI:=Qh xe;have nZ:=Qh (And.intro hb au);have XG:(px:Int)≤(rows.length:Int):=by omega
  clear ED xe xd PO DC o6 jZ;go_upto_region 11 with(first
   | (at_builtin;refine ay BA rfl (.const (.slice none 0 0)) (.tmp 61) rfl rfl (aA.nil 55 _ w6.heap.size) (Nat.le_refl _) rfl AI.out (L6.out px) (by simp;omega) ?_;intro v1 W7 sR)
   | fail)
  skip;have j7:Qb w6 W7:=sR.bL (Below.refl _ _) (Nat.le_refl _) (fun q hq=>by have h0:(Value.slice none 0 0).ownBlock=some q:=hq;simp[Value.ownBlock]at h0);have DD:=HX.out _ (nZ.out.1.trans (j7.mono nZ.out.1.size));have PS:=Qh DD.2.1;have PT:=Qh DD.2.2;clear DD;have qp:=j7.trans ((aG (Below.refl W7.heap.size W7) (.cells (QV kk ki kg kn kf ka (.slice pk nk ck) kb kz vk vi vg vn vf va (.slice pv nv cv) vb vz) 55) (Nat.le_refl _)).mono j7.size)
  have lW:=sR.own.below (aG (Below.refl W7.heap.size W7) (.cells (QV kk ki kg kn kf ka (.slice pk nk ck) kb kz vk vi vg vn vf va (.slice pv nv cv) vb vz) 55) (Nat.le_refl _));have vW:=fG.out W7 (.cells (QV kk ki kg kn kf ka (.slice pk nk ck) kb kz vk vi vg vn vf va (.slice pv nv cv) vb vz) 55) rfl;have Gm:=Qh lW;have PU:=Qh vW;have BC:=Qh qp;have ig:=Qh sR;clear lW vW qp sR j7;go_upto_region 12 with(first
   | (refine Ql PS.out ?_)
   | (refine Ql PT.out ?_)
   | (at_builtin;refine ay BA rfl (.tmp 63) (.tmp 67) rfl rfl Gm.out BC.out.size rfl PU.out Jl.out (by simp;omega) ?_;intro v2 W9 uf)
   | fail)
  have lR:Qb w6 W9:=uf.bL BC.out BC.out.size (fun q hq=>by have h1:=(Gm.out.lt hq).1;exact h1);replace lR:=lR.trans ((aZ (Below.refl W9.heap.size W9)).mono lR.size);have n_:=nZ.out.2.trans (lR.mono nZ.out.2.size);have BD:=uf.own.below (aZ (Below.refl W9.heap.size W9));have DF:=vV.out _ lR;obtain⟨v3,om,FX,uF⟩:=dI BA BD lR.size 49 DF (L7.out _) (by simp;omega);have zB:Qb w6 om:=uF.bL lR lR.size (fun q hq=>(BD.lt hq).1);have jo:=nZ.out.2.trans (zB.mono nZ.out.2.size)
  have Jm:v3.oneCell'=true:=by obtain⟨p,c,e,_,_⟩:=uF.own.shape;rw[e];rfl
  have hP:=o5.out om jo v3 _ (uF.own.base (base':=w.heap.size) (fun q hq=>by have h1:=(uF.own.lt hq).1;have h2:=nZ.out.2.size;omega)) (by rw[if_neg (by decide)]);have k9:=eC.out _ n_;have pT:=eC.out _ jo;have XH:om.cell? ⟨gl,i*20+19,none⟩=some vr:=cO.out _ jo 19 _ rfl;have f10:=wG.out _ jo (i*20+19);have yp:(om.setCell ⟨gl,i*20+19,none⟩ v3).cell? ⟨y,0,none⟩=some (.slice (some ⟨gl,0,none⟩) nT cl):=(World.cell?_of_block (w:=om) (a:=⟨y,0,none⟩) (Below.heap_setCell _ _ _ _ Gl)).trans pT;have hst:=PI om ⟨gl,i*20+19,none⟩ vr v3 Jm XH f10
  refine wp_region_held_drew (S:=(fun w'=>w'.cell? ⟨y,0,none⟩=some (.slice (some ⟨gl,0,none⟩) nT cl))) (by kernel_rfl) ?_ (fun hHeld=>?_)
  ·exact k9
  refine run_in [0,1,2,3,4,5,6] ?_;iterate 3 refine Qe ?_
  refine Qc oZ (fun w hs=>hs) ?_;iterate 3 refine Qe ?_
  refine aI ?_;refine Qd 7 (fun K hK=>?_)
  refine bA (t:=49) (t':=49) (w':=om) (v:=v3) rfl (.tmp 74) (.tmp 75) rfl rfl rfl ?_ ?_
  ·first|exact FX|(rw[←yj];exact FX)|(rw[yj]at FX;exact FX)
  refine hK.out _ _ ?_ (fun hHeld=>?_)
  ·first|exact yp|exact pT
  clear hK K;(try simp only[Act.put,pA,pB,pC])
  refine run_in [8,9] ?_;iterate 2 refine Qe ?_
  refine aI ?_;refine Qd 10 (fun K hK=>?_);refine aR (by rfl) 49 (.tmp 78) (.tmp 76) rfl (p:=⟨gl,i*20+19,none⟩) (v:=v3) rfl rfl hst ?_
  refine hK.out _ _ ?_ (fun hHeld=>?_)
  ·first|exact yp|exact pT
  clear hK K;(try simp only[Act.put,pA,pB,pC])
  refine wpAnyH_done (by kernel_rfl) ?_ _;have HP:=Qh hP;clear hP;go_wp2_with fail;go_ret;exact⟨rfl,HP.out⟩
 ·have k0:=eC.out _ au;have Ri:w6.cell? ⟨gl,i*20+19,none⟩=some vr:=cO.out _ au 19 _ rfl;obtain⟨p1,c1,j5,rp,xd,mX⟩:=o6.out px tV w6 au;have XI:=ZE rfl;obtain⟨g1,o1,rfl⟩:=mX XI;have ZF:(rows.drop px).length=rows.length-px:=List.length_drop;have Tk:bq vR 18 w6 w6.heap.size (.slice (some ⟨g1,o1,none⟩) (rows.drop px).length c1) (rows.drop px):=by rw[ZF];exact rp
  obtain⟨p2,c2,DG,ED⟩:=Bx Tk (i:=1) (by omega);rw[ZF]at DG ED;have ZG:∀W':World,(Instr.slice 49 (.slice (some ⟨g1,o1,none⟩) (rows.length-px) c1) (some (.int .i64 1)) none none).run Tryz.prog W'=.ok (.slice (some ⟨g1,p2,none⟩) (rows.length-px-1) c2) W':=DG;rw[List.drop_drop]at ED;have PO:∀q,(Value.slice (some ⟨g1,p2,none⟩) (rows.length-px-1) c2).ownBlock=some q→vr.ownBlock=some q:=fun q hq=>xd q hq;obtain⟨RV,yj⟩:∃x,x=Value.slice (some ⟨g1,p2,none⟩) (rows.length-px-1) c2:=⟨_,rfl⟩;rw[←yj]at ED PO;clear DG Tk rp mX
  obtain⟨p3,c3,mO,xe,DC⟩:=jZ.out px tV w6 au;have vV:=Qh (fun W (hW:Qb w6 W)=>ED.block (w':=W) (fun q hq=>hW.block q (by have:=vU.out q (PO q hq);have:=au.size;omega)));have AI:=Qh xe;have nZ:=Qh (And.intro hb au);have XG:(px:Int)≤(rows.length:Int):=by omega
  clear ED xe xd PO DC o6 jZ;go_upto_region 11 with(first
   | (at_builtin;refine ay BA rfl (.const (.slice none 0 0)) (.tmp 61) rfl rfl (aA.nil 55 _ w6.heap.size) (Nat.le_refl _) rfl AI.out (L6.out px) (by simp;omega) ?_;intro v1 W7 sR)
   | fail)
  skip;have j7:Qb w6 W7:=sR.bL (Below.refl _ _) (Nat.le_refl _) (fun q hq=>by have h0:(Value.slice none 0 0).ownBlock=some q:=hq;simp[Value.ownBlock]at h0);have DD:=HX.out _ (nZ.out.1.trans (j7.mono nZ.out.1.size));have PS:=Qh DD.2.1;have PT:=Qh DD.2.2;clear DD;have qp:=j7.trans ((aG (Below.refl W7.heap.size W7) (.cells (QV kk ki kg kn kf ka (.slice pk nk ck) kb kz vk vi vg vn vf va (.slice pv nv cv) vb vz) 55) (Nat.le_refl _)).mono j7.size)
  have lW:=sR.own.below (aG (Below.refl W7.heap.size W7) (.cells (QV kk ki kg kn kf ka (.slice pk nk ck) kb kz vk vi vg vn vf va (.slice pv nv cv) vb vz) 55) (Nat.le_refl _));have vW:=fG.out W7 (.cells (QV kk ki kg kn kf ka (.slice pk nk ck) kb kz vk vi vg vn vf va (.slice pv nv cv) vb vz) 55) rfl;have Gm:=Qh lW;have PU:=Qh vW;have BC:=Qh qp;have ig:=Qh sR;clear lW vW qp sR j7;go_upto_region 12 with(first
   | (refine Ql PS.out ?_)
   | (refine Ql PT.out ?_)
   | (at_builtin;refine ay BA rfl (.tmp 63) (.tmp 67) rfl rfl Gm.out BC.out.size rfl PU.out Jl.out (by simp;omega) ?_;intro v2 W9 uf)
   | fail)
  have lR:Qb w6 W9:=uf.bL BC.out BC.out.size (fun q hq=>by have h1:=(Gm.out.lt hq).1;exact h1);replace lR:=lR.trans ((aZ (Below.refl W9.heap.size W9)).mono lR.size);have n_:=nZ.out.2.trans (lR.mono nZ.out.2.size);have BD:=uf.own.below (aZ (Below.refl W9.heap.size W9));have DF:=vV.out _ lR;obtain⟨v3,om,FX,uF⟩:=dI BA BD lR.size 49 DF (L7.out _) (by simp;omega);have zB:Qb w6 om:=uF.bL lR lR.size (fun q hq=>(BD.lt hq).1);have jo:=nZ.out.2.trans (zB.mono nZ.out.2.size)
  have Jm:v3.oneCell'=true:=by obtain⟨p,c,e,_,_⟩:=uF.own.shape;rw[e];rfl
  have hP:=o5.out om jo v3 _ (uF.own.base (base':=w.heap.size) (fun q hq=>by have h1:=(uF.own.lt hq).1;have h2:=nZ.out.2.size;omega)) (by rw[if_pos rfl]);have k9:=eC.out _ n_;have pT:=eC.out _ jo;have XH:om.cell? ⟨gl,i*20+19,none⟩=some vr:=cO.out _ jo 19 _ rfl;have f10:=wG.out _ jo (i*20+19);have yp:(om.setCell ⟨gl,i*20+19,none⟩ v3).cell? ⟨y,0,none⟩=some (.slice (some ⟨gl,0,none⟩) nT cl):=(World.cell?_of_block (w:=om) (a:=⟨y,0,none⟩) (Below.heap_setCell _ _ _ _ Gl)).trans pT;have hst:=PI om ⟨gl,i*20+19,none⟩ vr v3 Jm XH f10
  refine wp_region_held_drew (S:=(fun w'=>w'.cell? ⟨y,0,none⟩=some (.slice (some ⟨gl,0,none⟩) nT cl))) (by kernel_rfl) ?_ (fun hHeld=>?_)
  ·exact k9
  refine run_in [0,1,2,3,4,5,6] ?_;iterate 3 refine Qe ?_
  refine Qc oZ (fun w hs=>hs) ?_;iterate 3 refine Qe ?_
  refine aI ?_;refine Qd 7 (fun K hK=>?_)
  refine bA (t:=49) (t':=49) (w':=om) (v:=v3) rfl (.tmp 74) (.tmp 75) rfl rfl rfl ?_ ?_
  ·first|exact FX|(rw[←yj];exact FX)|(rw[yj]at FX;exact FX)
  refine hK.out _ _ ?_ (fun hHeld=>?_)
  ·first|exact yp|exact pT
  clear hK K;(try simp only[Act.put,pA,pB,pC])
  refine run_in [8,9] ?_;iterate 2 refine Qe ?_
  refine aI ?_;refine Qd 10 (fun K hK=>?_);refine aR (by rfl) 49 (.tmp 78) (.tmp 76) rfl (p:=⟨gl,i*20+19,none⟩) (v:=v3) rfl rfl hst ?_
  refine hK.out _ _ ?_ (fun hHeld=>?_)
  ·first|exact yp|exact pT
  clear hK K;(try simp only[Act.put,pA,pB,pC])
  refine wpAnyH_done (by kernel_rfl) ?_ _;have HP:=Qh hP;clear hP;go_wp2_with fail;go_ret;exact⟨rfl,HP.out⟩
end
end Go.Proofs.YtfbggmbmgohiiaaGreat.tb
