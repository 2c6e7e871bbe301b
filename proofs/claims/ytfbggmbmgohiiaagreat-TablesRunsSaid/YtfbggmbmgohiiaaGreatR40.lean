/- TcV,TcW,TeB,TeC. No condition beyond theirs. -/
import Derived.Test.YtfbggmbmgohiiaaGreatR37
import Derived.Test.YtfbggmbmgohiiaaGreatR34
import Derived.Test.YtfbggmbmgohiiaaGreatR38
import Derived.Test.YtfbggmbmgohiiaaGreatR39
set_option linter.unusedSimpArgs false
set_option linter.unusedVariables false
set_option maxHeartbeats 4000000
set_option maxRecDepth 100000
namespace Go.Proofs.YtfbggmbmgohiiaaGreat.tb
open Go.RowKit mem rec tm names
def Pq{N:Nat}(w:World)(B:Nat)(F:Nat→Prop)(t:ct N)(k:Tm (N+1))(W:World):Prop:=∃vr,IL w B F t W F vr (t.rows.take (cG t k)++t.rows.drop (cG t k+1))
section
variable {N:Nat}{w w':World}{B:Nat}{F:Nat→Prop}{s:iy N}{t:ct N}{k:Tm (N+1)}
theorem Jg(h:fZ w B F t)(hty:Typed w F)(hfl:∀g,F g→g<w.heap.size)(hlen:t.rows.length≤1000000)(hp:cG t k<t.rows.length) :
 ∃g cap,t.vr=.slice (some ⟨g,0,none⟩) t.rows.length cap∧∀W,Below w.heap.size w W→Calls Tryz.prog 57 #[.slice (some ⟨g,0,none⟩) t.rows.length cap,.int .i64 (cG t k),.int .i64 ((cG t k:Int)+1)] W fun e w'=>e=.returned (.slice (some ⟨g,0,none⟩) (t.rows.length-1) cap)∧ax (fun q=>q=g) W w'∧w'.cell? ⟨t.b,19,none⟩=some (.slice (some ⟨g,0,none⟩) t.rows.length cap)∧w'.frozen? ⟨t.b,19,none⟩=false∧Pq w B F t k (w'.setCell ⟨t.b,19,none⟩ (.slice (some ⟨g,0,none⟩) (t.rows.length-1) cap)):=by
 obtain⟨g,cap,cur,hv,mC,hg,hnc,gW,hcs,tX⟩:=kP h.rows (by omega);refine⟨g,cap,hv,fun W hb=>?_⟩;have hW:=h.below hb hfl;have hown:=hW.rows;rw[hv]at hown;have hne:g≠t.b:=dX (br hg) (br h.blk) (by decide);have Sr:g<w.heap.size:=(Qg hg);refine(Jc hown hW.enc hlen hp).mono ?_;rintro e w' ⟨rfl,yc,hT⟩;have jU:w'.heap[t.b]?=some (.cells (vG t).toArray 98):=(hT.block _ hW.lt (fun e=>hne e.symm)).trans hW.blk;obtain⟨_,_,_,kE,hfz⟩:=dN jU;refine⟨rfl,hT,kE.trans (by rw[hv]),hfz 19,.slice (some ⟨g,0,none⟩) (t.rows.length-1) cap,?_⟩
 have fQ:∀q,q≠t.b→(w'.setCell ⟨t.b,19,none⟩ (.slice (some ⟨g,0,none⟩) (t.rows.length-1) cap)).heap[q]?=w'.heap[q]?:=fun q hq=>Below.heap_setCell _ _ _ _ hq;have IP:∀q,F q→q≠t.b∧q≠g:=fun q hq=>⟨dX (oP hty hq) (br h.blk) (by decide),dX (oP hty hq) (br hg) (by decide)⟩;have zV:∀q,F q→(w'.setCell ⟨t.b,19,none⟩ (.slice (some ⟨g,0,none⟩) (t.rows.length-1) cap)).heap[q]?=w.heap[q]?:=fun q hq=>(fQ q (IP q hq).1).trans ((hT.block q (Nat.lt_of_lt_of_le (hfl q hq) hb.size) (IP q hq).2).trans (hb.block q (hfl q hq)))
 have hsz:(w'.setCell ⟨t.b,19,none⟩ (.slice (some ⟨g,0,none⟩) (t.rows.length-1) cap)).heap.size=w'.heap.size:=by simp
 refine⟨⟨?_,?_,h.ld.mono zV (fun _ q=>q),h.pX.mono zV (fun _ q=>q),?_,h.low⟩,?_,fun _ q=>q,hty.same zV,?_,fun q hq=>?_,fun _ q=>.inl q⟩
 ·exact(fp jU _).trans (by rw[EW t _ (t.rows.take (cG t k)++t.rows.drop (cG t k+1))])
 ·exact yc.same (fun q hq=>fQ q (fun e=>by
   have:q=g:=(Option.some.inj hq).symm
   exact hne (this.symm.trans e)))
 ·intro r hr;have hr:r∈t.rows.take (cG t k)++t.rows.drop (cG t k+1):=hr;have hm:r∈t.rows:=by
   rcases List.mem_append.1 hr with hr|hr
   ·exact List.mem_of_mem_take hr
   ·exact List.mem_of_mem_drop hr
  have:=h.gU r hm;exact⟨this.1.mono zV (fun _ q=>q),this.2.mono zV (fun _ q=>q)⟩
 ·exact ax.setCell (((ax.refl _ _).bJ hb (Nat.le_refl _)).trans hT (fun q _ e=>.inr (by rw[hv,e];rfl))) _ _ (fun _=>.inl rfl)
 ·intro q hq;rw[hsz];exact Nat.lt_of_lt_of_le (hfl q hq) (Nat.le_trans hb.size hT.size)
 ·exact .inl (by rw[hv];exact hq)
theorem Jh(h:cN w B F s)(hlen:s.tabs.length≤1000){r k:Tm (N+1)}{ur uk:Value}{B2:Nat}(hB:B2≤w.heap.size)(hI:ah w B2 N ur r.items)(hJ:ah w B2 N uk k.items)(hnk:ap k≤100000000){er:Int}(he:er≠0)(qd:sI s.tabs r k none er) :
 Calls Tryz.prog 22 #[.pointer (some ⟨s.z,0,none⟩),aj r.f ur,aj k.f uk] w fun e w'=>e=.returned (.tuple #[.bool false,.int .i64 er])∧Below w.heap.size w w':=by
 have iT:=Qh (fun(W:World) (hW:Qb w W)=>jl (h.below hW) hlen (Nat.le_trans hB hW.size) (hI.below hW hB) (hJ.below hW hB) (by omega) (po:=none) (er:=er) qd);obtain⟨pr,cr,gQ,_,_⟩:=hI.shape;obtain⟨pk,ck,ek,_,_⟩:=hJ.shape;rw[gQ]at iT ⊢;rw[ek]at iT ⊢;clear h hlen hB hI hJ hnk qd gQ ek;generalize s.z=z at*;generalize r.items.length=nr at*;generalize k.items.length=nk at*;generalize r.f=fr at*;generalize k.f=fk at*;obtain⟨rk,ri,rg,rn,rf,ra,rb,rs⟩:=fr;obtain⟨kk,ki,kg,kn,kf,ka,kb,ks⟩:=fk;unfold aj at*;dsimp only at*
 obtain⟨hb0,eA,cI⟩:=bI w (.cells (a9 rk ri rg rn rf ra (.slice pr nr cr) rb rs) 24) (.cells (a9 kk ki kg kn kf ka (.slice pk nk ck) kb ks) 24);go_enter Tryz.func22,Tryz.ntmps22;go_upto_region 1 with(fail);generalize((w.alloc (.cells (a9 rk ri rg rn rf ra (.slice pr nr cr) rb rs) 24)).alloc (.cells (a9 kk ki kg kn kf ka (.slice pk nk ck) kb ks) 24))=W1 at*;have tJ:=Qh (aq eA);have gm:=Qh (aq cI);have rY:=Qh cI;have hlt:=(Qg cI);have bu:=Qh hb0;clear eA cI hb0;go_wp2_with (first
  | (refine Ql tJ.out ?_)
  | (refine Ql gm.out ?_))
 refine(iT.out _ bu.out).mono ?_;rintro e w2 ⟨rfl,a_⟩;have bS:=Qh (bu.out.trans (a_.mono bu.out.size));have Gj:=Qh ((a_.block _ hlt).trans rY.out);have FI:=Nat.lt_of_lt_of_le hlt a_.size;clear tJ gm a_ iT bu rY hlt;go_wp2_with fail;go_ret2
 exact⟨rfl,bS.out⟩
theorem Pr(h:cN w B F s)(hlen:s.tabs.length≤1000){r k:Tm (N+1)}{ur uk:Value}{B2:Nat}(hB:B2≤w.heap.size)(hI:ah w B2 N ur r.items)(hJ:ah w B2 N uk k.items)(hnk:ap k≤100000000)(wF:aC k=true){i:Nat}(hi:i<s.tabs.length)(hr:dK s.tabs r=some i)(hok:lp s.tabs[i] k)(hno:iz s.tabs[i] k=false) :
 Calls Tryz.prog 22 #[.pointer (some ⟨s.z,0,none⟩),aj r.f ur,aj k.f uk] w fun e w'=>e=.returned (.tuple #[.bool false,.int .i64 0])∧Below w.heap.size w w':=by
 have ht:=h.tabs _ (List.getElem_mem hi);have qd:sI s.tabs r k (some ⟨(s.tabs[i]).b,0,none⟩) 0:=.inr ⟨wF,.inr ⟨i,hi,hr,rfl,rfl⟩⟩;have qE:=Qh (fun(W:World) (hW:Qb w W)=>qy (ht.below hW h.fl) (fun g hg=>Nat.lt_of_lt_of_le (h.fl g hg) hW.size) (Nat.le_trans hB hW.size) (hJ.below hW hB) (by omega) hok);have iT:=Qh (fun(W:World) (hW:Qb w W)=>jl (h.below hW) hlen (Nat.le_trans hB hW.size) (hI.below hW hB) (hJ.below hW hB) (by omega) (po:=some ⟨(s.tabs[i]).b,0,none⟩) (er:=0) qd);obtain⟨pr,cr,gQ,_,_⟩:=hI.shape;obtain⟨pk,ck,ek,_,_⟩:=hJ.shape;rw[gQ]at iT ⊢;rw[ek]at iT qE ⊢
 rw[hno]at qE;generalize cG s.tabs[i] k=pos at*;generalize(s.tabs[i]).b=tb at*;clear h hlen hB hI hJ hnk qd gQ ek ht hok hno hr hi wF;generalize s.z=z at*;generalize r.items.length=nr at*;generalize k.items.length=nk at*;generalize r.f=fr at*;generalize k.f=fk at*;obtain⟨rk,ri,rg,rn,rf,ra,rb,rs⟩:=fr;obtain⟨kk,ki,kg,kn,kf,ka,kb,ks⟩:=fk;unfold aj at*;dsimp only at*;obtain⟨hb0,eA,cI⟩:=bI w (.cells (a9 rk ri rg rn rf ra (.slice pr nr cr) rb rs) 24) (.cells (a9 kk ki kg kn kf ka (.slice pk nk ck) kb ks) 24);go_enter Tryz.func22,Tryz.ntmps22
 go_upto_region 1 with(fail);generalize((w.alloc (.cells (a9 rk ri rg rn rf ra (.slice pr nr cr) rb rs) 24)).alloc (.cells (a9 kk ki kg kn kf ka (.slice pk nk ck) kb ks) 24))=W1 at*;have tJ:=Qh (aq eA);have gm:=Qh (aq cI);have rY:=Qh cI;have hlt:=(Qg cI);have bu:=Qh hb0;clear eA cI hb0;go_wp2_with (first
  | (refine Ql tJ.out ?_)
  | (refine Ql gm.out ?_))
 refine(iT.out _ bu.out).mono ?_;rintro e w2 ⟨rfl,a_⟩;have bS:=Qh (bu.out.trans (a_.mono bu.out.size));have Gj:=Qh ((a_.block _ hlt).trans rY.out);have FI:=Nat.lt_of_lt_of_le hlt a_.size;clear tJ gm a_ iT bu rY hlt;have gm:=Qh (aq Gj.out);go_wp2_with (first
  | (refine Ql gm.out ?_))
 refine(qE.out _ bS.out).mono ?_;rintro e w3 ⟨rfl,bN⟩;have dJ:=Qh (bS.out.trans (bN.mono bS.out.size));clear bN bS gm qE Gj FI;go_wp2_with fail;go_ret2
 exact⟨rfl,dJ.out⟩
theorem Ps(h:cN w B F s)(hlen:s.tabs.length≤1000){r k:Tm (N+1)}{ur uk:Value}{B2:Nat}(hB:B2≤w.heap.size)(hI:ah w B2 N ur r.items)(hJ:ah w B2 N uk k.items)(hnk:ap k≤100000000)(wF:aC k=true){i:Nat}(hi:i<s.tabs.length)(hr:dK s.tabs r=some i)(hok:lp s.tabs[i] k)(eP:iz s.tabs[i] k=true)(hp:cG s.tabs[i] k<(s.tabs[i]).rows.length) :
 Calls Tryz.prog 22 #[.pointer (some ⟨s.z,0,none⟩),aj r.f ur,aj k.f uk] w fun e w'=>e=.returned (.tuple #[.bool true,.int .i64 0])∧Pq w B F s.tabs[i] k w':=by
 have ht:=h.tabs _ (List.getElem_mem hi);have qd:sI s.tabs r k (some ⟨(s.tabs[i]).b,0,none⟩) 0:=.inr ⟨wF,.inr ⟨i,hi,hr,rfl,rfl⟩⟩;have qE:=Qh (fun(W:World) (hW:Qb w W)=>qy (ht.below hW h.fl) (fun g hg=>Nat.lt_of_lt_of_le (h.fl g hg) hW.size) (Nat.le_trans hB hW.size) (hJ.below hW hB) (by omega) hok);have iT:=Qh (fun(W:World) (hW:Qb w W)=>jl (h.below hW) hlen (Nat.le_trans hB hW.size) (hI.below hW hB) (hJ.below hW hB) (by omega) (po:=some ⟨(s.tabs[i]).b,0,none⟩) (er:=0) qd);obtain⟨pr,cr,gQ,_,_⟩:=hI.shape;obtain⟨pk,ck,ek,_,_⟩:=hJ.shape;rw[gQ]at iT ⊢;rw[ek]at iT qE ⊢
 rw[eP]at qE;obtain⟨g,cap,ev,hst⟩:=Jg ht h.ty h.fl hok.len hp;have htb:=ht.lt;have L5:=Qh hst;have hgt:=dX (dW ht.rows (k:=g) (by rw[ev];rfl)) (br ht.blk) (by decide);have Xy:Hid (∀W,Qb w W→W.cell? ⟨(s.tabs[i]).b,19,none⟩=some (.slice (some ⟨g,0,none⟩) (s.tabs[i]).rows.length cap)):=Qh (fun W hW=>by rw[←ev];exact aQ hW htb (dN ht.blk).2.2.2.1);have hpz:(cG s.tabs[i] k:Int)<((s.tabs[i]).rows.length:Int):=by omega
 have hlr:=hok.len;clear hst ev hgt;generalize Pq w B F s.tabs[i] k=Dq at*;generalize cG s.tabs[i] k=pos at*;generalize(s.tabs[i]).rows.length=n at*;generalize(s.tabs[i]).b=tb at*;clear h hlen hB hI hJ hnk qd gQ ek ht hok eP hr hi wF;generalize s.z=z at*;generalize r.items.length=nr at*;generalize k.items.length=nk at*;generalize r.f=fr at*;generalize k.f=fk at*;obtain⟨rk,ri,rg,rn,rf,ra,rb,rs⟩:=fr;obtain⟨kk,ki,kg,kn,kf,ka,kb,ks⟩:=fk;unfold aj at*;dsimp only at*
 obtain⟨hb0,eA,cI⟩:=bI w (.cells (a9 rk ri rg rn rf ra (.slice pr nr cr) rb rs) 24) (.cells (a9 kk ki kg kn kf ka (.slice pk nk ck) kb ks) 24);go_enter Tryz.func22,Tryz.ntmps22;go_upto_region 1 with(fail);generalize((w.alloc (.cells (a9 rk ri rg rn rf ra (.slice pr nr cr) rb rs) 24)).alloc (.cells (a9 kk ki kg kn kf ka (.slice pk nk ck) kb ks) 24))=W1 at*;have tJ:=Qh (aq eA);have gm:=Qh (aq cI);have rY:=Qh cI;have hlt:=(Qg cI);have bu:=Qh hb0;clear eA cI hb0;go_wp2_with (first
  | (refine Ql tJ.out ?_)
  | (refine Ql gm.out ?_))
 refine(iT.out _ bu.out).mono ?_;rintro e w2 ⟨rfl,a_⟩;have bS:=Qh (bu.out.trans (a_.mono bu.out.size));have Gj:=Qh ((a_.block _ hlt).trans rY.out);have FI:=Nat.lt_of_lt_of_le hlt a_.size;clear tJ gm a_ iT bu rY hlt;have gm:=Qh (aq Gj.out);go_wp2_with (first
  | (refine Ql gm.out ?_))
 refine(qE.out _ bS.out).mono ?_;rintro e w3 ⟨rfl,bN⟩;have dJ:=Qh (bS.out.trans (bN.mono bS.out.size));clear bN bS gm qE Gj FI;have kE:=Xy.out _ dJ.out;have ZB:IntKind.i64.wrap ((pos:Int)+1)=(pos:Int)+1:=IntWalk.i64_in _ (by omega);go_wp2_with fail;refine(L5.out _ dJ.out).mono ?_;rintro e w4 ⟨rfl,hT,hc,hf,hq⟩;have HQ:=Qh hq;clear hq kE;go_wp2_with fail;go_ret2
 exact⟨rfl,HQ.out⟩
end
structure bW(N:Nat) where
 ref:Tm (N+1)
 own:Tm (N+1)
 hs:Bool
 rows:List (Tm (N+1)×Tm (N+1))
def fE{N:Nat}(t:ct N):bW N:=⟨t.ref,t.own,t.hs,g4 t⟩
def n9{N:Nat}(B z:Nat)(A:List (bW N))(W:World):Prop:=∃F vl tabs,cN W B F ⟨z,vl,tabs⟩∧tabs.map fE=A∧∀t∈tabs,fq t
noncomputable def d_{N:Nat}(A:List (bW N))(r:Tm (N+1)):Option Nat:=A.findIdx? (fun x=>dL x.ref r)
noncomputable def kH{N:Nat}(A:List (bW N))(r:Tm (N+1)):Option (bW N):=(d_ A r).bind (fun i=>A[i]?)
structure Fb{N:Nat}(A:List (bW N)):Prop where
 len:A.length≤1000
 rows:∀a∈A,a.rows.length≤1000000
noncomputable def ue{N:Nat}(A:List (bW N))(r:Tm (N+1))(f:bW N→List (Tm (N+1)×Tm (N+1))):List (bW N):=match d_ A r with
 | none=>A
 | some i=>match A[i]? with
  | none=>A
  | some a=>A.set i { a with rows:=f a }
noncomputable def jm{N:Nat}(A:List (bW N))(r k v:Tm (N+1)):Int:=if aC v then(if aC k then(match d_ A r with|none=>4|some _=>0) else 2) else 2
noncomputable def iU{N:Nat}(A:List (bW N))(r k v:Tm (N+1)):List (bW N):=if aC v&&aC k then ue A r (fun a=>lH (bM a.hs) a.rows k v) else A
noncomputable def eB{N:Nat}(A:List (bW N))(r k:Tm (N+1)):Tm (N+1)×Bool×Int:=if aC k then(match kH A r with
 | none=>(zT,false,4)
 | some a=>match pZ (bM a.hs) a.rows k with
  | none=>(zT,false,0)
  | some v=>(v,true,0)) else(zT,false,2)
noncomputable def iV{N:Nat}(A:List (bW N))(r k:Tm (N+1)):Bool×Int:=if aC k then(match kH A r with
 | none=>(false,4)
 | some a=>(gp (bM a.hs) a.rows k,0)) else(false,2)
noncomputable def jF{N:Nat}(A:List (bW N))(r k:Tm (N+1)):List (bW N):=if aC k then ue A r (fun a=>kG (bM a.hs) a.rows k) else A
noncomputable def g5{N:Nat}(A:List (bW N))(r:Tm (N+1)):Int×Int:=match kH A r with
 | none=>(0,4)
 | some a=>(a.rows.length,0)
noncomputable def eO{N:Nat}(A:List (bW N))(r o:Tm (N+1)):Int:=if decide (r.f.kind=3)&&decide (o.f.kind=6)&&aC r&&aC o then(match d_ A r with
 | some _=>8
 | none=>if 64≤A.length then 5 else 0) else 2
noncomputable def oY{N:Nat}(A:List (bW N))(r o:Tm (N+1))(hs:Bool):List (bW N):=if eO A r o=0 then A++[⟨r,o,hs,[]⟩] else A
section
variable {N:Nat}{B z:Nat}{A:List (bW N)}{W W':World}
theorem n9.below(h:n9 B z A W)(hb:Below W.heap.size W W'):n9 B z A W':=by
 obtain⟨F,vl,tabs,h1,h2⟩:=h;exact⟨F,vl,tabs,h1.below hb,h2⟩
theorem n9.lt(h:n9 B z A W):z<W.heap.size:=by
 obtain⟨F,vl,tabs,h1,h2⟩:=h;exact h1.Kn
theorem Bt(tabs:List (ct N))(r:Tm (N+1)):d_ (tabs.map fE) r=dK tabs r:=by
 unfold d_ dK;rw[List.findIdx?_map];rfl
theorem rK{r:Tm (N+1)}{i:Nat}(h:d_ A r=some i):∃a,A[i]?=some a∧a.ref=r:=by
 unfold d_ at h;rw[List.findIdx?_eq_some_iff_getElem]at h;obtain⟨hi,hp,_⟩:=h;exact⟨_,List.getElem?_eq_getElem hi,oH hp⟩
theorem bZ.nil(w w':World):bZ w w' (fun _=>False) N aK (zT:Tm (N+1)).items:=⟨bl.jH (by decide),fun g hg=>hg.elim,fun g hg=>hg.elim⟩
theorem Fc{tabs:List (ct N)}(h2:tabs.map fE=A)(h3:∀t∈tabs,fq t)(hs:Fb A)(r:Tm (N+1)):tabs.length≤1000 ∧
 ((d_ A r=none∧dK tabs r=none∧kH A r=none)∨∃i,∃hi:i<tabs.length,d_ A r=some i∧dK tabs r=some i∧A[i]?=some (fE tabs[i])∧kH A r=some (fE tabs[i])∧fq tabs[i]∧(tabs[i]).rows.length≤1000000):=by
 subst h2;refine⟨by have:=hs.len;rwa[List.length_map]at this,?_⟩;cases hr:dK tabs r with
 | none =>
  have e:d_ (tabs.map fE) r=none:=by rw[Bt,hr]
  exact .inl ⟨e,rfl,by unfold kH;rw[e];rfl⟩
 | some i =>
  have e:d_ (tabs.map fE) r=some i:=by rw[Bt,hr]
  obtain⟨hi,_⟩:=Bc hr;have ea:(tabs.map fE)[i]?=some (fE tabs[i]):=by rw[List.getElem?_map,List.getElem?_eq_getElem hi];rfl
  have hl:=hs.rows (fE tabs[i]) (List.mem_map.2 ⟨_,List.getElem_mem hi,rfl⟩);refine .inr ⟨i,hi,e,rfl,ea,by unfold kH;rw[e];exact ea,h3 _ (List.getElem_mem hi),?_⟩;unfold fE g4 at hl;rwa[List.length_map]at hl
theorem n9.open(h:n9 B z A W)(hs:Fb A)(r:Tm (N+1)):∃F vl tabs,cN W B F ⟨z,vl,tabs⟩∧tabs.map fE=A∧(∀t∈tabs,fq t)∧tabs.length≤1000 ∧
 ((d_ A r=none∧dK tabs r=none∧kH A r=none)∨∃i,∃hi:i<tabs.length,d_ A r=some i∧dK tabs r=some i∧A[i]?=some (fE tabs[i])∧kH A r=some (fE tabs[i])∧fq tabs[i]∧(tabs[i]).rows.length≤1000000):=by
 obtain⟨F,vl,tabs,h1,h2,h3⟩:=h;exact⟨F,vl,tabs,h1,h2,h3,Fc h2 h3 hs r⟩
def GR(G:Nat→Prop)(B z:Nat)(A:List (bW N))(W:World):Prop:=∃F vl tabs,cN W B F ⟨z,vl,tabs⟩∧tabs.map fE=A∧(∀t∈tabs,fq t)∧∀g,F g→¬G g
theorem GR.st{G:Nat→Prop}(h:GR G B z A W):n9 B z A W:=by
 obtain⟨F,vl,tabs,h1,h2,h3,_⟩:=h;exact⟨F,vl,tabs,h1,h2,h3⟩
theorem n9.x(h:n9 B z A W){G:Nat→Prop}(hG:∀g,G g→W.heap.size≤g):GR G B z A W:=by
 obtain⟨F,vl,tabs,h1,h2,h3⟩:=h;exact⟨F,vl,tabs,h1,h2,h3,fun g hg UM=>by have:=h1.fl g hg;have:=hG g UM;omega⟩
theorem GR.below{G:Nat→Prop}(h:GR G B z A W)(hb:Below W.heap.size W W'):GR G B z A W':=by
 obtain⟨F,vl,tabs,h1,h2⟩:=h;exact⟨F,vl,tabs,h1.below hb,h2⟩
theorem GR.aX{G:Nat→Prop}(h:GR G B z A W)(ht:ax G W W')(hG:∀g,G g→∀t,dA W g=some t→¬eF t):GR G B z A W':=by
 obtain⟨F,vl,tabs,h1,h2,h3,h4⟩:=h;refine⟨F,vl,tabs,h1.same (fun k hk hc=>ht.block k hk (fun hg=>?_)) ht.size,h2,h3,h4⟩
 rcases hc with hc|⟨t,e,hc⟩
 ·exact h4 k hc hg
 ·exact hG k hg t e hc
theorem n9.set{tabs:List (ct N)}(hg:∀t∈tabs,fq t){i:Nat}{t':ct N}(h':fq t'):∀t∈tabs.set i t',fq t:=fun t ht=>by
 rcases List.mem_or_eq_of_mem_set ht with ht|rfl
 ·exact hg t ht
 ·exact h'
theorem Fe{tabs:List (ct N)}{i:Nat}{t':ct N}:(tabs.set i t').map fE=(tabs.map fE).set i (fE t'):=by
 refine List.ext_getElem? fun j=>?_;rw[List.getElem?_map,List.getElem?_set,List.getElem?_set,List.length_map,List.getElem?_map]
 split
 ·split <;> rfl
 ·rfl
variable {r k v o:Tm (N+1)}{ur uk uv uo:Value}{B2:Nat}
theorem Pu{G:Nat→Prop}(h:GR G B z A W)(hG:∀g,G g→g<W.heap.size)(hs:Fb A)(hB:B≤W.heap.size)(hBw:B2≤W.heap.size)(hI:ah W B2 N ur r.items)(hJ:ah W B2 N uk k.items)(hV:ah W B2 N uv v.items)(hnk:ap k≤100000000)(qN:ap v≤100000000)
 (UD:∀Wm,W.heap.size≤Wm.heap.size→(∀g,g<W.heap.size→(g<B∨∀t,dA W g=some t→¬eF t)→Wm.heap[g]?=W.heap[g]?)→ah Wm Wm.heap.size N uv v.items) :
 Calls Tryz.prog 24 #[.pointer (some ⟨z,0,none⟩),aj r.f ur,aj k.f uk,aj v.f uv] W fun e w'=>e=.returned (.int .i64 (jm A r k v))∧GR G B z (iU A r k v) w'∧TT eF B W w':=by
 obtain⟨F,vl,tabs,h1,h2,h3,hx⟩:=h;obtain⟨hl,hc⟩:=Fc h2 h3 hs r;have old:∀{e:Ending} {w':World},Qb W w'→GR G B z A w'∧TT eF B W w':=fun hb=>⟨⟨F,vl,tabs,h1.below hb,h2,h3,hx⟩,TT.new hb⟩
 cases hv:aC v
 ·have e1:jm A r k v=2:=by unfold jm;rw[hv,if_neg (by decide)]
  have e2:iU A r k v=A:=by unfold iU;rw[hv];rfl
  rw[e1,e2];refine(Pe h1 hl hBw hI hJ hV hnk qN hv).mono ?_;rintro e w' ⟨rfl,hb⟩;exact⟨rfl,old (e:=.returned (.int .i64 2)) hb⟩
 ·cases hk:aC k
  ·have e1:jm A r k v=2:=by unfold jm;rw[hv,hk,if_pos rfl,if_neg (by decide)]
   have e2:iU A r k v=A:=by unfold iU;rw[hv,hk];rfl
   rw[e1,e2];refine(I9 h1 hl hBw hI hJ hV hnk qN hv (er:=2) (by decide) (.inl ⟨hk,rfl,rfl⟩)).mono ?_;rintro e w' ⟨rfl,hb⟩;exact⟨rfl,old (e:=.returned (.int .i64 2)) hb⟩
  ·rcases hc with⟨c1,c2,c3⟩|⟨i,hi,c1,c2,c3,c4,c5,c6⟩
   ·have e1:jm A r k v=4:=by unfold jm;rw[hv,hk,if_pos rfl,if_pos rfl,c1]
    have e2:iU A r k v=A:=by unfold iU ue;rw[hv,hk,c1];rfl
    rw[e1,e2];refine(I9 h1 hl hBw hI hJ hV hnk qN hv (er:=4) (by decide) (.inr ⟨hk,.inl ⟨c2,rfl,rfl⟩⟩)).mono ?_;rintro e w' ⟨rfl,hb⟩;exact⟨rfl,old (e:=.returned (.int .i64 4)) hb⟩
   ·have e1:jm A r k v=0:=by unfold jm;rw[hv,hk,if_pos rfl,if_pos rfl,c1]
    have e2:iU A r k v=A.set i { fE tabs[i]with rows:=lH (bM (fE tabs[i]).hs) (fE tabs[i]).rows k v }:=by
     unfold iU ue;rw[hv,hk,c1];dsimp only;rw[c3];rfl
    rw[e1,e2];have ht:=h1.tabs _ (List.getElem_mem hi)
    refine(IR h1 hB hl hBw hI hJ hV hnk qN hk hv hi c2 (c5.find c6 k) (fun Wm hm=>?_)).mono ?_
    ·obtain⟨F1,WY,vr,hq⟩:=hm;refine UD Wm hq.aX.size (fun g hg hn=>hq.aX.block g hg ?_)
     rintro(rfl|e)
     ·rcases hn with hn|hn
      ·exact absurd hn (Nat.not_lt.2 ht.low)
      ·exact hn 98 (br ht.blk) (.inr (.inr (.inl rfl)))
     ·rcases hn with hn|hn
      ·exact absurd hn (Nat.not_lt.2 (ht.rows.lt e).1)
      ·exact hn 108 (dW ht.rows e) (.inr (.inr (.inr rfl)))
    rintro e w' ⟨rfl,F1,WY,uv',vr,hq⟩;obtain⟨h4,h5⟩:=hq.Nf h1 hi;refine⟨rfl,⟨F1,vl,_,h4,?_,n9.set h3 (c5.put hk hnk qN),fun g hg UM=>by rcases hq.new g hg with e|e;exact hx g e UM;have:=hG g UM;omega⟩,h5⟩;rw[Fe,h2];show A.set i ⟨_,_,_,(nH tabs[i] k v WY uv').map (fun r=>(r.k,r.v))⟩=_;rw[rJ c5];rfl
theorem Tc(h:n9 B z A W)(hs:Fb A)(hB:B≤W.heap.size)(gZ:B2≤B)(hI:ah W B2 N ur r.items)(hJ:ah W B2 N uk k.items)(hV:ah W B2 N uv v.items)(hnk:ap k≤100000000)(qN:ap v≤100000000) :
 Calls Tryz.prog 24 #[.pointer (some ⟨z,0,none⟩),aj r.f ur,aj k.f uk,aj v.f uv] W fun e w'=>e=.returned (.int .i64 (jm A r k v))∧n9 B z (iU A r k v) w'∧TT eF B W w':=by
 refine(Pu (h.x (G:=fun _=>False) (fun _ e=>e.elim)) (fun _ e=>e.elim) hs hB (Nat.le_trans gZ hB) hI hJ hV hnk qN (fun Wm hz hk=>(hV.same (fun g hg=>hk g (by omega) (.inl (by omega)))).more (by omega))).mono ?_;rintro e w' ⟨h1,h2,h3⟩;exact⟨h1,h2.st,h3⟩
def Xz{N:Nat}(x:Tm (N+1)×Bool×Int)(W:World)(e:Ending)(w':World):Prop:=∃F1 u,e=.returned (.tuple #[aj x.1.f u,.bool x.2.1,.int .i64 x.2.2])∧Below W.heap.size W w'∧bZ W w' F1 N u x.1.items
theorem Td(h:n9 B z A W)(hs:Fb A)(gZ:B2≤W.heap.size)(hI:ah W B2 N ur r.items)(hJ:ah W B2 N uk k.items)(hnk:ap k≤100000000) :
 Calls Tryz.prog 32 #[.pointer (some ⟨z,0,none⟩),aj r.f ur,aj k.f uk] W (Xz (eB A r k) W):=by
 obtain⟨F,vl,tabs,h1,h2,h3,hl,hc⟩:=h.open hs r
 cases hk:aC k
 ·have e1:eB A r k=(zT,false,2):=by unfold eB;rw[hk,if_neg (by decide)]
  rw[e1];refine(I7 h1 hl gZ hI hJ hnk (er:=2) (by decide) (.inl ⟨hk,rfl,rfl⟩)).mono ?_;rintro e w' ⟨rfl,hb⟩;exact⟨_,aK,rfl,hb,bZ.nil W w'⟩
 ·rcases hc with⟨c1,c2,c3⟩|⟨i,hi,c1,c2,c3,c4,c5,c6⟩
  ·have e1:eB A r k=(zT,false,4):=by unfold eB;rw[hk,if_pos rfl,c3]
   rw[e1];refine(I7 h1 hl gZ hI hJ hnk (er:=4) (by decide) (.inr ⟨hk,.inl ⟨c2,rfl,rfl⟩⟩)).mono ?_;rintro e w' ⟨rfl,hb⟩;exact⟨_,aK,rfl,hb,bZ.nil W w'⟩
  ·have eh:=c5.has k
   cases hh:iz tabs[i] k
   ·have e0:pZ (bM (fE tabs[i]).hs) (fE tabs[i]).rows k=none:=by
     show pZ (bM (tabs[i]).hs) (g4 tabs[i]) k=none;unfold pZ;rw[←eh,hh,if_neg (by decide)]
    have e1:eB A r k=(zT,false,0):=by unfold eB;rw[hk,if_pos rfl,c4];dsimp only;rw[e0]
    rw[e1];refine(O_ h1 hl gZ hI hJ hnk hk hi c2 (c5.find c6 k) hh).mono ?_;rintro e w' ⟨rfl,hb⟩;exact⟨_,aK,rfl,hb,bZ.nil W w'⟩
   ·obtain⟨hp,_⟩:=c5.LP hh;have e0:pZ (bM (fE tabs[i]).hs) (fE tabs[i]).rows k=some ((tabs[i]).rows[cG tabs[i] k]).v:=by
     show pZ (bM (tabs[i]).hs) (g4 tabs[i]) k=_;unfold pZ;rw[←eh,hh,if_pos rfl,←c5.pos k];unfold g4;rw[List.getElem?_map,List.getElem?_eq_getElem hp];rfl
    have e1:eB A r k=(((tabs[i]).rows[cG tabs[i] k]).v,true,0):=by unfold eB;rw[hk,if_pos rfl,c4];dsimp only;rw[e0]
    rw[e1];refine(Pa h1 hl gZ hI hJ hnk hk hi c2 (c5.find c6 k) hh hp (c5.nd _ (List.getElem_mem hp)).2).mono ?_;rintro e w' ⟨F1,u,he,hb,hN⟩;exact⟨F1,u,he,hb,hN⟩
theorem Te(h:n9 B z A W)(hs:Fb A)(gZ:B2≤W.heap.size)(hI:ah W B2 N ur r.items)(hJ:ah W B2 N uk k.items)(hnk:ap k≤100000000) :
 Calls Tryz.prog 22 #[.pointer (some ⟨z,0,none⟩),aj r.f ur,aj k.f uk] W fun e w'=>e=.returned (.tuple #[.bool (iV A r k).1,.int .i64 (iV A r k).2])∧n9 B z (jF A r k) w'∧TT eF B W w':=by
 obtain⟨F,vl,tabs,h1,h2,h3,hl,hc⟩:=h.open hs r
 cases hk:aC k
 ·have e1:iV A r k=(false,2):=by unfold iV;rw[hk,if_neg (by decide)]
  have e2:jF A r k=A:=by unfold jF;rw[hk,if_neg (by decide)]
  rw[e1,e2];refine(Jh h1 hl gZ hI hJ hnk (er:=2) (by decide) (.inl ⟨hk,rfl,rfl⟩)).mono ?_;rintro e w' ⟨rfl,hb⟩;exact⟨rfl,h.below hb,TT.new hb⟩
 ·rcases hc with⟨c1,c2,c3⟩|⟨i,hi,c1,c2,c3,c4,c5,c6⟩
  ·have e1:iV A r k=(false,4):=by unfold iV;rw[hk,if_pos rfl,c3]
   have e2:jF A r k=A:=by unfold jF ue;rw[hk,if_pos rfl,c1]
   rw[e1,e2];refine(Jh h1 hl gZ hI hJ hnk (er:=4) (by decide) (.inr ⟨hk,.inl ⟨c2,rfl,rfl⟩⟩)).mono ?_;rintro e w' ⟨rfl,hb⟩;exact⟨rfl,h.below hb,TT.new hb⟩
  ·have eh:iz tabs[i] k=gp (bM (fE tabs[i]).hs) (fE tabs[i]).rows k:=c5.has k;have e2:jF A r k=A.set i { fE tabs[i]with rows:=kG (bM (fE tabs[i]).hs) (fE tabs[i]).rows k }:=by
    unfold jF ue;rw[hk,if_pos rfl,c1];dsimp only;rw[c3]
   have e1:iV A r k=(iz tabs[i] k,0):=by unfold iV;rw[hk,if_pos rfl,c4];dsimp only;rw[eh]
   rw[e1]
   cases hh:iz tabs[i] k
   ·have e3:jF A r k=A:=by
     rw[e2];have:kG (bM (fE tabs[i]).hs) (fE tabs[i]).rows k=(fE tabs[i]).rows:=by unfold kG;rw[←eh,hh,if_neg (by decide)]
     rw[this];refine List.ext_getElem? fun j=>?_;rw[List.getElem?_set]
     split
     ·rename_i e;subst e;split
      ·exact c3.symm
      ·rename_i hn;rw[List.getElem?_eq_none (by omega)]
     ·rfl
    rw[e3];refine(Pr h1 hl gZ hI hJ hnk hk hi c2 (c5.find c6 k) hh).mono ?_;rintro e w' ⟨rfl,hb⟩;exact⟨rfl,h.below hb,TT.new hb⟩
   ·obtain⟨hp,_⟩:=c5.LP hh;rw[e2];refine(Ps h1 hl gZ hI hJ hnk hk hi c2 (c5.find c6 k) hh hp).mono ?_;rintro e w' ⟨rfl,vr,hq⟩;obtain⟨h4,h5⟩:=hq.Nf h1 hi;obtain⟨h6,h7⟩:=c5.del hh (vr:=vr);refine⟨rfl,⟨F,vl,_,h4,?_,n9.set h3 h6⟩,h5⟩;rw[Fe,h2];show A.set i ⟨_,_,_,g4 _⟩=_;rw[h7];rfl
theorem Pv(h:n9 B z A W)(hs:Fb A)(gZ:B2≤W.heap.size)(hI:ah W B2 N ur r.items) :
 Calls Tryz.prog 31 #[.pointer (some ⟨z,0,none⟩),aj r.f ur] W fun e w'=>e=.returned (.tuple #[.int .i64 (g5 A r).1,.int .i64 (g5 A r).2])∧Below W.heap.size W w':=by
 obtain⟨F,vl,tabs,h1,h2,h3,hl,hc⟩:=h.open hs r
 rcases hc with⟨c1,c2,c3⟩|⟨i,hi,c1,c2,c3,c4,c5,c6⟩
 ·have e1:g5 A r=(0,4):=by unfold g5;rw[c3]
  rw[e1];exact De h1 hl gZ hI (.inl ⟨c2,rfl,rfl⟩)
 ·have e1:g5 A r=(((tabs[i]).rows.length:Int),(0:Int)):=by
   unfold g5;rw[c4];show(((g4 tabs[i]).length:Int),(0:Int))=_;unfold g4;rw[List.length_map]
  rw[e1];exact De h1 hl gZ hI (.inr ⟨i,hi,c2,rfl,rfl⟩)
theorem Pw(h:n9 B z A W)(hs:Fb A)(hB:B≤W.heap.size)(gZ:B2≤B)(hI:ah W B2 N ur r.items)(hJ:ah W B2 N uo o.items)(iZ:ap r≤100000000)(hno:ap o≤100000000)(hf:Bool) :
 Calls Tryz.prog 17 #[.pointer (some ⟨z,0,none⟩),aj r.f ur,aj o.f uo,.bool hf] W fun e w'=>e=.returned (.int .i64 (eO A r o))∧n9 B z (oY A r o hf) w'∧TT eF B W w':=by
 obtain⟨F,vl,tabs,h1,h2,h3,hl,hc⟩:=h.open hs r;have hBw:=Nat.le_trans gZ hB;obtain⟨po,er,lD⟩:=mJ.of tabs r;have Px:er≠1:=by rcases lD with⟨_,_,rfl⟩|⟨_,_,_,_,rfl⟩ <;> decide
 have old:eO A r o≠0→∀{n:Int},eO A r o=n→∀{e:Ending} {w':World},e=.returned (.int .i64 n)∧Qb W w'→e=.returned (.int .i64 (eO A r o))∧n9 B z (oY A r o hf) w'∧TT eF B W w':=fun hne n hn e w' ⟨he,hb⟩=>by
  have e2:oY A r o hf=A:=by unfold oY;rw[if_neg hne]
  rw[e2,hn];exact⟨he,h.below hb,TT.new hb⟩
 have bad:(decide (r.f.kind=3)&&decide (o.f.kind=6)&&aC r&&aC o)=false→eO A r o=2:=fun hq=>by unfold eO;rw[hq,if_neg (by decide)]
 have good:(decide (r.f.kind=3)&&decide (o.f.kind=6)&&aC r&&aC o)=true→eO A r o=(match d_ A r with|some _=>8|none=>if 64≤A.length then 5 else 0):=fun hq=>by unfold eO;rw[hq,if_pos rfl]
 by_cases k1:r.f.kind=3
 rotate_left
 ·have hm:=bad (by rw[decide_eq_false k1];rfl);exact(LS h1 hl hBw hI hJ iZ hno hf Px lD k1).mono (fun e w' hp=>old (by omega) hm hp)
 by_cases k2:o.f.kind=6
 rotate_left
 ·have hm:=bad (by rw[decide_eq_false k2];simp);exact(LU h1 hl hBw hI hJ iZ hno hf Px lD k1 k2).mono (fun e w' hp=>old (by omega) hm hp)
 cases k3:aC r
 ·have hm:=bad (by rw[k3];simp);exact(LV h1 hl hBw hI hJ iZ hno hf Px lD k1 k2 k3).mono (fun e w' hp=>old (by omega) hm hp)
 cases k4:aC o
 ·have hm:=bad (by rw[k4];simp);exact(LW h1 hl hBw hI hJ iZ hno hf Px lD k1 k2 k3 k4).mono (fun e w' hp=>old (by omega) hm hp)
 have hg:=good (by rw[decide_eq_true k1,decide_eq_true k2,k3,k4];rfl)
 rcases hc with⟨c1,c2,c3⟩|⟨i,hi,c1,c2,c3,c4,c5,c6⟩
 ·rw[c1]at hg;dsimp only at hg;have hle:A.length=tabs.length:=by rw[←h2,List.length_map]
  by_cases hfull:64≤A.length
  ·rw[if_pos hfull]at hg;have Zo:er≠0:=by
    rcases lD with⟨_,_,rfl⟩|⟨i,_,e,_,_⟩
    ·decide
    ·rw[c2]at e;cases e
   exact(LX h1 hl hBw hI hJ iZ hno hf Px lD k1 k2 k3 k4 Zo (by show 64≤tabs.length;omega)).mono (fun e w' hp=>old (by omega) hg hp)
  ·rw[if_neg hfull]at hg;have e2:oY A r o hf=A++[⟨r,o,hf,[]⟩]:=by unfold oY;rw[if_pos hg]
   rw[hg,e2];refine(E8 h1 hB hl gZ hI hJ iZ hno k3 k4 k1 k2 hf (by show tabs.length<64;omega) c2).mono ?_;rintro e w' ⟨rfl,F1,ur',uo',Py,b,h4,h5,_⟩
   refine⟨rfl,⟨F1,Py,_,h4,?_,fun t ht=>?_⟩,h5⟩
   ·rw[List.map_append,h2];rfl
   ·rcases List.mem_append.1 ht with ht|ht
    ·exact h3 t ht
    ·obtain rfl:=List.mem_singleton.1 ht;exact⟨fun r hr=>(nomatch hr),fun r hr=>(nomatch hr),List.Pairwise.nil,fun r hr=>(nomatch hr)⟩
 ·rw[c1]at hg;dsimp only at hg;exact(E6 h1 hB hl gZ hI hJ iZ hno k3 k4 k1 k2 hf hi c2).mono (fun e w' hp=>old (by omega) hg hp)
end
structure qI(N:Nat) where
 k:Tm (N+1)
 v:Tm (N+1)
 uk:Value
 uv:Value
def vR{N:Nat}(r:qI N):List Value:=aE r.k.f r.uk++aE r.v.f r.uv
structure g6(N:Nat) where
 ref:Tm (N+1)
 own:Tm (N+1)
 ur:Value
 uo:Value
 hs:Bool
 vr:Value
 rows:List (qI N)
def ku{N:Nat}(t:g6 N):List Value:=aE t.ref.f t.ur++(aE t.own.f t.uo++[.bool t.hs,t.vr])
structure mN{N:Nat}(w:World)(B:Nat)(t:g6 N):Prop where
 rows:aA vR 55 18 w B t.vr t.rows
 ld:ah w B N t.ur t.ref.items
 pX:ah w B N t.uo t.own.items
 gU:∀r∈t.rows,ah w B N r.uk r.k.items∧ah w B N r.uv r.v.items
structure cY{N:Nat}(w:World)(B y:Nat)(lv:Value)(T:List (g6 N)):Prop where
 obj:w.heap[y]?=some (.cells #[lv] 39)
 l:aA ku 53 20 w B lv T
 tabs:∀t∈T,mN w B t
 low:B≤y
def gC(t:TypeId):Prop:=t=39∨t=53∨t=55
def gj{N:Nat}(t:g6 N):bW N:=⟨t.ref,t.own,t.hs,t.rows.map (fun r=>(r.k,r.v))⟩
section
variable {N:Nat}{w w':World}{B y:Nat}{lv:Value}{T:List (g6 N)}{t:g6 N}
theorem cP{n:Nat}{v:Value}{l:List (Tm n)}(h:ah w B n v l):v.oneCell'=true:=by
 obtain⟨p,c,rfl,_,_⟩:=h.shape;rfl
theorem mN.enc(h:mN w B t):bD vR 18 t.rows:=fun r hr=>⟨rfl,fun u hu=>by
 obtain⟨h1,h2⟩:=h.gU r hr
 unfold vR at hu
 rcases List.mem_append.1 hu with hu|hu
 ·exact aH (cP h1) u hu
 ·exact aH (cP h2) u hu⟩
theorem cY.enc(h:cY w B y lv T):bD ku 20 T:=fun t ht=>⟨rfl,fun u hu=>by
 have ht:=h.tabs t ht
 obtain⟨p,c,e,_,_⟩:=ht.rows.shape
 unfold ku at hu
 rcases List.mem_append.1 hu with hu|hu
 ·exact aH (cP ht.ld) u hu
 rcases List.mem_append.1 hu with hu|hu
 ·exact aH (cP ht.pX) u hu
 ·simp at hu
  rcases hu with rfl|rfl
  ·rfl
  ·rw[e];rfl⟩
theorem mN.keep(h:mN w B t)(hl:∀g,g<B→w'.heap[g]?=w.heap[g]?)(ho:∀g,t.vr.ownBlock=some g→w'.heap[g]?=w.heap[g]?):mN w' B t :=
 ⟨h.rows.same ho,h.ld.same hl,h.pX.same hl,fun r hr=>⟨(h.gU r hr).1.same hl,(h.gU r hr).2.same hl⟩⟩
theorem cY.keep(h:cY w B y lv T)(hl:∀g,g<B→w'.heap[g]?=w.heap[g]?)(ho:∀g t,dA w g=some t→gC t→w'.heap[g]?=w.heap[g]?):cY w' B y lv T :=
 ⟨(ho y 39 (br h.obj) (.inl rfl)).trans h.obj,h.l.same (fun g hg=>ho g 53 (dW h.l hg) (.inr (.inl rfl))),fun t ht=>(h.tabs t ht).keep hl (fun g hg=>ho g 55 (dW (h.tabs t ht).rows hg) (.inr (.inr rfl))),h.low⟩
theorem cY.ylt(h:cY w B y lv T):y<w.heap.size:=(Array.getElem?_eq_some_iff.1 h.obj).1
theorem cY.blt(h:cY w B y lv T):B≤w.heap.size:=Nat.le_trans h.low (Nat.le_of_lt h.ylt)
theorem Ff{g:Nat}{t:TypeId}(h:dA w g=some t):g<w.heap.size:=by
 unfold dA at h
 by_cases hg:g<w.heap.size
 ·exact hg
 ·rw[Array.getElem?_eq_none (by omega)]at h;cases h
theorem cY.below(h:cY w B y lv T)(hb:Below w.heap.size w w'):cY w' B y lv T:=h.keep (fun g hg=>hb.block g (by have:=h.blt;omega)) (fun g t ht _=>hb.block g (Ff ht))
theorem cY.prog(h:cY w B y lv T)(ht:TT eF B w w'):cY w' B y lv T :=
 h.keep (fun g hg=>(ht.below h.blt).block g hg) (fun g t hty hT=>ht.keep (Ff hty) (fun t' ht' hP=>by
  rw[hty]at ht'
  obtain rfl:=Option.some.inj ht'
  unfold gC at hT
  unfold eF at hP
  rcases hT with rfl|rfl|rfl <;> rcases hP with hP|hP|hP|hP <;> exact absurd hP (by decide)))
theorem n9.ref{z:Nat}{A:List (bW N)}(h:n9 B z A w)(ht:TT gC B w w'):n9 B z A w':=by
 obtain⟨F,vl,tabs,h1,h2⟩:=h;refine⟨F,vl,tabs,h1.same (fun k hk hq=>ht.keep hk (fun t' ht' hP=>?_)) ht.size,h2⟩;unfold gC at hP
 rcases hq with hF|⟨t,hty,hT⟩
 ·rw[yV h1 hF]at ht';obtain rfl:=Option.some.inj ht';rcases hP with hP|hP|hP <;> exact absurd hP (by decide)
 ·rw[hty]at ht';obtain rfl:=Option.some.inj ht';unfold eF at hT;rcases hT with rfl|rfl|rfl|rfl <;> rcases hP with hP|hP|hP <;> exact absurd hP (by decide)
noncomputable def jG(T:List (g6 N))(r:Tm (N+1)):Option Nat:=T.findIdx? (fun t=>dL t.ref r)
theorem Bu(T:List (g6 N))(r:Tm (N+1)):d_ (T.map gj) r=jG T r:=by
 unfold d_ jG;rw[List.findIdx?_map];rfl
theorem lV{α:Type}{enc:α→List Value}{s:Nat}{p:Option Addr}{c:Nat}{l:List α}(h:bq enc s w B (.slice p l.length c) l){i:Nat}(hi:i<l.length):∃g o,p=some ⟨g,o,none⟩∧g<B∧w.rangeAt g (o+i*s) (enc l[i]):=by
 obtain⟨g,o,e,_,hg,hc⟩:=h.nth (by omega);refine⟨g,o,e,hg,fun k u hk=>?_⟩;have:=hc i l[i] (List.getElem?_eq_getElem hi) k u hk;rwa[←Nat.add_assoc]at this
end
theorem oZ(w:World)(a:Addr)(v:Value)(h:w.cell? a=some v):(loadVar 37 a).run Tryz.prog w=.ok v w:=by
 go_simp
theorem UN(w:World)(a:Addr)(v:Value)(h:w.cell? a=some v):(loadVar 4 a).run Tryz.prog w=.ok v w:=by
 go_simp
theorem sQ(w:World)(a:Addr)(v:Value)(h:w.cell? a=some v):(loadVar 49 a).run Tryz.prog w=.ok v w:=by
 go_simp
theorem jn{w:World}{g o:Nat}{a b:List Value}(h:w.rangeAt g o (a++b)):w.rangeAt g o a:=fun j u hu=>h j u (by rw[List.getElem?_append_left (List.getElem?_eq_some_iff.1 hu).1];exact hu)
theorem kI{w:World}{g o n:Nat}{a b:List Value}(h:w.rangeAt g o (a++b))(hn:a.length=n):w.rangeAt g (o+n) b:=fun j u hu=>by
 have:=h (n+j) u (by rw[List.getElem?_append_right (by omega)];rw[show n+j-a.length=j by omega];exact hu);rwa[←Nat.add_assoc]at this
theorem cm{w:World}{b:Nat}{x:List Value}{t:TypeId}(h:w.heap[b]?=some (.cells x.toArray t))(k:Nat)(u:Value)(hu:x[k]?=some u):w.cell? ⟨b,k,none⟩=some u:=by
 have:=aq h k u hu;rwa[Nat.zero_add]at this
section
variable {N:Nat}{w w':World}{B y:Nat}{lv:Value}{T:List (g6 N)}{t:g6 N}
theorem cY.rng{p:Option Addr}{c:Nat}(h:cY w B y (.slice p T.length c) T){i:Nat}(hi:i<T.length):∃g o,p=some ⟨g,o,none⟩∧g<w.heap.size∧w.rangeAt g (o+i*20) (ku T[i]):=by
 obtain⟨g,o,e,hg,hr⟩:=lV (h.l.row h.enc) hi;exact⟨g,o,e,hg,hr⟩
def ZC(T:List (g6 N))(r:Tm (N+1))(w:World)(m:Nat)(iv:Value)(wr:World):Prop:=∃i:Nat,iv=.int .i64 (i:Int)∧i≤T.length∧m=T.length-i∧(∀j,(hj:j<i)→(hl:j<T.length)→dL (T[j]).ref r=false)∧Below w.heap.size w wr
theorem lq(h:cY w B y lv T)(hT:T.length≤1000){r:Tm (N+1)}{u:Value}{B2:Nat}(hB:B2≤w.heap.size)(hI:ah w B2 N u r.items) :
 Calls Tryz.prog 53 #[.pointer (some ⟨y,0,none⟩),aj r.f u] w fun e w'=>e=.returned (.int .i64 (lm (jG T r)))∧Below w.heap.size w w':=by
 obtain⟨qi,Ev⟩:∃q,lm (jG T r)=q:=⟨_,rfl⟩;rw[Ev];have HQ:=Qh Ev;clear Ev;obtain⟨p,c,rfl,_,_⟩:=h.l.shape;have aD:=aG (Below.refl w.heap.size w) (av r.f u) (Nat.le_refl _);have bT:=aF w (av r.f u);have HO:=Qh (fun(W:World) (hW:Qb w W)=>(h.below hW).obj);have tU:=Qh (fun(i:Nat) (hi:i<T.length)=>h.rng hi);have nX:=Qh (fun(W:World) (hW:Qb w W) (i:Nat) (hi:i<T.length)=>vQ W W.heap.size (T[i]).ur u (T[i]).ref r (Nat.le_refl _) (((h.below hW).tabs _ (List.getElem_mem hi)).ld.more (h.below hW).blt) ((hI.below hW hB).more (Nat.le_trans hB hW.size)))
 have lU:=Qh (fun(i:Nat) (hi:i<T.length)=>(h.tabs _ (List.getElem_mem hi)).ld.shape);obtain⟨pr,cr,eu,_,_⟩:=hI.shape;rw[eu]at aD bT nX ⊢;clear h hB hI eu;generalize r.items.length=nr at*;generalize lJ:r.f=f at*;obtain⟨rk,ri,rg,rn,rf,ra,rb,rz⟩:=f;unfold aj av at*;dsimp only at*;have dU:=Qh aD;have eT:=Qh bT;have iq:=(Qg bT);go_enter Tryz.func53,Tryz.ntmps53;go_upto_region 1 with(fail);generalize w.alloc (.cells (a9 rk ri rg rn rf ra (.slice pr nr cr) rb rz) 24)=W1 at*
 have iL:Hid (ZC T r W1 T.length (.int .i64 0) W1):=Qh ⟨0,rfl,Nat.zero_le _,rfl,fun j hj=>by omega,Below.refl _ _⟩;obtain⟨o0,of⟩:=gB (HO.out _ dU.out);clear aD bT lJ;go_wp2_with fail;go_loopg [5] T.length (fun m iv wr=>Hid (ZC T r W1 m iv wr))
 case atStart=>exact iL
 case round=>
  obtain⟨i,rfl,hi,hm,hno,hb⟩:=hrel.out;clear hrel iL o0 of;have au:=dU.out.trans (hb.mono dU.out.size);obtain⟨o0,of⟩:=gB (HO.out _ au)
  by_cases hlt:i<T.length
  ·have r1:(i:Int)<(T.length:Int):=by omega
   obtain⟨g,o,rfl,hg,hR⟩:=tU.out i hlt;obtain⟨pe,ce,ee,_,_⟩:=lU.out i hlt;have HS:=Qh (fun W hW=>nX.out W hW i hlt);have Tf:∀(b:Bool),dL (T[i]).ref r=b→b=false→∀j,(hj:j<i+1)→(hl:j<T.length)→dL (T[j]).ref r=false:=fun b e1 e2 j hj hl=>by
    by_cases e:j=i
    ·subst e;rw[e1,e2]
    ·exact hno j (by omega) hl
   have eP:∀(b:Bool),dL (T[i]).ref r=b→b=true→jG T r=some i:=fun b e1 e2=>xV hlt (fun j hj=>hno j hj (by omega)) (by rw[e1,e2]);obtain⟨qb,Q1⟩:∃b,dL (T[i]).ref r=b:=⟨_,rfl⟩;have uy:=Qh (Tf qb Q1);have C7:=Qh (eP qb Q1);rw[Q1]at HS;have Bv:=jn hR;rw[ee]at HS Bv;clear hno Tf eP Q1 hR ee;generalize(T[i]).ref.items.length=ne at*;generalize(T[i]).ref.f=ef at*;obtain⟨ek,ei,eg,en,ef,ea,eb,ez⟩:=ef;unfold aE at Bv;dsimp only at HS Bv;have HR:=Qh (fun W (hW:Qb w W)=>dn Bv (hW.block g hg))
   have K7:=Qh (fun W (hW:Qb W1 W)=>aq (x:=(l9 rk ri rg rn rf ra (.slice pr nr cr) rb rz)) ((hW.block _ iq).trans eT.out));have HM:=Qh hm;clear hm Bv;unfold aV at HS;go_upto_region 4 with(fail);replace hb:=hb.trans ((aZ (Below.refl wr.heap.size wr)).mono hb.size);replace au:=au.trans ((aZ (Below.refl wr.heap.size wr)).mono au.size);have hO:=cm (x:=[.slice (some ⟨g,o,none⟩) T.length c]) (HO.out _ au) 0 _ rfl
   refine wp_region_held_drew (S:=(fun w'=>w'.cell? ⟨y,0,none⟩=some (.slice (some ⟨g,o,none⟩) T.length c)∧w'.rangeAt g (o+i*20) (l9 ek ei eg en ef ea (.slice pe ne ce) eb ez)∧w'.rangeAt w.heap.size 0 (l9 rk ri rg rn rf ra (.slice pr nr cr) rb rz))) (by kernel_rfl) ?_ (fun hHeld=>?_)
   ·exact⟨hO,HR.out _ au,K7.out _ hb⟩
   refine run_in [0,1,2,3,4,5,6,7,8] ?_;iterate 3 refine Qe ?_
   refine Qc oZ (fun w hs=>hs.1) ?_;iterate 3 refine Qe ?_
   refine Qm (fun w hs=>hs.2.1) ?_;refine Qm (fun w hs=>hs.2.2) ?_;refine aI ?_;refine Qd 9 (fun K hK=>?_);go_simp;refine(HS.out _ au).mono ?_;rintro e v1 ⟨rfl,aD⟩;replace hb:=hb.trans (aD.mono hb.size);replace au:=au.trans (aD.mono au.size);have hO:=cm (x:=[.slice (some ⟨g,o,none⟩) T.length c]) (HO.out _ au) 0 _ rfl;clear aD;go_wp2_with fail;refine Qk hK (⟨hO,HR.out _ au,K7.out _ hb⟩) (fun hHeld=>?_);clear hK K;refine wpAnyH_done (by kernel_rfl) ?_ _
   cases qb
   ·go_wp2_with fail;go_roundg (T.length-(i+1))
    case measure=>have:=HM.out;omega
    case rel=>exact Qh ⟨i+1,by go_num,by omega,rfl,uy.out (by first|rfl|trivial),hb⟩
   ·have Fg:qi=(i:Int):=by rw[←HQ.out,C7.out (by first|rfl|trivial)];rfl
    subst Fg;go_wp2_with fail;go_ret;exact⟨rfl,au⟩
  ·obtain rfl:i=T.length:=by omega
   have hnone:jG T r=none:=xU (fun j hj=>hno j hj hj);have Fg:qi=-1:=by rw[←HQ.out,hnone];rfl
   subst Fg;have sG:=Qh au;clear hm hno hnone au hb HQ;go_wp2_with fail;go_ret;exact⟨rfl,sG.out⟩
theorem jN{t:Tm (N+1)}{u:Value}{B2:Nat}(k:Int)(hB:B2≤w.heap.size)(hI:ah w B2 N u t.items)(hn:ap t≤100000000) :
 Calls Tryz.prog 52 #[aj t.f u,.int .i64 k] w (aV (decide (t.f.kind=k)&&aC t) w):=by
 obtain⟨qi,Ev⟩:∃q,(decide (t.f.kind=k)&&aC t)=q:=⟨_,rfl⟩;rw[Ev];have aD:=aG (Below.refl w.heap.size w) (av t.f u) (Nat.le_refl _);have bT:=aF w (av t.f u);have HV:=Qh (fun(W:World) (hW:Qb w W)=>gA W B2 u t (Nat.le_trans hB hW.size) (hI.below hW hB) (by omega));obtain⟨pa,ca,eu,_,_⟩:=hI.shape;rw[eu]at aD bT HV ⊢;clear hB hI eu hn;generalize t.items.length=na at*;generalize aC t=vt at*;generalize t.f=f at*;obtain⟨ak,ai,ag,an,af,aa,ab,az⟩:=f;unfold aj av aV at*;dsimp only at*;have dU:=Qh aD;have eT:=Qh bT;have HQ:=Qh Ev
 go_enter Tryz.func52,Tryz.ntmps52;go_upto_region 1 with(fail);generalize w.alloc (.cells (a9 ak ai ag an af aa (.slice pa na ca) ab az) 24)=W1 at*;obtain⟨x0,x1,x2,x3,x4,x5,x6,x7,x8,xf⟩:=aW (f:=⟨ak,ai,ag,an,af,aa,ab,az⟩) (v:=.slice pa na ca) eT.out;dsimp only at x0 x1 x2 x3 x4 x5 x6 x7 x8;clear aD bT Ev
 by_cases hk:ak=k
 ·have Fg:qi=vt:=by rw[←HQ.out,decide_eq_true hk,Bool.true_and]
  subst hk;subst Fg;clear HQ;go_wp2_with fail;refine(HV.out _ dU.out).mono ?_;rintro e v1 ⟨rfl,hb⟩;have bS:=Qh (dU.out.trans (hb.mono dU.out.size));clear hb;go_wp2_with fail;go_ret;exact⟨rfl,bS.out⟩
 ·have q1:(ak==k)=false:=by simpa using hk
  have q2:decide (ak=k)=false:=decide_eq_false hk;have Fg:qi=false:=by rw[←HQ.out,decide_eq_false hk,Bool.false_and]
  subst Fg;clear HQ;go_wp2_with fail;go_ret;exact⟨rfl,dU.out⟩
theorem Pz(a b:Tm (N+1)):decide (bM true a b<0)=if cy a=cy b then decide (cM a b<0) else decide (cy a<cy b):=by
 show decide (eD (fun x y=>aO (cy x) (cy y)) cM a b<0)=_;unfold eD
 by_cases h:cy a=cy b
 ·rw[if_pos (gw.2 h),if_pos h]
 ·rw[if_neg (fun e=>h (gw.1 e)),if_neg h]
  by_cases h2:cy a<cy b
  ·rw[decide_eq_true (uq.2 h2),decide_eq_true h2]
  ·rw[decide_eq_false (fun e=>h2 (uq.1 e)),decide_eq_false h2]
theorem Ji(t:g6 N){a b:Tm (N+1)}{ua ub:Value}{B2:Nat}(hB:B2≤w.heap.size)(hv:t.ur.oneCell'=true∧t.uo.oneCell'=true∧t.vr.oneCell'=true)(hI:ah w B2 N ua a.items)(hJ:ah w B2 N ub b.items)(ha:ap a≤100000000)(hb:ap b≤100000000) :
 Calls Tryz.prog 89 #[.agg (ku t).toArray,aj a.f ua,aj b.f ub] w (aV (decide (bM t.hs a b<0)) w):=by
 have XA:=Qh (fun(W:World) (hW:Qb w W)=>zq W B2 ua a (Nat.le_trans hB hW.size) (hI.below hW hB) (by omega));have XB:=Qh (fun(W:World) (hW:Qb w W)=>zq W B2 ub b (Nat.le_trans hB hW.size) (hJ.below hW hB) (by omega));have HC:=Qh (fun(W:World) (hW:Qb w W)=>AP W B2 ua ub a b (Nat.le_trans hB hW.size) (hI.below hW hB) (hJ.below hW hB) (by omega) (by omega));obtain⟨qi,Ev⟩:∃q,decide (bM t.hs a b<0)=q:=⟨_,rfl⟩;have ht:=Pz a b;rw[Ev];obtain⟨pa,ca,ea,_,_⟩:=hI.shape;obtain⟨pb,cb,eb,_,_⟩:=hJ.shape;rw[ea]at XA HC ⊢;rw[eb]at XB HC ⊢;clear hB hI hJ ha hb ea eb
 obtain⟨ko,kp,ur,uo,hs,vr,rows⟩:=t;unfold ku aE;dsimp only at Ev hv ⊢;simp only[List.cons_append,List.nil_append];have UO:hs=false→decide (cM a b<0)=qi:=fun e=>by subst e;exact Ev
 have UP:hs=true→(if cy a=cy b then decide (cM a b<0) else decide (cy a<cy b))=qi:=fun e=>by subst e;rw[←ht];exact Ev
 clear ht Ev;generalize cy a=Tg at*;generalize cy b=Th at*;generalize cM a b=cv at*;generalize a.items.length=na at*;generalize b.items.length=nb at*;generalize a.f=fa at*;generalize b.f=fb at*;generalize ko.f=fr at*;generalize kp.f=fo at*;obtain⟨ak,ai,ag,an,af,aa,ab,az⟩:=fa;obtain⟨bk,bi,bg,bn,bf,ba,bb,bz⟩:=fb;obtain⟨rk,ri,rg,rn,rf,ra,rb,rz⟩:=fr;obtain⟨ok,oi,og,on,of,oa,ob,oz⟩:=fo;unfold aj aV aM at*;dsimp only at*
 obtain⟨hb0,_,fY,eA,cI⟩:=bV w (.cells (Cy rk ri rg rn rf ra ur rb rz ok oi og on of oa uo ob oz hs vr) 53) (.cells (a9 ak ai ag an af aa (.slice pa na ca) ab az) 24) (.cells (a9 bk bi bg bn bf ba (.slice pb nb cb) bb bz) 24);have nR:=(Qg fY);have gP:=(Qg eA);have dM:=(Qg cI);have XC:=Qh UO;have XD:=Qh UP;clear UO UP;go_enter Tryz.func89,Tryz.ntmps89;go_upto_region 1 with(fail)
 generalize(((w.alloc (.cells (Cy rk ri rg rn rf ra ur rb rz ok oi og on of oa uo ob oz hs vr) 53)).alloc (.cells (a9 ak ai ag an af aa (.slice pa na ca) ab az) 24)).alloc (.cells (a9 bk bi bg bn bf ba (.slice pb nb cb) bb bz) 24))=W1 at*
 have HX:=Qh (fun W (hW:Qb W1 W)=>(And.intro (cm (x:=(wH rk ri rg rn rf ra ur rb rz ok oi og on of oa uo ob oz hs vr)) ((hW.block _ nR).trans fY) 18 _ rfl) (And.intro (aq (x:=(l9 ak ai ag an af aa (.slice pa na ca) ab az)) ((hW.block _ gP).trans eA)) (aq (x:=(l9 bk bi bg bn bf ba (.slice pb nb cb) bb bz)) ((hW.block _ dM).trans cI)))));have bu:=Qh hb0;have hb:=aZ (Below.refl W1.heap.size W1);have au:=hb0.trans (hb.mono hb0.size);clear fY eA cI nR gP dM hb0
 refine wp_region_held_drew (S:=(fun w'=>w'.cell? ⟨w.heap.size,18,none⟩=some (.bool hs)∧w'.rangeAt (w.heap.size+1) 0 (l9 ak ai ag an af aa (.slice pa na ca) ab az)∧w'.rangeAt (w.heap.size+2) 0 (l9 bk bi bg bn bf ba (.slice pb nb cb) bb bz))) (by kernel_rfl) ?_ (fun hHeld=>?_)
 ·exact HX.out _ hb
 generalize W1.drew=wd at*
 cases hs
 ·have Fg:=XC.out rfl;clear XC XD;subst Fg;refine run_in [0,1,2,3,4,5,6,7,8] ?_;refine Qe ?_;refine Qc UN (fun w hs=>hs.1) ?_;refine Qe ?_;refine Qu ?_;refine Qu ?_;refine Qu ?_;refine Qu ?_;refine Qu ?_;refine Qe ?_;refine aI ?_;refine wpAnyH_done (by kernel_rfl) ?_ _;go_wp2_with (first
   | (refine Ql (HX.out _ hb).2.1 ?_)
   | (refine Ql (HX.out _ hb).2.2 ?_))
  refine(HC.out _ au).mono ?_;rintro e v9 ⟨rfl,aD⟩;replace au:=au.trans (aD.mono au.size);clear aD;go_wp2_with fail;go_ret;exact⟨rfl,au⟩
 ·have Fg:=XD.out rfl;clear XC XD;refine run_in [0,1,2,3,5] ?_;refine Qe ?_;refine Qc UN (fun w hs=>hs.1) ?_;refine Qe ?_;refine Qm (fun w hs=>hs.2.1) ?_;refine Qm (fun w hs=>hs.2.2) ?_;refine aI ?_;refine Qd 4 (fun K hK=>?_);go_simp;refine(XA.out _ au).mono ?_;rintro e u1 ⟨rfl,aD⟩;replace hb:=hb.trans (aD.mono hb.size);replace au:=au.trans (aD.mono au.size);clear aD;go_wp2_with fail;refine Qk hK (HX.out _ hb) (fun hHeld=>?_);clear hK K;refine Qd 6 (fun K hK=>?_);go_simp;refine(XB.out _ au).mono ?_;rintro e u2 ⟨rfl,aD⟩;replace hb:=hb.trans (aD.mono hb.size)
  replace au:=au.trans (aD.mono au.size);clear aD;go_wp2_with fail;refine Qk hK (HX.out _ hb) (fun hHeld=>?_);clear hK K;refine run_in [7,8] ?_;iterate 2 refine Qe ?_
  refine aI ?_;refine wpAnyH_done (by kernel_rfl) ?_ _
  by_cases hne:Tg=Th
  ·rw[if_pos hne]at Fg;subst Fg;have q1:(Tg==Th)=true:=by simpa using hne
   have q2:decide (Tg=Th)=true:=decide_eq_true hne;go_wp2_with (first
    | (refine Ql (HX.out _ hb).2.1 ?_)
    | (refine Ql (HX.out _ hb).2.2 ?_))
   refine(HC.out _ au).mono ?_;rintro e v9 ⟨rfl,aD⟩;replace au:=au.trans (aD.mono au.size);clear aD;go_wp2_with fail;go_ret;exact⟨rfl,au⟩
  ·rw[if_neg hne]at Fg;subst Fg;have q1:(Tg==Th)=false:=by simpa using hne
   have q2:decide (Tg=Th)=false:=decide_eq_false hne;go_upto_region 2 with(fail);replace au:=au.trans ((aZ (Below.refl u2.heap.size u2)).mono au.size);replace hb:=hb.trans ((aZ (Below.refl u2.heap.size u2)).mono hb.size)
   refine wp_region_held_drew (S:=(fun w'=>w'.rangeAt (w.heap.size+1) 0 (l9 ak ai ag an af aa (.slice pa na ca) ab az)∧w'.rangeAt (w.heap.size+2) 0 (l9 bk bi bg bn bf ba (.slice pb nb cb) bb bz))) (by kernel_rfl) ?_ (fun hHeld=>?_)
   ·exact(HX.out _ hb).2
   refine run_in [0,2] ?_;refine Qm (fun w hs=>hs.1) ?_;refine Qm (fun w hs=>hs.2) ?_;refine aI ?_;refine Qd 1 (fun K hK=>?_);go_simp;refine(XA.out _ au).mono ?_;rintro e u3 ⟨rfl,aD⟩;replace hb:=hb.trans (aD.mono hb.size);replace au:=au.trans (aD.mono au.size);clear aD;go_wp2_with fail;refine Qk hK ((HX.out _ hb).2) (fun hHeld=>?_);clear hK K;refine Qd 3 (fun K hK=>?_);go_simp;refine(XB.out _ au).mono ?_;rintro e u4 ⟨rfl,aD⟩;replace hb:=hb.trans (aD.mono hb.size);replace au:=au.trans (aD.mono au.size);clear aD;go_wp2_with fail
   refine Qk hK ((HX.out _ hb).2) (fun hHeld=>?_);clear hK K;refine run_in [4,5] ?_;iterate 2 refine Qe ?_
   refine aI ?_;refine wpAnyH_done (by kernel_rfl) ?_ _;go_wp2_with fail;go_ret;exact⟨rfl,au⟩
end
end Go.Proofs.YtfbggmbmgohiiaaGreat.tb
