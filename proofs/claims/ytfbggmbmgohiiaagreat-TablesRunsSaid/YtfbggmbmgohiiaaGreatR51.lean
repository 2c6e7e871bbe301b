/- TrI,TrJ,TrK,TrL,TrM. No condition beyond theirs. -/
import Derived.Test.YtfbggmbmgohiiaaGreatR50
set_option linter.unusedSimpArgs false
set_option linter.unusedVariables false
set_option maxHeartbeats 4000000
set_option maxRecDepth 100000
namespace Go.Proofs.YtfbggmbmgohiiaaGreat.tb
open Go.RowKit mem rec tm names
section
variable {N:Nat}{A T:List (bW N)}{r k v o:Tm (N+1)}{i:Nat}
theorem zM(hn:(A.map (·.ref)).Nodup){i j:Nat}(hi:i<A.length)(hj:j<A.length)(e:(A[i]).ref=(A[j]).ref):i=j:=by
 have hp:=List.pairwise_iff_getElem.1 hn
 rcases Nat.lt_trichotomy i j with h|h|h
 ·exact absurd (by rw[List.getElem_map,List.getElem_map];exact e) (hp i j (by rw[List.length_map];exact hi) (by rw[List.length_map];exact hj) h)
 ·exact h
 ·exact absurd (by rw[List.getElem_map,List.getElem_map];exact e.symm) (hp j i (by rw[List.length_map];exact hj) (by rw[List.length_map];exact hi) h)
theorem JS(hn:(A.map (·.ref)).Nodup)(hi:i<A.length)(e:(A[i]).ref=r):d_ A r=some i:=by
 unfold d_;rw[List.findIdx?_eq_some_iff_getElem];refine⟨hi,eR e,fun j hj h=>?_⟩;have:=zM hn (i:=j) (j:=i) (by omega) hi ((oH h).trans e.symm);omega
theorem zN(hn:(A.map (·.ref)).Nodup){a:bW N}:kH A r=some a↔a∈A∧a.ref=r:=by
 constructor
 ·intro h;unfold kH at h;cases hr:d_ A r with
  | none=>rw[hr]at h;cases h
  | some i =>
   obtain⟨a0,h1,h2⟩:=rK hr;rw[hr]at h;have h:A[i]?=some a:=h;rw[h1]at h;obtain rfl:=Option.some.inj h;exact⟨List.mem_of_getElem? h1,h2⟩
 ·rintro⟨h1,h2⟩;obtain⟨i,hi,rfl⟩:=List.mem_iff_getElem.1 h1;unfold kH;rw[JS hn hi h2];exact List.getElem?_eq_getElem hi
theorem zO:d_ A r=none↔kH A r=none:=by
 unfold kH;cases hr:d_ A r with
 | none=>exact⟨fun _=>rfl,fun _=>rfl⟩
 | some i =>
  obtain⟨a0,h1,h2⟩:=rK hr
  constructor
  ·intro h;cases h
  ·intro h;have h:A[i]?=none:=h;rw[h1]at h;cases h
theorem uI(hn:(A.map (·.ref)).Nodup)(f:bW N→List (Tm (N+1)×Tm (N+1))):ue A r f=A.map (fun a=>if dL a.ref r then{ a with rows:=f a } else a):=by
 cases hr:d_ A r with
 | none =>
  have hno:∀a∈A,dL a.ref r=false:=by
   unfold d_ at hr;exact List.findIdx?_eq_none_iff.1 hr
  unfold ue;rw[hr];refine((List.map_congr_left (g:=id) (fun a ha=>?_)).trans (List.map_id _)).symm;rw[hno a ha];rfl
 | some i =>
  obtain⟨a0,h1,h2⟩:=rK hr;have hi:i<A.length:=(List.getElem?_eq_some_iff.1 h1).1;have h0:A[i]=a0:=(List.getElem?_eq_some_iff.1 h1).2;rw[DZ hr h1];refine List.ext_getElem? fun j=>?_;rw[List.getElem?_set,List.getElem?_map]
  by_cases e:i=j
  ·subst e;rw[if_pos rfl,if_pos hi,h1];show _=some (if dL a0.ref r then _ else _);rw[eR h2,if_pos rfl]
  ·rw[if_neg e]
   by_cases hj:j<A.length
   ·rw[List.getElem?_eq_getElem hj];show _=some (if dL (A[j]).ref r then _ else _)
    cases hq:dL (A[j]).ref r
    ·rfl
    ·exact absurd (zM hn hi hj (by rw[h0,h2];exact(oH hq).symm)) e
   ·rw[List.getElem?_eq_none (by omega)];rfl
theorem tP(hn:(A.map (·.ref)).Nodup):g7 A r=A.filter (fun a=>!dL a.ref r):=by
 cases hr:d_ A r with
 | none =>
  have hno:∀a∈A,dL a.ref r=false:=by
   unfold d_ at hr;exact List.findIdx?_eq_none_iff.1 hr
  unfold g7;rw[hr];refine(List.filter_eq_self.2 fun a ha=>?_).symm;rw[hno a ha];rfl
 | some i =>
  obtain⟨a0,h1,h2⟩:=rK hr;have hi:i<A.length:=(List.getElem?_eq_some_iff.1 h1).1;have h0:A[i]=a0:=(List.getElem?_eq_some_iff.1 h1).2;have key:∀j,(hj:j<A.length)→j≠i→dL (A[j]).ref r=false:=fun j hj hji=>by
   cases hq:dL (A[j]).ref r
   ·rfl
   ·exact absurd (zM hn hj hi ((oH hq).trans (by rw[h0,h2]))) hji
  unfold g7;rw[hr];show A.take i++A.drop (i+1)=_;have e:A=A.take i++(A[i]::A.drop (i+1)):=by rw[←List.drop_eq_getElem_cons hi,List.take_append_drop]
  have q1:(A.take i).filter (fun a=>!dL a.ref r)=A.take i:=List.filter_eq_self.2 fun a ha=>by
   obtain⟨j,hj,rfl⟩:=List.mem_iff_getElem.1 ha;rw[List.length_take]at hj;rw[List.getElem_take,key j (by omega) (by omega)];rfl
  have q2:(A.drop (i+1)).filter (fun a=>!dL a.ref r)=A.drop (i+1):=List.filter_eq_self.2 fun a ha=>by
   obtain⟨j,hj,rfl⟩:=List.mem_iff_getElem.1 ha;rw[List.length_drop]at hj;rw[List.getElem_drop,key (i+1+j) (by omega) (by omega)];rfl
  have q3:(!dL (A[i]).ref r)=false:=by rw[h0,eR h2];rfl
  conv=>rhs;rw[e]
  rw[List.filter_append,q1,List.filter_cons,q3,if_neg (by decide),q2]
structure fH(i:Nat)(A T:List (bW N)):Prop where
 perm:A.Perm T
 Nx:T.Pairwise (fun a b=>cM a.ref b.ref<0)
 vd:∀a∈A,aC a.ref=true
 len:A.length≤64
 rows:∀a∈A,a.rows.length≤i
 nd:∀a∈A,ap a.ref≤8000∧ap a.own≤100000000∧∀x∈a.rows,ap x.1≤100000000∧ap x.2≤100000000
theorem fH.nil(i:Nat):fH (N:=N) i [] []:=⟨List.Perm.refl _,List.Pairwise.nil,fun a ha=>(nomatch ha),Nat.zero_le _,fun a ha=>(nomatch ha),fun a ha=>(nomatch ha)⟩
theorem fH.JT(h:fH i A T):(T.map (·.ref)).Nodup:=by
 refine List.pairwise_map.2 (h.Nx.imp_of_mem (fun{a b} _ _ h1 e=>?_));rw[e]at h1;have:=LO.refl b.ref;omega
theorem fH.JU(h:fH i A T):(A.map (·.ref)).Nodup:=((h.perm.map (·.ref)).nodup_iff).2 h.JT
theorem fH.Uf(h:fH i A T):T.length=A.length:=h.perm.length_eq.symm
theorem fH.KB(h:fH i A T)(hi:i≤1000000):Fb A:=⟨by have:=h.len;omega,fun a ha=>Nat.le_trans (h.rows a ha) hi⟩
theorem fH.KC(h:fH i A T)(hi:i≤1000000):GU T:=⟨⟨by have:=h.len;have:=h.Uf;omega,fun a ha=>Nat.le_trans (h.rows a (h.perm.mem_iff.2 ha)) hi⟩,fun a ha=>by have:=h.nd a (h.perm.mem_iff.2 ha);exact⟨by omega,this.2⟩⟩
theorem fH.tab(h:fH i A T)(r:Tm (N+1)):kH A r=kH T r:=by
 refine Option.ext fun a=>?_;rw[zN h.JU,zN h.JT,h.perm.mem_iff]
theorem fH.eB(h:fH i A T)(r k:Tm (N+1)):eB A r k=eB T r k:=by unfold tb.eB;rw[h.tab]
theorem fH.iV(h:fH i A T)(r k:Tm (N+1)):iV A r k=iV T r k:=by unfold tb.iV;rw[h.tab]
theorem fH.g5(h:fH i A T)(r:Tm (N+1)):g5 A r=g5 T r:=by unfold tb.g5;rw[h.tab]
theorem fH.cq(h:fH i A T)(r:Tm (N+1)):cq A r=cq T r:=by unfold tb.cq;rw[h.tab]
theorem fH.cV(h:fH i A T)(r k:Tm (N+1)):cV A r k=cV T r k:=by unfold tb.cV;rw[h.tab]
theorem fH.kJ(h:fH i A T)(r:Tm (N+1)):kJ A r=kJ T r:=by unfold tb.kJ;rw[h.tab]
theorem fH.ref(h:fH i A T)(r:Tm (N+1)):(d_ A r).isSome=(d_ T r).isSome:=by
 have e:d_ A r=none↔d_ T r=none:=by rw[zO,zO,h.tab]
 cases h1:d_ A r with
 | none=>rw[e.1 h1]
 | some x=>cases h2:d_ T r with
  | none=>rw[e.2 h2]at h1;cases h1
  | some y=>rfl
theorem fH.jz(h:fH i A T)(r:Tm (N+1)):jz A r=jz T r:=by
 have e:=h.ref r;unfold tb.jz;cases h1:d_ A r <;> cases h2:d_ T r <;> rw[h1,h2]at e <;> first|rfl|cases e
theorem fH.jm(h:fH i A T)(r k v:Tm (N+1)):jm A r k v=jm T r k v:=by
 have e:=h.ref r;unfold tb.jm;cases h1:d_ A r <;> cases h2:d_ T r <;> rw[h1,h2]at e <;> first|rfl|cases e
theorem fH.eO(h:fH i A T)(r o:Tm (N+1)):eO A r o=eO T r o:=by
 have e:=h.ref r;unfold tb.eO;rw[h.Uf];cases h1:d_ A r <;> cases h2:d_ T r <;> rw[h1,h2]at e <;> first|rfl|cases e
theorem fH.more(h:fH i A T){j:Nat}(hj:i≤j):fH j A T:=⟨h.perm,h.Nx,h.vd,h.len,fun a ha=>Nat.le_trans (h.rows a ha) hj,h.nd⟩
theorem fH.map(h:fH i A T){j:Nat}(g:bW N→bW N)(hr:∀a,(g a).ref=a.ref)(ho:∀a,(g a).own=a.own)(hl:∀a∈A,(g a).rows.length≤j)(hn:∀a∈A,∀x∈(g a).rows,ap x.1≤100000000∧ap x.2≤100000000):fH j (A.map g) (T.map g):=by
 refine⟨h.perm.map g,?_,fun a ha=>?_,by rw[List.length_map];exact h.len,fun a ha=>?_,fun a ha=>?_⟩
 ·refine List.pairwise_map.2 (h.Nx.imp_of_mem (fun{a b} _ _ h1=>?_));rw[hr,hr];exact h1
 ·obtain⟨b,hb,rfl⟩:=List.mem_map.1 ha;rw[hr];exact h.vd b hb
 ·obtain⟨b,hb,rfl⟩:=List.mem_map.1 ha;exact hl b hb
 ·obtain⟨b,hb,rfl⟩:=List.mem_map.1 ha;rw[hr,ho];exact⟨(h.nd b hb).1,(h.nd b hb).2.1,hn b hb⟩
theorem fH.filter(h:fH i A T)(p:bW N→Bool):fH i (A.filter p) (T.filter p) :=
 ⟨h.perm.filter p,h.Nx.filter p,fun a ha=>h.vd a (List.mem_filter.1 ha).1,Nat.le_trans (List.length_filter_le _ _) h.len,fun a ha=>h.rows a (List.mem_filter.1 ha).1,fun a ha=>h.nd a (List.mem_filter.1 ha).1⟩
theorem B5{c:Tm (N+1)→Tm (N+1)→Int}{R:List (Tm (N+1)×Tm (N+1))}:(lH c R k v).length≤R.length+1∧∀x∈lH c R k v,x∈R∨x=(k,v):=by
 refine⟨?_,fun x hx=>?_⟩
 ·have h:=uB (c:=c) R k;unfold lH;rw[List.length_append,List.length_cons,List.length_take,List.length_drop]
  split <;> omega
 ·unfold lH at hx
  rcases List.mem_append.1 hx with hx|hx
  ·exact .inl (List.mem_of_mem_take hx)
  ·rcases List.mem_cons.1 hx with hx|hx
   ·exact .inr hx
   ·exact .inl (List.mem_of_mem_drop hx)
theorem B6{c:Tm (N+1)→Tm (N+1)→Int}{R:List (Tm (N+1)×Tm (N+1))}:(kG c R k).length≤R.length∧∀x∈kG c R k,x∈R:=by
 refine⟨?_,fun x hx=>?_⟩
 ·unfold kG
  split
  ·rw[List.length_append,List.length_take,List.length_drop];omega
  ·exact Nat.le_refl _
 ·unfold kG at hx
  split at hx
  ·rcases List.mem_append.1 hx with hx|hx
   ·exact List.mem_of_mem_take hx
   ·exact List.mem_of_mem_drop hx
  ·exact hx
theorem fH.put(h:fH i A T)(hk:ap k≤100000000)(hv:ap v≤100000000)(r:Tm (N+1)):fH (i+1) (iU A r k v) (iU T r k v):=by
 unfold iU
 split
 ·rw[uI h.JU,uI h.JT]
  refine h.map _ (fun a=>by split <;> rfl) (fun a=>by split <;> rfl) (fun a ha=>?_) (fun a ha x hx=>?_)
  ·split
   ·exact Nat.le_trans B5.1 (Nat.succ_le_succ (h.rows a ha))
   ·exact Nat.le_succ_of_le (h.rows a ha)
  ·split at hx
   ·rcases B5.2 x hx with hx|rfl
    ·exact(h.nd a ha).2.2 x hx
    ·exact⟨hk,hv⟩
   ·exact(h.nd a ha).2.2 x hx
 ·exact h.more (Nat.le_succ i)
theorem fH.del(h:fH i A T)(r k:Tm (N+1)):fH i (jF A r k) (jF T r k):=by
 unfold jF
 split
 ·rw[uI h.JU,uI h.JT]
  refine h.map _ (fun a=>by split <;> rfl) (fun a=>by split <;> rfl) (fun a ha=>?_) (fun a ha x hx=>?_)
  ·split
   ·exact Nat.le_trans B6.1 (h.rows a ha)
   ·exact h.rows a ha
  ·split at hx
   ·exact(h.nd a ha).2.2 x (B6.2 x hx)
   ·exact(h.nd a ha).2.2 x hx
 ·exact h
theorem fH.drop(h:fH i A T)(r:Tm (N+1)):fH i (g7 A r) (g7 T r):=by
 rw[tP h.JU,tP h.JT];exact h.filter _
theorem fH.end_(h:fH i A T)(o:Tm (N+1)):fH i (rT A o) (rT T o):=h.filter _
theorem fH.names(h:fH i A T)(o:Tm (N+1)):j6 (dV A o)=dV T o:=by
 have hp:(dV A o).Perm (dV T o):=(h.perm.filter _).map _;have hm:∀t∈dV T o,aC t=true:=fun t ht=>by
  unfold dV at ht;obtain⟨a,ha,rfl⟩:=List.mem_map.1 ht;exact h.vd a (h.perm.mem_iff.2 (List.mem_filter.1 ha).1)
 refine List.Perm.eq_of_pairwise (le:=fun a b=>qG cM a b=true) (fun a b ha hb h1 h2=>?_) (Ju _) ?_ ((vZ _).trans hp)
 ·unfold qG at h1 h2;have h1:=of_decide_eq_true h1;have h2:=of_decide_eq_true h2;have h3:=LO.anti a b;exact uC (hm a (((vZ _).trans hp).mem_iff.1 ha)) (hm b hb) (by omega)
 ·unfold dV;refine List.pairwise_map.2 ((h.Nx.filter _).imp_of_mem (fun{a b} _ _ h1=>?_));unfold qG;exact decide_eq_true (by omega)
theorem yx{m:Nat}:∀l:List (Tm (N+1)),(∀t∈l,ap t≤m)→aP (N+1) l≤l.length*m
 | [],_=>by simp[aP]
 | t::l,h=>by
  rw[jT];have h1:=yx l (fun x hx=>h x (List.mem_cons_of_mem _ hx));have h2:=h t (List.mem_cons_self ..);rw[List.length_cons,Nat.add_mul];omega
theorem fH.QR(h:fH i A T)(o:Tm (N+1)):aP (N+1) (dV A o)≤100000000:=by
 have h1:(dV A o).length≤64:=by
  unfold dV;rw[List.length_map];exact Nat.le_trans (List.length_filter_le _ _) h.len
 have h2:=yx (m:=8000) (dV A o) (fun t ht=>by
  unfold dV at ht
  obtain⟨a,ha,rfl⟩:=List.mem_map.1 ht
  exact(h.nd a (List.mem_filter.1 ha).1).1)
 have h3:=Nat.mul_le_mul_right 8000 h1;omega
theorem fH.make(h:fH i A T)(hr:ap r≤8000)(ho:ap o≤100000000)(hs:Bool):fH i (oY A r o hs) (lu T r o hs):=by
 have hE:=h.eO r o;unfold oY lu;rw[←hE]
 by_cases h0:tb.eO A r o=0
 ·rw[if_pos h0,if_pos h0];unfold tb.eO at h0
  split at h0
  ·rename_i hc;simp only[Bool.and_eq_true,decide_eq_true_eq]at hc;obtain⟨⟨⟨_,_⟩,jL⟩,_⟩:=hc
   split at h0
   ·exact absurd h0 (by decide)
   ·rename_i iZ
    split at h0
    ·exact absurd h0 (by decide)
    ·rename_i hlen;have hno:∀a∈T,a.ref≠r:=fun a ha e=>by
      have h1:kH A r=some a:=(zN h.JU).2 ⟨h.perm.mem_iff.2 ha,e⟩;rw[zO.1 iZ]at h1;cases h1
     have hlt:∀a∈T.take (jr T r),cM a.ref r<0:=fun a ha=>by
      obtain⟨j,hj,rfl⟩:=List.mem_iff_getElem.1 ha;rw[List.length_take]at hj;rw[List.getElem_take];have:=List.not_of_lt_findIdx (p:=fun a:bW N=>!decide (cM a.ref r<0)) (xs:=T) (i:=j) (by unfold jr at hj;omega);simpa using this
     have hge:∀a∈T.drop (jr T r),cM r a.ref<0:=fun a ha=>by
      obtain⟨j,hj,rfl⟩:=List.mem_iff_getElem.1 ha;rw[List.length_drop]at hj;rw[List.getElem_drop];have hp:jr T r<T.length:=by omega
      have h1:¬cM (T[jr T r]).ref r<0:=by
       have h9:(!decide (cM (T[jr T r]).ref r<0))=true:=List.findIdx_getElem (p:=fun a:bW N=>!decide (cM a.ref r<0)) (xs:=T) (w:=hp);simpa using h9
      have mW:=h.vd _ (h.perm.mem_iff.2 (List.getElem_mem hp));have hne:cM (T[jr T r]).ref r≠0:=fun e=>hno _ (List.getElem_mem hp) (uC mW jL e);have ha:=LO.anti (T[jr T r]).ref r;have h2:cM r (T[jr T r]).ref<0:=by omega
      by_cases hj0:j=0
      ·subst hj0;exact h2
      ·have h3:=List.pairwise_iff_getElem.1 h.Nx (jr T r) (jr T r+j) hp (by omega) (by omega);exact(wX (N:=N) false).lt_trans h2 h3
     refine⟨?_,?_,fun a ha=>?_,?_,fun a ha=>?_,fun a ha=>?_⟩
     ·rw[List.append_assoc];refine(List.perm_append_comm).trans ?_;refine(List.Perm.cons _ h.perm).trans ?_;have e:T=T.take (jr T r)++T.drop (jr T r):=(List.take_append_drop _ _).symm
      conv=>lhs;rw[e]
      exact List.perm_middle.symm
     ·rw[List.append_assoc];refine List.pairwise_append.2 ⟨h.Nx.sublist (List.take_sublist _ _),List.pairwise_cons.2 ⟨fun a ha=>hge a ha,h.Nx.sublist (List.drop_sublist _ _)⟩,fun a ha b hb=>?_⟩
      rcases List.mem_cons.1 hb with rfl|hb
      ·exact hlt a ha
      ·exact(wX (N:=N) false).lt_trans (hlt a ha) (hge b hb)
     ·rcases List.mem_append.1 ha with ha|ha
      ·exact h.vd a ha
      ·obtain rfl:=List.mem_singleton.1 ha;exact jL
     ·rw[List.length_append,List.length_singleton];omega
     ·rcases List.mem_append.1 ha with ha|ha
      ·exact h.rows a ha
      ·obtain rfl:=List.mem_singleton.1 ha;exact Nat.zero_le _
     ·rcases List.mem_append.1 ha with ha|ha
      ·exact h.nd a ha
      ·obtain rfl:=List.mem_singleton.1 ha;exact⟨hr,ho,fun x hx=>(nomatch hx)⟩
  ·exact absurd h0 (by decide)
 ·rw[if_neg h0,if_neg h0];exact h
end
theorem Ny{N:Nat}(W:World)(t1 t2:Tm (N+1)){u1 u2 u3 u4:Value}(h1:ah W W.heap.size N u1 t1.items)(h2:ah W W.heap.size N u2 t2.items)(h3:ah W W.heap.size N u3 t1.items)(h4:ah W W.heap.size N u4 t2.items)(b:Bool)(n:Int) :
 Calls Tryz.prog 69 #[aj t1.f u1,aj t2.f u2,.bool b,.int .i64 n,aj t1.f u3,aj t2.f u4,.bool b,.int .i64 n] W (aV true W):=by
 have dl:=Qh (fun(X:World) (hX:Qb W X)=>(show Calls Tryz.prog 27 #[aj t1.f u1,aj t1.f u3] X (aV true X) from by
  have h:=qP X W.heap.size u1 u3 t1 t1 hX.size (h1.below hX (Nat.le_refl _)) (h3.below hX (Nat.le_refl _))
  rw[eR rfl]at h
  exact h))
 have dP:=Qh (fun(X:World) (hX:Qb W X)=>(show Calls Tryz.prog 27 #[aj t2.f u2,aj t2.f u4] X (aV true X) from by
  have h:=qP X W.heap.size u2 u4 t2 t2 hX.size (h2.below hX (Nat.le_refl _)) (h4.below hX (Nat.le_refl _))
  rw[eR rfl]at h
  exact h))
 obtain⟨p1,c1,e1,_,_⟩:=h1.shape;obtain⟨p2,c2,e2,_,_⟩:=h2.shape;obtain⟨p3,c3,e3,_,_⟩:=h3.shape;obtain⟨p4,c4,e4,_,_⟩:=h4.shape;subst e1 e2 e3 e4;clear h1 h2 h3 h4;have hn1:t1.items.length=t1.items.length:=rfl;generalize t1.items.length=n1 at*;generalize t2.items.length=n2 at*;obtain⟨n3,h3⟩:∃x,n1=x:=⟨_,rfl⟩;obtain⟨n4,h4⟩:∃x,n2=x:=⟨_,rfl⟩;subst h3 h4;clear hn1;generalize t1.f=fa at*;generalize t2.f=fb at*;obtain⟨ak,ai,ag,an,af,aa,ab,az⟩:=fa;obtain⟨bk,bi,bg,bn,bf,ba,bb,bz⟩:=fb;unfold aj aV at*;dsimp only at*
 obtain⟨hb0,_,bT,bX,fY,eA⟩:=kS W (.cells (a9 ak ai ag an af aa (.slice p1 n1 c1) ab az) 24) (.cells (a9 bk bi bg bn bf ba (.slice p2 n2 c2) bb bz) 24) (.cells (a9 ak ai ag an af aa (.slice p3 n1 c3) ab az) 24) (.cells (a9 bk bi bg bn bf ba (.slice p4 n2 c4) bb bz) 24);have iq:=(Qg bT);have jC:=(Qg bX);have nR:=(Qg fY);have gP:=(Qg eA);have e1:(b==b)=true:=by simp
 have e2:(n==n)=true:=by simp
 go_enter Tryz.func69,Tryz.ntmps69;go_upto_region 1 with(fail);generalize((((W.alloc (.cells (a9 ak ai ag an af aa (.slice p1 n1 c1) ab az) 24)).alloc (.cells (a9 bk bi bg bn bf ba (.slice p2 n2 c2) bb bz) 24)).alloc (.cells (a9 ak ai ag an af aa (.slice p3 n1 c3) ab az) 24)).alloc (.cells (a9 bk bi bg bn bf ba (.slice p4 n2 c4) bb bz) 24))=W1 at*
 have HX:=Qh (fun X (hX:Qb W1 X)=>(And.intro (aq (x:=(l9 ak ai ag an af aa (.slice p1 n1 c1) ab az)) ((hX.block _ iq).trans bT)) (And.intro (aq (x:=(l9 bk bi bg bn bf ba (.slice p2 n2 c2) bb bz)) ((hX.block _ jC).trans bX)) (And.intro (aq (x:=(l9 ak ai ag an af aa (.slice p3 n1 c3) ab az)) ((hX.block _ nR).trans fY)) (aq (x:=(l9 bk bi bg bn bf ba (.slice p4 n2 c4) bb bz)) ((hX.block _ gP).trans eA))))));have hb:=Below.refl W1.heap.size W1;have au:=hb0;clear hb0 bT iq bX jC fY nR eA gP;have x0:=(HX.out _ hb).1 0 _ rfl;have x1:=(HX.out _ hb).1 1 _ rfl
 have x2:=(HX.out _ hb).1 2 _ rfl;have x3:=(HX.out _ hb).1 3 _ rfl;have x4:=(HX.out _ hb).1 4 _ rfl;have x5:=(HX.out _ hb).1 5 _ rfl;have x6:=(HX.out _ hb).1 6 _ rfl;have x7:=(HX.out _ hb).1 7 _ rfl;have x8:=(HX.out _ hb).1 8 _ rfl;simp only[Nat.reduceAdd]at x0 x1 x2 x3 x4 x5 x6 x7 x8;have y0:=(HX.out _ hb).2.2.1 0 _ rfl;have y1:=(HX.out _ hb).2.2.1 1 _ rfl;have y2:=(HX.out _ hb).2.2.1 2 _ rfl;have y3:=(HX.out _ hb).2.2.1 3 _ rfl;have y4:=(HX.out _ hb).2.2.1 4 _ rfl;have y5:=(HX.out _ hb).2.2.1 5 _ rfl;have y6:=(HX.out _ hb).2.2.1 6 _ rfl;have y7:=(HX.out _ hb).2.2.1 7 _ rfl
 have y8:=(HX.out _ hb).2.2.1 8 _ rfl;simp only[Nat.reduceAdd]at y0 y1 y2 y3 y4 y5 y6 y7 y8;go_wp2_with fail;refine(dl.out _ au).mono ?_;rintro e w2 ⟨rfl,aD⟩;replace hb:=hb.trans (aD.mono hb.size);replace au:=au.trans (aD.mono au.size);clear x0 x1 x2 x3 x4 x5 x6 x7 x8 y0 y1 y2 y3 y4 y5 y6 y7 y8;clear aD;have x0:=(HX.out _ hb).2.1 0 _ rfl;have x1:=(HX.out _ hb).2.1 1 _ rfl;have x2:=(HX.out _ hb).2.1 2 _ rfl;have x3:=(HX.out _ hb).2.1 3 _ rfl;have x4:=(HX.out _ hb).2.1 4 _ rfl;have x5:=(HX.out _ hb).2.1 5 _ rfl;have x6:=(HX.out _ hb).2.1 6 _ rfl;have x7:=(HX.out _ hb).2.1 7 _ rfl
 have x8:=(HX.out _ hb).2.1 8 _ rfl;simp only[Nat.reduceAdd]at x0 x1 x2 x3 x4 x5 x6 x7 x8;have y0:=(HX.out _ hb).2.2.2 0 _ rfl;have y1:=(HX.out _ hb).2.2.2 1 _ rfl;have y2:=(HX.out _ hb).2.2.2 2 _ rfl;have y3:=(HX.out _ hb).2.2.2 3 _ rfl;have y4:=(HX.out _ hb).2.2.2 4 _ rfl;have y5:=(HX.out _ hb).2.2.2 5 _ rfl;have y6:=(HX.out _ hb).2.2.2 6 _ rfl;have y7:=(HX.out _ hb).2.2.2 7 _ rfl;have y8:=(HX.out _ hb).2.2.2 8 _ rfl;simp only[Nat.reduceAdd]at y0 y1 y2 y3 y4 y5 y6 y7 y8;go_wp2_with fail;refine(dP.out _ au).mono ?_;rintro e w3 ⟨rfl,aD⟩;replace au:=au.trans (aD.mono au.size)
 clear x0 x1 x2 x3 x4 x5 x6 x7 x8 y0 y1 y2 y3 y4 y5 y6 y7 y8;clear aD hb;go_wp2_with fail;go_ret;exact⟨by simp,au⟩
section
variable {N:Nat}{w W W':World}{z y b:Nat}{A T A' T':List (bW N)}
theorem jy.prog(h:jy w z y A T W)(hs:n9 w.heap.size z A' W')(ht:TT eF w.heap.size W W'):jy w z y A' T W':=⟨hs,h.rf.prog ht,h.hb.trans (ht.below h.size)⟩
theorem jy.JV(h:jy w z y A T W)(hr:qL w.heap.size y T' W')(ht:TT gC w.heap.size W W'):jy w z y A T' W':=⟨h.st.ref ht,hr,h.hb.trans (ht.below h.size)⟩
theorem lX{e:qD N}(h:W.heap[b]?=some (.cells (jM e).toArray 44)):W.cell? ⟨b,0,none⟩=some (.int .i64 e.kind)∧W.rangeAt b 1 (aE e.a.f e.ua)∧W.rangeAt b 10 (aE e.b.f e.ub)∧W.rangeAt b 19 (aE e.r.f e.ur)∧W.cell? ⟨b,28,none⟩=some (.bool e.hs):=by
 have h1:=BL (aq h);simp only[Nat.zero_add]at h1;exact h1
end
def kw(W X:World):Prop:=∀(b:Nat) (c:Array Value),W.heap[b]?=some (Obj.cells c 44)→X.heap[b]?=some (Obj.cells c 44)
theorem kw.below{W X:World}(h:Below W.heap.size W X):kw W X:=fun b c hb=>(h.block b (Array.getElem?_eq_some_iff.1 hb).1).trans hb
theorem kw.trans{W X Y:World}(h:kw W X)(h1:∀(b:Nat) (c:Array Value),X.heap[b]?=some (Obj.cells c 44)→Y.heap[b]?=some (Obj.cells c 44)):kw W Y:=fun b c hb=>h1 b c (h b c hb)
def zP(w:World)(z y i:Nat)(N:Nat)(W:World)(e:Ending)(w':World):Prop:=e=.returned (.bool true)∧(∃A T:List (bW N),jy w z y A T w'∧fH (i+1) A T)∧kw W w'
theorem mT{B:Nat}{X w':World}(ht:TT eF B X w'):∀(b:Nat) (c:Array Value),X.heap[b]?=some (Obj.cells c 44)→w'.heap[b]?=some (Obj.cells c 44):=fun b c h=>ht.ER h (by unfold eF;decide)
theorem o_{B:Nat}{X w':World}(ht:TT gC B X w'):∀(b:Nat) (c:Array Value),X.heap[b]?=some (Obj.cells c 44)→w'.heap[b]?=some (Obj.cells c 44):=fun b c h=>ht.ER h (by unfold gC;decide)
def CQ{N:Nat}(v:Value)(w:World)(z y:Nat)(A T:List (bW N))(X:World)(e:Ending)(w':World):Prop:=e=.returned v∧jy w z y A T w'∧∀(b:Nat) (c:Array Value),X.heap[b]?=some (Obj.cells c 44)→w'.heap[b]?=some (Obj.cells c 44)
theorem Gw{N:Nat}{w W:World}{z y i:Nat}{A T:List (bW N)}{e:qD N}(h:jy w z y A T W)(hR:fH i A T)(hi:i≤1000)(hin:nC w w.heap.size e)(hna:ap e.a≤8000)(hnb:ap e.b≤8000)(iZ:ap e.r≤8000)(hp:iM e.kind 12=0):Calls Tryz.prog 35 #[.pointer (some ⟨z,0,none⟩),.pointer (some ⟨y,0,none⟩),.agg (jM e).toArray] W (zP w z y i N W):=by
 have qM:=hR.KB (Nat.le_trans hi (by decide));have hbd:=hR.KC (Nat.le_trans hi (by decide));have ul:=Qh (fun(X:World)=>(show Calls Tryz.prog 21 #[.int .i64 e.kind,.int .i64 12] X fun e' w'=>e'=.returned (.int .i64 0)∧Qb X w' from by rw[←hp];exact o7 X e.kind 12 (by decide) (by decide)));have iA:=fun(X:World) (hX:Qb w X)=>hin.1.below hX (Nat.le_refl _);have iB:=fun(X:World) (hX:Qb w X)=>hin.2.1.below hX (Nat.le_refl _);have iR:=fun(X:World) (hX:Qb w X)=>hin.2.2.below hX (Nat.le_refl _)
 have HP:=Qh (fun(X:World) (hS:jy w z y A T X)=>(show Calls Tryz.prog 17 #[.pointer (some ⟨z,0,none⟩),aj e.a.f e.ua,aj e.r.f e.ur,.bool e.hs] X (CQ (.int .i64 (eO A e.a e.r)) w z y (oY A e.a e.r e.hs) T X) from(Pw hS.st qM hS.size (B2:=w.heap.size) (Nat.le_refl _) (iA X hS.hb) (iR X hS.hb) (by omega) (by omega) e.hs).mono (fun e' w' q=>⟨q.1,hS.prog q.2.1 q.2.2,mT q.2.2⟩)))
 have HR:=Qh (fun(X:World) (A':List (bW N)) (hS:jy w z y A' T X)=>(show Calls Tryz.prog 20 #[.pointer (some ⟨y,0,none⟩),aj e.a.f e.ua,aj e.r.f e.ur,.bool e.hs] X (CQ (.int .i64 (eO A e.a e.r)) w z y A' (lu T e.a e.r e.hs) X) from(Qy hS.rf hbd (iA X hS.hb) (iR X hS.hb) (by omega) (by omega) e.hs).mono (fun e' w' q=>⟨by rw[hR.eO];exact q.1,hS.JV q.2.1 q.2.2,o_ q.2.2⟩)))
 have HF:=Qh (fun(X:World) hS (hG:kw W X)=>(show zP w z y i N W (.returned (.bool true)) X from⟨rfl,⟨oY A e.a e.r e.hs,lu T e.a e.r e.hs,hS,(hR.make hna (by omega) e.hs).more (Nat.le_succ i)⟩,hG⟩));unfold CQ at HP HR;generalize eO A e.a e.r=q at*;generalize oY A e.a e.r e.hs=A1 at*;generalize lu T e.a e.r e.hs=T1 at*;have U4:(q==q)=true:=by simp
 clear hR;clear iA iB iR qM hbd hp;have hb0:=aG (Below.refl W.heap.size W) (.cells (jM e).toArray 44) (Nat.le_refl _);have hB:=aF W (.cells (jM e).toArray 44);have hG:=kw.below hb0;have wu:=fun(X:World) (b:Nat) (hB:X.heap[b]?=some (.cells (jM e).toArray 44))=>lX hB;have hS:=h.below hb0;obtain⟨pr,cr,e1,_,_⟩:=hin.1.shape;obtain⟨pk,ck,e2,_,_⟩:=hin.2.1.shape;obtain⟨pv,cv,e3,_,_⟩:=hin.2.2.shape;clear hin h hb0 hna hnb iZ;obtain⟨kd,ta,wA,tr,hd,ua,ub,uv⟩:=e;dsimp only at*;subst e1 e2 e3;unfold jM at*;dsimp only at*;generalize ta.items.length=nr at*
 generalize wA.items.length=nk at*;generalize tr.items.length=nv at*;generalize ta.f=fr at*;generalize wA.f=fk at*;generalize tr.f=fv at*;obtain⟨rk,ri,rg,rn,rf,ra,rb,rz⟩:=fr;obtain⟨kk,ki,kg,kn,kf,ka,kb,kz⟩:=fk;obtain⟨vk,vi,vg,vn,vf,va,vb,vz⟩:=fv;unfold aE aj at*;dsimp only at*;simp only[List.cons_append,List.nil_append]at*;have HX:=Qh wu;clear wu;go_enter Tryz.func35,Tryz.ntmps35;go_upto_region 1 with(fail)
 generalize(W.alloc (.cells (wI kd rk ri rg rn rf ra (.slice pr nr cr) rb rz kk ki kg kn kf ka (.slice pk nk ck) kb kz vk vi vg vn vf va (.slice pv nv cv) vb vz hd) 44))=W1 at*;generalize W.heap.size=b at*;have c0:=(HX.out _ _ hB).1;go_wp2_with fail;refine(ul.out _).mono ?_;rintro e w2 ⟨rfl,aD⟩;replace hS:=hS.below aD;replace hB:=Qp aD hB;replace hG:=hG.trans (kw.below aD);clear aD c0 ul;go_upto_region 3 with(fail);have aD:=aZ (Below.refl w2.heap.size w2);replace hS:=hS.below aD;replace hB:=Qp aD hB;replace hG:=hG.trans (kw.below aD);clear aD
 refine wp_region_held_drew (S:=(fun w'=>w'.rangeAt b 1 (l9 rk ri rg rn rf ra (.slice pr nr cr) rb rz)∧w'.rangeAt b 10 (l9 kk ki kg kn kf ka (.slice pk nk ck) kb kz)∧w'.rangeAt b 19 (l9 vk vi vg vn vf va (.slice pv nv cv) vb vz)∧w'.cell? ⟨b,28,none⟩=some (.bool hd))) (by kernel_rfl) ?_ (fun hHeld=>?_)
 ·exact(HX.out _ _ hB).2
 generalize w2.drew=wd at*;refine run_in [0,1,2,3,4,5,6,8,9,10,11,12,13,14] ?_;iterate 2 refine Qe ?_
 refine Qm (fun w hs=>hs.1) ?_;refine Qe ?_;refine Qm (fun w hs=>hs.2.2.1) ?_;refine Qe ?_;refine Qc UN (fun w hs=>hs.2.2.2) ?_;iterate 2 refine Qe ?_
 refine Qm (fun w hs=>hs.1) ?_;refine Qe ?_;refine Qm (fun w hs=>hs.2.2.1) ?_;refine Qe ?_;refine Qc UN (fun w hs=>hs.2.2.2) ?_;refine aI ?_;refine Qd 7 (fun K hK=>?_);go_simp;refine(HP.out _ hS).mono ?_;rintro e y1 ⟨rfl,mX,hK⟩;replace hB:=hK _ _ hB;replace hG:=hG.trans hK;clear hS hK;have hS:=mX;clear mX;go_wp2_with fail;refine Qk hK ((HX.out _ _ hB).2) (fun hHeld=>?_);clear hK K;refine Qd 15 (fun K hK=>?_);go_simp;refine(HR.out _ _ hS).mono ?_;rintro e y2 ⟨rfl,mX,hK⟩;replace hB:=hK _ _ hB;replace hG:=hG.trans hK;clear hS hK;have hS:=mX;clear mX;go_wp2_with fail
 refine Qk hK ((HX.out _ _ hB).2) (fun hHeld=>?_);clear hK K;refine run_in [16,17] ?_;iterate 2 refine Qe ?_
 refine aI ?_;refine wpAnyH_done (by kernel_rfl) ?_ _;go_wp2_with fail;go_ret
 first|exact HF.out _ hS hG|(simpa using HF.out _ hS hG)
theorem Gx{N:Nat}{w W:World}{z y i:Nat}{A T:List (bW N)}{e:qD N}(h:jy w z y A T W)(hR:fH i A T)(hi:i≤1000)(hin:nC w w.heap.size e)(hna:ap e.a≤8000)(hnb:ap e.b≤8000)(iZ:ap e.r≤8000)(hp:iM e.kind 12=6):Calls Tryz.prog 35 #[.pointer (some ⟨z,0,none⟩),.pointer (some ⟨y,0,none⟩),.agg (jM e).toArray] W (zP w z y i N W):=by
 have qM:=hR.KB (Nat.le_trans hi (by decide));have hbd:=hR.KC (Nat.le_trans hi (by decide));have ul:=Qh (fun(X:World)=>(show Calls Tryz.prog 21 #[.int .i64 e.kind,.int .i64 12] X fun e' w'=>e'=.returned (.int .i64 6)∧Qb X w' from by rw[←hp];exact o7 X e.kind 12 (by decide) (by decide)));have iA:=fun(X:World) (hX:Qb w X)=>hin.1.below hX (Nat.le_refl _);have iB:=fun(X:World) (hX:Qb w X)=>hin.2.1.below hX (Nat.le_refl _);have iR:=fun(X:World) (hX:Qb w X)=>hin.2.2.below hX (Nat.le_refl _)
 have HP:=Qh (fun(X:World) (hS:jy w z y A T X)=>(show Calls Tryz.prog 41 #[.pointer (some ⟨z,0,none⟩),aj e.a.f e.ua] X (CQ (.int .i64 (jz A e.a)) w z y (g7 A e.a) T X) from(QL hS.st qM hS.size (B2:=w.heap.size) hS.size (iA X hS.hb)).mono (fun e' w' q=>⟨q.1,hS.prog q.2.1 q.2.2,mT q.2.2⟩)))
 have HR:=Qh (fun(X:World) (A':List (bW N)) (hS:jy w z y A' T X)=>(show Calls Tryz.prog 71 #[.pointer (some ⟨y,0,none⟩),aj e.a.f e.ua] X (CQ (.int .i64 (jz A e.a)) w z y A' (g7 T e.a) X) from(QO hS.rf hbd (iA X hS.hb)).mono (fun e' w' q=>⟨by rw[hR.jz];exact q.1,hS.JV q.2.1 q.2.2,o_ q.2.2⟩)));have HF:=Qh (fun(X:World) hS (hG:kw W X)=>(show zP w z y i N W (.returned (.bool true)) X from⟨rfl,⟨g7 A e.a,g7 T e.a,hS,(hR.drop e.a).more (Nat.le_succ i)⟩,hG⟩));unfold CQ at HP HR;generalize jz A e.a=q at*;generalize g7 A e.a=A1 at*
 generalize g7 T e.a=T1 at*;have U4:(q==q)=true:=by simp
 clear hR;clear iA iB iR qM hbd hp;have hb0:=aG (Below.refl W.heap.size W) (.cells (jM e).toArray 44) (Nat.le_refl _);have hB:=aF W (.cells (jM e).toArray 44);have hG:=kw.below hb0;have wu:=fun(X:World) (b:Nat) (hB:X.heap[b]?=some (.cells (jM e).toArray 44))=>lX hB;have hS:=h.below hb0;obtain⟨pr,cr,e1,_,_⟩:=hin.1.shape;obtain⟨pk,ck,e2,_,_⟩:=hin.2.1.shape;obtain⟨pv,cv,e3,_,_⟩:=hin.2.2.shape;clear hin h hb0 hna hnb iZ;obtain⟨kd,ta,wA,tr,hd,ua,ub,uv⟩:=e;dsimp only at*;subst e1 e2 e3;unfold jM at*;dsimp only at*;generalize ta.items.length=nr at*
 generalize wA.items.length=nk at*;generalize tr.items.length=nv at*;generalize ta.f=fr at*;generalize wA.f=fk at*;generalize tr.f=fv at*;obtain⟨rk,ri,rg,rn,rf,ra,rb,rz⟩:=fr;obtain⟨kk,ki,kg,kn,kf,ka,kb,kz⟩:=fk;obtain⟨vk,vi,vg,vn,vf,va,vb,vz⟩:=fv;unfold aE aj at*;dsimp only at*;simp only[List.cons_append,List.nil_append]at*;have HX:=Qh wu;clear wu;go_enter Tryz.func35,Tryz.ntmps35;go_upto_region 1 with(fail)
 generalize(W.alloc (.cells (wI kd rk ri rg rn rf ra (.slice pr nr cr) rb rz kk ki kg kn kf ka (.slice pk nk ck) kb kz vk vi vg vn vf va (.slice pv nv cv) vb vz hd) 44))=W1 at*;generalize W.heap.size=b at*;have c0:=(HX.out _ _ hB).1;go_wp2_with fail;refine(ul.out _).mono ?_;rintro e w2 ⟨rfl,aD⟩;replace hS:=hS.below aD;replace hB:=Qp aD hB;replace hG:=hG.trans (kw.below aD);clear aD c0 ul;go_upto_region 22 with(fail);have aD:=aZ (Below.refl w2.heap.size w2);replace hS:=hS.below aD;replace hB:=Qp aD hB;replace hG:=hG.trans (kw.below aD);clear aD
 refine wp_region_held_drew (S:=(fun w'=>w'.rangeAt b 1 (l9 rk ri rg rn rf ra (.slice pr nr cr) rb rz)∧w'.rangeAt b 10 (l9 kk ki kg kn kf ka (.slice pk nk ck) kb kz)∧w'.rangeAt b 19 (l9 vk vi vg vn vf va (.slice pv nv cv) vb vz)∧w'.cell? ⟨b,28,none⟩=some (.bool hd))) (by kernel_rfl) ?_ (fun hHeld=>?_)
 ·exact(HX.out _ _ hB).2
 generalize w2.drew=wd at*;refine run_in [0,1,2,4,5,6] ?_;iterate 2 refine Qe ?_
 refine Qm (fun w hs=>hs.1) ?_;iterate 2 refine Qe ?_
 refine Qm (fun w hs=>hs.1) ?_;refine aI ?_;refine Qd 3 (fun K hK=>?_);go_simp;refine(HP.out _ hS).mono ?_;rintro e y1 ⟨rfl,mX,hK⟩;replace hB:=hK _ _ hB;replace hG:=hG.trans hK;clear hS hK;have hS:=mX;clear mX;go_wp2_with fail;refine Qk hK ((HX.out _ _ hB).2) (fun hHeld=>?_);clear hK K;refine Qd 7 (fun K hK=>?_);go_simp;refine(HR.out _ _ hS).mono ?_;rintro e y2 ⟨rfl,mX,hK⟩;replace hB:=hK _ _ hB;replace hG:=hG.trans hK;clear hS hK;have hS:=mX;clear mX;go_wp2_with fail;refine Qk hK ((HX.out _ _ hB).2) (fun hHeld=>?_);clear hK K;refine run_in [8,9] ?_;iterate 2 refine Qe ?_
 refine aI ?_;refine wpAnyH_done (by kernel_rfl) ?_ _;go_wp2_with fail;go_ret
 first|exact HF.out _ hS hG|(simpa using HF.out _ hS hG)
theorem JW{N:Nat}{w W:World}{z y i:Nat}{A T:List (bW N)}{e:qD N}(h:jy w z y A T W)(hR:fH i A T)(hi:i≤1000)(hin:nC w w.heap.size e)(hna:ap e.a≤8000)(hnb:ap e.b≤8000)(iZ:ap e.r≤8000){p:Int}(hp:iM e.kind 12=p)(hq:∀j:Int,0≤j→j≤7→p≠j):Calls Tryz.prog 35 #[.pointer (some ⟨z,0,none⟩),.pointer (some ⟨y,0,none⟩),.agg (jM e).toArray] W (zP w z y i N W):=by
 have qM:=hR.KB (Nat.le_trans hi (by decide));have hbd:=hR.KC (Nat.le_trans hi (by decide));have ul:=Qh (fun(X:World)=>(show Calls Tryz.prog 21 #[.int .i64 e.kind,.int .i64 12] X fun e' w'=>e'=.returned (.int .i64 p)∧Qb X w' from by rw[←hp];exact o7 X e.kind 12 (by decide) (by decide)));have iA:=fun(X:World) (hX:Qb w X)=>hin.1.below hX (Nat.le_refl _);have iB:=fun(X:World) (hX:Qb w X)=>hin.2.1.below hX (Nat.le_refl _);have iR:=fun(X:World) (hX:Qb w X)=>hin.2.2.below hX (Nat.le_refl _)
 have HP:=Qh (fun(X:World) (hS:jy w z y A T X)=>(show Calls Tryz.prog 24 #[.pointer (some ⟨z,0,none⟩),aj e.a.f e.ua,aj e.b.f e.ub,aj e.r.f e.ur] X (CQ (.int .i64 (jm A e.a e.b e.r)) w z y (iU A e.a e.b e.r) T X) from(Tc hS.st qM hS.size (B2:=w.heap.size) (Nat.le_refl _) (iA X hS.hb) (iB X hS.hb) (iR X hS.hb) (by omega) (by omega)).mono (fun e' w' q=>⟨q.1,hS.prog q.2.1 q.2.2,mT q.2.2⟩)))
 have HR:=Qh (fun(X:World) (A':List (bW N)) (hS:jy w z y A' T X)=>(show Calls Tryz.prog 25 #[.pointer (some ⟨y,0,none⟩),aj e.a.f e.ua,aj e.b.f e.ub,aj e.r.f e.ur] X (CQ (.int .i64 (jm A e.a e.b e.r)) w z y A' (iU T e.a e.b e.r) X) from(TJ hS.rf hbd (iA X hS.hb) (iB X hS.hb) (iR X hS.hb) (by omega) (by omega)).mono (fun e' w' q=>⟨by rw[hR.jm];exact q.1,hS.JV q.2.1 q.2.2,o_ q.2.2⟩)));have HF:=Qh (fun(X:World) hS (hG:kw W X)=>(show zP w z y i N W (.returned (.bool true)) X from⟨rfl,⟨iU A e.a e.b e.r,iU T e.a e.b e.r,hS,hR.put (by omega) (by omega) e.a⟩,hG⟩))
 unfold CQ at HP HR;generalize jm A e.a e.b e.r=q at*;generalize iU A e.a e.b e.r=A1 at*;generalize iU T e.a e.b e.r=T1 at*;have U4:(q==q)=true:=by simp
 have q0:(p==0)=false:=beq_false_of_ne (hq 0 (by decide) (by decide));have q1:(p==1)=false:=beq_false_of_ne (hq 1 (by decide) (by decide));have q2:(p==2)=false:=beq_false_of_ne (hq 2 (by decide) (by decide));have q3:(p==3)=false:=beq_false_of_ne (hq 3 (by decide) (by decide));have q4:(p==4)=false:=beq_false_of_ne (hq 4 (by decide) (by decide));have q5:(p==5)=false:=beq_false_of_ne (hq 5 (by decide) (by decide));have q6:(p==6)=false:=beq_false_of_ne (hq 6 (by decide) (by decide));have q7:(p==7)=false:=beq_false_of_ne (hq 7 (by decide) (by decide));clear hq
 clear hR;clear iA iB iR qM hbd hp;have hb0:=aG (Below.refl W.heap.size W) (.cells (jM e).toArray 44) (Nat.le_refl _);have hB:=aF W (.cells (jM e).toArray 44);have hG:=kw.below hb0;have wu:=fun(X:World) (b:Nat) (hB:X.heap[b]?=some (.cells (jM e).toArray 44))=>lX hB;have hS:=h.below hb0;obtain⟨pr,cr,e1,_,_⟩:=hin.1.shape;obtain⟨pk,ck,e2,_,_⟩:=hin.2.1.shape;obtain⟨pv,cv,e3,_,_⟩:=hin.2.2.shape;clear hin h hb0 hna hnb iZ;obtain⟨kd,ta,wA,tr,hd,ua,ub,uv⟩:=e;dsimp only at*;subst e1 e2 e3;unfold jM at*;dsimp only at*;generalize ta.items.length=nr at*
 generalize wA.items.length=nk at*;generalize tr.items.length=nv at*;generalize ta.f=fr at*;generalize wA.f=fk at*;generalize tr.f=fv at*;obtain⟨rk,ri,rg,rn,rf,ra,rb,rz⟩:=fr;obtain⟨kk,ki,kg,kn,kf,ka,kb,kz⟩:=fk;obtain⟨vk,vi,vg,vn,vf,va,vb,vz⟩:=fv;unfold aE aj at*;dsimp only at*;simp only[List.cons_append,List.nil_append]at*;have HX:=Qh wu;clear wu;go_enter Tryz.func35,Tryz.ntmps35;go_upto_region 1 with(fail)
 generalize(W.alloc (.cells (wI kd rk ri rg rn rf ra (.slice pr nr cr) rb rz kk ki kg kn kf ka (.slice pk nk ck) kb kz vk vi vg vn vf va (.slice pv nv cv) vb vz hd) 44))=W1 at*;generalize W.heap.size=b at*;have c0:=(HX.out _ _ hB).1;go_wp2_with fail;refine(ul.out _).mono ?_;rintro e w2 ⟨rfl,aD⟩;replace hS:=hS.below aD;replace hB:=Qp aD hB;replace hG:=hG.trans (kw.below aD);clear aD c0 ul;go_upto_region 25 with(fail);have aD:=aZ (Below.refl w2.heap.size w2);replace hS:=hS.below aD;replace hB:=Qp aD hB;replace hG:=hG.trans (kw.below aD);clear aD
 refine wp_region_held_drew (S:=(fun w'=>w'.rangeAt b 1 (l9 rk ri rg rn rf ra (.slice pr nr cr) rb rz)∧w'.rangeAt b 10 (l9 kk ki kg kn kf ka (.slice pk nk ck) kb kz)∧w'.rangeAt b 19 (l9 vk vi vg vn vf va (.slice pv nv cv) vb vz)∧w'.cell? ⟨b,28,none⟩=some (.bool hd))) (by kernel_rfl) ?_ (fun hHeld=>?_)
 ·exact(HX.out _ _ hB).2
 generalize w2.drew=wd at*;refine run_in [0,1,2,3,4,5,6,8,9,10,11,12,13,14] ?_;iterate 2 refine Qe ?_
 refine Qm (fun w hs=>hs.1) ?_;refine Qe ?_;refine Qm (fun w hs=>hs.2.1) ?_;refine Qe ?_;refine Qm (fun w hs=>hs.2.2.1) ?_;iterate 2 refine Qe ?_
 refine Qm (fun w hs=>hs.1) ?_;refine Qe ?_;refine Qm (fun w hs=>hs.2.1) ?_;refine Qe ?_;refine Qm (fun w hs=>hs.2.2.1) ?_;refine aI ?_;refine Qd 7 (fun K hK=>?_);go_simp;refine(HP.out _ hS).mono ?_;rintro e y1 ⟨rfl,mX,hK⟩;replace hB:=hK _ _ hB;replace hG:=hG.trans hK;clear hS hK;have hS:=mX;clear mX;go_wp2_with fail;refine Qk hK ((HX.out _ _ hB).2) (fun hHeld=>?_);clear hK K;refine Qd 15 (fun K hK=>?_);go_simp;refine(HR.out _ _ hS).mono ?_;rintro e y2 ⟨rfl,mX,hK⟩;replace hB:=hK _ _ hB;replace hG:=hG.trans hK;clear hS hK;have hS:=mX;clear mX;go_wp2_with fail
 refine Qk hK ((HX.out _ _ hB).2) (fun hHeld=>?_);clear hK K;refine run_in [16,17] ?_;iterate 2 refine Qe ?_
 refine aI ?_;refine wpAnyH_done (by kernel_rfl) ?_ _;go_wp2_with fail;go_ret
 first|exact HF.out _ hS hG|(simpa using HF.out _ hS hG)
theorem bZ.ttR{n:Nat}{w0 W W':World}{F:Nat→Prop}{u:Value}{l:List (Tm n)}{B:Nat}(h:bZ w0 W F n u l)(ht:TT gC B W W'):bZ w0 W' F n u l:=by
 have hs:∀g,F g→W'.heap[g]?=W.heap[g]?:=fun g hg=>ht.keep (h.inr g hg).2 (fun t e hT=>by
  obtain⟨cur,k,e2,_⟩:=h.typed g hg
  rw[br e2]at e
  obtain rfl:=Option.some.inj e
  rcases hT with h|h|h <;> exact absurd h (by decide))
 exact⟨h.items.mono hs (fun _ hg=>hg),h.typed.same hs,fun g hg=>⟨(h.inr g hg).1,Nat.lt_of_lt_of_le (h.inr g hg).2 ht.size⟩⟩
theorem bZ.QS{n:Nat}{w0 w:World}{F:Nat→Prop}{u:Value}{l:List (Tm n)}(h:bZ w0 w F n u l):ah w w.heap.size n u l:=h.items.pR (fun g hg=>(h.inr g hg).2)
theorem JX{N:Nat}{w W:World}{z y i:Nat}{A T:List (bW N)}{e:qD N}(h:jy w z y A T W)(hR:fH i A T)(hi:i≤1000)(hin:nC w w.heap.size e)(hna:ap e.a≤8000)(hnb:ap e.b≤8000)(iZ:ap e.r≤8000)(hp:iM e.kind 12=7):Calls Tryz.prog 35 #[.pointer (some ⟨z,0,none⟩),.pointer (some ⟨y,0,none⟩),.agg (jM e).toArray] W (zP w z y i N W):=by
 have qM:=hR.KB (Nat.le_trans hi (by decide));have hbd:=hR.KC (Nat.le_trans hi (by decide));have ul:=Qh (fun(X:World)=>(show Calls Tryz.prog 21 #[.int .i64 e.kind,.int .i64 12] X fun e' w'=>e'=.returned (.int .i64 7)∧Qb X w' from by rw[←hp];exact o7 X e.kind 12 (by decide) (by decide)));have iA:=fun(X:World) (hX:Qb w X)=>hin.1.below hX (Nat.le_refl _);have iB:=fun(X:World) (hX:Qb w X)=>hin.2.1.below hX (Nat.le_refl _);have iR:=fun(X:World) (hX:Qb w X)=>hin.2.2.below hX (Nat.le_refl _)
 have HP:=Qh (fun(X:World) (hS:jy w z y A T X)=>(show Calls Tryz.prog 33 #[.pointer (some ⟨z,0,none⟩),aj e.r.f e.ur] X (fun e' w'=>∃F u,e'=.returned u∧bZ X w' F (N+1) u (dV T e.r)∧jy w z y (rT A e.r) T w'∧∀(b:Nat) (c:Array Value),X.heap[b]?=some (Obj.cells c 44)→w'.heap[b]?=some (Obj.cells c 44)) from(Uc hS.st (by have:=hR.len;omega) hS.size (B2:=w.heap.size) (Nat.le_refl _) (iR X hS.hb) (hR.QR e.r)).mono (fun e' w' q=>by
  obtain⟨⟨F,g,q1,q2,_⟩,q3,q4⟩:=q
  rw[hR.names]at q1 q2
  exact⟨F,_,q1,q2,hS.prog q3 q4,mT q4⟩)))
 have HR:=Qh (fun(X:World) (A':List (bW N)) (hS:jy w z y A' T X)=>(show Calls Tryz.prog 72 #[.pointer (some ⟨y,0,none⟩),aj e.r.f e.ur] X (fun e' w'=>∃u,e'=.returned u∧ah w' w'.heap.size (N+1) u (dV T e.r)∧jy w z y A' (rT T e.r) w'∧(∀(b:Nat) (c:Array Value),X.heap[b]?=some (Obj.cells c 44)→w'.heap[b]?=some (Obj.cells c 44))∧∀(w0:World) (F:Nat→Prop) (u:Value) (l:List (Tm (N+1))),bZ w0 X F (N+1) u l→bZ w0 w' F (N+1) u l) from(Ue hS.rf hbd (iR X hS.hb)).mono (fun e' w' q=>by
  obtain⟨u,q1,q2,q3,q4⟩:=q
  exact⟨u,q1,q2,hS.JV q3 q4,o_ q4,fun w0 F u l h=>h.ttR q4⟩)))
 have HS:=Qh (fun(X:World) (u1 u2:Value) (h1:ah X X.heap.size (N+1) u1 (dV T e.r)) (h2:ah X X.heap.size (N+1) u2 (dV T e.r))=>(show Calls Tryz.prog 61 #[u1,u2] X (aV true X) from by
  have h:=Ah (N+1) X X.heap.size u1 u2 _ _ (Nat.le_refl _) h1 h2
  rw[eR rfl]at h
  exact h))
 have HF:=Qh (fun(X:World) hS (hG:kw W X)=>(show zP w z y i N W (.returned (.bool true)) X from⟨rfl,⟨rT A e.r,rT T e.r,hS,(hR.end_ e.r).more (Nat.le_succ i)⟩,hG⟩));generalize dV T e.r=L at*;generalize rT A e.r=A1 at*;generalize rT T e.r=T1 at*;unfold aV at HS;clear hR;clear iA iB iR qM hbd hp;have hb0:=aG (Below.refl W.heap.size W) (.cells (jM e).toArray 44) (Nat.le_refl _);have hB:=aF W (.cells (jM e).toArray 44);have hG:=kw.below hb0;have wu:=fun(X:World) (b:Nat) (hB:X.heap[b]?=some (.cells (jM e).toArray 44))=>lX hB;have hS:=h.below hb0
 obtain⟨pr,cr,e1,_,_⟩:=hin.1.shape;obtain⟨pk,ck,e2,_,_⟩:=hin.2.1.shape;obtain⟨pv,cv,e3,_,_⟩:=hin.2.2.shape;clear hin h hb0 hna hnb iZ;obtain⟨kd,ta,wA,tr,hd,ua,ub,uv⟩:=e;dsimp only at*;subst e1 e2 e3;unfold jM at*;dsimp only at*;generalize ta.items.length=nr at*;generalize wA.items.length=nk at*;generalize tr.items.length=nv at*;generalize ta.f=fr at*;generalize wA.f=fk at*;generalize tr.f=fv at*;obtain⟨rk,ri,rg,rn,rf,ra,rb,rz⟩:=fr;obtain⟨kk,ki,kg,kn,kf,ka,kb,kz⟩:=fk;obtain⟨vk,vi,vg,vn,vf,va,vb,vz⟩:=fv;unfold aE aj at*;dsimp only at*
 simp only[List.cons_append,List.nil_append]at*;have HX:=Qh wu;clear wu;go_enter Tryz.func35,Tryz.ntmps35;go_upto_region 1 with(fail);generalize(W.alloc (.cells (wI kd rk ri rg rn rf ra (.slice pr nr cr) rb rz kk ki kg kn kf ka (.slice pk nk ck) kb kz vk vi vg vn vf va (.slice pv nv cv) vb vz hd) 44))=W1 at*;generalize W.heap.size=b at*;have c0:=(HX.out _ _ hB).1;go_wp2_with fail;refine(ul.out _).mono ?_;rintro e w2 ⟨rfl,aD⟩;replace hS:=hS.below aD;replace hB:=Qp aD hB;replace hG:=hG.trans (kw.below aD);clear aD c0 ul;go_upto_region 24 with(fail)
 have aD:=aZ (Below.refl w2.heap.size w2);replace hS:=hS.below aD;replace hB:=Qp aD hB;replace hG:=hG.trans (kw.below aD);clear aD
 refine wp_region_held_drew (S:=(fun w'=>w'.rangeAt b 1 (l9 rk ri rg rn rf ra (.slice pr nr cr) rb rz)∧w'.rangeAt b 10 (l9 kk ki kg kn kf ka (.slice pk nk ck) kb kz)∧w'.rangeAt b 19 (l9 vk vi vg vn vf va (.slice pv nv cv) vb vz)∧w'.cell? ⟨b,28,none⟩=some (.bool hd))) (by kernel_rfl) ?_ (fun hHeld=>?_)
 ·exact(HX.out _ _ hB).2
 generalize w2.drew=wd at*;refine run_in [0,1,2,4,5,6] ?_;iterate 2 refine Qe ?_
 refine Qm (fun w hs=>hs.2.2.1) ?_;iterate 2 refine Qe ?_
 refine Qm (fun w hs=>hs.2.2.1) ?_;refine aI ?_;refine Qd 3 (fun K hK=>?_);go_simp;refine(HP.out _ hS).mono ?_;rintro e y1 ⟨F1,u1,rfl,eW,mX,hK⟩;replace hB:=hK _ _ hB;replace hG:=hG.trans hK;clear hS hK;have hS:=mX;clear mX;go_wp2_with fail;refine Qk hK ((HX.out _ _ hB).2) (fun hHeld=>?_);clear hK K;refine Qd 7 (fun K hK=>?_);go_simp;refine(HR.out _ _ hS).mono ?_;rintro e y2 ⟨u2,rfl,gR,mX,hK,hN⟩;replace hB:=hK _ _ hB;replace hG:=hG.trans hK;replace eW:=hN _ _ _ _ eW;clear hS hK hN;have hS:=mX;clear mX;go_wp2_with fail;refine Qk hK ((HX.out _ _ hB).2) (fun hHeld=>?_);clear hK K
 refine Qd 8 (fun K hK=>?_);go_simp;refine(HS.out _ _ _ eW.QS gR).mono ?_;rintro e y3 ⟨rfl,aD⟩;replace hS:=hS.below aD;replace hB:=Qp aD hB;replace hG:=hG.trans (kw.below aD);clear aD eW gR;go_wp2_with fail;refine Qk hK ((HX.out _ _ hB).2) (fun hHeld=>?_);clear hK K;refine run_in [9] ?_;refine Qe ?_;refine aI ?_;refine wpAnyH_done (by kernel_rfl) ?_ _;go_wp2_with fail;go_ret;exact HF.out _ hS hG
theorem B7{N:Nat}{w W:World}{z y i:Nat}{A T:List (bW N)}{e:qD N}(h:jy w z y A T W)(hR:fH i A T)(hi:i≤1000)(hin:nC w w.heap.size e)(hna:ap e.a≤8000)(hnb:ap e.b≤8000)(iZ:ap e.r≤8000){p:Int}(hp:iM e.kind 12=p)(h2:p=2∨p=3):Calls Tryz.prog 35 #[.pointer (some ⟨z,0,none⟩),.pointer (some ⟨y,0,none⟩),.agg (jM e).toArray] W (zP w z y i N W):=by
 have qM:=hR.KB (Nat.le_trans hi (by decide));have hbd:=hR.KC (Nat.le_trans hi (by decide));have ul:=Qh (fun(X:World)=>(show Calls Tryz.prog 21 #[.int .i64 e.kind,.int .i64 12] X fun e' w'=>e'=.returned (.int .i64 p)∧Qb X w' from by rw[←hp];exact o7 X e.kind 12 (by decide) (by decide)));have iA:=fun(X:World) (hX:Qb w X)=>hin.1.below hX (Nat.le_refl _);have iB:=fun(X:World) (hX:Qb w X)=>hin.2.1.below hX (Nat.le_refl _);have iR:=fun(X:World) (hX:Qb w X)=>hin.2.2.below hX (Nat.le_refl _)
 have HP:=Qh (fun(X:World) (hS:jy w z y A T X)=>(show Calls Tryz.prog 22 #[.pointer (some ⟨z,0,none⟩),aj e.a.f e.ua,aj e.b.f e.ub] X (CQ (.tuple #[.bool (iV A e.a e.b).1,.int .i64 (iV A e.a e.b).2]) w z y (jF A e.a e.b) T X) from(Te hS.st qM (B2:=w.heap.size) hS.size (iA X hS.hb) (iB X hS.hb) (by omega)).mono (fun e' w' q=>⟨q.1,hS.prog q.2.1 q.2.2,mT q.2.2⟩)))
 have HR:=Qh (fun(X:World) (A':List (bW N)) (hS:jy w z y A' T X)=>(show Calls Tryz.prog 23 #[.pointer (some ⟨y,0,none⟩),aj e.a.f e.ua,aj e.b.f e.ub] X (CQ (.tuple #[.bool (iV A e.a e.b).1,.int .i64 (iV A e.a e.b).2]) w z y A' (jF T e.a e.b) X) from(TL hS.rf hbd (iA X hS.hb) (iB X hS.hb) (by omega)).mono (fun e' w' q=>⟨by rw[hR.iV];exact q.1,hS.JV q.2.1 q.2.2,o_ q.2.2⟩)));have HF:=Qh (fun(X:World) hS (hG:kw W X)=>(show zP w z y i N W (.returned (.bool true)) X from⟨rfl,⟨jF A e.a e.b,jF T e.a e.b,hS,(hR.del e.a e.b).more (Nat.le_succ i)⟩,hG⟩))
 unfold CQ at HP HR;generalize(iV A e.a e.b).1=q at*;generalize(iV A e.a e.b).2=n at*;generalize jF A e.a e.b=A1 at*;generalize jF T e.a e.b=T1 at*;have U4:(q==q)=true:=by simp
 have eqn:(n==n)=true:=by simp
 clear hR;clear iA iB iR qM hbd hp;have hb0:=aG (Below.refl W.heap.size W) (.cells (jM e).toArray 44) (Nat.le_refl _);have hB:=aF W (.cells (jM e).toArray 44);have hG:=kw.below hb0;have wu:=fun(X:World) (b:Nat) (hB:X.heap[b]?=some (.cells (jM e).toArray 44))=>lX hB;have hS:=h.below hb0;obtain⟨pr,cr,e1,_,_⟩:=hin.1.shape;obtain⟨pk,ck,e2,_,_⟩:=hin.2.1.shape;obtain⟨pv,cv,e3,_,_⟩:=hin.2.2.shape;clear hin h hb0 hna hnb iZ;obtain⟨kd,ta,wA,tr,hd,ua,ub,uv⟩:=e;dsimp only at*;subst e1 e2 e3;unfold jM at*;dsimp only at*;generalize ta.items.length=nr at*
 generalize wA.items.length=nk at*;generalize tr.items.length=nv at*;generalize ta.f=fr at*;generalize wA.f=fk at*;generalize tr.f=fv at*;obtain⟨rk,ri,rg,rn,rf,ra,rb,rz⟩:=fr;obtain⟨kk,ki,kg,kn,kf,ka,kb,kz⟩:=fk;obtain⟨vk,vi,vg,vn,vf,va,vb,vz⟩:=fv;unfold aE aj at*;dsimp only at*;simp only[List.cons_append,List.nil_append]at*;have HX:=Qh wu;clear wu;go_enter Tryz.func35,Tryz.ntmps35;go_upto_region 1 with(fail)
 generalize(W.alloc (.cells (wI kd rk ri rg rn rf ra (.slice pr nr cr) rb rz kk ki kg kn kf ka (.slice pk nk ck) kb kz vk vi vg vn vf va (.slice pv nv cv) vb vz hd) 44))=W1 at*;generalize W.heap.size=b at*;have c0:=(HX.out _ _ hB).1;go_wp2_with fail;refine(ul.out _).mono ?_;rintro e w2 ⟨rfl,aD⟩;replace hS:=hS.below aD;replace hB:=Qp aD hB;replace hG:=hG.trans (kw.below aD);clear aD c0 ul
 rcases h2 with rfl|rfl
 ·have k1:=(HX.out _ _ hB).2.1;have k2:=(HX.out _ _ hB).2.2.1;go_wp2_with (first|(refine Ql k1 ?_)|(refine Ql k2 ?_))
  refine(HP.out _ hS).mono ?_;rintro e y1 ⟨rfl,mX,hK⟩;replace hB:=hK _ _ hB;replace hG:=hG.trans hK;clear hS hK k1 k2;have hS:=mX;clear mX;have k1:=(HX.out _ _ hB).2.1;have k2:=(HX.out _ _ hB).2.2.1;go_wp2_with (first|(refine Ql k1 ?_)|(refine Ql k2 ?_))
  refine(HR.out _ _ hS).mono ?_;rintro e y2 ⟨rfl,mX,hK⟩;replace hG:=hG.trans hK;clear hS hK k1 k2;have hS:=mX;clear mX;go_wp2_with fail;go_ret;exact HF.out _ hS hG
 ·have k1:=(HX.out _ _ hB).2.1;have k2:=(HX.out _ _ hB).2.2.1;go_wp2_with (first|(refine Ql k1 ?_)|(refine Ql k2 ?_))
  refine(HP.out _ hS).mono ?_;rintro e y1 ⟨rfl,mX,hK⟩;replace hB:=hK _ _ hB;replace hG:=hG.trans hK;clear hS hK k1 k2;have hS:=mX;clear mX;have k1:=(HX.out _ _ hB).2.1;have k2:=(HX.out _ _ hB).2.2.1;go_wp2_with (first|(refine Ql k1 ?_)|(refine Ql k2 ?_))
  refine(HR.out _ _ hS).mono ?_;rintro e y2 ⟨rfl,mX,hK⟩;replace hG:=hG.trans hK;clear hS hK k1 k2;have hS:=mX;clear mX;go_wp2_with fail;go_ret;exact HF.out _ hS hG
theorem Jt(y:World)(V:Array Value):(y.alloc (.cells #[.int .i64 0,.int .i64 0,.int .i64 0,.string ⟨#[]⟩,.string ⟨#[]⟩,.int .i64 0,.slice none 0 0,.string ⟨#[]⟩,.int .i64 0] 24)).heap[y.heap.size]?=some (.cells #[.int .i64 0,.int .i64 0,.int .i64 0,.string ⟨#[]⟩,.string ⟨#[]⟩,.int .i64 0,.slice none 0 0,.string ⟨#[]⟩,.int .i64 0] 24)∧Below y.heap.size y ((y.alloc (.cells #[.int .i64 0,.int .i64 0,.int .i64 0,.string ⟨#[]⟩,.string ⟨#[]⟩,.int .i64 0,.slice none 0 0,.string ⟨#[]⟩,.int .i64 0] 24)).setRow y.heap.size V)∧((y.alloc (.cells #[.int .i64 0,.int .i64 0,.int .i64 0,.string ⟨#[]⟩,.string ⟨#[]⟩,.int .i64 0,.slice none 0 0,.string ⟨#[]⟩,.int .i64 0] 24)).setRow y.heap.size V).heap[y.heap.size]?=some (.cells V 24):=by
 have h:=aF y cQ;exact⟨h,ed (aG (Below.refl _ _) _ (Nat.le_refl _)) (Nat.le_refl _) V,setRow_heap _ _ _ V _ _ h⟩
theorem MG(y:World)(V1 V2:Array Value):((y.alloc (.cells #[.int .i64 0,.int .i64 0,.int .i64 0,.string ⟨#[]⟩,.string ⟨#[]⟩,.int .i64 0,.slice none 0 0,.string ⟨#[]⟩,.int .i64 0] 24)).alloc (.cells #[.int .i64 0,.int .i64 0,.int .i64 0,.string ⟨#[]⟩,.string ⟨#[]⟩,.int .i64 0,.slice none 0 0,.string ⟨#[]⟩,.int .i64 0] 24)).heap[y.heap.size]?=some (.cells #[.int .i64 0,.int .i64 0,.int .i64 0,.string ⟨#[]⟩,.string ⟨#[]⟩,.int .i64 0,.slice none 0 0,.string ⟨#[]⟩,.int .i64 0] 24)∧(((y.alloc (.cells #[.int .i64 0,.int .i64 0,.int .i64 0,.string ⟨#[]⟩,.string ⟨#[]⟩,.int .i64 0,.slice none 0 0,.string ⟨#[]⟩,.int .i64 0] 24)).alloc (.cells #[.int .i64 0,.int .i64 0,.int .i64 0,.string ⟨#[]⟩,.string ⟨#[]⟩,.int .i64 0,.slice none 0 0,.string ⟨#[]⟩,.int .i64 0] 24)).setRow y.heap.size V1).heap[y.heap.size+1]?=some (.cells #[.int .i64 0,.int .i64 0,.int .i64 0,.string ⟨#[]⟩,.string ⟨#[]⟩,.int .i64 0,.slice none 0 0,.string ⟨#[]⟩,.int .i64 0] 24)∧Below y.heap.size y ((((y.alloc (.cells #[.int .i64 0,.int .i64 0,.int .i64 0,.string ⟨#[]⟩,.string ⟨#[]⟩,.int .i64 0,.slice none 0 0,.string ⟨#[]⟩,.int .i64 0] 24)).alloc (.cells #[.int .i64 0,.int .i64 0,.int .i64 0,.string ⟨#[]⟩,.string ⟨#[]⟩,.int .i64 0,.slice none 0 0,.string ⟨#[]⟩,.int .i64 0] 24)).setRow y.heap.size V1).setRow (y.heap.size+1) V2)∧((((y.alloc (.cells #[.int .i64 0,.int .i64 0,.int .i64 0,.string ⟨#[]⟩,.string ⟨#[]⟩,.int .i64 0,.slice none 0 0,.string ⟨#[]⟩,.int .i64 0] 24)).alloc (.cells #[.int .i64 0,.int .i64 0,.int .i64 0,.string ⟨#[]⟩,.string ⟨#[]⟩,.int .i64 0,.slice none 0 0,.string ⟨#[]⟩,.int .i64 0] 24)).setRow y.heap.size V1).setRow (y.heap.size+1) V2).heap[y.heap.size]?=some (.cells V1 24)∧((((y.alloc (.cells #[.int .i64 0,.int .i64 0,.int .i64 0,.string ⟨#[]⟩,.string ⟨#[]⟩,.int .i64 0,.slice none 0 0,.string ⟨#[]⟩,.int .i64 0] 24)).alloc (.cells #[.int .i64 0,.int .i64 0,.int .i64 0,.string ⟨#[]⟩,.string ⟨#[]⟩,.int .i64 0,.slice none 0 0,.string ⟨#[]⟩,.int .i64 0] 24)).setRow y.heap.size V1).setRow (y.heap.size+1) V2).heap[y.heap.size+1]?=some (.cells V2 24):=by
 obtain⟨hb,h1,h2⟩:=bI y cQ cQ;have h2':=(setRow_other ((y.alloc cQ).alloc cQ) y.heap.size (y.heap.size+1) V1 (by omega)).trans h2;exact⟨h1,h2',ed (ed hb (Nat.le_refl _) V1) (Nat.le_succ _) V2,(setRow_other _ (y.heap.size+1) y.heap.size V2 (by omega)).trans (setRow_heap _ _ _ V1 _ _ h1),setRow_heap _ _ _ V2 _ _ h2'⟩
theorem JY{N:Nat}{w W:World}{z y i:Nat}{A T:List (bW N)}{e:qD N}(h:jy w z y A T W)(hR:fH i A T)(hi:i≤1000)(hin:nC w w.heap.size e)(hna:ap e.a≤8000)(hnb:ap e.b≤8000)(iZ:ap e.r≤8000)(hp:iM e.kind 12=1):Calls Tryz.prog 35 #[.pointer (some ⟨z,0,none⟩),.pointer (some ⟨y,0,none⟩),.agg (jM e).toArray] W (zP w z y i N W):=by
 have qM:=hR.KB (Nat.le_trans hi (by decide));have hbd:=hR.KC (Nat.le_trans hi (by decide));have ul:=Qh (fun(X:World)=>(show Calls Tryz.prog 21 #[.int .i64 e.kind,.int .i64 12] X fun e' w'=>e'=.returned (.int .i64 1)∧Qb X w' from by rw[←hp];exact o7 X e.kind 12 (by decide) (by decide)));have iA:=fun(X:World) (hX:Qb w X)=>hin.1.below hX (Nat.le_refl _);have iB:=fun(X:World) (hX:Qb w X)=>hin.2.1.below hX (Nat.le_refl _);have iR:=fun(X:World) (hX:Qb w X)=>hin.2.2.below hX (Nat.le_refl _)
 have HP:=Qh (fun(X:World) (hS:jy w z y A T X)=>(show Calls Tryz.prog 32 #[.pointer (some ⟨z,0,none⟩),aj e.a.f e.ua,aj e.b.f e.ub] X (fun e' w'=>∃F u,e'=.returned (.tuple #[aj (eB A e.a e.b).1.f u,.bool (eB A e.a e.b).2.1,.int .i64 (eB A e.a e.b).2.2])∧Qb X w'∧bZ X w' F N u (eB A e.a e.b).1.items) from Td hS.st qM (B2:=w.heap.size) hS.size (iA X hS.hb) (iB X hS.hb) (by omega)))
 have HR:=Qh (fun(X:World) (hS:jy w z y A T X)=>(show Calls Tryz.prog 58 #[.pointer (some ⟨y,0,none⟩),aj e.a.f e.ua,aj e.b.f e.ub] X (fun e' w'=>∃u,e'=.returned (.tuple #[aj (eB A e.a e.b).1.f u,.bool (eB A e.a e.b).2.1,.int .i64 (eB A e.a e.b).2.2])∧Qb X w'∧ah w' w.heap.size N u (eB A e.a e.b).1.items) from by rw[hR.eB];exact TK hS.rf hbd (iA X hS.hb) (iB X hS.hb) (by omega)))
 have nX:=Qh (fun(X:World) (u1 u2:Value) (h1:ah X X.heap.size N u1 (eB A e.a e.b).1.items) (h2:ah X X.heap.size N u2 (eB A e.a e.b).1.items)=>(show Calls Tryz.prog 27 #[aj (eB A e.a e.b).1.f u1,aj (eB A e.a e.b).1.f u2] X (aV true X) from by
  have h:=qP X X.heap.size u1 u2 _ _ (Nat.le_refl _) h1 h2
  rw[eR rfl]at h
  exact h))
 have HF:=Qh (fun(X:World) (hS:jy w z y A T X) (hG:kw W X)=>(show zP w z y i N W (.returned (.bool true)) X from⟨rfl,⟨A,T,hS,hR.more (Nat.le_succ i)⟩,hG⟩));generalize(eB A e.a e.b).2.1=q at*;generalize(eB A e.a e.b).2.2=n at*;generalize(eB A e.a e.b).1=tx at*;generalize tx.f=fx at*;generalize tx.items=l1 at*;obtain⟨xk,xi,xg,xn,xf,xa,xb,xz⟩:=fx;have U4:(q==q)=true:=by simp
 have eqn:(n==n)=true:=by simp
 unfold aV at nX;clear hR;clear iA iB iR qM hbd hp;have hb0:=aG (Below.refl W.heap.size W) (.cells (jM e).toArray 44) (Nat.le_refl _);have hB:=aF W (.cells (jM e).toArray 44);have hG:=kw.below hb0;have wu:=fun(X:World) (b:Nat) (hB:X.heap[b]?=some (.cells (jM e).toArray 44))=>lX hB;have hS:=h.below hb0;obtain⟨pr,cr,e1,_,_⟩:=hin.1.shape;obtain⟨pk,ck,e2,_,_⟩:=hin.2.1.shape;obtain⟨pv,cv,e3,_,_⟩:=hin.2.2.shape;clear hin h hb0 hna hnb iZ;obtain⟨kd,ta,wA,tr,hd,ua,ub,uv⟩:=e;dsimp only at*;subst e1 e2 e3;unfold jM at*;dsimp only at*
 generalize ta.items.length=nr at*;generalize wA.items.length=nk at*;generalize tr.items.length=nv at*;generalize ta.f=fr at*;generalize wA.f=fk at*;generalize tr.f=fv at*;obtain⟨rk,ri,rg,rn,rf,ra,rb,rz⟩:=fr;obtain⟨kk,ki,kg,kn,kf,ka,kb,kz⟩:=fk;obtain⟨vk,vi,vg,vn,vf,va,vb,vz⟩:=fv;unfold aE aj at*;dsimp only at*;simp only[List.cons_append,List.nil_append]at*;have HX:=Qh wu;clear wu;go_enter Tryz.func35,Tryz.ntmps35;go_upto_region 1 with(fail)
 generalize(W.alloc (.cells (wI kd rk ri rg rn rf ra (.slice pr nr cr) rb rz kk ki kg kn kf ka (.slice pk nk ck) kb kz vk vi vg vn vf va (.slice pv nv cv) vb vz hd) 44))=W1 at*;generalize W.heap.size=b at*;have c0:=(HX.out _ _ hB).1;go_wp2_with fail;refine(ul.out _).mono ?_;rintro e w2 ⟨rfl,aD⟩;replace hS:=hS.below aD;replace hB:=Qp aD hB;replace hG:=hG.trans (kw.below aD);clear aD c0 ul;have k1:=(HX.out _ _ hB).2.1;have k2:=(HX.out _ _ hB).2.2.1;go_wp2_with (first|(refine Ql k1 ?_)|(refine Ql k2 ?_))
 refine(HP.out _ hS).mono ?_;rintro e y1 ⟨F1,u1,rfl,aD,eW⟩;replace hS:=hS.below aD;replace hB:=Qp aD hB;replace hG:=hG.trans (kw.below aD);clear aD k1 k2;replace eW:=bZ.QS eW;obtain⟨p1,n1,rfl,_,_⟩:=eW.shape;have oX:=Qh (all_oneCell_toArray (aH (f:=⟨xk,xi,xg,xn,xf,xa,xb,xz⟩) (cP eW)));unfold aE at oX;dsimp only at oX;obtain⟨bT,dY,mU⟩:=Jt y1 (a9 xk xi xg xn xf xa (.slice p1 l1.length n1) xb xz);have eT:=Qh bT;replace hS:=hS.below dY;replace hB:=Qp dY hB;replace hG:=hG.trans (kw.below dY);replace eW:=(eW.below dY (Nat.le_refl _)).more dY.size
 clear dY bT;go_upto_region 6 with(first|(refine Qs eT.out oX.out ?_))
 clear eT oX;generalize((y1.alloc cQ).setRow y1.heap.size (a9 xk xi xg xn xf xa (.slice p1 l1.length n1) xb xz))=x1 at*;generalize y1.heap.size=ca at*;have k1:=(HX.out _ _ hB).2.1;have k2:=(HX.out _ _ hB).2.2.1;go_wp2_with (first|(refine Ql k1 ?_)|(refine Ql k2 ?_))
 refine(HR.out _ hS).mono ?_;rintro e y2 ⟨u3,rfl,aD,ru⟩;replace hS:=hS.below aD;replace hB:=Qp aD hB;replace hG:=hG.trans (kw.below aD);replace mU:=Qp aD mU;replace eW:=(eW.below aD (Nat.le_refl _)).more aD.size;clear aD k1 k2;replace ru:=ru.more hS.size;obtain⟨p3,n3,rfl,_,_⟩:=ru.shape;have Fy:=Qh (all_oneCell_toArray (aH (f:=⟨xk,xi,xg,xn,xf,xa,xb,xz⟩) (cP ru)));unfold aE at Fy;dsimp only at Fy;obtain⟨bT,dY,B8⟩:=Jt y2 (a9 xk xi xg xn xf xa (.slice p3 l1.length n3) xb xz);have eT:=Qh bT;replace hS:=hS.below dY;replace hB:=Qp dY hB
 replace hG:=hG.trans (kw.below dY);replace mU:=Qp dY mU;replace eW:=(eW.below dY (Nat.le_refl _)).more dY.size;replace ru:=(ru.below dY (Nat.le_refl _)).more dY.size;clear dY bT;go_upto_region 7 with(first|(refine Qs eT.out Fy.out ?_))
 clear eT Fy;generalize((y2.alloc cQ).setRow y2.heap.size (a9 xk xi xg xn xf xa (.slice p3 l1.length n3) xb xz))=x2 at*;generalize y2.heap.size=cb at*;have HS:=nX.out _ _ _ eW ru;have g_:=Qh (aq (x:=(l9 xk xi xg xn xf xa (.slice p1 l1.length n1) xb xz)) mU);have hH:=Qh (aq (x:=(l9 xk xi xg xn xf xa (.slice p3 l1.length n3) xb xz)) B8);have B9:=g_.out 0 _ rfl;have B_:=g_.out 1 _ rfl;have Ca:=g_.out 2 _ rfl;have Cb:=g_.out 3 _ rfl;have Cc:=g_.out 4 _ rfl;have Cd:=g_.out 5 _ rfl;have Ce:=g_.out 6 _ rfl;have Cf:=g_.out 7 _ rfl
 have Cg:=g_.out 8 _ rfl;have Ch:=hH.out 0 _ rfl;have Ci:=hH.out 1 _ rfl;have Cj:=hH.out 2 _ rfl;have Ck:=hH.out 3 _ rfl;have Cl:=hH.out 4 _ rfl;have Cm:=hH.out 5 _ rfl;have Cn:=hH.out 6 _ rfl;have Co:=hH.out 7 _ rfl;have Cp:=hH.out 8 _ rfl;simp only[Nat.zero_add]at B9 B_ Ca Cb Cc Cd Ce Cf Cg Ch Ci Cj Ck Cl Cm Cn Co Cp;have HW:=Qh hS;clear hS hB HX nX eW ru mU B8;clear g_ hH;go_wp2_with fail;refine HS.mono ?_;rintro e y3 ⟨rfl,aD⟩;have Ku:=HF.out _ (HW.out.below aD) (hG.trans (kw.below aD))
 clear HW aD HF B9 B_ Ca Cb Cc Cd Ce Cf Cg Ch Ci Cj Ck Cl Cm Cn Co Cp;go_wp2_with fail;go_ret;exact Ku
theorem D5{N:Nat}{w W:World}{z y i:Nat}{A T:List (bW N)}{e:qD N}(h:jy w z y A T W)(hR:fH i A T)(hi:i≤1000)(hin:nC w w.heap.size e)(hna:ap e.a≤8000)(hnb:ap e.b≤8000)(iZ:ap e.r≤8000)(hp:iM e.kind 12=4):Calls Tryz.prog 35 #[.pointer (some ⟨z,0,none⟩),.pointer (some ⟨y,0,none⟩),.agg (jM e).toArray] W (zP w z y i N W):=by
 have qM:=hR.KB (Nat.le_trans hi (by decide));have hbd:=hR.KC (Nat.le_trans hi (by decide));have ul:=Qh (fun(X:World)=>(show Calls Tryz.prog 21 #[.int .i64 e.kind,.int .i64 12] X fun e' w'=>e'=.returned (.int .i64 4)∧Qb X w' from by rw[←hp];exact o7 X e.kind 12 (by decide) (by decide)));have iA:=fun(X:World) (hX:Qb w X)=>hin.1.below hX (Nat.le_refl _);have iB:=fun(X:World) (hX:Qb w X)=>hin.2.1.below hX (Nat.le_refl _);have iR:=fun(X:World) (hX:Qb w X)=>hin.2.2.below hX (Nat.le_refl _)
 have HP:=Qh (fun(X:World) (hS:jy w z y A T X)=>(show Calls Tryz.prog 39 #[.pointer (some ⟨z,0,none⟩),aj e.a.f e.ua] X (fun e' w'=>∃F1 F2 u1 u2,e'=.returned (.tuple #[aj (gD (cq A e.a).1).f u1,aj (gM (cq A e.a).1).f u2,.bool (cq A e.a).1.isSome,.int .i64 (cq A e.a).2])∧Qb X w'∧bZ X w' F1 N u1 (gD (cq A e.a).1).items∧bZ X w' F2 N u2 (gM (cq A e.a).1).items) from Mr hS.st qM (B2:=w.heap.size) hS.size (iA X hS.hb)))
 have HR:=Qh (fun(X:World) (hS:jy w z y A T X)=>(show Calls Tryz.prog 68 #[.pointer (some ⟨y,0,none⟩),aj e.a.f e.ua] X (fun e' w'=>∃u1 u2,e'=.returned (.tuple #[aj (gD (cq A e.a).1).f u1,aj (gM (cq A e.a).1).f u2,.bool (cq A e.a).1.isSome,.int .i64 (cq A e.a).2])∧Qb X w'∧ah w' w.heap.size N u1 (gD (cq A e.a).1).items∧ah w' w.heap.size N u2 (gM (cq A e.a).1).items) from by rw[hR.cq];exact MF hS.rf hbd (iA X hS.hb)))
 have nX:=Qh (fun(X:World) (u1 u2 u3 u4:Value) (h1:ah X X.heap.size N u1 (gD (cq A e.a).1).items) (h2:ah X X.heap.size N u2 (gM (cq A e.a).1).items) (h3:ah X X.heap.size N u3 (gD (cq A e.a).1).items) (h4:ah X X.heap.size N u4 (gM (cq A e.a).1).items)=>Ny X (gD (cq A e.a).1) (gM (cq A e.a).1) h1 h2 h3 h4 (cq A e.a).1.isSome (cq A e.a).2);have HF:=Qh (fun(X:World) (hS:jy w z y A T X) (hG:kw W X)=>(show zP w z y i N W (.returned (.bool true)) X from⟨rfl,⟨A,T,hS,hR.more (Nat.le_succ i)⟩,hG⟩))
 generalize(cq A e.a).2=n at*;generalize(cq A e.a).1.isSome=q at*;generalize gD (cq A e.a).1=tx at*;generalize gM (cq A e.a).1=ty at*;generalize tx.f=fx at*;generalize tx.items=l1 at*;generalize ty.f=fy at*;generalize ty.items=l2 at*;obtain⟨xk,xi,xg,xn,xf,xa,xb,xz⟩:=fx;obtain⟨Cq,Cr,Cs,Ct,Cu,Cv,Cw,Cx⟩:=fy;unfold aV at nX;clear hR;clear iA iB iR qM hbd hp;have hb0:=aG (Below.refl W.heap.size W) (.cells (jM e).toArray 44) (Nat.le_refl _);have hB:=aF W (.cells (jM e).toArray 44);have hG:=kw.below hb0
 have wu:=fun(X:World) (b:Nat) (hB:X.heap[b]?=some (.cells (jM e).toArray 44))=>lX hB;have hS:=h.below hb0;obtain⟨pr,cr,e1,_,_⟩:=hin.1.shape;obtain⟨pk,ck,e2,_,_⟩:=hin.2.1.shape;obtain⟨pv,cv,e3,_,_⟩:=hin.2.2.shape;clear hin h hb0 hna hnb iZ;obtain⟨kd,ta,wA,tr,hd,ua,ub,uv⟩:=e;dsimp only at*;subst e1 e2 e3;unfold jM at*;dsimp only at*;generalize ta.items.length=nr at*;generalize wA.items.length=nk at*;generalize tr.items.length=nv at*;generalize ta.f=fr at*;generalize wA.f=fk at*;generalize tr.f=fv at*;obtain⟨rk,ri,rg,rn,rf,ra,rb,rz⟩:=fr
 obtain⟨kk,ki,kg,kn,kf,ka,kb,kz⟩:=fk;obtain⟨vk,vi,vg,vn,vf,va,vb,vz⟩:=fv;unfold aE aj at*;dsimp only at*;simp only[List.cons_append,List.nil_append]at*;have HX:=Qh wu;clear wu;go_enter Tryz.func35,Tryz.ntmps35;go_upto_region 1 with(fail);generalize(W.alloc (.cells (wI kd rk ri rg rn rf ra (.slice pr nr cr) rb rz kk ki kg kn kf ka (.slice pk nk ck) kb kz vk vi vg vn vf va (.slice pv nv cv) vb vz hd) 44))=W1 at*;generalize W.heap.size=b at*;have c0:=(HX.out _ _ hB).1;go_wp2_with fail;refine(ul.out _).mono ?_;rintro e w2 ⟨rfl,aD⟩;replace hS:=hS.below aD
 replace hB:=Qp aD hB;replace hG:=hG.trans (kw.below aD);clear aD c0 ul;have k1:=(HX.out _ _ hB).2.1;go_wp2_with (first|(refine Ql k1 ?_))
 refine(HP.out _ hS).mono ?_;rintro e y1 ⟨F1,F2,u1,u2,rfl,aD,eW,gR⟩;replace hS:=hS.below aD;replace hB:=Qp aD hB;replace hG:=hG.trans (kw.below aD);clear aD k1;replace eW:=bZ.QS eW;replace gR:=bZ.QS gR;obtain⟨p1,n1,rfl,_,_⟩:=eW.shape;obtain⟨p2,n2,rfl,_,_⟩:=gR.shape;have oX:=Qh (all_oneCell_toArray (aH (f:=⟨xk,xi,xg,xn,xf,xa,xb,xz⟩) (cP eW)));have ud:=Qh (all_oneCell_toArray (aH (f:=⟨Cq,Cr,Cs,Ct,Cu,Cv,Cw,Cx⟩) (cP gR)));unfold aE at oX ud;dsimp only at oX ud
 obtain⟨bT,bX,dY,mU,sY⟩:=MG y1 (a9 xk xi xg xn xf xa (.slice p1 l1.length n1) xb xz) (a9 Cq Cr Cs Ct Cu Cv (.slice p2 l2.length n2) Cw Cx);have eT:=Qh bT;have iW:=Qh bX;replace hS:=hS.below dY;replace hB:=Qp dY hB;replace hG:=hG.trans (kw.below dY);replace eW:=(eW.below dY (Nat.le_refl _)).more dY.size;replace gR:=(gR.below dY (Nat.le_refl _)).more dY.size;clear dY bT bX;go_upto_region 15 with(first|(refine Qs eT.out oX.out ?_)|(refine Qs iW.out ud.out ?_))
 clear eT oX iW ud;generalize((((y1.alloc cQ).alloc cQ).setRow y1.heap.size (a9 xk xi xg xn xf xa (.slice p1 l1.length n1) xb xz)).setRow (y1.heap.size+1) (a9 Cq Cr Cs Ct Cu Cv (.slice p2 l2.length n2) Cw Cx))=x1 at*;generalize y1.heap.size=ca at*;have k1:=(HX.out _ _ hB).2.1;go_wp2_with (first|(refine Ql k1 ?_))
 refine(HR.out _ hS).mono ?_;rintro e y2 ⟨u3,u4,rfl,aD,ru,xN⟩;replace hS:=hS.below aD;replace hB:=Qp aD hB;replace hG:=hG.trans (kw.below aD);replace mU:=Qp aD mU;replace sY:=Qp aD sY;replace eW:=(eW.below aD (Nat.le_refl _)).more aD.size;replace gR:=(gR.below aD (Nat.le_refl _)).more aD.size;clear aD k1;replace ru:=ru.more hS.size;replace xN:=xN.more hS.size;obtain⟨p3,n3,rfl,_,_⟩:=ru.shape;obtain⟨p4,n4,rfl,_,_⟩:=xN.shape;have Fy:=Qh (all_oneCell_toArray (aH (f:=⟨xk,xi,xg,xn,xf,xa,xb,xz⟩) (cP ru)))
 have GW:=Qh (all_oneCell_toArray (aH (f:=⟨Cq,Cr,Cs,Ct,Cu,Cv,Cw,Cx⟩) (cP xN)));unfold aE at Fy GW;dsimp only at Fy GW;obtain⟨bT,bX,dY,B8,JZ⟩:=MG y2 (a9 xk xi xg xn xf xa (.slice p3 l1.length n3) xb xz) (a9 Cq Cr Cs Ct Cu Cv (.slice p4 l2.length n4) Cw Cx);have eT:=Qh bT;have iW:=Qh bX;replace hS:=hS.below dY;replace hB:=Qp dY hB;replace hG:=hG.trans (kw.below dY);replace mU:=Qp dY mU;replace sY:=Qp dY sY;replace eW:=(eW.below dY (Nat.le_refl _)).more dY.size;replace gR:=(gR.below dY (Nat.le_refl _)).more dY.size
 replace ru:=(ru.below dY (Nat.le_refl _)).more dY.size;replace xN:=(xN.below dY (Nat.le_refl _)).more dY.size;clear dY bT bX;go_upto_region 16 with(first|(refine Qs eT.out Fy.out ?_)|(refine Qs iW.out GW.out ?_))
 clear eT Fy iW GW;generalize((((y2.alloc cQ).alloc cQ).setRow y2.heap.size (a9 xk xi xg xn xf xa (.slice p3 l1.length n3) xb xz)).setRow (y2.heap.size+1) (a9 Cq Cr Cs Ct Cu Cv (.slice p4 l2.length n4) Cw Cx))=x2 at*;generalize y2.heap.size=cb at*;have HS:=nX.out _ _ _ _ _ eW gR ru xN;have g_:=Qh (aq (x:=(l9 xk xi xg xn xf xa (.slice p1 l1.length n1) xb xz)) mU);have mh:=Qh (aq (x:=(l9 Cq Cr Cs Ct Cu Cv (.slice p2 l2.length n2) Cw Cx)) sY);have hH:=Qh (aq (x:=(l9 xk xi xg xn xf xa (.slice p3 l1.length n3) xb xz)) B8)
 have mi:=Qh (aq (x:=(l9 Cq Cr Cs Ct Cu Cv (.slice p4 l2.length n4) Cw Cx)) JZ);have B9:=g_.out 0 _ rfl;have B_:=g_.out 1 _ rfl;have Ca:=g_.out 2 _ rfl;have Cb:=g_.out 3 _ rfl;have Cc:=g_.out 4 _ rfl;have Cd:=g_.out 5 _ rfl;have Ce:=g_.out 6 _ rfl;have Cf:=g_.out 7 _ rfl;have Cg:=g_.out 8 _ rfl;have J0:=mh.out 0 _ rfl;have J1:=mh.out 1 _ rfl;have J2:=mh.out 2 _ rfl;have J3:=mh.out 3 _ rfl;have J4:=mh.out 4 _ rfl;have J5:=mh.out 5 _ rfl;have J6:=mh.out 6 _ rfl;have J7:=mh.out 7 _ rfl;have J8:=mh.out 8 _ rfl
 have Ch:=hH.out 0 _ rfl;have Ci:=hH.out 1 _ rfl;have Cj:=hH.out 2 _ rfl;have Ck:=hH.out 3 _ rfl;have Cl:=hH.out 4 _ rfl;have Cm:=hH.out 5 _ rfl;have Cn:=hH.out 6 _ rfl;have Co:=hH.out 7 _ rfl;have Cp:=hH.out 8 _ rfl;have J9:=mi.out 0 _ rfl;have J_:=mi.out 1 _ rfl;have J':=mi.out 2 _ rfl;have Ka:=mi.out 3 _ rfl;have Kb:=mi.out 4 _ rfl;have Kc:=mi.out 5 _ rfl;have Ke:=mi.out 6 _ rfl;have Kf:=mi.out 7 _ rfl;have Kg:=mi.out 8 _ rfl
 simp only[Nat.zero_add]at B9 B_ Ca Cb Cc Cd Ce Cf Cg J0 J1 J2 J3 J4 J5 J6 J7 J8 Ch Ci Cj Ck Cl Cm Cn Co Cp J9 J_ J' Ka Kb Kc Ke Kf Kg;have HW:=Qh hS;clear hS hB HX nX eW gR ru xN mU B8 sY JZ;clear g_ hH mh mi;go_wp2_with fail;refine HS.mono ?_;rintro e y3 ⟨rfl,aD⟩;have Ku:=HF.out _ (HW.out.below aD) (hG.trans (kw.below aD))
 clear HW aD HF B9 B_ Ca Cb Cc Cd Ce Cf Cg J0 J1 J2 J3 J4 J5 J6 J7 J8 Ch Ci Cj Ck Cl Cm Cn Co Cp J9 J_ J' Ka Kb Kc Ke Kf Kg;go_wp2_with fail;go_ret;exact Ku
theorem Gy{N:Nat}{w W:World}{z y i:Nat}{A T:List (bW N)}{e:qD N}(h:jy w z y A T W)(hR:fH i A T)(hi:i≤1000)(hin:nC w w.heap.size e)(hna:ap e.a≤8000)(hnb:ap e.b≤8000)(iZ:ap e.r≤8000)(hp:iM e.kind 12=5):Calls Tryz.prog 35 #[.pointer (some ⟨z,0,none⟩),.pointer (some ⟨y,0,none⟩),.agg (jM e).toArray] W (zP w z y i N W):=by
 have qM:=hR.KB (Nat.le_trans hi (by decide));have hbd:=hR.KC (Nat.le_trans hi (by decide));have ul:=Qh (fun(X:World)=>(show Calls Tryz.prog 21 #[.int .i64 e.kind,.int .i64 12] X fun e' w'=>e'=.returned (.int .i64 5)∧Qb X w' from by rw[←hp];exact o7 X e.kind 12 (by decide) (by decide)));have iA:=fun(X:World) (hX:Qb w X)=>hin.1.below hX (Nat.le_refl _);have iB:=fun(X:World) (hX:Qb w X)=>hin.2.1.below hX (Nat.le_refl _);have iR:=fun(X:World) (hX:Qb w X)=>hin.2.2.below hX (Nat.le_refl _)
 have HP:=Qh (fun(X:World) (hS:jy w z y A T X)=>(show Calls Tryz.prog 40 #[.pointer (some ⟨z,0,none⟩),aj e.a.f e.ua,aj e.b.f e.ub] X (fun e' w'=>∃F1 F2 u1 u2,e'=.returned (.tuple #[aj (gD (cV A e.a e.b).1).f u1,aj (gM (cV A e.a e.b).1).f u2,.bool (cV A e.a e.b).1.isSome,.int .i64 (cV A e.a e.b).2])∧Qb X w'∧bZ X w' F1 N u1 (gD (cV A e.a e.b).1).items∧bZ X w' F2 N u2 (gM (cV A e.a e.b).1).items) from QA hS.st qM (B2:=w.heap.size) hS.size (iA X hS.hb) (iB X hS.hb) (by omega)))
 have HR:=Qh (fun(X:World) (hS:jy w z y A T X)=>(show Calls Tryz.prog 70 #[.pointer (some ⟨y,0,none⟩),aj e.a.f e.ua,aj e.b.f e.ub] X (fun e' w'=>∃u1 u2,e'=.returned (.tuple #[aj (gD (cV A e.a e.b).1).f u1,aj (gM (cV A e.a e.b).1).f u2,.bool (cV A e.a e.b).1.isSome,.int .i64 (cV A e.a e.b).2])∧Qb X w'∧ah w' w.heap.size N u1 (gD (cV A e.a e.b).1).items∧ah w' w.heap.size N u2 (gM (cV A e.a e.b).1).items) from by rw[hR.cV];exact QN hS.rf hbd (iA X hS.hb) (iB X hS.hb) (by omega)))
 have nX:=Qh (fun(X:World) (u1 u2 u3 u4:Value) (h1:ah X X.heap.size N u1 (gD (cV A e.a e.b).1).items) (h2:ah X X.heap.size N u2 (gM (cV A e.a e.b).1).items) (h3:ah X X.heap.size N u3 (gD (cV A e.a e.b).1).items) (h4:ah X X.heap.size N u4 (gM (cV A e.a e.b).1).items)=>Ny X (gD (cV A e.a e.b).1) (gM (cV A e.a e.b).1) h1 h2 h3 h4 (cV A e.a e.b).1.isSome (cV A e.a e.b).2);have HF:=Qh (fun(X:World) (hS:jy w z y A T X) (hG:kw W X)=>(show zP w z y i N W (.returned (.bool true)) X from⟨rfl,⟨A,T,hS,hR.more (Nat.le_succ i)⟩,hG⟩))
 generalize(cV A e.a e.b).2=n at*;generalize(cV A e.a e.b).1.isSome=q at*;generalize gD (cV A e.a e.b).1=tx at*;generalize gM (cV A e.a e.b).1=ty at*;generalize tx.f=fx at*;generalize tx.items=l1 at*;generalize ty.f=fy at*;generalize ty.items=l2 at*;obtain⟨xk,xi,xg,xn,xf,xa,xb,xz⟩:=fx;obtain⟨Cq,Cr,Cs,Ct,Cu,Cv,Cw,Cx⟩:=fy;unfold aV at nX;clear hR;clear iA iB iR qM hbd hp;have hb0:=aG (Below.refl W.heap.size W) (.cells (jM e).toArray 44) (Nat.le_refl _);have hB:=aF W (.cells (jM e).toArray 44);have hG:=kw.below hb0
 have wu:=fun(X:World) (b:Nat) (hB:X.heap[b]?=some (.cells (jM e).toArray 44))=>lX hB;have hS:=h.below hb0;obtain⟨pr,cr,e1,_,_⟩:=hin.1.shape;obtain⟨pk,ck,e2,_,_⟩:=hin.2.1.shape;obtain⟨pv,cv,e3,_,_⟩:=hin.2.2.shape;clear hin h hb0 hna hnb iZ;obtain⟨kd,ta,wA,tr,hd,ua,ub,uv⟩:=e;dsimp only at*;subst e1 e2 e3;unfold jM at*;dsimp only at*;generalize ta.items.length=nr at*;generalize wA.items.length=nk at*;generalize tr.items.length=nv at*;generalize ta.f=fr at*;generalize wA.f=fk at*;generalize tr.f=fv at*;obtain⟨rk,ri,rg,rn,rf,ra,rb,rz⟩:=fr
 obtain⟨kk,ki,kg,kn,kf,ka,kb,kz⟩:=fk;obtain⟨vk,vi,vg,vn,vf,va,vb,vz⟩:=fv;unfold aE aj at*;dsimp only at*;simp only[List.cons_append,List.nil_append]at*;have HX:=Qh wu;clear wu;go_enter Tryz.func35,Tryz.ntmps35;go_upto_region 1 with(fail);generalize(W.alloc (.cells (wI kd rk ri rg rn rf ra (.slice pr nr cr) rb rz kk ki kg kn kf ka (.slice pk nk ck) kb kz vk vi vg vn vf va (.slice pv nv cv) vb vz hd) 44))=W1 at*;generalize W.heap.size=b at*;have c0:=(HX.out _ _ hB).1;go_wp2_with fail;refine(ul.out _).mono ?_;rintro e w2 ⟨rfl,aD⟩;replace hS:=hS.below aD
 replace hB:=Qp aD hB;replace hG:=hG.trans (kw.below aD);clear aD c0 ul;have k1:=(HX.out _ _ hB).2.1;have k2:=(HX.out _ _ hB).2.2.1;go_wp2_with (first|(refine Ql k1 ?_)|(refine Ql k2 ?_))
 refine(HP.out _ hS).mono ?_;rintro e y1 ⟨F1,F2,u1,u2,rfl,aD,eW,gR⟩;replace hS:=hS.below aD;replace hB:=Qp aD hB;replace hG:=hG.trans (kw.below aD);clear aD k1 k2;replace eW:=bZ.QS eW;replace gR:=bZ.QS gR;obtain⟨p1,n1,rfl,_,_⟩:=eW.shape;obtain⟨p2,n2,rfl,_,_⟩:=gR.shape;have oX:=Qh (all_oneCell_toArray (aH (f:=⟨xk,xi,xg,xn,xf,xa,xb,xz⟩) (cP eW)));have ud:=Qh (all_oneCell_toArray (aH (f:=⟨Cq,Cr,Cs,Ct,Cu,Cv,Cw,Cx⟩) (cP gR)));unfold aE at oX ud;dsimp only at oX ud
 obtain⟨bT,bX,dY,mU,sY⟩:=MG y1 (a9 xk xi xg xn xf xa (.slice p1 l1.length n1) xb xz) (a9 Cq Cr Cs Ct Cu Cv (.slice p2 l2.length n2) Cw Cx);have eT:=Qh bT;have iW:=Qh bX;replace hS:=hS.below dY;replace hB:=Qp dY hB;replace hG:=hG.trans (kw.below dY);replace eW:=(eW.below dY (Nat.le_refl _)).more dY.size;replace gR:=(gR.below dY (Nat.le_refl _)).more dY.size;clear dY bT bX;go_upto_region 19 with(first|(refine Qs eT.out oX.out ?_)|(refine Qs iW.out ud.out ?_))
 clear eT oX iW ud;generalize((((y1.alloc cQ).alloc cQ).setRow y1.heap.size (a9 xk xi xg xn xf xa (.slice p1 l1.length n1) xb xz)).setRow (y1.heap.size+1) (a9 Cq Cr Cs Ct Cu Cv (.slice p2 l2.length n2) Cw Cx))=x1 at*;generalize y1.heap.size=ca at*;have k1:=(HX.out _ _ hB).2.1;have k2:=(HX.out _ _ hB).2.2.1;go_wp2_with (first|(refine Ql k1 ?_)|(refine Ql k2 ?_))
 refine(HR.out _ hS).mono ?_;rintro e y2 ⟨u3,u4,rfl,aD,ru,xN⟩;replace hS:=hS.below aD;replace hB:=Qp aD hB;replace hG:=hG.trans (kw.below aD);replace mU:=Qp aD mU;replace sY:=Qp aD sY;replace eW:=(eW.below aD (Nat.le_refl _)).more aD.size;replace gR:=(gR.below aD (Nat.le_refl _)).more aD.size;clear aD k1 k2;replace ru:=ru.more hS.size;replace xN:=xN.more hS.size;obtain⟨p3,n3,rfl,_,_⟩:=ru.shape;obtain⟨p4,n4,rfl,_,_⟩:=xN.shape;have Fy:=Qh (all_oneCell_toArray (aH (f:=⟨xk,xi,xg,xn,xf,xa,xb,xz⟩) (cP ru)))
 have GW:=Qh (all_oneCell_toArray (aH (f:=⟨Cq,Cr,Cs,Ct,Cu,Cv,Cw,Cx⟩) (cP xN)));unfold aE at Fy GW;dsimp only at Fy GW;obtain⟨bT,bX,dY,B8,JZ⟩:=MG y2 (a9 xk xi xg xn xf xa (.slice p3 l1.length n3) xb xz) (a9 Cq Cr Cs Ct Cu Cv (.slice p4 l2.length n4) Cw Cx);have eT:=Qh bT;have iW:=Qh bX;replace hS:=hS.below dY;replace hB:=Qp dY hB;replace hG:=hG.trans (kw.below dY);replace mU:=Qp dY mU;replace sY:=Qp dY sY;replace eW:=(eW.below dY (Nat.le_refl _)).more dY.size;replace gR:=(gR.below dY (Nat.le_refl _)).more dY.size
 replace ru:=(ru.below dY (Nat.le_refl _)).more dY.size;replace xN:=(xN.below dY (Nat.le_refl _)).more dY.size;clear dY bT bX;go_upto_region 20 with(first|(refine Qs eT.out Fy.out ?_)|(refine Qs iW.out GW.out ?_))
 clear eT Fy iW GW;generalize((((y2.alloc cQ).alloc cQ).setRow y2.heap.size (a9 xk xi xg xn xf xa (.slice p3 l1.length n3) xb xz)).setRow (y2.heap.size+1) (a9 Cq Cr Cs Ct Cu Cv (.slice p4 l2.length n4) Cw Cx))=x2 at*;generalize y2.heap.size=cb at*;have HS:=nX.out _ _ _ _ _ eW gR ru xN;have g_:=Qh (aq (x:=(l9 xk xi xg xn xf xa (.slice p1 l1.length n1) xb xz)) mU);have mh:=Qh (aq (x:=(l9 Cq Cr Cs Ct Cu Cv (.slice p2 l2.length n2) Cw Cx)) sY);have hH:=Qh (aq (x:=(l9 xk xi xg xn xf xa (.slice p3 l1.length n3) xb xz)) B8)
 have mi:=Qh (aq (x:=(l9 Cq Cr Cs Ct Cu Cv (.slice p4 l2.length n4) Cw Cx)) JZ);have B9:=g_.out 0 _ rfl;have B_:=g_.out 1 _ rfl;have Ca:=g_.out 2 _ rfl;have Cb:=g_.out 3 _ rfl;have Cc:=g_.out 4 _ rfl;have Cd:=g_.out 5 _ rfl;have Ce:=g_.out 6 _ rfl;have Cf:=g_.out 7 _ rfl;have Cg:=g_.out 8 _ rfl;have J0:=mh.out 0 _ rfl;have J1:=mh.out 1 _ rfl;have J2:=mh.out 2 _ rfl;have J3:=mh.out 3 _ rfl;have J4:=mh.out 4 _ rfl;have J5:=mh.out 5 _ rfl;have J6:=mh.out 6 _ rfl;have J7:=mh.out 7 _ rfl;have J8:=mh.out 8 _ rfl
 have Ch:=hH.out 0 _ rfl;have Ci:=hH.out 1 _ rfl;have Cj:=hH.out 2 _ rfl;have Ck:=hH.out 3 _ rfl;have Cl:=hH.out 4 _ rfl;have Cm:=hH.out 5 _ rfl;have Cn:=hH.out 6 _ rfl;have Co:=hH.out 7 _ rfl;have Cp:=hH.out 8 _ rfl;have J9:=mi.out 0 _ rfl;have J_:=mi.out 1 _ rfl;have J':=mi.out 2 _ rfl;have Ka:=mi.out 3 _ rfl;have Kb:=mi.out 4 _ rfl;have Kc:=mi.out 5 _ rfl;have Ke:=mi.out 6 _ rfl;have Kf:=mi.out 7 _ rfl;have Kg:=mi.out 8 _ rfl
 simp only[Nat.zero_add]at B9 B_ Ca Cb Cc Cd Ce Cf Cg J0 J1 J2 J3 J4 J5 J6 J7 J8 Ch Ci Cj Ck Cl Cm Cn Co Cp J9 J_ J' Ka Kb Kc Ke Kf Kg;have HW:=Qh hS;clear hS hB HX nX eW gR ru xN mU B8 sY JZ;clear g_ hH mh mi;go_wp2_with fail;refine HS.mono ?_;rintro e y3 ⟨rfl,aD⟩;have Ku:=HF.out _ (HW.out.below aD) (hG.trans (kw.below aD))
 clear HW aD HF B9 B_ Ca Cb Cc Cd Ce Cf Cg J0 J1 J2 J3 J4 J5 J6 J7 J8 Ch Ci Cj Ck Cl Cm Cn Co Cp J9 J_ J' Ka Kb Kc Ke Kf Kg;go_wp2_with fail;go_ret;exact Ku
theorem QT{N:Nat}{w W:World}{z y i:Nat}{A T:List (bW N)}{e:qD N}(h:jy w z y A T W)(hR:fH i A T)(hi:i≤1000)(hin:nC w w.heap.size e)(hna:ap e.a≤8000)(hnb:ap e.b≤8000)(iZ:ap e.r≤8000):Calls Tryz.prog 35 #[.pointer (some ⟨z,0,none⟩),.pointer (some ⟨y,0,none⟩),.agg (jM e).toArray] W (zP w z y i N W):=by
 by_cases h0:iM e.kind 12=0
 ·exact Gw h hR hi hin hna hnb iZ h0
 by_cases h1:iM e.kind 12=1
 ·exact JY h hR hi hin hna hnb iZ h1
 by_cases h2:iM e.kind 12=2
 ·exact B7 h hR hi hin hna hnb iZ h2 (.inl rfl)
 by_cases h3:iM e.kind 12=3
 ·exact B7 h hR hi hin hna hnb iZ h3 (.inr rfl)
 by_cases h4:iM e.kind 12=4
 ·exact D5 h hR hi hin hna hnb iZ h4
 by_cases h5:iM e.kind 12=5
 ·exact Gy h hR hi hin hna hnb iZ h5
 by_cases h6:iM e.kind 12=6
 ·exact Gx h hR hi hin hna hnb iZ h6
 by_cases h7:iM e.kind 12=7
 ·exact JX h hR hi hin hna hnb iZ h7
 exact JW h hR hi hin hna hnb iZ (p:=iM e.kind 12) rfl (fun j hj0 hj7=>by omega)
def Yo{N:Nat}(w:World)(z y n mm:Nat)(iv:Value)(wr:World):Prop:=∃(i:Nat) (A T:List (bW N)),iv=.int .i64 (i:Int)∧i≤n∧mm=n-i∧jy w z y A T wr∧fH i A T
theorem MH{n:Nat}(w:World)(v:Value)(l:List (qD n))(I:bq jM 29 w w.heap.size v l)(J:∀e∈l,nC w w.heap.size e)(Z:l.length*352≤140737488355328):Calls Tryz.prog 7 #[v] w (aV true w):=by
 have lU:=Qh (fun W=>Pn W);have Nq:=Qh (fun(W:World) (hW:Qb w W)=>Ma W hW.size v l (I.below hW (Nat.le_refl _)) (fun e he=>(J e he).below hW (Nat.le_refl _)) Z);have HNw:=Qh (fun(W:World) (hW:Qb w W)=>TQ (N:=n) hW);have Ug:=Qh (fun(z:Nat) (W:World) (h:Ky (N:=n) w z [] W)=>jy.start h);obtain⟨pv,cv,rfl,_,_⟩:=I.shape;have HI:=Qh I;have HJ:=Qh J;clear I J Z;have Kh:(Tryz.prog.info? 44).map (·.size)=some 29:=by kernel_rfl
 unfold aV at lU ⊢;unfold GrP at Nq;go_enter Tryz.func7,Tryz.ntmps7;go_wp2_with fail;refine(lU.out w).mono ?_;rintro e w1 ⟨rfl,aD⟩;have dU:=Qh aD;have HGW:=Qh (Nq.out w1 aD);clear aD lU Nq;go_wp2_with fail;refine HGW.out.mono ?_;rintro e w2 ⟨G,rfl,hG,a_⟩;have bS:=Qh (dU.out.trans (a_.mono dU.out.size));have HG:=Qh hG;clear a_ HGW dU hG;cases G
 rotate_left
 ·go_wp2_with fail;go_ret;exact⟨rfl,bS.out⟩
 have nX:Hid (Jp l):=Qh (HG.out rfl);have Uh:=Qh (HNw.out _ bS.out);clear HG HNw;go_wp2_with fail;refine Uh.out.mono ?_;rintro e w3 ⟨z,rfl,hL⟩;have oy:=Ug.out z w3 hL;clear Uh hL Ug;have HS:=Qh oy;clear oy;go_upto_region 6 with(fail);have oy:=HS.out;clear HS bS;generalize w3.alloc (.cells #[.slice none 0 0] 39)=w4 at*;generalize w3.heap.size=y at*;have H10:Hid (Yo (N:=n) w z y l.length l.length (.int .i64 0) w4):=Qh ⟨0,[],[],rfl,Nat.zero_le _,rfl,oy,fH.nil 0⟩;clear oy;go_wp2_with fail;go_loopg [5] l.length (fun mm iv wr=>Hid (Yo (N:=n) w z y l.length mm iv wr))
 case atStart=>exact H10
 case round=>
  obtain⟨i,A,T,rfl,hi,hm,oy,KD⟩:=hrel.out;clear hrel H10;have aaa:=nX.out.1
  by_cases hlt:i<l.length
  ·have r1:(i:Int)<(l.length:Int):=by omega
   have qx:=List.getElem?_eq_getElem hlt;obtain⟨g,o,e1,_,hg,_⟩:=HI.out.nth (by omega);subst e1;have hR:=BK HI.out qx;have hme:=HJ.out _ (List.getElem_mem hlt);have hnd:=nX.out.2.2 _ (List.getElem_mem hlt);clear qx;generalize l[i]=e at*;have hone:=all_oneCell_toArray (Lx hme);have HD:=Qh (fun(W:World) (h:jy w z y A T W)=>QT h KD (by omega) hme (by omega) (by omega) (by omega));obtain⟨BM,ta,tb,tc,zW,ua,ub,uc⟩:=e;obtain⟨m1,m2,m3⟩:=hme;dsimp only at m1 m2 m3;obtain⟨p1,c1,e1,_,_⟩:=m1.shape;obtain⟨p2,c2,e2,_,_⟩:=m2.shape;obtain⟨p3,c3,e3,_,_⟩:=m3.shape
   subst e1;subst e2;subst e3;have HM:=Qh hm;have Gz:=Qh (fun(A T:List (bW n)) (W:World) (h:jy w z y A T W) (hR:fH (i+1) A T)=>Pv h.st (hR.KB (by omega)) (B2:=w.heap.size) h.hb.size (m1.below h.hb (Nat.le_refl _)))
   have GA:=Qh (fun(A T:List (bW n)) (W:World) (h:jy w z y A T W) (hR:fH (i+1) A T)=>(show Calls Tryz.prog 36 #[.pointer (some ⟨y,0,none⟩),aj ta.f (.slice p1 ta.items.length c1)] W (fun e' w'=>e'=.returned (.tuple #[.int .i64 (g5 A ta).1,.int .i64 (g5 A ta).2])∧Qb W w') from by rw[hR.g5];exact QM h.rf (hR.KC (by omega)) (m1.below h.hb (Nat.le_refl _))));have GB:=Qh (fun(A T:List (bW n)) (W:World) (h:jy w z y A T W) (hR:fH (i+1) A T)=>MD h.st (hR.KB (by omega)) (fun a ha=>(hR.nd a ha).2.1) (B2:=w.heap.size) h.hb.size (m1.below h.hb (Nat.le_refl _)))
   have GC:=Qh (fun(A T:List (bW n)) (W:World) (h:jy w z y A T W) (hR:fH (i+1) A T)=>(show Calls Tryz.prog 38 #[.pointer (some ⟨y,0,none⟩),aj ta.f (.slice p1 ta.items.length c1)] W (fun e' w'=>∃u,e'=.returned (.tuple #[aj (kJ A ta).1.f u,.int .i64 (kJ A ta).2])∧Qb W w'∧ah w' w.heap.size n u (kJ A ta).1.items) from by rw[hR.kJ];exact ME h.rf (hR.KC (by omega)) (m1.below h.hb (Nat.le_refl _))))
   have Ki:=Qh (fun(t:Tm (n+1)) (X:World) (u1 u2:Value) (h1:ah X X.heap.size n u1 t.items) (h2:ah X X.heap.size n u2 t.items)=>(show Calls Tryz.prog 27 #[aj t.f u1,aj t.f u2] X (aV true X) from by
    have h:=qP X X.heap.size u1 u2 _ _ (Nat.le_refl _) h1 h2
    rw[eR rfl]at h
    exact h))
   have UA:Hid (∀A T W,jy w z y A T W→fH (i+1) A T→Hid (Yo (N:=n) w z y l.length (l.length-(i+1)) (.int .i64 ((i+1:Nat):Int)) W)):=Qh (fun A T W h hR=>Qh ⟨i+1,A,T,rfl,by omega,rfl,h,hR⟩);have e1:jM (⟨BM,ta,tb,tc,zW,.slice p1 ta.items.length c1,.slice p2 tb.items.length c2,.slice p3 tc.items.length c3⟩:qD n)=[.int .i64 BM]++aE ta.f (.slice p1 ta.items.length c1)++aE tb.f (.slice p2 tb.items.length c2)++aE tc.f (.slice p3 tc.items.length c3)++[.bool zW]:=rfl;rw[e1]at hR hone HD;unfold aV at Ki;clear e1 m1 m2 m3 hnd KD hm
   have HX:Hid (∀A:List (bW n),∃(m1 f1 f2:Int) (t:Tm (n+1)),(g5 A ta).1=m1∧(g5 A ta).2=f1∧(kJ A ta).1=t∧(kJ A ta).2=f2):=Qh (fun A=>⟨_,_,_,_,rfl,rfl,rfl,rfl⟩);generalize hn1:ta.items.length=n1 at HD Gz GA GB GC hR hone;generalize tb.items.length=n2 at*;generalize tc.items.length=n3 at*;generalize hfa:ta.f=fa at HD Gz GA GB GC hR hone;generalize tb.f=fb at*;generalize tc.f=fc at*;clear hn1 hfa;obtain⟨zE,zF,zG,zH,zI,zJ,zK,zL⟩:=fa;obtain⟨zX,zY,zZ,z9,z_,Aa,Ab,Ac⟩:=fb;obtain⟨D6,D7,D8,D9,D_,Ea,Eb,Ec⟩:=fc
   unfold aj at Gz GA GB GC Ki;dsimp only at Gz GA GB GC Ki;have hR:w.rangeAt g (o+i*29) (Uj BM zE zF zG zH zI zJ (.slice p1 n1 c1) zK zL zX zY zZ z9 z_ Aa (.slice p2 n2 c2) Ab Ac D6 D7 D8 D9 D_ Ea (.slice p3 n3 c3) Eb Ec zW):=hR;have hone:((wI BM zE zF zG zH zI zJ (.slice p1 n1 c1) zK zL zX zY zZ z9 z_ Aa (.slice p2 n2 c2) Ab Ac D6 D7 D8 D9 D_ Ea (.slice p3 n3 c3) Eb Ec zW):Array Value).all (·.oneCell')=true:=hone
   have C3:Hid (∀W,jy w z y A T W→Calls Tryz.prog 35 #[.pointer (some ⟨z,0,none⟩),.pointer (some ⟨y,0,none⟩),.agg (wI BM zE zF zG zH zI zJ (.slice p1 n1 c1) zK zL zX zY zZ z9 z_ Aa (.slice p2 n2 c2) Ab Ac D6 D7 D8 D9 D_ Ea (.slice p3 n3 c3) Eb Ec zW)] W (zP w z y i n W)):=HD;clear HD;unfold zP at C3;have CI:=Qh (dn hR (oy.hb.block g hg));have HZ:=Qh (aF wr (.cells (wI 0 0 0 0 ⟨#[]⟩ ⟨#[]⟩ 0 (.slice none 0 0) ⟨#[]⟩ 0 0 0 0 ⟨#[]⟩ ⟨#[]⟩ 0 (.slice none 0 0) ⟨#[]⟩ 0 0 0 0 ⟨#[]⟩ ⟨#[]⟩ 0 (.slice none 0 0) ⟨#[]⟩ 0 false) 44))
   have uD:=Qh (setRow_heap (wr.alloc (.cells (wI 0 0 0 0 ⟨#[]⟩ ⟨#[]⟩ 0 (.slice none 0 0) ⟨#[]⟩ 0 0 0 0 ⟨#[]⟩ ⟨#[]⟩ 0 (.slice none 0 0) ⟨#[]⟩ 0 0 0 0 ⟨#[]⟩ ⟨#[]⟩ 0 (.slice none 0 0) ⟨#[]⟩ 0 false) 44)) wr.heap.size _ (wI BM zE zF zG zH zI zJ (.slice p1 n1 c1) zK zL zX zY zZ z9 z_ Aa (.slice p2 n2 c2) Ab Ac D6 D7 D8 D9 D_ Ea (.slice p3 n3 c3) Eb Ec zW) _ _ HZ.out)
   have hbX:Qb wr ((wr.alloc (.cells (wI 0 0 0 0 ⟨#[]⟩ ⟨#[]⟩ 0 (.slice none 0 0) ⟨#[]⟩ 0 0 0 0 ⟨#[]⟩ ⟨#[]⟩ 0 (.slice none 0 0) ⟨#[]⟩ 0 0 0 0 ⟨#[]⟩ ⟨#[]⟩ 0 (.slice none 0 0) ⟨#[]⟩ 0 false) 44)).setRow wr.heap.size (wI BM zE zF zG zH zI zJ (.slice p1 n1 c1) zK zL zX zY zZ z9 z_ Aa (.slice p2 n2 c2) Ab Ac D6 D7 D8 D9 D_ Ea (.slice p3 n3 c3) Eb Ec zW)):=(aG (Below.refl wr.heap.size wr) (.cells (wI 0 0 0 0 ⟨#[]⟩ ⟨#[]⟩ 0 (.slice none 0 0) ⟨#[]⟩ 0 0 0 0 ⟨#[]⟩ ⟨#[]⟩ 0 (.slice none 0 0) ⟨#[]⟩ 0 0 0 0 ⟨#[]⟩ ⟨#[]⟩ 0 (.slice none 0 0) ⟨#[]⟩ 0 false) 44) (Nat.le_refl _)).trans ((aB _ wr.heap.size (wI BM zE zF zG zH zI zJ (.slice p1 n1 c1) zK zL zX zY zZ z9 z_ Aa (.slice p2 n2 c2) Ab Ac D6 D7 D8 D9 D_ Ea (.slice p3 n3 c3) Eb Ec zW)).below (fun q e=>by omega) (by rw[World.size_alloc];exact Nat.le_succ _))
   have L5:=Qh (oy.below hbX);have Kj:=Qh (fun(W:World) (gb:Nat) (h:W.heap[gb]?=some (.cells (wI BM zE zF zG zH zI zJ (.slice p1 n1 c1) zK zL zX zY zZ z9 z_ Aa (.slice p2 n2 c2) Ab Ac D6 D7 D8 D9 D_ Ea (.slice p3 n3 c3) Eb Ec zW) 44))=>(show W.rangeAt gb 1 (l9 zE zF zG zH zI zJ (.slice p1 n1 c1) zK zL) from jn (a:=(l9 zE zF zG zH zI zJ (.slice p1 n1 c1) zK zL)) (b:=(l9 zX zY zZ z9 z_ Aa (.slice p2 n2 c2) Ab Ac)++((l9 D6 D7 D8 D9 D_ Ea (.slice p3 n3 c3) Eb Ec)++[.bool zW])) (by
    have h0:=kI (a:=[.int .i64 BM]) (b:=(l9 zE zF zG zH zI zJ (.slice p1 n1 c1) zK zL)++((l9 zX zY zZ z9 z_ Aa (.slice p2 n2 c2) Ab Ac)++((l9 D6 D7 D8 D9 D_ Ea (.slice p3 n3 c3) Eb Ec)++[.bool zW]))) (show W.rangeAt gb 0 ([.int .i64 BM]++((l9 zE zF zG zH zI zJ (.slice p1 n1 c1) zK zL)++((l9 zX zY zZ z9 z_ Aa (.slice p2 n2 c2) Ab Ac)++((l9 D6 D7 D8 D9 D_ Ea (.slice p3 n3 c3) Eb Ec)++[.bool zW])))) from aq h) (n:=1) rfl
    rw[Nat.zero_add]at h0
    exact h0)))
   clear hR oy hbX;go_upto_region 12 with(first
    | (refine wpList_load_mid rfl 44 (.tmp 32) rfl g (o+i*29) rfl (Uj BM zE zF zG zH zI zJ (.slice p1 n1 c1) zK zL zX zY zZ z9 z_ Aa (.slice p2 n2 c2) Ab Ac D6 D7 D8 D9 D_ Ea (.slice p3 n3 c3) Eb Ec zW) _ CI.out Tryz.underlying44 rfl Kh ?_)
    | (refine wpList_store_row rfl 44 (.tmp 6) (.tmp 33) rfl wr.heap.size (wI BM zE zF zG zH zI zJ (.slice p1 n1 c1) zK zL zX zY zZ z9 z_ Aa (.slice p2 n2 c2) Ab Ac D6 D7 D8 D9 D_ Ea (.slice p3 n3 c3) Eb Ec zW) rfl rfl 44 _ HZ.out Kh rfl hone ?_))
   have yy:=uD.out;have oy:=L5.out;clear uD L5 HZ CI hone;generalize(wr.alloc (.cells (wI 0 0 0 0 ⟨#[]⟩ ⟨#[]⟩ 0 (.slice none 0 0) ⟨#[]⟩ 0 0 0 0 ⟨#[]⟩ ⟨#[]⟩ 0 (.slice none 0 0) ⟨#[]⟩ 0 0 0 0 ⟨#[]⟩ ⟨#[]⟩ 0 (.slice none 0 0) ⟨#[]⟩ 0 false) 44)).setRow wr.heap.size (wI BM zE zF zG zH zI zJ (.slice p1 n1 c1) zK zL zX zY zZ z9 z_ Aa (.slice p2 n2 c2) Ab Ac D6 D7 D8 D9 D_ Ea (.slice p3 n3 c3) Eb Ec zW)=w8 at*;generalize wr.heap.size=gb at*
   have HL:=Qh (aq (x:=(Uj BM zE zF zG zH zI zJ (.slice p1 n1 c1) zK zL zX zY zZ z9 z_ Aa (.slice p2 n2 c2) Ab Ac D6 D7 D8 D9 D_ Ea (.slice p3 n3 c3) Eb Ec zW)) yy);go_wp2_with (first
    | (refine wpList_load_mid rfl 44 (.tmp 6) rfl gb 0 rfl (Uj BM zE zF zG zH zI zJ (.slice p1 n1 c1) zK zL zX zY zZ z9 z_ Aa (.slice p2 n2 c2) Ab Ac D6 D7 D8 D9 D_ Ea (.slice p3 n3 c3) Eb Ec zW) _ HL.out Tryz.underlying44 rfl Kh ?_))
   refine(C3.out _ oy).mono ?_;rintro e x1 ⟨rfl,⟨A1,T1,Gi,KD⟩,hK⟩;replace yy:=hK _ _ yy;clear hK oy HL C3;have oy:=Gi;clear Gi;have ig:=Qh (fun W h=>Gz.out A1 T1 W h KD);have lB:=Qh (fun W h=>GA.out A1 T1 W h KD);have qY:=Qh (fun W h=>GB.out A1 T1 W h KD);have yL:=Qh (fun W h=>GC.out A1 T1 W h KD);have HN:=Qh (fun W h=>UA.out A1 T1 W h KD);clear Gz GA GB GC UA KD;obtain⟨mz,f1,f2,tx,ez1,ez2,ez3,ez4⟩:=HX.out A1;rw[ez1,ez2]at ig lB;rw[ez3,ez4]at qY yL;have nh:=Qh (Ki.out tx);clear ez1 ez2 ez3 ez4 HX Ki;generalize tx.f=ft at*
   generalize tx.items=l1 at*;obtain⟨JA,JB,JC,JD,JE,JF,JG,JH⟩:=ft;dsimp only at qY yL nh;have k1:=Kj.out _ _ yy;go_wp2_with (first|(refine Ql k1 ?_))
   refine(ig.out _ oy).mono ?_;rintro e y1 ⟨rfl,aD⟩;replace oy:=oy.below aD;replace yy:=Qp aD yy;clear aD k1 ig;have k1:=Kj.out _ _ yy;go_wp2_with (first|(refine Ql k1 ?_))
   refine(lB.out _ oy).mono ?_;rintro e y2 ⟨rfl,aD⟩;replace oy:=oy.below aD;replace yy:=Qp aD yy;clear aD k1 lB;have k1:=Kj.out _ _ yy;go_wp2_with (first|(refine Ql k1 ?_))
   refine(qY.out _ oy).mono ?_;rintro e y3 ⟨F1,u1,rfl,aD,eW⟩;replace oy:=oy.below aD;replace yy:=Qp aD yy;clear aD k1 qY;replace eW:=bZ.QS eW;obtain⟨q1,d1,rfl,_,_⟩:=eW.shape;have oX:=Qh (all_oneCell_toArray (aH (f:=⟨JA,JB,JC,JD,JE,JF,JG,JH⟩) (cP eW)));unfold aE at oX;dsimp only at oX;obtain⟨bT,dY,mW⟩:=Jt y3 (a9 JA JB JC JD JE JF (.slice q1 l1.length d1) JG JH);have eT:=Qh bT;replace oy:=oy.below dY;replace yy:=Qp dY yy;replace eW:=(eW.below dY (Nat.le_refl _)).more dY.size;clear dY bT
   go_upto_region 17 with(first|(refine Qs eT.out oX.out ?_))
   clear eT oX;generalize((y3.alloc cQ).setRow y3.heap.size (a9 JA JB JC JD JE JF (.slice q1 l1.length d1) JG JH))=x3 at*;generalize y3.heap.size=ca at*;have k1:=Kj.out _ _ yy;go_wp2_with (first|(refine Ql k1 ?_))
   refine(yL.out _ oy).mono ?_;rintro e y4 ⟨u2,rfl,aD,gR⟩;replace oy:=oy.below aD;replace yy:=Qp aD yy;replace eW:=(eW.below aD (Nat.le_refl _)).more aD.size;replace mW:=Qp aD mW;clear aD k1 yL;replace gR:=gR.more oy.hb.size;obtain⟨q2,d2,rfl,_,_⟩:=gR.shape;have ud:=Qh (all_oneCell_toArray (aH (f:=⟨JA,JB,JC,JD,JE,JF,JG,JH⟩) (cP gR)));unfold aE at ud;dsimp only at ud;obtain⟨bT,dY,MX⟩:=Jt y4 (a9 JA JB JC JD JE JF (.slice q2 l1.length d2) JG JH);have eT:=Qh bT;replace oy:=oy.below dY;replace yy:=Qp dY yy
   replace eW:=(eW.below dY (Nat.le_refl _)).more dY.size;replace gR:=(gR.below dY (Nat.le_refl _)).more dY.size;replace mW:=Qp dY mW;clear dY bT;go_upto_region 18 with(first|(refine Qs eT.out ud.out ?_))
   clear eT ud;generalize((y4.alloc cQ).setRow y4.heap.size (a9 JA JB JC JD JE JF (.slice q2 l1.length d2) JG JH))=x4 at*;generalize y4.heap.size=cb at*;have HS:=nh.out _ _ _ eW gR;have wB:=Qh (aq (x:=(l9 JA JB JC JD JE JF (.slice q1 l1.length d1) JG JH)) mW);have wC:=Qh (aq (x:=(l9 JA JB JC JD JE JF (.slice q2 l1.length d2) JG JH)) MX);have ca0:=wB.out 0 _ rfl;have ca1:=wB.out 1 _ rfl;have ca2:=wB.out 2 _ rfl;have ca3:=wB.out 3 _ rfl;have ca4:=wB.out 4 _ rfl;have ca5:=wB.out 5 _ rfl;have ca6:=wB.out 6 _ rfl;have ca7:=wB.out 7 _ rfl
   have ca8:=wB.out 8 _ rfl;have cb0:=wC.out 0 _ rfl;have cb1:=wC.out 1 _ rfl;have cb2:=wC.out 2 _ rfl;have cb3:=wC.out 3 _ rfl;have cb4:=wC.out 4 _ rfl;have cb5:=wC.out 5 _ rfl;have cb6:=wC.out 6 _ rfl;have cb7:=wC.out 7 _ rfl;have cb8:=wC.out 8 _ rfl;simp only[Nat.zero_add]at ca0 ca1 ca2 ca3 ca4 ca5 ca6 ca7 ca8 cb0 cb1 cb2 cb3 cb4 cb5 cb6 cb7 cb8;have HW:=Qh oy;clear oy yy eW gR mW MX wB wC Kj nh;have e1:(mz != mz)=false:=by simp
   have e2:(f1 != f1)=false:=by simp
   have e3:(f2 != f2)=false:=by simp
   go_wp2_with fail;refine HS.mono ?_;rintro e y5 ⟨rfl,aD⟩;have oy:=HW.out.below aD;clear HW aD ca0 ca1 ca2 ca3 ca4 ca5 ca6 ca7 ca8 cb0 cb1 cb2 cb3 cb4 cb5 cb6 cb7 cb8;go_wp2_with fail;go_roundg (l.length-(i+1))
   case measure=>have:=HM.out;omega
   case rel=>exact HN.out _ oy
  ·obtain rfl:i=l.length:=by omega
   have K7:=Qh oy.hb;clear oy KD hm;go_wp2_with fail;go_ret;exact⟨rfl,K7.out⟩
end Go.Proofs.YtfbggmbmgohiiaaGreat.tb
