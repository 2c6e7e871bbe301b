/- TcT,TnR,TcU. No condition beyond theirs. -/
import Derived.Test.YtfbggmbmgohiiaaGreatR33
import Derived.Test.YtfbggmbmgohiiaaGreatR32
set_option linter.unusedSimpArgs false
set_option linter.unusedVariables false
set_option maxHeartbeats 1000000
set_option maxRecDepth 100000
namespace Go.Proofs.YtfbggmbmgohiiaaGreat
namespace tb
open tm
section
variable {K V:Type}{c:K→K→Int}{S:K→Prop}
structure Ord(S:K→Prop)(c:K→K→Int):Prop where
 tp:TP (fun _=>True) c
 eq:∀a b,S a→S b→c a b=0→a=b
theorem Ord.lt_trans(h:Ord S c){a b d:K}(h1:c a b<0)(h2:c b d<0):c a d<0:=by
 have t:=h.tp.trans a b d trivial trivial trivial (by omega) (by omega)
 by_cases e:c a d=0
 ·have:=h.tp.zero (a:=a) (b:=b) (d:=d) trivial trivial trivial (by omega) (by omega) e;omega
 ·omega
noncomputable def cK(c:K→K→Int)(R:List (K×V))(k:K):Nat:=R.findIdx (fun x=>!decide (c x.1 k<0))
noncomputable def gp(c:K→K→Int)(R:List (K×V))(k:K):Bool:=(R[cK c R k]?).elim false (fun x=>dL x.1 k)
noncomputable def lH(c:K→K→Int)(R:List (K×V))(k:K)(v:V):List (K×V):=R.take (cK c R k)++(k,v)::R.drop (if gp c R k then cK c R k+1 else cK c R k)
noncomputable def kG(c:K→K→Int)(R:List (K×V))(k:K):List (K×V):=if gp c R k then R.take (cK c R k)++R.drop (cK c R k+1) else R
noncomputable def pZ(c:K→K→Int)(R:List (K×V))(k:K):Option V:=if gp c R k then(R[cK c R k]?).map (·.2) else none
def jx(c:K→K→Int)(R:List (K×V)):Prop:=R.Pairwise (fun a b=>c a.1 b.1<0)
theorem uB(R:List (K×V))(k:K):cK c R k≤R.length:=List.findIdx_le_length
theorem sN{R:List (K×V)}{k:K}{x:K×V}(hx:x∈R.take (cK c R k)):c x.1 k<0:=by
 obtain⟨i,hi,rfl⟩:=List.mem_iff_getElem.1 hx;rw[List.length_take]at hi;rw[List.getElem_take];have:=List.not_of_lt_findIdx (p:=fun x:K×V=>!decide (c x.1 k<0)) (xs:=R) (i:=i) (by unfold cK at hi;omega);simpa using this
theorem xY(h:Ord S c){R:List (K×V)}(hs:jx c R){k:K}{x:K×V}(hx:x∈R.drop (cK c R k)):¬c x.1 k<0:=by
 obtain⟨i,hi,rfl⟩:=List.mem_iff_getElem.1 hx;rw[List.length_drop]at hi;rw[List.getElem_drop];have hp:cK c R k<R.length:=by omega
 have h0:¬c (R[cK c R k]).1 k<0:=by
  have hq:R.findIdx (fun x:K×V=>!decide (c x.1 k<0))<R.length:=hp;have h2:(!decide (c (R[cK c R k]).1 k<0))=true:=List.findIdx_getElem (p:=fun x:K×V=>!decide (c x.1 k<0)) (xs:=R) (w:=hq);intro h3;simp only[Bool.not_eq_true',decide_eq_false_iff_not]at h2;exact h2 h3
 intro hlt
 by_cases e:i=0
 ·subst e;exact h0 hlt
 ·exact h0 (h.lt_trans (List.pairwise_iff_getElem.1 hs (cK c R k) (cK c R k+i) hp (by omega) (by omega)) hlt)
theorem kQ{R:List (K×V)}{k:K}(h:gp c R k=true):∃hp:cK c R k<R.length,(R[cK c R k]).1=k:=by
 unfold gp at h
 by_cases hp:cK c R k<R.length
 ·rw[List.getElem?_eq_getElem hp]at h;exact⟨hp,oH h⟩
 ·rw[List.getElem?_eq_none (by omega)]at h;cases h
theorem rI(h:Ord S c){R:List (K×V)}(hs:jx c R){k:K}:gp c R k=true↔∃v,(k,v)∈R:=by
 constructor
 ·intro hh;obtain⟨hp,e⟩:=kQ hh;refine⟨(R[cK c R k]).2,?_⟩;have hm:=List.getElem_mem hp;have e2:(k,(R[cK c R k]).2)=R[cK c R k]:=Prod.ext e.symm rfl;exact e2▸hm
 ·rintro⟨v,hv⟩;obtain⟨j,hj,ej⟩:=List.mem_iff_getElem.1 hv;have Uv:¬c k k<0:=by have:=h.tp.refl k;omega
  have hge:¬j<cK c R k:=fun hlt=>by
   have:c (R[j]).1 k<0:=sN (R:=R) (k:=k) (List.mem_iff_getElem.2 ⟨j,by rw[List.length_take];omega,by rw[List.getElem_take]⟩);rw[ej]at this;exact Uv this
  have hp:cK c R k<R.length:=by omega
  have h0:¬c (R[cK c R k]).1 k<0:=xY h hs (List.mem_iff_getElem.2 ⟨0,by rw[List.length_drop];omega,by rw[List.getElem_drop];simp⟩);have e:j=cK c R k:=by
   refine Classical.byContradiction fun hne=>h0 ?_;have:=List.pairwise_iff_getElem.1 hs (cK c R k) j hp hj (by omega);rwa[ej]at this
  unfold gp;rw[List.getElem?_eq_getElem hp];refine eR ?_;subst e;rw[ej]
theorem jX{R:List (K×V)}(h:Ord S c){k:K}{x:K×V}(hx:c x.1 k<0∨c k x.1<0):x.1≠k:=fun e=>by
 have:=h.tp.refl k;rw[e]at hx;omega
theorem Gd{α:Type}{R:List α}{p:Nat}(hp:p<R.length):R=R.take p++R[p]::R.drop (p+1):=by
 rw[List.getElem_cons_drop hp,List.take_append_drop]
theorem nF(h:Ord S c){R:List (K×V)}(hs:jx c R){k:K}(hh:gp c R k=true):∃A v C,R=A++(k,v)::C∧cK c R k=A.length∧(∀x∈A,c x.1 k<0)∧(∀x∈C,c k x.1<0):=by
 obtain⟨hp,e⟩:=kQ hh;have e2:R[cK c R k]=(k,(R[cK c R k]).2):=Prod.ext e rfl;have hsp:=Gd hp;rw[e2]at hsp;refine⟨_,_,_,hsp,by rw[List.length_take];omega,fun x hx=>sN hx,fun x hx=>?_⟩;unfold jx at hs;rw[hsp]at hs;have h3:=(List.pairwise_append.1 hs).2.1;exact(List.pairwise_cons.1 h3).1 x hx
theorem xZ(h:Ord S c){R:List (K×V)}(hs:jx c R){k:K}(hk:S k)(hS:∀x∈R,S x.1)(hh:gp c R k=false):∃A C,R=A++C∧cK c R k=A.length∧(∀x∈A,c x.1 k<0)∧(∀x∈C,c k x.1<0):=by
 refine⟨_,_,(List.take_append_drop (cK c R k) R).symm,by rw[List.length_take];have:=uB (c:=c) R k;omega,fun x hx=>sN hx,fun x hx=>?_⟩;have h1:=xY h hs hx;have h2:=h.tp.anti x.1 k
 by_cases e:c x.1 k=0
 ·have hm:=List.mem_of_mem_drop hx;have:=h.eq _ _ (hS x hm) hk e;have hc:=(rI h hs (k:=k)).2 ⟨x.2,by rw[←this];exact hm⟩;rw[hh]at hc;cases hc
 ·omega
theorem Bl{R:List (K×V)}{k:K}{v v0:V}{A C:List (K×V)}(hh:gp c R k=true)(e:R=A++(k,v0)::C)(hp:cK c R k=A.length):lH c R k v=A++(k,v)::C:=by
 unfold lH;rw[hh,if_pos rfl,hp,e];simp
theorem E5{R:List (K×V)}{k:K}{v:V}{A C:List (K×V)}(hh:gp c R k=false)(e:R=A++C)(hp:cK c R k=A.length):lH c R k v=A++(k,v)::C:=by
 unfold lH;rw[hh,if_neg (by decide),hp,e];simp
theorem IX(h:Ord S c){R:List (K×V)}(hs:jx c R){k:K}(hk:S k)(hS:∀x∈R,S x.1)(v:V)(a:K)(b:V):(a,b)∈lH c R k v↔(a=k∧b=v)∨(a≠k∧(a,b)∈R):=by
 cases hh:gp c R k
 ·obtain⟨A,C,e,hp,h1,h2⟩:=xZ h hs hk hS hh;rw[E5 hh e hp,e];simp only[List.mem_append,List.mem_cons,Prod.mk.injEq]
  constructor
  ·rintro(h3|⟨rfl,rfl⟩|h3)
   ·exact .inr ⟨jX (R:=R) h (.inl (h1 _ h3)),.inl h3⟩
   ·exact .inl ⟨rfl,rfl⟩
   ·exact .inr ⟨jX (R:=R) h (.inr (h2 _ h3)),.inr h3⟩
  ·rintro(⟨rfl,rfl⟩|⟨h3,h4|h4⟩)
   ·exact .inr (.inl ⟨rfl,rfl⟩)
   ·exact .inl h4
   ·exact .inr (.inr h4)
 ·obtain⟨A,v0,C,e,hp,h1,h2⟩:=nF h hs hh;rw[Bl hh e hp,e];simp only[List.mem_append,List.mem_cons,Prod.mk.injEq]
  constructor
  ·rintro(h3|⟨rfl,rfl⟩|h3)
   ·exact .inr ⟨jX (R:=R) h (.inl (h1 _ h3)),.inl h3⟩
   ·exact .inl ⟨rfl,rfl⟩
   ·exact .inr ⟨jX (R:=R) h (.inr (h2 _ h3)),.inr (.inr h3)⟩
  ·rintro(⟨rfl,rfl⟩|⟨h3,h4|⟨rfl,rfl⟩|h4⟩)
   ·exact .inr (.inl ⟨rfl,rfl⟩)
   ·exact .inl h4
   ·exact absurd rfl h3
   ·exact .inr (.inr h4)
theorem x9(h:Ord S c){R:List (K×V)}(hs:jx c R){k:K}(hk:S k)(hS:∀x∈R,S x.1)(v:V):jx c (lH c R k v):=by
 have key:∀{A C:List (K×V)},A.Pairwise (fun a b=>c a.1 b.1<0)→C.Pairwise (fun a b=>c a.1 b.1<0)→(∀x∈A,c x.1 k<0)→(∀x∈C,c k x.1<0)→jx c (A++(k,v)::C):=fun{A C} hA hC h1 h2=>by
  refine List.pairwise_append.2 ⟨hA,List.pairwise_cons.2 ⟨fun x hx=>h2 x hx,hC⟩,fun x hx y hy=>?_⟩
  rcases List.mem_cons.1 hy with rfl|hy
  ·exact h1 x hx
  ·exact h.lt_trans (h1 x hx) (h2 y hy)
 cases hh:gp c R k
 ·obtain⟨A,C,e,hp,h1,h2⟩:=xZ h hs hk hS hh;rw[E5 hh e hp];unfold jx at hs;rw[e]at hs;have hq:=List.pairwise_append.1 hs;exact key hq.1 hq.2.1 h1 h2
 ·obtain⟨A,v0,C,e,hp,h1,h2⟩:=nF h hs hh;rw[Bl hh e hp];unfold jx at hs;rw[e]at hs;have hq:=List.pairwise_append.1 hs;exact key hq.1 (List.pairwise_cons.1 hq.2.1).2 h1 h2
theorem IY(h:Ord S c){R:List (K×V)}(hs:jx c R){k:K}(a:K)(b:V):(a,b)∈kG c R k↔a≠k∧(a,b)∈R:=by
 unfold kG
 cases hh:gp c R k
 ·rw[if_neg (by decide)];refine⟨fun hm=>⟨fun e=>?_,hm⟩,fun hm=>hm.2⟩;subst e;have:=(rI h hs (k:=a)).2 ⟨b,hm⟩;rw[hh]at this;cases this
 ·obtain⟨A,v0,C,e,hp,h1,h2⟩:=nF h hs hh;rw[if_pos rfl,hp,e];simp only[List.take_left',List.mem_append,List.mem_cons,Prod.mk.injEq];have e2:(A++(k,v0)::C).drop (A.length+1)=C:=by simp
  rw[e2]
  constructor
  ·rintro(h3|h3)
   ·exact⟨jX (R:=R) h (.inl (h1 _ h3)),.inl h3⟩
   ·exact⟨jX (R:=R) h (.inr (h2 _ h3)),.inr (.inr h3)⟩
  ·rintro⟨h3,h4|⟨rfl,rfl⟩|h4⟩
   ·exact .inl h4
   ·exact absurd rfl h3
   ·exact .inr h4
theorem x_{R:List (K×V)}(hs:jx c R){k:K}:jx c (kG c R k):=by
 unfold kG
 split
 ·refine hs.sublist ?_;have:(R.take (cK c R k)++R.drop (cK c R k+1)).Sublist (R.take (cK c R k)++R.drop (cK c R k)):=List.Sublist.append (List.Sublist.refl _) (by rw[←List.drop_drop];exact List.drop_sublist _ _);rwa[List.take_append_drop]at this
 ·exact hs
theorem Bm(h:Ord S c){R:List (K×V)}(hs:jx c R){k:K}{v:V}:pZ c R k=some v↔(k,v)∈R:=by
 unfold pZ
 cases hh:gp c R k
 ·rw[if_neg (by decide)];refine⟨fun e=>(nomatch e),fun hm=>?_⟩;have:=(rI h hs (k:=k)).2 ⟨v,hm⟩;rw[hh]at this;cases this
 ·obtain⟨A,v0,C,e,hp,h1,h2⟩:=nF h hs hh;rw[if_pos rfl,hp,e];have e3:(A++(k,v0)::C)[A.length]?=some (k,v0):=by simp
  rw[e3];simp only[Option.map_some,Option.some.injEq,List.mem_append,List.mem_cons,Prod.mk.injEq,true_and]
  constructor
  ·rintro rfl;exact .inr (.inl rfl)
  ·rintro(h3|h3|h3)
   ·exact absurd rfl (jX (R:=R) (x:=(k,v)) h (.inl (h1 _ h3)))
   ·exact h3.symm
   ·exact absurd rfl (jX (R:=R) (x:=(k,v)) h (.inr (h2 _ h3)))
end
end tb
namespace tm
theorem LO{n:Nat}:TP (fun _:Tm (n+1)=>True) (cM (n:=n)):=by
 have h:=(NI (n+1)).tp
 refine⟨fun a b=>?_,fun a b=>?_,fun a b d _ _ _ x y=>?_⟩
 ·unfold cM
  repeat' split
  all_goals first|exact h.range a b|simp
 ·have e:=h.anti a b;unfold cM;by_cases ha:aC a=true <;> by_cases hb:aC b=true <;> simp[ha,hb,e]
 ·unfold cM at*;by_cases ha:aC a=true <;> by_cases hb:aC b=true <;> by_cases hd:aC d=true <;> simp[ha,hb,hd]at x y ⊢
  exact h.trans a b d (bR ha) (bR hb) (bR hd) x y
variable {β:Type}{c:β→β→Int}
def qG(c:β→β→Int)(x y:β):Bool:=decide (c x y≤0)
theorem Bn(h:TP (fun _=>True) c)(l:List β)(p:List (Nat×β))(hp:(p.map fun x=>(x.2,x.1)).Perm l.zipIdx)(hs:p.Pairwise (gH (fun x y:Nat×β=>c x.2 y.2) (fun x=>x.1))):p.map (fun x=>x.2)=l.mergeSort (qG c):=by
 rw[←List.mergeSort_zipIdx];have Ks:∀a b d,qG c a b=true→qG c b d=true→qG c a d=true:=fun a b d x y=>by
  unfold qG at*;rw[decide_eq_true_eq]at*;exact h.trans a b d trivial trivial trivial x y
 have hto:∀a b,(qG c a b||qG c b a)=true:=fun a b=>by
  unfold qG;have:=h.anti a b;rw[Bool.or_eq_true,decide_eq_true_eq,decide_eq_true_eq];omega
 have e:(p.map fun x=>(x.2,x.1))=l.zipIdx.mergeSort (List.zipIdxLE (qG c)):=by
  refine List.Perm.eq_of_pairwise (le:=fun a b=>List.zipIdxLE (qG c) a b=true) ?_ ?_ ?_ (hp.trans (List.mergeSort_perm _ _).symm)
  ·rintro⟨a,i⟩ ⟨b,j⟩ ha hb h1 h2;have hij:i=j:=by
    unfold List.zipIdxLE qG at h1 h2;have:=h.anti a b;simp only[decide_eq_true_eq]at h1 h2
    repeat' split at h1
    all_goals (repeat' split at h2)
    all_goals first|(cases h1;done)|(cases h2;done)|(simp at h1 h2;omega)|omega
   subst hij;have ha':=hp.mem_iff.1 ha;have hb':=List.mem_mergeSort.1 hb;rw[List.mk_mem_zipIdx_iff_getElem?]at ha' hb';rw[ha']at hb';simp only[Option.some.injEq]at hb';rw[hb']
  ·rw[List.pairwise_map];refine hs.imp ?_;rintro⟨i,a⟩ ⟨j,b⟩ h1;unfold gH at h1;unfold List.zipIdxLE qG;dsimp only at h1 ⊢;have:=h.anti a b
   rcases h1 with h1|⟨h1,h2⟩
   ·rw[if_pos (by rw[decide_eq_true_eq];omega),if_neg (by rw[decide_eq_true_eq];omega)]
   ·rw[if_pos (by rw[decide_eq_true_eq];omega),if_pos (by rw[decide_eq_true_eq];omega)];exact decide_eq_true (by omega)
  ·exact List.pairwise_mergeSort (List.zipIdxLE_trans Ks) (List.zipIdxLE_total hto) _
 rw[←e,List.map_map];rfl
end tm
namespace tb
open Go.RowKit mem rec tm names
section
variable {N:Nat}
noncomputable def bM{N:Nat}(hs:Bool):Tm (N+1)→Tm (N+1)→Int:=if hs then eD (fun x y=>aO (cy x) (cy y)) cM else cM
abbrev Vd{N:Nat}:Tm (N+1)→Prop:=fun k=>aC k=true
theorem uC{a b:Tm (N+1)}(ha:aC a=true)(hb:aC b=true)(h:cM a b=0):a=b:=by
 unfold cM at h;rw[if_pos ha,if_pos hb]at h;exact(NI (N+1)).eq a b (bR ha) (bR hb) h
theorem wX(hs:Bool):Ord (Vd (N:=N)) (bM hs):=by
 cases hs
 ·exact⟨LO,fun a b ha hb h=>uC ha hb h⟩
 ·refine⟨(TP.lK NB cy).then LO,fun a b ha hb h=>?_⟩;have h:eD (fun x y=>aO (cy x) (cy y)) cM a b=0:=h;unfold eD at h
  split at h
  ·exact uC ha hb h
  ·contradiction
theorem O3(hs:Bool)(x y:Tm (N+1)):oN hs x y (cy x) (hK hs y)=decide (bM hs x y<0):=by
 cases hs
 ·rfl
 ·unfold oN hK;rw[if_pos rfl,if_pos rfl];show _=decide ((if aO (cy x) (cy y)=0 then cM x y else aO (cy x) (cy y))<0)
  by_cases h1:cy x<cy y
  ·have h2:=uq.2 h1;have h3:¬aO (cy x) (cy y)=0:=by omega
   rw[if_neg h3,decide_eq_true h2,decide_eq_true h1];rfl
  ·by_cases h2:cy x=cy y
   ·rw[if_pos (gw.2 h2),decide_eq_false h1,h2];simp
   ·have h3:¬aO (cy x) (cy y)<0:=fun h=>h1 (uq.1 h);rw[if_neg (fun h=>h2 (gw.1 h)),decide_eq_false h1,decide_eq_false h3];simp[h2]
def g4(t:ct N):List (Tm (N+1)×Tm (N+1)):=t.rows.map (fun r=>(r.k,r.v))
structure fq(t:ct N):Prop where
 hh:∀r∈t.rows,r.h=cy r.k
 vd:∀r∈t.rows,aC r.k=true
 sd:jx (bM t.hs) (g4 t)
 nd:∀r∈t.rows,ap r.k≤100000000∧ap r.v≤100000000
theorem findIdx_eq{α:Type}{p q:α→Bool}:∀{l:List α},(∀x∈l,p x=q x)→l.findIdx p=l.findIdx q
 | [],_=>rfl
 | a::l,h=>by rw[List.findIdx_cons,List.findIdx_cons,h a List.mem_cons_self,findIdx_eq (l:=l) (fun x hx=>h x (List.mem_cons_of_mem _ hx))]
theorem nG{α β:Type}(f:α→β)(p:β→Bool):∀l:List α,(l.map f).findIdx p=l.findIdx (fun x=>p (f x))
 | []=>rfl
 | a::l=>by rw[List.map_cons,List.findIdx_cons,List.findIdx_cons,nG f p l]
variable {t:ct N}{k v:Tm (N+1)}
theorem fq.pos(h:fq t)(k:Tm (N+1)):cG t k=cK (bM t.hs) (g4 t) k:=by
 unfold cG tH cK g4;rw[nG];refine findIdx_eq fun x hx=>?_;rw[h.hh x hx,O3]
theorem fq.has(h:fq t)(k:Tm (N+1)):iz t k=gp (bM t.hs) (g4 t) k:=by
 unfold iz gp;rw[h.pos k];unfold g4;rw[List.getElem?_map];cases t.rows[cK (bM t.hs) (t.rows.map (fun r=>(r.k,r.v))) k]? <;> rfl
theorem fq.find(h:fq t)(hl:t.rows.length≤1000000)(k:Tm (N+1)):lp t k:=by
 refine⟨fun x hx=>by have:=(h.nd x hx).1;omega,hl,fun i j hj hij hp=>?_⟩;have hi:i<t.rows.length:=by omega
 have e1:=h.hh _ (List.getElem_mem hj);have e2:=h.hh _ (List.getElem_mem hi);dsimp only at hp ⊢;rw[e1,O3]at hp;rw[e2,O3];have hp:=of_decide_eq_true hp;have h3:=List.pairwise_iff_getElem.1 h.sd i j (by unfold g4;rw[List.length_map];exact hi) (by unfold g4;rw[List.length_map];exact hj) hij;unfold g4 at h3;rw[List.getElem_map,List.getElem_map]at h3;exact decide_eq_true ((wX t.hs).lt_trans h3 hp)
theorem fq.keys(h:fq t):∀x∈g4 t,Vd x.1:=fun x hx=>by
 obtain⟨r,hr,rfl⟩:=List.mem_map.1 hx;exact h.vd r hr
theorem fq.LP(h:fq t)(hh:iz t k=true):∃hp:cG t k<t.rows.length,(t.rows[cG t k]).k=k:=by
 unfold iz at hh
 by_cases hp:cG t k<t.rows.length
 ·rw[List.getElem?_eq_getElem hp]at hh;exact⟨hp,oH hh⟩
 ·rw[List.getElem?_eq_none (by omega)]at hh;cases hh
theorem Bo{l:List (j_ N)}{i:Nat}(hi:i≤l.length)(a:j_ N)(v:Tm (N+1))(u:Value):wW (wV l i a) i v u=l.take i++{ a with v:=v,uv:=u }::l.drop i:=by
 have hl:(l.take i).length=i:=by rw[List.length_take];omega
 have e:(wV l i a)[i]?=some a:=by
  unfold wV;rw[List.append_assoc,List.getElem?_append_right (by omega),hl,Nat.sub_self];rfl
 unfold wW;rw[e];unfold wV;dsimp only;rw[List.append_assoc,List.set_append_right _ _ (by omega),hl,Nat.sub_self];rfl
noncomputable def nH(t:ct N)(k v:Tm (N+1))(uk uv:Value):List (j_ N):=wW (dh t k uk) (cG t k) v uv
theorem nI(h:fq t){uk uv:Value}{r:j_ N}(hr:r∈nH t k v uk uv):(r.k=k∧r.v=v∧r.h=cy k)∨∃r0∈t.rows,r.k=r0.k∧r.h=r0.h∧r.v=r0.v:=by
 unfold nH dh at hr
 cases hh:iz t k
 ·rw[hh,if_neg (by decide),Bo (lT t k)]at hr
  rcases List.mem_append.1 hr with hr|hr
  ·exact .inr ⟨r,List.mem_of_mem_take hr,rfl,rfl,rfl⟩
  ·rcases List.mem_cons.1 hr with rfl|hr
   ·exact .inl ⟨rfl,rfl,rfl⟩
   ·exact .inr ⟨r,List.mem_of_mem_drop hr,rfl,rfl,rfl⟩
 ·rw[hh,if_pos rfl]at hr;obtain⟨hp,e⟩:=h.LP hh;rw[yY hp]at hr
  rcases List.mem_or_eq_of_mem_set hr with hr|rfl
  ·exact .inr ⟨r,hr,rfl,rfl,rfl⟩
  ·exact .inl ⟨e,rfl,(h.hh _ (List.getElem_mem hp)).trans (congrArg cy e)⟩
theorem rJ(h:fq t)(uk uv:Value):(nH t k v uk uv).map (fun r=>(r.k,r.v))=lH (bM t.hs) (g4 t) k v:=by
 unfold nH dh lH;rw[←h.has,←h.pos]
 cases hh:iz t k
 ·rw[if_neg (by decide),if_neg (by decide),Bo (lT t k)];unfold g4;rw[List.map_append,List.map_cons,List.map_take,List.map_drop];rfl
 ·rw[if_pos rfl,if_pos rfl];obtain⟨hp,e⟩:=h.LP hh;rw[yY hp,List.set_eq_take_append_cons_drop,if_pos hp];unfold g4;rw[List.map_append,List.map_cons,List.map_take,List.map_drop,e]
theorem fq.put(h:fq t)(hk:aC k=true)(nk:ap k≤100000000)(nv:ap v≤100000000){uk uv vr:Value}:fq { t with vr:=vr,rows:=nH t k v uk uv }:=by
 refine⟨fun r hr=>?_,fun r hr=>?_,?_,fun r hr=>?_⟩
 ·rcases nI h hr with⟨e,_,e2⟩|⟨r0,Ej,e1,e2,_⟩
  ·rw[e,e2]
  ·rw[e1,e2];exact h.hh r0 Ej
 ·rcases nI h hr with⟨e,_⟩|⟨r0,Ej,e1,_⟩
  ·rw[e];exact hk
  ·rw[e1];exact h.vd r0 Ej
 ·have e:g4 { t with vr:=vr,rows:=nH t k v uk uv }=lH (bM t.hs) (g4 t) k v:=rJ h uk uv;rw[e];exact x9 (wX t.hs) h.sd hk h.keys v
 ·rcases nI h hr with⟨e,e2,_⟩|⟨r0,Ej,e1,_,e2⟩
  ·rw[e,e2];exact⟨nk,nv⟩
  ·rw[e1,e2];exact h.nd r0 Ej
theorem fq.del(h:fq t)(hh:iz t k=true){vr:Value}:fq { t with vr:=vr,rows:=t.rows.take (cG t k)++t.rows.drop (cG t k+1) }∧g4 { t with vr:=vr,rows:=t.rows.take (cG t k)++t.rows.drop (cG t k+1) }=kG (bM t.hs) (g4 t) k:=by
 have hm:∀r∈t.rows.take (cG t k)++t.rows.drop (cG t k+1),r∈t.rows:=fun r hr=>by
  rcases List.mem_append.1 hr with hr|hr
  ·exact List.mem_of_mem_take hr
  ·exact List.mem_of_mem_drop hr
 have e:g4 { t with vr:=vr,rows:=t.rows.take (cG t k)++t.rows.drop (cG t k+1) }=kG (bM t.hs) (g4 t) k:=by
  unfold kG;rw[←h.has,hh,if_pos rfl,←h.pos];unfold g4;dsimp only;rw[List.map_append,List.map_take,List.map_drop]
 refine⟨⟨fun r hr=>h.hh r (hm r hr),fun r hr=>h.vd r (hm r hr),?_,fun r hr=>h.nd r (hm r hr)⟩,e⟩;rw[e];exact x_ h.sd
end
end tb
end Go.Proofs.YtfbggmbmgohiiaaGreat
