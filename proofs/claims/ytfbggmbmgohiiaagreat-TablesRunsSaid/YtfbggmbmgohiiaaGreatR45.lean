/- TnT,TnU,TnV,ToJ,OrE. No condition beyond theirs. -/
import Derived.Test.YtfbggmbmgohiiaaGreatR44
set_option linter.unusedSimpArgs false
set_option linter.unusedVariables false
set_option maxHeartbeats 1000000
set_option maxRecDepth 100000
namespace Go.Proofs.YtfbggmbmgohiiaaGreat
namespace tm
open Go.RowKit mem names
theorem Jt(w:World)(f:TF)(v:Value):gu (w.alloc (av f v)) w.heap.size f v∧Below w.heap.size w (w.alloc (av f v))∧(w.alloc (av f v)).heap.size=w.heap.size+1 :=
 ⟨aW (MapKept.heap_alloc w (av f v)).1,(Below.refl _ _).alloc (Nat.le_refl _) _,by simp⟩
theorem zD(W:World)(g:Nat)(cs:Array Value):ax (fun k=>k=g) W (W.setRow g cs):=⟨rfl,rfl,rfl,by simp,fun k _ hk=>setRow_other W g k cs hk⟩
variable {α:Type}{enc:α→TF×Value}{w0 wr w:World}{b n cap:Nat}{d:List α}{S:α→Prop}{c:α→α→Int}
def mR(c:α→α→Int)(d:List α):Nat→List α
 | 0=>[]
 | 1=>d.take 1
 | k+2=>mR c d (k+1)++(match d[k+1]?,d[k]? with|some x,some y=>if c x y=0 then[] else[x]|_,_=>[])
theorem DT{k:Nat}{x y:α}(h1:d[k+1]?=some x)(h2:d[k]?=some y)(h:c x y≠0):mR c d (k+2)=mR c d (k+1)++[x]:=by
 show mR c d (k+1)++_=_;rw[h1,h2];simp[h]
theorem DU{k:Nat}{x y:α}(h1:d[k+1]?=some x)(h2:d[k]?=some y)(h:c x y=0):mR c d (k+2)=mR c d (k+1):=by
 show mR c d (k+1)++_=_;rw[h1,h2];simp[h]
def qK(c:α→α→Int)(enc:α→TF×Value)(w0 wr:World)(b n cap:Nat)(d:List α)(k i:Nat):Prop :=
 ∃Q,bB enc w0 wr b n cap Q∧Q.take k=mR c d i∧Q.drop (i-1)=d.drop (i-1)∧(mR c d i).length=k
theorem qK.Lf{k i:Nat}(h:qK c enc w0 wr b n cap d k i)(hi:1≤i)(hin:i<d.length) :
 ∃x y,d[i]?=some x∧d[i-1]?=some y∧Cells wr b (i*9) (enc x).1 (enc x).2∧Cells wr b ((i-1)*9) (enc y).1 (enc y).2∧(∀o,wr.frozen? ⟨b,o,none⟩=false)∧b<wr.heap.size∧ax (fun k=>k=b) w0 wr:=by
 obtain⟨Q,h1,h2,h3,h4⟩:=h;have hg:∀j,i-1≤j→Q[j]?=d[j]?:=fun j hj=>by
  have:=congrArg (fun l=>l[j-(i-1)]?) h3;simp only[List.getElem?_drop]at this;rwa[show i-1+(j-(i-1))=j by omega]at this
 have e1:=List.getElem?_eq_getElem hin;have e2:=List.getElem?_eq_getElem (l:=d) (i:=i-1) (by omega);have q1:=(hg i (by omega)).trans e1;have q2:=(hg (i-1) (by omega)).trans e2;have cg:∀{j:Nat} {x:α},Q[j]?=some x→Cells wr b (j*9) (enc x).1 (enc x).2:=fun{j x} hj=>by
  obtain⟨a1,a2⟩:=List.getElem?_eq_some_iff.1 hj;have:=h1.cells j a1;rwa[a2]at this
 exact⟨_,_,e1,e2,cg q1,cg q2,fun o=>h1.frozen o,h1.lt,h1.aX⟩
theorem qK.below{k i:Nat}{w':World}(h:qK c enc w0 wr b n cap d k i)(hb:Below wr.heap.size wr w'):qK c enc w0 w' b n cap d k i:=by
 obtain⟨Q,h1,h2⟩:=h;exact⟨Q,h1.below hb h1.aX.size,h2⟩
theorem qK.skip{k i:Nat}{x y:α}(h:qK c enc w0 wr b n cap d k i)(hi:1≤i)(hx:d[i]?=some x)(hy:d[i-1]?=some y)(hc:c x y=0):qK c enc w0 wr b n cap d k (i+1):=by
 obtain⟨j,rfl⟩:∃j,i=j+1:=⟨i-1,by omega⟩;obtain⟨Q,h1,h2,h3,h4⟩:=h;have e:=DU (c:=c) hx hy hc;refine⟨Q,h1,by rw[e];exact h2,?_,by rw[e];exact h4⟩;have:=congrArg (List.drop 1) h3;simpa[List.drop_drop] using this
theorem qK.keep{k i:Nat}{x y:α}(h:qK c enc w0 wr b n cap d k i)(hi:1≤i)(hki:k<i)(hx:d[i]?=some x)(hy:d[i-1]?=some y)(hc:c x y≠0):qK c enc w0 (pW wr b (k*9) (enc x).1 (enc x).2) b n cap d (k+1) (i+1):=by
 obtain⟨j,rfl⟩:∃j,i=j+1:=⟨i-1,by omega⟩;obtain⟨Q,h1,h2,h3,h4⟩:=h;have hl:=congrArg List.length h3;simp at hl;have hjd:=(List.getElem?_eq_some_iff.1 hx).1;have e:=DT (c:=c) hx hy hc
 refine⟨Q.set k x,h1.set k (by omega) x,?_,?_,by rw[e];simp[h4]⟩
 ·rw[e,←h2,List.take_add_one,List.take_set_of_le (Nat.le_refl _),List.getElem?_set_self (by omega)];rfl
 ·rw[List.drop_set_of_lt (by omega)];have:=congrArg (List.drop 1) h3;simpa[List.drop_drop] using this
theorem qK.clear{k:Nat}(h:qK c enc w0 wr b n cap d k n)(hn:n=d.length)(hkn:k<n):∃cur,wr.heap[b]?=some (.cells cur 24 (0,0))∧k*9+(n-k)*9≤cur.size∧k≤cap∧n≤cap ∧
 (ax (fun k=>k=b) w0 (wr.setRow b (cur.toList.take (k*9)++cA (List.replicate (n-k) (aY,aK))++cur.toList.drop (k*9+(n-k)*9)).toArray)∧(wr.setRow b (cur.toList.take (k*9)++cA (List.replicate (n-k) (aY,aK))++cur.toList.drop (k*9+(n-k)*9)).toArray).ownsRow 0 24 9 (.slice (some ⟨b,0,none⟩) n cap) n (cA ((mR c d n).map enc++List.replicate (n-k) (aY,aK)))):=by
 obtain⟨Q,h1,h2,h3,h4⟩:=h;have hQ:=h1.len
 rcases h1.own.2 with⟨h',_⟩|⟨g',cap',cur,h',mC,hg,dF,hm,hs,ht⟩
 ·simp at h'
 ·simp only[Value.slice.injEq,Option.some.injEq,Addr.mk.injEq,and_true,true_and]at h';obtain⟨rfl,rfl⟩:=h'
  refine⟨cur,hg,by omega,by omega,dF,(h1.aX.trans (zD _ _ _) (fun _ _ e=>e)),?_,?_⟩
  ·rw[iI];simp;omega
  ·have hlt:b<wr.heap.size:=h1.lt
   refine .inr ⟨b,cap,_,rfl,Nat.zero_le _,setRow_heap wr b cur _ 24 (0,0) hg,dF,hm,?_,?_⟩
   ·have hl:=iI (List.replicate (n-k) (aY,aK));simp only[List.length_replicate]at hl;simp[hl,hs];omega
   ·have ek:(cA (Q.map enc)).take (k*9)=cA ((mR c d n).map enc):=by
     rw[←h2,List.map_take];have:cA (Q.map enc)=cA ((Q.map enc).take k)++cA ((Q.map enc).drop k):=by rw[←gI,List.take_append_drop]
     rw[this,List.take_append_of_le_length (by rw[iI];simp;omega),List.take_of_length_le (by rw[iI];simp;omega)]
    have et:cur.toList.take (k*9)=cA ((mR c d n).map enc):=by
     rw[←ek,←ht,List.take_take,Nat.min_eq_left (by omega)]
    rw[et,gI];have hl:=iI (List.replicate (n-k) (aY,aK));have jC:=iI ((mR c d n).map enc);simp only[List.length_replicate,List.length_map]at hl jC;rw[List.take_append_of_le_length (by simp[hl,jC,h4];omega),List.take_of_length_le (by simp[hl,jC,h4];omega)]
theorem qK.frozen{k i:Nat}(h:qK c enc w0 wr b n cap d k i)(o:Nat):wr.frozen? ⟨b,o,none⟩=false:=by
 obtain⟨Q,h1,_⟩:=h;exact h1.frozen o
end tm
namespace tm
theorem P8{n:Nat}:∀a b d:Tm (n+1),qG cM a b=true→qG cM b d=true→qG cM a d=true:=fun a b d x y=>by
 unfold qG at*;rw[decide_eq_true_eq]at*;exact(LO (n:=n)).trans a b d trivial trivial trivial x y
theorem P9{n:Nat}:∀a b:Tm (n+1),(qG cM a b||qG cM b a)=true:=fun a b=>by
 unfold qG;have:=(LO (n:=n)).anti a b;rw[Bool.or_eq_true,decide_eq_true_eq,decide_eq_true_eq];omega
theorem Ju{n:Nat}(l:List (Tm (n+1))):(j6 l).Pairwise (fun a b=>qG cM a b=true):=List.pairwise_mergeSort P8 P9 l
theorem vZ{n:Nat}(l:List (Tm (n+1))):(j6 l).Perm l:=List.mergeSort_perm _ _
end tm
end Go.Proofs.YtfbggmbmgohiiaaGreat
