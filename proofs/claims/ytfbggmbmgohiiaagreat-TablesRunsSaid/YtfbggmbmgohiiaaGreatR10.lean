/- OrB,OrC,TbA. No condition beyond theirs. -/
import Derived.Test.YtfbggmbmgohiiaaGreatR09
import Derived.Lib.UnsafeStr
set_option linter.unusedSimpArgs false
set_option linter.unusedVariables false
namespace Go.Proofs.YtfbggmbmgohiiaaGreat
namespace tm
theorem getD_in{α:Type}{l:List α}{i:Nat}{d:α}(h:i<l.length):l.getD i d=l[i]:=by rw[List.getD_eq_getElem?_getD,List.getElem?_eq_getElem h];rfl
def lF(x y:Nat→Int):Nat→Int
 | 0=>0
 | n+1=>if lF x y n=0 then aO (x n) (y n) else lF x y n
theorem uV(x y:Nat→Int):∀n,lF x y (n+1)=if aO (x 0) (y 0)=0 then lF (fun i=>x (i+1)) (fun i=>y (i+1)) n else aO (x 0) (y 0)
 | 0=>by
  show(if(0:Int)=0 then aO (x 0) (y 0) else 0)=_;rw[if_pos rfl]
  split
  next e=>rw[e];rfl
  next=>rfl
 | n+1=>by
  rw[lF,uV x y n]
  split
  next e =>
   show(if _=0 then _ else _)=lF _ _ (n+1);rw[lF]
  next e=>first|rfl|rw[if_neg e]
theorem Aw:∀(x y:Nat→Int) (p q:Nat),ja aO ((List.range p).map x) ((List.range q).map y)=if lF x y (min p q)=0 then aO p q else lF x y (min p q)
 | x,y,0,0=>rfl
 | x,y,0,q+1=>by
  rw[Nat.zero_min,List.range_succ_eq_map];show(-1:Int)=if(0:Int)=0 then _ else _
  rw[if_pos rfl];unfold aO;rw[if_pos (by omega)]
 | x,y,p+1,0=>by
  rw[Nat.min_zero,List.range_succ_eq_map];show(1:Int)=if(0:Int)=0 then _ else _
  rw[if_pos rfl];unfold aO;rw[if_neg (by omega),if_pos (by omega)]
 | x,y,p+1,q+1=>by
  have ih:=Aw (fun i=>x (i+1)) (fun i=>y (i+1)) p q;rw[show min (p+1) (q+1)=min p q+1 by omega,uV,List.range_succ_eq_map,List.range_succ_eq_map,List.map_cons,List.map_cons,ja,List.map_map,List.map_map];have ec:aO ((p+1:Nat):Int) ((q+1:Nat):Int)=aO (p:Int) (q:Int):=by unfold aO;congr 1 <;> (first|(simp;done)|(congr 1;simp))
  rw[ec]
  split
  next e=>exact ih
  next e=>first|rfl|rw[if_neg e]
theorem Em(a b:UInt8):∀l m:List UInt8,l.length=m.length→Lib.compareBytes (l++[a]) (m++[b])=if Lib.compareBytes l m=0 then qU a b else Lib.compareBytes l m
 | [],[],_=>by
  rw[mZ,mZ];show(if qU a b=0 then(0:Int) else qU a b)=if(0:Int)=0 then _ else _
  rw[if_pos rfl];split
  next e=>exact e.symm
  next=>rfl
 | x::l,y::m,h=>by
  have ih:=Em a b l m (by simpa using h);rw[mZ,mZ]at ih ⊢;rw[List.cons_append,List.cons_append,ja,ja]
  split
  next e=>exact ih
  next e=>first|rfl|rw[if_neg e]
def eH(s:List UInt8)(i:Nat):Nat:=(s.getD i 0).toNat
def eM(s:List UInt8)(i:Nat):Int:=((eH s (i/8)/2^(7-i%8)%2:Nat):Int)
theorem Hf(x y r:Nat)(hr:r<8):(if aO ((x/2^(8-r):Nat):Int) ((y/2^(8-r):Nat):Int)=0 then aO ((x/2^(7-r)%2:Nat):Int) ((y/2^(7-r)%2:Nat):Int) else aO ((x/2^(8-r):Nat):Int) ((y/2^(8-r):Nat):Int))=aO ((x/2^(8-(r+1)):Nat):Int) ((y/2^(8-(r+1)):Nat):Int):=by
 rw[show 8-(r+1)=7-r by omega,show 8-r=(7-r)+1 by omega,Nat.pow_succ,←Nat.div_div_eq_div_mul,←Nat.div_div_eq_div_mul];generalize x/2^(7-r)=u;generalize y/2^(7-r)=v
 by_cases h1:u/2<v/2
 ·have e1:aO ((u/2:Nat):Int) ((v/2:Nat):Int)=-1:=by unfold aO;rw[if_pos (by omega)]
  have e2:aO (u:Int) v=-1:=by unfold aO;rw[if_pos (by omega)]
  rw[e1,e2];rfl
 ·by_cases h2:v/2<u/2
  ·have e1:aO ((u/2:Nat):Int) ((v/2:Nat):Int)=1:=by unfold aO;rw[if_neg (by omega),if_pos (by omega)]
   have e2:aO (u:Int) v=1:=by unfold aO;rw[if_neg (by omega),if_pos (by omega)]
   rw[e1,e2];rfl
  ·rw[if_pos (gw.2 (by omega))];unfold aO
   by_cases h3:u<v
   ·rw[if_pos (by omega),if_pos (by omega)]
   ·by_cases h4:v<u
    ·rw[if_neg (by omega),if_pos (by omega),if_neg (by omega),if_pos (by omega)]
    ·rw[if_neg (by omega),if_neg (by omega),if_neg (by omega),if_neg (by omega)]
def kX(a b:List UInt8)(q r:Nat):Int :=
 if Lib.compareBytes (a.take q) (b.take q)=0 then aO ((eH a q/2^(8-r):Nat):Int) ((eH b q/2^(8-r):Nat):Int) else Lib.compareBytes (a.take q) (b.take q)
theorem xq(a:List UInt8)(q:Nat):eH a q<256:=UInt8.toNat_lt _
theorem En(a b:List UInt8)(q:Nat):kX a b q 0=Lib.compareBytes (a.take q) (b.take q):=by
 unfold kX;have h1:eH a q/2^(8-0)=0:=Nat.div_eq_of_lt (xq a q);have h2:eH b q/2^(8-0)=0:=Nat.div_eq_of_lt (xq b q);rw[h1,h2]
 split
 next e=>rw[e];rfl
 next=>rfl
theorem KQ(a b:List UInt8)(q:Nat)(ha:q<a.length)(hb:q<b.length):kX a b q 8=kX a b (q+1) 0:=by
 rw[En,List.take_succ_eq_append_getElem ha,List.take_succ_eq_append_getElem hb,Em _ _ _ _ (by simp;omega)];unfold kX qU eH;rw[getD_in ha,getD_in hb];simp
theorem CV{n:Nat}(a b:List UInt8)(ha:∀q,q<n/8→q<a.length)(hb:∀q,q<n/8→q<b.length):lF (eM a) (eM b) n=kX a b (n/8) (n%8):=by
 induction n with
 | zero=>rw[En];rfl
 | succ n ih =>
  have ih:=ih (fun q hq=>ha q (by omega)) (fun q hq=>hb q (by omega));rw[lF,ih];have hs:(if kX a b (n/8) (n%8)=0 then aO (eM a n) (eM b n) else kX a b (n/8) (n%8))=kX a b (n/8) (n%8+1):=by
   have xw:=Hf (eH a (n/8)) (eH b (n/8)) (n%8) (by omega);unfold kX eM
   by_cases e:Lib.compareBytes (a.take (n/8)) (b.take (n/8))=0
   ·rw[if_pos e,if_pos e];exact xw
   ·rw[if_neg e,if_neg e,if_neg e]
  rw[hs]
  by_cases e:n%8=7
  ·rw[show(n+1)/8=n/8+1 by omega,show(n+1)%8=0 by omega,show n%8+1=8 by omega];exact KQ a b _ (ha _ (by omega)) (hb _ (by omega))
  ·rw[show(n+1)/8=n/8 by omega,show(n+1)%8=n%8+1 by omega]
def NE(f:TF):List Int:=(List.range f.bits.toNat).map (eM f.bytes.data.toList)
structure ij(f:TF):Prop where
 lo:0≤f.bits
 hi:f.bits≤16384
 size:(f.bytes.size:Int)=(f.bits+7)/8
 last:f.bits%8=0∨fI f.bytes%2^(8-(f.bits%8).toNat)=0
theorem xx(f1 f2:TF)(h1:ij f1)(h2:ij f2):eL f1 f2=if lF (eM f1.bytes.data.toList) (eM f2.bytes.data.toList) (min f1.bits f2.bits).toNat=0 then aO f1.bits f2.bits else lF (eM f1.bytes.data.toList) (eM f2.bytes.data.toList) (min f1.bits f2.bits).toNat:=by
 obtain⟨a1,_,a2,_⟩:=h1;obtain⟨b1,_,b2,_⟩:=h2;have s1:f1.bytes.data.toList.length=f1.bytes.size:=by simp
 have s2:f2.bytes.data.toList.length=f2.bytes.size:=by simp
 rw[CV _ _ (fun q hq=>by omega) (fun q hq=>by omega)];unfold eL kX eH;dsimp only;generalize(min f1.bits f2.bits).toNat=n
 by_cases e:Lib.compareBytes (f1.bytes.data.toList.take (n/8)) (f2.bytes.data.toList.take (n/8))=0
 ·simp only[e,if_true]
  by_cases e0:n%8=0
  ·rw[if_pos e0,e0];have h1:((f1.bytes.data.toList).getD (n/8) 0).toNat/2^(8-0)=0:=Nat.div_eq_of_lt (UInt8.toNat_lt _);have h2:((f2.bytes.data.toList).getD (n/8) 0).toNat/2^(8-0)=0:=Nat.div_eq_of_lt (UInt8.toNat_lt _);rw[h1,h2];rfl
  ·rw[if_neg e0]
 ·simp only[e,if_false]
theorem uW(f1 f2:TF)(h1:ij f1)(h2:ij f2):eL f1 f2=ja aO (NE f1) (NE f2):=by
 rw[xx f1 f2 h1 h2];unfold NE;rw[Aw];obtain⟨a1,_,a2,_⟩:=h1;obtain⟨b1,_,b2,_⟩:=h2;rw[show(min f1.bits f2.bits).toNat=min f1.bits.toNat f2.bits.toNat by omega,Int.toNat_of_nonneg a1,Int.toNat_of_nonneg b1]
theorem CW(f1 f2:TF):eL f1 f2=-1∨eL f1 f2=0∨eL f1 f2=1:=by
 unfold eL;dsimp only
 split
 ·split
  ·exact ic _ _
  ·split
   ·exact ic _ _
   ·exact ic _ _
 ·exact uP _ _
theorem FF(f1 f2:TF):eL f2 f1=- eL f1 f2:=by
 unfold eL;dsimp only;rw[show min f2.bits f1.bits=min f1.bits f2.bits by omega];generalize(min f1.bits f2.bits).toNat=n;have e1:Lib.compareBytes (f2.bytes.data.toList.take (n/8)) (f1.bytes.data.toList.take (n/8))=- Lib.compareBytes (f1.bytes.data.toList.take (n/8)) (f2.bytes.data.toList.take (n/8)):=by
  rw[mZ,mZ];exact sj Yp.anti _ _
 have e2:=kK f1.bits f2.bits;have e3:=kK (((f1.bytes.data.toList.getD (n/8) 0).toNat/2^(8-n%8):Nat):Int) (((f2.bytes.data.toList.getD (n/8) 0).toNat/2^(8-n%8):Nat):Int);generalize aO (((f1.bytes.data.toList.getD (n/8) 0).toNat/2^(8-n%8):Nat):Int) (((f2.bytes.data.toList.getD (n/8) 0).toNat/2^(8-n%8):Nat):Int)=z at*;rw[e1,e2,e3]
 split <;> split <;> (try split) <;> (try split) <;> omega
theorem NF:TP ij eL:=by
 refine⟨CW,FF,fun a b d ha hb hd x y=>?_⟩;rw[uW a b ha hb]at x;rw[uW b d hb hd]at y;rw[uW a d ha hd];exact NB.lex.trans _ _ _ (fun _ _=>trivial) (fun _ _=>trivial) (fun _ _=>trivial) x y
theorem xy(f:TF)(h:ij f)(h0:f.bits%8≠0):fI f.bytes=eH f.bytes.data.toList (f.bits.toNat/8):=by
 have s1:f.bytes.data.toList.length=f.bytes.size:=by simp
 have:=h.size;have:=h.lo;unfold fI eH;have hl:f.bits.toNat/8=f.bytes.data.toList.length-1:=by omega
 rw[hl,List.getLastD_eq_getLast?,List.getLast?_eq_getElem?,←List.getD_eq_getElem?_getD]
theorem bits_eq(f1 f2:TF)(h1:ij f1)(h2:ij f2)(h:eL f1 f2=0):f1.bits=f2.bits∧f1.bytes=f2.bytes:=by
 have l1:=xy f1 h1;have l2:=xy f2 h2;obtain⟨a1,a0,a2,a3⟩:=h1;obtain⟨b1,b0,b2,b3⟩:=h2;have s1:f1.bytes.data.toList.length=f1.bytes.size:=by simp
 have s2:f2.bytes.data.toList.length=f2.bytes.size:=by simp
 unfold eL at h;dsimp only at h
 split at h
 next e =>
  have et:=G6 e;have eb:f1.bits=f2.bits:=by
   split at h
   ·exact gw.1 h
   ·split at h
    ·exact gw.1 h
    ·contradiction
  refine⟨eb,?_⟩;rw[show min f1.bits f2.bits=f1.bits by omega]at et h;rw[←eb]at b2 b3 l2
  split at h
  next e0 =>
   rw[List.take_of_length_le (by omega),List.take_of_length_le (by omega)]at et;exact ByteArray.ext (Array.ext' et)
  next e0 =>
   have hp:(f1.bits%8).toNat=f1.bits.toNat%8:=by omega
   have hx:=a3.resolve_left (by omega);have hy:=b3.resolve_left (by omega);rw[l1 (by omega),hp]at hx;rw[l2 (by omega),hp]at hy
   split at h
   next e2 =>
    have e3:=gw.1 e2;have hbyte:eH f1.bytes.data.toList (f1.bits.toNat/8)=eH f2.bytes.data.toList (f1.bits.toNat/8):=by
     have x1:=Nat.div_add_mod (eH f1.bytes.data.toList (f1.bits.toNat/8)) (2^(8-f1.bits.toNat%8));have x2:=Nat.div_add_mod (eH f2.bytes.data.toList (f1.bits.toNat/8)) (2^(8-f1.bits.toNat%8));rw[hx]at x1;rw[hy]at x2;have e4:eH f1.bytes.data.toList (f1.bits.toNat/8)/2^(8-f1.bits.toNat%8)=eH f2.bytes.data.toList (f1.bits.toNat/8)/2^(8-f1.bits.toNat%8):=by unfold eH;exact Int.ofNat_inj.1 e3
     rw[←x1,←x2,e4]
    have q1:f1.bits.toNat/8<f1.bytes.data.toList.length:=by omega
    have q2:f1.bits.toNat/8<f2.bytes.data.toList.length:=by omega
    have a_:f1.bytes.data.toList[f1.bits.toNat/8]=f2.bytes.data.toList[f1.bits.toNat/8]:=by
     unfold eH at hbyte;rw[getD_in q1,getD_in q2]at hbyte;exact UInt8.toNat_inj.1 hbyte
    have t1:f1.bytes.data.toList.take (f1.bits.toNat/8+1)=f1.bytes.data.toList:=List.take_of_length_le (by omega);have t2:f2.bytes.data.toList.take (f1.bits.toNat/8+1)=f2.bytes.data.toList:=List.take_of_length_le (by omega);rw[List.take_succ_eq_append_getElem q1]at t1;rw[List.take_succ_eq_append_getElem q2]at t2;refine ByteArray.ext (Array.ext' ?_);rw[←t1,←t2,et,a_]
   next e2=>exact absurd h e2
 next e=>exact absurd h e
end tm
namespace tm
open names
theorem oH{α:Type}{a b:α}(h:dL a b=true):a=b:=@of_decide_eq_true _ (Classical.propDecidable _) h
def FT:(n:Nat)→Tm n→Prop
 | 0,_=>True
 | n+1,t=>aJ t=true
theorem mr{n:Nat}{t:Tm (n+1)}(h:aJ t=true):∀x∈t.items,FT n x:=by
 intro x hx;cases n with
 | zero=>trivial
 | succ n =>
  unfold aJ at h;simp only[Bool.and_eq_true]at h;have h2:=h.2;unfold bp at h2;rw[List.all_eq_true]at h2;have:=h2 x hx;show aJ x=true;unfold aJ;exact this
theorem p8{n:Nat}{t:Tm (n+1)}(h:aJ t=true):gq t.f.kind 0 10=true∧okF t.f t.items.length (oG n t.items)=true∧({ bG t.f with kind:=0 }:TF)=aY∧(if t.f.kind=4∨t.f.kind=7∨t.f.kind=9 then 0 else t.items.length)=0:=by
 unfold aJ G_ m9 at h;simp only[Bool.and_eq_true]at h;obtain⟨⟨h1,h2,h3,h4⟩,_⟩:=h;exact⟨h1,h2,oH h3,of_decide_eq_true h4⟩
theorem ng{n:Nat}{t:Tm (n+1)}(h:aJ t=true)(hk:t.f.kind=10):ij t.f:=by
 obtain⟨_,h2,_,_⟩:=p8 h;unfold okF at h2;rw[if_neg (by omega),if_neg (by omega),if_neg (by omega),if_neg (by omega),if_neg (by omega),if_neg (by omega),if_neg (by omega),if_pos hk]at h2;unfold kU gq at h2;simp only[Bool.and_eq_true,decide_eq_true_eq]at h2;exact⟨h2.1.1.1,h2.1.1.2,h2.1.2,h2.2⟩
theorem KR{n:Nat}(l:List (Tm n))(a:Tm n):oG n (a::l)=th n ((a::l).getLast (by simp)):=by
 cases n with
 | zero=>exact(nomatch (show Empty from a))
 | succ n =>
  show(((a::l).getLast?).map (fun t:Tm (n+1)=>t.f.kind)).getD 0=_;rw[List.getLast?_eq_some_getLast (List.cons_ne_nil a l)];rfl
theorem Eo{α:Type}{S:α→Prop}{kd:α→Int}:∀(l:List α) (a:α),(∀x∈a::l,S x)→kd ((a::l).getLast (by simp))≠9→lM S kd a l
 | [],a,h,hk=>⟨h a (by simp),hk⟩
 | b::l,a,h,hk=>⟨h a (by simp),Eo l b (fun x hx=>h x (by simp[hx])) (by rw[List.getLast_cons (by simp)]at hk;exact hk)⟩
theorem jb{n:Nat}{t:Tm (n+1)}(h:aJ t=true)(hk:t.f.kind=9):2≤t.items.length∧oD (FT n) (th n) t.items:=by
 obtain⟨_,h2,_,_⟩:=p8 h;have h3:=mr h;unfold okF at h2;rw[if_neg (by omega),if_neg (by omega),if_neg (by omega),if_neg (by omega),if_neg (by omega),if_neg (by omega),if_pos hk]at h2;simp only[Bool.and_eq_true,decide_eq_true_eq]at h2;refine⟨h2.1,?_⟩;generalize t.items=l at*;cases l with
 | nil=>simp at h2
 | cons a l=>exact Eo l a h3 (by rw[←KR];exact h2.2)
theorem xA(f1 f2:TF):jP f1 f2=eD (fun f1 f2:TF=>dx f1.name f2.name) (eD (fun f1 f2:TF=>dx f1.func f2.func) (eD (fun f1 f2:TF=>aO f1.gen f2.gen) (eD (fun f1 f2:TF=>aO f1.int f2.int) (fun f1 f2:TF=>aO f1.arity f2.arity)))) f1 f2:=by
 unfold jP eD cn cn cn cn cn cn;dsimp only
 repeat (split <;> try rfl)
 all_goals (rename_i h;exact h.symm)
theorem NG:TP (fun _=>True) jP:=by
 have e:jP=eD (fun f1 f2:TF=>dx f1.name f2.name) (eD (fun f1 f2:TF=>dx f1.func f2.func) (eD (fun f1 f2:TF=>aO f1.gen f2.gen) (eD (fun f1 f2:TF=>aO f1.int f2.int) (fun f1 f2:TF=>aO f1.arity f2.arity)))):=by funext f1 f2;exact xA f1 f2
 rw[e];exact TP.then (U6.lK (fun f:TF=>f.name)) (TP.then (U6.lK (fun f:TF=>f.func)) (TP.then (NB.lK (fun f:TF=>f.gen)) (TP.then (NB.lK (fun f:TF=>f.int)) (NB.lK (fun f:TF=>f.arity)))))
theorem head_eq{f1 f2:TF}(h:jP f1 f2=0):f1.name=f2.name∧f1.func=f2.func∧f1.gen=f2.gen∧f1.int=f2.int∧f1.arity=f2.arity:=by
 rw[xA]at h;unfold eD at h
 split at h
 next e1 =>
  split at h
  next e2 =>
   split at h
   next e3 =>
    split at h
    next e4=>exact⟨Ei e1,Ei e2,gw.1 e3,gw.1 e4,gw.1 h⟩
    next e=>exact absurd h e
   next e=>exact absurd h e
  next e=>exact absurd h e
 next e=>exact absurd h e
def mA{n:Nat}(k:Int)(a b:Tm (n+1)):Int :=
 if k=7 then eG (bU n) a.items b.items else if k=9 then fC (th n) (bU n) a.items b.items else if k=10 then eL a.f b.f else eD (fun a b:Tm (n+1)=>jP a.f b.f) (fun a b=>eG (bU n) a.items b.items) a b
theorem jc{n:Nat}(a b:Tm (n+1)):bU (n+1) a b=if a.f.kind=b.f.kind then mA a.f.kind a b else aO a.f.kind b.f.kind:=rfl
structure NH(n:Nat):Prop where
 tp:TP (FT n) (bU n)
 kd:∀a b,th n a≠th n b→bU n a b=aO (th n a) (th n b)
 eq:∀a b,FT n a→FT n b→bU n a b=0→a=b
theorem Ep{f1 f2:TF}(hk:f1.kind=f2.kind)(z1:({ bG f1 with kind:=0 }:TF)=aY)(z2:({ bG f2 with kind:=0 }:TF)=aY)
 (hh:f1.kind≠7→f1.kind≠9→f1.kind≠10→f1.name=f2.name∧f1.func=f2.func∧f1.gen=f2.gen∧f1.int=f2.int∧f1.arity=f2.arity)(hb:f1.kind=10→f1.bits=f2.bits∧f1.bytes=f2.bytes):f1=f2:=by
 obtain⟨k1,i1,g1,n1,dr,a1,b1,s1⟩:=f1;obtain⟨k2,i2,g2,n2,cU,a2,b2,s2⟩:=f2;dsimp only at hk hh hb;subst hk;unfold bG aY at z1 z2;dsimp only at z1 z2
 by_cases lC:k1=10
 ·subst lC;obtain⟨rfl,rfl⟩:=hb rfl;simp at z1 z2;simp[z1,z2]
 ·by_cases h:k1=7∨k1=9
  ·have n1:¬k1=1:=by omega
   have n2:¬k1=2:=by omega
   have n3:¬(k1=3∨k1=6):=by omega
   have n4:¬k1=4:=by omega
   have n5:¬k1=5:=by omega
   rw[if_neg n1,if_neg n2,if_neg n3,if_neg n4,if_neg n5,if_neg lC]at z1 z2;simp at z1 z2;simp[z1,z2]
  ·obtain⟨rfl,rfl,rfl,rfl,rfl⟩:=hh (by omega) (by omega) lC;have eb:b1=⟨#[]⟩∧s1=0:=by
    clear z2
    repeat' split at z1
    all_goals (simp at z1;simp[z1])
   have eb2:b2=⟨#[]⟩∧s2=0:=by
    clear z1
    repeat' split at z2
    all_goals (simp at z2;simp[z2])
   simp[eb,eb2]
theorem yI{n:Nat}(ih:NH n)(k:Int):TP (fun t:Tm (n+1)=>aJ t=true∧t.f.kind=k) (mA k):=by
 have hI:TP (fun t:Tm (n+1)=>aJ t=true∧t.f.kind=k) (fun a b:Tm (n+1)=>eG (bU n) a.items b.items):=(ih.tp.items.lK (fun t:Tm (n+1)=>t.items)).mono (fun t h=>mr h.1)
 by_cases h7:k=7
 ·have e:mA k=(fun a b:Tm (n+1)=>eG (bU n) a.items b.items):=by funext a b;unfold mA;rw[if_pos h7]
  rw[e];exact hI
 by_cases h9:k=9
 ·have e:mA k=(fun a b:Tm (n+1)=>fC (th n) (bU n) a.items b.items):=by funext a b;unfold mA;rw[if_neg h7,if_pos h9]
  rw[e];refine((ih.tp.lists ih.kd).lK (fun t:Tm (n+1)=>t.items)).mono (fun t h=>?_);obtain⟨h1,h2⟩:=jb h.1 (by omega);exact⟨fun e=>by rw[e]at h1;simp at h1,h2⟩
 by_cases lC:k=10
 ·have e:mA k=(fun a b:Tm (n+1)=>eL a.f b.f):=by funext a b;unfold mA;rw[if_neg h7,if_neg h9,if_pos lC]
  rw[e];exact(NF.lK (fun t:Tm (n+1)=>t.f)).mono (fun t h=>ng h.1 (by omega))
 ·have e:mA k=eD (fun a b:Tm (n+1)=>jP a.f b.f) (fun a b=>eG (bU n) a.items b.items):=by funext a b;unfold mA;rw[if_neg h7,if_neg h9,if_neg lC]
  rw[e];exact TP.then ((NG.lK (fun t:Tm (n+1)=>t.f)).mono (fun _ _=>trivial)) hI
theorem body_eq{n:Nat}(ih:NH n)(a b:Tm (n+1))(ha:aJ a=true)(hb:aJ b=true)(hk:a.f.kind=b.f.kind)(h:mA a.f.kind a b=0):a=b:=by
 obtain⟨a1,a2,a3,a4⟩:=p8 ha;obtain⟨b1,b2,b3,b4⟩:=p8 hb;have hI:eG (bU n) a.items b.items=0→a.items=b.items:=fun h=>items_eq _ _ (fun x hx y hy=>ih.eq x y (mr ha x hx) (mr hb y hy)) h;unfold mA at h
 by_cases h7:a.f.kind=7
 ·rw[if_pos h7]at h;exact Tm.ext (Ep hk a3 b3 (fun x=>absurd h7 x) (fun x=>by omega)) (hI h)
 rw[if_neg h7]at h
 by_cases h9:a.f.kind=9
 ·rw[if_pos h9]at h;have l1:=jb ha h9;have l2:=jb hb (by omega);refine Tm.ext (Ep hk a3 b3 (fun _ x=>absurd h9 x) (fun x=>by omega)) ?_;clear hI a1 a2 a3 a4 b1 b2 b3 b4;generalize a.items=l,b.items=m at*;cases l with
  | nil=>simp at l1
  | cons x l=>cases m with
   | nil=>simp at l2
   | cons y m =>
    obtain⟨e1,e2⟩:=cells_eq (S:=FT n) ih.eq l x m y l1.2 l2.2 h;rw[e1,e2]
 rw[if_neg h9]at h
 by_cases lC:a.f.kind=10
 ·rw[if_pos lC]at h;rw[if_neg (by omega)]at a4 b4;refine Tm.ext (Ep hk a3 b3 (fun _ _ x=>absurd lC x) (fun _=>bits_eq _ _ (ng ha lC) (ng hb (by omega)) h)) ?_;rw[List.length_eq_zero_iff.1 a4,List.length_eq_zero_iff.1 b4]
 rw[if_neg lC]at h;unfold eD at h
 split at h
 next e=>exact Tm.ext (Ep hk a3 b3 (fun _ _ _=>head_eq e) (fun x=>absurd x lC)) (hI h)
 next e=>exact absurd h e
theorem NI:∀n,NH n
 | 0=>⟨⟨fun a=>(nomatch (show Empty from a)),fun a=>(nomatch (show Empty from a)),fun a=>(nomatch (show Empty from a))⟩,fun a=>(nomatch (show Empty from a)),fun a=>(nomatch (show Empty from a))⟩
 | n+1=>by
  have ih:=NI n
  refine⟨⟨fun a b=>?_,fun a b=>?_,fun a b d ha hb hd x y=>?_⟩,fun a b h=>?_,fun a b ha hb h=>?_⟩
  ·rw[jc];split
   ·exact(yI ih _).range a b
   ·exact ic _ _
  ·rw[jc,jc]
   by_cases e:a.f.kind=b.f.kind
   ·rw[if_pos e,if_pos e.symm,←e];exact(yI ih _).anti a b
   ·rw[if_neg e,if_neg (Ne.symm e)];exact kK _ _
  ·have k1:a.f.kind≤b.f.kind:=by
    rw[jc]at x
    split at x
    ·omega
    ·exact jJ.1 x
   have k2:b.f.kind≤d.f.kind:=by
    rw[jc]at y
    split at y
    ·omega
    ·exact jJ.1 y
   rw[jc]at x y ⊢
   by_cases e:a.f.kind=d.f.kind
   ·have e1:a.f.kind=b.f.kind:=by omega
    have e2:b.f.kind=d.f.kind:=by omega
    rw[if_pos e1]at x;rw[if_pos e2,←e1]at y;rw[if_pos e];exact(yI ih a.f.kind).trans a b d ⟨ha,rfl⟩ ⟨hb,e1.symm⟩ ⟨hd,e.symm⟩ x y
   ·rw[if_neg e];exact jJ.2 (by omega)
  ·rw[jc,if_neg (show ¬a.f.kind=b.f.kind from h)];rfl
  ·rw[jc]at h
   split at h
   next e=>exact body_eq ih a b ha hb e h
   next e=>exact absurd (gw.1 h) e
end tm
namespace tb
open Go.RowKit mem tm names
def byteOf(x:Int):UInt8:=UInt8.ofNat (x%256).toNat
theorem bF(x:Int):((byteOf x).toNat:Int)=x%256:=by
 unfold byteOf;have h:(x%256).toNat<256:=by omega
 rw[UInt8.toNat_ofNat_of_lt' (by exact h)];omega
theorem ML(x:Int):IntKind.u8.wrap x=((byteOf x).toNat:Int):=by
 rw[bF];unfold IntKind.wrap;have h1:IntKind.u8.signed=false:=rfl;have h2:((2:Int)^IntKind.u8.bits)=256:=rfl;simp only[h1,h2];simp
def bO(n:Int)(k:Nat):List UInt8:=(List.range k).map (fun i=>byteOf (n/256^(k-1-i)))
theorem dm(n:Int)(k:Nat):(bO n k).length=k:=by simp[bO]
def kx(s:ByteArray):List UInt8:=s.data.toList
theorem jd(s:ByteArray):(kx s).length=s.size:=by simp[kx]
def cj(s:ByteArray):List UInt8:=119::byteOf s.size::kx s
theorem kM(s:ByteArray):(cj s).length=s.size+2:=by simp[cj,jd]
theorem Qn:(∀(α:Type) (a b:List α),(a++b).length=a.length+b.length)∧(∀s:ByteArray,(cj s).length=s.size+2)∧(∀(n:Int) (k:Nat),(bO n k).length=k)∧(∀s:ByteArray,(kx s).length=s.size)∧(∀(α:Type) (a:α) (l:List α),(a::l).length=l.length+1)∧(∀α:Type,([]:List α).length=0):=⟨fun _ _ _=>List.length_append,kM,dm,jd,fun _ _ _=>rfl,fun _=>rfl⟩
def dy(u:Nat):List UInt8:=if h:u=0 then[] else byteOf u::dy (u/256)
termination_by u
decreasing_by omega
theorem sB:dy 0=[]:=by rw[dy];simp
theorem uX{u:Nat}(h:u≠0):dy u=byteOf u::dy (u/256):=by rw[dy];simp[h]
theorem uY:∀(k u:Nat),u<256^k→(dy u).length≤k:=by
 intro k
 induction k with
 | zero =>
  intro u h;obtain rfl:u=0:=by simpa using h
  rw[sB];simp
 | succ k ih =>
  intro u h
  by_cases h0:u=0
  ·subst h0;rw[sB];simp
  ·rw[uX h0];have:=ih (u/256) (by rw[Nat.pow_succ]at h;omega);simp;omega
theorem uu(n:Int):0≤IntKind.u64.wrap n∧IntKind.u64.wrap n≤18446744073709551615:=by
 unfold IntKind.wrap;have h1:IntKind.u64.signed=false:=rfl;have h2:((2:Int)^IntKind.u64.bits)=18446744073709551616:=rfl;simp only[h1,h2];simp;omega
def Ax(n:Int):Int:=if n<0 then IntKind.u64.wrap (-IntKind.u64.wrap n) else IntKind.u64.wrap n
def gx(n:Int):Nat:=(Ax n).toNat
theorem uw(n:Int):((gx n:Nat):Int)=Ax n:=by
 unfold gx Ax;have a:=uu n;have b:=uu (-IntKind.u64.wrap n)
 split <;> omega
theorem qW(n:Int):gx n<256^8:=by
 show _<18446744073709551616;unfold gx Ax;have a:=uu n;have b:=uu (-IntKind.u64.wrap n)
 split <;> omega
def iP(n:Int):List UInt8 :=
 if 0≤n∧n<256 then[97,byteOf n]
 else if -2147483648≤n∧n≤2147483647 then 98::bO n 4
 else 110::byteOf (dy (gx n)).length::(if n<0 then 1 else 0)::dy (gx n)
def xB(f:TF):List UInt8 :=
 if f.bits.tmod 8=0 then 109::(bO f.bytes.size 4++kx f.bytes)
 else 77::(bO f.bytes.size 4++(byteOf (f.bits.tmod 8)::kx f.bytes))
def eE(f:TF)(m:Nat):List UInt8 :=
 if f.kind=1 then iP f.int
 else if f.kind=2 then cj f.name
 else if f.kind=7 then[104,byteOf m]
 else if f.kind=8 then[106]
 else if f.kind=9 then 108::bO ((m:Int)-1) 4
 else if f.kind=10 then xB f
 else if f.kind=6 then 88::(cj f.name++(bO f.int 4++(bO 0 4++bO f.gen 4)))
 else if f.kind=3 then 90::0::1::(cj f.name++(bO f.gen 4++bO f.int 4))
 else if f.kind=5 then 113::(cj f.name++(cj f.func++iP f.arity))
 else if f.kind=4 then 112::byteOf f.arity::(bO f.int 2++(byteOf m::(cj f.name++bO f.gen 4)))
 else[]
def iQ:(n:Nat)→List (Tm n)→List UInt8
 | 0,_=>[]
 | n+1,l=>l.flatMap (fun t=>eE t.f t.items.length++iQ n t.items)
def gy{n:Nat}(t:Tm (n+1)):List UInt8:=eE t.f t.items.length++iQ n t.items
theorem uZ:∀n,iQ n []=[]
 | 0=>rfl
 | n+1=>rfl
theorem FG{n:Nat}(t:Tm (n+1))(l:List (Tm (n+1))):iQ (n+1) (t::l)=gy t++iQ (n+1) l:=by simp[iQ,gy]
theorem xC{n:Nat}(l:List (Tm (n+1)))(k:Nat)(h:k<l.length):iQ (n+1) (l.take (k+1))=iQ (n+1) (l.take k)++gy l[k]:=by
 rw[←List.take_append_getElem h];unfold iQ gy;rw[List.flatMap_append];simp only[List.flatMap_cons,List.flatMap_nil,List.append_nil]
theorem jA{s:ByteArray}(h:b_ s=true):s.size≤255:=by
 unfold b_ at h;simp only[Bool.and_eq_true,decide_eq_true_eq]at h;omega
theorem Ay(n:Int):(iP n).length≤11:=by
 unfold iP
 split
 ·simp
 ·split
  ·simp[dm]
  ·have:=uY 8 (gx n) (qW n);simp;omega
theorem jB{n:Nat}{t:Tm (n+1)}(h:aJ t=true):(eE t.f t.items.length).length≤3000:=by
 obtain⟨h1,h2,h3,h4⟩:=p8 h;have hi':=Ay t.f.int;unfold eE;unfold okF at h2
 by_cases k1:t.f.kind=1
 ·rw[if_pos k1];omega
 by_cases k2:t.f.kind=2
 ·rw[if_neg k1,if_pos k2,kM];simp[k1,k2]at h2;have:=jA h2;omega
 by_cases k7:t.f.kind=7
 ·rw[if_neg k1,if_neg k2,if_pos k7];simp
 by_cases k8:t.f.kind=8
 ·rw[if_neg k1,if_neg k2,if_neg k7,if_pos k8];simp
 by_cases k9:t.f.kind=9
 ·rw[if_neg k1,if_neg k2,if_neg k7,if_neg k8,if_pos k9];simp[dm]
 by_cases pT:t.f.kind=10
 ·rw[if_neg k1,if_neg k2,if_neg k7,if_neg k8,if_neg k9,if_pos pT];rw[pT]at h2;simp[kU,gq]at h2;have e:(t.f.bytes.size:Int)=(t.f.bits+7)/8:=h2.1.2;have hb:=h2.1.1;unfold xB
  split <;> simp[dm,jd] <;> omega
 by_cases k6:t.f.kind=6
 ·rw[if_neg k1,if_neg k2,if_neg k7,if_neg k8,if_neg k9,if_neg pT,if_pos k6];rw[k6]at h2;simp at h2;have:=jA h2.2.2;simp[dm,kM];omega
 by_cases k3:t.f.kind=3
 ·rw[if_neg k1,if_neg k2,if_neg k7,if_neg k8,if_neg k9,if_neg pT,if_neg k6,if_pos k3];rw[k3]at h2;simp at h2;have:=jA h2.2.2;simp[dm,kM];omega
 by_cases k5:t.f.kind=5
 ·rw[if_neg k1,if_neg k2,if_neg k7,if_neg k8,if_neg k9,if_neg pT,if_neg k6,if_neg k3,if_pos k5];rw[k5]at h2;simp[gq]at h2;have a:=jA h2.1;have b:=jA h2.2.1;have c:=Ay t.f.arity;simp[dm,kM];omega
 by_cases k4:t.f.kind=4
 ·rw[if_neg k1,if_neg k2,if_neg k7,if_neg k8,if_neg k9,if_neg pT,if_neg k6,if_neg k3,if_neg k5,if_pos k4];rw[k4]at h2;simp at h2;have:=jA h2.2.2.1;simp[dm,kM];omega
 simp[k1,k2,k7,k8,k9,pT,k6,k3,k5,k4]
def je(s:Int):Int:=if s%2=1 then bits .xor .u32 (s/2) 3988292384 else s/2
def wK:Nat→Int→Int
 | 0,s=>s
 | k+1,s=>wK k (je s)
def FH(s:Int)(c:UInt8):Int:=wK 8 (bits .xor .u32 s c.toNat)
def wL(l:List UInt8):Int:=l.foldl FH 4294967295
def Er(l:List UInt8):Int:=bits .xor .u32 (wL l) 4294967295
theorem yJ(n:Nat)(h:n<4294967296):IntKind.u32.wrap (n:Int)=n:=by
 unfold IntKind.wrap;have h1:IntKind.u32.signed=false:=rfl;have h2:((2:Int)^IntKind.u32.bits)=4294967296:=rfl;simp only[h1,h2];simp;omega
theorem ux(a b:Int):0≤bits .xor .u32 a b∧bits .xor .u32 a b≤4294967295:=by
 unfold bits;dsimp only;have:=(BitVec.ofInt IntKind.u32.bits a ^^^ BitVec.ofInt IntKind.u32.bits b).isLt;have e:2^IntKind.u32.bits=4294967296:=rfl;rw[yJ _ (by omega)];omega
theorem xor_comm(a b:Int):bits .xor .u32 a b=bits .xor .u32 b a:=by unfold bits;simp only[BitVec.xor_comm]
theorem Es(a:Int)(h0:0≤a)(h1:a≤4294967295):(BitVec.ofInt IntKind.u32.bits a).toNat=a.toNat:=by
 show(BitVec.ofInt 32 a).toNat=_;rw[BitVec.toNat_ofInt];omega
theorem xor_zero(a:Int)(h0:0≤a)(h1:a≤4294967295):bits .xor .u32 a 0=a:=by
 unfold bits;dsimp only;rw[BitVec.toNat_xor,Es a h0 h1,Es 0 (by decide) (by decide)];simp only[Int.toNat_zero,Nat.xor_zero];rw[yJ _ (by omega)];omega
theorem KS(a:Int)(h0:0≤a)(h1:a≤4294967295):bits .and .u32 a 1=a%2:=by
 unfold bits;dsimp only;rw[BitVec.toNat_and,Es a h0 h1,Es 1 (by decide) (by decide)];have e:a.toNat &&& (1:Int).toNat=a.toNat%2:=Nat.and_one_is_mod _;rw[e,yJ _ (by omega)];omega
theorem Az{s:Int}(h0:0≤s)(h1:s≤4294967295)(h:s%2=0):bits .xor .u32 (s/2) 0=je s:=by
 unfold je;rw[if_neg (by omega),xor_zero _ (by omega) (by omega)]
theorem Et{s:Int}(h:s%2=1):bits .xor .u32 (s/2) 3988292384=je s:=by
 unfold je;rw[if_pos h]
theorem tq{s:Int}(h0:0≤s)(h1:s≤4294967295):0≤je s∧je s≤4294967295:=by
 unfold je
 split
 ·exact ux _ _
 ·omega
theorem sC:∀(k:Nat) (s:Int),wK (k+1) s=je (wK k s)
 | 0,s=>rfl
 | k+1,s=>by
  show wK (k+1) (je s)=_;rw[sC k (je s)];rfl
theorem qX:∀(k:Nat) {s:Int},0≤s→s≤4294967295→0≤wK k s∧wK k s≤4294967295
 | 0,s,h0,h1=>⟨h0,h1⟩
 | k+1,s,h0,h1=>qX k (tq h0 h1).1 (tq h0 h1).2
theorem AA(l:List UInt8):0≤wL l∧wL l≤4294967295:=by
 unfold wL;have:∀(l:List UInt8) (s:Int),0≤s→s≤4294967295→0≤l.foldl FH s∧l.foldl FH s≤4294967295:=by
  intro l
  induction l with
  | nil=>intro s h0 h1;exact⟨h0,h1⟩
  | cons c l ih =>
   intro s h0 h1;have:=ux s c.toNat;have:=qX 8 this.1 this.2;exact ih _ this.1 this.2
 exact this l _ (by decide) (by decide)
theorem xD(l:List UInt8)(k:Nat)(h:k<l.length):wL (l.take (k+1))=FH (wL (l.take k)) l[k]:=by
 unfold wL;rw[←List.take_append_getElem h,List.foldl_append];rfl
end tb
end Go.Proofs.YtfbggmbmgohiiaaGreat
