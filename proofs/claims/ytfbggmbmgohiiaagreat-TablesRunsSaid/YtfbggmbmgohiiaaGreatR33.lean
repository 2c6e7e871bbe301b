/- TnQ,OrD,ToA,ToB,ToC. No condition beyond theirs. -/
import Derived.Test.YtfbggmbmgohiiaaGreatR27
import Init.Data.List.Lemmas
set_option linter.unusedSimpArgs false
set_option linter.unusedVariables false
set_option maxHeartbeats 1000000
set_option maxRecDepth 100000
namespace Go.Proofs.YtfbggmbmgohiiaaGreat
namespace tm
open Go.RowKit mem names
variable {α:Type}{enc:α→TF×Value}{w0 wr w:World}{b n cap:Nat}{d:List α}{S:α→Prop}{c:α→α→Int}{tg:α→Nat}
def gH(c:α→α→Int)(tg:α→Nat)(x y:α):Prop:=c x y<0∨(c x y=0∧tg x<tg y)
theorem xW(h:TP S c){x y z:α}(hx:S x)(hy:S y)(hz:S z)(h1:gH c tg x y)(h2:gH c tg y z):gH c tg x z:=by
 have k1:c x y≤0:=by rcases h1 with h|h <;> omega
 have k2:c y z≤0:=by rcases h2 with h|h <;> omega
 have k3:=h.trans x y z hx hy hz k1 k2
 by_cases e:c x z=0
 ·have:=h.zero hx hy hz k1 k2 e
  rcases h1 with h1|h1
  ·omega
  ·rcases h2 with h2|h2
   ·omega
   ·exact .inr ⟨e,by omega⟩
 ·exact .inl (by omega)
structure sL(S:α→Prop)(c:α→α→Int)(tg:α→Nat)(S1:List α)(x:α)(S2:List α):Prop where
 WZ:(S1++S2).Pairwise (gH c tg)
 aal:∀s∈S1++S2,tg s<tg x
 less:∀s∈S2,gH c tg x s
 ok:∀s∈S1++x::S2,S s
theorem sL.step{S1 S2:List α}{x y:α}(h:sL S c tg (S1++[y]) x S2)(hlt:c x y<0):sL S c tg S1 x (y::S2):=by
 obtain⟨h1,h2,h3,h4⟩:=h;refine⟨by simpa using h1,fun s hs=>h2 s (by simpa using hs),fun s hs=>?_,fun s hs=>h4 s (by simp at hs ⊢;rcases hs with h|h|h|h <;> simp[h])⟩
 rcases List.mem_cons.1 hs with rfl|hs
 ·exact .inl hlt
 ·exact h3 s hs
theorem sL.stop{S1 S2:List α}{x:α}(mg:TP S c)(h:sL S c tg S1 x S2)(hs:∀T y,S1=T++[y]→0≤c x y):(S1++x::S2).Pairwise (gH c tg):=by
 obtain⟨h1,h2,h3,h4⟩:=h;rw[List.pairwise_append]at h1 ⊢;refine⟨h1.1,List.pairwise_cons.2 ⟨h3,h1.2.1⟩,fun s hs1 t ht=>?_⟩
 rcases List.mem_cons.1 ht with rfl|ht
 ·rcases List.eq_nil_or_concat S1 with rfl|⟨T,y,rfl⟩
  ·simp at hs1
  ·rw[List.concat_eq_append]at*;have hy:=hs T y rfl;have e:=mg.anti t y;have Y_:gH c tg y t:=by
    by_cases e0:c y t=0
    ·exact .inr ⟨e0,h2 y (by simp)⟩
    ·exact .inl (by omega)
   rcases List.mem_append.1 hs1 with iw|iw
   ·have:gH c tg s y:=(List.pairwise_append.1 h1.1).2.2 s iw y (by simp);exact xW mg (h4 s (by simp[iw])) (h4 y (by simp)) (h4 t (by simp)) this Y_
   ·simp at iw;subst iw;exact Y_
 ·exact h1.2.2 s hs1 t ht
def vM(c:α→α→Int)(tg:α→Nat)(enc:α→TF×Value)(w0:World)(b n cap:Nat)(A M C:List α)(e:Ending)(w':World):Prop :=
 e=.returned (.tuple #[])∧∃M',M'.Perm M∧M'.Pairwise (gH c tg)∧bB enc w0 w' b n cap (A++M'++C)
theorem oQ(P Q:List α)(x:α){i:Nat}(hi:i=P.length)(h:i<(P++x::Q).length):(P++x::Q)[i]=x:=by
 subst hi;rw[List.getElem_append_right (Nat.le_refl _)];simp
def nU(enc:α→TF×Value)(w0 wr:World)(b n cap:Nat)(A C:List α)(S:α→Prop)(c:α→α→Int)(tg:α→Nat)(T U:List α)(x:α)(a j:Nat):Prop :=
 ∃S1 S2,a+S1.length=j∧sL S c tg S1 x S2∧(S1++S2).Perm T∧bB enc w0 wr b n cap (A++(S1++x::S2++U)++C)
theorem bB.pP{P Q:List α}{x:α}(h:bB enc w0 wr b n cap (P++x::Q)){i:Nat}(hi:P.length=i):Cells wr b (i*9) (enc x).1 (enc x).2:=by
 have:=h.cells i (by simp;omega);rwa[oQ P Q x hi.symm]at this
theorem bB.EY{P Q:List α}{x y:α}(h:bB enc w0 wr b n cap (P++y::x::Q)){jp:Nat}(hi:P.length=jp):bB enc w0 (pW (pW wr b ((jp+1)*9) (enc y).1 (enc y).2) b (jp*9) (enc x).1 (enc x).2).drew b n cap (P++x::y::Q):=by
 subst hi;have:=h.swap (P.length+1) P.length (by simp) (by simp);rw[oQ P (x::Q) y rfl,show(P++y::x::Q)[P.length+1]'(by simp)=x by rw[List.getElem_append_right (by omega)];simp,FU]at this;exact this
theorem nU.drewN{A C T U:List α}{x:α}{a j:Nat}(h:nU enc w0 wr b n cap A C S c tg T U x a j)(q:Nat):nU enc w0 (wr.drewN q) b n cap A C S c tg T U x a j:=by
 obtain⟨S1,S2,h1,h2,h3,h4⟩:=h;exact⟨S1,S2,h1,h2,h3,h4.drewN q⟩
def oT(enc:α→TF×Value)(w0 wr:World)(b n cap:Nat)(A M C:List α)(c:α→α→Int)(tg:α→Nat)(a i:Nat):Prop :=
 ∃T0 T U,a+T.length=i∧M=T0++U∧T.Perm T0∧T.Pairwise (gH c tg)∧bB enc w0 wr b n cap (A++(T++U)++C)
theorem oT.take{A M C:List α}{a i e:Nat}(h:oT enc w0 wr b n cap A M C c tg a i)(he:a+M.length=e)(hi:i<e)(hS:∀x∈M,S x)(hT:M.Pairwise (fun x y=>tg x<tg y)) :
 ∃T0 T U x,a+T0.length=i∧M=T0++x::U∧T.Perm T0∧S x∧nU enc w0 wr b n cap A C S c tg T U x a i:=by
 obtain⟨T0,T,U,h1,h2,h3,h4,h5⟩:=h;have hl:=h3.length_eq;cases U with
 | nil=>subst h2;simp at he;omega
 | cons x U =>
  have hx:S x:=hS x (by rw[h2];simp)
  refine⟨T0,T,U,x,by omega,h2,h3,hx,T,[],h1,⟨by simpa using h4,fun s hs=>?_,fun s hs=>by simp at hs,fun s hs=>?_⟩,by simp,by simpa using h5⟩
  ·rw[List.append_nil]at hs;rw[h2,List.pairwise_append]at hT;exact hT.2.2 s (h3.mem_iff.1 hs) x (by simp)
  ·rcases List.mem_append.1 hs with hs|hs
   ·exact hS s (by rw[h2];simp[h3.mem_iff.1 hs])
   ·simp at hs;subst hs;exact hx
theorem nU.done{A M C T0 T U:List α}{x:α}{a i j:Nat}(mg:TP S c)(h:nU enc w0 wr b n cap A C S c tg T U x a j)(hM:M=T0++x::U)(hT:T.Perm T0)(hi:a+T0.length=i)(hs:∀S1 S2,a+S1.length=j→bB enc w0 wr b n cap (A++(S1++x::S2++U)++C)→∀R y,S1=R++[y]→0≤c x y):oT enc w0 wr b n cap A M C c tg a (i+1):=by
 obtain⟨S1,S2,h1,h2,h3,h4⟩:=h;have hl:=(h3.trans hT).length_eq;refine⟨T0++[x],S1++x::S2,U,by simp at hl ⊢;omega,by simp[hM],?_,h2.stop mg (hs S1 S2 h1 h4),h4⟩;exact(List.perm_middle).trans ((List.Perm.cons x (h3.trans hT)).trans (List.perm_append_singleton x T0).symm)
theorem nU.before{A C T U:List α}{x:α}{a j:Nat}(h:nU enc w0 wr b n cap A C S c tg T U x a j)(hA:A.length=a)(hj:a<j):∃jp P y Q,j=jp+1∧P.length=jp∧S x∧S y∧bB enc w0 wr b n cap (P++y::x::Q)∧jp+1<n ∧
 (∀S1 S2,a+S1.length=j→bB enc w0 wr b n cap (A++(S1++x::S2++U)++C)→∀R y',S1=R++[y']→bB enc w0 wr b n cap (P++y::x::Q)→True) ∧
 (c x y<0→∀w',bB enc w0 w' b n cap (P++x::y::Q)→nU enc w0 w' b n cap A C S c tg T U x a jp) ∧
 (∀w',bB enc w0 w' b n cap (P++y::x::Q)→nU enc w0 w' b n cap A C S c tg T U x a j) ∧
 (0≤c x y→∀M T0 w',TP S c→bB enc w0 w' b n cap (P++y::x::Q)→M=T0++x::U→T.Perm T0→oT enc w0 w' b n cap A M C c tg a (a+T0.length+1)):=by
 obtain⟨S1,S2,h1,h2,h3,h4⟩:=h
 rcases List.eq_nil_or_concat S1 with rfl|⟨R,y,rfl⟩
 ·simp at h1;omega
 rw[List.concat_eq_append]at*;have eq:∀(p q:α),A++(R++p::q::S2++U)++C=(A++R)++p::q::(S2++U++C):=fun p q=>by simp
 have W6:A++(R++[y]++x::S2++U)++C=(A++R)++y::x::(S2++U++C):=by simp
 have h4':=h4;rw[W6]at h4';have hl:=h4'.len;have h1':a+R.length+1=j:=by simp at h1;omega
 refine⟨a+R.length,A++R,y,S2++U++C,h1'.symm,by simp[hA],h2.ok x (by simp),h2.ok y (by simp),h4',by simp at hl;omega,fun _ _ _ _ _ _ _ _=>trivial,fun hlt w' hw=>?_,fun w' hw=>?_,fun hge M T0 w' mg hw hM hT=>?_⟩
 ·refine⟨R,y::S2,rfl,h2.step hlt,by simpa using h3,?_⟩;rw[eq x y];exact hw
 ·refine⟨R++[y],S2,by simp;omega,h2,h3,?_⟩;rw[W6];exact hw
 ·have MS:=(h3.trans hT).length_eq
  refine⟨T0++[x],R++[y]++x::S2,U,by simp at MS ⊢;omega,by simp[hM],?_,h2.stop mg (fun R' y' e=>?_),?_⟩
  ·exact(List.perm_middle).trans ((List.Perm.cons x (h3.trans hT)).trans (List.perm_append_singleton x T0).symm)
  ·have:=List.append_inj_right' e (by simp);simp at this;subst this;exact hge
  ·rw[W6];exact hw
set_option maxHeartbeats 2000000 in
theorem LI(hC:A0 enc w0 b 96 S c)(mg:TP S c)(A M C:List α)(hS:∀x∈M,S x)(hT:M.Pairwise (fun x y=>tg x<tg y))(h:bB enc w0 w b n cap (A++M++C))(a e:Nat)(ha:A.length=a)(he:a+M.length=e)(hn:n≤1000000) :
 Calls Tryz.prog 128 #[.slice (some ⟨b,0,none⟩) n cap,.int .i64 a,.int .i64 e,.func (.func 96) #[] #[]] w (vM c tg enc w0 b n cap A M C):=by
 have hlen:=h.len;have AU:e≤n:=by rw[←hlen];simp;omega
 by_cases hM:M=[]
 ·subst hM;simp at he;subst he;go_enter Tryz.func128,Tryz.ntmps128;go_wp2_with fail;refine wp_loop_rounds 1 ?_;rw[rounds_succ];go_wp2_with fail;go_end0
  exact⟨rfl,[],by simp,by simp,by simpa using h⟩
 have hae:a<e:=by have:=List.length_pos_iff.2 hM;omega
 have oU:=Qh (fun wr i (h:oT enc w0 wr b n cap A M C c tg a i) (hi:i<e)=>h.take he hi hS hT);have gV:Hid (oT enc w0 w b n cap A M C c tg a (a+1)):=Qh (by
  cases M with
  | nil=>exact absurd rfl hM
  | cons x M=>exact⟨[x],[x],M,rfl,rfl,List.Perm.refl _,by simp,by simpa using h⟩)
 have rG:Hid (∀wr,oT enc w0 wr b n cap A M C c tg a e→∃M',M'.Perm M∧M'.Pairwise (gH c tg)∧bB enc w0 wr b n cap (A++M'++C)):=Qh (by
  rintro wr ⟨T0,T,U,h1,h2,h3,h4,h5⟩
  have hl:=h3.length_eq
  have hU:U=[]:=by
   have:=congrArg List.length h2
   simp at this
   exact List.eq_nil_of_length_eq_zero (by omega)
  subst hU
  rw[List.append_nil]at h2 h5
  subst h2
  exact⟨T,h3,h4,h5⟩)
 have HA:=Qh ha;have lU:=Qh hC.shape;have cL:=Qh hC.call;have Za:=Qh mg;clear hS hT ha he hlen h hM hC mg;go_enter Tryz.func128,Tryz.ntmps128;go_wp2_with fail;go_loopw [8] (fun s wr=>∃i:Nat,s=.int .i64 i∧a<i∧i≤e∧Hid (oT enc w0 wr b n cap A M C c tg a i)) (fun s _=>e-(intOf s).toNat)
 case atStart=>exact⟨a+1,by go_num,by omega,by omega,gV⟩
 case round=>
  obtain⟨i,rfl,hai,hie,HR⟩:=hrel
  by_cases hlt:i<e
  ·obtain⟨T0,T,U,x,nA,hM,hT,yZ,RX⟩:=oU.out wr i HR.out hlt;have HM:=Qh hM;have HT:=Qh hT;have AY:=Qh RX;have Zb:=Qh nA;have Dm:=lU.out x yZ;clear hM hT RX HR nA;go_wp2_with fail;obtain⟨wo,rfl⟩:∃wo:World,wo=wr:=⟨_,rfl⟩;go_loopw [9] (fun s wr=>∃j:Nat,s=.int .i64 j∧a≤j∧j≤i∧Hid (nU enc w0 wr b n cap A C S c tg T U x a j)) (fun s _=>(intOf s).toNat)
   case atStart=>exact⟨i,rfl,by omega,by omega,AY⟩
   case round=>
    obtain⟨j,rfl,haj,hji,HJ⟩:=hrel
    by_cases Uy:a<j
    ·obtain⟨jp,P,y,Q,rfl,hP,_,y9,iC,hjn,_,Bi,_,hDone⟩:=HJ.out.before HA.out Uy;have xX:=Qh Bi;have oV:=Qh hDone;have cO:=Qh iC;have HP:=Qh hP;have Dn:=lU.out y y9;have hcx:Cells wr b ((jp+1)*9) (enc x).1 (enc x).2:=bB.pP (P:=P++[y]) (Q:=Q) (by simpa using iC) (by simp[hP]);have ol:Cells wr b (jp*9) (enc y).1 (enc y).2:=iC.pP hP;have kj:b<wr.heap.size:=iC.lt;have HC:=Qh (cL.out wr.drew x y (iC.aX.drewN 1) yZ y9);have wG:Hid (∀o,wr.frozen? ⟨b,o,none⟩=false):=Qh (fun o=>iC.frozen o);obtain⟨p1,m1,c1,ex⟩:=Dm
     obtain⟨p2,m2,c2,ey⟩:=Dn;have hZc:∃z,c x y=z:=⟨_,rfl⟩;obtain⟨z,hz⟩:=hZc;have HZ:=Qh hz;rw[hz]at HC;obtain⟨X,eX⟩:∃X,enc x=X:=⟨_,rfl⟩;obtain⟨Y,eY⟩:∃Y,enc y=Y:=⟨_,rfl⟩;have Kq:=Qh eX;have Kr:=Qh eY;rw[eX]at hcx HC ex;rw[eY]at ol HC ey;obtain⟨⟨k1,i1,g1,n1,dr,a1,gY,s1⟩,v1⟩:=X;obtain⟨⟨k2,i2,g2,n2,cU,a2,fW,s2⟩,v2⟩:=Y;dsimp only at hcx ol HC ex ey;subst ex;subst ey;clear eX eY hz hP iC Bi hDone;have ig:=Qh hcx;have dU:=Qh ol;unfold aj aM at HC;dsimp only at HC;obtain⟨x0,x1,x2,x3,x4,x5,x6,x7,x8⟩:=hcx;obtain⟨y0,y1,y2,y3,y4,y5,y6,y7,y8⟩:=ol
     dsimp only at x0 x1 x2 x3 x4 x5 x6 x7 x8 y0 y1 y2 y3 y4 y5 y6 y7 y8;have r1:(a:Int)<(jp:Int)+1:=by omega
     have r2:(jp:Int)+1<(n:Int):=by omega
     have r3:(jp:Int)<(n:Int):=by omega
     have r4:(0:Int)≤(jp:Int)+1:=by omega
     have r5:((jp:Int)+1).toNat=jp+1:=by omega
     have r6:IntKind.i64.wrap (jp:Int)=(jp:Int):=IntWalk.i64_in _ (by omega)
     by_cases hlz:z<0
     ·have q1:decide (z<0)=true:=decide_eq_true hlz;go_wp2_with fail
      go_region_held3 (fun w'=>(w'.cell? ⟨b,(jp+1)*9,none⟩=some (.int .i64 k1)∧w'.cell? ⟨b,(jp+1)*9+1,none⟩=some (.int .i64 i1)∧w'.cell? ⟨b,(jp+1)*9+1+1,none⟩=some (.int .i64 g1)∧w'.cell? ⟨b,(jp+1)*9+1+1+1,none⟩=some (.string n1)∧w'.cell? ⟨b,(jp+1)*9+1+1+1+1,none⟩=some (.string dr)∧w'.cell? ⟨b,(jp+1)*9+1+1+1+1+1,none⟩=some (.int .i64 a1)∧w'.cell? ⟨b,(jp+1)*9+1+1+1+1+1+1,none⟩=some (.slice p1 m1 c1)∧w'.cell? ⟨b,(jp+1)*9+1+1+1+1+1+1+1,none⟩=some (.string gY)∧w'.cell? ⟨b,(jp+1)*9+1+1+1+1+1+1+1+1,none⟩=some (.int .i64 s1))∧w'.cell? ⟨b,jp*9,none⟩=some (.int .i64 k2)∧w'.cell? ⟨b,jp*9+1,none⟩=some (.int .i64 i2)∧w'.cell? ⟨b,jp*9+1+1,none⟩=some (.int .i64 g2)∧w'.cell? ⟨b,jp*9+1+1+1,none⟩=some (.string n2)∧w'.cell? ⟨b,jp*9+1+1+1+1,none⟩=some (.string cU)∧w'.cell? ⟨b,jp*9+1+1+1+1+1,none⟩=some (.int .i64 a2)∧w'.cell? ⟨b,jp*9+1+1+1+1+1+1,none⟩=some (.slice p2 m2 c2)∧w'.cell? ⟨b,jp*9+1+1+1+1+1+1+1,none⟩=some (.string fW)∧w'.cell? ⟨b,jp*9+1+1+1+1+1+1+1+1,none⟩=some (.int .i64 s2)) (go_keep)
       (first
         | (go_at_call 96;(with_reducible refine HC.out.mono ?_);rintro e5 w5 ⟨rfl,eS⟩;have nh:=Qh (ig.out.same (eS.block b kj));have kZ:=Qh (dU.out.same (eS.block b kj));obtain⟨z0,z1,z2,z3,z4,z5,z6,z7,z8⟩:=nh.out;obtain⟨t0,t1,t2,t3,t4,t5,t6,t7,t8⟩:=kZ.out;dsimp only at z0 z1 z2 z3 z4 z5 z6 z7 z8 t0 t1 t2 t3 t4 t5 t6 t7 t8))
      have Q_:bB enc w0 w5 b n cap (P++y::x::Q):=(cO.out.drewN 1).below eS cO.out.aX.size;have bP:=Q_.EY HP.out;rw[Kq.out,Kr.out]at bP;unfold pW at bP;dsimp only at bP;have eU:=Qh (xX.out (by rw[HZ.out];exact hlz) _ bP);have aam:∀o,w5.frozen? ⟨b,o,none⟩=false:=fun o=>Q_.frozen o;clear Q_ bP eS HC ig dU nh kZ cO oV xX wG x0 x1 x2 x3 x4 x5 x6 x7 x8 y0 y1 y2 y3 y4 y5 y6 y7 y8;go_wp2_with fail;go_big_region
      go_wp2_with fail;go_roundw
      case rel=>exact⟨jp,by go_num,by omega,by omega,eU⟩
      case measure=>simp[intOf]
     ·have q1:decide (z<0)=false:=decide_eq_false hlz;go_wp2_with fail
      go_region_held3 (fun w'=>(w'.cell? ⟨b,(jp+1)*9,none⟩=some (.int .i64 k1)∧w'.cell? ⟨b,(jp+1)*9+1,none⟩=some (.int .i64 i1)∧w'.cell? ⟨b,(jp+1)*9+1+1,none⟩=some (.int .i64 g1)∧w'.cell? ⟨b,(jp+1)*9+1+1+1,none⟩=some (.string n1)∧w'.cell? ⟨b,(jp+1)*9+1+1+1+1,none⟩=some (.string dr)∧w'.cell? ⟨b,(jp+1)*9+1+1+1+1+1,none⟩=some (.int .i64 a1)∧w'.cell? ⟨b,(jp+1)*9+1+1+1+1+1+1,none⟩=some (.slice p1 m1 c1)∧w'.cell? ⟨b,(jp+1)*9+1+1+1+1+1+1+1,none⟩=some (.string gY)∧w'.cell? ⟨b,(jp+1)*9+1+1+1+1+1+1+1+1,none⟩=some (.int .i64 s1))∧w'.cell? ⟨b,jp*9,none⟩=some (.int .i64 k2)∧w'.cell? ⟨b,jp*9+1,none⟩=some (.int .i64 i2)∧w'.cell? ⟨b,jp*9+1+1,none⟩=some (.int .i64 g2)∧w'.cell? ⟨b,jp*9+1+1+1,none⟩=some (.string n2)∧w'.cell? ⟨b,jp*9+1+1+1+1,none⟩=some (.string cU)∧w'.cell? ⟨b,jp*9+1+1+1+1+1,none⟩=some (.int .i64 a2)∧w'.cell? ⟨b,jp*9+1+1+1+1+1+1,none⟩=some (.slice p2 m2 c2)∧w'.cell? ⟨b,jp*9+1+1+1+1+1+1+1,none⟩=some (.string fW)∧w'.cell? ⟨b,jp*9+1+1+1+1+1+1+1+1,none⟩=some (.int .i64 s2)) (go_keep)
       (first
         | (go_at_call 96;(with_reducible refine HC.out.mono ?_);rintro e5 w5 ⟨rfl,eS⟩;have nh:=Qh (ig.out.same (eS.block b kj));have kZ:=Qh (dU.out.same (eS.block b kj));obtain⟨z0,z1,z2,z3,z4,z5,z6,z7,z8⟩:=nh.out;obtain⟨t0,t1,t2,t3,t4,t5,t6,t7,t8⟩:=kZ.out;dsimp only at z0 z1 z2 z3 z4 z5 z6 z7 z8 t0 t1 t2 t3 t4 t5 t6 t7 t8))
      have Q_:bB enc w0 w5 b n cap (P++y::x::Q):=(cO.out.drewN 1).below eS cO.out.aX.size;have eU:=Qh (oV.out (by rw[HZ.out];omega) M T0 w5 Za.out Q_ HM.out HT.out);rw[Zb.out]at eU;clear Q_ eS HC ig dU nh kZ cO oV xX wG x0 x1 x2 x3 x4 x5 x6 x7 x8 y0 y1 y2 y3 y4 y5 y6 y7 y8;go_wp2_with fail;go_roundw
      case rel=>exact⟨i+1,by go_num,by omega,by omega,eU⟩
      case measure=>simp[intOf];omega
    ·have Zc:j=a:=by omega
     have HJA:=Qh Zc;have q1:¬((a:Int)<(j:Int)):=by omega
     have q2:decide ((a:Int)<(j:Int))=false:=decide_eq_false q1;have q3:¬a<j:=by omega
     have q4:decide (a<j)=false:=decide_eq_false q3;clear Zc Uy;have Zd:=Qh (HJ.out.drewN 1);go_wp2_with fail;go_big_region
     change Hid (nU enc w0 wr.drew b n cap A C S c tg T U x a j)at Zd;generalize wr.drew=w5 at*;go_wp2_with fail;go_roundw
     case rel=>exact⟨i+1,by go_num,by omega,by omega,Qh (Zd.out.done Za.out HM.out HT.out Zb.out (fun S1 S2 h1 _ R y e=>by subst e;have:=HJA.out;simp at h1;omega))⟩
     case measure=>simp[intOf];omega
  ·obtain rfl:i=e:=by omega
   go_wp2_with fail;go_end0
   exact⟨rfl,rG.out _ HR.out⟩
end tm
namespace tm
variable {α:Type}{lt:α→α→Prop}{S:α→Prop}
def LJ(S:α→Prop)(lt:α→α→Prop):Prop:=∀x y z,S x→S y→S z→lt x y→lt y z→lt x z
theorem LK{T:List α}{x z:α}(h:(T++[z]).Pairwise lt)(hx:x∈T++[z]):x=z∨lt x z:=by
 rw[List.pairwise_append]at h
 rcases List.mem_append.1 hx with hx|hx
 ·exact .inr (h.2.2 x hx z (by simp))
 ·simp at hx;exact .inl hx
theorem LL{U:List α}{x y:α}(h:(y::U).Pairwise lt)(hx:x∈y::U):x=y∨lt y x:=by
 rcases List.mem_cons.1 hx with hx|hx
 ·exact .inl hx
 ·exact .inr ((List.pairwise_cons.1 h).1 x hx)
theorem rH(Ks:LJ S lt){P Q:List α}(hP:P.Pairwise lt)(hQ:Q.Pairwise lt)(W_:∀x∈P,S x)(Ze:∀x∈Q,S x)(h:∀T x U y,P=T++[x]→Q=y::U→lt x y):∀x∈P,∀y∈Q,lt x y:=by
 intro x hx y hy
 rcases List.eq_nil_or_concat P with rfl|⟨T,z,rfl⟩
 ·simp at hx
 rw[List.concat_eq_append]at*;cases Q with
 | nil=>simp at hy
 | cons u U =>
  have h0:=h T z U u rfl rfl;have sz:=W_ z (by simp);have su:=Ze u (by simp);have h1:lt x u:=by
   rcases LK hP hx with rfl|h1
   ·exact h0
   ·exact Ks _ _ _ (W_ x hx) sz su h1 h0
  rcases LL hQ hy with rfl|h2
  ·exact h1
  ·exact Ks _ _ _ (W_ x hx) su (Ze y hy) h1 h2
theorem y_(Ks:LJ S lt){L1 L2 R1 R2 M1 M2:List α}(hS:∀x∈(L1++L2)++(R1++R2),S x)(hL:(L1++L2).Pairwise lt)(hR:(R1++R2).Pairwise lt)
 (h1:∀T x U y,L1=T++[x]→R2=y::U→lt x y)(h2:∀T x U y,R1=T++[x]→L2=y::U→lt x y)
 (p1:M1.Perm (L1++R1))(p2:M2.Perm (L2++R2))(s1:M1.Pairwise lt)(s2:M2.Pairwise lt) :
 (M1++M2).Perm ((L1++L2)++(R1++R2))∧(M1++M2).Pairwise lt:=by
 have hL':=List.pairwise_append.1 hL;have Xa:=List.pairwise_append.1 hR;have OV:∀x∈L1,S x:=fun x hx=>hS x (by simp[hx]);have LM:∀x∈L2,S x:=fun x hx=>hS x (by simp[hx]);have LN:∀x∈R1,S x:=fun x hx=>hS x (by simp[hx]);have OW:∀x∈R2,S x:=fun x hx=>hS x (by simp[hx]);have k1:=rH Ks hL'.1 Xa.2.1 OV OW h1;have k2:=rH Ks Xa.1 hL'.2.1 LN LM h2
 constructor
 ·refine(p1.append p2).trans ?_;have e:(L2++R1).Perm (R1++L2):=List.perm_append_comm;rw[List.append_assoc,List.append_assoc];refine List.Perm.append_left L1 ?_;rw[←List.append_assoc,←List.append_assoc];exact(e.symm).append_right R2
 ·rw[List.pairwise_append];refine⟨s1,s2,fun x hx y hy=>?_⟩
  rcases List.mem_append.1 (p1.mem_iff.1 hx)with hx|hx <;> rcases List.mem_append.1 (p2.mem_iff.1 hy)with hy|hy
  ·exact hL'.2.2 x hx y hy
  ·exact k1 x hx y hy
  ·exact k2 x hx y hy
  ·exact Xa.2.2 x hx y hy
theorem IV(P Q R:List α)(x y:α)(i j:Nat)(hi:P.length=i)(hj:P.length+1+Q.length=j):((P++x::(Q++y::R)).set i y).set j x=P++y::(Q++x::R):=by
 subst hi hj;rw[List.set_append_right _ _ (Nat.le_refl _),List.set_append_right _ _ (by omega)];simp only[Nat.sub_self,List.set_cons_zero];rw[show P.length+1+Q.length-P.length=Q.length+1 by omega,List.set_cons_succ,List.set_append_right _ _ (Nat.le_refl _)];simp
theorem EZ(P Q R:List α)(x y:α)(j:Nat)(hj:P.length+1+Q.length=j)(h:j<(P++x::(Q++y::R)).length):(P++x::(Q++y::R))[j]=y:=by
 subst hj;rw[List.getElem_append_right (by omega)];simp only[show P.length+1+Q.length-P.length=Q.length+1 by omega,List.getElem_cons_succ];rw[List.getElem_append_right (Nat.le_refl _)];simp
inductive Full(lt:α→α→Prop)(bs:Nat):List α→List α→Prop
 | nil:Full lt bs [] []
 | snoc {D M x y:List α}:Full lt bs D M→x.length=bs→x.Perm y→x.Pairwise lt→Full lt bs (D++x) (M++y)
inductive pY(lt:α→α→Prop)(bs:Nat):List α→List α→Prop
 | last {x y:List α}:x.length≤bs→x.Perm y→x.Pairwise lt→pY lt bs x y
 | cons {x y D M:List α}:x.length=bs→x.Perm y→x.Pairwise lt→pY lt bs D M→pY lt bs (x++D) (y++M)
theorem Full.OX{bs:Nat}{D M:List α}(h:Full lt bs D M):∀{D' M':List α},pY lt bs D' M'→pY lt bs (D++D') (M++M'):=by
 induction h with
 | nil=>intro D' M' h;exact h
 | snoc h hl hp hs ih =>
  intro D' M' h';rw[List.append_assoc,List.append_assoc];exact ih (.cons hl hp hs h')
theorem pY.perm{bs:Nat}{D M:List α}(h:pY lt bs D M):D.Perm M:=by
 induction h with
 | last _ hp _=>exact hp
 | cons _ hp _ _ ih=>exact hp.append ih
theorem Full.perm{bs:Nat}{D M:List α}(h:Full lt bs D M):D.Perm M:=by
 induction h with
 | nil=>exact .nil
 | snoc _ _ hp _ ih=>exact ih.append hp
theorem pY.two{bs:Nat}{D M:List α}(h:pY lt bs D M)(hb:0<bs)(hl:2*bs≤D.length):∃x1 x2 D' y1 y2 M',D=x1++(x2++D')∧M=y1++(y2++M')∧x1.length=bs∧x2.length=bs∧x1.Perm y1∧x2.Perm y2∧x1.Pairwise lt∧x2.Pairwise lt∧pY lt bs D' M':=by
 cases h with
 | last h1 _ _=>omega
 | cons h1 p1 s1 h =>
  cases h with
  | last h2 p2 s2 =>
   rename_i x y x' y';simp at hl;exact⟨x,x',[],y,y',[],by simp,by simp,h1,by omega,p1,p2,s1,s2,.last (by simp) .nil .nil⟩
  | cons h2 p2 s2 h=>exact⟨_,_,_,_,_,_,rfl,rfl,h1,h2,p1,p2,s1,s2,h⟩
theorem pY.rest{bs:Nat}{D M:List α}(h:pY lt bs D M)(hb:0<bs)(hl:D.length<2*bs)(hm:bs<D.length):∃x1 x2 y1 y2,D=x1++x2∧M=y1++y2∧x1.length=bs∧x2≠[]∧x1.Perm y1∧x2.Perm y2∧x1.Pairwise lt∧x2.Pairwise lt:=by
 cases h with
 | last h1 _ _=>omega
 | cons h1 p1 s1 h =>
  cases h with
  | last h2 p2 s2=>exact⟨_,_,_,_,rfl,rfl,h1,by rintro rfl;simp at hm;omega,p1,p2,s1,s2⟩
  | cons h2 p2 s2 h=>simp at hl;omega
theorem pY.one{bs:Nat}{D M:List α}(h:pY lt bs D M)(hl:D.length≤bs):D.Perm M∧D.Pairwise lt:=by
 cases h with
 | last h1 p s=>exact⟨p,s⟩
 | cons h1 p1 s1 h =>
  rename_i x y D' M';simp at hl;have e:D'=[]:=List.eq_nil_of_length_eq_zero (by omega);subst e;have:=h.perm.length_eq;have e:M'=[]:=List.eq_nil_of_length_eq_zero (by simpa using this.symm);subst e;simpa using⟨p1,s1⟩
end tm
namespace tm
open Go.RowKit mem names
variable {α:Type}{enc:α→TF×Value}{w0 wr w:World}{b n cap:Nat}{d:List α}{S:α→Prop}{c:α→α→Int}{tg:α→Nat}
theorem bB.E0{P Q R:List α}{x y:α}(h:bB enc w0 wr b n cap (P++x::(Q++y::R))){i j:Nat}(hi:P.length=i)(hj:P.length+1+Q.length=j):bB enc w0 (pW (pW wr b (i*9) (enc y).1 (enc y).2) b (j*9) (enc x).1 (enc x).2).drew b n cap (P++y::(Q++x::R)):=by
 have h1:i<(P++x::(Q++y::R)).length:=by simp;omega
 have h2:j<(P++x::(Q++y::R)).length:=by simp;omega
 have e1:(P++x::(Q++y::R))[i]=x:=oQ P _ x hi.symm h1;have e2:(P++x::(Q++y::R))[j]=y:=EZ P Q R x y j hj h2;have:=h.swap i j h1 h2;rw[e1,e2,IV P Q R x y i j hi hj]at this;exact this
theorem bB.Bj{P Q R:List α}{x y:α}(h:bB enc w0 wr b n cap (P++x::(Q++y::R))){j:Nat}(hj:P.length+1+Q.length=j):Cells wr b (j*9) (enc y).1 (enc y).2:=by
 have h2:j<(P++x::(Q++y::R)).length:=by simp;omega
 have:=h.cells j h2;rwa[EZ P Q R x y j hj h2]at this
def uA(enc:α→TF×Value)(w0:World)(b n cap:Nat)(d:List α)(e:Ending)(w':World):Prop:=e=.returned (.tuple #[])∧bB enc w0 w' b n cap d
def kF(enc:α→TF×Value)(w0 wr:World)(b n cap:Nat)(A X M Y C:List α)(i:Nat):Prop :=
 ∃X1 X2 Y1 Y2,X=X1++X2∧Y=Y1++Y2∧X1.length=i∧Y1.length=i∧bB enc w0 wr b n cap (A++(Y1++(X2++(M++(X1++(Y2++C))))))
theorem kF.take{A X M Y C:List α}{i k a b2:Nat}(h:kF enc w0 wr b n cap A X M Y C i)(ha:A.length=a)(hk:X.length=k)(hk2:Y.length=k)(hb:a+k+M.length=b2)(hi:i<k)(hS:∀x∈X++Y,S x) :
 ∃P Q R x y,P.length=a+i∧P.length+1+Q.length=b2+i∧S x∧S y∧bB enc w0 wr b n cap (P++x::(Q++y::R))∧(∀w',bB enc w0 w' b n cap (P++y::(Q++x::R))→kF enc w0 w' b n cap A X M Y C (i+1)):=by
 obtain⟨X1,X2,Y1,Y2,rfl,rfl,h1,h2,h3⟩:=h;cases X2 with
 | nil=>simp at hk;omega
 | cons x X2 =>
  cases Y2 with
  | nil=>simp at hk2;omega
  | cons y Y2 =>
   simp at hk hk2;refine⟨A++Y1,X2++(M++X1),Y2++C,x,y,by simp;omega,by simp;omega,hS x (by simp),hS y (by simp),by simpa using h3,fun w' hw=>?_⟩;exact⟨X1++[x],X2,Y1++[y],Y2,by simp,by simp,by simp;omega,by simp;omega,by simpa using hw⟩
theorem kF.done{A X M Y C:List α}{k:Nat}(h:kF enc w0 wr b n cap A X M Y C k)(hk:X.length=k)(hk2:Y.length=k):bB enc w0 wr b n cap (A++(Y++(M++(X++C)))):=by
 obtain⟨X1,X2,Y1,Y2,rfl,rfl,h1,h2,h3⟩:=h;have e1:X2=[]:=List.eq_nil_of_length_eq_zero (by simp at hk;omega);have e2:Y2=[]:=List.eq_nil_of_length_eq_zero (by simp at hk2;omega);subst e1 e2;simpa using h3
set_option maxHeartbeats 2000000 in
theorem Gb(hsh:∀x,S x→∃p m k,(enc x).2=.slice p m k)(A X M Y C:List α)(hS:∀x∈X++Y,S x)(h:bB enc w0 w b n cap (A++(X++(M++(Y++C)))))(a b2 k:Nat)(ha:A.length=a)(hk:X.length=k)(hk2:Y.length=k)(hb:a+k+M.length=b2)(hn:n≤1000000)(fv:Value) :
 Calls Tryz.prog 159 #[.slice (some ⟨b,0,none⟩) n cap,.int .i64 a,.int .i64 b2,.int .i64 k,fv] w (uA enc w0 b n cap (A++(Y++(M++(X++C))))):=by
 have hlen:=h.len;have Ur:b2+k≤n:=by rw[←hlen];simp;omega
 have hab:a+k≤b2:=by omega
 have oU:=Qh (fun wr i (h:kF enc w0 wr b n cap A X M Y C i) (hi:i<k)=>h.take ha hk hk2 hb hi hS);have rG:=Qh (fun wr (h:kF enc w0 wr b n cap A X M Y C k)=>h.done hk hk2);have gV:Hid (kF enc w0 w b n cap A X M Y C 0):=Qh ⟨[],X,[],Y,rfl,rfl,rfl,rfl,by simpa using h⟩;have lU:=Qh hsh;clear hS ha hk hk2 hb hlen h hsh;go_enter Tryz.func159,Tryz.ntmps159;go_wp2_with fail;go_loopw [10] (fun s wr=>∃i:Nat,s=.int .i64 i∧i≤k∧Hid (kF enc w0 wr b n cap A X M Y C i)) (fun s _=>k-(intOf s).toNat)
 case atStart=>exact⟨0,by go_num,by omega,gV⟩
 case round=>
  obtain⟨i,rfl,hik,HR⟩:=hrel
  by_cases hlt:i<k
  ·obtain⟨P,Q,R,x,y,hP,hQ,yZ,y9,iC,Bi⟩:=oU.out wr i HR.out hlt;have xX:=Qh Bi;have Dm:=lU.out x yZ;have Dn:=lU.out y y9;obtain⟨p,hp⟩:∃p,p=a+i:=⟨_,rfl⟩;obtain⟨q,hq⟩:∃q,q=b2+i:=⟨_,rfl⟩;rw[←hp]at hP;rw[←hq]at hQ;have hcx:Cells wr b (p*9) (enc x).1 (enc x).2:=iC.pP hP;have ol:Cells wr b (q*9) (enc y).1 (enc y).2:=iC.Bj hQ;have kj:b<wr.heap.size:=iC.lt;have wG:Hid (∀o,wr.frozen? ⟨b,o,none⟩=false):=Qh (fun o=>iC.frozen o);have bP:=iC.E0 hP hQ;obtain⟨p1,m1,c1,ex⟩:=Dm;obtain⟨p2,m2,c2,ey⟩:=Dn
   obtain⟨X9,eX⟩:∃X9,enc x=X9:=⟨_,rfl⟩;obtain⟨Y9,eY⟩:∃Y9,enc y=Y9:=⟨_,rfl⟩;have Kq:=Qh eX;have Kr:=Qh eY;rw[eX]at hcx ex;rw[eY]at ol ey;obtain⟨⟨k1,i1,g1,n1,dr,a1,gY,s1⟩,v1⟩:=X9;obtain⟨⟨k2,i2,g2,n2,cU,a2,fW,s2⟩,v2⟩:=Y9;dsimp only at hcx ol ex ey;subst ex;subst ey;clear eX eY;rw[Kq.out,Kr.out]at bP;unfold pW at bP;dsimp only at bP;have eU:=Qh (xX.out _ bP);obtain⟨x0,x1,x2,x3,x4,x5,x6,x7,x8⟩:=hcx;obtain⟨y0,y1,y2,y3,y4,y5,y6,y7,y8⟩:=ol;dsimp only at x0 x1 x2 x3 x4 x5 x6 x7 x8 y0 y1 y2 y3 y4 y5 y6 y7 y8;have hfz:=wG.out
   have r1:(p:Int)<(n:Int):=by omega
   have r2:(q:Int)<(n:Int):=by omega
   have r3:(a:Int)+(i:Int)=(p:Int):=by omega
   have r4:(b2:Int)+(i:Int)=(q:Int):=by omega
   have r5:IntKind.i64.wrap (p:Int)=(p:Int):=IntWalk.i64_in _ (by omega);have r6:IntKind.i64.wrap (q:Int)=(q:Int):=IntWalk.i64_in _ (by omega);clear hP hQ iC Bi bP hp hq wG Kq Kr xX;go_wp2_with fail;go_big_region
   go_wp2_with fail;go_roundw
   case rel=>exact⟨i+1,by go_num,by omega,eU⟩
   case measure=>simp[intOf];omega
  ·obtain rfl:i=k:=by omega
   go_wp2_with fail;go_end0
   exact⟨rfl,rG.out _ HR.out⟩
def jD(enc:α→TF×Value)(w0 wr:World)(b n cap:Nat)(A U V C:List α)(m i j:Nat):Prop :=
 ∃P X Y Q,P.length+A.length+i=m∧X.length=i∧Y.length=j∧P++(Y++(X++Q))=V++U∧(∀x∈X++Y,x∈U++V)∧bB enc w0 wr b n cap (A++(P++(X++(Y++(Q++C)))))
theorem jD.big{A U V C:List α}{m i j:Nat}(h:jD enc w0 wr b n cap A U V C m i j)(hij:j<i) :
 ∃A' X M Y C',bB enc w0 wr b n cap (A'++(X++(M++(Y++C'))))∧(∀x∈X++Y,x∈U++V)∧A'.length+i=m∧X.length=j∧Y.length=j∧(m-i)+j+M.length=m∧i≤m∧m+j≤n∧(∀w',bB enc w0 w' b n cap (A'++(Y++(M++(X++C'))))→jD enc w0 w' b n cap A U V C m (i-j) j):=by
 obtain⟨P,X,Y,Q,h1,h2,h3,h4,h6,h5⟩:=h;have hl:=h5.len;simp at hl
 refine⟨A++P,X.take j,X.drop j,Y,Q++C,?_,fun x hx=>h6 x ?_,by simp;omega,by simp;omega,h3,by simp;omega,by omega,by omega,fun w' hw=>?_⟩
 ·have e:A++P++(List.take j X++(List.drop j X++(Y++(Q++C))))=A++(P++(X++(Y++(Q++C)))):=by
   rw[←List.append_assoc (List.take j X),List.take_append_drop,List.append_assoc]
  rw[e];exact h5
 ·rcases List.mem_append.1 hx with hx|hx
  ·exact List.mem_append.2 (.inl (List.mem_of_mem_take hx))
  ·exact List.mem_append.2 (.inr hx)
 ·refine⟨P++Y,X.drop j,X.take j,Q,by simp;omega,by simp;omega,by simp;omega,?_,fun x hx=>h6 x ?_,?_⟩
  ·rw[←h4,List.append_assoc,←List.append_assoc (List.take j X),List.take_append_drop]
  ·rcases List.mem_append.1 hx with hx|hx
   ·exact List.mem_append.2 (.inl (List.mem_of_mem_drop hx))
   ·exact List.mem_append.2 (.inl (List.mem_of_mem_take hx))
  ·simpa using hw
theorem jD.small{A U V C:List α}{m i j:Nat}(h:jD enc w0 wr b n cap A U V C m i j)(hij:i<j) :
 ∃A' X M Y C',bB enc w0 wr b n cap (A'++(X++(M++(Y++C'))))∧(∀x∈X++Y,x∈U++V)∧A'.length+i=m∧X.length=i∧Y.length=i∧(m-i)+i+M.length=m+j-i∧i≤m∧m+j≤n∧(∀w',bB enc w0 w' b n cap (A'++(Y++(M++(X++C'))))→jD enc w0 w' b n cap A U V C m i (j-i)):=by
 obtain⟨P,X,Y,Q,h1,h2,h3,h4,h6,h5⟩:=h;have hl:=h5.len;simp at hl
 refine⟨A++P,X,Y.take (j-i),Y.drop (j-i),Q++C,?_,fun x hx=>h6 x ?_,by simp;omega,h2,by simp;omega,by simp;omega,by omega,by omega,fun w' hw=>?_⟩
 ·have e:A++P++(X++(List.take (j-i) Y++(List.drop (j-i) Y++(Q++C))))=A++(P++(X++(Y++(Q++C)))):=by
   rw[←List.append_assoc (List.take (j-i) Y),List.take_append_drop,List.append_assoc]
  rw[e];exact h5
 ·rcases List.mem_append.1 hx with hx|hx
  ·exact List.mem_append.2 (.inl hx)
  ·exact List.mem_append.2 (.inr (List.mem_of_mem_drop hx))
 ·refine⟨P,Y.drop (j-i),Y.take (j-i),X++Q,by omega,by simp;omega,by simp;omega,?_,fun x hx=>h6 x ?_,?_⟩
  ·rw[←h4,←List.append_assoc (List.take (j-i) Y),List.take_append_drop]
  ·rcases List.mem_append.1 hx with hx|hx
   ·exact List.mem_append.2 (.inr (List.mem_of_mem_drop hx))
   ·exact List.mem_append.2 (.inr (List.mem_of_mem_take hx))
  ·simpa using hw
theorem jD.same{A U V C:List α}{m i:Nat}(h:jD enc w0 wr b n cap A U V C m i i) :
 ∃A' X Y C',bB enc w0 wr b n cap (A'++(X++([]++(Y++C'))))∧(∀x∈X++Y,x∈U++V)∧A'.length+i=m∧X.length=i∧Y.length=i∧i≤m∧(∀w',bB enc w0 w' b n cap (A'++(Y++([]++(X++C'))))→bB enc w0 w' b n cap (A++(V++(U++C)))):=by
 obtain⟨P,X,Y,Q,h1,h2,h3,h4,h6,h5⟩:=h;refine⟨A++P,X,Y,Q++C,by simpa using h5,h6,by simp;omega,h2,h3,by omega,fun w' hw=>?_⟩;have e:A++(V++(U++C))=A++P++(Y++([]++(X++(Q++C)))):=by
  rw[←List.append_assoc V,←h4];simp
 rw[e];exact hw
set_option maxHeartbeats 2000000 in
theorem rotate(hsh:∀x,S x→∃p m k,(enc x).2=.slice p m k)(A U V C:List α)(hS:∀x∈U++V,S x)(h:bB enc w0 w b n cap (A++(U++(V++C))))(a m e:Nat)(ha:A.length=a)(hm:a+U.length=m)(he:m+V.length=e)(hU:a<m)(hV:m<e)(hn:n≤1000000)(fv:Value) :
 Calls Tryz.prog 152 #[.slice (some ⟨b,0,none⟩) n cap,.int .i64 a,.int .i64 m,.int .i64 e,fv] w (uA enc w0 b n cap (A++(V++(U++C)))):=by
 have hlen:=h.len;have AU:e≤n:=by rw[←hlen];simp;omega
 have Xb:=Qh (fun(w:World) (A X M Y C:List α) (hS:∀x∈X++Y,S x) (h:bB enc w0 w b n cap (A++(X++(M++(Y++C))))) (a b2 k:Nat) (ha:A.length=a) (hk:X.length=k) (hk2:Y.length=k) (hb:a+k+M.length=b2)=>Gb (w:=w) hsh A X M Y C hS h a b2 k ha hk hk2 hb hn fv);have Xc:=Qh (fun wr i j (h:jD enc w0 wr b n cap A U V C m i j) (hij:j<i)=>h.big hij);have OY:=Qh (fun wr i j (h:jD enc w0 wr b n cap A U V C m i j) (hij:i<j)=>h.small hij);have SQ:=Qh (fun wr i (h:jD enc w0 wr b n cap A U V C m i i)=>h.same)
 have gV:Hid (jD enc w0 w b n cap A U V C m (m-a) (e-m)):=Qh ⟨[],U,V,[],by simp;omega,by omega,by omega,by simp,fun x hx=>hx,by simpa using h⟩;have HS:=Qh hS;clear hS ha hm he hlen h hsh;obtain⟨i0,nA⟩:∃i0:Nat,m=a+i0:=⟨m-a,by omega⟩;obtain⟨j0,hj0⟩:∃j0:Nat,e=m+j0:=⟨e-m,by omega⟩;have r1:(m:Int)-(a:Int)=(i0:Int):=by omega
 have r2:(e:Int)-(m:Int)=(j0:Int):=by omega
 have s1:m-a=i0:=by omega
 have s2:e-m=j0:=by omega
 rw[s1,s2]at gV;have hi1:0<i0:=by omega
 have V_:0<j0:=by omega
 have hij:m+j0≤n:=by omega
 have Xd:i0≤m:=by omega
 clear s1 s2 nA hj0;go_enter Tryz.func152,Tryz.ntmps152;go_wp2_with fail;clear r1 r2;go_loopw [10,11] (fun s t wr=>∃i j:Nat,s=.int .i64 i∧t=.int .i64 j∧0<i∧0<j∧i≤m∧m+j≤n∧Hid (jD enc w0 wr b n cap A U V C m i j)) (fun s t _=>(intOf s).toNat+(intOf t).toNat)
 case atStart=>exact⟨i0,j0,rfl,rfl,hi1,V_,Xd,hij,gV⟩
 case round=>
  obtain⟨i,j,rfl,rfl,hi,hj,Xd,hjn,HR⟩:=hrel;obtain⟨p,hp⟩:∃p:Nat,m=p+i:=⟨m-i,by omega⟩;have r1:(m:Int)-(i:Int)=(p:Int):=by omega
  have s1:m-i=p:=by omega
  by_cases h1:j<i
  ·obtain⟨A',X,M,Y,C',q1,q2,q3,q4,q5,q6,q7,q8,q9⟩:=Xc.out wr i j HR.out h1;have HC:=Qh (Xb.out wr A' X M Y C' (fun x hx=>HS.out x (q2 x hx)) q1 p m j (by omega) q4 q5 (by omega));have HN:=Qh q9;clear q1 q2 q3 q4 q5 q6 q7 q8 q9 s1 hp;have t1:(i:Int)≠(j:Int):=by omega
   have t2:((i:Int)==(j:Int))=false:=by simpa using t1
   have t3:(i:Int)-(j:Int)=((i-j:Nat):Int):=by omega
   go_wp2_with fail;refine HC.out.mono ?_;rintro e1 w1 ⟨rfl,hr⟩;have HF:=Qh (HN.out w1 hr);clear hr HC HN;go_wp2_with fail;go_roundw
   case rel=>exact⟨i-j,j,by go_num,rfl,by omega,hj,by omega,hjn,HF⟩
   case measure=>simp[intOf];omega
  ·by_cases h2:i<j
   ·obtain⟨A',X,M,Y,C',q1,q2,q3,q4,q5,q6,q7,q8,q9⟩:=OY.out wr i j HR.out h2;obtain⟨q,hq⟩:∃q:Nat,q+i=m+j:=⟨m+j-i,by omega⟩;have HC:=Qh (Xb.out wr A' X M Y C' (fun x hx=>HS.out x (q2 x hx)) q1 p q i (by omega) q4 q5 (by omega));have HN:=Qh q9;have t1:(i:Int)≠(j:Int):=by omega
    have t2:((i:Int)==(j:Int))=false:=by simpa using t1
    have t3:(j:Int)-(i:Int)=((j-i:Nat):Int):=by omega
    have t4:(m:Int)+(j:Int)-(i:Int)=(q:Int):=by omega
    clear q1 q2 q3 q4 q5 q6 q7 q8 q9 s1 hp hq;go_wp2_with fail;refine HC.out.mono ?_;rintro e1 w1 ⟨rfl,hr⟩;have HF:=Qh (HN.out w1 hr);clear hr HC HN;go_wp2_with fail;go_roundw
    case rel=>exact⟨i,j-i,rfl,by go_num,hi,by omega,Xd,by omega,HF⟩
    case measure=>simp[intOf];omega
   ·obtain rfl:i=j:=by omega
    obtain⟨A',X,Y,C',q1,q2,q3,q4,q5,q6,q7⟩:=SQ.out wr i HR.out;have HC:=Qh (Xb.out wr A' X [] Y C' (fun x hx=>HS.out x (q2 x hx)) q1 p m i (by omega) q4 q5 (by simp;omega));have HN:=Qh q7;clear q1 q2 q3 q4 q5 q6 q7 s1 hp;go_wp2_with fail;refine HC.out.mono ?_;rintro e1 w1 ⟨rfl,hr⟩;have HF:=Qh (HN.out w1 hr);clear hr HC HN;go_wp2_with fail;go_end0
    exact⟨rfl,HF.out⟩
variable {α:Type}{enc:α→TF×Value}{w0 wr w:World}{b n cap:Nat}{d:List α}{S:α→Prop}{c:α→α→Int}{tg:α→Nat}
def Kt(c:α→α→Int)(D:List α)(i j:Nat):Prop:=∃u v,D[i]?=some u∧D[j]?=some v∧c u v<0
theorem gh{D:List α}{i j:Nat}{x y:α}(hx:D[i]?=some x)(hy:D[j]?=some y):Kt c D i j↔c x y<0:=by
 constructor
 ·rintro⟨u,v,h1,h2,h3⟩;rw[hx]at h1;rw[hy]at h2;simp only[Option.some.injEq]at h1 h2;subst h1 h2;exact h3
 ·exact fun h=>⟨x,y,hx,hy,h⟩
def Dp(Q:Nat→Prop)(t_ nA lo hi:Nat):Prop:=t_≤lo∧lo≤hi∧hi≤nA∧(lo=t_∨Q (lo-1))∧(hi=nA∨¬Q hi)
theorem Dp.right{Q:Nat→Prop}{t_ nA lo hi h:Nat}(H:Dp Q t_ nA lo hi)(h1:lo≤h)(h2:h<hi)(hq:Q h):Dp Q t_ nA (h+1) hi:=by
 obtain⟨a1,a2,a3,a4,a5⟩:=H;exact⟨by omega,by omega,a3,.inr hq,a5⟩
theorem Dp.left{Q:Nat→Prop}{t_ nA lo hi h:Nat}(H:Dp Q t_ nA lo hi)(h1:lo≤h)(h2:h<hi)(hq:¬Q h):Dp Q t_ nA lo h:=by
 obtain⟨a1,a2,a3,a4,a5⟩:=H;exact⟨by omega,by omega,by omega,a4,.inr hq⟩
theorem vN{lt:α→α→Prop}(Ks:LJ S lt){R1 R2:List α}{x:α}(hx:S x)(hS:∀y∈R1++R2,S y)(h:(R1++R2).Pairwise lt)(h1:∀T z,R1=T++[z]→lt z x)(h2:∀z U,R2=z::U→lt x z):(R1++x::R2).Pairwise lt:=by
 have h':=List.pairwise_append.1 h;have s1:∀y∈R1,S y:=fun y hy=>hS y (by simp[hy]);have s2:∀y∈R2,S y:=fun y hy=>hS y (by simp[hy]);have sx:∀y∈[x],S y:=fun y hy=>by simp at hy;subst hy;exact hx
 have k1:=rH Ks h'.1 (List.pairwise_singleton lt x) s1 sx (fun T z U y e1 e2=>by simp at e2;rw[←e2.1];exact h1 T z e1);have k2:=rH Ks (List.pairwise_singleton lt x) h'.2.1 sx s2 (fun T z U y e1 e2=>by
  have:z=x:=by
   rcases T with _|⟨t,T⟩
   ·simp at e1;exact e1.symm
   ·simp at e1
  subst this;exact h2 y U e2)
 rw[List.pairwise_append];refine⟨h'.1,List.pairwise_cons.2 ⟨fun y hy=>k2 x (by simp) y hy,h'.2.1⟩,fun u hu v hv=>?_⟩
 rcases List.mem_cons.1 hv with rfl|hv
 ·exact k1 u hu v (by simp)
 ·exact h'.2.2 u hu v hv
theorem Dr(mg:TP S c):LJ S (gH c tg):=fun x y z hx hy hz h1 h2=>xW mg hx hy hz h1 h2
theorem sM(mg:TP S c){x y:α}(ht:tg x<tg y)(h:¬c y x<0):gH c tg x y:=by
 have:=mg.anti x y
 by_cases e:c x y=0
 ·exact .inr ⟨e,ht⟩
 ·exact .inl (by omega)
def gL(c:α→α→Int)(tg:α→Nat)(enc:α→TF×Value)(w0:World)(b n cap:Nat)(A M C:List α)(e:Ending)(w':World):Prop :=
 e=.returned (.tuple #[])∧∃M',M'.Perm M∧M'.Pairwise (gH c tg)∧bB enc w0 w' b n cap (A++(M'++C))
theorem bB.jW{D:List α}{i:Nat}{x:α}(h:bB enc w0 wr b n cap D)(hi:D[i]?=some x):Cells wr b (i*9) (enc x).1 (enc x).2:=by
 obtain⟨h1,h2⟩:=List.getElem?_eq_some_iff.1 hi;have:=h.cells i h1;rwa[h2]at this
theorem IW(mg:TP S c){A R C:List α}{x:α}{a m e i:Nat}(ha:A.length=a)(hm:a+1=m)(he:m+R.length=e)(hS:∀y∈x::R,S y)(hR:R.Pairwise (gH c tg))(ht:∀y∈R,tg x<tg y)
 (hB:Dp (fun h=>Kt c (A++(x::(R++C))) h a) m e i i):∃R1 R2,R=R1++R2∧m+R1.length=i∧(R1++x::R2).Pairwise (gH c tg):=by
 obtain⟨b1,b2,b3,b4,b5⟩:=hB;dsimp only at b4 b5;have Um:(A++(x::(R++C)))[a]?=some x:=by rw[←ha,List.getElem?_append_right (Nat.le_refl _)];simp
 have sK:∀k,k<R.length→(A++(x::(R++C)))[m+k]?=R[k]?:=fun k hk=>by
  rw[List.getElem?_append_right (by omega),show m+k-A.length=k+1 by omega,List.getElem?_cons_succ,List.getElem?_append_left hk]
 refine⟨R.take (i-m),R.drop (i-m),(List.take_append_drop _ _).symm,by simp;omega,?_⟩
 refine vN (Dr mg) (hS x (by simp)) (fun y hy=>hS y ?_) ?_ (fun T z e1=>?_) (fun z U e2=>?_)
 ·rw[List.take_append_drop]at hy;simp[hy]
 ·rw[List.take_append_drop];exact hR
 ·have hl:=congrArg List.length e1;simp at hl;have hz:R[i-m-1]?=some z:=by
   have:(R.take (i-m))[i-m-1]?=some z:=by rw[e1,List.getElem?_append_right (by omega)];simp[show i-m-1-T.length=0 by omega]
   rwa[List.getElem?_take_of_lt (by omega)]at this
  rcases b4 with b4|b4
  ·omega
  ·have:=(gh (c:=c) (i:=i-1) (by rw[show i-1=m+(i-m-1) by omega,sK _ (by omega)];exact hz) Um).1 b4;exact .inl this
 ·have hl:=congrArg List.length e2;simp at hl;have hz:R[i-m]?=some z:=by
   have:(R.drop (i-m))[0]?=some z:=by rw[e2];rfl
   rwa[List.getElem?_drop,Nat.add_zero]at this
  rcases b5 with b5|b5
  ·omega
  ·rw[gh (c:=c) (i:=i) (by rw[show i=m+(i-m) by omega,sK _ (by omega)];exact hz) Um]at b5;exact sM mg (ht z (List.mem_of_getElem? hz)) b5
theorem Gc(mg:TP S c){A L C:List α}{y:α}{a m i:Nat}(ha:A.length=a)(hm:a+L.length=m)(hS:∀x∈L++[y],S x)(hL:L.Pairwise (gH c tg))(ht:∀x∈L,tg x<tg y)
 (hB:Dp (fun h=>¬Kt c (A++(L++(y::C))) m h) a m i i):∃L1 L2,L=L1++L2∧a+L1.length=i∧(L1++y::L2).Pairwise (gH c tg):=by
 obtain⟨b1,b2,b3,b4,b5⟩:=hB;dsimp only at b4 b5;have Zf:(A++(L++(y::C)))[m]?=some y:=by rw[←hm,←ha,←List.length_append,←List.append_assoc,List.getElem?_append_right (Nat.le_refl _)];simp
 have sK:∀k,k<L.length→(A++(L++(y::C)))[a+k]?=L[k]?:=fun k hk=>by
  rw[List.getElem?_append_right (by omega),show a+k-A.length=k by omega,List.getElem?_append_left hk]
 refine⟨L.take (i-a),L.drop (i-a),(List.take_append_drop _ _).symm,by simp;omega,?_⟩
 refine vN (Dr mg) (hS y (by simp)) (fun x hx=>hS x ?_) ?_ (fun T z e1=>?_) (fun z U e2=>?_)
 ·rw[List.take_append_drop]at hx;simp[hx]
 ·rw[List.take_append_drop];exact hL
 ·have hl:=congrArg List.length e1;simp at hl;have hz:L[i-a-1]?=some z:=by
   have:(L.take (i-a))[i-a-1]?=some z:=by rw[e1,List.getElem?_append_right (by omega)];simp[show i-a-1-T.length=0 by omega]
   rwa[List.getElem?_take_of_lt (by omega)]at this
  rcases b4 with b4|b4
  ·omega
  ·rw[gh (c:=c) (j:=i-1) Zf (by rw[show i-1=a+(i-a-1) by omega,sK _ (by omega)];exact hz)]at b4;exact sM mg (ht z (List.mem_of_getElem? hz)) b4
 ·have hl:=congrArg List.length e2;simp at hl;have hz:L[i-a]?=some z:=by
   have:(L.drop (i-a))[0]?=some z:=by rw[e2];rfl
   rwa[List.getElem?_drop,Nat.add_zero]at this
  rcases b5 with b5|b5
  ·omega
  ·rw[gh (c:=c) (j:=i) Zf (by rw[show i=a+(i-a) by omega,sK _ (by omega)];exact hz)]at b5;exact .inl (Classical.not_not.1 b5)
theorem parts(mg:TP S c){A L R C:List α}{a m e t_ nA i p:Nat}(ha:A.length=a)(hm:a+L.length=m)(he:m+R.length=e)(hS:∀x∈L++R,S x)(hL:L.Pairwise (gH c tg))(hR:R.Pairwise (gH c tg))(ht:∀x∈L,∀y∈R,tg x<tg y)
 (h0:t_=a∧nA=m∧m≤(a+e)/2∨t_+e=(a+e)/2+m∧nA=(a+e)/2∧(a+e)/2<m)(hp:p+1=(a+e)/2+m)(hB:Dp (fun h=>¬Kt c (A++(L++(R++C))) (p-h) h) t_ nA i i) :
 ∃L1 L2 R1 R2,L=L1++L2∧R=R1++R2∧a+L1.length=i∧i+R1.length=(a+e)/2 ∧
  ∀M1 M2:List α,M1.Perm (L1++R1)→M2.Perm (L2++R2)→M1.Pairwise (gH c tg)→M2.Pairwise (gH c tg)→(M1++M2).Perm (L++R)∧(M1++M2).Pairwise (gH c tg):=by
 obtain⟨b1,b2,b3,b4,b5⟩:=hB;dsimp only at b4 b5;have mo:∀k,k<L.length→(A++(L++(R++C)))[a+k]?=L[k]?:=fun k hk=>by
  rw[List.getElem?_append_right (by omega),show a+k-A.length=k by omega,List.getElem?_append_left hk]
 have vh:∀k,k<R.length→(A++(L++(R++C)))[m+k]?=R[k]?:=fun k hk=>by
  rw[List.getElem?_append_right (by omega),List.getElem?_append_right (by omega),show m+k-A.length-L.length=k by omega,List.getElem?_append_left hk]
 obtain⟨s,hs⟩:∃s,s=(a+e)/2-i:=⟨_,rfl⟩;refine⟨L.take (i-a),L.drop (i-a),R.take s,R.drop s,(List.take_append_drop _ _).symm,(List.take_append_drop _ _).symm,by simp;omega,by simp;omega,fun M1 M2 p1 p2 s1 s2=>?_⟩
 have hm':=y_ (Dr mg) (L1:=L.take (i-a)) (L2:=L.drop (i-a)) (R1:=R.take s) (R2:=R.drop s) ?_ ?_ ?_ ?_ ?_ p1 p2 s1 s2
 ·rwa[List.take_append_drop,List.take_append_drop]at hm'
 ·rw[List.take_append_drop,List.take_append_drop];exact hS
 ·rw[List.take_append_drop];exact hL
 ·rw[List.take_append_drop];exact hR
 ·intro T x U y e1 e2;have iq:=congrArg List.length e1;have jC:=congrArg List.length e2;simp at iq jC;have hx:L[i-a-1]?=some x:=by
   have:(L.take (i-a))[i-a-1]?=some x:=by rw[e1,List.getElem?_append_right (by omega)];simp[show i-a-1-T.length=0 by omega]
   rwa[List.getElem?_take_of_lt (by omega)]at this
  have hy:R[s]?=some y:=by
   have:(R.drop s)[0]?=some y:=by rw[e2];rfl
   rwa[List.getElem?_drop,Nat.add_zero]at this
  rcases b4 with b4|b4
  ·omega
  ·rw[gh (c:=c) (x:=y) (y:=x) (by rw[show p-(i-1)=m+s by omega,vh _ (by omega)];exact hy) (by rw[show i-1=a+(i-a-1) by omega,mo _ (by omega)];exact hx)]at b4;exact sM mg (ht x (List.mem_of_getElem? hx) y (List.mem_of_getElem? hy)) b4
 ·intro T x U y e1 e2;have iq:=congrArg List.length e1;have jC:=congrArg List.length e2;simp at iq jC;have hx:R[s-1]?=some x:=by
   have:(R.take s)[s-1]?=some x:=by rw[e1,List.getElem?_append_right (by omega)];simp[show s-1-T.length=0 by omega]
   rwa[List.getElem?_take_of_lt (by omega)]at this
  have hy:L[i-a]?=some y:=by
   have:(L.drop (i-a))[0]?=some y:=by rw[e2];rfl
   rwa[List.getElem?_drop,Nat.add_zero]at this
  rcases b5 with b5|b5
  ·omega
  ·rw[gh (c:=c) (x:=x) (y:=y) (by rw[show p-i=m+(s-1) by omega,vh _ (by omega)];exact hx) (by rw[show i=a+(i-a) by omega,mo _ (by omega)];exact hy)]at b5;exact .inl (Classical.not_not.1 b5)
set_option maxHeartbeats 4000000 in
theorem OZ(hC:A0 enc w0 b 96 S c)(mg:TP S c)(A R C:List α)(y:α)(hS:∀z∈y::R,S z)(hR:R.Pairwise (gH c tg))(ht:∀z∈R,tg y<tg z)(h:bB enc w0 w b n cap (A++(y::(R++C))))(a m e:Nat)(ha:A.length=a)(hm:a+1=m)(he:m+R.length=e)(hr:m<e)(hn:n≤1000000) :
 Calls Tryz.prog 129 #[.slice (some ⟨b,0,none⟩) n cap,.int .i64 a,.int .i64 m,.int .i64 e,.func (.func 96) #[] #[]] w (gL c tg enc w0 b n cap A (y::R) C):=by
 have hlen:=h.len;have AU:e≤n:=by rw[←hlen];simp;omega
 have eU:=Qh (fun i hB=>IW (A:=A) (R:=R) (C:=C) (x:=y) (tg:=tg) (i:=i) mg ha hm he hS hR ht hB);have gV:Hid (Dp (fun h=>Kt c (A++(y::(R++C))) h a) m e m e):=Qh ⟨Nat.le_refl _,by omega,Nat.le_refl _,.inl rfl,.inl rfl⟩;have Zg:(A++(y::(R++C)))[a]?=some y:=by rw[←ha,List.getElem?_append_right (Nat.le_refl _)];simp
 have qF:Hid (∀i,m≤i→i<e→∃x,(A++(y::(R++C)))[i]?=some x∧S x):=Qh (fun i h1 h2=>by
  have hg:(A++(y::(R++C)))[i]?=R[i-m]?:=by
   rw[List.getElem?_append_right (by omega),show i-A.length=(i-m)+1 by omega,List.getElem?_cons_succ,List.getElem?_append_left (by omega)]
  have hx:=List.getElem?_eq_getElem (l:=R) (i:=i-m) (by omega)
  exact⟨R[i-m],by rw[hg,hx],hS _ (by simp)⟩)
 have HY:=Qh Zg;have mM:=Qh h;obtain⟨D,hD⟩:∃D,D=A++(y::(R++C)):=⟨_,rfl⟩;have HD:=Qh hD;rw[←hD]at eU gV qF HY mM;have y9:S y:=hS y (by simp);have SR:Hid (∀z∈R,S z):=Qh (fun z hz=>hS z (by simp[hz]));have lU:=Qh hC.shape;have cL:=Qh hC.call;have HA:=Qh ha;clear hS hR ht h ha he hlen Zg hD hC mg;have r0:(m:Int)-(a:Int)=1:=by omega
 have ham:a<m:=by omega
 have HM:=Qh hm;clear hm;go_enter Tryz.func129,Tryz.ntmps129;go_wp2_with fail;clear r0;go_loopw [10,11] (fun s t wr=>∃i j:Nat,s=.int .i64 i∧t=.int .i64 j∧m≤i∧i≤j∧j≤e∧Hid (Dp (fun h=>Kt c D h a) m e i j)∧Hid (bB enc w0 wr b n cap D)) (fun s t _=>(intOf t).toNat-(intOf s).toNat)
 case atStart=>exact⟨m,e,rfl,rfl,by omega,by omega,by omega,gV,mM⟩
 case round=>
  obtain⟨i,j,rfl,rfl,O0,hij,O1,HB,cO⟩:=hrel
  by_cases hlt:i<j
  ·obtain⟨h,hh⟩:∃h:Nat,(i+j)/2=h:=⟨_,rfl⟩;have e1:((i:Int)+(j:Int))/2=(h:Int):=by omega
   obtain⟨x,hx,yZ⟩:=qF.out h (by omega) (by omega);have hcx:=cO.out.jW hx;have ol:=cO.out.jW HY.out;have dw:=Qh (fun hz:c x y<0=>HB.out.right (h:=h) (by omega) (by omega) ((gh hx HY.out).2 hz));have nu:=Qh (fun hz:¬c x y<0=>HB.out.left (h:=h) (by omega) (by omega) (fun hq=>hz ((gh hx HY.out).1 hq)));clear hx;have kj:b<wr.heap.size:=cO.out.lt;have HC:=Qh (cL.out wr.drew x y (cO.out.aX.drewN 1) yZ y9);have Dm:=lU.out x yZ;have Dn:=lU.out y y9;obtain⟨z,hz⟩:∃z,c x y=z:=⟨_,rfl⟩;have HZ:=Qh hz;rw[hz]at HC;clear hz
   obtain⟨p1,m1,c1,ex⟩:=Dm;obtain⟨p2,m2,c2,ey⟩:=Dn;obtain⟨X9,eX⟩:∃X9,enc x=X9:=⟨_,rfl⟩;obtain⟨Y9,eY⟩:∃Y9,enc y=Y9:=⟨_,rfl⟩;rw[eX]at hcx ex HC;rw[eY]at ol ey HC;clear eX eY;obtain⟨⟨k1,i1,g1,n1,dr,a1,gY,s1⟩,v1⟩:=X9;obtain⟨⟨k2,i2,g2,n2,cU,a2,fW,s2⟩,v2⟩:=Y9;dsimp only at hcx ol HC ex ey;subst ex;subst ey;have ig:=Qh hcx;have dU:=Qh ol;unfold aj aM at HC;dsimp only at HC;obtain⟨x0,x1,x2,x3,x4,x5,x6,x7,x8⟩:=hcx;obtain⟨y0,y1,y2,y3,y4,y5,y6,y7,y8⟩:=ol;dsimp only at x0 x1 x2 x3 x4 x5 x6 x7 x8 y0 y1 y2 y3 y4 y5 y6 y7 y8;rw[HZ.out]at dw nu
   have r1:(h:Int)<(n:Int):=by omega
   have r2:(0:Int)≤(h:Int):=by omega
   have r3:(a:Int)<(n:Int):=by omega
   have b1:i≤h:=by omega
   have b2:h<j:=by omega
   clear hh
   by_cases hlz:z<0
   ·have q1:decide (z<0)=true:=decide_eq_true hlz;have wQ:=Qh (dw.out hlz);clear dw nu HB;go_wp2_with fail
    go_region_held3 (fun w'=>(w'.cell? ⟨b,h*9,none⟩=some (.int .i64 k1)∧w'.cell? ⟨b,h*9+1,none⟩=some (.int .i64 i1)∧w'.cell? ⟨b,h*9+1+1,none⟩=some (.int .i64 g1)∧w'.cell? ⟨b,h*9+1+1+1,none⟩=some (.string n1)∧w'.cell? ⟨b,h*9+1+1+1+1,none⟩=some (.string dr)∧w'.cell? ⟨b,h*9+1+1+1+1+1,none⟩=some (.int .i64 a1)∧w'.cell? ⟨b,h*9+1+1+1+1+1+1,none⟩=some (.slice p1 m1 c1)∧w'.cell? ⟨b,h*9+1+1+1+1+1+1+1,none⟩=some (.string gY)∧w'.cell? ⟨b,h*9+1+1+1+1+1+1+1+1,none⟩=some (.int .i64 s1))∧w'.cell? ⟨b,a*9,none⟩=some (.int .i64 k2)∧w'.cell? ⟨b,a*9+1,none⟩=some (.int .i64 i2)∧w'.cell? ⟨b,a*9+1+1,none⟩=some (.int .i64 g2)∧w'.cell? ⟨b,a*9+1+1+1,none⟩=some (.string n2)∧w'.cell? ⟨b,a*9+1+1+1+1,none⟩=some (.string cU)∧w'.cell? ⟨b,a*9+1+1+1+1+1,none⟩=some (.int .i64 a2)∧w'.cell? ⟨b,a*9+1+1+1+1+1+1,none⟩=some (.slice p2 m2 c2)∧w'.cell? ⟨b,a*9+1+1+1+1+1+1+1,none⟩=some (.string fW)∧w'.cell? ⟨b,a*9+1+1+1+1+1+1+1+1,none⟩=some (.int .i64 s2)) (go_keep)
     (first
       | (go_at_call 96;(with_reducible refine HC.out.mono ?_);rintro e5 w5 ⟨rfl,eS⟩;have nh:=Qh (ig.out.same (eS.block b kj));have kZ:=Qh (dU.out.same (eS.block b kj));obtain⟨z0,z1,z2,z3,z4,z5,z6,z7,z8⟩:=nh.out;obtain⟨t0,t1,t2,t3,t4,t5,t6,t7,t8⟩:=kZ.out;dsimp only at z0 z1 z2 z3 z4 z5 z6 z7 z8 t0 t1 t2 t3 t4 t5 t6 t7 t8))
    have Ds:=Qh ((cO.out.drewN 1).below eS cO.out.aX.size);clear eS HC ig dU nh kZ cO x0 x1 x2 x3 x4 x5 x6 x7 x8 y0 y1 y2 y3 y4 y5 y6 y7 y8 kj;go_wp2_with fail;go_roundw
    case rel=>exact⟨h+1,j,by go_num,rfl,by omega,by omega,O1,wQ,Ds⟩
    case measure=>simp[intOf];omega
   ·have q1:decide (z<0)=false:=decide_eq_false hlz;have wQ:=Qh (nu.out hlz);clear dw nu HB;go_wp2_with fail
    go_region_held3 (fun w'=>(w'.cell? ⟨b,h*9,none⟩=some (.int .i64 k1)∧w'.cell? ⟨b,h*9+1,none⟩=some (.int .i64 i1)∧w'.cell? ⟨b,h*9+1+1,none⟩=some (.int .i64 g1)∧w'.cell? ⟨b,h*9+1+1+1,none⟩=some (.string n1)∧w'.cell? ⟨b,h*9+1+1+1+1,none⟩=some (.string dr)∧w'.cell? ⟨b,h*9+1+1+1+1+1,none⟩=some (.int .i64 a1)∧w'.cell? ⟨b,h*9+1+1+1+1+1+1,none⟩=some (.slice p1 m1 c1)∧w'.cell? ⟨b,h*9+1+1+1+1+1+1+1,none⟩=some (.string gY)∧w'.cell? ⟨b,h*9+1+1+1+1+1+1+1+1,none⟩=some (.int .i64 s1))∧w'.cell? ⟨b,a*9,none⟩=some (.int .i64 k2)∧w'.cell? ⟨b,a*9+1,none⟩=some (.int .i64 i2)∧w'.cell? ⟨b,a*9+1+1,none⟩=some (.int .i64 g2)∧w'.cell? ⟨b,a*9+1+1+1,none⟩=some (.string n2)∧w'.cell? ⟨b,a*9+1+1+1+1,none⟩=some (.string cU)∧w'.cell? ⟨b,a*9+1+1+1+1+1,none⟩=some (.int .i64 a2)∧w'.cell? ⟨b,a*9+1+1+1+1+1+1,none⟩=some (.slice p2 m2 c2)∧w'.cell? ⟨b,a*9+1+1+1+1+1+1+1,none⟩=some (.string fW)∧w'.cell? ⟨b,a*9+1+1+1+1+1+1+1+1,none⟩=some (.int .i64 s2)) (go_keep)
     (first
       | (go_at_call 96;(with_reducible refine HC.out.mono ?_);rintro e5 w5 ⟨rfl,eS⟩;have nh:=Qh (ig.out.same (eS.block b kj));have kZ:=Qh (dU.out.same (eS.block b kj));obtain⟨z0,z1,z2,z3,z4,z5,z6,z7,z8⟩:=nh.out;obtain⟨t0,t1,t2,t3,t4,t5,t6,t7,t8⟩:=kZ.out;dsimp only at z0 z1 z2 z3 z4 z5 z6 z7 z8 t0 t1 t2 t3 t4 t5 t6 t7 t8))
    have Ds:=Qh ((cO.out.drewN 1).below eS cO.out.aX.size);clear eS HC ig dU nh kZ cO x0 x1 x2 x3 x4 x5 x6 x7 x8 y0 y1 y2 y3 y4 y5 y6 y7 y8 kj;go_wp2_with fail;go_roundw
    case rel=>exact⟨i,h,rfl,rfl,O0,by omega,by omega,wQ,Ds⟩
    case measure=>simp[intOf];omega
  ·obtain rfl:i=j:=by omega
   obtain⟨R1,R2,hR,hl,hs⟩:=eU.out i HB.out;have hrow:=cO.out;rw[HD.out,hR]at hrow;have ze:Hid (∃T1 T2,R1=T1++T2∧a+T1.length=a∧bB enc w0 wr b n cap (A++(T1++(y::(T2++(R2++C)))))):=Qh ⟨[],R1,rfl,rfl,by simpa using hrow⟩
   have oU:Hid (∀(w':World) (k:Nat),a≤k→k+1<i→(∃T1 T2,R1=T1++T2∧a+T1.length=k∧bB enc w0 w' b n cap (A++(T1++(y::(T2++(R2++C))))))→∃P x Q,S x∧P.length=k∧bB enc w0 w' b n cap (P++y::([]++x::Q))∧∀w'',bB enc w0 w'' b n cap (P++x::([]++y::Q))→∃T1 T2,R1=T1++T2∧a+T1.length=k+1∧bB enc w0 w'' b n cap (A++(T1++(y::(T2++(R2++C)))))):=Qh (by
    rintro w' k h1 h2 ⟨T1,T2,g1,g2,g3⟩
    have hm':=HM.out
    cases T2 with
    | nil=>simp at g1;subst g1;omega
    | cons x T2 =>
     refine⟨A++T1,x,T2++(R2++C),SR.out x (by rw[hR,g1];simp),by have:=HA.out;simp;omega,by simpa using g3,fun w'' hw=>?_⟩
     exact⟨T1++[x],T2,by simp[g1],by simp;omega,by simpa using hw⟩)
   have oV:Hid (∀(w':World) (k:Nat),k+1=i→(∃T1 T2,R1=T1++T2∧a+T1.length=k∧bB enc w0 w' b n cap (A++(T1++(y::(T2++(R2++C))))))→∃M',M'.Perm (y::R)∧M'.Pairwise (gH c tg)∧bB enc w0 w' b n cap (A++(M'++C))):=Qh (by
    rintro w' k h1 ⟨T1,T2,g1,g2,g3⟩
    have hm':=HM.out
    have hT:T2=[]:=by
     have:=congrArg List.length g1
     simp at this
     exact List.eq_nil_of_length_eq_zero (by omega)
    subst hT
    rw[List.append_nil]at g1
    subst g1
    exact⟨R1++y::R2,by rw[hR];exact List.perm_middle,hs,by simpa using g3⟩)
   have hie:i≤n:=by omega
   clear hR hl hs hrow eU HB cO qF HY HD mM gV cL;go_wp2_with fail;obtain⟨wo,rfl⟩:∃wo:World,wo=wr:=⟨_,rfl⟩;go_loopw [13] (fun s wr=>∃k:Nat,s=.int .i64 k∧a≤k∧k+1≤i∧Hid (∃T1 T2,R1=T1++T2∧a+T1.length=k∧bB enc w0 wr b n cap (A++(T1++(y::(T2++(R2++C))))))) (fun s _=>i-(intOf s).toNat)
   case atStart=>exact⟨a,rfl,by omega,by omega,ze⟩
   case round=>
    obtain⟨k,rfl,Zh,hki,HR⟩:=hrel
    by_cases hlk:k+1<i
    ·obtain⟨P,x,Q,yZ,hP,iC,Bk⟩:=oU.out wr k Zh hlk HR.out;have rA:=Qh Bk;have Dm:=lU.out y y9;have Dn:=lU.out x yZ;have hcx:Cells wr b (k*9) (enc y).1 (enc y).2:=iC.pP hP;have ol:Cells wr b ((k+1)*9) (enc x).1 (enc x).2:=iC.Bj (by simp[hP]);have wG:Hid (∀o,wr.frozen? ⟨b,o,none⟩=false):=Qh (fun o=>iC.frozen o);have kj:b<wr.heap.size:=iC.lt;have bP:=iC.E0 hP (j:=k+1) (by simp[hP]);obtain⟨p1,m1,c1,ex⟩:=Dm;obtain⟨p2,m2,c2,ey⟩:=Dn;obtain⟨X9,eX⟩:∃X9,enc y=X9:=⟨_,rfl⟩;obtain⟨Y9,eY⟩:∃Y9,enc x=Y9:=⟨_,rfl⟩;have Kq:=Qh eX
     have Kr:=Qh eY;rw[eX]at hcx ex;rw[eY]at ol ey;obtain⟨⟨k1,i1,g1,n1,dr,a1,gY,s1⟩,v1⟩:=X9;obtain⟨⟨k2,i2,g2,n2,cU,a2,fW,s2⟩,v2⟩:=Y9;dsimp only at hcx ol ex ey;subst ex;subst ey;clear eX eY;rw[Kq.out,Kr.out]at bP;unfold pW at bP;dsimp only at bP;have HF:=Qh (rA.out _ bP);obtain⟨x0,x1,x2,x3,x4,x5,x6,x7,x8⟩:=hcx;obtain⟨y0,y1,y2,y3,y4,y5,y6,y7,y8⟩:=ol;dsimp only at x0 x1 x2 x3 x4 x5 x6 x7 x8 y0 y1 y2 y3 y4 y5 y6 y7 y8;have hfz:=wG.out;have r1:(k:Int)+1<(n:Int):=by omega
     have r2:(k:Int)<(n:Int):=by omega
     have r3:(0:Int)≤(k:Int)+1:=by omega
     have r4:((k:Int)+1).toNat=k+1:=by omega
     have r5:IntKind.i64.wrap ((k:Int)+1)=(k:Int)+1:=IntWalk.i64_in _ (by omega);clear hP iC Bk bP wG Kq Kr rA oU oV;go_wp2_with fail;go_big_region
     go_wp2_with fail;go_roundw
     case rel=>exact⟨k+1,by go_num,by omega,by omega,HF⟩
     case measure=>simp[intOf];omega
    ·have HF:=Qh (oV.out wr k (by omega) HR.out);clear oV oU;go_wp2_with fail;go_end0
     exact⟨rfl,HF.out⟩
variable {α:Type}{enc:α→TF×Value}{w0 wr w:World}{b n cap:Nat}{d:List α}{S:α→Prop}{c:α→α→Int}{tg:α→Nat}
set_option maxHeartbeats 8000000 in
theorem O2(hC:A0 enc w0 b 96 S c)(mg:TP S c)(A L C:List α)(x:α)(hS:∀z∈L++[x],S z)(hL:L.Pairwise (gH c tg))(ht:∀z∈L,tg z<tg x)(h:bB enc w0 w b n cap (A++(L++(x::C))))(a m e:Nat)(ha:A.length=a)(hm:a+L.length=m)(he:m+1=e)(hl:a+1<m)(hn:n≤1000000) :
 Calls Tryz.prog 129 #[.slice (some ⟨b,0,none⟩) n cap,.int .i64 a,.int .i64 m,.int .i64 e,.func (.func 96) #[] #[]] w (gL c tg enc w0 b n cap A (L++[x]) C):=by
 have hlen:=h.len;have AU:e≤n:=by rw[←hlen];simp;omega
 have eU:=Qh (fun i hB=>Gc (A:=A) (L:=L) (C:=C) (y:=x) (tg:=tg) (i:=i) mg ha hm hS hL ht hB);have gV:Hid (Dp (fun h=>¬Kt c (A++(L++(x::C))) m h) a m a m):=Qh ⟨Nat.le_refl _,by omega,Nat.le_refl _,.inl rfl,.inl rfl⟩;have hmx:(A++(L++(x::C)))[m]?=some x:=by rw[←hm,←ha,←List.length_append,←List.append_assoc,List.getElem?_append_right (Nat.le_refl _)];simp
 have qF:Hid (∀i,a≤i→i<m→∃y,(A++(L++(x::C)))[i]?=some y∧S y):=Qh (fun i h1 h2=>by
  have hg:(A++(L++(x::C)))[i]?=L[i-a]?:=by
   rw[List.getElem?_append_right (by omega),show i-A.length=i-a by omega,List.getElem?_append_left (by omega)]
  have hx:=List.getElem?_eq_getElem (l:=L) (i:=i-a) (by omega)
  exact⟨L[i-a],by rw[hg,hx],hS _ (by simp)⟩)
 have HX:=Qh hmx;have mM:=Qh h;obtain⟨D,hD⟩:∃D,D=A++(L++(x::C)):=⟨_,rfl⟩;have HD:=Qh hD;rw[←hD]at eU gV qF HX mM;have yZ:S x:=hS x (by simp);have SS:Hid (∀z∈L,S z):=Qh (fun z hz=>hS z (by simp[hz]));have lU:=Qh hC.shape;have cL:=Qh hC.call;have HA:=Qh ha;have HM:=Qh hm;obtain⟨l0,Sn⟩:∃l0:Nat,a+l0=m:=⟨L.length,hm⟩;clear hS hL ht h ha hlen hmx hD hC mg hm;have r0:(m:Int)-(a:Int)=(l0:Int):=by omega
 have t0:¬((l0:Int)=1):=by omega
 have t1:((l0:Int)==1)=false:=by simpa using t0
 have r1:(e:Int)-(m:Int)=1:=by omega
 clear Sn;have hme:m<e:=by omega
 clear he;go_enter Tryz.func129,Tryz.ntmps129;go_wp2_with fail;clear r0 r1 t0 t1;go_loopw [14,15] (fun s t wr=>∃i j:Nat,s=.int .i64 i∧t=.int .i64 j∧a≤i∧i≤j∧j≤m∧Hid (Dp (fun h=>¬Kt c D m h) a m i j)∧Hid (bB enc w0 wr b n cap D)) (fun s t _=>(intOf t).toNat-(intOf s).toNat)
 case atStart=>exact⟨a,m,rfl,rfl,by omega,by omega,by omega,gV,mM⟩
 case round=>
  obtain⟨i,j,rfl,rfl,O0,hij,O1,HB,cO⟩:=hrel
  by_cases hlt:i<j
  ·obtain⟨h,hh⟩:∃h:Nat,(i+j)/2=h:=⟨_,rfl⟩;have e1:((i:Int)+(j:Int))/2=(h:Int):=by omega
   obtain⟨y,hy,y9⟩:=qF.out h (by omega) (by omega);have hcx:=cO.out.jW HX.out;have ol:=cO.out.jW hy;have dw:=Qh (fun hz:¬c x y<0=>HB.out.right (h:=h) (by omega) (by omega) (fun hq=>hz ((gh HX.out hy).1 hq)));have nu:=Qh (fun hz:c x y<0=>HB.out.left (h:=h) (by omega) (by omega) (fun hq=>hq ((gh HX.out hy).2 hz)));clear hy;have kj:b<wr.heap.size:=cO.out.lt;have HC:=Qh (cL.out wr.drew x y (cO.out.aX.drewN 1) yZ y9);have Dm:=lU.out x yZ;have Dn:=lU.out y y9;obtain⟨z,hz⟩:∃z,c x y=z:=⟨_,rfl⟩;have HZ:=Qh hz;rw[hz]at HC;clear hz
   obtain⟨p1,m1,c1,ex⟩:=Dm;obtain⟨p2,m2,c2,ey⟩:=Dn;obtain⟨X9,eX⟩:∃X9,enc x=X9:=⟨_,rfl⟩;obtain⟨Y9,eY⟩:∃Y9,enc y=Y9:=⟨_,rfl⟩;rw[eX]at hcx ex HC;rw[eY]at ol ey HC;clear eX eY;obtain⟨⟨k1,i1,g1,n1,dr,a1,gY,s1⟩,v1⟩:=X9;obtain⟨⟨k2,i2,g2,n2,cU,a2,fW,s2⟩,v2⟩:=Y9;dsimp only at hcx ol HC ex ey;subst ex;subst ey;have ig:=Qh hcx;have dU:=Qh ol;unfold aj aM at HC;dsimp only at HC;obtain⟨x0,x1,x2,x3,x4,x5,x6,x7,x8⟩:=hcx;obtain⟨y0,y1,y2,y3,y4,y5,y6,y7,y8⟩:=ol;dsimp only at x0 x1 x2 x3 x4 x5 x6 x7 x8 y0 y1 y2 y3 y4 y5 y6 y7 y8;rw[HZ.out]at dw nu
   have r1:(h:Int)<(n:Int):=by omega
   have r2:(0:Int)≤(h:Int):=by omega
   have r3:(m:Int)<(n:Int):=by omega
   have b1:i≤h:=by omega
   have b2:h<j:=by omega
   clear hh
   by_cases hlz:z<0
   ·have q1:decide (z<0)=true:=decide_eq_true hlz;have wQ:=Qh (nu.out hlz);clear dw nu HB;go_wp2_with fail
    go_region_held3 (fun w'=>(w'.cell? ⟨b,m*9,none⟩=some (.int .i64 k1)∧w'.cell? ⟨b,m*9+1,none⟩=some (.int .i64 i1)∧w'.cell? ⟨b,m*9+1+1,none⟩=some (.int .i64 g1)∧w'.cell? ⟨b,m*9+1+1+1,none⟩=some (.string n1)∧w'.cell? ⟨b,m*9+1+1+1+1,none⟩=some (.string dr)∧w'.cell? ⟨b,m*9+1+1+1+1+1,none⟩=some (.int .i64 a1)∧w'.cell? ⟨b,m*9+1+1+1+1+1+1,none⟩=some (.slice p1 m1 c1)∧w'.cell? ⟨b,m*9+1+1+1+1+1+1+1,none⟩=some (.string gY)∧w'.cell? ⟨b,m*9+1+1+1+1+1+1+1+1,none⟩=some (.int .i64 s1))∧w'.cell? ⟨b,h*9,none⟩=some (.int .i64 k2)∧w'.cell? ⟨b,h*9+1,none⟩=some (.int .i64 i2)∧w'.cell? ⟨b,h*9+1+1,none⟩=some (.int .i64 g2)∧w'.cell? ⟨b,h*9+1+1+1,none⟩=some (.string n2)∧w'.cell? ⟨b,h*9+1+1+1+1,none⟩=some (.string cU)∧w'.cell? ⟨b,h*9+1+1+1+1+1,none⟩=some (.int .i64 a2)∧w'.cell? ⟨b,h*9+1+1+1+1+1+1,none⟩=some (.slice p2 m2 c2)∧w'.cell? ⟨b,h*9+1+1+1+1+1+1+1,none⟩=some (.string fW)∧w'.cell? ⟨b,h*9+1+1+1+1+1+1+1+1,none⟩=some (.int .i64 s2)) (go_keep)
     (first
       | (go_at_call 96;(with_reducible refine HC.out.mono ?_);rintro e5 w5 ⟨rfl,eS⟩;have nh:=Qh (ig.out.same (eS.block b kj));have kZ:=Qh (dU.out.same (eS.block b kj));obtain⟨z0,z1,z2,z3,z4,z5,z6,z7,z8⟩:=nh.out;obtain⟨t0,t1,t2,t3,t4,t5,t6,t7,t8⟩:=kZ.out;dsimp only at z0 z1 z2 z3 z4 z5 z6 z7 z8 t0 t1 t2 t3 t4 t5 t6 t7 t8))
    have Ds:=Qh ((cO.out.drewN 1).below eS cO.out.aX.size);clear eS HC ig dU nh kZ cO x0 x1 x2 x3 x4 x5 x6 x7 x8 y0 y1 y2 y3 y4 y5 y6 y7 y8 kj;go_wp2_with fail;go_roundw
    case rel=>exact⟨i,h,rfl,rfl,O0,by omega,by omega,wQ,Ds⟩
    case measure=>simp[intOf];omega
   ·have q1:decide (z<0)=false:=decide_eq_false hlz;have wQ:=Qh (dw.out hlz);clear dw nu HB;go_wp2_with fail
    go_region_held3 (fun w'=>(w'.cell? ⟨b,m*9,none⟩=some (.int .i64 k1)∧w'.cell? ⟨b,m*9+1,none⟩=some (.int .i64 i1)∧w'.cell? ⟨b,m*9+1+1,none⟩=some (.int .i64 g1)∧w'.cell? ⟨b,m*9+1+1+1,none⟩=some (.string n1)∧w'.cell? ⟨b,m*9+1+1+1+1,none⟩=some (.string dr)∧w'.cell? ⟨b,m*9+1+1+1+1+1,none⟩=some (.int .i64 a1)∧w'.cell? ⟨b,m*9+1+1+1+1+1+1,none⟩=some (.slice p1 m1 c1)∧w'.cell? ⟨b,m*9+1+1+1+1+1+1+1,none⟩=some (.string gY)∧w'.cell? ⟨b,m*9+1+1+1+1+1+1+1+1,none⟩=some (.int .i64 s1))∧w'.cell? ⟨b,h*9,none⟩=some (.int .i64 k2)∧w'.cell? ⟨b,h*9+1,none⟩=some (.int .i64 i2)∧w'.cell? ⟨b,h*9+1+1,none⟩=some (.int .i64 g2)∧w'.cell? ⟨b,h*9+1+1+1,none⟩=some (.string n2)∧w'.cell? ⟨b,h*9+1+1+1+1,none⟩=some (.string cU)∧w'.cell? ⟨b,h*9+1+1+1+1+1,none⟩=some (.int .i64 a2)∧w'.cell? ⟨b,h*9+1+1+1+1+1+1,none⟩=some (.slice p2 m2 c2)∧w'.cell? ⟨b,h*9+1+1+1+1+1+1+1,none⟩=some (.string fW)∧w'.cell? ⟨b,h*9+1+1+1+1+1+1+1+1,none⟩=some (.int .i64 s2)) (go_keep)
     (first
       | (go_at_call 96;(with_reducible refine HC.out.mono ?_);rintro e5 w5 ⟨rfl,eS⟩;have nh:=Qh (ig.out.same (eS.block b kj));have kZ:=Qh (dU.out.same (eS.block b kj));obtain⟨z0,z1,z2,z3,z4,z5,z6,z7,z8⟩:=nh.out;obtain⟨t0,t1,t2,t3,t4,t5,t6,t7,t8⟩:=kZ.out;dsimp only at z0 z1 z2 z3 z4 z5 z6 z7 z8 t0 t1 t2 t3 t4 t5 t6 t7 t8))
    have Ds:=Qh ((cO.out.drewN 1).below eS cO.out.aX.size);clear eS HC ig dU nh kZ cO x0 x1 x2 x3 x4 x5 x6 x7 x8 y0 y1 y2 y3 y4 y5 y6 y7 y8 kj;go_wp2_with fail;go_roundw
    case rel=>exact⟨h+1,j,by go_num,rfl,by omega,by omega,O1,wQ,Ds⟩
    case measure=>simp[intOf];omega
  ·obtain rfl:i=j:=by omega
   obtain⟨L1,L2,hL,hl',hs⟩:=eU.out i HB.out;have hrow:=cO.out;rw[HD.out,hL]at hrow;have ze:Hid (∃T1 T2,L2=T1++T2∧i+T1.length=m∧bB enc w0 wr b n cap (A++(L1++(T1++(x::(T2++C)))))):=Qh ⟨L2,[],by simp,by have:=HM.out;rw[hL]at this;simp at this;omega,by simpa using hrow⟩
   have oU:Hid (∀(w':World) (k:Nat),i<k→(∃T1 T2,L2=T1++T2∧i+T1.length=k∧bB enc w0 w' b n cap (A++(L1++(T1++(x::(T2++C))))))→∃jp P y Q,k=jp+1∧S y∧P.length=jp∧bB enc w0 w' b n cap (P++y::x::Q)∧∀w'',bB enc w0 w'' b n cap (P++x::y::Q)→∃T1 T2,L2=T1++T2∧i+T1.length=jp∧bB enc w0 w'' b n cap (A++(L1++(T1++(x::(T2++C)))))):=Qh (by
    rintro w' k h1 ⟨T1,T2,g1,g2,g3⟩
    rcases List.eq_nil_or_concat T1 with rfl|⟨T1,y,rfl⟩
    ·simp at g2;omega
    ·rw[List.concat_eq_append]at*
     refine⟨i+T1.length,A++(L1++T1),y,T2++C,by simp at g2;omega,SS.out y (by rw[hL,g1];simp),by have:=HA.out;simp;omega,by simpa using g3,fun w'' hw=>?_⟩
     exact⟨T1,y::T2,by simp[g1],rfl,by simpa using hw⟩)
   have oV:Hid (∀(w':World),(∃T1 T2,L2=T1++T2∧i+T1.length=i∧bB enc w0 w' b n cap (A++(L1++(T1++(x::(T2++C))))))→∃M',M'.Perm (L++[x])∧M'.Pairwise (gH c tg)∧bB enc w0 w' b n cap (A++(M'++C))):=Qh (by
    rintro w' ⟨T1,T2,g1,g2,g3⟩
    have hT:T1=[]:=List.eq_nil_of_length_eq_zero (by omega)
    subst hT
    rw[List.nil_append]at g1
    subst g1
    exact⟨L1++x::L2,by rw[hL];exact(List.perm_middle).trans (List.perm_append_singleton x (L1++L2)).symm,hs,by simpa using g3⟩)
   clear hL hl' hs hrow eU HB cO qF HX HD mM gV cL;go_wp2_with fail;obtain⟨wo,rfl⟩:∃wo:World,wo=wr:=⟨_,rfl⟩;go_loopw [17] (fun s wr=>∃k:Nat,s=.int .i64 k∧i≤k∧k≤m∧Hid (∃T1 T2,L2=T1++T2∧i+T1.length=k∧bB enc w0 wr b n cap (A++(L1++(T1++(x::(T2++C))))))) (fun s _=>(intOf s).toNat)
   case atStart=>exact⟨m,rfl,by omega,by omega,ze⟩
   case round=>
    obtain⟨k,rfl,Zh,hki,HR⟩:=hrel
    by_cases hlk:i<k
    ·obtain⟨jp,P,y,Q,rfl,y9,hP,iC,Bk⟩:=oU.out wr k hlk HR.out;have rA:=Qh Bk;have Dm:=lU.out x yZ;have Dn:=lU.out y y9;have hcx:Cells wr b ((jp+1)*9) (enc x).1 (enc x).2:=bB.pP (P:=P++[y]) (Q:=Q) (by simpa using iC) (by simp[hP]);have ol:Cells wr b (jp*9) (enc y).1 (enc y).2:=iC.pP hP;have wG:Hid (∀o,wr.frozen? ⟨b,o,none⟩=false):=Qh (fun o=>iC.frozen o);have kj:b<wr.heap.size:=iC.lt;have bP:=iC.EY hP;obtain⟨p1,m1,c1,ex⟩:=Dm;obtain⟨p2,m2,c2,ey⟩:=Dn;obtain⟨X9,eX⟩:∃X9,enc x=X9:=⟨_,rfl⟩
     obtain⟨Y9,eY⟩:∃Y9,enc y=Y9:=⟨_,rfl⟩;have Kq:=Qh eX;have Kr:=Qh eY;rw[eX]at hcx ex;rw[eY]at ol ey;obtain⟨⟨k1,i1,g1,n1,dr,a1,gY,s1⟩,v1⟩:=X9;obtain⟨⟨k2,i2,g2,n2,cU,a2,fW,s2⟩,v2⟩:=Y9;dsimp only at hcx ol ex ey;subst ex;subst ey;clear eX eY;rw[Kq.out,Kr.out]at bP;unfold pW at bP;dsimp only at bP;have HF:=Qh (rA.out _ bP);obtain⟨x0,x1,x2,x3,x4,x5,x6,x7,x8⟩:=hcx;obtain⟨y0,y1,y2,y3,y4,y5,y6,y7,y8⟩:=ol;dsimp only at x0 x1 x2 x3 x4 x5 x6 x7 x8 y0 y1 y2 y3 y4 y5 y6 y7 y8;have hfz:=wG.out;have r1:(i:Int)<(jp:Int)+1:=by omega
     have r2:(jp:Int)+1<(n:Int):=by omega
     have r3:(jp:Int)<(n:Int):=by omega
     have r4:(0:Int)≤(jp:Int)+1:=by omega
     have r5:((jp:Int)+1).toNat=jp+1:=by omega
     have r6:IntKind.i64.wrap (jp:Int)=(jp:Int):=IntWalk.i64_in _ (by omega);clear hP iC Bk bP wG Kq Kr rA oU oV;go_wp2_with fail;go_big_region
     go_wp2_with fail;go_roundw
     case rel=>exact⟨jp,by go_num,by omega,by omega,HF⟩
     case measure=>simp[intOf]
    ·obtain rfl:i=k:=by omega
     have HF:=Qh (oV.out wr HR.out);clear oV oU;go_wp2_with fail;go_end0
     exact⟨rfl,HF.out⟩
end tm
end Go.Proofs.YtfbggmbmgohiiaaGreat
