/- TmC,TmD. No condition beyond theirs. -/
import Derived.Test.YtfbggmbmgohiiaaGreatR01
set_option linter.unusedSimpArgs false
set_option linter.unusedVariables false
set_option maxHeartbeats 1000000
set_option maxRecDepth 100000
namespace Go.Proofs.YtfbggmbmgohiiaaGreat.tm
open Go.RowKit mem
theorem r_{α:Type}{a b:List α}{k:Nat}(h:a.take k=b.take k)(ha:k<a.length)(hb:k<b.length)(e:a[k]=b[k]):a.take (k+1)=b.take (k+1):=by
 rw[List.take_succ_eq_append_getElem ha,List.take_succ_eq_append_getElem hb,h,e]
theorem yA{α:Type}{a b:List α}{k:Nat}(ha:k<a.length)(hb:k<b.length)(e:a[k]≠b[k]):a≠b:=by
 intro h;subst h;exact e rfl
theorem sameZero:Af 0:=by
 intro w B v1 v2 a b hB h1 h2;obtain⟨p1,c1,rfl,dF⟩:=h1;obtain⟨p2,c2,rfl,eK⟩:=h2;rw[Tm.js a,Tm.js b,eR rfl];go_enter Tryz.func61,Tryz.ntmps61;go_wp2_with fail;refine wp_loop_rounds 1 ?_;rw[rounds_succ];go_wp2_with fail;go_ret;exact⟨rfl,Below.refl _ _⟩
theorem GY{n:Nat}(ih:Af n):Af (n+1):=by
 intro w B v1 v2 a b hB h1 h2;obtain⟨p1,c1,e1,dF,hm1⟩:=h1.shape;obtain⟨p2,c2,e2,eK,hm2⟩:=h2.shape;unfold maxLen at hm1 hm2
 by_cases hl:a.length=b.length
 ·have hd:(((a.length:Nat):Int) != ((b.length:Nat):Int))=false:=by simp[hl]
  have HL:=Qh hl;clear hl;have H1:=Qh h1;clear h1;have H2:=Qh h2;clear h2;subst e1;subst e2;go_enter Tryz.func61,Tryz.ntmps61;go_wp2_with fail;go_loopw [5] (fun s wr=>∃k:Nat,s=.int .i64 k∧k≤a.length∧Hid (a.take k=b.take k)∧Qb w wr) (fun s _=>a.length-(intOf s).toNat)
  case atStart=>exact⟨0,rfl,by omega,Qh rfl,Below.refl _ _⟩
  case round=>
   obtain⟨k,rfl,hk,ht,hb⟩:=hrel
   by_cases hlt:k<a.length
   ·have hkb:k<b.length:=by have:=HL.out;omega
    obtain⟨g1,o1,NA,e1,_,_,sg,hx1⟩:=(H1.out.below hb hB).at_ (by intro e;subst e;simp at hlt);obtain⟨g2,o2,QX,e2,_,_,nW,rV⟩:=(H2.out.below hb hB).at_ (by intro e;subst e;simp at hkb);simp only[Value.slice.injEq]at e1 e2;obtain⟨rfl,_,rfl⟩:=e1;obtain⟨rfl,_,rfl⟩:=e2;obtain⟨u1,kq,eW⟩:=hx1 k hlt;obtain⟨u2,nM,gR⟩:=rV k hkb;have hS:=fun(W:World) (hW:Below w.heap.size wr W)=>Ag ih W B u1 u2 a[k] b[k] (by have:=hW.size;have:=hb.size;omega) (eW.below hW hB) (gR.below hW hB);obtain⟨x0,x1,x2,x3,x4,x5,x6,x7,x8⟩:=kq;obtain⟨y0,y1,y2,y3,y4,y5,y6,y7,y8⟩:=nM
    have hys:a[k]=b[k]→a.take (k+1)=b.take (k+1):=fun e=>r_ ht.out hlt hkb e;have hno:a[k]≠b[k]→dL a b=false:=fun e=>gX (yA hlt hkb e);have Rq:=Qh hys;clear hys;have FA:=Qh hno;clear hno;clear hx1 rV eW gR;unfold aj at hS;have HS:=Qh hS;clear hS;generalize a[k]=x,b[k]=y at*;generalize x.f=xf,y.f=yf at*;have hb':Below w.heap.size wr wr.drew:=⟨rfl,rfl,rfl,Nat.le_refl _,fun _ _=>rfl⟩;go_wp2_with fail;go_still_tail 8,(by kernel_rfl)
    change wpList _ _ _ _ _ wr.drew;have hS:=HS.out wr.drew hb';have a_:Qb w wr.drew:=hb.trans hb';clear x0 x1 x2 x3 x4 x5 x6 x7 x8 y0 y1 y2 y3 y4 y5 y6 y7 y8;have hz:=a_.size;generalize wr.drew=w2 at*;go_wp2_with fail;refine hS.mono ?_;rintro e w3 ⟨rfl,bN⟩;have dS:Qb w w3:=a_.trans (bN.mono hz)
    by_cases e:x=y
    ·rw[eR e];have HT:=Qh (Rq.out e);clear hS;go_wp2_with fail;go_roundw
     case rel=>exact⟨k+1,by go_num,by omega,HT,dS⟩
     case measure=>simp[intOf];omega
    ·rw[gX e];have HN:=Qh (FA.out e);clear hS;go_wp2_with fail;go_ret;exact⟨gN HN.out.symm,dS⟩
   ·have bP:a=b:=by
     have:=ht.out;rwa[List.take_of_length_le (by omega),List.take_of_length_le (by have:=HL.out;omega)]at this
    have HF:=Qh (eR bP);clear bP;go_wp2_with fail;go_ret;exact⟨gN HF.out.symm,hb⟩
 ·have hd:(((a.length:Nat):Int) != ((b.length:Nat):Int))=true:=by simp;omega
  have bP:=gX (fun e:a=b=>hl (by rw[e]));have HF:=Qh bP;clear bP;subst e1;subst e2;go_enter Tryz.func61,Tryz.ntmps61;go_wp2_with fail;go_ret;exact⟨gN HF.out.symm,Below.refl _ _⟩
theorem Ah(n:Nat):Af n:=by
 induction n with
 | zero=>exact sameZero
 | succ n ih=>exact GY ih
theorem qP{n:Nat}(w:World)(B:Nat)(v1 v2:Value)(a b:Tm (n+1))(hB:B≤w.heap.size)(h1:ah w B n v1 a.items)(h2:ah w B n v2 b.items) :
 Calls Tryz.prog 27 #[aj a.f v1,aj b.f v2] w (aV (dL a b) w):=Ag (Ah n) w B v1 v2 a b hB h1 h2
def nN(f:TF)(m:Int):Prop:=m<(f.name.size:Int)∨m<(f.func.size:Int)∨m<(f.bytes.size:Int)
def qQ(f:TF)(m:Int):Int:=m-1-(f.name.size:Int)/8-(f.func.size:Int)/8-(f.bytes.size:Int)/8
instance(f:TF)(m:Int):Decidable (nN f m):=by unfold nN;infer_instance
def dQ{n:Nat}(r:List (Tm n)→Int→Int)(m:Int)(t:Tm (n+1)):Int:=if m<0 then m else if nN t.f m then -1 else r t.items (qQ t.f m)
def cJ:(n:Nat)→List (Tm n)→Int→Int
 | 0,_,m=>m
 | n+1,l,m=>l.foldl (dQ (cJ n)) m
theorem qR(f:TF)(m:Int)(h0:0≤m)(h:¬nN f m):-1≤qQ f m∧qQ f m<m:=by
 unfold nN at h;unfold qQ;omega
theorem Ai{n:Nat}(r:List (Tm n)→Int→Int)(m:Int)(h:m<0):∀(l:List (Tm (n+1))),l.foldl (dQ r) m=m:=by
 intro l
 induction l with
 | nil=>rfl
 | cons t l ih=>rw[List.foldl_cons];unfold dQ at*;rw[if_pos h];exact ih
theorem GZ:∀(n:Nat) (l:List (Tm n)) (m:Int), -1≤m→-1≤cJ n l m∧cJ n l m≤m:=by
 intro n
 induction n with
 | zero=>intro l m h;exact⟨h,Int.le_refl _⟩
 | succ n ih =>
  intro l
  induction l with
  | nil=>intro m h;exact⟨h,Int.le_refl _⟩
  | cons t l ih2 =>
   intro m h;have e:cJ (n+1) (t::l) m=cJ (n+1) l (dQ (cJ n) m t):=rfl;rw[e];have hs:-1≤dQ (cJ n) m t∧dQ (cJ n) m t≤m:=by
    unfold dQ
    split
    ·exact⟨h,Int.le_refl _⟩
    ·rename_i h0
     split
     ·omega
     ·rename_i h1;have:=qR t.f m (by omega) h1;have:=ih t.items (qQ t.f m) this.1;omega
   have:=ih2 _ hs.1;omega
theorem FB{n:Nat}(l:List (Tm (n+1)))(m:Int)(k:Nat)(h:k<l.length):cJ (n+1) (l.take (k+1)) m=dQ (cJ n) (cJ (n+1) (l.take k) m) l[k]:=by
 unfold cJ;rw[List.take_succ_eq_append_getElem h,List.foldl_append];rfl
theorem Aj{n:Nat}(l:List (Tm (n+1)))(m:Int)(k:Nat)(h:k≤l.length)(hn:cJ (n+1) (l.take k) m<0):cJ (n+1) l m=cJ (n+1) (l.take k) m:=by
 have e:cJ (n+1) l m=(l.drop k).foldl (dQ (cJ n)) (cJ (n+1) (l.take k) m):=by
  show l.foldl _ m=_
  conv=>lhs;rw[←List.take_append_drop k l]
  rw[List.foldl_append];rfl
 rw[e,Ai _ _ hn]
def Ee(n:Nat):Prop:=∀(w:World) (B:Nat) (v:Value) (l:List (Tm n)) (m:Int),B≤w.heap.size→-1≤m→m≤10000→ah w B n v l→Calls Tryz.prog 44 #[v,.int .i64 m] w fun e w'=>e=.returned (.int .i64 (cJ n l m))∧Below w.heap.size w w'
theorem G0:Ee 0:=by
 intro w B v l m hB hm0 hm h;obtain⟨p,c,rfl,hc⟩:=h;go_enter Tryz.func44,Tryz.ntmps44;go_wp2_with fail;refine wp_loop_rounds 1 ?_;rw[rounds_succ];go_wp2_with fail
 all_goals
  go_ret;exact⟨rfl,Below.refl _ _⟩
theorem G1{n:Nat}(ih:Ee n):Ee (n+1):=by
 intro w B v l m hB hm0 hm h;obtain⟨p,c,e,hc,gW⟩:=h.shape;subst e;unfold maxLen at gW;have HI:=Qh h;clear h;go_enter Tryz.func44,Tryz.ntmps44;go_wp2_with fail;go_loopw [1,5] (fun s1 s wr=>∃k:Nat,s=.int .i64 k∧k≤l.length∧s1=.int .i64 (cJ (n+1) (l.take k) m)∧Qb w wr) (fun _ s _=>l.length-(intOf s).toNat)
 case atStart=>exact⟨0,rfl,by omega,rfl,Below.refl _ _⟩
 case round=>
  obtain⟨k,rfl,hk,rfl,hb⟩:=hrel;obtain⟨hm1,hm2⟩:=GZ (n+1) (l.take k) m hm0
  by_cases hlt:k<l.length
  ·have hs:=FB l m k hlt
   by_cases hneg:cJ (n+1) (l.take k) m<0
   ·have he:=Aj l m k hk hneg;have HE:=Qh he;clear he;have hq:decide (0≤cJ (n+1) (l.take k) m)=false:=decide_eq_false (by omega);clear hs;generalize cJ (n+1) (l.take k) m=q at*;go_wp2_with fail;go_ret;exact⟨CN HE.out.symm,hb⟩
   ·have hq:decide (0≤cJ (n+1) (l.take k) m)=true:=decide_eq_true (by omega);obtain⟨g,o,c',e,_,_,hg,hx⟩:=(HI.out.below hb hB).at_ (by intro e;subst e;simp at hlt);simp only[Value.slice.injEq]at e;obtain⟨rfl,_,rfl⟩:=e;obtain⟨u,hC,hI⟩:=hx k hlt;obtain⟨pu,cu,rfl,hcu,aab⟩:=hI.shape;obtain⟨x0,x1,x2,x3,x4,x5,x6,x7,x8⟩:=hC;unfold dQ at hs;rw[if_neg hneg]at hs;have hend:∀z:Int,cJ (n+1) (l.take (k+1)) m=z→z<0→cJ (n+1) l m=z:=fun z hz pq=>by
     rw[Aj l m (k+1) (by omega) (by rw[hz];exact pq),hz]
    have uL:=Qh hend;clear hend;have HS:=Qh hs;clear hs;clear hx;generalize cJ (n+1) (l.take k) m=q,l[k]=t at*;have QY:=fun(W:World) (hW:Qb w W) (GD:Qb wr W) (G2:¬nN t.f q)=>ih W B _ t.items (qQ t.f q) (Nat.le_trans hB hW.size) (qR t.f q (by omega) G2).1 (by have:=(qR t.f q (by omega) G2).2;omega) (hI.below GD (Nat.le_trans hB hb.size));have Rs:=Qh QY;clear QY;clear hI;have hsz:=hb.size;generalize t.items=its,hf:t.f=f at*;clear hf;have bN:∀(o1:Obj),Qb w (wr.alloc o1):=fun o1=>hb.alloc hsz o1
    by_cases h3:q<(f.name.size:Int)
    ·have hL:nN f q:=.inl h3;have HR:=Qh (uL.out (-1) (by rw[HS.out,if_pos hL]) (by omega));clear HS uL Rs;go_wp2_with fail;go_ret;exact⟨CN HR.out.symm,bN _⟩
    by_cases h4:q<(f.func.size:Int)
    ·have hL:nN f q:=.inr (.inl h4);have HR:=Qh (uL.out (-1) (by rw[HS.out,if_pos hL]) (by omega));clear HS uL Rs;go_wp2_with fail;go_ret;exact⟨CN HR.out.symm,bN _⟩
    by_cases h5:q<(f.bytes.size:Int)
    ·have hL:nN f q:=.inr (.inr h5);have HR:=Qh (uL.out (-1) (by rw[HS.out,if_pos hL]) (by omega));clear HS uL Rs;go_wp2_with fail;go_ret;exact⟨CN HR.out.symm,bN _⟩
    have hL:¬nN f q:=by unfold nN;omega
    have dP:Hid (cJ (n+1) (l.take (k+1)) m=cJ n its (qQ f q)):=Qh (by rw[HS.out,if_neg hL]);have QY:=fun(W:World) hW GD=>Rs.out W hW GD hL;unfold qQ at QY;have U5:=Qh QY;clear QY;clear HS uL Rs;go_wp2_with fail;refine(U5.out _ (bN _) ((Below.refl _ _).alloc (Nat.le_refl _) _)).mono ?_;rintro e w3 ⟨rfl,dS⟩;have eS:=(bN (.cells #[.int .i64 0] 24)).size;have um:Qb w w3:=(bN _).trans (dS.mono (by simp;omega));have py:Hid (cJ (n+1) (l.take (k+1)) m=cJ n its (q-1-(f.name.size:Int)/8-(f.func.size:Int)/8-(f.bytes.size:Int)/8)):=dP
    go_wp2_with fail;go_roundw
    case rel=>exact⟨k+1,by go_num,by omega,by rw[py.out],um⟩
    case measure=>simp[intOf];omega
  ·have hkk:l.take k=l:=List.take_of_length_le (by omega);rw[hkk]at*;clear hkk;have hq:decide (k<l.length)=false:=decide_eq_false hlt;go_wp2_with fail;go_ret;exact⟨rfl,hb⟩
theorem KE(n:Nat):Ee n:=by
 induction n with
 | zero=>exact G0
 | succ n ih=>exact G1 ih
def si(n:Nat)(l:List (Tm n))(m:Int):Bool:=decide (cJ n l m<0)
theorem Rt{n:Nat}(w:World)(B:Nat)(v:Value)(l:List (Tm n))(m:Int)(hB:B≤w.heap.size)(hm0:-1≤m)(hm:m≤10000)(h:ah w B n v l):Calls Tryz.prog 10 #[v,.int .i64 m] w (aV (si n l m) w):=by
 have hL:=KE n w B v l m hB hm0 hm h;unfold si;generalize cJ n l m=q at*;clear h;go_enter Tryz.func10,Tryz.ntmps10;go_wp2_with fail;refine hL.mono ?_;rintro e w1 ⟨rfl,hb⟩;go_wp2_with fail;go_ret;exact⟨rfl,hb⟩
end Go.Proofs.YtfbggmbmgohiiaaGreat.tm
