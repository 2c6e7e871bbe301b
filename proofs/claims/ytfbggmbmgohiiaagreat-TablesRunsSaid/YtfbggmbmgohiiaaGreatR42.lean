/- TnL,TnM,TnN. No condition beyond theirs. -/
import Derived.Test.YtfbggmbmgohiiaaGreatR27
set_option linter.unusedSimpArgs false
set_option linter.unusedVariables false
set_option maxHeartbeats 4000000
set_option maxRecDepth 100000
namespace Go.Proofs.YtfbggmbmgohiiaaGreat.tm
open Go.RowKit mem names
def fu:TF:=⟨-7,4711,0,⟨#[115,112,97,114,101]⟩,⟨#[]⟩,0,⟨#[]⟩,0⟩
theorem PW(w:World):Calls Tryz.prog 76 #[] w (nP (aj fu aK) w):=by
 unfold nP aj fu aK;dsimp only;go_enter Tryz.func76,Tryz.ntmps76;go_wp2_with fail;exact bodyPost_ret (v:=(.agg #[.int .i64 (-7),.int .i64 4711,.int .i64 0,.string ⟨#[115,112,97,114,101]⟩,.string ⟨#[]⟩,.int .i64 0,.slice none 0 0,.string ⟨#[]⟩,.int .i64 0])) (by simp[results,Tryz.results76,go_sem, *]) rfl ⟨rfl,Qz⟩
def Fi(w:World)(g o:Nat):Prop:=Cells w g o fu aK∧Cells w g (o+9) fu aK
def fT(w:World)(B:Nat)(F:Nat→Prop):(n:Nat)→Value→Value→List (Tm n)→Prop
 | 0,v0,v,_=>∃p0 c0,v0=.slice p0 0 c0∧c0≤maxLen∧((p0=none∧v=aK)∨(p0≠none∧∃g o c,v=.slice (some ⟨g,o,none⟩) 0 c∧2≤c∧c≤maxLen∧F g∧Fi w g o))
 | n+1,v0,v,l=>∃p0 c0,v0=.slice p0 l.length c0∧l.length≤c0∧c0≤maxLen∧((p0=none∧v=aK∧l=[])∨(p0≠none∧∃g o c,v=.slice (some ⟨g,o,none⟩) l.length c∧l.length+2≤c∧c≤maxLen∧F g∧Fi w g (o+l.length*9) ∧
  ∀j,(h:j<l.length)→∃g0 o0 u0 u,p0=some ⟨g0,o0,none⟩∧g0<B∧Cells w g0 (o0+j*9) (l[j]).f u0∧Cells w g (o+j*9) (l[j]).f u∧fT w B F n u0 u (l[j]).items))
theorem fT.mono{w w':World}{B:Nat}{F F':Nat→Prop}(hs:∀g,F g→w'.heap[g]?=w.heap[g]?)(hB:∀g,g<B→w'.heap[g]?=w.heap[g]?)(hF:∀g,F g→F' g):∀{n:Nat} {v0 v:Value} {l:List (Tm n)},fT w B F n v0 v l→fT w' B F' n v0 v l:=by
 intro n
 induction n with
 | zero =>
  intro v0 v l h;obtain⟨p0,c0,e,h1,h2⟩:=h;refine⟨p0,c0,e,h1,?_⟩
  rcases h2 with h2|⟨hp,g,o,c,e,h3,h4,h5,h6⟩
  ·exact .inl h2
  ·exact .inr ⟨hp,g,o,c,e,h3,h4,hF g h5,h6.1.same (hs g h5),h6.2.same (hs g h5)⟩
 | succ n ih =>
  intro v0 v l h;obtain⟨p0,c0,e,h1,h1',h2⟩:=h;refine⟨p0,c0,e,h1,h1',?_⟩
  rcases h2 with h2|⟨hp,g,o,c,e,h3,h4,h5,h6,h7⟩
  ·exact .inl h2
  ·refine .inr ⟨hp,g,o,c,e,h3,h4,hF g h5,⟨h6.1.same (hs g h5),h6.2.same (hs g h5)⟩,fun j hj=>?_⟩;obtain⟨g0,o0,u0,u,e0,yB,c1,c2,c3⟩:=h7 j hj;exact⟨g0,o0,u0,u,e0,yB,c1.same (hB g0 yB),c2.same (hs g h5),ih c3⟩
theorem fT.KF{w:World}{B:Nat}{F:Nat→Prop}:∀{n:Nat} {v0 v:Value} {l:List (Tm n)},fT w B F n v0 v l→bl w F n v l:=by
 intro n
 induction n with
 | zero =>
  intro v0 v l h;obtain⟨p0,c0,e,h1,h2⟩:=h
  rcases h2 with⟨_,e⟩|⟨hp,g,o,c,e,h3,h4,h5,h6⟩
  ·exact⟨none,0,e,Nat.zero_le _⟩
  ·exact⟨_,c,e,h4⟩
 | succ n ih =>
  intro v0 v l h;obtain⟨p0,c0,e,h1,h1',h2⟩:=h
  rcases h2 with⟨_,ev,rfl⟩|⟨hp,g,o,c,e,h3,h4,h5,h6,h7⟩
  ·exact⟨none,0,ev,Nat.zero_le _,Nat.zero_le _,fun h=>absurd rfl h⟩
  ·refine⟨_,c,e,by omega,h4,fun _=>⟨g,o,rfl,h5,fun j hj=>?_⟩⟩;obtain⟨g0,o0,u0,u,e0,yB,c1,c2,c3⟩:=h7 j hj;exact⟨u,c2,ih c3⟩
structure uG(w w':World)(B:Nat)(F:Nat→Prop)(n:Nat)(v0 v:Value)(l:List (Tm n)):Prop where
 items:fT w' B F n v0 v l
 inr:∀g,F g→w.heap.size≤g∧g<w'.heap.size
 typed:Typed w' F
 ptr:∀g,g<w.heap.size→i_ w' F g v
 below:Below w.heap.size w w'
theorem uG.aX{w W0 w1 w':World}{B:Nat}{F S:Nat→Prop}{n:Nat}{v0 u:Value}{l:List (Tm n)}(h:uG W0 w1 B F n v0 u l)(ht:ax S w1 w')(hS:∀g,F g→¬S g)(hb:Below w.heap.size w w')(hw:w.heap.size≤W0.heap.size)(rF:B≤w.heap.size)(hw1:Below w.heap.size w w1):uG w w' B F n v0 u l:=by
 have hs:∀g,F g→w'.heap[g]?=w1.heap[g]?:=fun g hg=>ht.block g (h.inr g hg).2 (hS g hg)
 refine⟨h.items.mono hs (fun g hg=>(hb.block g (by omega)).trans (hw1.block g (by omega)).symm) (fun _ h=>h),fun g hg=>?_,h.typed.same hs,fun g hg=>?_,hb⟩
 ·have:=h.inr g hg;have:=ht.size;omega
 ·exact(h.ptr g (by omega)).mono hs (fun _ h=>h)
def L8(w:World)(B:Nat)(F:Nat→Prop)(p0:Option Addr)(j:Nat):(n:Nat)→Tm n→TF→Value→Prop
 | 0,_,_,_=>False
 | n+1,t,f,u=>∃g0 o0 u0,p0=some ⟨g0,o0,none⟩∧g0<B∧Cells w g0 (o0+j*9) t.f u0∧t.f=f∧fT w B F n u0 u t.items
def PX{n:Nat}(B:Nat)(p0:Option Addr)(l:List (Tm n))(w:World)(F:Nat→Prop)(j:Nat)(f:TF)(u:Value):Prop:=(∃h:j<l.length,L8 w B F p0 j n l[j] f u)∨(l.length≤j∧f=fu∧u=aK)
theorem fT.nil{w:World}{B:Nat}{F:Nat→Prop}{n c0:Nat}(hc:c0≤maxLen):fT w B F n (.slice none 0 c0) aK ([]:List (Tm n)):=by
 cases n with
 | zero=>exact⟨none,c0,rfl,hc,.inl ⟨rfl,rfl⟩⟩
 | succ n=>exact⟨none,c0,rfl,Nat.zero_le _,hc,.inl ⟨rfl,rfl,rfl⟩⟩
theorem eI.marks{E:World→(Nat→Prop)→Nat→TF→Value→Prop}{w wr:World}{cap k:Nat}{rs:List (TF×Value)}{F:Nat→Prop}(hE:Ib w.heap.size E)(h:eI E w wr cap k rs F){w3 w4:World}(hb:Below wr.heap.size wr w3)(h1:∀j F w,k≤j→E w F j fu aK)
 (hg:w3.grownBy w4 (some w.heap.size))(hown:w4.ownsRow w.heap.size 24 9 (.slice (some ⟨w.heap.size,0,none⟩) (k+2) cap) (k+2) (cA rs++(aE fu aK++aE fu aK))):eI E w w4 cap (k+2) (rs++[(fu,aK),(fu,aK)]) F:=by
 have hlt:=h.lt;have hsz:=hb.size;have rX:∀g,F g→w3.heap[g]?=wr.heap[g]?:=fun g hg=>hb.block g (h.inr g hg).2;have sH:∀g,F g→w4.heap[g]?=wr.heap[g]?:=fun g hF=>(hg.block g (by have:=(h.inr g hF).2;omega) (by have:=(h.inr g hF).1;simp;omega)).trans (rX g hF);have hl:=h.len;have Sq:=hg.size
 refine⟨?_,by simp[hl],fun j hj=>?_,h.typed.same sH,fun g hF=>?_,?_,by omega⟩
 ·rw[gI];have e:cA [(fu,aK),(fu,aK)]=aE fu aK++aE fu aK:=by simp[cA]
  rw[e];exact hown
 ·by_cases e:j<rs.length
  ·rw[List.getElem_append_left e];obtain⟨a1,a2⟩:=h.Lf j e;exact⟨hE _ _ _ _ _ _ _ sH (fun g hg'=>(hg.block g (by omega) (by simp;omega)).trans (hb.block g (by omega))) (fun _ h=>h) a1,a2.mono sH (fun _ h=>h)⟩
  ·have e2:(rs++[(fu,aK),(fu,aK)])[j]=(fu,aK):=by
    rw[List.getElem_append_right (by omega)];rcases(show j=rs.length∨j=rs.length+1 by simp at hj;omega)with rfl|rfl <;> simp
   rw[e2];exact⟨h1 j _ _ (by omega),i_.nil⟩
 ·have:=h.inr g hF;omega
 ·have aD:=h.below.trans (hb.mono (by omega));exact⟨hg.os.trans aD.os,hg.tape.trans aD.tape,hg.output.trans aD.output,Nat.le_trans aD.size hg.size,fun q hq=>(hg.block q (by omega) (by simp;omega)).trans (aD.block q hq)⟩
theorem fT.mk{n:Nat}{w:World}{F:Nat→Prop}{B g cap c0:Nat}{a0:Addr}(l:List (Tm n))(rs:List (TF×Value))(hl:rs.length=l.length+2)(hc:l.length+2≤cap)(hm:cap≤maxLen)(hF:F g)(h0:l.length≤c0)(h0':c0≤maxLen)
 (h:∀j,(hj:j<rs.length)→Cells w g (j*9) rs[j].1 rs[j].2∧PX B (some a0) l w F j rs[j].1 rs[j].2):fT w B F n (.slice (some a0) l.length c0) (.slice (some ⟨g,0,none⟩) l.length cap) l:=by
 have hsp:Fi w g (l.length*9):=by
  obtain⟨a1,a2⟩:=h l.length (by omega);obtain⟨b1,b2⟩:=h (l.length+1) (by omega)
  rcases a2 with⟨h,_⟩|⟨_,e1,e2⟩
  ·omega
  rcases b2 with⟨h,_⟩|⟨_,e3,e4⟩
  ·omega
  rw[e1,e2]at a1;rw[e3,e4,Nat.add_mul,Nat.one_mul]at b1;exact⟨a1,b1⟩
 cases n with
 | zero =>
  have:=Tm.js l;subst this;exact⟨_,_,rfl,h0',.inr ⟨by simp,g,0,cap,rfl,by simpa using hc,hm,hF,by simpa using hsp⟩⟩
 | succ n =>
  refine⟨_,_,rfl,h0,h0',.inr ⟨by simp,g,0,cap,rfl,hc,hm,hF,by simpa using hsp,fun j hj=>?_⟩⟩;obtain⟨h1,h2⟩:=h j (by omega)
  rcases h2 with⟨_,g0,o0,u0,e0,yB,hc0,hf,hli⟩|⟨h,_⟩
  ·refine⟨g0,o0,u0,_,e0,yB,hc0,?_,hli⟩;rw[Nat.zero_add,hf];exact h1
  ·omega
def Fj(n:Nat):Prop:=∀(w:World) (B:Nat) (F:Nat→Prop) (v0 v:Value) (t:Tm (n+1)),B≤w.heap.size→(∀g,F g→g<w.heap.size)→fT w B F n v0 v t.items→Calls Tryz.prog 14 #[aj t.f v,aj t.f v0] w (aV true w)
def DI(n:Nat):Prop:=∀(w:World) (B:Nat) (F:Nat→Prop) (v0 v:Value) (l:List (Tm n)),B≤w.heap.size→(∀g,F g→g<w.heap.size)→fT w B F n v0 v l→Calls Tryz.prog 48 #[v,v0] w (aV true w)
theorem BF(f:TF)(w:World):Calls Tryz.prog 27 #[aj f (.slice none 0 0),aj f (.slice none 0 0)] w (aV true w):=by
 have h:=qP (n:=0) w 0 (.slice none 0 0) (.slice none 0 0) (Tm.mk f []) (Tm.mk f []) (Nat.zero_le _) ⟨none,0,rfl,Nat.zero_le _⟩ ⟨none,0,rfl,Nat.zero_le _⟩;rw[eR rfl]at h;exact h
theorem Nn(x:TF)(p1 p2:Option Addr)(m1 c1 m2 c2:Nat)(w:World)(hK:∀W,Below w.heap.size w W→Calls Tryz.prog 48 #[.slice p1 m1 c1,.slice p2 m2 c2] W (aV true W)) :
 Calls Tryz.prog 14 #[aj x (.slice p1 m1 c1),aj x (.slice p2 m2 c2)] w (aV true w):=by
 have HK:=Qh hK;have HS:=Qh (fun W=>BF x W);clear hK;obtain⟨k1,i1,g1,n1,dr,a1,gY,s1⟩:=x;unfold aj aV at*;dsimp only at*;go_enter Tryz.func14,Tryz.ntmps14;go_wp2_with fail;obtain⟨cz,cZ,au,hsz⟩:=j8 w ⟨k1,i1,g1,n1,dr,a1,gY,s1⟩ ⟨k1,i1,g1,n1,dr,a1,gY,s1⟩ (.slice p1 m1 c1) (.slice p2 m2 c2);unfold av at cz cZ au hsz;dsimp only at cz cZ au hsz;generalize((w.alloc (.cells (a9 k1 i1 g1 n1 dr a1 (.slice p1 m1 c1) gY s1) 24)).alloc (.cells (a9 k1 i1 g1 n1 dr a1 (.slice p2 m2 c2) gY s1) 24))=W0 at*;have eT:Hid (w.heap.size<W0.heap.size):=Qh (by omega)
 have iW:Hid (w.heap.size+1<W0.heap.size):=Qh (by omega);clear hsz;have gF:=Qh cz;have gG:=Qh cZ;clear cz cZ;obtain⟨x0,x1,x2,x3,x4,x5,x6,x7,x8,xz⟩:=gF.out;obtain⟨y0,y1,y2,y3,y4,y5,y6,y7,y8,yz⟩:=gG.out;dsimp only at x0 x1 x2 x3 x4 x5 x6 x7 x8 y0 y1 y2 y3 y4 y5 y6 y7 y8;go_quiet (fail)
 have aD:Qb w (W0.drewN nq):=au.drewN nq;have eT:Hid (w.heap.size<(W0.drewN nq).heap.size):=Qh eT.out;have iW:Hid (w.heap.size+1<(W0.drewN nq).heap.size):=Qh iW.out;have cz:gu (W0.drewN nq) w.heap.size ⟨k1,i1,g1,n1,dr,a1,gY,s1⟩ (.slice p1 m1 c1):=⟨gF.out.c0,gF.out.c1,gF.out.c2,gF.out.c3,gF.out.c4,gF.out.c5,gF.out.c6,gF.out.c7,gF.out.c8,gF.out.fz⟩;have cZ:gu (W0.drewN nq) (w.heap.size+1) ⟨k1,i1,g1,n1,dr,a1,gY,s1⟩ (.slice p2 m2 c2):=⟨gG.out.c0,gG.out.c1,gG.out.c2,gG.out.c3,gG.out.c4,gG.out.c5,gG.out.c6,gG.out.c7,gG.out.c8,gG.out.fz⟩
 clear x0 x1 x2 x3 x4 x5 x6 x7 x8 xz y0 y1 y2 y3 y4 y5 y6 y7 y8 yz;clear gF gG au;generalize W0.drewN nq=W1 at*;have bT:=eT.out;have bX:=iW.out;obtain⟨x0,x1,x2,x3,x4,x5,x6,x7,x8,xz⟩:=cz;obtain⟨y0,y1,y2,y3,y4,y5,y6,y7,y8,yz⟩:=cZ;dsimp only at x0 x1 x2 x3 x4 x5 x6 x7 x8 y0 y1 y2 y3 y4 y5 y6 y7 y8;go_wp2_with fail;have a_:Qb w ((W1.setCell ⟨w.heap.size,6,none⟩ (.slice none 0 0)).setCell ⟨w.heap.size+1,6,none⟩ (.slice none 0 0)):=(aD.setCell (Nat.le_refl _) _).setCell (by simp) _;refine(HS.out _).mono ?_;rintro e w2 ⟨rfl,bN⟩;have dS:=a_.trans (bN.mono a_.size)
 have HKW:=Qh (HK.out w2 dS);go_wp2_with fail;refine HKW.out.mono ?_;rintro e w3 ⟨rfl,eS⟩;go_wp2_with fail;go_ret;exact⟨rfl,dS.trans (eS.mono dS.size)⟩
theorem PY{n:Nat}(ih:∀m,n=m+1→Fj m)(w:World)(B:Nat)(F:Nat→Prop)(a0:Addr)(len c0 g o c:Nat)(l:List (Tm n))(hB:B≤w.heap.size)(hF:∀g,F g→g<w.heap.size)(h:fT w B F n (.slice (some a0) len c0) (.slice (some ⟨g,o,none⟩) len c) l) :
 g<w.heap.size∧len=l.length∧l.length≤c0∧c0≤maxLen∧l.length+2≤c∧c≤maxLen∧Fi w g (o+l.length*9) ∧
 ∀j,(hj:j<l.length)→∃g0 o0 x q m d q' d',a0=⟨g0,o0,none⟩∧g0<w.heap.size∧Cells w g (o+j*9) x (.slice q m d)∧Cells w g0 (o0+j*9) x (.slice q' m d')∧∀W,Below w.heap.size w W→Calls Tryz.prog 14 #[aj x (.slice q m d),aj x (.slice q' m d')] W (aV true W):=by
 cases n with
 | zero =>
  have:=Tm.js l;subst this;obtain⟨p0,c0',e,h1,h2⟩:=h;simp only[Value.slice.injEq]at e;obtain⟨rfl,rfl,rfl⟩:=e
  rcases h2 with⟨h2,_⟩|⟨hp,g',o',c',e,h3,h4,h5,h6⟩
  ·cases h2
  ·simp only[Value.slice.injEq,Option.some.injEq,Addr.mk.injEq]at e;obtain⟨⟨rfl,rfl,_⟩,_,rfl⟩:=e;exact⟨hF _ h5,rfl,Nat.zero_le _,h1,h3,h4,by simpa using h6,fun j hj=>absurd hj (by simp)⟩
 | succ n =>
  obtain⟨p0,c0',e,h1,h1',h2⟩:=h;simp only[Value.slice.injEq]at e;obtain⟨rfl,rfl,rfl⟩:=e
  rcases h2 with⟨h2,_⟩|⟨hp,g',o',c',e,h3,h4,h5,h6,h7⟩
  ·cases h2
  ·simp only[Value.slice.injEq,Option.some.injEq,Addr.mk.injEq]at e;obtain⟨⟨rfl,rfl,_⟩,_,rfl⟩:=e;refine⟨hF _ h5,rfl,h1,h1',h3,h4,h6,fun j hj=>?_⟩;obtain⟨g0,o0,u0,u,e0,yB,k1,k2,k3⟩:=h7 j hj;simp only[Option.some.injEq]at e0;have eW:=k3.KF.pR hF;obtain⟨q,d,rfl,_,_⟩:=eW.shape;have h0:∃q' d',u0=.slice q' (l[j]).items.length d':=by
    cases n with
    | zero =>
     obtain⟨p1,c1,e1,_⟩:=k3;rw[Tm.js (l[j]).items];exact⟨p1,c1,e1⟩
    | succ n =>
     obtain⟨p1,c1,e1,_⟩:=k3;exact⟨p1,c1,e1⟩
   obtain⟨q',d',rfl⟩:=h0;refine⟨g0,o0,_,q,_,d,q',d',e0,by omega,k2,k1,fun W hb=>?_⟩;exact ih n rfl W B F _ _ l[j] (Nat.le_trans hB hb.size) (fun g hg=>Nat.lt_of_lt_of_le (hF g hg) hb.size) (k3.mono (fun g hg=>hb.block g (hF g hg)) (fun g hg=>hb.block g (by omega)) (fun _ h=>h))
theorem fT.cases{w:World}{B:Nat}{F:Nat→Prop}{n:Nat}{v0 v:Value}{l:List (Tm n)}(h:fT w B F n v0 v l):(∃c0,v0=.slice none 0 c0∧v=.slice none 0 0)∨(∃a0 g o c0 c,v0=.slice (some a0) l.length c0∧v=.slice (some ⟨g,o,none⟩) l.length c):=by
 cases n with
 | zero =>
  rw[Tm.js l]at*;obtain⟨p0,c0,rfl,h1,h2⟩:=h
  rcases h2 with⟨rfl,rfl⟩|⟨hp,g,o,c,rfl,h3,h4,h5,h6⟩
  ·exact .inl ⟨c0,rfl,rfl⟩
  ·cases p0 with
   | none=>exact absurd rfl hp
   | some a0=>exact .inr ⟨a0,g,o,c0,c,rfl,rfl⟩
 | succ n =>
  obtain⟨p0,c0,rfl,h1,h1',h2⟩:=h
  rcases h2 with⟨rfl,rfl,rfl⟩|⟨hp,g,o,c,rfl,h3,h4,h5,h6⟩
  ·exact .inl ⟨c0,rfl,rfl⟩
  ·cases p0 with
   | none=>exact absurd rfl hp
   | some a0=>exact .inr ⟨a0,g,o,c0,c,rfl,rfl⟩
theorem BG{n:Nat}(ih:∀m,n=m+1→Fj m):DI n:=by
 intro w B F v0 v l hB hF h
 rcases h.cases with⟨c0,rfl,rfl⟩|⟨a0,g,o,c0,c,rfl,rfl⟩
 ·have UR:=fun w=>Lib.run_eql_slice_nil (P:=Tryz.prog) w 22 24 none 0 c0 0 0 Tryz.underlying22;clear h ih hF;go_enter Tryz.func48,Tryz.ntmps48;go_wp2_with fail;go_ret;exact⟨rfl,Below.refl _ _⟩
 ·obtain⟨hg,_,k1,k2,k3,k4,k5,pV⟩:=PY ih w B F a0 l.length c0 g o c l hB hF h;have UR:=fun w=>Lib.run_eql_slice_nil (P:=Tryz.prog) w 22 24 (some a0) l.length c0 0 0 Tryz.underlying22;have tU:=Qh pV;have US:Cells w g (o+l.length*9) fu aK:=k5.1;have ZH:Cells w g (o+(l.length+1)*9) fu aK:=(show o+(l.length+1)*9=o+l.length*9+9 by omega)▸k5.2;have ZI:=Qh US;have bu:=Qh ZH;unfold maxLen at k2 k4;have pq:g<w.heap.size:=hg;have r1:(l.length:Int)+2≤(c:Int):=by omega
  have r2:((l.length+2:Nat):Int)=(l.length:Int)+2:=by omega
  have r3:(0:Int)≤(l.length:Int):=by omega
  have r4:((l.length:Int)+2).toNat=l.length+2:=by omega
  have r5:((l.length:Int)+1).toNat=l.length+1:=by omega
  have r6:(l.length:Int)<((l.length+2:Nat):Int):=by omega
  have r7:(l.length:Int)+1<((l.length+2:Nat):Int):=by omega
  have r8:IntKind.i64.wrap ((l.length:Int)+1)=(l.length:Int)+1:=IntWalk.i64_in _ (by omega);have r9:(0:Int)≤(l.length:Int)+1:=by omega
  have r10:l.length<l.length+2:=by omega
  have r11:l.length+1<l.length+2:=by omega
  have r12:(l.length:Int)<(l.length:Int)+2:=by omega
  have r13:(l.length:Int)+1<(l.length:Int)+2:=by omega
  have HM:=Qh (fun W=>PW W);have HS:=Qh (fun W=>BF fu W);unfold nP aj fu aK at HM;dsimp only at HM;unfold aV aj fu at HS;dsimp only at HS;clear h ih hF pV k5;obtain⟨x0,x1,x2,x3,x4,x5,x6,x7,x8⟩:=US;obtain⟨y0,y1,y2,y3,y4,y5,y6,y7,y8⟩:=ZH;dsimp only[fu,aK]at x0 x1 x2 x3 x4 x5 x6 x7 x8 y0 y1 y2 y3 y4 y5 y6 y7 y8;go_enter Tryz.func48,Tryz.ntmps48;go_wp2_with fail
  go_region_held3 (fun w'=>(w'.cell? ⟨g,o+l.length*9,none⟩=some (.int .i64 (-7))∧w'.cell? ⟨g,o+l.length*9+1,none⟩=some (.int .i64 4711)∧w'.cell? ⟨g,o+l.length*9+1+1,none⟩=some (.int .i64 0)∧w'.cell? ⟨g,o+l.length*9+1+1+1,none⟩=some (.string ⟨#[115,112,97,114,101]⟩)∧w'.cell? ⟨g,o+l.length*9+1+1+1+1,none⟩=some (.string ⟨#[]⟩)∧w'.cell? ⟨g,o+l.length*9+1+1+1+1+1,none⟩=some (.int .i64 0)∧w'.cell? ⟨g,o+l.length*9+1+1+1+1+1+1,none⟩=some (.slice none 0 0)∧w'.cell? ⟨g,o+l.length*9+1+1+1+1+1+1+1,none⟩=some (.string ⟨#[]⟩)∧w'.cell? ⟨g,o+l.length*9+1+1+1+1+1+1+1+1,none⟩=some (.int .i64 0))∧w'.cell? ⟨g,o+(l.length+1)*9,none⟩=some (.int .i64 (-7))∧w'.cell? ⟨g,o+(l.length+1)*9+1,none⟩=some (.int .i64 4711)∧w'.cell? ⟨g,o+(l.length+1)*9+1+1,none⟩=some (.int .i64 0)∧w'.cell? ⟨g,o+(l.length+1)*9+1+1+1,none⟩=some (.string ⟨#[115,112,97,114,101]⟩)∧w'.cell? ⟨g,o+(l.length+1)*9+1+1+1+1,none⟩=some (.string ⟨#[]⟩)∧w'.cell? ⟨g,o+(l.length+1)*9+1+1+1+1+1,none⟩=some (.int .i64 0)∧w'.cell? ⟨g,o+(l.length+1)*9+1+1+1+1+1+1,none⟩=some (.slice none 0 0)∧w'.cell? ⟨g,o+(l.length+1)*9+1+1+1+1+1+1+1,none⟩=some (.string ⟨#[]⟩)∧w'.cell? ⟨g,o+(l.length+1)*9+1+1+1+1+1+1+1+1,none⟩=some (.int .i64 0)) (go_keep)
   (first
     | (go_at_call 76;(with_reducible refine(HM.out w.drew).mono ?_);rintro e w1 ⟨rfl,aD⟩;have bT:=Nat.lt_of_lt_of_le pq aD.size;have ig:=Qh (ZI.out.same (aD.block g pq));have dU:=Qh (bu.out.same (aD.block g pq));obtain⟨UT,ZJ,ZK,ZL,ZM,ZN,ZO,ZP,ZQ⟩:=ig.out;obtain⟨NQ,ZR,ZS,ZT,ZU,ZV,ZW,ZX,UI⟩:=dU.out;dsimp only[fu,aK]at UT ZJ ZK ZL ZM ZN ZO ZP ZQ NQ ZR ZS ZT ZU ZV ZW ZX UI)
     | (go_at_call 27;(with_reducible refine(HS.out w1).mono ?_);rintro e w2 ⟨rfl,a_⟩;have bX:=Nat.lt_of_lt_of_le bT a_.size;have lB:=Qh (ig.out.same (a_.block g bT));have bS:=Qh (dU.out.same (a_.block g bT));obtain⟨ZY,ZZ,Z1,Z2,Z3,Z4,Z5,Z6,Z7⟩:=lB.out;obtain⟨Z8,Z9,UR,Z_,q24,q25,q26,q27,q28⟩:=bS.out;dsimp only[fu,aK]at ZY ZZ Z1 Z2 Z3 Z4 Z5 Z6 Z7 Z8 Z9 UR Z_ q24 q25 q26 q27 q28)
     | (go_at_call 76;(with_reducible refine(HM.out w2).mono ?_);rintro e w3 ⟨rfl,bN⟩;have fY:=Nat.lt_of_lt_of_le bX bN.size;have qY:=Qh (lB.out.same (bN.block g bX));have dJ:=Qh (bS.out.same (bN.block g bX));obtain⟨p30,p31,p32,p33,p34,p35,p36,p37,p38⟩:=qY.out;obtain⟨q30,q31,q32,q33,q34,q35,q36,q37,q38⟩:=dJ.out;dsimp only[fu,aK]at p30 p31 p32 p33 p34 p35 p36 p37 p38 q30 q31 q32 q33 q34 q35 q36 q37 q38)
     | (go_at_call 27;(with_reducible refine(HS.out w3).mono ?_);rintro e w4 ⟨rfl,dS⟩;have eA:=Nat.lt_of_lt_of_le fY dS.size;have yL:=Qh (qY.out.same (dS.block g fY));have lG:=Qh (dJ.out.same (dS.block g fY));obtain⟨p40,p41,p42,p43,p44,p45,p46,p47,p48⟩:=yL.out;obtain⟨q40,q41,q42,q43,q44,q45,q46,q47,q48⟩:=lG.out;dsimp only[fu,aK]at p40 p41 p42 p43 p44 p45 p46 p47 p48 q40 q41 q42 q43 q44 q45 q46 q47 q48))
  have jt:Qb w w1:=((Below.refl _ w).drewN 1).trans aD;have qZ:=jt.trans (a_.mono jt.size);have vF:=qZ.trans (bN.mono qZ.size);have Tl:=vF.trans (dS.mono vF.size)
  clear aD a_ bN dS jt qZ vF ZI ig lB qY yL bu dU bS dJ lG bT bX fY eA x0 x1 x2 x3 x4 x5 x6 x7 x8 y0 y1 y2 y3 y4 y5 y6 y7 y8 UT ZJ ZK ZL ZM ZN ZO ZP ZQ ZY ZZ Z1 Z2 Z3 Z4 Z5 Z6 Z7 p30 p31 p32 p33 p34 p35 p36 p37 p38 p40 p41 p42 p43 p44 p45 p46 p47 p48 NQ ZR ZS ZT ZU ZV ZW ZX UI Z8 Z9 UR Z_ q24 q25 q26 q27 q28 q30 q31 q32 q33 q34 q35 q36 q37 q38 q40 q41 q42 q43 q44 q45 q46 q47 q48;have XJ:=Qh Tl;clear Tl;go_wp2_with fail;go_loopw [6] (fun s wr=>∃k:Nat,s=.int .i64 k∧k≤l.length∧Qb w wr) (fun s _=>l.length-(intOf s).toNat)
  case atStart=>exact⟨0,rfl,by omega,XJ.out⟩
  case round=>
   obtain⟨k,rfl,hk,hb⟩:=hrel
   by_cases hlt:k<l.length
   ·obtain⟨g0,o0,x,q,m,d,q',d',rfl,yB,kq,nM,cT⟩:=tU.out k hlt;have kq:=kq.same (hb.block g pq);have nM:=nM.same (hb.block g0 yB);obtain⟨Ek,Cz,CA,CB,CC,CD,CE,CF,CG⟩:=kq;obtain⟨GF,GG,GH,GI,GJ,GK,GL,GM,GN⟩:=nM;have hb':Qb w wr.drew:=hb.drewN 1;have HC:=Qh (cT wr.drew hb');clear cT;obtain⟨kk,ii,gg,nm,fn,ar,aL,bt⟩:=x;dsimp only at Ek Cz CA CB CC CD CE CF CG GF GG GH GI GJ GK GL GM GN;unfold aV aj at HC;dsimp only at HC;have wQ:=Qh hb';clear hb';have s1:(k:Int)<(l.length:Int):=by omega
    have s2:(0:Int)≤(k:Int):=by omega
    go_wp2_with fail;go_still_tail 8,(by kernel_rfl)
    change wpList _ _ _ _ _ wr.drew;clear Ek Cz CA CB CC CD CE CF CG GF GG GH GI GJ GK GL GM GN;generalize wr.drew=w5 at*;go_wp2_with fail;refine HC.out.mono ?_;rintro e w6 ⟨rfl,um⟩;have j7:=wQ.out.trans (um.mono wQ.out.size);go_wp2_with fail;go_roundw
    case rel=>exact⟨k+1,by go_num,by omega,j7⟩
    case measure=>simp[intOf];omega
   ·go_wp2_with fail;go_ret;exact⟨rfl,hb⟩
theorem yq{n:Nat}(hC:DI n):Fj n:=by
 intro w B F v0 v t hB hF h;have hK:=fun W (hb:Qb w W)=>hC W B F v0 v t.items (Nat.le_trans hB hb.size) (fun g hg=>Nat.lt_of_lt_of_le (hF g hg) hb.size) (h.mono (fun g hg=>hb.block g (hF g hg)) (fun g hg=>hb.block g (by omega)) (fun _ h=>h))
 rcases h.cases with⟨c0,rfl,rfl⟩|⟨a0,g,o,c0,c,rfl,rfl⟩
 ·exact Nn t.f none none 0 0 0 c0 w hK
 ·exact Nn t.f _ _ _ c _ c0 w hK
theorem BH:∀n,DI n
 | 0=>BG (fun m h=>by omega)
 | n+1=>BG (fun m h=>by
  obtain rfl:n=m:=by omega
  exact yq (BH n))
theorem L9(n:Nat):Fj n:=yq (BH n)
end Go.Proofs.YtfbggmbmgohiiaaGreat.tm
