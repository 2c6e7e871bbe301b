/- TnI,TnJ,TnK,TnP,ToI. No condition beyond theirs. -/
import Derived.Test.YtfbggmbmgohiiaaGreatR26
import Derived.Laws.MakeOwn
set_option linter.unusedSimpArgs false
set_option linter.unusedVariables false
set_option maxHeartbeats 4000000
set_option maxRecDepth 100000
namespace Go.Proofs.YtfbggmbmgohiiaaGreat.tm
open Go.RowKit mem names
theorem uO.aX{w W0 w1 w':World}{F S:Nat→Prop}{n:Nat}{u:Value}{l:List (Tm n)}(h:uO W0 w1 F n u l)(ht:ax S w1 w')(hS:∀g,F g→¬S g)(hb:Below w.heap.size w w')(hw:w.heap.size≤W0.heap.size):uO w w' F n u l:=by
 have hs:∀g,F g→w'.heap[g]?=w1.heap[g]?:=fun g hg=>ht.block g (h.inr g hg).2 (hS g hg)
 refine⟨h.items.mono hs (fun _ h=>h),fun g hg=>?_,h.typed.same hs,fun g hg=>?_,hb⟩
 ·have:=h.inr g hg;have:=ht.size;omega
 ·exact(h.ptr g (by omega)).mono hs (fun _ h=>h)
def EO{n:Nat}(l:List (Tm n))(w:World)(e:Ending)(w':World):Prop:=∃F g,e=.returned (.slice (some ⟨g,0,none⟩) l.length l.length)∧uO w w' F n (.slice (some ⟨g,0,none⟩) l.length l.length) l∧F g
def Ia{n:Nat}(f:TF)(l:List (Tm n))(w:World)(e:Ending)(w':World):Prop:=∃F g,e=.returned (aj f (.slice (some ⟨g,0,none⟩) l.length l.length))∧uO w w' F n (.slice (some ⟨g,0,none⟩) l.length l.length) l∧F g
theorem Sp{n:Nat}(x:TF)(p:Option Addr)(len c:Nat)(l:List (Tm n))(w:World)(hC:∀W,Below w.heap.size w W→Calls Tryz.prog 84 #[.slice p len c] W (EO l W)) :
 Calls Tryz.prog 51 #[aj x (.slice p len c)] w (Ia x l w):=by
 have HC:=Qh hC;clear hC;obtain⟨k,i,gg,nm,fn,ar,aL,bt⟩:=x;unfold aj;dsimp only;go_enter Tryz.func51,Tryz.ntmps51;go_wp2_with fail;obtain⟨cz,cZ,au,hsz⟩:=j8 w ⟨k,i,gg,nm,fn,ar,aL,bt⟩ aY (.slice p len c) aK;unfold av aY aK at cz cZ au hsz;dsimp only at cz cZ au hsz;generalize((w.alloc (.cells (a9 k i gg nm fn ar (.slice p len c) aL bt) 24)).alloc cQ)=W0 at*;have HZ:Hid (W0.heap.size=w.heap.size+2):=Qh hsz;have eT:w.heap.size<W0.heap.size:=by omega
 have iW:w.heap.size+1<W0.heap.size:=by omega
 clear hsz;have gF:=Qh cz;have gG:=Qh cZ;obtain⟨x0,x1,x2,x3,x4,x5,x6,x7,x8,xz⟩:=cz;obtain⟨y0,y1,y2,y3,y4,y5,y6,y7,y8,yz⟩:=cZ;dsimp only at x0 x1 x2 x3 x4 x5 x6 x7 x8 y0 y1 y2 y3 y4 y5 y6 y7 y8;have HCW:=Qh (HC.out W0 au);clear HC;go_wp2_with fail;refine HCW.out.mono ?_;rintro e w1 ⟨F,g,rfl,hnew,Uw⟩;have Le:=Qh hnew;have hb:=hnew.below;have AG:=Qh (gF.out.below hb eT);have wD:=Qh (gG.out.below hb iW);have FN:w.heap.size<w1.heap.size:=Nat.lt_of_lt_of_le eT hb.size;have FO:w.heap.size+1<w1.heap.size:=Nat.lt_of_lt_of_le iW hb.size
 have KX:=au.trans (hb.mono au.size);clear x0 x1 x2 x3 x4 x5 x6 x7 x8 xz y0 y1 y2 y3 y4 y5 y6 y7 y8 yz hnew hb;obtain⟨x0,x1,x2,x3,x4,x5,x6,x7,x8,xz⟩:=AG.out;obtain⟨y0,y1,y2,y3,y4,y5,y6,y7,y8,yz⟩:=wD.out;dsimp only at x0 x1 x2 x3 x4 x5 x6 x7 x8 y0 y1 y2 y3 y4 y5 y6 y7 y8;go_wp2_with fail;have bX:=HZ.out;have Wt:=Le.out.inr
 refine bodyPost_ret (v:=(.agg (a9 k i gg nm fn ar (.slice (some ⟨g,0,none⟩) l.length l.length) aL bt))) (by simp[results,Tryz.results51,go_sem, *]) rfl ⟨F,g,rfl,Le.out.aX (S:=fun k=>k=w.heap.size∨k=w.heap.size+1) (by(repeat' (first|with_reducible exact ax.refl _ _|with_reducible refine ax.setCell ?_ _ _ (fun _=>Or.inl rfl)|with_reducible refine ax.setCell ?_ _ _ (fun _=>Or.inr rfl)))) (fun q hq=>by have:=Wt q hq;omega) (Qz) (by omega),Uw⟩
def Ib(B:Nat)(E:World→(Nat→Prop)→Nat→TF→Value→Prop):Prop :=
 ∀(w w':World) (F F':Nat→Prop) (j:Nat) (f:TF) (u:Value),(∀g,F g→w'.heap[g]?=w.heap[g]?)→(∀g,g<B→w'.heap[g]?=w.heap[g]?)→(∀g,F g→F' g)→E w F j f u→E w' F' j f u
structure eI(E:World→(Nat→Prop)→Nat→TF→Value→Prop)(w wr:World)(cap k:Nat)(rs:List (TF×Value))(F:Nat→Prop):Prop where
 own:wr.ownsRow w.heap.size 24 9 (.slice (some ⟨w.heap.size,0,none⟩) k cap) k (cA rs)
 len:rs.length=k
 Lf:∀j,(h:j<rs.length)→E wr F j rs[j].1 rs[j].2∧i_ wr F w.heap.size rs[j].2
 typed:Typed wr F
 inr:∀g,F g→w.heap.size<g∧g<wr.heap.size
 below:Below w.heap.size w wr
 lt:w.heap.size<wr.heap.size
variable {E:World→(Nat→Prop)→Nat→TF→Value→Prop}{w wr:World}{cap k:Nat}{rs:List (TF×Value)}{F:Nat→Prop}
theorem eI.start(cs:Array Value)(hc:cap≤maxLen)(hs:cs.size=cap*9):eI E w (w.alloc (.cells cs 24)) cap 0 [] (fun _=>False) :=
 ⟨World.ownsRow_made w cs cap (Nat.le_refl _) hc hs,rfl,fun j h=>by simp at h,fun g h=>h.elim,fun g h=>h.elim,(Below.refl _ _).alloc (Nat.le_refl _) _,by simp⟩
theorem eI.M6(h:eI E w wr cap k rs F){w3:World}(hb:Below wr.heap.size wr w3):w3.ownsRow w.heap.size 24 9 (.slice (some ⟨w.heap.size,0,none⟩) k cap) k (cA rs) :=
 oA h.own fun q hq=>hb.block q (by
  have e:w.heap.size=q:=by simpa[Value.ownBlock] using hq
  have:=h.lt
  omega)
theorem eI.next(hE:Ib w.heap.size E)(h:eI E w wr cap k rs F){w3 w4:World}{F':Nat→Prop}{f:TF}{u:Value}(hb:Below wr.heap.size wr w3)(h1:E w3 F' k f u)(h2:i_ w3 F' w.heap.size u)(h3:Typed w3 F')(h4:∀g,F' g→wr.heap.size≤g∧g<w3.heap.size)
 (hg:w3.grownBy w4 (some w.heap.size))(hown:w4.ownsRow w.heap.size 24 9 (.slice (some ⟨w.heap.size,0,none⟩) (k+1) cap) (k+1) (cA rs++aE f u)):eI E w w4 cap (k+1) (rs++[(f,u)]) (fun g=>F g∨F' g):=by
 have hlt:=h.lt;have hsz:=hb.size;have rX:∀g,F g→w3.heap[g]?=wr.heap[g]?:=fun g hg=>hb.block g (h.inr g hg).2;have sH:∀g,F g→w4.heap[g]?=wr.heap[g]?:=fun g hF=>(hg.block g (by have:=(h.inr g hF).2;omega) (by have:=(h.inr g hF).1;simp;omega)).trans (rX g hF);have Om:∀g,F' g→w4.heap[g]?=w3.heap[g]?:=fun g hF=>hg.block g (h4 g hF).2 (by have:=(h4 g hF).1;simp;omega);have hl:=h.len;have Sq:=hg.size
 refine⟨?_,by simp[hl],fun j hj=>?_,?_,fun g hF=>?_,?_,by omega⟩
 ·rw[gI];have e:cA [(f,u)]=aE f u:=by simp[cA]
  rw[e];exact hown
 ·by_cases e:j<rs.length
  ·rw[List.getElem_append_left e];obtain⟨a1,a2⟩:=h.Lf j e;exact⟨hE _ _ _ _ _ _ _ sH (fun g hg'=>(hg.block g (by omega) (by simp;omega)).trans (hb.block g (by omega))) (fun _ h=>.inl h) a1,a2.mono sH (fun _ h=>.inl h)⟩
  ·have ej:j=rs.length:=by simp at hj;omega
   subst ej;rw[List.getElem_append_right (Nat.le_refl _)];simp only[Nat.sub_self,List.getElem_cons_zero];refine⟨?_,h2.mono Om (fun _ h=>.inr h)⟩;rw[hl];exact hE _ _ _ _ _ _ _ Om (fun g hg'=>hg.block g (by omega) (by simp;omega)) (fun _ h=>.inr h) h1
 ·exact(h.typed.same sH).union (h3.same Om)
 ·rcases hF with hF|hF
  ·have:=h.inr g hF;omega
  ·have:=h4 g hF;omega
 ·have aD:=h.below.trans (hb.mono (by omega));exact⟨hg.os.trans aD.os,hg.tape.trans aD.tape,hg.output.trans aD.output,Nat.le_trans aD.size hg.size,fun q hq=>(hg.block q (by omega) (by simp;omega)).trans (aD.block q hq)⟩
theorem eI.cells(h:eI E w wr cap k rs F)(j:Nat)(hj:j<rs.length):Cells wr w.heap.size (j*9) rs[j].1 rs[j].2:=pF h.own h.len j hj
theorem eI.full(h:eI E w wr cap k rs F)(hk:k=cap):Typed wr (fun g=>F g∨g=w.heap.size):=by
 have hown:=h.own
 rcases hown.2 with⟨h',_⟩|⟨g',cap',cur,h',mC,hg,hnc,gW,hcs,vA⟩
 ·simp at h'
 ·simp only[Value.slice.injEq,Option.some.injEq,Addr.mk.injEq,and_true,true_and]at h';obtain⟨rfl,rfl⟩:=h';refine h.typed.add hg hcs fun j hj=>?_;have hj':j<rs.length:=by rw[h.len];omega
  exact⟨_,_,h.cells j hj',(h.Lf j hj').2⟩
theorem eI.root(h:eI E w wr cap k rs F)(m:Nat)(hm:m≤cap)(g:Nat)(Sr:g<w.heap.size):i_ wr (fun g=>F g∨g=w.heap.size) g (.slice (some ⟨w.heap.size,0,none⟩) m cap):=by
 have hown:=h.own
 rcases hown.2 with⟨h',_⟩|⟨g',cap',cur,h',mC,hg,hnc,gW,hcs,vA⟩
 ·simp at h'
 ·simp only[Value.slice.injEq,Option.some.injEq,Addr.mk.injEq,and_true,true_and]at h';obtain⟨rfl,rfl⟩:=h';exact⟨_,_,_,rfl,.inr ⟨_,0,cur,_,by rw[Nat.zero_mul],.inr rfl,Sr,hg,by rw[Nat.zero_add,hcs];omega,by omega⟩⟩
def AW(w:World)(F:Nat→Prop):(n:Nat)→Tm n→TF→Value→Prop
 | 0,_,_,_=>False
 | n+1,t,f,u=>t.f=f∧bl w F n u t.items
theorem AW.mono{w w':World}{F F':Nat→Prop}(hs:∀g,F g→w'.heap[g]?=w.heap[g]?)(hF:∀g,F g→F' g){n:Nat}{t:Tm n}{f:TF}{u:Value}(h:AW w F n t f u):AW w' F' n t f u:=by
 cases n with
 | zero=>exact h
 | succ n=>exact⟨h.1,h.2.mono hs hF⟩
def C_{n:Nat}(l:List (Tm n))(w:World)(F:Nat→Prop)(j:Nat)(f:TF)(u:Value):Prop:=∃h:j<l.length,AW w F n l[j] f u
theorem mI{n:Nat}(l:List (Tm n))(B:Nat):Ib B (C_ l):=fun w w' F F' j f u h1 h2 h3 ⟨h,he⟩=>⟨h,he.mono h1 h3⟩
theorem bl.mk{n:Nat}{w:World}{F:Nat→Prop}{g cap:Nat}(l:List (Tm n))(rs:List (TF×Value))(hl:rs.length=l.length)(hc:l.length≤cap)(hm:cap≤maxLen)(hF:F g)(h:∀j,(hj:j<rs.length)→Cells w g (j*9) rs[j].1 rs[j].2∧C_ l w F j rs[j].1 rs[j].2):bl w F n (.slice (some ⟨g,0,none⟩) l.length cap) l:=by
 cases n with
 | zero =>
  have:=Tm.js l;subst this;exact⟨_,_,rfl,hm⟩
 | succ n =>
  refine⟨_,_,rfl,hc,hm,fun _=>⟨g,0,rfl,hF,fun j hj=>?_⟩⟩;obtain⟨h1,_,h2,h3⟩:=h j (by omega);refine⟨_,?_,h3⟩;rw[Nat.zero_add,h2];exact h1
theorem Ic(W:World)(c:Int)(cap:Nat)(h:c=cap)(hc:cap≤1000000000000):(Instr.makeSlice 22 (.int .i64 0) (.int .i64 c)).run Tryz.prog W=.ok (.slice (some ⟨W.heap.size,0,none⟩) 0 cap) (W.alloc (.cells (madeCells #[.int .i64 0,.int .i64 0,.int .i64 0,.string ⟨#[]⟩,.string ⟨#[]⟩,.int .i64 0,.slice none 0 0,.string ⟨#[]⟩,.int .i64 0] (cap*9)) 24)):=by
 obtain⟨i0,hi,hz,hs,hb⟩:=info_parts CP;subst h;have:=run_make (P:=Tryz.prog) W 22 24 i0 _ Tryz.underlying22 hi hz .i64 .i64 0 (cap:Int) (by omega) (by omega) (by rw[hb];omega) (by omega);rw[hs]at this;simp only[Int.toNat_natCast,Int.toNat_zero]at this;exact this
def AX(n:Nat):Prop:=∀(w:World) (B:Nat) (v:Value) (t:Tm (n+1)),B≤w.heap.size→ah w B n v t.items→ap t≤100000000→Calls Tryz.prog 51 #[aj t.f v] w (Ia t.f t.items w)
def yR(n:Nat):Prop:=∀(w:World) (B:Nat) (v:Value) (l:List (Tm n)),B≤w.heap.size→ah w B n v l→aP n l≤100000000→Calls Tryz.prog 84 #[v] w (EO l w)
def EPost{n:Nat}(l:List (Tm n))(j:Nat)(x:TF)(m:Nat)(w:World)(e:Ending)(w':World):Prop :=
 ∃F g,e=.returned (aj x (.slice (some ⟨g,0,none⟩) m m))∧C_ l w' F j x (.slice (some ⟨g,0,none⟩) m m)∧(∀q,F q→w.heap.size≤q∧q<w'.heap.size)∧Typed w' F∧(∀q,q<w.heap.size→i_ w' F q (.slice (some ⟨g,0,none⟩) m m))∧Below w.heap.size w w'
theorem Ie{n:Nat}(ih:∀m,n=m+1→AX m)(w:World)(B:Nat)(p:Option Addr)(len c:Nat)(l:List (Tm n))(hB:B≤w.heap.size)(h1:ah w B n (.slice p len c) l)(hs:aP n l≤100000000) :
 ∀j,(hj:j<l.length)→∃g o x q m d,p=some ⟨g,o,none⟩∧g<w.heap.size∧Cells w g (o+j*9) x (.slice q m d)∧∀W,Below w.heap.size w W→Calls Tryz.prog 51 #[aj x (.slice q m d)] W (EPost l j x m W):=by
 cases n with
 | zero=>intro j hj;rw[Tm.js l]at hj;exact absurd hj (by simp)
 | succ n =>
  intro j hj;obtain⟨g,o,d,e,_,_,hg,hx⟩:=h1.at_ (by intro e;subst e;simp at hj);obtain⟨u,hC,hI⟩:=hx j hj;simp only[Value.slice.injEq]at e;obtain⟨q,c',rfl,_,_⟩:=hI.shape;have hn:=iK hj;refine⟨g,o,l[j].f,q,_,c',e.1,by omega,hC,fun W hb=>?_⟩;refine(ih n rfl W B _ l[j] (Nat.le_trans hB hb.size) (hI.below hb hB) (by omega)).mono ?_;rintro e w' ⟨F,g',rfl,hn,hF⟩;exact⟨F,g',rfl,⟨hj,rfl,hn.items⟩,hn.inr,hn.typed,hn.ptr,hn.below⟩
set_option maxHeartbeats 400000 in
theorem vE{n:Nat}(ih:∀m,n=m+1→AX m):yR n:=by
 intro w B v l hB h1 hs;have hlen:=iJ n l;obtain⟨p,c,rfl,hc,hm⟩:=h1.shape;have HP:=Qh (Ie ih w B p l.length c l hB h1 hs);have hle:l.length≤100000000:=by omega
 have Wu:(l.length:Int)≤100000000:=by omega
 have hmk:=fun W=>Ic W (l.length:Int) l.length rfl (by omega);clear ih h1 hs hlen hc hm;obtain⟨i0,nA,pq,bT,bX⟩:=info_parts CP;go_enter Tryz.func84,Tryz.ntmps84;go_wp2_with fail;have HI:eI (C_ l) w (w.alloc (.cells (madeCells dG (l.length*9)) 24)) l.length 0 [] (fun _=>False):=eI.start _ (by unfold maxLen;omega) (size_madeCells _ _);generalize(w.alloc (.cells (madeCells dG (l.length*9)) 24))=w0 at*
 go_loopw [3,11] (fun s t wr=>∃(k:Nat) (rs:List (TF×Value)) (F:Nat→Prop),s=.slice (some ⟨w.heap.size,0,none⟩) k l.length∧t=.int .i64 k∧k≤l.length∧Hid (eI (C_ l) w wr l.length k rs F)) (fun _ t _=>l.length-(intOf t).toNat)
 case atStart=>exact⟨0,[],fun _=>False,rfl,rfl,by omega,Qh HI⟩
 case round=>
  obtain⟨k,rs,F,rfl,rfl,hk,HR⟩:=hrel
  by_cases hlt:k<l.length
  ·obtain⟨g,o,x,q,m,d,rfl,hg,hC,cT⟩:=HP.out k hlt;have cL:=Qh cT;clear cT;have hC:=hC.same (HR.out.below.block g hg);have vh:g<wr.heap.size:=Nat.lt_of_lt_of_le hg HR.out.below.size;obtain⟨x0,x1,x2,x3,x4,x5,x6,x7,x8⟩:=hC;obtain⟨kk,ii,gg,nm,fn,ar,aL,bt⟩:=x;dsimp only at x0 x1 x2 x3 x4 x5 x6 x7 x8;unfold EPost aj at cL;dsimp only at cL;go_wp2_with fail;have aD:Qb wr (wr.alloc (av ⟨kk,ii,gg,nm,fn,ar,aL,bt⟩ (.slice q m d))):=(Below.refl _ _).alloc (Nat.le_refl _) _;refine(cL.out _ (HR.out.below.trans (aD.mono HR.out.below.size))).mono ?_
   rintro e w2 ⟨F',g',rfl,hE,hin,hty,Ss,a_⟩;have yS:Qb wr w2:=aD.trans (a_.mono (by simp));have bN:Qb w2 (w2.alloc (av ⟨kk,ii,gg,nm,fn,ar,aL,bt⟩ (.slice (some ⟨g',0,none⟩) m m))):=(Below.refl _ _).alloc (Nat.le_refl _) _;have vF:Qb wr (w2.alloc (av ⟨kk,ii,gg,nm,fn,ar,aL,bt⟩ (.slice (some ⟨g',0,none⟩) m m))):=yS.trans (bN.mono yS.size);have HS:∀g,F' g→(w2.alloc (av ⟨kk,ii,gg,nm,fn,ar,aL,bt⟩ (.slice (some ⟨g',0,none⟩) m m))).heap[g]?=w2.heap[g]?:=fun g hg=>bN.block g (hin g hg).2
   have HE:=Qh (mI l w.heap.size _ _ _ _ _ _ _ HS (fun g hg=>bN.block g (Nat.lt_of_lt_of_le hg (Nat.le_trans HR.out.below.size yS.size))) (fun _ h=>h) hE);have yT:=Qh ((Ss w.heap.size (by have:=HR.out.lt;simp;omega)).mono HS (fun _ h=>h));have On:=Qh (hty.same HS);have AY:Hid (∀g,F' g→wr.heap.size≤g∧g<(w2.alloc (av ⟨kk,ii,gg,nm,fn,ar,aL,bt⟩ (.slice (some ⟨g',0,none⟩) m m))).heap.size):=Qh (fun g hg=>by have:=hin g hg;simp at this ⊢;omega);have Da:=Qh (HR.out.M6 vF);have Oo:=Qh (xo w2 ⟨kk,ii,gg,nm,fn,ar,aL,bt⟩ (.slice (some ⟨g',0,none⟩) m m))
   have FA:=Qh (qT ⟨kk,ii,gg,nm,fn,ar,aL,bt⟩ (some ⟨g',0,none⟩) m m);have Oq:=Qh vF;clear hE hin hty Ss a_ aD yS bN vF HS;unfold av at HE yT On AY Da Oo Oq;dsimp only at HE yT On AY Da Oo Oq;go_wp2_with (at_builtin;refine wpList_append_fits rfl (.tmp 15) (.tmp 18) 22 rfl w.heap.size 24 i0 9 Tryz.underlying22 nA bT w.heap.size k l.length (cA rs) rfl Da.out ⟨w2.heap.size,0,none⟩ 1 1 (aE ⟨kk,ii,gg,nm,fn,ar,aL,bt⟩ (.slice (some ⟨g',0,none⟩) m m)) rfl rfl Oo.out FA.out (by omega) ?_;intro w4 Ig Sq)
   have rA:=Qh (HR.out.next (mI l w.heap.size) Oq.out HE.out yT.out On.out AY.out Sq Ig);go_roundw
   case rel=>exact⟨k+1,_,_,rfl,by go_num,by omega,rA⟩
   case measure=>simp[intOf];omega
  ·obtain rfl:k=l.length:=by omega
   have HT:=Qh (HR.out.full rfl);have Ih:=Qh (fun q hq=>HR.out.root l.length (Nat.le_refl _) q hq);have hr:=HR.out;go_wp2_with fail;go_ret
   refine⟨fun g=>F g∨g=w.heap.size,w.heap.size,rfl,⟨?_,fun q hq=>?_,HT.out,Ih.out,hr.below⟩,.inr rfl⟩
   ·exact bl.mk l rs hr.len (Nat.le_refl _) (by unfold maxLen;omega) (.inr rfl) (fun j hj=>⟨hr.cells j hj,mI l w.heap.size wr wr F _ _ _ _ (fun _ _=>rfl) (fun _ _=>rfl) (fun _ h=>.inl h) (hr.Lf j hj).1⟩)
   ·rcases hq with hq|rfl
    ·have:=hr.inr q hq;omega
    ·exact⟨Nat.le_refl _,hr.lt⟩
theorem AZ{n:Nat}(hC:yR n):AX n:=by
 intro w B v t hB h1 hs;obtain⟨p,c,rfl,hc,hm⟩:=h1.shape;refine Sp t.f p t.items.length c t.items w (fun W hb=>hC W B _ t.items (Nat.le_trans hB hb.size) (h1.below hb hB) (by unfold ap at hs;omega))
theorem xQ:∀n,yR n
 | 0=>vE (fun m h=>by omega)
 | n+1=>vE (fun m h=>by
  obtain rfl:n=m:=by omega
  exact AZ (xQ n))
theorem ji(n:Nat):AX n:=AZ (xQ n)
def pW(w:World)(b o:Nat)(f:TF)(v:Value):World :=
 ((((((((w.setCell ⟨b,o,none⟩ (.int .i64 f.kind)).setCell ⟨b,o+1,none⟩ (.int .i64 f.int)).setCell ⟨b,o+2,none⟩ (.int .i64 f.gen)).setCell ⟨b,o+3,none⟩ (.string f.name)).setCell ⟨b,o+4,none⟩ (.string f.func)).setCell ⟨b,o+5,none⟩ (.int .i64 f.arity)).setCell ⟨b,o+6,none⟩ v).setCell ⟨b,o+7,none⟩ (.string f.bytes)).setCell ⟨b,o+8,none⟩ (.int .i64 f.bits)
theorem xR:∀(d:List (TF×Value)) (j:Nat) (f:TF) (v:Value),j<d.length →
 (((((((((cA d).set (j*9) (.int .i64 f.kind)).set (j*9+1) (.int .i64 f.int)).set (j*9+2) (.int .i64 f.gen)).set (j*9+3) (.string f.name)).set (j*9+4) (.string f.func)).set (j*9+5) (.int .i64 f.arity)).set (j*9+6) v).set (j*9+7) (.string f.bytes)).set (j*9+8) (.int .i64 f.bits)=cA (d.set j (f,v))
 | r::d,0,f,v,_=>rfl
 | r::d,j+1,f,v,h=>by
  have ih:=xR d j f v (by simpa using h);have e:∀(l:List Value) (k:Nat) (x:Value),(aE r.1 r.2++l).set ((j+1)*9+k) x=aE r.1 r.2++l.set (j*9+k) x:=fun l k x=>by
   rw[List.set_append_right _ _ (by simp[aE];omega)];congr 2;simp[aE];omega
  have e0:∀(l:List Value) (x:Value),(aE r.1 r.2++l).set ((j+1)*9) x=aE r.1 r.2++l.set (j*9) x:=fun l x=>e l 0 x;show(((((((((aE r.1 r.2++cA d).set _ _).set _ _).set _ _).set _ _).set _ _).set _ _).set _ _).set _ _).set _ _=aE r.1 r.2++cA (d.set j (f,v));rw[e0,e,e,e,e,e,e,e,e,ih]
theorem Ii{w:World}{base b n cap:Nat}{d:List (TF×Value)}(h:w.ownsRow base 24 9 (.slice (some ⟨b,0,none⟩) n cap) n (cA d))(j:Nat)(hj:j<d.length)(f:TF)(v:Value) :
 (pW w b (j*9) f v).ownsRow base 24 9 (.slice (some ⟨b,0,none⟩) n cap) n (cA (d.set j (f,v))):=by
 rw[←xR d j f v hj];unfold pW;exact((((((((h.stored _ _).1.stored _ _).1.stored _ _).1.stored _ _).1.stored _ _).1.stored _ _).1.stored _ _).1.stored _ _).1.stored _ _ |>.1
theorem Db(w:World)(b o:Nat)(f:TF)(v:Value):ax (fun k=>k=b) w (pW w b o f v):=by
 unfold pW
 repeat' (first|with_reducible exact ax.refl _ _|with_reducible refine ax.setCell ?_ _ _ (fun _=>rfl))
structure bB{α:Type}(enc:α→TF×Value)(w0 wr:World)(b n cap:Nat)(d:List α):Prop where
 own:wr.ownsRow 0 24 9 (.slice (some ⟨b,0,none⟩) n cap) n (cA (d.map enc))
 len:d.length=n
 aX:ax (fun k=>k=b) w0 wr
variable {α:Type}{enc:α→TF×Value}{w0 wr:World}{b n cap:Nat}{d:List α}
theorem bB.lt(h:bB enc w0 wr b n cap d):b<wr.heap.size:=by
 rcases h.own.2 with⟨h',_⟩|⟨g',cap',cur,h',mC,hg,_⟩
 ·simp at h'
 ·simp only[Value.slice.injEq,Option.some.injEq,Addr.mk.injEq,and_true,true_and]at h';obtain⟨rfl,rfl⟩:=h';exact(Qg hg)
theorem bB.room(h:bB enc w0 wr b n cap d):n≤cap∧cap≤maxLen:=by
 rcases h.own.2 with⟨h',_⟩|⟨g',cap',cur,h',mC,hg,h1,h2,_⟩
 ·simp at h'
 ·simp only[Value.slice.injEq,Option.some.injEq,Addr.mk.injEq,and_true,true_and]at h';obtain⟨rfl,rfl⟩:=h';exact⟨h1,h2⟩
theorem bB.cells(h:bB enc w0 wr b n cap d)(j:Nat)(hj:j<d.length):Cells wr b (j*9) (enc d[j]).1 (enc d[j]).2:=by
 have:=pF h.own (by simp[h.len]) j (by simpa using hj);simpa using this
theorem bB.frozen(h:bB enc w0 wr b n cap d)(o:Nat):wr.frozen? ⟨b,o,none⟩=false:=h.own.frozenAt o
theorem bB.below(h:bB enc w0 wr b n cap d){w':World}(hb:Below wr.heap.size wr w')(hw:w0.heap.size≤wr.heap.size):bB enc w0 w' b n cap d :=
 ⟨oA h.own (fun q hq=>hb.block q (by
  have e:b=q:=by simpa[Value.ownBlock] using hq
  have:=h.lt
  omega)),h.len,h.aX.bJ hb hw⟩
theorem bB.drewN(h:bB enc w0 wr b n cap d)(k:Nat):bB enc w0 (wr.drewN k) b n cap d:=⟨h.own,h.len,h.aX.drewN k⟩
theorem bB.set(h:bB enc w0 wr b n cap d)(j:Nat)(hj:j<d.length)(x:α):bB enc w0 (pW wr b (j*9) (enc x).1 (enc x).2) b n cap (d.set j x):=by
 refine⟨?_,by simp[h.len],h.aX.trans (Db _ _ _ _ _) (fun _ _ e=>e)⟩;rw[List.map_set];exact Ii h.own j (by simpa using hj) _ _
theorem bB.swap(h:bB enc w0 wr b n cap d)(i j:Nat)(hi:i<d.length)(hj:j<d.length) :
 bB enc w0 (pW (pW wr b (i*9) (enc d[j]).1 (enc d[j]).2) b (j*9) (enc d[i]).1 (enc d[i]).2).drew b n cap ((d.set i d[j]).set j d[i]) :=
 ((h.set i hi d[j]).set j (by simpa using hj) d[i]).drewN 1
theorem FU(P Q:List α)(y x:α):(((P++y::x::Q).set (P.length+1) y).set P.length x)=P++x::y::Q:=by
 rw[List.set_append_right _ _ (by omega),List.set_append_right _ _ (Nat.le_refl _)];simp
structure A0(enc:α→TF×Value)(w0:World)(b:Nat)(g:Nat)(S:α→Prop)(c:α→α→Int):Prop where
 shape:∀x,S x→∃p m k,(enc x).2=.slice p m k
 call:∀W x y,ax (fun k=>k=b) w0 W→S x→S y→Calls Tryz.prog g #[aj (enc x).1 (enc x).2,aj (enc y).1 (enc y).2] W (aM (c x y) W)
def k_(w w':World)(F:Nat→Prop):Prop:=∀g,F g→∀cur fz,w.heap[g]?=some (.cells cur 24 fz)→∃St,w'.heap[g]?=some (.cells St 24 fz)∧St.size=cur.size
theorem k_.refl(w:World)(F:Nat→Prop):k_ w w F:=fun g hg cur fz h=>⟨cur,h,rfl⟩
theorem k_.trans{a b c:World}{F:Nat→Prop}(h:k_ a b F)(k:k_ b c F):k_ a c F:=fun g hg cur fz h0=>by
 obtain⟨c1,h1,h2⟩:=h g hg cur fz h0;obtain⟨c2,h3,h4⟩:=k g hg c1 fz h1;exact⟨c2,h3,h4.trans h2⟩
theorem A6{w:World}{g x:Nat}{cur:Array Value}{e:TypeId}{fz:Nat×Nat}(h:w.heap[g]?=some (.cells cur e fz)):w.cell? ⟨g,x,none⟩=cur[x]?:=by
 unfold World.cell?;rw[h];rfl
theorem Cells.blk{w:World}{g o:Nat}{cur:Array Value}{e:TypeId}{fz:Nat×Nat}{f:TF}{v:Value}(h:w.heap[g]?=some (.cells cur e fz))(hc:∀i,i<9→cur[o+i]?=(aE f v)[i]?):Cells w g o f v :=
 Cells.of fun i hi=>(A6 h).trans (hc i hi)
def EP(F:Nat→Prop)(w wr:World):Prop:=Typed wr F∧k_ w wr F∧ax F w wr∧wr.heap.size=w.heap.size
theorem EP.trans{F:Nat→Prop}{a b c:World}(h:EP F a b)(k:EP F b c):EP F a c :=
 ⟨k.1,h.2.1.trans k.2.1,h.2.2.1.trans k.2.2.1 (fun _ _ h=>h),k.2.2.2.trans h.2.2.2⟩
end Go.Proofs.YtfbggmbmgohiiaaGreat.tm
