/- TmJ,TmK,TmK2. No condition beyond theirs. -/
import Derived.Test.YtfbggmbmgohiiaaGreatR08
import Derived.Laws.EntriesVeiled
import Derived.Deep.RegionHeld3
import Derived.Deep.CutRange
set_option linter.unusedSimpArgs false
set_option linter.unusedVariables false
set_option maxHeartbeats 1000000
set_option maxRecDepth 100000
namespace Go.Proofs.YtfbggmbmgohiiaaGreat.tm
open Go.RowKit mem names
def NR:Value:=.agg #[.func (.func 141) #[] #[],.func (.func 142) #[] #[],.func (.func 143) #[] #[],.func (.func 138) #[] #[],.func (.func 144) #[] #[],.func (.func 145) #[] #[],.func (.func 138) #[] #[],.func (.func 146) #[] #[],.func (.func 147) #[] #[],.func (.func 148) #[] #[],.func (.func 149) #[] #[]]
theorem kinds(w:World):Calls Tryz.prog 123 #[] w fun e w'=>e=.returned NR∧Below w.heap.size w w':=by
 unfold NR;go_enter Tryz.func123,Tryz.ntmps123;go_wp2_with fail;exact bodyPost_ret (v:=.agg #[.func (.func 141) #[] #[],.func (.func 142) #[] #[],.func (.func 143) #[] #[],.func (.func 138) #[] #[],.func (.func 144) #[] #[],.func (.func 145) #[] #[],.func (.func 138) #[] #[],.func (.func 146) #[] #[],.func (.func 147) #[] #[],.func (.func 148) #[] #[],.func (.func 149) #[] #[]]) (by simp[results,Tryz.results123,go_sem, *]) rfl ⟨rfl,Qz⟩
def NS(k:Int):Nat:=if k=0 then 141 else if k=1 then 142 else if k=2 then 143 else if k=3 then 138 else if k=4 then 144 else if k=5 then 145 else if k=6 then 138 else if k=7 then 146 else if k=8 then 147 else if k=9 then 148 else 149
theorem xE{w:World}{B n:Nat}{p:Option Addr}{m c:Nat}{l:List (Tm n)}(h:ah w B n (.slice p m c) l)(h2:2≤m):∃g0 o0,p=some ⟨g0,o0,none⟩∧w.cell? ⟨g0,o0+(m-1)*9,none⟩=some (.int .i64 (oG n l))∧g0<B:=by
 obtain⟨p',c',e,_,_⟩:=h.shape;simp only[Value.slice.injEq]at e;obtain⟨rfl,rfl,rfl⟩:=e;cases n with
 | zero=>rw[Tm.js l]at h2;simp at h2
 | succ n =>
  obtain⟨g,o,c2,e,_,_,hg,hx⟩:=h.at_ (by intro e;subst e;simp at h2);simp only[Value.slice.injEq]at e;obtain⟨u,hC,_⟩:=hx (l.length-1) (by omega);refine⟨g,o,e.1,?_,hg⟩;have:oG (n+1) l=(l[l.length-1]'(by omega)).f.kind:=by
   change(Option.map (fun t:Tm (n+1)=>t.f.kind) (List.getLast? l)).getD 0=_;rw[List.getLast?_eq_getElem?,List.getElem?_eq_getElem (by omega)];rfl
  rw[this];exact hC.c0
theorem KY{n:Nat}(f:TF)(v:Value)(l:List (Tm n))(w:World)(B:Nat)(hB:B≤w.heap.size)(hI:ah w B n v l)(h0:0≤f.kind)(h1:f.kind≤10):Calls Tryz.prog (NS f.kind) #[aj f v] w (fU f v l.length (oG n l) w):=by
 obtain⟨p,c,rfl,hn,hc⟩:=hI.shape;unfold maxLen at hc;have p7:=fun h2=>xE hI h2;obtain⟨k,i,g,nm,fn,ar,aL,bt⟩:=f;dsimp only at h0 h1 ⊢;have ways:k=0∨k=1∨k=2∨k=3∨k=4∨k=5∨k=6∨k=7∨k=8∨k=9∨k=10:=by omega
 rcases ways with rfl|rfl|rfl|rfl|rfl|rfl|rfl|rfl|rfl|rfl|rfl
 ·exact Ru i g nm fn ar aL bt p _ c _ w hn (by omega)
 ·exact KI i g nm fn ar aL bt p _ c _ w hn (by omega)
 ·exact G7 i g nm fn ar aL bt p _ c _ w hn (by omega)
 ·exact KJ i g nm fn ar aL bt p _ c _ w hn (by omega)
 ·exact Au i g nm fn ar aL bt p _ c _ w hn (by omega)
 ·exact CT i g nm fn ar aL bt p _ c _ w hn (by omega)
 ·exact KK i g nm fn ar aL bt p _ c _ w hn (by omega)
 ·exact FD i g nm fn ar aL bt p _ c _ w hn (by omega)
 ·exact KL i g nm fn ar aL bt p _ c _ w hn (by omega)
 ·exact G5 i g nm fn ar aL bt p _ c _ w hn (by omega) (fun h2=>by obtain⟨g0,o0,e1,e2,e3⟩:=p7 h2;exact⟨g0,o0,e1,e2,by omega⟩)
 ·exact G8 i g nm fn ar aL bt p _ c _ w
def tu(s:Int):Obj:=.cells #[.func (.func 141) #[] #[],.func (.func 142) #[] #[],.func (.func 143) #[] #[],.func (.func 138) #[] #[],.func (.func 144) #[] #[],.func (.func 145) #[] #[],.func (.func 138) #[] #[],.func (.func 146) #[] #[],.func (.func 147) #[] #[],.func (.func 148) #[] #[],.func (.func 149) #[] #[],.int .i64 s] 159
def fN(w:World)(g:Nat)(s:Int):Prop:=w.heap[g]?=some (tu s)
theorem fN.fn{w:World}{g:Nat}{s:Int}(h:fN w g s)(k:Nat)(hk:k≤10):w.cell? ⟨g,k,none⟩=some (.func (.func (NS k)) #[] #[]):=by
 unfold fN tu at h;have ways:k=0∨k=1∨k=2∨k=3∨k=4∨k=5∨k=6∨k=7∨k=8∨k=9∨k=10:=by omega
 rcases ways with rfl|rfl|rfl|rfl|rfl|rfl|rfl|rfl|rfl|rfl|rfl <;> (simp only[World.cell?,h];rfl)
theorem fN.size{w:World}{g:Nat}{s:Int}(h:fN w g s):w.cell? ⟨g,11,none⟩=some (.int .i64 s):=by
 unfold fN tu at h;simp only[World.cell?,h];rfl
theorem fN.frozen{w:World}{g:Nat}{s:Int}(h:fN w g s)(o:Nat):w.frozen? ⟨g,o,none⟩=false:=by
 unfold fN tu at h;simp only[World.frozen?,h];simp
theorem fN.lt{w:World}{g:Nat}{s:Int}(h:fN w g s):g<w.heap.size:=by
 rcases Nat.lt_or_ge g w.heap.size with h1|h1
 ·exact h1
 ·unfold fN at h;rw[Array.getElem?_eq_none h1]at h;cases h
theorem fN.set{w:World}{g:Nat}{s:Int}(h:fN w g s)(s':Int):fN (w.setCell ⟨g,11,none⟩ (.int .i64 s')) g s':=by
 have hl:=h.lt;unfold fN tu at*;unfold World.setCell;rw[Array.getElem?_modify,if_pos rfl,h];rfl
theorem fN.block{w w':World}{g:Nat}{s:Int}(h:fN w g s)(e:w'.heap[g]?=w.heap[g]?):fN w' g s:=by
 unfold fN at*;rw[e];exact h
def tC(g:Nat)(s:Int)(b:Bool)(nodes:Nat)(whole:Int)(w:World)(e:Ending)(w':World):Prop :=
 e=.returned (.bool b)∧∃s',fN w' g s'∧ax (fun k=>k=g) w w'∧0≤s'∧s'≤s+300*nodes-1∧(b=true→s'=s+whole)
def Hh(n:Nat):Prop:=∀(w:World) (B g z:Nat) (v:Value) (l:List (Tm n)) (s:Int),B≤w.heap.size→ah w B n v l→fN w g s→B≤g→w.cell? ⟨z,0,none⟩=some (.pointer (some ⟨g,0,none⟩))→z<w.heap.size→z≠g→0≤s→s+300*(aP n l:Int)-l.length≤1000000000000 →
 Calls Tryz.prog 150 #[v,.func (.func 151) #[] #[.pointer (some ⟨z,0,none⟩)]] w fun e w'=>e=.returned (.bool (!bp n l))∧∃s',fN w' g s'∧ax (fun k=>k=g) w w'∧0≤s'∧s'≤s+300*aP n l-l.length∧(bp n l=true→s'=s+cF n l)
def MN(n:Nat):Prop:=∀(w:World) (B g:Nat) (v:Value) (t:Tm (n+1)) (s:Int),B≤w.heap.size→ah w B n v t.items→fN w g s→B≤g→0≤s→s+300*(ap t:Int)-1≤1000000000000 →
 Calls Tryz.prog 124 #[.pointer (some ⟨g,0,none⟩),aj t.f v] w (tC g s (aJ t) (ap t) (cD t) w)
theorem Vi{n:Nat}(w:World)(g:Nat)(v:Value)(t:Tm (n+1))(s:Int)(hM:fN w g s)(hs:0≤s)(hk:¬(0≤t.f.kind∧t.f.kind≤10))(hv:∃p m c,v=.slice p m c) :
 Calls Tryz.prog 124 #[.pointer (some ⟨g,0,none⟩),aj t.f v] w (tC g s (aJ t) (ap t) (cD t) w):=by
 have hno:aJ t=false:=by
  unfold aJ G_;rw[Ak hk];rfl
 rw[hno];obtain⟨p,m,c,rfl⟩:=hv;have bP:∀w',ax (fun k=>k=g) w w'→w'.heap[g]?=w.heap[g]?→tC g s false (ap t) (cD t) w (.returned (.bool false)) w':=fun w' hb he=>⟨rfl,s,hM.block he,hb,hs,by have:1≤ap t:=(by unfold ap;omega);omega,fun h=>by cases h⟩;have HF:=Qh bP;clear bP;have mo:=hM.lt;clear hM hno hs;unfold aj;have cz:1≤ap t:=by unfold ap;omega
 generalize ap t=N,cD t=W,t.f=f at*;obtain⟨k,i,gg,nm,fn,ar,aL,bt⟩:=f;dsimp only at hk ⊢
 by_cases h0:k<0
 ·have q:decide (k<0)=true:=decide_eq_true h0;go_enter Tryz.func124,Tryz.ntmps124;go_wp2_with fail;go_ret;exact HF.out _ (((ax.refl _ _).alloc _).alloc _) (by rw[Below.heap_alloc _ _ _ (by simp;omega),Below.heap_alloc _ _ _ mo])
 ·have h1:11≤k:=by omega
  have q:decide (k<0)=false:=decide_eq_false h0;have q:decide (11≤k)=true:=decide_eq_true h1;go_enter Tryz.func124,Tryz.ntmps124;go_wp2_with fail;go_ret;exact HF.out _ (((ax.refl _ _).alloc _).alloc _) (by rw[Below.heap_alloc _ _ _ (by simp;omega),Below.heap_alloc _ _ _ mo])
theorem KZ{w:World}{g:Nat}{f:TF}{v:Value}:((w.alloc (.cells #[.pointer (some ⟨g,0,none⟩)] 154)).alloc (av f v)).heap[w.heap.size]?=some (.cells #[.pointer (some ⟨g,0,none⟩)] 154)∧((w.alloc (.cells #[.pointer (some ⟨g,0,none⟩)] 154)).alloc (av f v)).heap[w.heap.size+1]?=some (av f v):=by
 have h1:=(MapKept.heap_alloc w (.cells #[.pointer (some ⟨g,0,none⟩)] 154)).1;have h2:=(MapKept.heap_alloc (w.alloc (.cells #[.pointer (some ⟨g,0,none⟩)] 154)) (av f v)).1;exact⟨by rw[Below.heap_alloc _ _ _ (by simp)];exact h1,by simpa using h2⟩
theorem kC{w:World}{z o:Nat}{u:Value}{c:Array Value}{e:TypeId}{fz:Nat×Nat}(h:w.heap[z]?=some (.cells c e fz)):(w.setCell ⟨z,o,none⟩ u).heap[z]?=some (.cells (c.setIfInBounds o u) e fz):=by
 unfold World.setCell;rw[Array.getElem?_modify,if_pos rfl,h];rfl
theorem eZ{w:World}{z:Nat}(f:TF)(v:Value)(h:w.heap[z]?=some (av aY aK)):gu (((((((((w.setCell ⟨z,0,none⟩ (.int .i64 f.kind)).setCell ⟨z,1,none⟩ (.int .i64 f.int)).setCell ⟨z,2,none⟩ (.int .i64 f.gen)).setCell ⟨z,3,none⟩ (.string f.name)).setCell ⟨z,4,none⟩ (.string f.func)).setCell ⟨z,5,none⟩ (.int .i64 f.arity)).setCell ⟨z,6,none⟩ v).setCell ⟨z,7,none⟩ (.string f.bytes)).setCell ⟨z,8,none⟩ (.int .i64 f.bits)) z f v:=by
 unfold av aY aK at h;dsimp only at h;have h:=kC (o:=0) (u:=.int .i64 f.kind) h;have h:=kC (o:=1) (u:=.int .i64 f.int) h;have h:=kC (o:=2) (u:=.int .i64 f.gen) h;have h:=kC (o:=3) (u:=.string f.name) h;have h:=kC (o:=4) (u:=.string f.func) h;have h:=kC (o:=5) (u:=.int .i64 f.arity) h;have h:=kC (o:=6) (u:=v) h;have h:=kC (o:=7) (u:=.string f.bytes) h;have h:=kC (o:=8) (u:=.int .i64 f.bits) h;refine aW (h.trans ?_);simp[av]
theorem jf(W0 w1:World)(hb:Below (W0.drew.alloc (av aY aK)).heap.size (W0.drew.alloc (av aY aK)) w1):w1.heap[W0.heap.size]?=some (av aY aK):=by
 refine((hb.block _ (by simp)).trans ?_);exact(MapKept.heap_alloc W0.drew (av aY aK)).1
theorem jg(W0 w1:World)(hb:Below (W0.drew.alloc (av aY aK)).heap.size (W0.drew.alloc (av aY aK)) w1):gu w1 W0.heap.size aY aK:=by
 refine aW ((hb.block _ (by simp)).trans ?_);exact(MapKept.heap_alloc W0.drew (av aY aK)).1
theorem NT{n:Nat}(t:Tm (n+1)){f bf:TF}{p p3:Option Addr}{len c n3 c3:Nat}{ok:Bool}(h0:0≤f.kind)(h1:f.kind≤10)(hF:t.f=f)(u_:bG f=bf)(CH:bQ f (.slice p len c)=.slice p3 n3 c3)(hlen:t.items.length=len)(hok:okF f len (oG n t.items)=ok) :
 G_ t=(ok&&(dL { bf with kind:=0 } aY&&decide (n3=0))):=by
 unfold G_ m9;rw[hF,hlen,u_,hok,mq ⟨h0,h1⟩,Bool.true_and];congr 3;unfold bQ aK at CH
 split at CH
 ·rename_i h;rw[if_pos h];simp only[Value.slice.injEq]at CH;rw[CH.2.1]
 ·rename_i h;rw[if_neg h];simp only[Value.slice.injEq]at CH;rw[CH.2.1]
theorem CX{n:Nat}(t:Tm (n+1)){b:Bool}(h:G_ t=b):aJ t=(b&&bp n t.items):=by unfold aJ;rw[h]
theorem ve{f:TF}{len:Nat}{last:Int}(hok:okF f len last=true)(hN:True):1≤gO f len∧(gO f len≤(len:Int)-1∨gO f len≤257)∧(f.kind=9→2≤len)∧(f.kind=10→0≤f.bits∧f.bits≤16384)∧(f.kind≠9→gO f len≤257):=by
 obtain⟨k,i,g,nm,fn,ar,aL,bt⟩:=f;unfold gO;unfold okF at hok;dsimp only at*
 by_cases h9:k=9
 ·subst h9;simp at hok;refine⟨by simp;omega,.inl (by simp),fun _=>hok.1,fun h=>by omega,fun h=>absurd rfl h⟩
 ·by_cases lC:k=10
  ·subst lC;simp[kU,gq]at hok;have hb:=hok.1.1;refine⟨by simp;omega,.inr (by simp;omega),fun h=>by omega,fun _=>by omega,fun _=>by simp;omega⟩
  ·rw[if_neg h9,if_neg lC];exact⟨by omega,.inr (by omega),fun h=>absurd h h9,fun h=>absurd h lC,fun _=>by omega⟩
set_option maxHeartbeats 40000000 in
theorem RI{n:Nat}(hx:Hh n)(w:World)(B g:Nat)(v:Value)(t:Tm (n+1))(s:Int)(hB:B≤w.heap.size)(hI:ah w B n v t.items)(hM:fN w g s)(hg:B≤g)(hs:0≤s)(mB:s+300*(ap t:Int)-1≤1000000000000)(h0:0≤t.f.kind)(h1:t.f.kind≤10) :
 Calls Tryz.prog 124 #[.pointer (some ⟨g,0,none⟩),aj t.f v] w (tC g s (aJ t) (ap t) (cD t) w):=by
 obtain⟨p,c,rfl,hn,hc⟩:=hI.shape;unfold maxLen at hc;have hK:=fun(W:World) (hb:Qb w W)=>KY t.f _ t.items W B (Nat.le_trans hB hb.size) (hI.below hb hB) h0 h1;have mo:=hM.lt;unfold fU at hK;have HM:=Qh hM;have HI:=Qh hI;clear hM hI;generalize u_:bG t.f=bf,CH:bQ t.f (.slice p t.items.length c)=bv,hok:okF t.f t.items.length (oG n t.items)=ok at*;obtain⟨k2,i2,g2,iu,cU,gS,fW,tD⟩:=bf;obtain⟨p3,n3,c3,rfl⟩:∃p3 n3 c3,bv=.slice p3 n3 c3:=by
  unfold bQ aK at CH;split at CH
  ·exact⟨_,_,_,CH.symm⟩
  ·exact⟨_,_,_,CH.symm⟩
 unfold aj at*;have lY:=Qh u_;clear u_;have HBV:=Qh CH;clear CH;have Yv:=Qh hok;clear hok;obtain⟨m,hm⟩:∃m:Nat,t.f.kind=(m:Int):=⟨t.f.kind.toNat,by omega⟩;have Vj:m≤10:=by omega
 have hfn:=HM.out.fn m Vj;generalize hf:t.f=f,t.items.length=len at*;obtain⟨k,i,gg,nm,fn,ar,aL,bt⟩:=f;dsimp only at hm hK h0 h1 ⊢;rw[←hm]at hfn;generalize Yw:NS k=fk at*;have Hi:=Qh Yw;clear Yw;have Hm:=Qh hm;clear hm;have q1:decide (k<0)=false:=decide_eq_false (by omega);have q2:decide (11≤k)=false:=decide_eq_false (by omega);have HF:=Qh hf;clear hf;go_enter Tryz.func124,Tryz.ntmps124;go_upto_region 3 with fail;obtain⟨W0,hW⟩:∃x,x=(w.alloc (.cells #[.pointer (some ⟨g,0,none⟩)] 154)).alloc (.cells (a9 k i gg nm fn ar (.slice p len c) aL bt) 24):=⟨_,rfl⟩
 rw[←hW];have hw0:Qb w W0:=by rw[hW];exact((Below.refl _ _).alloc (Nat.le_refl _) _).alloc (by simp) _
 have hsz:W0.heap.size=w.heap.size+2:=by rw[hW];simp
 obtain⟨hb0,aD⟩:=KZ (w:=w) (g:=g) (f:=⟨k,i,gg,nm,fn,ar,aL,bt⟩) (v:=.slice p len c);unfold av at hb0 aD;dsimp only at hb0 aD;rw[←hW]at hb0 aD;clear hW;have hN:gu W0 (w.heap.size+1) ⟨k,i,gg,nm,fn,ar,aL,bt⟩ (.slice p len c):=aW aD;have HN:=Qh hN;obtain⟨a0,a1,a2,a3,a4,a5,a6,a7,a8,az⟩:=hN;dsimp only at a0 a1 a2 a3 a4 a5 a6 a7 a8;have hc0:W0.cell? ⟨w.heap.size,0,none⟩=some (.pointer (some ⟨g,0,none⟩)):=by simp only[World.cell?,hb0];rfl
 have RJ:W0.cell? ⟨g,m,none⟩=some (.func (.func fk) #[] #[]):=(hw0.cell (p:=⟨g,m,none⟩) mo).trans hfn
 have hS:∀W1,Qb W0 W1→W1.cell? ⟨w.heap.size,0,none⟩=some (.pointer (some ⟨g,0,none⟩))∧W1.cell? ⟨g,m,none⟩=some (.func (.func fk) #[] #[])∧W1.cell? ⟨w.heap.size+1,0,none⟩=some (.int .i64 k)∧W1.cell? ⟨w.heap.size+1,1,none⟩=some (.int .i64 i)∧W1.cell? ⟨w.heap.size+1,2,none⟩=some (.int .i64 gg)∧W1.cell? ⟨w.heap.size+1,3,none⟩=some (.string nm)∧W1.cell? ⟨w.heap.size+1,4,none⟩=some (.string fn)∧W1.cell? ⟨w.heap.size+1,5,none⟩=some (.int .i64 ar)∧W1.cell? ⟨w.heap.size+1,6,none⟩=some (.slice p len c)∧W1.cell? ⟨w.heap.size+1,7,none⟩=some (.string aL)∧W1.cell? ⟨w.heap.size+1,8,none⟩=some (.int .i64 bt):=fun W1 hb=>by
  have e:=fun o=>hb.cell (p:=⟨w.heap.size+1,o,none⟩) (by simp;omega);exact⟨(hb.cell (by simp;omega)).trans hc0,(hb.cell (by simp;omega)).trans RJ,(e _).trans a0,(e _).trans a1,(e _).trans a2,(e _).trans a3,(e _).trans a4,(e _).trans a5,(e _).trans a6,(e _).trans a7,(e _).trans a8⟩
 have HS:=Qh hS;clear hS;clear hb0 aD hfn;have qv:=Qh hsz;have j1:W0.heap.size≠w.heap.size:=by omega
 have j2:W0.heap.size≠w.heap.size+1:=by omega
 have j3:W0.heap.size≠g:=by omega
 have j4:g<W0.heap.size:=by omega
 clear hsz;have HK:=Qh hK;clear hK;go_cut [5,6] from 15 to 26 (fun x5 x6 wc=>∃z,x5=.pointer (some ⟨z,0,none⟩)∧x6=.bool ok∧W0.heap.size≤z∧z<wc.heap.size∧gu wc z ⟨k2,i2,g2,iu,cU,gS,fW,tD⟩ (.slice p3 n3 c3)∧Qb W0 wc)
 case first=>
  rcases(show m=0∨m=1∨m=2∨m=3∨m=4∨m=5∨m=6∨m=7∨m=8∨m=9∨m=10 by omega)with rfl|rfl|rfl|rfl|rfl|rfl|rfl|rfl|rfl|rfl|rfl
  ·obtain rfl:k=0:=by have:=Hm.out;omega
   obtain rfl:141=fk:=Hi.out;clear q1 q2 Hm
   go_region_held3 (fun w'=>w'.cell? ⟨w.heap.size,0,none⟩=some (.pointer (some ⟨g,0,none⟩))∧w'.cell? ⟨g,0,none⟩=some (.func (.func 141) #[] #[])∧w'.cell? ⟨w.heap.size+1,0,none⟩=some (.int .i64 0)∧w'.cell? ⟨w.heap.size+1,1,none⟩=some (.int .i64 i)∧w'.cell? ⟨w.heap.size+1,2,none⟩=some (.int .i64 gg)∧w'.cell? ⟨w.heap.size+1,3,none⟩=some (.string nm)∧w'.cell? ⟨w.heap.size+1,4,none⟩=some (.string fn)∧w'.cell? ⟨w.heap.size+1,5,none⟩=some (.int .i64 ar)∧w'.cell? ⟨w.heap.size+1,6,none⟩=some (.slice p len c)∧w'.cell? ⟨w.heap.size+1,7,none⟩=some (.string aL)∧w'.cell? ⟨w.heap.size+1,8,none⟩=some (.int .i64 bt)) (go_keep) (first
    | (go_at_call 141;refine(HK.out _ (hw0.drewN 1)).mono ?_;rintro e w1 ⟨rfl,hb⟩;have au:=((Below.refl W0.heap.size W0).drewN 1).trans hb;clear hb;obtain⟨s0,s1,s2,s3,s4,s5,s6,s7,s8,s9,wM⟩:=HS.out w1 au;have hl:=au.size;have hn1:=World.new_ne w1 _ s0;have hn2:=World.new_ne w1 _ s2;have FL:=World.new_ne w1 _ s1)
    | (go_at_call 141;refine(HK.out _ ((hw0.drewN 1).alloc hw0.size _)).mono ?_;rintro e w1 ⟨rfl,hb⟩;have au:=(((Below.refl W0.heap.size W0).drewN 1).alloc (by simp) _).trans (hb.mono (by simp));have HB:=Qh (jf W0 w1 hb);have p_:W0.heap.size<w1.heap.size:=(by have:=hb.size;simp at this;omega);obtain⟨s0,s1,s2,s3,s4,s5,s6,s7,s8,s9,wM⟩:=HS.out w1 au;obtain⟨y0,y1,y2,y3,y4,y5,y6,y7,y8,yz⟩:=jg W0 w1 hb;dsimp only[aY,aK]at y0 y1 y2 y3 y4 y5 y6 y7 y8))
   ·go_wp2_with fail;go_meet;exact⟨_,rfl,rfl,au.size,by simp,aW (MapKept.heap_alloc w1 (av ⟨k2,i2,g2,iu,cU,gS,fW,tD⟩ (.slice p3 n3 c3))).1,au.alloc au.size _⟩
   ·go_wp2_with fail;go_meet;exact⟨_,rfl,rfl,Nat.le_refl _,by simpa using p_,eZ ⟨k2,i2,g2,iu,cU,gS,fW,tD⟩ _ HB.out,Qz⟩
  ·obtain rfl:k=1:=by have:=Hm.out;omega
   obtain rfl:142=fk:=Hi.out;clear q1 q2 Hm
   go_region_held3 (fun w'=>w'.cell? ⟨w.heap.size,0,none⟩=some (.pointer (some ⟨g,0,none⟩))∧w'.cell? ⟨g,1,none⟩=some (.func (.func 142) #[] #[])∧w'.cell? ⟨w.heap.size+1,0,none⟩=some (.int .i64 1)∧w'.cell? ⟨w.heap.size+1,1,none⟩=some (.int .i64 i)∧w'.cell? ⟨w.heap.size+1,2,none⟩=some (.int .i64 gg)∧w'.cell? ⟨w.heap.size+1,3,none⟩=some (.string nm)∧w'.cell? ⟨w.heap.size+1,4,none⟩=some (.string fn)∧w'.cell? ⟨w.heap.size+1,5,none⟩=some (.int .i64 ar)∧w'.cell? ⟨w.heap.size+1,6,none⟩=some (.slice p len c)∧w'.cell? ⟨w.heap.size+1,7,none⟩=some (.string aL)∧w'.cell? ⟨w.heap.size+1,8,none⟩=some (.int .i64 bt)) (go_keep) (first
    | (go_at_call 142;refine(HK.out _ (hw0.drewN 1)).mono ?_;rintro e w1 ⟨rfl,hb⟩;have au:=((Below.refl W0.heap.size W0).drewN 1).trans hb;clear hb;obtain⟨s0,s1,s2,s3,s4,s5,s6,s7,s8,s9,wM⟩:=HS.out w1 au;have hl:=au.size;have hn1:=World.new_ne w1 _ s0;have hn2:=World.new_ne w1 _ s2;have FL:=World.new_ne w1 _ s1)
    | (go_at_call 142;refine(HK.out _ ((hw0.drewN 1).alloc hw0.size _)).mono ?_;rintro e w1 ⟨rfl,hb⟩;have au:=(((Below.refl W0.heap.size W0).drewN 1).alloc (by simp) _).trans (hb.mono (by simp));have HB:=Qh (jf W0 w1 hb);have p_:W0.heap.size<w1.heap.size:=(by have:=hb.size;simp at this;omega);obtain⟨s0,s1,s2,s3,s4,s5,s6,s7,s8,s9,wM⟩:=HS.out w1 au;obtain⟨y0,y1,y2,y3,y4,y5,y6,y7,y8,yz⟩:=jg W0 w1 hb;dsimp only[aY,aK]at y0 y1 y2 y3 y4 y5 y6 y7 y8))
   ·go_wp2_with fail;go_meet;exact⟨_,rfl,rfl,au.size,by simp,aW (MapKept.heap_alloc w1 (av ⟨k2,i2,g2,iu,cU,gS,fW,tD⟩ (.slice p3 n3 c3))).1,au.alloc au.size _⟩
   ·go_wp2_with fail;go_meet;exact⟨_,rfl,rfl,Nat.le_refl _,by simpa using p_,eZ ⟨k2,i2,g2,iu,cU,gS,fW,tD⟩ _ HB.out,Qz⟩
  ·obtain rfl:k=2:=by have:=Hm.out;omega
   obtain rfl:143=fk:=Hi.out;clear q1 q2 Hm
   go_region_held3 (fun w'=>w'.cell? ⟨w.heap.size,0,none⟩=some (.pointer (some ⟨g,0,none⟩))∧w'.cell? ⟨g,2,none⟩=some (.func (.func 143) #[] #[])∧w'.cell? ⟨w.heap.size+1,0,none⟩=some (.int .i64 2)∧w'.cell? ⟨w.heap.size+1,1,none⟩=some (.int .i64 i)∧w'.cell? ⟨w.heap.size+1,2,none⟩=some (.int .i64 gg)∧w'.cell? ⟨w.heap.size+1,3,none⟩=some (.string nm)∧w'.cell? ⟨w.heap.size+1,4,none⟩=some (.string fn)∧w'.cell? ⟨w.heap.size+1,5,none⟩=some (.int .i64 ar)∧w'.cell? ⟨w.heap.size+1,6,none⟩=some (.slice p len c)∧w'.cell? ⟨w.heap.size+1,7,none⟩=some (.string aL)∧w'.cell? ⟨w.heap.size+1,8,none⟩=some (.int .i64 bt)) (go_keep) (first
    | (go_at_call 143;refine(HK.out _ (hw0.drewN 1)).mono ?_;rintro e w1 ⟨rfl,hb⟩;have au:=((Below.refl W0.heap.size W0).drewN 1).trans hb;clear hb;obtain⟨s0,s1,s2,s3,s4,s5,s6,s7,s8,s9,wM⟩:=HS.out w1 au;have hl:=au.size;have hn1:=World.new_ne w1 _ s0;have hn2:=World.new_ne w1 _ s2;have FL:=World.new_ne w1 _ s1)
    | (go_at_call 143;refine(HK.out _ ((hw0.drewN 1).alloc hw0.size _)).mono ?_;rintro e w1 ⟨rfl,hb⟩;have au:=(((Below.refl W0.heap.size W0).drewN 1).alloc (by simp) _).trans (hb.mono (by simp));have HB:=Qh (jf W0 w1 hb);have p_:W0.heap.size<w1.heap.size:=(by have:=hb.size;simp at this;omega);obtain⟨s0,s1,s2,s3,s4,s5,s6,s7,s8,s9,wM⟩:=HS.out w1 au;obtain⟨y0,y1,y2,y3,y4,y5,y6,y7,y8,yz⟩:=jg W0 w1 hb;dsimp only[aY,aK]at y0 y1 y2 y3 y4 y5 y6 y7 y8))
   ·go_wp2_with fail;go_meet;exact⟨_,rfl,rfl,au.size,by simp,aW (MapKept.heap_alloc w1 (av ⟨k2,i2,g2,iu,cU,gS,fW,tD⟩ (.slice p3 n3 c3))).1,au.alloc au.size _⟩
   ·go_wp2_with fail;go_meet;exact⟨_,rfl,rfl,Nat.le_refl _,by simpa using p_,eZ ⟨k2,i2,g2,iu,cU,gS,fW,tD⟩ _ HB.out,Qz⟩
  ·obtain rfl:k=3:=by have:=Hm.out;omega
   obtain rfl:138=fk:=Hi.out;clear q1 q2 Hm
   go_region_held3 (fun w'=>w'.cell? ⟨w.heap.size,0,none⟩=some (.pointer (some ⟨g,0,none⟩))∧w'.cell? ⟨g,3,none⟩=some (.func (.func 138) #[] #[])∧w'.cell? ⟨w.heap.size+1,0,none⟩=some (.int .i64 3)∧w'.cell? ⟨w.heap.size+1,1,none⟩=some (.int .i64 i)∧w'.cell? ⟨w.heap.size+1,2,none⟩=some (.int .i64 gg)∧w'.cell? ⟨w.heap.size+1,3,none⟩=some (.string nm)∧w'.cell? ⟨w.heap.size+1,4,none⟩=some (.string fn)∧w'.cell? ⟨w.heap.size+1,5,none⟩=some (.int .i64 ar)∧w'.cell? ⟨w.heap.size+1,6,none⟩=some (.slice p len c)∧w'.cell? ⟨w.heap.size+1,7,none⟩=some (.string aL)∧w'.cell? ⟨w.heap.size+1,8,none⟩=some (.int .i64 bt)) (go_keep) (first
    | (go_at_call 138;refine(HK.out _ (hw0.drewN 1)).mono ?_;rintro e w1 ⟨rfl,hb⟩;have au:=((Below.refl W0.heap.size W0).drewN 1).trans hb;clear hb;obtain⟨s0,s1,s2,s3,s4,s5,s6,s7,s8,s9,wM⟩:=HS.out w1 au;have hl:=au.size;have hn1:=World.new_ne w1 _ s0;have hn2:=World.new_ne w1 _ s2;have FL:=World.new_ne w1 _ s1)
    | (go_at_call 138;refine(HK.out _ ((hw0.drewN 1).alloc hw0.size _)).mono ?_;rintro e w1 ⟨rfl,hb⟩;have au:=(((Below.refl W0.heap.size W0).drewN 1).alloc (by simp) _).trans (hb.mono (by simp));have HB:=Qh (jf W0 w1 hb);have p_:W0.heap.size<w1.heap.size:=(by have:=hb.size;simp at this;omega);obtain⟨s0,s1,s2,s3,s4,s5,s6,s7,s8,s9,wM⟩:=HS.out w1 au;obtain⟨y0,y1,y2,y3,y4,y5,y6,y7,y8,yz⟩:=jg W0 w1 hb;dsimp only[aY,aK]at y0 y1 y2 y3 y4 y5 y6 y7 y8))
   ·go_wp2_with fail;go_meet;exact⟨_,rfl,rfl,au.size,by simp,aW (MapKept.heap_alloc w1 (av ⟨k2,i2,g2,iu,cU,gS,fW,tD⟩ (.slice p3 n3 c3))).1,au.alloc au.size _⟩
   ·go_wp2_with fail;go_meet;exact⟨_,rfl,rfl,Nat.le_refl _,by simpa using p_,eZ ⟨k2,i2,g2,iu,cU,gS,fW,tD⟩ _ HB.out,Qz⟩
  ·obtain rfl:k=4:=by have:=Hm.out;omega
   obtain rfl:144=fk:=Hi.out;clear q1 q2 Hm
   go_region_held3 (fun w'=>w'.cell? ⟨w.heap.size,0,none⟩=some (.pointer (some ⟨g,0,none⟩))∧w'.cell? ⟨g,4,none⟩=some (.func (.func 144) #[] #[])∧w'.cell? ⟨w.heap.size+1,0,none⟩=some (.int .i64 4)∧w'.cell? ⟨w.heap.size+1,1,none⟩=some (.int .i64 i)∧w'.cell? ⟨w.heap.size+1,2,none⟩=some (.int .i64 gg)∧w'.cell? ⟨w.heap.size+1,3,none⟩=some (.string nm)∧w'.cell? ⟨w.heap.size+1,4,none⟩=some (.string fn)∧w'.cell? ⟨w.heap.size+1,5,none⟩=some (.int .i64 ar)∧w'.cell? ⟨w.heap.size+1,6,none⟩=some (.slice p len c)∧w'.cell? ⟨w.heap.size+1,7,none⟩=some (.string aL)∧w'.cell? ⟨w.heap.size+1,8,none⟩=some (.int .i64 bt)) (go_keep) (first
    | (go_at_call 144;refine(HK.out _ (hw0.drewN 1)).mono ?_;rintro e w1 ⟨rfl,hb⟩;have au:=((Below.refl W0.heap.size W0).drewN 1).trans hb;clear hb;obtain⟨s0,s1,s2,s3,s4,s5,s6,s7,s8,s9,wM⟩:=HS.out w1 au;have hl:=au.size;have hn1:=World.new_ne w1 _ s0;have hn2:=World.new_ne w1 _ s2;have FL:=World.new_ne w1 _ s1)
    | (go_at_call 144;refine(HK.out _ ((hw0.drewN 1).alloc hw0.size _)).mono ?_;rintro e w1 ⟨rfl,hb⟩;have au:=(((Below.refl W0.heap.size W0).drewN 1).alloc (by simp) _).trans (hb.mono (by simp));have HB:=Qh (jf W0 w1 hb);have p_:W0.heap.size<w1.heap.size:=(by have:=hb.size;simp at this;omega);obtain⟨s0,s1,s2,s3,s4,s5,s6,s7,s8,s9,wM⟩:=HS.out w1 au;obtain⟨y0,y1,y2,y3,y4,y5,y6,y7,y8,yz⟩:=jg W0 w1 hb;dsimp only[aY,aK]at y0 y1 y2 y3 y4 y5 y6 y7 y8))
   ·go_wp2_with fail;go_meet;exact⟨_,rfl,rfl,au.size,by simp,aW (MapKept.heap_alloc w1 (av ⟨k2,i2,g2,iu,cU,gS,fW,tD⟩ (.slice p3 n3 c3))).1,au.alloc au.size _⟩
   ·go_wp2_with fail;go_meet;exact⟨_,rfl,rfl,Nat.le_refl _,by simpa using p_,eZ ⟨k2,i2,g2,iu,cU,gS,fW,tD⟩ _ HB.out,Qz⟩
  ·obtain rfl:k=5:=by have:=Hm.out;omega
   obtain rfl:145=fk:=Hi.out;clear q1 q2 Hm
   go_region_held3 (fun w'=>w'.cell? ⟨w.heap.size,0,none⟩=some (.pointer (some ⟨g,0,none⟩))∧w'.cell? ⟨g,5,none⟩=some (.func (.func 145) #[] #[])∧w'.cell? ⟨w.heap.size+1,0,none⟩=some (.int .i64 5)∧w'.cell? ⟨w.heap.size+1,1,none⟩=some (.int .i64 i)∧w'.cell? ⟨w.heap.size+1,2,none⟩=some (.int .i64 gg)∧w'.cell? ⟨w.heap.size+1,3,none⟩=some (.string nm)∧w'.cell? ⟨w.heap.size+1,4,none⟩=some (.string fn)∧w'.cell? ⟨w.heap.size+1,5,none⟩=some (.int .i64 ar)∧w'.cell? ⟨w.heap.size+1,6,none⟩=some (.slice p len c)∧w'.cell? ⟨w.heap.size+1,7,none⟩=some (.string aL)∧w'.cell? ⟨w.heap.size+1,8,none⟩=some (.int .i64 bt)) (go_keep) (first
    | (go_at_call 145;refine(HK.out _ (hw0.drewN 1)).mono ?_;rintro e w1 ⟨rfl,hb⟩;have au:=((Below.refl W0.heap.size W0).drewN 1).trans hb;clear hb;obtain⟨s0,s1,s2,s3,s4,s5,s6,s7,s8,s9,wM⟩:=HS.out w1 au;have hl:=au.size;have hn1:=World.new_ne w1 _ s0;have hn2:=World.new_ne w1 _ s2;have FL:=World.new_ne w1 _ s1)
    | (go_at_call 145;refine(HK.out _ ((hw0.drewN 1).alloc hw0.size _)).mono ?_;rintro e w1 ⟨rfl,hb⟩;have au:=(((Below.refl W0.heap.size W0).drewN 1).alloc (by simp) _).trans (hb.mono (by simp));have HB:=Qh (jf W0 w1 hb);have p_:W0.heap.size<w1.heap.size:=(by have:=hb.size;simp at this;omega);obtain⟨s0,s1,s2,s3,s4,s5,s6,s7,s8,s9,wM⟩:=HS.out w1 au;obtain⟨y0,y1,y2,y3,y4,y5,y6,y7,y8,yz⟩:=jg W0 w1 hb;dsimp only[aY,aK]at y0 y1 y2 y3 y4 y5 y6 y7 y8))
   ·go_wp2_with fail;go_meet;exact⟨_,rfl,rfl,au.size,by simp,aW (MapKept.heap_alloc w1 (av ⟨k2,i2,g2,iu,cU,gS,fW,tD⟩ (.slice p3 n3 c3))).1,au.alloc au.size _⟩
   ·go_wp2_with fail;go_meet;exact⟨_,rfl,rfl,Nat.le_refl _,by simpa using p_,eZ ⟨k2,i2,g2,iu,cU,gS,fW,tD⟩ _ HB.out,Qz⟩
  ·obtain rfl:k=6:=by have:=Hm.out;omega
   obtain rfl:138=fk:=Hi.out;clear q1 q2 Hm
   go_region_held3 (fun w'=>w'.cell? ⟨w.heap.size,0,none⟩=some (.pointer (some ⟨g,0,none⟩))∧w'.cell? ⟨g,6,none⟩=some (.func (.func 138) #[] #[])∧w'.cell? ⟨w.heap.size+1,0,none⟩=some (.int .i64 6)∧w'.cell? ⟨w.heap.size+1,1,none⟩=some (.int .i64 i)∧w'.cell? ⟨w.heap.size+1,2,none⟩=some (.int .i64 gg)∧w'.cell? ⟨w.heap.size+1,3,none⟩=some (.string nm)∧w'.cell? ⟨w.heap.size+1,4,none⟩=some (.string fn)∧w'.cell? ⟨w.heap.size+1,5,none⟩=some (.int .i64 ar)∧w'.cell? ⟨w.heap.size+1,6,none⟩=some (.slice p len c)∧w'.cell? ⟨w.heap.size+1,7,none⟩=some (.string aL)∧w'.cell? ⟨w.heap.size+1,8,none⟩=some (.int .i64 bt)) (go_keep) (first
    | (go_at_call 138;refine(HK.out _ (hw0.drewN 1)).mono ?_;rintro e w1 ⟨rfl,hb⟩;have au:=((Below.refl W0.heap.size W0).drewN 1).trans hb;clear hb;obtain⟨s0,s1,s2,s3,s4,s5,s6,s7,s8,s9,wM⟩:=HS.out w1 au;have hl:=au.size;have hn1:=World.new_ne w1 _ s0;have hn2:=World.new_ne w1 _ s2;have FL:=World.new_ne w1 _ s1)
    | (go_at_call 138;refine(HK.out _ ((hw0.drewN 1).alloc hw0.size _)).mono ?_;rintro e w1 ⟨rfl,hb⟩;have au:=(((Below.refl W0.heap.size W0).drewN 1).alloc (by simp) _).trans (hb.mono (by simp));have HB:=Qh (jf W0 w1 hb);have p_:W0.heap.size<w1.heap.size:=(by have:=hb.size;simp at this;omega);obtain⟨s0,s1,s2,s3,s4,s5,s6,s7,s8,s9,wM⟩:=HS.out w1 au;obtain⟨y0,y1,y2,y3,y4,y5,y6,y7,y8,yz⟩:=jg W0 w1 hb;dsimp only[aY,aK]at y0 y1 y2 y3 y4 y5 y6 y7 y8))
   ·go_wp2_with fail;go_meet;exact⟨_,rfl,rfl,au.size,by simp,aW (MapKept.heap_alloc w1 (av ⟨k2,i2,g2,iu,cU,gS,fW,tD⟩ (.slice p3 n3 c3))).1,au.alloc au.size _⟩
   ·go_wp2_with fail;go_meet;exact⟨_,rfl,rfl,Nat.le_refl _,by simpa using p_,eZ ⟨k2,i2,g2,iu,cU,gS,fW,tD⟩ _ HB.out,Qz⟩
  ·obtain rfl:k=7:=by have:=Hm.out;omega
   obtain rfl:146=fk:=Hi.out;clear q1 q2 Hm
   go_region_held3 (fun w'=>w'.cell? ⟨w.heap.size,0,none⟩=some (.pointer (some ⟨g,0,none⟩))∧w'.cell? ⟨g,7,none⟩=some (.func (.func 146) #[] #[])∧w'.cell? ⟨w.heap.size+1,0,none⟩=some (.int .i64 7)∧w'.cell? ⟨w.heap.size+1,1,none⟩=some (.int .i64 i)∧w'.cell? ⟨w.heap.size+1,2,none⟩=some (.int .i64 gg)∧w'.cell? ⟨w.heap.size+1,3,none⟩=some (.string nm)∧w'.cell? ⟨w.heap.size+1,4,none⟩=some (.string fn)∧w'.cell? ⟨w.heap.size+1,5,none⟩=some (.int .i64 ar)∧w'.cell? ⟨w.heap.size+1,6,none⟩=some (.slice p len c)∧w'.cell? ⟨w.heap.size+1,7,none⟩=some (.string aL)∧w'.cell? ⟨w.heap.size+1,8,none⟩=some (.int .i64 bt)) (go_keep) (first
    | (go_at_call 146;refine(HK.out _ (hw0.drewN 1)).mono ?_;rintro e w1 ⟨rfl,hb⟩;have au:=((Below.refl W0.heap.size W0).drewN 1).trans hb;clear hb;obtain⟨s0,s1,s2,s3,s4,s5,s6,s7,s8,s9,wM⟩:=HS.out w1 au;have hl:=au.size;have hn1:=World.new_ne w1 _ s0;have hn2:=World.new_ne w1 _ s2;have FL:=World.new_ne w1 _ s1)
    | (go_at_call 146;refine(HK.out _ ((hw0.drewN 1).alloc hw0.size _)).mono ?_;rintro e w1 ⟨rfl,hb⟩;have au:=(((Below.refl W0.heap.size W0).drewN 1).alloc (by simp) _).trans (hb.mono (by simp));have HB:=Qh (jf W0 w1 hb);have p_:W0.heap.size<w1.heap.size:=(by have:=hb.size;simp at this;omega);obtain⟨s0,s1,s2,s3,s4,s5,s6,s7,s8,s9,wM⟩:=HS.out w1 au;obtain⟨y0,y1,y2,y3,y4,y5,y6,y7,y8,yz⟩:=jg W0 w1 hb;dsimp only[aY,aK]at y0 y1 y2 y3 y4 y5 y6 y7 y8))
   ·go_wp2_with fail;go_meet;exact⟨_,rfl,rfl,au.size,by simp,aW (MapKept.heap_alloc w1 (av ⟨k2,i2,g2,iu,cU,gS,fW,tD⟩ (.slice p3 n3 c3))).1,au.alloc au.size _⟩
   ·go_wp2_with fail;go_meet;exact⟨_,rfl,rfl,Nat.le_refl _,by simpa using p_,eZ ⟨k2,i2,g2,iu,cU,gS,fW,tD⟩ _ HB.out,Qz⟩
  ·obtain rfl:k=8:=by have:=Hm.out;omega
   obtain rfl:147=fk:=Hi.out;clear q1 q2 Hm
   go_region_held3 (fun w'=>w'.cell? ⟨w.heap.size,0,none⟩=some (.pointer (some ⟨g,0,none⟩))∧w'.cell? ⟨g,8,none⟩=some (.func (.func 147) #[] #[])∧w'.cell? ⟨w.heap.size+1,0,none⟩=some (.int .i64 8)∧w'.cell? ⟨w.heap.size+1,1,none⟩=some (.int .i64 i)∧w'.cell? ⟨w.heap.size+1,2,none⟩=some (.int .i64 gg)∧w'.cell? ⟨w.heap.size+1,3,none⟩=some (.string nm)∧w'.cell? ⟨w.heap.size+1,4,none⟩=some (.string fn)∧w'.cell? ⟨w.heap.size+1,5,none⟩=some (.int .i64 ar)∧w'.cell? ⟨w.heap.size+1,6,none⟩=some (.slice p len c)∧w'.cell? ⟨w.heap.size+1,7,none⟩=some (.string aL)∧w'.cell? ⟨w.heap.size+1,8,none⟩=some (.int .i64 bt)) (go_keep) (first
    | (go_at_call 147;refine(HK.out _ (hw0.drewN 1)).mono ?_;rintro e w1 ⟨rfl,hb⟩;have au:=((Below.refl W0.heap.size W0).drewN 1).trans hb;clear hb;obtain⟨s0,s1,s2,s3,s4,s5,s6,s7,s8,s9,wM⟩:=HS.out w1 au;have hl:=au.size;have hn1:=World.new_ne w1 _ s0;have hn2:=World.new_ne w1 _ s2;have FL:=World.new_ne w1 _ s1)
    | (go_at_call 147;refine(HK.out _ ((hw0.drewN 1).alloc hw0.size _)).mono ?_;rintro e w1 ⟨rfl,hb⟩;have au:=(((Below.refl W0.heap.size W0).drewN 1).alloc (by simp) _).trans (hb.mono (by simp));have HB:=Qh (jf W0 w1 hb);have p_:W0.heap.size<w1.heap.size:=(by have:=hb.size;simp at this;omega);obtain⟨s0,s1,s2,s3,s4,s5,s6,s7,s8,s9,wM⟩:=HS.out w1 au;obtain⟨y0,y1,y2,y3,y4,y5,y6,y7,y8,yz⟩:=jg W0 w1 hb;dsimp only[aY,aK]at y0 y1 y2 y3 y4 y5 y6 y7 y8))
   ·go_wp2_with fail;go_meet;exact⟨_,rfl,rfl,au.size,by simp,aW (MapKept.heap_alloc w1 (av ⟨k2,i2,g2,iu,cU,gS,fW,tD⟩ (.slice p3 n3 c3))).1,au.alloc au.size _⟩
   ·go_wp2_with fail;go_meet;exact⟨_,rfl,rfl,Nat.le_refl _,by simpa using p_,eZ ⟨k2,i2,g2,iu,cU,gS,fW,tD⟩ _ HB.out,Qz⟩
  ·obtain rfl:k=9:=by have:=Hm.out;omega
   obtain rfl:148=fk:=Hi.out;clear q1 q2 Hm
   go_region_held3 (fun w'=>w'.cell? ⟨w.heap.size,0,none⟩=some (.pointer (some ⟨g,0,none⟩))∧w'.cell? ⟨g,9,none⟩=some (.func (.func 148) #[] #[])∧w'.cell? ⟨w.heap.size+1,0,none⟩=some (.int .i64 9)∧w'.cell? ⟨w.heap.size+1,1,none⟩=some (.int .i64 i)∧w'.cell? ⟨w.heap.size+1,2,none⟩=some (.int .i64 gg)∧w'.cell? ⟨w.heap.size+1,3,none⟩=some (.string nm)∧w'.cell? ⟨w.heap.size+1,4,none⟩=some (.string fn)∧w'.cell? ⟨w.heap.size+1,5,none⟩=some (.int .i64 ar)∧w'.cell? ⟨w.heap.size+1,6,none⟩=some (.slice p len c)∧w'.cell? ⟨w.heap.size+1,7,none⟩=some (.string aL)∧w'.cell? ⟨w.heap.size+1,8,none⟩=some (.int .i64 bt)) (go_keep) (first
    | (go_at_call 148;refine(HK.out _ (hw0.drewN 1)).mono ?_;rintro e w1 ⟨rfl,hb⟩;have au:=((Below.refl W0.heap.size W0).drewN 1).trans hb;clear hb;obtain⟨s0,s1,s2,s3,s4,s5,s6,s7,s8,s9,wM⟩:=HS.out w1 au;have hl:=au.size;have hn1:=World.new_ne w1 _ s0;have hn2:=World.new_ne w1 _ s2;have FL:=World.new_ne w1 _ s1)
    | (go_at_call 148;refine(HK.out _ ((hw0.drewN 1).alloc hw0.size _)).mono ?_;rintro e w1 ⟨rfl,hb⟩;have au:=(((Below.refl W0.heap.size W0).drewN 1).alloc (by simp) _).trans (hb.mono (by simp));have HB:=Qh (jf W0 w1 hb);have p_:W0.heap.size<w1.heap.size:=(by have:=hb.size;simp at this;omega);obtain⟨s0,s1,s2,s3,s4,s5,s6,s7,s8,s9,wM⟩:=HS.out w1 au;obtain⟨y0,y1,y2,y3,y4,y5,y6,y7,y8,yz⟩:=jg W0 w1 hb;dsimp only[aY,aK]at y0 y1 y2 y3 y4 y5 y6 y7 y8))
   ·go_wp2_with fail;go_meet;exact⟨_,rfl,rfl,au.size,by simp,aW (MapKept.heap_alloc w1 (av ⟨k2,i2,g2,iu,cU,gS,fW,tD⟩ (.slice p3 n3 c3))).1,au.alloc au.size _⟩
   ·go_wp2_with fail;go_meet;exact⟨_,rfl,rfl,Nat.le_refl _,by simpa using p_,eZ ⟨k2,i2,g2,iu,cU,gS,fW,tD⟩ _ HB.out,Qz⟩
  ·obtain rfl:k=10:=by have:=Hm.out;omega
   obtain rfl:149=fk:=Hi.out;clear q1 q2 Hm
   go_region_held3 (fun w'=>w'.cell? ⟨w.heap.size,0,none⟩=some (.pointer (some ⟨g,0,none⟩))∧w'.cell? ⟨g,10,none⟩=some (.func (.func 149) #[] #[])∧w'.cell? ⟨w.heap.size+1,0,none⟩=some (.int .i64 10)∧w'.cell? ⟨w.heap.size+1,1,none⟩=some (.int .i64 i)∧w'.cell? ⟨w.heap.size+1,2,none⟩=some (.int .i64 gg)∧w'.cell? ⟨w.heap.size+1,3,none⟩=some (.string nm)∧w'.cell? ⟨w.heap.size+1,4,none⟩=some (.string fn)∧w'.cell? ⟨w.heap.size+1,5,none⟩=some (.int .i64 ar)∧w'.cell? ⟨w.heap.size+1,6,none⟩=some (.slice p len c)∧w'.cell? ⟨w.heap.size+1,7,none⟩=some (.string aL)∧w'.cell? ⟨w.heap.size+1,8,none⟩=some (.int .i64 bt)) (go_keep) (first
    | (go_at_call 149;refine(HK.out _ (hw0.drewN 1)).mono ?_;rintro e w1 ⟨rfl,hb⟩;have au:=((Below.refl W0.heap.size W0).drewN 1).trans hb;clear hb;obtain⟨s0,s1,s2,s3,s4,s5,s6,s7,s8,s9,wM⟩:=HS.out w1 au;have hl:=au.size;have hn1:=World.new_ne w1 _ s0;have hn2:=World.new_ne w1 _ s2;have FL:=World.new_ne w1 _ s1)
    | (go_at_call 149;refine(HK.out _ ((hw0.drewN 1).alloc hw0.size _)).mono ?_;rintro e w1 ⟨rfl,hb⟩;have au:=(((Below.refl W0.heap.size W0).drewN 1).alloc (by simp) _).trans (hb.mono (by simp));have HB:=Qh (jf W0 w1 hb);have p_:W0.heap.size<w1.heap.size:=(by have:=hb.size;simp at this;omega);obtain⟨s0,s1,s2,s3,s4,s5,s6,s7,s8,s9,wM⟩:=HS.out w1 au;obtain⟨y0,y1,y2,y3,y4,y5,y6,y7,y8,yz⟩:=jg W0 w1 hb;dsimp only[aY,aK]at y0 y1 y2 y3 y4 y5 y6 y7 y8))
   ·go_wp2_with fail;go_meet;exact⟨_,rfl,rfl,au.size,by simp,aW (MapKept.heap_alloc w1 (av ⟨k2,i2,g2,iu,cU,gS,fW,tD⟩ (.slice p3 n3 c3))).1,au.alloc au.size _⟩
   ·go_wp2_with fail;go_meet;exact⟨_,rfl,rfl,Nat.le_refl _,by simpa using p_,eZ ⟨k2,i2,g2,iu,cU,gS,fW,tD⟩ _ HB.out,Qz⟩
 case rest=>
 obtain⟨z,rfl,rfl,hzl,hzs,hZ,hbc⟩:=hcut;have hlen:t.items.length=len:=by
  obtain⟨p9,c9,e,_⟩:=HI.out.shape;simp only[Value.slice.injEq]at e;exact e.2.1.symm
 have RK:=NT t h0 h1 HF.out lY.out HBV.out hlen Yv.out;have hform:=CX t RK;dsimp only at hform;have Vk:=Qh hform;have Vl:=Qh hbc;clear hform hbc RJ hc0 a0 a1 a2 a3 a4 a5 a6 a7 a8 az HK RK;obtain⟨y0,y1,y2,y3,y4,y5,y6,y7,y8,yz⟩:=hZ;dsimp only at y0 y1 y2 y3 y4 y5 y6 y7 y8;have hS:=fun W=>Rv (⟨0,i2,g2,iu,cU,gS,fW,tD⟩:TF) p3 n3 c3 W;generalize(dL (⟨0,i2,g2,iu,cU,gS,fW,tD⟩:TF) aY&&decide (n3=0))=sm at*;unfold aj aY at hS;dsimp only at hS;have nX:=Qh hS;clear hS
 -- the end when the term is not well formed
 have RL:∀wx,Qb W0 wx→aJ t=false→tC g s (aJ t) (ap t) (cD t) w (.returned (.bool false)) wx:=fun wx hb he=>by
  rw[he];have cz:1≤ap t:=by unfold ap;omega
  have hb':=hw0.trans (hb.mono (by have:=qv.out;omega));exact⟨rfl,s,HM.out.block (hb'.block g mo),(ax.refl _ _).bJ hb' (Nat.le_refl _),hs,by omega,fun h=>by cases h⟩
 have NU:=Qh RL;clear RL
 by_cases hok:ok=true
 ·subst hok
  by_cases qM:sm=true
  ·subst qM;have hform:=Vk.out;simp only[Bool.true_and]at hform;have Un:=Qh hform;clear hform;obtain⟨aac,aad,Yx,RM,Vm⟩:=ve Yv.out trivial;dsimp only at Yx RM Vm;go_wp2_with fail;refine(nX.out _).mono ?_;rintro e w2 ⟨rfl,a_⟩;have bN:Qb W0 w2:=(Below.setCell Vl.out (by simpa using hzl) _).trans (a_.mono (by simp;omega));clear a_ nX NU y0 y1 y2 y3 y4 y5 y6 y7 y8 yz;have dS:Qb w w2:=hw0.trans (bN.mono (by have:=qv.out;omega));have ju:fN w2 g s:=HM.out.block (dS.block g mo);have cZ:=HN.out.below bN (by have:=qv.out;omega)
   have wN:w2.cell? ⟨w.heap.size,0,none⟩=some (.pointer (some ⟨g,0,none⟩)):=(HS.out _ bN).1;have G9:w.heap.size+1<w2.heap.size:=by have:=qv.out;have:=bN.size;omega
   obtain⟨x0,x1,x2,x3,x4,x5,x6,x7,x8,xz⟩:=cZ;dsimp only at x0 x1 x2 x3 x4 x5 x6 x7 x8;have RN:=ju.size;have Yy:=ju.frozen 11;have cz:(ap t:Int)=1+(aP n t.items:Int):=by unfold ap;omega
   have hNL:=iJ n t.items;rw[hlen]at hNL;have hwT:cD t=gO ⟨k,i,gg,nm,fn,ar,aL,bt⟩ len+cF n t.items:=by unfold cD;rw[HF.out,hlen]
   -- the end
   have hend:∀(w3:World) (s3:Int),fN w3 g s3→ax (fun k=>k=g) w w3→w3.cell? ⟨w.heap.size,0,none⟩=some (.pointer (some ⟨g,0,none⟩))→w.heap.size+1<w3.heap.size→s3=s+gO ⟨k,i,gg,nm,fn,ar,aL,bt⟩ len →
    Calls Tryz.prog 150 #[.slice p len c,.func (.func 151) #[] #[.pointer (some ⟨w.heap.size,0,none⟩)]] w3 fun e w'=>e=.returned (.bool (!bp n t.items))∧Qb w3 w3∧tC g s (aJ t) (ap t) (cD t) w (.returned (.bool (aJ t))) w':=fun w3 s3 h1 h2 h3 h4 h5=>by
    refine(hx w3 B g w.heap.size _ t.items s3 (by omega) (HI.out.same (fun q hq=>h2.block q (by omega) (by omega))) h1 hg h3 (by omega) (by omega) (by omega) (by rw[hlen];omega)).mono ?_;rintro e w' ⟨rfl,s4,m1,m2,m3,m4,m5⟩;refine⟨rfl,Below.refl _ _,rfl,s4,m1,h2.trans m2 (fun _ _ e=>e),m3,by rw[hlen]at m4;omega,fun hf=>?_⟩;rw[Un.out]at hf;have:=m5 hf;omega
   have uL:=Qh hend;have Vn:s+300*(len:Int)≤1000000000000:=by omega
   clear hend RN cz;have Vo:ax (fun k=>k=g) w w2:=(ax.refl _ _).bJ dS (Nat.le_refl _)
   by_cases h9:k=9
   ·subst h9;have jC:=Yx rfl;have RN:=ju.size;have hw1:IntKind.i64.wrap ((len:Int)-1)=(len:Int)-1:=IntWalk.i64_in _ (by omega);have td:IntKind.i64.wrap (s+((len:Int)-1))=s+((len:Int)-1):=IntWalk.i64_in _ (by omega);have RO:=(ju.block (w':=w2.drew) rfl).set (s+((len:Int)-1));have hMD:w2.drew.frozen? ⟨g,11,none⟩=false:=Yy;go_wp2_with fail;go_region
    go_wp2_with fail;refine(uL.out _ (s+((len:Int)-1)) RO ((Vo.drewN 1).setCell _ _ (fun _=>rfl)) ((World.cell?_setCell_far _ _ _ _ (Nat.ne_of_lt mo)).trans wN) (by simpa using G9) (by unfold gO;dsimp only;rw[if_pos rfl])).mono ?_;rintro e w' ⟨rfl,_,bP⟩;have eU:=Qh bP;clear bP;go_wp2_with fail;go_ret;have hh:=eU.out;rw[Un.out]at hh ⊢;simpa using hh
   ·have q9:(k==9)=false:=by simp[h9]
    by_cases lC:k=10
    ·subst lC;have KO:=RM rfl;have RN:=ju.size;have hd1:(bt+63).tdiv 64=(bt+63)/64:=Int.tdiv_eq_ediv_of_nonneg (by omega);have hw1:IntKind.i64.wrap (bt+63)=bt+63:=IntWalk.i64_in _ (by omega);have td:IntKind.i64.wrap ((bt+63)/64)=(bt+63)/64:=IntWalk.i64_in _ (by omega);have CS:IntKind.i64.wrap (1+(bt+63)/64)=1+(bt+63)/64:=IntWalk.i64_in _ (by omega);have Yt:IntKind.i64.wrap (s+(1+(bt+63)/64))=s+(1+(bt+63)/64):=IntWalk.i64_in _ (by omega);have RO:=(ju.block (w':=w2.drew) rfl).set (s+(1+(bt+63)/64))
     have hMD:w2.drew.frozen? ⟨g,11,none⟩=false:=Yy;go_wp2_with fail;go_region
     go_wp2_with fail;refine(uL.out _ (s+(1+(bt+63)/64)) RO ((Vo.drewN 1).setCell _ _ (fun _=>rfl)) ((World.cell?_setCell_far _ _ _ _ (Nat.ne_of_lt mo)).trans wN) (by simpa using G9) (by unfold gO;dsimp only;rw[if_neg (by decide),if_pos rfl])).mono ?_;rintro e w' ⟨rfl,_,bP⟩;have eU:=Qh bP;clear bP;go_wp2_with fail;go_ret;have hh:=eU.out;rw[Un.out]at hh ⊢;simpa using hh
    ·have NQ:(k==10)=false:=by simp[lC]
     have RN:=ju.size;have hw1:IntKind.i64.wrap (s+1)=s+1:=IntWalk.i64_in _ (by omega);have RO:=ju.set (s+1);go_wp2_with fail;refine(uL.out _ (s+1) RO (Vo.setCell _ _ (fun _=>rfl)) ((World.cell?_setCell_far _ _ _ _ (Nat.ne_of_lt mo)).trans wN) (by simpa using G9) (by unfold gO;dsimp only;rw[if_neg h9,if_neg lC])).mono ?_;rintro e w' ⟨rfl,_,bP⟩;have eU:=Qh bP;clear bP;go_wp2_with fail;go_ret;have hh:=eU.out;rw[Un.out]at hh ⊢;simpa using hh
  ·have qM:sm=false:=by simpa using qM
   subst qM;have pU:=Qh Vk.out;go_wp2_with fail;refine(nX.out _).mono ?_;rintro e w2 ⟨rfl,a_⟩;have bN:Qb W0 w2:=(Below.setCell Vl.out (by simpa using hzl) _).trans (a_.mono (by simp;omega));go_wp2_with fail;go_ret;exact NU.out _ bN pU.out
 ·have hok:ok=false:=by simpa using hok
  subst hok;have pU:=Qh Vk.out;clear nX;go_wp2_with fail;go_ret;exact NU.out _ (Below.setCell Vl.out (by simpa using hzl) _) pU.out
theorem Hj{n:Nat}(hx:Hh n):MN n:=by
 intro w B g v t s hB hI hM hg hs mB
 by_cases h:0≤t.f.kind∧t.f.kind≤10
 ·exact RI hx w B g v t s hB hI hM hg hs mB h.1 h.2
 ·exact Vi w g v t s hM hs h (by obtain⟨p,c,e,_⟩:=hI.shape;exact⟨p,_,c,e⟩)
end Go.Proofs.YtfbggmbmgohiiaaGreat.tm
