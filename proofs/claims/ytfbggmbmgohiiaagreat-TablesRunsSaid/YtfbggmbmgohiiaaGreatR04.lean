/- TmE,TmG,TnH. No condition beyond theirs. -/
import Derived.Test.YtfbggmbmgohiiaaGreatR03
import Derived.Laws.OwnMore
set_option linter.unusedSimpArgs false
set_option linter.unusedVariables false
set_option maxHeartbeats 1000000
set_option maxRecDepth 100000
namespace Go
theorem RowKit.Below.drewN{B:Nat}{a w:World}(h:RowKit.Below B a w)(n:Nat):RowKit.Below B a (w.drewN n):=⟨h.os,h.tape,h.output,h.size,h.block⟩
end Go
namespace Go.Proofs.YtfbggmbmgohiiaaGreat.tm
open Go.RowKit mem names
def gq(n a b:Int):Bool:=decide (a≤n∧n≤b)
theorem mq{n a b:Int}(h:a≤n∧n≤b):gq n a b=true:=decide_eq_true h
theorem Ak{n a b:Int}(h:¬(a≤n∧n≤b)):gq n a b=false:=decide_eq_false h
theorem within(n a b:Int)(w:World):Calls Tryz.prog 139 #[.int .i64 n,.int .i64 a,.int .i64 b] w fun e w'=>e=.returned (.bool (gq n a b))∧w=w':=by
 by_cases h1:a≤n
 ·by_cases h2:n≤b
  ·rw[mq ⟨h1,h2⟩];have q1:decide (a≤n)=true:=decide_eq_true h1;have q2:decide (n≤b)=true:=decide_eq_true h2;go_enter Tryz.func139,Tryz.ntmps139;go_wp2_with fail;go_ret;exact⟨rfl,rfl⟩
  ·rw[Ak (fun h=>h2 h.2)];have q1:decide (a≤n)=true:=decide_eq_true h1;have q2:decide (n≤b)=false:=decide_eq_false h2;go_enter Tryz.func139,Tryz.ntmps139;go_wp2_with fail;go_ret;exact⟨rfl,rfl⟩
 ·rw[Ak (fun h=>h1 h.1)];have q1:decide (a≤n)=false:=decide_eq_false h1;go_enter Tryz.func139,Tryz.ntmps139;go_wp2_with fail;go_ret;exact⟨rfl,rfl⟩
def aY:TF:=⟨0,0,0,⟨#[]⟩,⟨#[]⟩,0,⟨#[]⟩,0⟩
def aK:Value:=.slice none 0 0
def fI(s:ByteArray):Nat:=(s.data.toList.getLastD 0).toNat
def kU(f:TF):Bool:=gq f.bits 0 16384&&decide ((f.bytes.size:Int)=(f.bits+7)/8)&&decide (f.bits%8=0∨fI f.bytes%2^(8-(f.bits%8).toNat)=0)
def okF(f:TF)(n:Nat)(last:Int):Bool :=
 if f.kind=1∨f.kind=8 then true
 else if f.kind=2 then b_ f.name
 else if f.kind=3∨f.kind=6 then gq f.int 1 2147483647&&(gq f.gen 1 2147483647&&b_ f.name)
 else if f.kind=4 then gq f.int 0 999&&(gq f.gen 1 2147483647&&(b_ f.name&&(gq f.arity 0 16&&decide (n≤200))))
 else if f.kind=5 then b_ f.name&&(b_ f.func&&gq f.arity 0 16)
 else if f.kind=7 then decide (n≤255)
 else if f.kind=9 then decide (2≤n)&&decide (last≠9)
 else if f.kind=10 then kU f
 else false
def bG(f:TF):TF :=
 if f.kind=1 then{ f with int:=0 }
 else if f.kind=2 then{ f with name:=⟨#[]⟩ }
 else if f.kind=3∨f.kind=6 then{ f with int:=0,gen:=0,name:=⟨#[]⟩ }
 else if f.kind=4 then{ f with int:=0,gen:=0,name:=⟨#[]⟩,arity:=0 }
 else if f.kind=5 then{ f with name:=⟨#[]⟩,func:=⟨#[]⟩,arity:=0 }
 else if f.kind=10 then{ f with bytes:=⟨#[]⟩,bits:=0 }
 else f
def bQ(f:TF)(v:Value):Value:=if f.kind=4∨f.kind=7∨f.kind=9 then aK else v
def fU(f:TF)(v:Value)(n:Nat)(last:Int)(w:World)(e:Ending)(w':World):Prop:=e=.returned (.tuple #[aj (bG f) (bQ f v),.bool (okF f n last)])∧Below w.heap.size w w'
def av(f:TF)(v:Value):Obj:=.cells #[.int .i64 f.kind,.int .i64 f.int,.int .i64 f.gen,.string f.name,.string f.func,.int .i64 f.arity,v,.string f.bytes,.int .i64 f.bits] 24
structure gu(w:World)(z:Nat)(f:TF)(v:Value):Prop where
 c0:w.cell? ⟨z,0,none⟩=some (.int .i64 f.kind)
 c1:w.cell? ⟨z,1,none⟩=some (.int .i64 f.int)
 c2:w.cell? ⟨z,2,none⟩=some (.int .i64 f.gen)
 c3:w.cell? ⟨z,3,none⟩=some (.string f.name)
 c4:w.cell? ⟨z,4,none⟩=some (.string f.func)
 c5:w.cell? ⟨z,5,none⟩=some (.int .i64 f.arity)
 c6:w.cell? ⟨z,6,none⟩=some v
 c7:w.cell? ⟨z,7,none⟩=some (.string f.bytes)
 c8:w.cell? ⟨z,8,none⟩=some (.int .i64 f.bits)
 fz:∀o,w.frozen? ⟨z,o,none⟩=false
theorem aW{w:World}{z:Nat}{f:TF}{v:Value}(h:w.heap[z]?=some (av f v)):gu w z f v:=by
 unfold av at h;refine⟨?_,?_,?_,?_,?_,?_,?_,?_,?_,fun o=>by simp only[World.frozen?,h];simp⟩ <;> (simp only[World.cell?,h];rfl)
theorem fV{w w1:World}{f:TF}{v:Value}(hb:Below ((w.alloc (av f v)).alloc (av aY aK)).heap.size ((w.alloc (av f v)).alloc (av aY aK)) w1):gu w1 w.heap.size f v∧gu w1 (w.heap.size+1) aY aK∧Below w.heap.size w w1:=by
 have h1:=(MapKept.heap_alloc w (av f v)).1;have h2:=(MapKept.heap_alloc (w.alloc (av f v)) (av aY aK)).1;have h3:((w.alloc (av f v)).alloc (av aY aK)).heap[w.heap.size]?=some (av f v):=by rw[Below.heap_alloc _ _ _ (by simp)];exact h1
 refine⟨aW ((hb.block _ (by simp;omega)).trans h3),aW ((hb.block _ (by simp)).trans (by simpa using h2)),?_⟩;exact(((Below.refl _ w).alloc (Nat.le_refl _) _).alloc (by simp) _).trans (hb.mono (by simp;omega))
theorem gu.below{w w1:World}{z B:Nat}{f:TF}{v:Value}(h:gu w z f v)(hb:Below B w w1)(hz:z<B):gu w1 z f v:=by
 obtain⟨h0,h1,h2,h3,h4,h5,h6,h7,h8,Ul⟩:=h;have c:=fun o=>hb.cell (p:=⟨z,o,none⟩) hz;exact⟨(c 0).trans h0,(c 1).trans h1,(c 2).trans h2,(c 3).trans h3,(c 4).trans h4,(c 5).trans h5,(c 6).trans h6,(c 7).trans h7,(c 8).trans h8,fun o=>(hb.frozen (p:=⟨z,o,none⟩) hz).trans (Ul o)⟩
theorem G5(i g:Int)(nm fn:ByteArray)(ar:Int)(aL:ByteArray)(bt:Int)(p:Option Addr)(n c:Nat)(last:Int)(w:World)(hn:n≤c)(hc:c≤9223372036854775807)
 (hl:2≤n→∃g0 o0,p=some ⟨g0,o0,none⟩∧w.cell? ⟨g0,o0+(n-1)*9,none⟩=some (.int .i64 last)∧g0<w.heap.size) :
 Calls Tryz.prog 148 #[aj ⟨9,i,g,nm,fn,ar,aL,bt⟩ (.slice p n c)] w (fU ⟨9,i,g,nm,fn,ar,aL,bt⟩ (.slice p n c) n last w):=by
 have hb:bG ⟨9,i,g,nm,fn,ar,aL,bt⟩=⟨9,i,g,nm,fn,ar,aL,bt⟩:=by simp[bG]
 have hv:bQ ⟨9,i,g,nm,fn,ar,aL,bt⟩ (.slice p n c)=.slice none 0 0:=by simp[bQ,aK]
 have ho:okF ⟨9,i,g,nm,fn,ar,aL,bt⟩ n last=(decide (2≤n)&&decide (last≠9)):=by simp[okF]
 unfold fU;rw[hb,hv,ho];unfold aj;dsimp only;clear hb hv ho
 by_cases h0:2≤n
 ·rw[decide_eq_true h0];obtain⟨g0,o0,rfl,hcell,yB⟩:=hl h0;obtain⟨m,rfl⟩:∃m,n=m+2:=⟨n-2,by omega⟩;rw[show m+2-1=m+1 by omega]at hcell;clear hl;have dF:∀o1 o2:Obj,((w.alloc o1).alloc o2).cell? ⟨g0,o0+(m+1)*9,none⟩=some (.int .i64 last):=fun o1 o2=>by
   rw[World.cell?_alloc_lt _ _ _ (by simp;omega),World.cell?_alloc_lt _ _ _ yB];exact hcell
  by_cases h1:last≠9
  ·have hq:(last != 9)=true:=by simpa using h1
   rw[decide_eq_true h1];clear h1;go_enter Tryz.func148,Tryz.ntmps148;go_wp2_with fail;exact bodyPost_ret (v:=(.tuple #[.agg (a9 9 i g nm fn ar (.slice none 0 0) aL bt),.bool true])) (by simp[results,Tryz.results148,go_sem, *]) rfl ⟨by simp,Qz⟩
  ·have hq:(last != 9)=false:=by simpa using h1
   rw[decide_eq_false h1];clear h1;go_enter Tryz.func148,Tryz.ntmps148;go_wp2_with fail;exact bodyPost_ret (v:=(.tuple #[.agg (a9 9 i g nm fn ar (.slice none 0 0) aL bt),.bool false])) (by simp[results,Tryz.results148,go_sem, *]) rfl ⟨by simp,Qz⟩
 ·rw[decide_eq_false h0];have hq:(n:Int)<2:=by omega
  clear hl;go_enter Tryz.func148,Tryz.ntmps148;go_wp2_with fail;exact bodyPost_ret (v:=(.tuple #[.agg (a9 9 i g nm fn ar (.slice none 0 0) aL bt),.bool false])) (by simp[results,Tryz.results148,go_sem, *]) rfl ⟨by simp,Qz⟩
theorem CP:(Tryz.prog.info? 24).map (fun i=>(i.zero,i.size,i.bytes))=some (some (.agg #[.int .i64 0,.int .i64 0,.int .i64 0,.string ⟨#[]⟩,.string ⟨#[]⟩,.int .i64 0,.slice none 0 0,.string ⟨#[]⟩,.int .i64 0]),9,112):=by kernel_rfl
def aE(f:TF)(v:Value):List Value:=[.int .i64 f.kind,.int .i64 f.int,.int .i64 f.gen,.string f.name,.string f.func,.int .i64 f.arity,v,.string f.bytes,.int .i64 f.bits]
def cA(rs:List (TF×Value)):List Value:=rs.flatMap (fun r=>aE r.1 r.2)
theorem iI(rs:List (TF×Value)):(cA rs).length=rs.length*9:=by
 induction rs with
 | nil=>rfl
 | cons r rs ih=>simp[cA,aE]at ih ⊢;omega
theorem gI(a b:List (TF×Value)):cA (a++b)=cA a++cA b:=by simp[cA]
theorem pE:∀(rs:List (TF×Value)) (j:Nat) (h:j<rs.length) (i:Nat),i<9→(cA rs)[j*9+i]?=(aE rs[j].1 rs[j].2)[i]?
 | r::rs,0,h,i,hi=>by
  show(aE r.1 r.2++cA rs)[0*9+i]?=_;rw[List.getElem?_append_left (by simp[aE];omega)];simp
 | r::rs,j+1,h,i,hi=>by
  show(aE r.1 r.2++cA rs)[(j+1)*9+i]?=_;rw[List.getElem?_append_right (by simp[aE];omega),show(j+1)*9+i-(aE r.1 r.2).length=j*9+i by simp[aE];omega];exact pE rs j (by simpa using h) i hi
theorem Cells.of{w:World}{g o:Nat}{f:TF}{v:Value}(h:∀i,i<9→w.cell? ⟨g,o+i,none⟩=(aE f v)[i]?):Cells w g o f v :=
 ⟨h 0 (by omega),h 1 (by omega),h 2 (by omega),h 3 (by omega),h 4 (by omega),h 5 (by omega),h 6 (by omega),h 7 (by omega),h 8 (by omega)⟩
theorem Cells.all{w:World}{g o:Nat}{f:TF}{v:Value}(h:Cells w g o f v):∀i,i<9→w.cell? ⟨g,o+i,none⟩=(aE f v)[i]?:=by
 intro i hi
 rcases(show i=0∨i=1∨i=2∨i=3∨i=4∨i=5∨i=6∨i=7∨i=8 by omega)with rfl|rfl|rfl|rfl|rfl|rfl|rfl|rfl|rfl
 ·exact h.c0
 ·exact h.c1
 ·exact h.c2
 ·exact h.c3
 ·exact h.c4
 ·exact h.c5
 ·exact h.c6
 ·exact h.c7
 ·exact h.c8
theorem pF{w:World}{base g n cap:Nat}{rs:List (TF×Value)}(h:w.ownsRow base 24 9 (.slice (some ⟨g,0,none⟩) n cap) n (cA rs))(hn:rs.length=n)(j:Nat)(hj:j<rs.length):Cells w g (j*9) rs[j].1 rs[j].2:=by
 refine Cells.of fun i hi=>?_;rw[h.cellAt (j*9+i) (by omega)];exact pE rs j hj i hi
def bl(w:World)(F:Nat→Prop):(n:Nat)→Value→List (Tm n)→Prop
 | 0,v,_=>∃p c,v=.slice p 0 c∧c≤maxLen
 | n+1,v,l=>∃p c,v=.slice p l.length c∧l.length≤c∧c≤maxLen∧(l≠[]→∃g o,p=some ⟨g,o,none⟩∧F g ∧
  ∀j,(h:j<l.length)→∃u,Cells w g (o+j*9) (l[j]).f u∧bl w F n u (l[j]).items)
theorem bl.mono{w w':World}{F F':Nat→Prop}(hs:∀g,F g→w'.heap[g]?=w.heap[g]?)(hF:∀g,F g→F' g):∀{n:Nat} {v:Value} {l:List (Tm n)},bl w F n v l→bl w' F' n v l:=by
 intro n
 induction n with
 | zero=>intro v l h;exact h
 | succ n ih =>
  intro v l h;obtain⟨p,c,e,h1,h2,h3⟩:=h;refine⟨p,c,e,h1,h2,fun hn=>?_⟩;obtain⟨g,o,e,hg,hc⟩:=h3 hn;refine⟨g,o,e,hF g hg,fun j hj=>?_⟩;obtain⟨u,dF,eK⟩:=hc j hj;exact⟨u,dF.same (hs g hg),ih eK⟩
theorem bl.pR{w:World}{F:Nat→Prop}{B:Nat}(hF:∀g,F g→g<B):∀{n:Nat} {v:Value} {l:List (Tm n)},bl w F n v l→ah w B n v l:=by
 intro n
 induction n with
 | zero=>intro v l h;exact h
 | succ n ih =>
  intro v l h;obtain⟨p,c,e,h1,h2,h3⟩:=h;refine⟨p,c,e,h1,h2,fun hn=>?_⟩;obtain⟨g,o,e,hg,hc⟩:=h3 hn;refine⟨g,o,e,hF g hg,fun j hj=>?_⟩;obtain⟨u,dF,eK⟩:=hc j hj;exact⟨u,dF,ih eK⟩
theorem ah.KF{w:World}{B:Nat}:∀{n:Nat} {v:Value} {l:List (Tm n)},ah w B n v l→bl w (fun g=>g<B) n v l:=by
 intro n
 induction n with
 | zero=>intro v l h;exact h
 | succ n ih =>
  intro v l h;obtain⟨p,c,e,h1,h2,h3⟩:=h;refine⟨p,c,e,h1,h2,fun hn=>?_⟩;obtain⟨g,o,e,hg,hc⟩:=h3 hn;refine⟨g,o,e,hg,fun j hj=>?_⟩;obtain⟨u,dF,eK⟩:=hc j hj;exact⟨u,dF,ih eK⟩
theorem bl.jH{w:World}{F:Nat→Prop}{n c:Nat}{p:Option Addr}(hc:c≤maxLen):bl w F n (.slice p 0 c) ([]:List (Tm n)):=by
 cases n with
 | zero=>exact⟨p,c,rfl,hc⟩
 | succ n=>exact⟨p,c,rfl,Nat.zero_le _,hc,fun h=>absurd rfl h⟩
def i_(w:World)(F:Nat→Prop)(g:Nat)(u:Value):Prop :=
 ∃p len c,u=.slice p len c∧(len=0∨∃g' k cur fz,p=some ⟨g',k*9,none⟩∧F g'∧g<g'∧w.heap[g']?=some (.cells cur 24 fz)∧(k+len)*9≤cur.size∧len≤maxLen)
def Typed(w:World)(F:Nat→Prop):Prop :=
 ∀g,F g→∃cur N,w.heap[g]?=some (.cells cur 24 (0,0))∧cur.size=N*9∧∀j,j<N→∃f u,Cells w g (j*9) f u∧i_ w F g u
theorem i_.nil{w:World}{F:Nat→Prop}{g:Nat}:i_ w F g aK:=⟨none,0,0,rfl,.inl rfl⟩
theorem i_.mono{w w':World}{F F':Nat→Prop}{g:Nat}{u:Value}(h:i_ w F g u)(hs:∀g,F g→w'.heap[g]?=w.heap[g]?)(hF:∀g,F g→F' g):i_ w' F' g u:=by
 obtain⟨p,len,c,e,h⟩:=h;refine⟨p,len,c,e,?_⟩
 rcases h with h|⟨g',k,cur,fz,e,h1,h2,h3,h4⟩
 ·exact .inl h
 ·exact .inr ⟨g',k,cur,fz,e,hF _ h1,h2,(hs _ h1).trans h3,h4⟩
theorem i_.less{w:World}{F:Nat→Prop}{g g':Nat}{u:Value}(h:i_ w F g u)(hg:g'≤g):i_ w F g' u:=by
 obtain⟨p,len,c,e,h⟩:=h;refine⟨p,len,c,e,?_⟩
 rcases h with h|⟨g1,k,cur,fz,e,h1,h2,h3,h4⟩
 ·exact .inl h
 ·exact .inr ⟨g1,k,cur,fz,e,h1,by omega,h3,h4⟩
theorem Typed.same{w w':World}{F:Nat→Prop}(h:Typed w F)(hs:∀g,F g→w'.heap[g]?=w.heap[g]?):Typed w' F:=by
 intro g hg;obtain⟨cur,N,h1,h2,h3⟩:=h g hg;refine⟨cur,N,(hs g hg).trans h1,h2,fun j hj=>?_⟩;obtain⟨f,u,hc,hp⟩:=h3 j hj;exact⟨f,u,hc.same (hs g hg),hp.mono hs (fun _ h=>h)⟩
theorem Typed.union{w:World}{F F':Nat→Prop}(h:Typed w F)(h':Typed w F'):Typed w (fun g=>F g∨F' g):=by
 intro g hg
 rcases hg with hg|hg
 ·obtain⟨cur,N,h1,h2,h3⟩:=h g hg;refine⟨cur,N,h1,h2,fun j hj=>?_⟩;obtain⟨f,u,hc,hp⟩:=h3 j hj;exact⟨f,u,hc,hp.mono (fun _ _=>rfl) (fun _ h=>.inl h)⟩
 ·obtain⟨cur,N,h1,h2,h3⟩:=h' g hg;refine⟨cur,N,h1,h2,fun j hj=>?_⟩;obtain⟨f,u,hc,hp⟩:=h3 j hj;exact⟨f,u,hc,hp.mono (fun _ _=>rfl) (fun _ h=>.inr h)⟩
theorem Typed.add{w:World}{F:Nat→Prop}(h:Typed w F){g0:Nat}{cur:Array Value}{N:Nat}(h1:w.heap[g0]?=some (.cells cur 24 (0,0)))(h2:cur.size=N*9)(h3:∀j,j<N→∃f u,Cells w g0 (j*9) f u∧i_ w F g0 u):Typed w (fun g=>F g∨g=g0):=by
 intro g hg
 rcases hg with hg|rfl
 ·obtain⟨cur,N,h1,h2,h3⟩:=h g hg;refine⟨cur,N,h1,h2,fun j hj=>?_⟩;obtain⟨f,u,hc,hp⟩:=h3 j hj;exact⟨f,u,hc,hp.mono (fun _ _=>rfl) (fun _ h=>.inl h)⟩
 ·refine⟨cur,N,h1,h2,fun j hj=>?_⟩;obtain⟨f,u,hc,hp⟩:=h3 j hj;exact⟨f,u,hc,hp.mono (fun _ _=>rfl) (fun _ h=>.inl h)⟩
structure uO(w w':World)(F:Nat→Prop)(n:Nat)(u:Value)(l:List (Tm n)):Prop where
 items:bl w' F n u l
 inr:∀g,F g→w.heap.size≤g∧g<w'.heap.size
 typed:Typed w' F
 ptr:∀g,g<w.heap.size→i_ w' F g u
 below:Below w.heap.size w w'
section
variable {P:Program}{w:World}
theorem wpList_append_fits{ops:Array Oper}{rest:List Oper}{o:Oper}{a:Act}{Q:Exit→Act→World→Prop}(hgd:o.guard=none)(s x:Operand)(t:TypeId)
 (ho:o.op=.call { callee:=.builtin .append,args:=#[s,x],argTypes:=#[t,t] })
 (base:Nat)(e:TypeId)(i:TypeInfo)(size:Nat)(ht:P.underlying t=some (.slice e))(hi:P.info? e=some i)(hsize:i.size=size)
 (g n cap:Nat)(xs:List Value)(hs:a.eval s=.slice (some ⟨g,0,none⟩) n cap)(hown:w.ownsRow base e size (.slice (some ⟨g,0,none⟩) n cap) n xs)
 (ad:Addr)(m c:Nat)(news:List Value)(hx:a.eval x=.slice (some ad) m c)(hl:news.length=m*size)(hnews:∀j u,news[j]?=some u→w.cell? (ad.add j)=some u)(h1:∀u∈news,u.oneCell'=true)
 (hroom:n+m≤cap)
 (h:∀w',w'.ownsRow base e size (.slice (some ⟨g,0,none⟩) (n+m) cap) (n+m) (xs++news)→w.grownBy w' (some g)→wpList P ops Q rest (a.put o.dst (.slice (some ⟨g,0,none⟩) (n+m) cap)) w') :
 wpList P ops Q (o::rest) a w:=by
 refine wpList_plain hgd fun K hK=>?_;obtain⟨w',hr,h2,h3⟩:=run_append_fits (P:=P) w base t o.type e i size ht hi hsize g n cap xs hown ad m c news hl hnews h1 hroom;unfold Oper.wp execOp;simp only[ho,resolve,invoke,builtin,Sem.run_bind,Sem.run_pure,Result.andThen_ok,List.map_toArray,List.map_cons,List.map_nil,hs,hx,hr];exact hK _ _ (h w' h2 h3)
end
theorem xo(w:World)(f:TF)(v:Value):∀j u,(aE f v)[j]?=some u→(w.alloc (av f v)).cell? ((⟨w.heap.size,0,none⟩:Addr).add j)=some u:=by
 intro j u hj;have hA:=(MapKept.heap_alloc w (av f v)).1;unfold av at hA ⊢;rw[Addr.add_lit,Nat.zero_add,cell_of_row _ _ _ _ _ _ hA,←hj];unfold aE;simp
theorem qT(f:TF)(p:Option Addr)(len c:Nat):∀u∈aE f (.slice p len c),u.oneCell'=true:=by
 intro u hu;simp[aE]at hu;rcases hu with rfl|rfl|rfl|rfl|rfl|rfl|rfl|rfl|rfl <;> rfl
end Go.Proofs.YtfbggmbmgohiiaaGreat.tm
