/- Frame,TnY,TeJ,TeK. No condition beyond theirs. -/
import Derived.Test.YtfbggmbmgohiiaaGreatR30
import Derived.ProofKit
import Derived.OpenShut
import Derived.Carry
import Derived.Below
import Derived.Lib.SmallJoins
import Derived.Deep.Slices
import Derived.Deep.Fields
import Derived.ChangeSame
import Derived.SizedLaws
set_option linter.unusedSectionVars false
set_option linter.unusedSimpArgs false
set_option linter.unusedVariables false
set_option maxHeartbeats 1000000
set_option maxRecDepth 100000
namespace Go.Proofs.YtfbggmbmgohiiaaGreat
namespace frames
open Go.ChangeShapes Go.WideShapes Go.ChangeAt Go.RowKit Go.Deep Go.Joins
variable {H:Type}{enc:TypeId×Value→H}{P:Program}
theorem wU(hl:laidOutB P=true){W W':World}{sp:Nat→Bool} :
 ∀(ts:List TypeId) (vs:List Value) (ds:List (DataW H)) (ps:List MemPlace),
 (∀t∈ts,P.readableRec t=true∧t<P.types.size) →
 DataW.TrodAll enc P W 0 (fun _=>true) true ts vs ds ps→(∀p∈ps,W.sameAt W' p)→(∀p∈ps,sp p.block=true) →
 DataW.TrodAll enc P W' 0 sp true ts vs ds ps:=by
 intro ts
 induction ts with
 | nil =>
  intro vs ds ps _ h _ _;obtain⟨rfl,rfl,rfl⟩:=trodAll_nil h;exact trodAll_mk0
 | cons t ts ih =>
  intro vs ds ps ht h hs hb;obtain⟨v,WM,d,WN,p,q,rfl,rfl,rfl,h0,r0⟩:=trodAll_cons h
  exact trodAll_cons_mk (WideElems.Trod_stays hl (ht t (by simp)).1 (ht t (by simp)).2 h0 (fun x hx=>hs x (by simp[hx])) (fun x hx=>hb x (by simp[hx])))
   (ih WM WN q (fun t' h'=>ht t' (by simp[h'])) r0 (fun x hx=>hs x (by simp[hx])) (fun x hx=>hb x (by simp[hx])))
theorem Bf:∀(ts:List TypeId) {W:World} {sp:Nat→Bool} (vs:List Value) (ds:List (DataW H)) (ps:List MemPlace),
 DataW.TrodAll enc P W 0 sp true ts vs ds ps→ds.length=ts.length:=by
 intro ts
 induction ts with
 | nil=>intro W sp vs ds ps h;obtain⟨rfl,rfl,rfl⟩:=trodAll_nil h;rfl
 | cons t ts ih =>
  intro W sp vs ds ps h;obtain⟨v,WM,d,WN,p,q,rfl,rfl,rfl,h0,r0⟩:=trodAll_cons h;simp[ih WM WN q r0]
theorem IE{f:Func}{s:ChangeSpec}{tb:TypeId}(hl:laidOutB P=true)(hpar:∀t∈f.params.toList,P.readableRec t=true∧t<P.types.size)
 (hres:f.resultTypes=#[tb])(hb:P.underlying tb=some .bool)(hvars:s.vars=[])
 (hfn:∀l:List (DataW H),l.length=f.params.toList.length→s.fn H l={ results:=[.lit (.bool true)],args:=l })
 {W W':World}{args:Array Value}{ds gs:List (DataW H)}{before:List MemPlace}
 (hW:DataW.Whole enc P f.params.toList s.vars false W args.toList ds gs before)(hB:Below W.heap.size W W') :
 s.post enc P f false true false false W args (.bool true) W':=by
 have hlt:∀p∈before,p.block<W.heap.size:=fun p hp=>by simpa using hW.lt p hp
 have Y4:=hW;obtain⟨p,q,hA,hV,rfl,hfz,hnd⟩:=hW;rw[hvars]at hV;obtain⟨rfl,rfl⟩:=trodVars_none hV;have hlen:=Bf _ _ _ _ hA;have hs:=hfn ds hlen;simp only[List.append_nil]at hlt Y4
 refine⟨ds,[],p,[],p,[],by simpa using Y4,?_,?_,?_,hB.frame _,fun h=>by cases h⟩
 ·rw[List.append_nil,hs,hres];exact trodAll_cons_mk (shut_bool hb _) trodAll_mk0
 ·rw[List.append_nil,hs];exact wU hl _ _ _ _ hpar hA (fun x hx=>hB.same (hlt x hx)) (fun x hx=>by simpa using hlt x hx)
 ·rw[List.append_nil,hs,hvars];rfl
theorem still{k:FuncId}{args:Array Value}{W:World}(h:Calls P k args W fun e w'=>e=.returned (.bool true)∧W=w') :
 Calls P k args W fun e w'=>e=.returned (.bool true)∧Below W.heap.size W w' :=
 h.mono fun e w' h=>⟨h.1,h.2▸Below.refl _ _⟩
end frames
namespace tm
open Go.RowKit mem Go.ChangeShapes Go.WideShapes Go.ChangeAt Go.Deep
variable {H:Type}{enc:TypeId×Value→H}{W:World}
theorem Bg{α:Type}(P:Nat→α→Prop):∀n,(∀i,i<n→∃a,P i a)→∃l:List α,l.length=n∧∀i,(h:i<l.length)→P i l[i]:=by
 intro n
 induction n with
 | zero=>intro _;exact⟨[],rfl,fun i h=>absurd h (by simp)⟩
 | succ n ih =>
  intro h;obtain⟨l,hl,hp⟩:=ih (fun i hi=>h i (by omega));obtain⟨a,ha⟩:=h n (by omega);refine⟨l++[a],by simp[hl],fun i hi=>?_⟩
  by_cases hin:i<l.length
  ·rw[List.getElem_append_left hin];exact hp i hin
  ·have:i=n:=by simp at hi;omega
   subst this;rw[List.getElem_append_right (by omega)];simpa using ha
theorem pN{n:Nat}{cs:List Value}{x:DataW H×List MemPlace}(ih:∀v x,DataW.trod enc Tryz.prog W 0 (fun _=>true) true n 22 [v]=some x→∃l:List (Tm n),ah W W.heap.size n v l)
 (h:DataW.trod enc Tryz.prog W 0 (fun _=>true) true (n+1) 24 cs=some x):∃(t:Tm (n+1)) (v:Value),cs=[.int .i64 t.f.kind,.int .i64 t.f.int,.int .i64 t.f.gen,.string t.f.name,.string t.f.func,.int .i64 t.f.arity,v,.string t.f.bytes,.int .i64 t.f.bits]∧ah W W.heap.size n v t.items:=by
 obtain⟨ys,n',hn',hy,hlen,Q9,hf⟩:=DataW.trod_struct Tryz.underlying24 h;obtain rfl:n=n':=by omega
 have WO:cs.length=9:=hlen
 match cs,WO with
 | [b0,b1,b2,b3,b4,b5,b6,b7,b8],_ =>
 have hl:ys.length=9:=Q9
 match ys,hl with
 | [y0,y1,y2,y3,y4,y5,y6,y7,y8],_ =>
 have t0:DataW.trod enc Tryz.prog W 0 (fun _=>true) true n 3 [b0]=some y0:=hf 0 _ rfl;have t1:DataW.trod enc Tryz.prog W 0 (fun _=>true) true n 2 [b1]=some y1:=hf 1 _ rfl;have t2:DataW.trod enc Tryz.prog W 0 (fun _=>true) true n 2 [b2]=some y2:=hf 2 _ rfl;have t3:DataW.trod enc Tryz.prog W 0 (fun _=>true) true n 9 [b3]=some y3:=hf 3 _ rfl;have t4:DataW.trod enc Tryz.prog W 0 (fun _=>true) true n 9 [b4]=some y4:=hf 4 _ rfl;have t5:DataW.trod enc Tryz.prog W 0 (fun _=>true) true n 3 [b5]=some y5:=hf 5 _ rfl
 have t6:DataW.trod enc Tryz.prog W 0 (fun _=>true) true n 22 [b6]=some y6:=hf 6 _ rfl;have t7:DataW.trod enc Tryz.prog W 0 (fun _=>true) true n 9 [b7]=some y7:=hf 7 _ rfl;have t8:DataW.trod enc Tryz.prog W 0 (fun _=>true) true n 3 [b8]=some y8:=hf 8 _ rfl;obtain⟨l,hl⟩:=ih b6 y6 t6;obtain⟨k0,e0,_⟩:=DataW.trod_int Tryz.underlying3 t0;obtain⟨k1,e1,_⟩:=DataW.trod_int Tryz.underlying2 t1;obtain⟨k2,e2,_⟩:=DataW.trod_int Tryz.underlying2 t2;obtain⟨k5,e5,_⟩:=DataW.trod_int Tryz.underlying3 t5;obtain⟨k8,e8,_⟩:=DataW.trod_int Tryz.underlying3 t8
 obtain⟨s3,e3,_⟩:=DataW.trod_string Tryz.underlying9 t3;obtain⟨s4,e4,_⟩:=DataW.trod_string Tryz.underlying9 t4;obtain⟨s7,e7,_⟩:=DataW.trod_string Tryz.underlying9 t7;simp only[List.cons.injEq,and_true]at e0 e1 e2 e3 e4 e5 e7 e8;subst e0;subst e1;subst e2;subst e3;subst e4;subst e5;subst e7;subst e8;exact⟨Tm.mk ⟨k0,k1,k2,s3,s4,k5,s7,k8⟩ l,b6,rfl,hl⟩
theorem qB:∀(n:Nat) (v:Value) (x:DataW H×List MemPlace),DataW.trod enc Tryz.prog W 0 (fun _=>true) true n 22 [v]=some x→∃l:List (Tm n),ah W W.heap.size n v l:=by
 intro n
 induction n using Nat.strongRecOn with
 | ind n ih =>
  intro v x h
  rcases DataW.trod_slice Tryz.underlying22 h with⟨hcs,hx⟩|⟨a,len,cap,elems,rest,m,hm,hcs,hx,hb,hlc,gW,hel,qx,_,_⟩
  ·simp only[List.cons.injEq,and_true]at hcs;subst hcs;exact⟨[],ah.jH (Nat.zero_le _)⟩
  ·simp only[List.cons.injEq,and_true]at hcs;subst hcs;subst hm;have hC:Tryz.prog.cellsOf 24=9:=by kernel_rfl
   cases m with
   | zero =>
    cases len with
    | zero=>exact⟨[],ah.jH gW⟩
    | succ len =>
     have h0:=qx 0 (by omega);have e0:elems[0]?=some (elems[0]'(by omega)):=List.getElem?_eq_getElem (by omega);rw[e0]at h0;cases hc:W.cells? 0 (a.add (0*Tryz.prog.cellsOf 24)) (Tryz.prog.cellsOf 24)with
     | none=>rw[hc]at h0;simp at h0
     | some cs=>rw[hc]at h0;simp[DataW.trod]at h0
   | succ m =>
    have hex:∀i,i<len→∃t:Tm (m+1),∃u,(∀k,k<9→W.cell? (a.add (i*9+k))=[Value.int .i64 t.f.kind,.int .i64 t.f.int,.int .i64 t.f.gen,.string t.f.name,.string t.f.func,.int .i64 t.f.arity,u,.string t.f.bytes,.int .i64 t.f.bits][k]?)∧ah W W.heap.size m u t.items:=by
     intro i hi;have h0:=qx i hi;have e0:elems[i]?=some (elems[i]'(by omega)):=List.getElem?_eq_getElem (by omega);rw[e0]at h0;cases hc:W.cells? 0 (a.add (i*Tryz.prog.cellsOf 24)) (Tryz.prog.cellsOf 24)with
     | none=>rw[hc]at h0;simp at h0
     | some cs =>
      rw[hc]at h0;simp only[Option.bind_some]at h0;obtain⟨t,u,rfl,hI⟩:=pN (fun v x=>ih m (by omega) v x) h0;refine⟨t,u,fun k hk=>?_,hI⟩;obtain⟨_,_,hcell⟩:=World.cells?_some hc;have:=hcell k (by rw[hC];exact hk);rw[hC,Go.Deep.add_add]at this;exact this
    obtain⟨l,hl,hP⟩:=Bg _ len hex;obtain⟨g,o,OM⟩:=a
    suffices hs:ah W W.heap.size (m+1) (.slice (some ⟨g,o,OM⟩) len cap) l from⟨_,hs.lift⟩
    refine⟨some ⟨g,o,OM⟩,cap,by rw[hl],by omega,gW,fun hne=>?_⟩;have hpos:0<l.length:=List.length_pos_iff.2 hne;obtain⟨u0,hc0,_⟩:=hP 0 hpos;have x0:=hc0 0 (by omega);have OO:OM=none:=by
     cases OM with
     | none=>rfl
     | some q =>
      exfalso;have x1:W.cell? ⟨g,o,some q⟩=some _:=x0;unfold World.cell? at x1
      split at x1 <;> simp at x1
    subst OO
    refine⟨g,o,rfl,?_,fun j hj=>?_⟩
    ·have:=World.block_lt_of_cell? W _ x0;rw[Addr.add_lit]at this;exact this
    ·obtain⟨u,hc,hI⟩:=hP j hj;have EU:=fun k hk=>by have:=hc k hk;rwa[Addr.add_lit]at this
     refine⟨u,⟨?_,?_,?_,?_,?_,?_,?_,?_,?_⟩,hI⟩
     ·exact EU 0 (by omega)
     ·exact EU 1 (by omega)
     ·exact EU 2 (by omega)
     ·exact EU 3 (by omega)
     ·exact EU 4 (by omega)
     ·exact EU 5 (by omega)
     ·exact EU 6 (by omega)
     ·exact EU 7 (by omega)
     ·exact EU 8 (by omega)
end tm
namespace rec
open Go.RowKit mem
structure Bh(sl e:TypeId)(s aL:Nat):Prop where
 und:Tryz.prog.underlying sl=some (.slice e)
 info:∃i z,Tryz.prog.info? e=some i∧i.zero=some z∧i.size=s∧z.cells.size=s∧i.bytes=aL
 pos:0<s
theorem Bh.el{sl e:TypeId}{s aL:Nat}(h:Bh sl e s aL)(hb:aL≤10000:=by decide):vq sl e s:=⟨h.und,by obtain⟨i,z,h1,h2,h3,h4,h5⟩:=h.info;exact⟨i,z,h1,h2,h3,h4,by omega⟩,h.pos⟩
section
variable {α:Type}{enc:α→List Value}{s:Nat}
theorem nS{sl e aL:TypeId}(T:Bh sl e s aL){w:World}{base:Nat}{v:Value}{l:List α}(h:aA enc e s w base v l)(hb:base≤w.heap.size)(ty:TypeId){B:Nat}{vx:Value}{xs:List α}(hx:bq enc s w B vx xs)(hE:bD enc s xs)(hn:(l.length+xs.length)*aL≤140737488355328)(hb0:0<aL)(aD:aL≤10000) :
 ∃v' w',(Builtin.append_ #[sl,sl] ty #[v,vx]).run Tryz.prog w=.ok v' w'∧dz enc e s w base v l xs v' w':=by
 obtain⟨p,c,rfl,h1,h2,h3⟩:=hx;cases hxs:xs with
 | nil =>
  subst hxs;cases p with
  | none =>
   obtain⟨pv,cv,ev,hc,_⟩:=h.shape;exact⟨v,w,kr (T.el aD) w v pv l.length cv _ ev hc ty,by rw[List.append_nil];exact h,⟨rfl,rfl,rfl,Nat.le_refl _,fun _ _ _=>rfl⟩,.inl rfl⟩
  | some ad =>
   obtain⟨wP,⟨i,z,hi,hz,hs,hzs,rfl⟩,hpos⟩:=T;obtain⟨v',w',hr,hown,hg,_,qx⟩:=run_append_own_at (P:=Tryz.prog) w base sl ty e i z s i.bytes wP hi hz hs rfl hzs hpos v l.length (l.flatMap enc) h ad 0 c [] (by simp) (fun j u hu=>by simp at hu) (fun u hu=>by simp at hu) (by have:=Nat.le_mul_of_pos_right (l.length+0) hb0;simp at hn this;unfold maxLen;simp;omega) (by simpa using hn) hb;refine⟨v',w',hr,?_,hg,qx⟩;unfold aA;rw[List.append_nil];simpa using hown
 | cons x0 Q5 =>
  subst hxs;obtain⟨g,o,rfl,hg,hc⟩:=h3 (by simp);obtain⟨wP,⟨i,z,hi,hz,hs,hzs,rfl⟩,hpos⟩:=T;have hfl:=bH hE;obtain⟨v',w',hr,hown,hg,_,qx⟩:=run_append_own_at (P:=Tryz.prog) w base sl ty e i z s i.bytes wP hi hz hs rfl hzs hpos v l.length (l.flatMap enc) h ⟨g,o,none⟩ (x0::Q5).length c ((x0::Q5).flatMap enc) hfl (fun j u hu=>by
   have hj:=(List.getElem?_eq_some_iff.1 hu).1
   rw[hfl]at hj
   obtain⟨q,k,a,rfl,hk,hq⟩:=AH hpos hj
   rw[q_ hE hq hk]at hu
   have:=hc q a hq k u hu
   rw[Addr.add_lit]
   exact this) (fun u hu=>by
   obtain⟨a,ha,hu⟩:=List.mem_flatMap.1 hu
   exact(hE a ha).2 u hu) (by have:=Nat.le_mul_of_pos_right (l.length+(x0::Q5).length) hb0;unfold maxLen;omega) hn hb
  refine⟨v',w',hr,?_,hg,qx⟩;unfold aA;rw[List.length_append,List.flatMap_append];exact hown
end
theorem IG{sl e s b:Nat}{z:Value}(hu:Tryz.prog.underlying sl=some (.slice e))(hi:(Tryz.prog.info? e).map (fun i=>(i.zero,i.size,i.bytes))=some (some z,s,b))(hz:z.cells.size=s)(hs:0<s):Bh sl e s b:=by
 cases hq:Tryz.prog.info? e with
 | none=>rw[hq]at hi;simp at hi
 | some i =>
  rw[hq]at hi;simp only[Option.map_some,Option.some.injEq,Prod.mk.injEq]at hi;exact⟨hu,⟨i,z,hq,hi.1,hi.2.1,hz,hi.2.2⟩,hs⟩
theorem Lv:(Tryz.prog.info? 24).map (fun i=>(i.zero,i.size,i.bytes))=some (some (.agg #[.int .i64 0,.int .i64 0,.int .i64 0,.string ⟨#[]⟩,.string ⟨#[]⟩,.int .i64 0,.slice none 0 0,.string ⟨#[]⟩,.int .i64 0]),9,112):=by kernel_rfl
theorem II:Bh 22 24 9 112:=IG Tryz.underlying22 Lv rfl (by decide)
end rec
namespace tb
open Go.RowKit mem rec tm names
def tE{n:Nat}(r:Tm (n+1)×Value):List Value:=aE r.1.f r.2
theorem qC{n:Nat}(r:Tm (n+1)×Value):(tE r).length=9:=rfl
def F4{n:Nat}(W:World)(B:Nat)(r:Tm (n+1)×Value):Prop:=ah W B n r.2 r.1.items
theorem Dg{n:Nat}{W:World}{B:Nat}{r:Tm (n+1)×Value}(h:F4 W B r):∀u∈tE r,u.oneCell'=true:=by
 obtain⟨t,u⟩:=r;obtain⟨p,c,e,_,_⟩:=h.shape;dsimp only at e;subst e;intro x hx;simp only[tE,aE,List.mem_cons,List.mem_nil_iff,or_false]at hx;rcases hx with rfl|rfl|rfl|rfl|rfl|rfl|rfl|rfl|rfl <;> rfl
theorem sJ{n:Nat}{w:World}{B:Nat}{v:Value}{rs:List (Tm (n+1)×Value)}(h:bq tE 9 w B v rs)(hk:∀r∈rs,F4 w B r):ah w B (n+1) v (rs.map (·.1)):=by
 obtain⟨p,c,rfl,h1,h2,h3⟩:=h;refine⟨p,c,by simp,by simpa using h1,h2,fun hn=>?_⟩;obtain⟨g,o,rfl,hg,hc⟩:=h3 (by simpa using hn);refine⟨g,o,rfl,hg,fun j hj=>?_⟩;have hj':j<rs.length:=by simpa using hj
 have hh:=hc j rs[j] (List.getElem?_eq_getElem hj');have e:(rs.map (·.1))[j]=rs[j].1:=by simp
 rw[e];refine⟨rs[j].2,?_,hk _ (List.getElem_mem hj')⟩;simp only[←Nat.add_assoc]at hh;exact⟨hh 0 _ rfl,hh 1 _ rfl,hh 2 _ rfl,hh 3 _ rfl,hh 4 _ rfl,hh 5 _ rfl,hh 6 _ rfl,hh 7 _ rfl,hh 8 _ rfl⟩
end tb
namespace tb
open Go.RowKit mem rec tm Go.ChangeShapes Go.WideShapes Go.ChangeAt Go.Deep
structure qD(n:Nat) where
 kind:Int
 a:Tm (n+1)
 b:Tm (n+1)
 r:Tm (n+1)
 hs:Bool
 ua:Value
 ub:Value
 ur:Value
def jM{n:Nat}(e:qD n):List Value:=[.int .i64 e.kind]++aE e.a.f e.ua++aE e.b.f e.ub++aE e.r.f e.ur++[.bool e.hs]
theorem Lw{n:Nat}(e:qD n):(jM e).length=29:=rfl
def nC(w:World)(B:Nat){n:Nat}(e:qD n):Prop:=ah w B n e.ua e.a.items∧ah w B n e.ub e.b.items∧ah w B n e.ur e.r.items
theorem nC.below{n:Nat}{w w':World}{B B':Nat}{e:qD n}(h:nC w B e)(hb:Below B' w w')(hB:B≤B'):nC w' B e:=⟨h.1.below hb hB,h.2.1.below hb hB,h.2.2.below hb hB⟩
theorem Lx{w:World}{B n:Nat}{e:qD n}(h:nC w B e):∀u∈jM e,u.oneCell'=true:=by
 obtain⟨k,a,b,r,hs,ua,ub,ur⟩:=e;obtain⟨h1,h2,h3⟩:=h;obtain⟨p1,c1,e1,_,_⟩:=h1.shape;obtain⟨p2,c2,e2,_,_⟩:=h2.shape;obtain⟨p3,c3,e3,_,_⟩:=h3.shape;dsimp only at e1 e2 e3;subst e1;subst e2;subst e3;intro u hu;simp only[jM,aE,List.mem_append,List.mem_cons,List.mem_nil_iff,or_false]at hu
 rcases hu with(((h|h)|h)|h)|h
 ·rw[h];rfl
 ·rcases h with rfl|rfl|rfl|rfl|rfl|rfl|rfl|rfl|rfl <;> rfl
 ·rcases h with rfl|rfl|rfl|rfl|rfl|rfl|rfl|rfl|rfl <;> rfl
 ·rcases h with rfl|rfl|rfl|rfl|rfl|rfl|rfl|rfl|rfl <;> rfl
 ·rw[h];rfl
variable {H:Type}{enc:TypeId×Value→H}{W:World}
theorem Ly:Tryz.prog.cellsOf 44=29:=by kernel_rfl
theorem IJ{m:Nat}{cs:List Value}{x:DataW H×List MemPlace}(h:DataW.trod enc Tryz.prog W 0 (fun _=>true) true (m+1+1) 44 cs=some x):∃e:qD m,cs=jM e∧nC W W.heap.size e:=by
 obtain⟨ys,n',hn',hy,hlen,Q9,hf⟩:=DataW.trod_struct Tryz.underlying44 h;obtain rfl:m+1=n':=by omega
 have WQ:cs.length=29:=hlen
 match cs,WQ with
 | [b0,b1,b2,b3,b4,b5,b6,b7,b8,b9,c0,c1,c2,c3,c4,c5,c6,c7,c8,c9,d0,d1,d2,d3,d4,d5,d6,d7,d8],_ =>
 have hl:ys.length=5:=Q9
 match ys,hl with
 | [y0,y1,y2,y3,y4],_ =>
 have t0:DataW.trod enc Tryz.prog W 0 (fun _=>true) true (m+1) 3 [b0]=some y0:=hf 0 _ rfl;have t1:DataW.trod enc Tryz.prog W 0 (fun _=>true) true (m+1) 24 [b1,b2,b3,b4,b5,b6,b7,b8,b9]=some y1:=hf 1 _ rfl;have t2:DataW.trod enc Tryz.prog W 0 (fun _=>true) true (m+1) 24 [c0,c1,c2,c3,c4,c5,c6,c7,c8]=some y2:=hf 2 _ rfl;have t3:DataW.trod enc Tryz.prog W 0 (fun _=>true) true (m+1) 24 [c9,d0,d1,d2,d3,d4,d5,d6,d7]=some y3:=hf 3 _ rfl;have t4:DataW.trod enc Tryz.prog W 0 (fun _=>true) true (m+1) 4 [d8]=some y4:=hf 4 _ rfl;obtain⟨k0,e0,_⟩:=DataW.trod_int Tryz.underlying3 t0
 obtain⟨k4,e4,_⟩:=DataW.trod_bool Tryz.underlying4 t4;obtain⟨a,ua,ea,ha⟩:=pN (fun v x=>qB m v x) t1;obtain⟨b,ub,eb,hb⟩:=pN (fun v x=>qB m v x) t2;obtain⟨r,ur,er,hr⟩:=pN (fun v x=>qB m v x) t3;refine⟨⟨k0,a,b,r,k4,ua,ub,ur⟩,?_,ha,hb,hr⟩;have e:[b0,b1,b2,b3,b4,b5,b6,b7,b8,b9,c0,c1,c2,c3,c4,c5,c6,c7,c8,c9,d0,d1,d2,d3,d4,d5,d6,d7,d8]=[b0]++[b1,b2,b3,b4,b5,b6,b7,b8,b9]++[c0,c1,c2,c3,c4,c5,c6,c7,c8]++[c9,d0,d1,d2,d3,d4,d5,d6,d7]++[d8]:=rfl;rw[e,e0,ea,eb,er,e4];rfl
theorem F5{b:Nat}{v:Value}{d:DataW H}{ps:List MemPlace}(hv:Value.okWide Tryz.prog W .any b 32 v)(h:DataW.Trod enc Tryz.prog W 0 (fun _=>true) true 32 v d ps):∃n,∃l:List (qD n),bq jM 29 W W.heap.size v l∧(∀e∈l,nC W W.heap.size e)∧(l=[]∨∃es rs:List (DataW H),d=.slice es rs∧es.length=l.length):=by
 obtain⟨a0,len,cap,rfl⟩:=okWide_slice Tryz.underlying32 hv;obtain⟨fuel,hf⟩:=h;have hf':DataW.trod enc Tryz.prog W 0 (fun _=>true) true fuel 32 [.slice a0 len cap]=some (d,ps):=by simpa[Value.cells] using hf
 rcases DataW.trod_slice Tryz.underlying32 hf' with⟨hcs,hx⟩|⟨a,len',cap',elems,rest,m,hm,hcs,hx,hb,hlc,gW,hel,qx,_,_⟩
 ·simp only[List.cons.injEq,and_true]at hcs;rw[hcs];exact⟨0,[],bq.nil _ _ _ _ (Nat.zero_le _),fun e he=>by simp at he,.inl rfl⟩
 ·simp only[List.cons.injEq,and_true]at hcs;rw[hcs];cases len' with
  | zero=>exact⟨0,[],bq.nil _ _ _ _ gW,fun e he=>by simp at he,.inl rfl⟩
  | succ len' =>
   have sK:∀i,i<len'+1→∃cs x,W.cells? 0 (a.add (i*29)) 29=some cs∧DataW.trod enc Tryz.prog W 0 (fun _=>true) true m 44 cs=some x:=by
    intro i hi;have h0:=qx i hi;have e0:elems[i]?=some (elems[i]'(by omega)):=List.getElem?_eq_getElem (by omega);rw[e0]at h0;rw[Ly]at h0;cases hc:W.cells? 0 (a.add (i*29)) 29 with
    | none=>rw[hc]at h0;simp at h0
    | some cs=>rw[hc]at h0;exact⟨cs,_,rfl,h0⟩
   match m,sK with
   | 0,sK=>obtain⟨cs,x,_,h0⟩:=sK 0 (by omega);simp[DataW.trod]at h0
   | 1,sK =>
    exfalso;obtain⟨cs,x,_,h0⟩:=sK 0 (by omega);obtain⟨ys,n',hn',hy,hlen,Q9,hf⟩:=DataW.trod_struct Tryz.underlying44 h0;obtain rfl:0=n':=by omega
    have hl:ys.length=5:=Q9
    match ys,hl with
    | [y0,y1,y2,y3,y4],_ =>
     have t0:=hf 0 _ rfl;simp[DataW.trod]at t0
   | m+1+1,sK =>
    have hex:∀i,i<len'+1→∃t:qD m,(∀k,k<29→W.cell? (a.add (i*29+k))=(jM t)[k]?)∧nC W W.heap.size t:=by
     intro i hi;obtain⟨cs,x,hc,h0⟩:=sK i hi;obtain⟨t,rfl,h1⟩:=IJ h0;refine⟨t,fun k hk=>?_,h1⟩;obtain⟨_,_,hcell⟩:=World.cells?_some hc;have:=hcell k hk;rw[Go.Deep.add_add]at this;exact this
    obtain⟨l,hl,hP⟩:=Bg _ (len'+1) hex;obtain⟨g,o,OM⟩:=a;have hpos:0<l.length:=by omega
    have x0:=(hP 0 hpos).1 0 (by omega);have OO:OM=none:=by
     cases OM with
     | none=>rfl
     | some q =>
      exfalso;have x1:W.cell? ⟨g,o,some q⟩=some _:=x0;unfold World.cell? at x1
      split at x1 <;> simp at x1
    subst OO
    refine⟨m,l,⟨some ⟨g,o,none⟩,cap',by rw[hl],by omega,gW,fun hne=>⟨g,o,rfl,?_,fun j e hj k u hu=>?_⟩⟩,fun e he=>?_,.inr ⟨elems.map (·.1),rest.map (·.1),congrArg (·.1) hx,by rw[List.length_map,hel,hl]⟩⟩
    ·have:=World.block_lt_of_cell? W _ x0;rw[Addr.add_lit]at this;exact this
    ·have hjl:j<l.length:=by
      rcases Nat.lt_or_ge j l.length with h|h
      ·exact h
      ·rw[List.getElem?_eq_none h]at hj;cases hj
     rw[List.getElem?_eq_getElem hjl]at hj;simp only[Option.some.injEq]at hj;subst hj;have hk:k<29:=by
      rcases Nat.lt_or_ge k 29 with h|h
      ·exact h
      ·rw[List.getElem?_eq_none (by rw[Lw];exact h)]at hu;cases hu
     have:=(hP j hjl).1 k hk;rw[Addr.add_lit]at this;rw[this,hu]
    ·obtain⟨j,hj,rfl⟩:=List.getElem_of_mem he;exact(hP j hj).2
theorem Lz:Tryz.prog.bytesOf 44=352:=by kernel_rfl
theorem F6{ts:List TypeId}{ds:List (DataW H)}{j:Nat}{d:DataW H}{k:Nat}(h:(DataW.weightsEach Tryz.prog ts ds).all (·≤reachBytes)=true)(ht:ts[j]?=some 32)(hd:ds[j]?=some d)(hx:k=0∨∃es rs:List (DataW H),d=.slice es rs∧es.length=k):k*352≤140737488355328:=by
 rcases hx with rfl|⟨es,rs,rfl,rfl⟩
 ·decide
 ·have:=sized_slice h (j:=j) (t:=32) (e:=44) ht hd Tryz.underlying32;rw[Lz]at this;unfold reachBytes at this;omega
end tb
end Go.Proofs.YtfbggmbmgohiiaaGreat
