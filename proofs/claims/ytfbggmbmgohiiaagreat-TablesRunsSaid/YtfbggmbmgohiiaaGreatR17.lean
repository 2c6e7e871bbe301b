/- Rec,TbB. No condition beyond theirs. -/
import Derived.Test.YtfbggmbmgohiiaaGreatR10
import Derived.Maps.AppendAt
import Derived.Lib.AppendStr
import Derived.Lib.Builder
import Derived.Lib.OthersKept
import Derived.Deep.RegionHeld3
import Derived.BigRegion
import Derived.Says
import Derived.Deep.LoopGhost
import Derived.Deep.Cut
import Derived.Deep.CutRange
import Derived.Deep.CutBlock
import Derived.Deep.RegionLaw
import Derived.Laws.Cover3
import Derived.Laws.ResultCell
set_option linter.unusedSectionVars false
set_option linter.unusedSimpArgs false
set_option linter.unusedVariables false
set_option maxHeartbeats 4000000
set_option maxRecDepth 100000
namespace Go.Proofs.YtfbggmbmgohiiaaGreat
namespace rec
open Go.RowKit mem
structure vq(sl e:TypeId)(s:Nat):Prop where
 und:Tryz.prog.underlying sl=some (.slice e)
 info:∃i z,Tryz.prog.info? e=some i∧i.zero=some z∧i.size=s∧z.cells.size=s∧i.bytes≤10000
 pos:0<s
section
variable {α:Type}{enc:α→List Value}{s:Nat}
def bD(enc:α→List Value)(s:Nat)(l:List α):Prop:=∀a∈l,(enc a).length=s∧∀u∈enc a,u.oneCell'=true
theorem bD.nil:bD enc s []:=fun a h=>by simp at h
theorem bD.append{l m:List α}(h:bD enc s l)(k:bD enc s m):bD enc s (l++m):=fun a ha=>by
 rcases List.mem_append.1 ha with ha|ha
 ·exact h a ha
 ·exact k a ha
theorem bD.sub{l m:List α}(h:bD enc s l)(hm:∀a∈m,a∈l):bD enc s m:=fun a ha=>h a (hm a ha)
theorem bH:∀{l:List α},bD enc s l→(l.flatMap enc).length=l.length*s:=by
 intro l
 induction l with
 | nil=>intro _;simp
 | cons a l ih =>
  intro h;rw[List.flatMap_cons,List.length_append,(h a List.mem_cons_self).1,ih (fun b hb=>h b (List.mem_cons_of_mem _ hb)),List.length_cons,Nat.succ_mul,Nat.add_comm]
theorem q_:∀{l:List α},bD enc s l→∀{j:Nat} {a:α},l[j]?=some a→∀{k:Nat},k<s→(l.flatMap enc)[j*s+k]?=(enc a)[k]?:=by
 intro l
 induction l with
 | nil=>intro _ j a h;simp at h
 | cons b l ih =>
  intro h j a hj k hk;have hb:=(h b List.mem_cons_self).1;rw[List.flatMap_cons];cases j with
  | zero =>
   obtain rfl:b=a:=by simpa using hj
   rw[Nat.zero_mul,Nat.zero_add,List.getElem?_append_left (by omega)]
  | succ j =>
   rw[List.getElem?_cons_succ]at hj;rw[List.getElem?_append_right (by rw[Nat.succ_mul];omega),hb,←ih (fun c hc=>h c (List.mem_cons_of_mem _ hc)) hj hk];congr 1;rw[Nat.succ_mul];omega
theorem AH{l:List α}(hs:0<s){i:Nat}(hi:i<l.length*s):∃j k a,i=j*s+k∧k<s∧l[j]?=some a:=by
 have hj:i/s<l.length:=(Nat.div_lt_iff_lt_mul hs).2 hi;refine⟨i/s,i%s,l[i/s],?_,Nat.mod_lt _ hs,List.getElem?_eq_getElem hj⟩;rw[Nat.mul_comm];exact(Nat.div_add_mod i s).symm
def bq(enc:α→List Value)(s:Nat)(w:World)(B:Nat)(v:Value)(l:List α):Prop :=
 ∃p c,v=.slice p l.length c∧l.length≤c∧c≤maxLen∧(l≠[]→∃g o,p=some ⟨g,o,none⟩∧g<B∧∀j a,l[j]?=some a→∀k u,(enc a)[k]?=some u→w.cell? ⟨g,o+(j*s+k),none⟩=some u)
def aA(enc:α→List Value)(e:TypeId)(s:Nat)(w:World)(base:Nat)(v:Value)(l:List α):Prop:=w.ownsRow base e s v l.length (l.flatMap enc)
theorem bq.shape{w:World}{B:Nat}{v:Value}{l:List α}(h:bq enc s w B v l):∃p c,v=.slice p l.length c∧l.length≤c∧c≤maxLen:=by
 obtain⟨p,c,e,h1,h2,_⟩:=h;exact⟨p,c,e,h1,h2⟩
theorem bq.same{w w':World}{B:Nat}{v:Value}{l:List α}(h:bq enc s w B v l)(hs:∀g,g<B→w'.heap[g]?=w.heap[g]?):bq enc s w' B v l:=by
 obtain⟨p,c,e,h1,h2,h3⟩:=h;refine⟨p,c,e,h1,h2,fun hn=>?_⟩;obtain⟨g,o,e,hg,hc⟩:=h3 hn;exact⟨g,o,e,hg,fun j a hj k u hu=>(World.cell?_of_block (w:=w) (w':=w') (a:=⟨g,o+(j*s+k),none⟩) (hs g hg)).trans (hc j a hj k u hu)⟩
theorem bq.block{w w':World}{B:Nat}{v:Value}{l:List α}(h:bq enc s w B v l)(hs:∀g,v.ownBlock=some g→w'.heap[g]?=w.heap[g]?):bq enc s w' B v l:=by
 obtain⟨p,c,e,h1,h2,h3⟩:=h;refine⟨p,c,e,h1,h2,fun hn=>?_⟩;obtain⟨g,o,e',hg,hc⟩:=h3 hn;exact⟨g,o,e',hg,fun j a hj k u hu=>(World.cell?_of_block (w:=w) (w':=w') (a:=⟨g,o+(j*s+k),none⟩) (hs g (by rw[e,e'];rfl))).trans (hc j a hj k u hu)⟩
theorem bq.below{w w':World}{B B':Nat}{v:Value}{l:List α}(h:bq enc s w B v l)(hb:Below B' w w')(hB:B≤B'):bq enc s w' B v l:=h.same fun g hg=>hb.block g (by omega)
theorem bq.more{w:World}{B B':Nat}{v:Value}{l:List α}(h:bq enc s w B v l)(hB:B≤B'):bq enc s w B' v l:=by
 obtain⟨p,c,e,h1,h2,h3⟩:=h;refine⟨p,c,e,h1,h2,fun hn=>?_⟩;obtain⟨g,o,e,hg,hc⟩:=h3 hn;exact⟨g,o,e,by omega,hc⟩
theorem bq.drewN{w:World}{B:Nat}{v:Value}{l:List α}(h:bq enc s w B v l)(m:Nat):bq enc s (w.drewN m) B v l:=h.same (fun _ _=>rfl)
theorem bq.nil(w:World)(B:Nat)(p:Option Addr)(c:Nat)(hc:c≤maxLen):bq enc s w B (.slice p 0 c) ([]:List α):=⟨p,c,rfl,Nat.zero_le _,hc,fun h=>absurd rfl h⟩
theorem bq.nth{w:World}{B:Nat}{p:Option Addr}{n c:Nat}{l:List α}(h:bq enc s w B (.slice p n c) l)(h0:0<l.length):∃g o,p=some ⟨g,o,none⟩∧n=l.length∧g<B∧∀j a,l[j]?=some a→∀k u,(enc a)[k]?=some u→w.cell? ⟨g,o+(j*s+k),none⟩=some u:=by
 obtain⟨p',c',e,h1,h2,h3⟩:=h;simp only[Value.slice.injEq]at e;obtain⟨rfl,rfl,rfl⟩:=e;obtain⟨g,o,e,hg,hc⟩:=h3 (List.length_pos_iff.1 h0);exact⟨g,o,e,rfl,hg,hc⟩
theorem bq.take{w:World}{B:Nat}{p:Option Addr}{n c:Nat}{l:List α}(h:bq enc s w B (.slice p n c) l){k:Nat}(hk:k≤l.length):bq enc s w B (.slice p k c) (l.take k):=by
 obtain⟨p',c',e,h1,h2,h3⟩:=h;simp only[Value.slice.injEq]at e;obtain⟨rfl,rfl,rfl⟩:=e;have hl:(l.take k).length=k:=by rw[List.length_take];omega
 refine⟨p,c,by rw[hl],by rw[hl];omega,h2,fun hn=>?_⟩;have h0:0<(l.take k).length:=List.length_pos_iff.2 hn;obtain⟨g,o,e',hg,hc⟩:=h3 (by intro e;subst e;simp at h0);refine⟨g,o,e',hg,fun j a hj=>hc j a ?_⟩;have Vq:=(List.getElem?_eq_some_iff.1 hj).1;rw[←hj,List.getElem?_take,if_pos (by omega)]
theorem bq.drop{w:World}{B g o n c:Nat}{l:List α}(h:bq enc s w B (.slice (some ⟨g,o,none⟩) n c) l){k:Nat}(hk:k≤l.length):bq enc s w B (.slice (some ⟨g,o+k*s,none⟩) (n-k) (c-k)) (l.drop k):=by
 obtain⟨p',c',e,h1,h2,h3⟩:=h;simp only[Value.slice.injEq]at e;obtain⟨rfl,rfl,rfl⟩:=e;have hl:(l.drop k).length=l.length-k:=List.length_drop;refine⟨_,c-k,by rw[hl],by rw[hl];omega,by omega,fun hn=>?_⟩;have h0:0<(l.drop k).length:=List.length_pos_iff.2 hn;obtain⟨g',o',e',hg,hc⟩:=h3 (by intro e;subst e;simp at h0);simp only[Option.some.injEq,Addr.mk.injEq,and_true]at e';obtain⟨rfl,rfl⟩:=e';refine⟨g,o+k*s,rfl,hg,fun j a hj q u hu=>?_⟩;rw[List.getElem?_drop]at hj;have:=hc (k+j) a hj q u hu;rw[Nat.add_mul]at this;rw[←this];congr 2;omega
theorem bq.fresh{w:World}{g:Nat}{e:TypeId}{l:List α}{fz:Nat×Nat}(hE:bD enc s l)(hs:0<s)(h:w.heap[g]?=some (.cells (l.flatMap enc).toArray e fz)){c:Nat}(hc:l.length≤c)(hm:c≤maxLen):bq enc s w (g+1) (.slice (some ⟨g,0,none⟩) l.length c) l:=by
 refine⟨_,c,rfl,hc,hm,fun _=>⟨g,0,rfl,by omega,fun j a hj k u hu=>?_⟩⟩;have hk:k<s:=by
  have:=(List.getElem?_eq_some_iff.1 hu).1;rwa[(hE a (List.mem_of_getElem? hj)).1]at this
 have hg:=q_ hE hj hk;rw[hu]at hg;rw[Nat.zero_add];unfold World.cell?;simp[h,hg]
theorem aA.shape{e:TypeId}{w:World}{base:Nat}{v:Value}{l:List α}(h:aA enc e s w base v l):∃p c,v=.slice p l.length c∧l.length≤c∧c≤maxLen:=by
 rcases h.2 with⟨h1,h2⟩|⟨g,cap,cur,h1,_,_,h2,h3,_⟩
 ·exact⟨none,0,by rw[h1,h2],by omega,Nat.zero_le _⟩
 ·exact⟨_,cap,h1,h2,h3⟩
theorem aA.lt{e:TypeId}{w:World}{base:Nat}{v:Value}{l:List α}(h:aA enc e s w base v l){k:Nat}(hk:v.ownBlock=some k):base≤k∧k<w.heap.size:=by
 rcases h.2 with⟨h1,_⟩|⟨g,cap,cur,h1,hb,hh,_⟩
 ·subst h1;simp[Value.ownBlock]at hk
 ·subst h1;obtain rfl:g=k:=by simpa[Value.ownBlock] using hk
  exact⟨hb,(Qg hh)⟩
theorem aA.nil(e:TypeId)(w:World)(base:Nat):aA enc e s w base (.slice none 0 0) ([]:List α):=⟨by simp,.inl ⟨rfl,rfl⟩⟩
theorem aA.same{e:TypeId}{w w':World}{base:Nat}{v:Value}{l:List α}(h:aA enc e s w base v l)(hk:∀k,v.ownBlock=some k→w'.heap[k]?=w.heap[k]?):aA enc e s w' base v l:=oA h hk
theorem aA.base{e:TypeId}{w:World}{base base':Nat}{v:Value}{l:List α}(h:aA enc e s w base v l)(hb:∀k,v.ownBlock=some k→base'≤k):aA enc e s w base' v l:=Ad h hb
theorem aA.below{e:TypeId}{w w':World}{base:Nat}{v:Value}{l:List α}(h:aA enc e s w base v l)(hb:Below w.heap.size w w'):aA enc e s w' base v l:=h.same fun k hk=>hb.block k (h.lt hk).2
theorem aA.row{e:TypeId}{w:World}{base:Nat}{v:Value}{l:List α}(hE:bD enc s l)(h:aA enc e s w base v l):bq enc s w w.heap.size v l:=by
 obtain⟨h0,h1|⟨g,cap,cur,rfl,hb,hh,h2,h3,h4,h5⟩⟩:=id h
 ·obtain⟨rfl,h2⟩:=h1;obtain rfl:=List.eq_nil_of_length_eq_zero h2;exact bq.nil _ _ _ _ (Nat.zero_le _)
 ·refine⟨_,cap,rfl,h2,h3,fun hn=>⟨g,0,rfl,(Qg hh),fun j a hj k u hu=>?_⟩⟩;have hk:k<s:=by
   have:=(List.getElem?_eq_some_iff.1 hu).1;rwa[(hE a (List.mem_of_getElem? hj)).1]at this
  have hg:=q_ hE hj hk;rw[hu]at hg;have hlt:j*s+k<l.length*s:=by
   have:=(List.getElem?_eq_some_iff.1 hg).1;rw[bH hE]at this;exact this
  rw[Nat.zero_add,World.ownsRow.cellAt h _ hlt,hg]
structure dz(enc:α→List Value)(e:TypeId)(s:Nat)(w:World)(base:Nat)(v:Value)(l xs:List α)(v':Value)(w':World):Prop where
 own:aA enc e s w' base v' (l++xs)
 grown:w.grownBy w' v.ownBlock
 at_:v'.ownBlock=v.ownBlock∨v'.ownBlock=some w.heap.size
theorem dz.other{e:TypeId}{w w':World}{base:Nat}{v v':Value}{l xs:List α}(h:dz enc e s w base v l xs v' w'){k:Nat}(hk:k<w.heap.size)(hn:v.ownBlock≠some k):w'.heap[k]?=w.heap[k]?:=h.grown.block k hk (fun e=>hn e.symm)
theorem dz.place{e:TypeId}{w w':World}{base:Nat}{v v':Value}{l xs:List α}(h:dz enc e s w base v l xs v' w'){k:Nat}(hk:k<w.heap.size)(hn:v.ownBlock≠some k):v'.ownBlock≠some k:=by
 intro e
 rcases h.at_ with h1|h1
 ·exact hn (h1▸e)
 ·rw[h1]at e;have:=Option.some.inj e;omega
theorem dz.aX{e:TypeId}{w0 w w':World}{base:Nat}{v v':Value}{l xs:List α}{S:Nat→Prop}(h:dz enc e s w base v l xs v' w')(ht:ax S w0 w)(hs:∀k,v.ownBlock=some k→k<w0.heap.size→S k):ax S w0 w':=ht.grown h.grown hs
theorem dz.bL{e:TypeId}{w0 w w':World}{base B:Nat}{v v':Value}{l xs:List α}(h:dz enc e s w base v l xs v' w')(hb:Below B w0 w)(hB:B≤w.heap.size)(hs:∀k,v.ownBlock=some k→B≤k):Below B w0 w':=hb.grown h.grown hB hs
theorem kr{sl e:TypeId}(T:vq sl e s)(w:World)(v:Value)(p:Option Addr)(n c c':Nat)(hv:v=.slice p n c)(hc:n≤c)(ty:TypeId) :
 (Builtin.append_ #[sl,sl] ty #[v,.slice none 0 c']).run Tryz.prog w=.ok v w:=by
 subst hv;obtain⟨wP,⟨i,z,hi,hz,hs,hzs,hby⟩,hpos⟩:=T;unfold Builtin.append_;have hsz:(Go.sizeOf e).run Tryz.prog w=.ok s w:=by rw[←hs];simp[Go.sizeOf,typeInfo,Sem.run,hi,Result.andThen]
 simp[go_sem,run_underlying wP,wP,hi,hz,hs,hby,hc,hsz,Result.andThen];cases p <;> rfl
theorem dI{sl e:TypeId}(T:vq sl e s){w:World}{base:Nat}{v:Value}{l:List α}(h:aA enc e s w base v l)(hb:base≤w.heap.size)(ty:TypeId){B:Nat}{vx:Value}{xs:List α}(hx:bq enc s w B vx xs)(hE:bD enc s xs)(hn:l.length+xs.length≤1000000000) :
 ∃v' w',(Builtin.append_ #[sl,sl] ty #[v,vx]).run Tryz.prog w=.ok v' w'∧dz enc e s w base v l xs v' w':=by
 obtain⟨p,c,rfl,h1,h2,h3⟩:=hx;cases hxs:xs with
 | nil =>
  subst hxs;cases p with
  | none =>
   obtain⟨pv,cv,ev,hc,_⟩:=h.shape;exact⟨v,w,kr T w v pv l.length cv _ ev hc ty,by rw[List.append_nil];exact h,⟨rfl,rfl,rfl,Nat.le_refl _,fun _ _ _=>rfl⟩,.inl rfl⟩
  | some ad =>
   obtain⟨wP,⟨i,z,hi,hz,hs,hzs,hby⟩,hpos⟩:=T;obtain⟨v',w',hr,hown,hg,_,qx⟩:=run_append_own_at (P:=Tryz.prog) w base sl ty e i z s i.bytes wP hi hz hs rfl hzs hpos v l.length (l.flatMap enc) h ad 0 c [] (by simp) (fun j u hu=>by simp at hu) (fun u hu=>by simp at hu) (by unfold maxLen;simp at hn;omega) (by
    simp at hn
    refine Nat.le_trans (Nat.mul_le_mul hn hby) (by decide)) hb
   refine⟨v',w',hr,?_,hg,qx⟩;unfold aA;rw[List.append_nil];simpa using hown
 | cons x0 Q5 =>
  subst hxs;obtain⟨g,o,rfl,hg,hc⟩:=h3 (by simp);obtain⟨wP,⟨i,z,hi,hz,hs,hzs,hby⟩,hpos⟩:=T;have hfl:=bH hE;obtain⟨v',w',hr,hown,hg,_,qx⟩:=run_append_own_at (P:=Tryz.prog) w base sl ty e i z s i.bytes wP hi hz hs rfl hzs hpos v l.length (l.flatMap enc) h ⟨g,o,none⟩ (x0::Q5).length c ((x0::Q5).flatMap enc) hfl (fun j u hu=>by
   have hj:=(List.getElem?_eq_some_iff.1 hu).1
   rw[hfl]at hj
   obtain⟨q,k,a,rfl,hk,hq⟩:=AH hpos hj
   rw[q_ hE hq hk]at hu
   have:=hc q a hq k u hu
   rw[Addr.add_lit]
   exact this) (fun u hu=>by
   obtain⟨a,ha,hu⟩:=List.mem_flatMap.1 hu
   exact(hE a ha).2 u hu) (by unfold maxLen;omega) (by refine Nat.le_trans (Nat.mul_le_mul hn hby) (by decide)) hb
  refine⟨v',w',hr,?_,hg,qx⟩;unfold aA;rw[List.length_append,List.flatMap_append];exact hown
theorem ay{sl e:TypeId}(T:vq sl e s){w:World}{ops:Array Oper}{rest:List Oper}{o:Oper}{a:Act}{Q:Exit→Act→World→Prop}(hgd:o.guard=none)(x y:Operand)
 (ho:o.op=.call { callee:=.builtin .append,args:=#[x,y],argTypes:=#[sl,sl] }){base:Nat}{v:Value}{l:List α}(hs:a.eval x=v)(hown:aA enc e s w base v l)(hb:base≤w.heap.size)
 {B:Nat}{vx:Value}{xs:List α}(hx:a.eval y=vx)(hrow:bq enc s w B vx xs)(hE:bD enc s xs)(hn:l.length+xs.length≤1000000000)
 (h:∀v' w',dz enc e s w base v l xs v' w'→wpList Tryz.prog ops Q rest (a.put o.dst v') w'):wpList Tryz.prog ops Q (o::rest) a w:=by
 refine wpList_plain hgd fun K hK=>?_;obtain⟨v',w',hr,h2⟩:=dI T hown hb o.type hrow hE hn;unfold Oper.wp execOp;simp only[ho,resolve,invoke,builtin,Sem.run_bind,Sem.run_pure,Result.andThen_ok,List.map_toArray,List.map_cons,List.map_nil,hs,hx,hr];exact hK _ _ (h v' w' h2)
end
end rec
namespace tb
open Go.RowKit mem rec tm names
theorem aG{B:Nat}{a b:World}(h:Below B a b)(o:Obj)(hB:B≤b.heap.size:=by omega):Below B a (b.alloc o):=h.alloc hB o
theorem Hr{B:Nat}{a b:World}(h:Below B a b)(n:Nat):Below B a (b.drewN n):=⟨h.os,h.tape,h.output,h.size,h.block⟩
theorem aZ{B:Nat}{a b:World}(h:Below B a b):Below B a b.drew:=⟨h.os,h.tape,h.output,h.size,h.block⟩
theorem K3{w w1 w2:World}(h:Below w.heap.size w w1)(k:Below w1.heap.size w1 w2):Below w.heap.size w w2:=h.trans (k.mono h.size)
theorem aF(w:World)(o:Obj):(w.alloc o).heap[w.heap.size]?=some o:=(MapKept.heap_alloc w o).1
def bw(b:UInt8):List Value:=[.int .u8 b.toNat]
theorem aU(l:List UInt8):bD bw 1 l:=fun a _=>⟨rfl,fun u hu=>by simp[bw]at hu;subst hu;rfl⟩
theorem pI(l:List UInt8):l.flatMap bw=Lib.byteCells l:=by
 induction l with
 | nil=>rfl
 | cons a l ih=>rw[List.flatMap_cons,ih];rfl
theorem Hs:(Tryz.prog.info? 5).map (fun i=>(i.zero,i.size,i.bytes))=some (some (.int .u8 0),1,1):=by kernel_rfl
theorem rj{sl e s b:Nat}{z:Value}(hu:Tryz.prog.underlying sl=some (.slice e))(hi:(Tryz.prog.info? e).map (fun i=>(i.zero,i.size,i.bytes))=some (some z,s,b))(hz:z.cells.size=s)(hs:0<s)(hb:b≤10000):vq sl e s:=by
 cases hq:Tryz.prog.info? e with
 | none=>rw[hq]at hi;simp at hi
 | some i =>
  rw[hq]at hi;simp only[Option.map_some,Option.some.injEq,Prod.mk.injEq]at hi;exact⟨hu,⟨i,z,hq,hi.1,hi.2.1,hz,by omega⟩,hs⟩
theorem rW:vq 86 5 1:=rj Tryz.underlying86 Hs rfl (by decide) (by decide)
theorem tT{α:Type}{enc:α→List Value}{sl e k:Nat}(T:vq sl e k){w:World}{ops:Array Oper}{o:Oper}{a:Act}{K:Act→World→Prop}{Q:Exit→Act→World→Prop}{E:Prop}(hgd:o.guard=none)(x y:Operand)
 (ho:o.op=.call { callee:=.builtin .append,args:=#[x,y],argTypes:=#[sl,sl] }){base:Nat}{v:Value}{l:List α}(hs:a.eval x=v)(hown:aA enc e k w base v l)(hb:base≤w.heap.size)
 {B:Nat}{vx:Value}{xs:List α}(hx:a.eval y=vx)(hrow:bq enc k w B vx xs)(hE:bD enc k xs)(hn:l.length+xs.length≤1000000000)
 (hK:∀v' w',dz enc e k w base v l xs v' w'→K (a.put o.dst v') w'):if Region.wanted o (yielded ops a.tmps)=true then Oper.wp Tryz.prog o a w K Q else E:=by
 have hw:Region.wanted o (yielded ops a.tmps)=true:=by simp[Region.wanted,hgd]
 rw[if_pos hw];obtain⟨v',w',hr,h2⟩:=dI T hown hb o.type hrow hE hn;unfold Oper.wp execOp;simp only[ho,resolve,invoke,builtin,Sem.run_bind,Sem.run_pure,Result.andThen_ok,List.map_toArray,List.map_cons,List.map_nil,hs,hx,hr];exact hK _ _ h2
theorem vw{w:World}{base:Nat}{v:Value}{l:List UInt8}(h:aA bw 5 1 w base v l)(hb:base≤w.heap.size)(ty:TypeId)(s:ByteArray)(hn:l.length+s.size≤1000000000) :
 ∃v' w',(Builtin.append_ #[86,9] ty #[v,.string s]).run Tryz.prog w=.ok v' w'∧dz bw 5 1 w base v l (kx s) v' w':=by
 obtain⟨i,z,hi,hz,hs,hzs,hby⟩:=rW.info;have h0:=Hs;rw[hi]at h0;simp only[Option.map_some,Option.some.injEq,Prod.mk.injEq]at h0;obtain⟨Ul,hs',hb'⟩:=h0;have hcells:(kx s).flatMap bw=Lib.strCells s:=by rw[pI];rfl
 have hlen:((l++kx s).flatMap bw).length=(l++kx s).length*1:=bH (aU _);have hxl:(l.flatMap bw).length=l.length:=by simpa using bH (aU l)
 have grown:∀(old:Nat),old<l.length+s.size→∀(vv:Value),
  dz bw 5 1 w base vv l (kx s) (.slice (some ⟨w.heap.size,0,none⟩) (l.length+s.size) (grownCap w (l.length+s.size) old 5)) (w.drew.alloc (.cells ((l.flatMap bw).toArray++(Lib.strCells s).toArray++Builtin.zeroCells (Value.int .u8 0).cells (grownCap w (l.length+s.size) old 5-(l.length+s.size))) 5)):=by
  intro old ho vv;have hge:=grownCap_ge w (l.length+s.size) old 5;have gW:grownCap w (l.length+s.size) old 5≤maxLen:=grownCap_le_maxLen w (l.length+s.size) old 5 (by unfold maxLen;omega)
  refine⟨⟨hlen,.inr ⟨w.heap.size,_,_,by rw[List.length_append,jd],hb,(MapKept.heap_alloc w.drew _).1,by rw[List.length_append,jd];exact hge,gW,?_,?_⟩⟩,⟨rfl,rfl,rfl,by simp,fun k hk _=>Below.heap_alloc _ _ _ hk⟩,.inr rfl⟩
  ·have bT:(Value.int IntKind.u8 0).cells.size=1:=rfl;simp only[Array.size_append,List.size_toArray,size_zeroCells,bT,hxl,Lib.strCells_length];omega
  ·simp only[Array.toList_append,List.append_assoc];rw[←List.append_assoc,←hlen,List.flatMap_append,hcells];exact List.take_left
 rcases h.2 with⟨rfl,Vx⟩|⟨g,cap,cur,rfl,mC,hg,hnc,gW,hcs,vA⟩
 ·obtain rfl:=List.eq_nil_of_length_eq_zero Vx
  by_cases hm:s.size=0
  ·have hn0:kx s=[]:=List.eq_nil_of_length_eq_zero (by rw[jd];exact hm);refine⟨.slice none 0 0,w,?_,by rw[hn0];exact h,⟨rfl,rfl,rfl,Nat.le_refl _,fun _ _ _=>rfl⟩,.inl rfl⟩;have hf:=Lib.run_firstCells_string (P:=Tryz.prog) w 1 s;rw[hm]at hf;have hn1:Lib.strCells s=[]:=List.eq_nil_of_length_eq_zero (by rw[Lib.strCells_length];exact hm);simp[Builtin.append_,run_underlying Tryz.underlying86,run_underlying Tryz.underlying9,sizeOf,typeInfo,hi,hs',Builtin.lenOf,hm,hf]
  ·have hr:=run_append_nil_string (P:=Tryz.prog) w 86 9 ty 5 i (.int .u8 0) Tryz.underlying86 Tryz.underlying9 hi Ul s (by omega) (by simp at hn;omega) (by rw[hb'];simp at hn;omega);have vh:=grown 0 (by simp;omega) (.slice none 0 0);simp only[List.length_nil,Nat.zero_add,List.flatMap_nil,Array.empty_append]at vh;have e1:(s.data.map fun b=>Value.int .u8 b.toNat)=(Lib.strCells s).toArray:=by
    apply Array.ext';simp[Lib.strCells]
   rw[e1]at hr;exact⟨_,_,hr,by simpa using vh⟩
 ·by_cases hroom:l.length+s.size≤cap
  ·have aae:cur.size=cap:=by simpa using hcs
   have hr:=Lib.run_append_room_string (P:=Tryz.prog) w 86 9 ty 5 i Tryz.underlying86 Tryz.underlying9 hi hs' g l.length cap cur hg s hroom (by omega)
   refine⟨_,_,hr,⟨hlen,.inr ⟨g,cap,_,by rw[List.length_append,jd],mC,setRow_heap w g cur _ 5 _ hg,by rw[List.length_append,jd];exact hroom,gW,?_,?_⟩⟩,⟨rfl,rfl,rfl,by simp,fun k _ hk=>setRow_other w g k _ (fun e=>hk (by simp[Value.ownBlock,e]))⟩,.inl rfl⟩
   ·simp only[List.size_toArray,List.length_append,List.length_take,List.length_drop,Array.length_toList,Lib.strCells_length];omega
   ·have ht':cur.toList.take l.length=l.flatMap bw:=by simpa using vA
    rw[ht',←hlen,List.flatMap_append,hcells];exact List.take_left
  ·have holds:∀j u,(l.flatMap bw)[j]?=some u→w.cell? ((⟨g,0,none⟩:Addr).add j)=some u:=h.cells (g:=g) rfl;have hr:=Lib.run_append_grow_string (P:=Tryz.prog) w 86 9 ty 5 i (.int .u8 0) Tryz.underlying86 Tryz.underlying9 hi Ul ⟨g,0,none⟩ l.length cap (l.flatMap bw) (by rw[hs'];simpa using hxl) holds s (by omega) (by omega) (by rw[hb'];exact growslice_fits (by omega) (by omega));exact⟨_,_,hr,grown cap (by omega) _⟩
theorem fX{w:World}{ops:Array Oper}{rest:List Oper}{o:Oper}{a:Act}{Q:Exit→Act→World→Prop}(hgd:o.guard=none)(x y:Operand)
 (ho:o.op=.call { callee:=.builtin .append,args:=#[x,y],argTypes:=#[86,9] }){base:Nat}{v:Value}{l:List UInt8}(hs:a.eval x=v)(hown:aA bw 5 1 w base v l)(hb:base≤w.heap.size)
 {s:ByteArray}(hx:a.eval y=.string s)(hn:l.length+s.size≤1000000000)
 (h:∀v' w',dz bw 5 1 w base v l (kx s) v' w'→wpList Tryz.prog ops Q rest (a.put o.dst v') w'):wpList Tryz.prog ops Q (o::rest) a w:=by
 refine wpList_plain hgd fun K hK=>?_;obtain⟨v',w',hr,h2⟩:=vw hown hb o.type s hn;unfold Oper.wp execOp;simp only[ho,resolve,invoke,builtin,Sem.run_bind,Sem.run_pure,Result.andThen_ok,List.map_toArray,List.map_cons,List.map_nil,hs,hx,hr];exact hK _ _ (h v' w' h2)
theorem Ht{α:Type}{enc:α→List Value}{s:Nat}{S:Nat→Prop}{w w1:World}{B:Nat}{v:Value}{l:List α}(h:bq enc s w B v l)(ht:ax S w w1)(hB:B≤w.heap.size)(hn:∀g,v.ownBlock=some g→¬S g):bq enc s w1 B v l:=by
 obtain⟨p,c,rfl,h1,h2,h3⟩:=h;refine⟨p,c,rfl,h1,h2,fun hne=>?_⟩;obtain⟨g,o,rfl,hg,hc⟩:=h3 hne;exact⟨g,o,rfl,hg,fun j a hj k u hu=>(World.cell?_of_block (w:=w) (w':=w1) (a:=⟨g,o+(j*s+k),none⟩) (ht.block g (by omega) (hn g rfl))).trans (hc j a hj k u hu)⟩
structure jh(w:World)(B b:Nat)(v:Value)(l:List UInt8):Prop where
 obj:∃p,(p=.pointer none∨p=.pointer (some ⟨b,0,none⟩))∧w.heap[b]?=some (.cells #[p,v] 120)
 row:aA bw 5 1 w B v l
 ne:v.ownBlock≠some b
 hb:B≤b
theorem jh.lt{w:World}{B b:Nat}{v:Value}{l:List UInt8}(h:jh w B b v l):b<w.heap.size:=by
 obtain⟨p,_,h⟩:=h.obj;exact(Qg h)
theorem jh.same{w w':World}{B b:Nat}{v:Value}{l:List UInt8}(h:jh w B b v l)(h1:w'.heap[b]?=w.heap[b]?)(h2:∀k,v.ownBlock=some k→w'.heap[k]?=w.heap[k]?):jh w' B b v l:=by
 obtain⟨p,hp,ho⟩:=h.obj;exact⟨⟨p,hp,h1.trans ho⟩,h.row.same h2,h.ne,h.hb⟩
theorem jh.below{w w':World}{B b:Nat}{v:Value}{l:List UInt8}(h:jh w B b v l)(hb:Below w.heap.size w w'):jh w' B b v l:=h.same (hb.block _ h.lt) (fun k hk=>hb.block k (h.row.lt hk).2)
structure jR(b:Nat)(v v':Value)(w w':World):Prop where
 aX:ax (fun k=>k=b∨v.ownBlock=some k) w w'
 place:∀k,v'.ownBlock=some k→v.ownBlock=some k∨w.heap.size≤k
theorem jR.refl(b:Nat)(v:Value)(w:World):jR b v v w w:=⟨ax.refl _ _,fun k h=>.inl h⟩
theorem jR.trans{b:Nat}{v v' v'':Value}{w w' w'':World}(h:jR b v v' w w')(k:jR b v' v'' w' w''):jR b v v'' w w'' :=
 ⟨h.aX.trans k.aX (fun i hi hs=>by
  rcases hs with rfl|hs
  ·exact .inl rfl
  ·rcases h.place i hs with h1|h1
   ·exact .inr h1
   ·omega),fun i hi=>by
  rcases k.place i hi with h1|h1
  ·exact h.place i h1
  ·exact .inr (Nat.le_trans h.aX.size h1)⟩
theorem jR.grow{b:Nat}{v v':Value}{w w1 w':World}(hb:Below w.heap.size w w1)(h:jR b v v' w1 w'):jR b v v' w w' :=
 ⟨((ax.refl _ w).bJ hb (Nat.le_refl _)).trans h.aX (fun i _ hs=>hs),fun k hk=>by
  rcases h.place k hk with h1|h1
  ·exact .inl h1
  ·exact .inr (Nat.le_trans hb.size h1)⟩
theorem jR.after{b:Nat}{v v':Value}{w w1 w':World}(h:jR b v v' w w1)(hb:Below w1.heap.size w1 w'):jR b v v' w w' :=
 ⟨h.aX.bJ hb h.aX.size,h.place⟩
theorem jR.other{b:Nat}{v v':Value}{w w':World}(h:jR b v v' w w'){k:Nat}(hk:k<w.heap.size)(h1:k≠b)(h2:v.ownBlock≠some k):w'.heap[k]?=w.heap[k]? :=
 h.aX.block k hk (fun e=>by rcases e with e|e;exact h1 e;exact h2 e)
theorem jR.low{b B:Nat}{v v':Value}{w w':World}(h:jR b v v' w w')(hb:B≤b)(hv:∀k,v.ownBlock=some k→B≤k)(hB:B≤w.heap.size):Below B w w' :=
 h.aX.below (fun k hk=>by rcases hk with rfl|hk;exact hb;exact hv k hk) hB
def wE(B b:Nat)(v:Value)(l:List UInt8)(w w':World):Prop:=∃v',jh w' B b v' l∧jR b v v' w w'
theorem di{w:World}{z:Nat}{a b:Value}{t:TypeId}(h:w.heap[z]?=some (.cells #[a,b] t)):w.cell? ⟨z,0,none⟩=some a∧w.cell? ⟨z,1,none⟩=some b∧∀o,w.frozen? ⟨z,o,none⟩=false:=by
 refine⟨?_,?_,fun o=>?_⟩
 ·simp only[World.cell?,h];rfl
 ·simp only[World.cell?,h];rfl
 ·simp only[World.frozen?,h];simp
theorem K4:liesAt Tryz.prog Tryz.prog.depth 120 (2/Tryz.prog.cellsOf 120) 0 118 1=true:=by kernel_rfl
theorem K5:(Tryz.prog.info? 118).map (·.size)=some 2:=by kernel_rfl
theorem Ew{w:World}{B b:Nat}{v:Value}{l:List UInt8}(h:jh w B b v l):Calls Tryz.prog 122 #[.pointer (some ⟨b,0,none⟩)] w fun e w'=>e=.returned (.tuple #[])∧w'.heap[b]?=some (.cells #[.pointer (some ⟨b,0,none⟩),v] 120)∧ax (fun k=>k=b) w w'∧w'.heap.size=w.heap.size:=by
 obtain⟨j,hj,hjs⟩:=Option.map_eq_some_iff.1 K5;obtain⟨p,hp,ho⟩:=h.obj;clear h;obtain⟨c0,c1,cf⟩:=di ho;have hsh:w.shape? b=some (120,2):=by simp[World.shape?,ho]
 have HO:=Qh ho;clear ho
 rcases hp with rfl|rfl
 ·go_enter Tryz.func122,Tryz.ntmps122;go_wp2
  rw[Lib.run_to_unsafe w ⟨b,0,none⟩ Tryz.underlying116 Tryz.underlying166 hj (by rw[hjs];decide) hsh (Nat.zero_lt_succ 1)];simp only[Result.andThen];rw[Oper.upon_value];go_wp2
  rw[run_callFunc_extern Tryz.func137 (by kernel_rfl) (by kernel_rfl) (by kernel_rfl) (e:=Extern.AbiNoEscape.same) (by kernel_rfl)];rw[Lib.run_noEscape];simp only[Result.andThen];rw[Oper.upon_value];go_wp2
  rw[Lib.run_from_unsafe w ⟨b,0,none⟩ Tryz.underlying166 Tryz.underlying116 hj hsh K4];simp only[Result.andThen];rw[Oper.upon_value];go_wp2
  go_end0
  exact⟨rfl,heap_setCell_same w b 0 _ 120 _ HO.out,(ax.refl _ w).setCell ⟨b,0,none⟩ _ (fun _=>rfl),by simp⟩
 ·go_enter Tryz.func122,Tryz.ntmps122;go_wp2
  rw[Lib.run_neq_ptr_same w _ Tryz.underlying116 hj];go_wp2
  go_end0
  exact⟨rfl,HO.out,ax.refl _ _,rfl⟩
end tb
end Go.Proofs.YtfbggmbmgohiiaaGreat
