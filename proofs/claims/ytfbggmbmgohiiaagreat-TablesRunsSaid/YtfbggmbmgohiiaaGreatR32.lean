/- Skip,TcB,TcC,TcD. No condition beyond theirs. -/
import Derived.Test.YtfbggmbmgohiiaaGreatR30
set_option linter.unusedSimpArgs false
set_option linter.unusedVariables false
set_option maxHeartbeats 4000000
set_option maxRecDepth 100000
namespace Go.Proofs.YtfbggmbmgohiiaaGreat
namespace rec
open Go
end rec
namespace tb
open Go.RowKit mem rec tm names
theorem EV{α:Type}{A P X0 X R:List α}{n p:Nat}(h:A.take n=P++X0++R)(hp:P.length=p)(hX:X0.length=X.length):(put A p X).take n=P++X++R:=by
 have hl:P.length+X0.length+R.length=min n A.length:=by rw[←List.length_take,h];simp only[List.length_append]
 have e:A=P++X0++(R++A.drop n):=by rw[←List.append_assoc,←h,List.take_append_drop]
 by_cases hn:n≤A.length
 ·rw[Nat.min_eq_left hn]at hl;unfold put;generalize A.drop n=D at e;subst e;rw[List.append_assoc P X0,List.take_left' hp,←List.append_assoc,List.drop_left' (by rw[List.length_append];omega),←List.append_assoc];exact List.take_left' (by simp only[List.length_append];omega)
 ·have hd:A.drop n=[]:=List.drop_of_length_le (by omega);have hA:A.length=P.length+X0.length+R.length:=by rw[e,hd];simp only[List.length_append,List.length_nil];omega
  unfold put;generalize A.drop n=D at e hd;subst hd;rw[List.append_nil]at e;subst e;rw[List.append_assoc P X0,List.take_left' hp,←List.append_assoc,List.drop_left' (by rw[List.length_append];omega)];exact List.take_of_length_le (by simp only[List.length_append]at*;omega)
structure bZ(w0 w:World)(F:Nat→Prop)(n:Nat)(u:Value)(l:List (Tm n)):Prop where
 items:bl w F n u l
 typed:Typed w F
 inr:∀g,F g→w0.heap.size≤g∧g<w.heap.size
section
variable {n:Nat}{w0 w w':World}{F S:Nat→Prop}{u:Value}{l:List (Tm n)}
theorem bZ.of(h:uO w w' F n u l)(hw:w0.heap.size≤w.heap.size):bZ w0 w' F n u l:=⟨h.items,h.typed,fun g hg=>⟨Nat.le_trans hw (h.inr g hg).1,(h.inr g hg).2⟩⟩
theorem bZ.aX(h:bZ w0 w F n u l)(ht:ax S w w')(hS:∀k,S k→k<w0.heap.size):bZ w0 w' F n u l:=by
 have hs:∀g,F g→w'.heap[g]?=w.heap[g]?:=fun g hg=>ht.block g (h.inr g hg).2 (fun e=>by have:=hS g e;have:=(h.inr g hg).1;omega);exact⟨h.items.mono hs (fun _ hg=>hg),h.typed.same hs,fun g hg=>⟨(h.inr g hg).1,Nat.lt_of_lt_of_le (h.inr g hg).2 ht.size⟩⟩
theorem bZ.below(h:bZ w0 w F n u l)(hb:Below w.heap.size w w'):bZ w0 w' F n u l:=h.aX (S:=fun _=>False) ((ax.refl _ _).bJ hb (Nat.le_refl _)) (fun _ f=>f.elim)
end
theorem OP(w:World)(a:Addr)(v:Value)(h:w.cell? a=some v):(loadVar 96 a).run Tryz.prog w=.ok v w:=by
 go_simp
theorem LA(w:World)(a:Addr)(v0 v:Value)(hv:v.oneCell'=true)(h:w.cell? a=some v0)(hf:w.frozen? a=false):(storeVar 96 a v).run Tryz.prog w=.ok () (w.setCell a v):=by
 have hi:(Tryz.prog.info? 96).map (·.size)=some 1:=by kernel_rfl
 cases hq:Tryz.prog.info? 96 with
 | none=>simp[hq]at hi
 | some ie =>
  have hs:ie.size=1:=by simpa[hq] using hi
  have hc:v.cells=#[v]:=by cases v <;> first|rfl|simp[Value.oneCell']at hv
  have ha:a.add 0=a:=by cases a;simp[Addr.add]
  simp[storeVar,hc,sizeOf,typeInfo,hq,hs,storeCells,run_store Tryz.prog _ _ v _ hv,ha,h,hf,Result.andThen]
theorem aR{w w':World}{ops:Array Oper}{o:Oper}{a:Act}{K:Act→World→Prop}{Q:Exit→Act→World→Prop}{E:Prop}(hw:Region.wanted o (yielded ops a.tmps)=true)(ty:TypeId)(x y:Operand)
 (ho:o.op=.store ty x y){p:Addr}{v:Value}(hx:a.eval x=.pointer (some p))(hy:a.eval y=v)(hr:(storeVar ty p v).run Tryz.prog w=.ok () w')
 (hK:K (a.put o.dst undef) w'):if Region.wanted o (yielded ops a.tmps)=true then Oper.wp Tryz.prog o a w K Q else E:=by
 rw[if_pos hw];unfold Oper.wp execOp;simp only[ho,hx,hy,Instr.storeAt,Instr.sureAddr,Sem.run_bind,Sem.run_pure,Result.andThen_ok,hr];exact hK
section
variable {N:Nat}{w:World}{B:Nat}{vr:Value}{l:List (j_ N)}
theorem F7{i:Nat}(hi:i<l.length):l.flatMap bC=((l.take i).flatMap bC++aE l[i].k.f l[i].uk)++aE l[i].v.f l[i].uv++([.int .u32 l[i].h]++(l.drop (i+1)).flatMap bC):=by
 have e:l=l.take i++l[i]::l.drop (i+1):=by rw[List.getElem_cons_drop,List.take_append_drop]
 conv=>lhs;rw[e]
 rw[List.flatMap_append,List.flatMap_cons];unfold bC;simp only[List.append_assoc]
theorem Dh{i:Nat}(hi:i<l.length)(v:Tm (N+1))(u:Value):(l.set i { l[i]with v:=v,uv:=u }).flatMap bC=((l.take i).flatMap bC++aE l[i].k.f l[i].uk)++aE v.f u++([.int .u32 l[i].h]++(l.drop (i+1)).flatMap bC):=by
 rw[List.set_eq_take_append_cons_drop,if_pos hi,List.flatMap_append,List.flatMap_cons];unfold bC;simp only[List.append_assoc]
theorem F8(hown:aA bC 108 19 w B vr l)(hE:bD bC 19 l){i:Nat}(hi:i<l.length){g:Nat}{n c:Nat}(jL:vr=.slice (some ⟨g,0,none⟩) n c)(v:Tm (N+1)){u:Value}(hu:u.oneCell'=true) :
 ∃w',(storeVar 24 ⟨g,i*19+9,none⟩ (aj v.f u)).run Tryz.prog w=.ok () w'∧aA bC 108 19 w' B vr (l.set i { l[i]with v:=v,uv:=u })∧ax (fun k=>vr.ownBlock=some k) w w':=by
 obtain⟨g',cap,cur,hv,mC,hg,hnc,gW,hcs,tX⟩:=kP hown (by omega);subst jL;simp only[Value.slice.injEq,Option.some.injEq,Addr.mk.injEq,and_true,true_and]at hv;obtain⟨rfl,rfl,rfl⟩:=hv;have hlen:(aE v.f u).length=9:=rfl;have yF:cur.toList.length=c*19:=by rw[Array.length_toList];exact hcs
 have hst:=run_storeCells_at Tryz.prog g (i*19+9) 108 (aE v.f u) 0 cur w hg (by rw[hlen,hcs];omega) (aH hu);simp only[Nat.add_zero]at hst;have IK:(Tryz.prog.info? 24).map (·.size)=some 9:=by kernel_rfl
 have hP:((l.take i).flatMap bC++aE l[i].k.f l[i].uk).length=i*19+9:=by
  rw[List.length_append,bH (hE.sub (fun a ha=>List.mem_of_mem_take ha)),List.length_take,Nat.min_eq_left (by omega)];rfl
 have WR:cur.toList.take (l.length*19)=((l.take i).flatMap bC++aE l[i].k.f l[i].uk)++aE l[i].v.f l[i].uv++([.int .u32 l[i].h]++(l.drop (i+1)).flatMap bC):=tX.trans (F7 hi);have hput:=EV (X:=aE v.f u) WR hP rfl;have yX:bD bC 19 (l.set i { l[i]with v:=v,uv:=u }):=fun r hr=>by
  rcases List.mem_or_eq_of_mem_set hr with h|h
  ·exact hE r h
  ·subst h;refine⟨rfl,fun x hx=>?_⟩;unfold bC at hx;have h1:=(hE _ (List.getElem_mem hi)).2
   rcases List.mem_append.1 hx with hx|hx
   ·exact h1 x (by unfold bC;exact List.mem_append_left _ hx)
   rcases List.mem_append.1 hx with hx|hx
   ·exact aH hu x hx
   ·simp at hx;subst hx;rfl
 refine⟨w.setRow g (put cur.toList (i*19+9) (aE v.f u)).toArray,?_,⟨?_,.inr ⟨g,c,(put cur.toList (i*19+9) (aE v.f u)).toArray,by simp,mC,setRow_heap _ _ _ _ _ _ hg,by simpa using hnc,gW,?_,?_⟩⟩,⟨rfl,rfl,rfl,by simp[World.setRow],fun k hk hn=>setRow_other _ g k _ (fun e=>hn (by subst e;rfl))⟩⟩
 ·have hc:(aj v.f u).cells.toList=aE v.f u:=rfl;have eK:(aj v.f u).cells.size=9:=rfl;cases hq:Tryz.prog.info? 24 with
  | none=>simp[hq]at IK
  | some ie =>
   have hs:ie.size=9:=by simpa[hq] using IK
   unfold put;rw[hlen]at hst ⊢;simp[storeVar,sizeOf,typeInfo,hq,hs,hc,eK,hst,hlen]
 ·exact bH yX
 ·rw[List.size_toArray,nB (by rw[yF,hlen];omega),yF]
 ·rw[List.toList_toArray,List.length_set,Dh hi];exact hput
theorem oO(w:World)(o1 o2 o3:Obj){x1 x2 x3:List Value}{t1 t2 t3:TypeId}(e1:o1=.cells x1.toArray t1)(e2:o2=.cells x2.toArray t2)(e3:o3=.cells x3.toArray t3){S:Nat→Prop}(hS:∀k,S k→k<w.heap.size) :
 Below w.heap.size w (((w.alloc o1).alloc o2).alloc o3)∧∀W,ax S (((w.alloc o1).alloc o2).alloc o3) W→W.rangeAt w.heap.size 0 x1∧W.rangeAt (w.heap.size+1) 0 x2∧W.rangeAt (w.heap.size+2) 0 x3:=by
 obtain⟨h1,h2,h3⟩:=bI w o1 o2;have h4:=aF ((w.alloc o1).alloc o2) o3;have hs:((w.alloc o1).alloc o2).heap.size=w.heap.size+2:=by rw[World.size_alloc,World.size_alloc]
 rw[hs]at h4;have k1:=(Below.heap_alloc ((w.alloc o1).alloc o2) o3 w.heap.size (by omega)).trans h2;have k2:=(Below.heap_alloc ((w.alloc o1).alloc o2) o3 (w.heap.size+1) (by omega)).trans h3;refine⟨aG h1 o3 h1.size,fun W hW=>?_⟩;have hr:∀g (x:List Value) t,w.heap.size≤g→(((w.alloc o1).alloc o2).alloc o3).heap[g]?=some (.cells x.toArray t)→W.rangeAt g 0 x:=fun g x t hg hx j u hu=>by
  have hb:=(hW.block g (Qg hx) (fun e=>by have:=hS g e;omega)).trans hx;rw[cell_of_row W g (0+j) x.toArray t _ hb];simpa using hu
 exact⟨hr _ _ _ (Nat.le_refl _) (by rw[k1,e1]),hr _ _ _ (by omega) (by rw[k2,e2]),hr _ _ _ (by omega) (by rw[h4,e3])⟩
end
def wV{α:Type}(l:List α)(i:Nat)(a:α):List α:=l.take i++[a]++l.drop i
def wW{N:Nat}(l:List (j_ N))(i:Nat)(v:Tm (N+1))(u:Value):List (j_ N):=match l[i]? with
 | none=>l
 | some r=>l.set i { r with v:=v,uv:=u }
theorem yY{N:Nat}{l:List (j_ N)}{i:Nat}(hi:i<l.length)(v:Tm (N+1))(u:Value):wW l i v u=l.set i { l[i]with v:=v,uv:=u }:=by
 unfold wW;rw[List.getElem?_eq_getElem hi]
def zT{N:Nat}:Tm (N+1):=Tm.mk aY []
noncomputable def newRow{N:Nat}(k:Tm (N+1))(u:Value):j_ N:=⟨k,zT,cy k,u,aK⟩
noncomputable def dh{N:Nat}(t:ct N)(k:Tm (N+1))(u:Value):List (j_ N):=if iz t k then t.rows else wV t.rows (cG t k) (newRow k u)
def Ng{N:Nat}(t:ct N)(q:Nat):Prop:=q=t.b∨t.vr.ownBlock=some q
structure IL{N:Nat}(w:World)(B:Nat)(F:Nat→Prop)(t:ct N)(W:World)(F1:Nat→Prop)(vr:Value)(l:List (j_ N)):Prop where
 at_:fZ W B F1 { t with vr:=vr,rows:=l }
 aX:ax (Ng t) w W
 more:∀g,F g→F1 g
 ty:Typed W F1
 fl:∀g,F1 g→g<W.heap.size
 own:∀q,vr.ownBlock=some q→t.vr.ownBlock=some q∨w.heap.size≤q
 new:∀g,F1 g→F g∨w.heap.size≤g
def F_{N:Nat}(w:World)(B:Nat)(F:Nat→Prop)(t:ct N)(k:Tm (N+1))(W:World):Prop:=∃F1 uk vr,IL w B F t W F1 vr (dh t k uk)
def LB{N:Nat}(w:World)(B:Nat)(F:Nat→Prop)(t:ct N)(k v:Tm (N+1))(W:World):Prop:=∃F1 uk uv vr,IL w B F t W F1 vr (wW (dh t k uk) (cG t k) v uv)
section
variable {N:Nat}{w:World}{B:Nat}{F:Nat→Prop}{t:ct N}{k v:Tm (N+1)}
theorem oP{W:World}{G:Nat→Prop}(h:Typed W G){g:Nat}(hg:G g):dA W g=some 24:=by
 obtain⟨cur,M,h1,_⟩:=h g hg;exact br h1
theorem LC(h:fZ w B F t)(hty:Typed w F)(hfl:∀g,F g→g<w.heap.size)(hh:iz t k=true){W:World}(hb:Below w.heap.size w W):F_ w B F t k W:=by
 refine⟨F,aK,t.vr,?_,(ax.refl _ _).bJ hb (Nat.le_refl _),fun _ hg=>hg,hty.same (fun g hg=>hb.block g (hfl g hg)),fun g hg=>Nat.lt_of_lt_of_le (hfl g hg) hb.size,fun q hq=>.inl hq,fun q hq=>.inl hq⟩;unfold dh;rw[if_pos hh];exact h.below hb hfl
theorem EW(t:ct N)(vr:Value)(l:List (j_ N)):(vG t).toArray.setIfInBounds 19 vr=(vG { t with vr:=vr,rows:=l }).toArray:=by
 unfold vG aE;simp
theorem fp{W:World}{b o:Nat}{c:Array Value}{ty:TypeId}(h:W.heap[b]?=some (.cells c ty))(v:Value):(W.setCell ⟨b,o,none⟩ v).heap[b]?=some (.cells (c.setIfInBounds o v) ty):=heap_setCell_same W b o c ty v h
theorem IM(h:fZ w B F t)(hty:Typed w F)(hfl:∀g,F g→g<w.heap.size)(hB:B≤w.heap.size)(hlen:t.rows.length≤1000000)(hh:iz t k=false){W:World}(hb:Below w.heap.size w W){zv:Nat}{F1:Nat→Prop}{u:Value}
 (hN:bZ w W F1 N u k.items)(pq:w.heap.size≤zv)(hz:W.heap[zv]?=some (.cells (bC (newRow k u)).toArray 108)) :
 Calls Tryz.prog 60 #[t.vr,.int .i64 (cG t k),.slice (some ⟨zv,0,none⟩) 1 1] W fun e w'=>∃v',e=.returned v'∧v'.oneCell'=true∧ax (fun q=>t.vr.ownBlock=some q) W w'∧w'.cell? ⟨t.b,19,none⟩=some t.vr∧w'.frozen? ⟨t.b,19,none⟩=false∧F_ w B F t k (w'.setCell ⟨t.b,19,none⟩ v'):=by
 have hW:=h.below hb hfl;have WS:bD bC 19 [newRow k u]:=fun r hr=>⟨A7 r,fun x hx=>by
  obtain rfl:r=newRow k u:=by simpa using hr
  unfold bC at hx
  rcases List.mem_append.1 hx with hx|hx
  ·exact aH (l_ hN.items) x hx
  rcases List.mem_append.1 hx with hx|hx
  ·exact aH rfl x hx
  ·simp at hx;subst hx;rfl⟩
 have hvl:∀q,t.vr.ownBlock=some q→q<w.heap.size:=fun q hq=>(h.rows.lt hq).2;refine(IC hW.rows (Nat.le_trans hB hb.size) hlen hW.enc WS hz (fun e=>by have:=hvl _ e;omega) (lT t k)).mono ?_;rintro e w' ⟨v',rfl,hown,hT,hv⟩;have hone:v'.oneCell'=true:=by obtain⟨p,c,rfl,_,_⟩:=hown.shape;rfl
 have hne:t.vr.ownBlock≠some t.b:=fun e=>dX (br h.blk) (dW h.rows e) (by decide) rfl;have jU:w'.heap[t.b]?=some (.cells (vG t).toArray 98):=(hT.block _ hW.lt (fun e=>hne e)).trans hW.blk;obtain⟨_,_,_,kE,hfz⟩:=dN jU;refine⟨v',rfl,hone,hT,kE,hfz 19,?_⟩;have OQ:bZ w w' F1 N u k.items:=hN.aX hT (fun q hq=>hvl q hq);have hTw:ax (Ng t) w (w'.setCell ⟨t.b,19,none⟩ v'):=ax.setCell (((ax.refl _ _).bJ hb (Nat.le_refl _)).trans hT (fun _ _ e=>.inr e)) _ _ (fun _=>.inl rfl);have hsz:(w'.setCell ⟨t.b,19,none⟩ v').heap.size=w'.heap.size:=by simp
 have fQ:∀g,g≠t.b→(w'.setCell ⟨t.b,19,none⟩ v').heap[g]?=w'.heap[g]?:=fun g hg=>Below.heap_setCell _ _ _ _ hg;have SL:∀g,F1 g→g≠t.b:=fun g hg e=>by have:=(hN.inr g hg).1;have:=h.lt;omega
 have IP:∀g,F g→g≠t.b∧t.vr.ownBlock≠some g:=fun g hg=>⟨dX (oP hty hg) (br h.blk) (by decide),fun e=>dX (oP hty hg) (dW h.rows e) (by decide) rfl⟩;have zV:∀g,F g→(w'.setCell ⟨t.b,19,none⟩ v').heap[g]?=w.heap[g]?:=fun g hg=>(fQ g (IP g hg).1).trans ((hT.block g (Nat.lt_of_lt_of_le (hfl g hg) hb.size) (IP g hg).2).trans (hb.block g (hfl g hg)));have tY:∀g,F1 g→(w'.setCell ⟨t.b,19,none⟩ v').heap[g]?=w'.heap[g]?:=fun g hg=>fQ g (SL g hg);have WT:v'.ownBlock≠some t.b:=fun e=>by
  rcases hv _ e with e|e
  ·exact hne e
  ·have:=hW.lt;omega
 refine⟨fun g=>F g∨F1 g,u,v',⟨⟨?_,?_,h.ld.mono zV (fun _ q=>.inl q),h.pX.mono zV (fun _ q=>.inl q),?_,h.low⟩,hTw,fun _ q=>.inl q,(hty.same zV).union (OQ.typed.same tY),?_,fun q hq=>?_,fun g hg=>by rcases hg with e|e;exact .inl e;exact .inr (hN.inr g e).1⟩⟩
 ·exact(fp jU v').trans (by rw[EW t v' (dh t k u)])
 ·show aA bC 108 19 _ B v' (dh t k u);unfold dh wV;rw[hh,if_neg (by decide)];exact hown.same (fun q hq=>fQ q (fun e=>WT (by rw[←e];exact hq)))
 ·intro r hr;have hr':r∈wV t.rows (cG t k) (newRow k u):=by
   have hr:r∈dh t k u:=hr;unfold dh at hr;rwa[hh,if_neg (by decide)]at hr
  unfold wV at hr';simp only[List.mem_append,List.mem_singleton]at hr'
  rcases hr' with(hr'|rfl)|hr'
  ·have:=h.gU r (List.mem_of_mem_take hr');exact⟨this.1.mono zV (fun _ q=>.inl q),this.2.mono zV (fun _ q=>.inl q)⟩
  ·exact⟨OQ.items.mono tY (fun _ q=>.inr q),bl.jH (by decide)⟩
  ·have:=h.gU r (List.mem_of_mem_drop hr');exact⟨this.1.mono zV (fun _ q=>.inl q),this.2.mono zV (fun _ q=>.inl q)⟩
 ·rintro g (hg|hg)
  ·rw[hsz];exact Nat.lt_of_lt_of_le (hfl g hg) (Nat.le_trans hb.size hT.size)
  ·rw[hsz];exact(OQ.inr g hg).2
 ·rcases hv q hq with e|e
  ·exact .inl e
  ·exact .inr (Nat.le_trans hb.size e)
theorem LD(t:ct N)(k:Tm (N+1))(u:Value):cG t k<(dh t k u).length:=by
 unfold dh
 split
 ·rename_i hh;unfold iz at hh
  by_cases hp:cG t k<t.rows.length
  ·exact hp
  ·rw[List.getElem?_eq_none (by omega)]at hh;cases hh
 ·unfold wV;have:=lT t k;simp only[List.length_append,List.length_take,List.length_drop,List.length_singleton];omega
theorem IQ(hB:B≤w.heap.size)(SM:∀q,t.vr.ownBlock=some q→B≤q)(rF:B≤t.b){Wm:World}(hm:F_ w B F t k Wm){WU:Value}(hI:ah Wm Wm.heap.size N WU v.items)(hn:ap v≤100000000) :
 ∃g n c,Wm.cell? ⟨t.b,19,none⟩=some (.slice (some ⟨g,0,none⟩) n c)∧cG t k<n∧n≤maxLen∧t.b<Wm.heap.size∧g≠t.b∧dA Wm g=some 108 ∧
  ∀W,Below Wm.heap.size Wm W→Calls Tryz.prog 51 #[aj v.f WU] W (Ia v.f v.items W)∧∀F2 u2,bZ Wm W F2 N u2 v.items→∃w',(storeVar 24 ⟨g,cG t k*19+9,none⟩ (aj v.f u2)).run Tryz.prog W=.ok () w'∧LB w B F t k v w'∧ax (fun q=>q=g) W w':=by
 obtain⟨F1,uk,vr,hq⟩:=hm;have hpos:=LD t k uk;have WV:Below B w Wm:=hq.aX.below (fun q hq=>by rcases hq with rfl|e;exact rF;exact SM q e) hB;have hown:=hq.at_.rows;obtain⟨g,cap,cur,hv,mC,hg,hnc,gW,hcs,tX⟩:=kP hown (by show 0<(dh t k uk).length;omega);have hv:vr=.slice (some ⟨g,0,none⟩) (dh t k uk).length cap:=hv;have jU:Wm.heap[t.b]?=some (.cells (vG { t with vr:=vr,rows:=dh t k uk }).toArray 98):=hq.at_.blk;obtain⟨_,_,_,kE,_⟩:=dN hq.at_.blk;have mo:g<Wm.heap.size:=(Qg hg);have hgt:dA Wm g=some 108:=br hg
 have KT:g≠t.b:=dX hgt (br jU) (by decide);refine⟨g,(dh t k uk).length,cap,kE.trans (by rw[←hv]),hpos,Nat.le_trans hnc gW,(Qg jU),KT,hgt,fun W hb=>?_⟩;refine⟨ji N W Wm.heap.size WU v hb.size (hI.below hb (Nat.le_refl _)) hn,fun F2 u2 hN=>?_⟩;have hW:=hq.at_.below hb hq.fl;obtain⟨w',hst,SN,hT⟩:=F8 (i:=cG t k) hW.rows hW.enc hpos hv v (l_ hN.items);have hvb:∀q,vr.ownBlock=some q→q=g:=fun q e=>by rw[hv]at e;exact(Option.some.inj e).symm
 have wO:ax (fun q=>q=g) W w':=hT.mono (fun q _ e=>hvb q e);refine⟨w',hst,?_,wO⟩;have hs:∀q,q<Wm.heap.size→q≠g→w'.heap[q]?=Wm.heap[q]?:=fun q Di jO=>(wO.block q (Nat.lt_of_lt_of_le Di hb.size) jO).trans (hb.block q Di);have tY:∀q,F1 q→w'.heap[q]?=Wm.heap[q]?:=fun q Di=>hs q (hq.fl q Di) (dX (oP hq.ty Di) hgt (by decide));have OQ:=hN.aX wO (fun q e=>by subst e;exact mo);have LF:∀q,F2 q→w'.heap[q]?=w'.heap[q]?:=fun _ _=>rfl
 have fQ:(dh t k uk).set (cG t k) { (dh t k uk)[cG t k]with v:=v,uv:=u2 }=wW (dh t k uk) (cG t k) v u2:=(yY hpos v u2).symm
 refine⟨fun q=>F1 q∨F2 q,uk,u2,vr,⟨⟨?_,?_,hq.at_.ld.mono tY (fun _ e=>.inl e),hq.at_.pX.mono tY (fun _ e=>.inl e),?_,hq.at_.low⟩,?_,fun q e=>.inl (hq.more q e),(hq.ty.same tY).union OQ.typed,?_,hq.own,fun q e=>by rcases e with e|e;exact hq.new q e;exact .inr (Nat.le_trans hq.aX.size (hN.inr q e).1)⟩⟩
 ·exact(hs t.b (Qg jU) (Ne.symm KT)).trans jU
 ·rw[←fQ];exact SN
 ·intro r hr;have hr:r∈wW (dh t k uk) (cG t k) v u2:=hr;rw[←fQ]at hr
  rcases List.mem_or_eq_of_mem_set hr with hr|rfl
  ·have:=hq.at_.gU r hr;exact⟨this.1.mono tY (fun _ e=>.inl e),this.2.mono tY (fun _ e=>.inl e)⟩
  ·have:=hq.at_.gU _ (List.getElem_mem hpos);exact⟨this.1.mono tY (fun _ e=>.inl e),OQ.items.mono LF (fun _ e=>.inr e)⟩
 ·refine(hq.aX.bJ hb hq.aX.size).trans wO (fun q Ww e=>?_);subst e
  rcases hq.own q (by rw[hv];rfl)with e|e
  ·exact .inr e
  ·omega
 ·rintro q (e|e)
  ·exact Nat.lt_of_lt_of_le (hq.fl q e) (Nat.le_trans hb.size wO.size)
  ·exact(OQ.inr q e).2
end
section
variable {N:Nat}{w w':World}{B:Nat}{F:Nat→Prop}{s:iy N}
theorem IL.Nf(h:cN w B F s){i:Nat}(hi:i<s.tabs.length){F1:Nat→Prop}{vr:Value}{l:List (j_ N)}(hq:IL w B F s.tabs[i] w' F1 vr l):cN w' B F1 { s with tabs:=s.tabs.set i { s.tabs[i]with vr:=vr,rows:=l } }∧TT eF B w w':=by
 have ht:=h.tabs _ (List.getElem_mem hi);refine⟨h.Nf (List.getElem?_eq_getElem hi) hq.aX rfl hq.at_ hq.own hq.more hq.ty hq.fl,hq.aX.mono (fun q _ hS=>?_)⟩
 rcases hS with rfl|e
 ·exact⟨ht.low,98,br ht.blk,.inr (.inr (.inl rfl))⟩
 ·exact⟨(ht.rows.lt e).1,108,dW ht.rows e,.inr (.inr (.inr rfl))⟩
end
theorem dn{w w':World}{b o:Nat}{x:List Value}(h:w.rangeAt b o x)(hb:w'.heap[b]?=w.heap[b]?):w'.rangeAt b o x:=fun j u hu=>(World.cell?_of_block (w:=w) (w':=w') (a:=⟨b,o+j,none⟩) hb).trans (h j u hu)
theorem LG(w:World)(o1 o2:Obj){x:Array Value}{ty:TypeId}{S:Nat→Prop}(hS:∀k,S k→k<w.heap.size):∀W,ax S (((w.alloc o1).alloc o2).alloc (.cells x ty)) W→dA W (w.heap.size+2)=some ty:=fun W hW=>by
 have h4:=aF ((w.alloc o1).alloc o2) (.cells x ty);have hs:((w.alloc o1).alloc o2).heap.size=w.heap.size+2:=by rw[World.size_alloc,World.size_alloc]
 rw[hs]at h4;exact br ((hW.block _ (Array.getElem?_eq_some_iff.1 h4).1 (fun e=>by have:=hS _ e;omega)).trans h4)
section
variable {N:Nat}{w w':World}{B:Nat}{F:Nat→Prop}{s:iy N}
theorem IR(h:cN w B F s)(hB:B≤w.heap.size)(hlen:s.tabs.length≤1000){r k v:Tm (N+1)}{ur uk uv:Value}{B2:Nat}(hBw:B2≤w.heap.size)(hI:ah w B2 N ur r.items)(hJ:ah w B2 N uk k.items)(hV:ah w B2 N uv v.items)(hnk:ap k≤100000000)(qN:ap v≤100000000)
 (wF:aC k=true)(Ko:aC v=true){i:Nat}(hi:i<s.tabs.length)(hr:dK s.tabs r=some i)(hok:lp s.tabs[i] k)(UD:∀Wm,F_ w B F s.tabs[i] k Wm→ah Wm Wm.heap.size N uv v.items) :
 Calls Tryz.prog 24 #[.pointer (some ⟨s.z,0,none⟩),aj r.f ur,aj k.f uk,aj v.f uv] w fun e w'=>e=.returned (.int .i64 0)∧LB w B F s.tabs[i] k v w':=by
 have ht:=h.tabs _ (List.getElem_mem hi);have qd:sI s.tabs r k (some ⟨(s.tabs[i]).b,0,none⟩) 0:=.inr ⟨wF,.inr ⟨i,hi,hr,rfl,rfl⟩⟩;have HV:=Qh (fun(W:World) (hW:Qb w W)=>eN (jQ N) W B2 uv v (Nat.le_trans hBw hW.size) (hV.below hW hBw) (by omega));have iT:=Qh (fun(W:World) (hW:Qb w W)=>jl (h.below hW) hlen (Nat.le_trans hBw hW.size) (hI.below hW hBw) (hJ.below hW hBw) (by omega) qd);have qE:=Qh (fun(W:World) (hW:Qb w W)=>qy (ht.below hW h.fl) (fun g hg=>Nat.lt_of_lt_of_le (h.fl g hg) hW.size) (Nat.le_trans hBw hW.size) (hJ.below hW hBw) (by omega) hok)
 have lZ:=Qh (fun(W:World) (hW:Qb w W)=>ji N W B2 uk k (Nat.le_trans hBw hW.size) (hJ.below hW hBw) hnk);have HH:=Qh (fun(W:World) (hW:Qb w W)=>Dc W B2 uk k (Nat.le_trans hBw hW.size) (hJ.below hW hBw) (by omega));have tZ:=Qh (fun(hh:iz s.tabs[i] k=false) (W:World) (hW:Qb w W) (zv:Nat) (F1:Nat→Prop) (u:Value) hN pq hz=>IM ht h.ty h.fl hB hok.len hh hW (zv:=zv) (F1:=F1) (u:=u) hN pq hz);have OS:=Qh (fun(hh:iz s.tabs[i] k=true) (W:World) (hW:Qb w W)=>LC ht h.ty h.fl hh hW)
 have IU:=Qh (fun(Wm:World) (hm:F_ w B F s.tabs[i] k Wm)=>IQ hB (fun q hq=>(ht.rows.lt hq).1) ht.low hm (UD Wm hm) qN);have HO:=Qh (fun(W:World) (hW:Qb w W)=>di (h.below hW).obj);have Ga:=Qh (fun(W:World) (hW:Qb w W)=>(dN (ht.below hW h.fl).blk).2.2.2.1);have hvl:∀q,(s.tabs[i]).vr.ownBlock=some q→q<w.heap.size:=fun q hq=>(ht.rows.lt hq).2;have kj:=ht.lt;have tV:=lT s.tabs[i] k;have hrl:=hok.len;obtain⟨pl,cl,jL,EU,gW⟩:=ht.rows.shape;obtain⟨pr,cr,er,_,_⟩:=hI.shape;obtain⟨pk,ck,ek,_,_⟩:=hJ.shape;obtain⟨pv,cv,ev,_,_⟩:=hV.shape
 obtain⟨pw,cw,ew,_,_⟩:=h.l.shape;rw[ew]at HO;unfold maxLen at gW;generalize hht:iz s.tabs[i] k=hs at*;generalize hpp:cG s.tabs[i] k=pos at*;generalize s.tabs[i]=t at*;clear h hB hlen hI hJ hV hnk qN wF hi hr hok ht qd hBw UD;generalize s.z=z at*;rw[Ko]at HV;rw[jL]at Ga tZ;rw[er]at iT ⊢;rw[ek]at iT qE lZ HH ⊢;rw[ev]at HV IU ⊢;have Y5:(zT:Tm (N+1)).f=aY:=rfl;unfold newRow bC aE at tZ;dsimp only at tZ;simp only[Y5,List.cons_append,List.nil_append]at tZ;generalize LH:F_ w B F t k=Md at*
 generalize WW:LB w B F t k v=Pt at*;generalize NY:t.b=tb at*;generalize hTv:t.vr=tv at*;generalize t.rows.length=zS at*;generalize cy k=hk at*;have HNi:Hid (∀W W' F1 u,bZ W W' F1 N u k.items→u.oneCell'=true):=Qh (fun W W' F1 u hN=>l_ hN.items);generalize r.items.length=nr at*;generalize k.items.length=nk at*;generalize v.items.length=nv at*;obtain⟨nD,hki⟩:∃x,k.items=x:=⟨_,rfl⟩;obtain⟨jV,UE⟩:∃x,v.items=x:=⟨_,rfl⟩;rw[hki]at HNi lZ tZ;rw[UE]at IU;generalize r.f=fr at*;generalize k.f=fk at*;generalize v.f=fv at*
 clear Y5 er ek ev Ko ew hht hpp LH WW NY hki UE;obtain⟨rk,ri,rg,rn,rf,ra,rb,rs⟩:=fr;obtain⟨kk,ki,kg,kn,kf,ka,kb,ks⟩:=fk;obtain⟨vk,vi,vg,vn,vf,va,vb,vs⟩:=fv;unfold aj at*;unfold aV at HV;unfold aY aK at tZ;dsimp only at*
 obtain⟨hb0,nE⟩:=oO w (.cells (a9 rk ri rg rn rf ra (.slice pr nr cr) rb rs) 24) (.cells (a9 kk ki kg kn kf ka (.slice pk nk ck) kb ks) 24) (.cells (a9 vk vi vg vn vf va (.slice pv nv cv) vb vs) 24) (x1:=(l9 rk ri rg rn rf ra (.slice pr nr cr) rb rs)) (x2:=(l9 kk ki kg kn kf ka (.slice pk nk ck) kb ks)) (x3:=(l9 vk vi vg vn vf va (.slice pv nv cv) vb vs)) rfl rfl rfl (S:=fun q=>q<w.heap.size) (fun _ q=>q)
 have Y6:=LG w (.cells (a9 rk ri rg rn rf ra (.slice pr nr cr) rb rs) 24) (.cells (a9 kk ki kg kn kf ka (.slice pk nk ck) kb ks) 24) (x:=(a9 vk vi vg vn vf va (.slice pv nv cv) vb vs)) (ty:=24) (S:=fun q=>q<w.heap.size) (fun _ q=>q);go_enter Tryz.func24,Tryz.ntmps24;go_upto_region 1 with(fail);generalize(((w.alloc (.cells (a9 rk ri rg rn rf ra (.slice pr nr cr) rb rs) 24)).alloc (.cells (a9 kk ki kg kn kf ka (.slice pk nk ck) kb ks) 24)).alloc (.cells (a9 vk vi vg vn vf va (.slice pv nv cv) vb vs) 24))=W1 at*;obtain⟨l5,l6,l7⟩:=nE _ (ax.refl _ _);have gm:=Qh l5
 have Kp:=Qh l6;have SP:=Qh l7;have bu:=Qh hb0;have HX:=Qh nE;have HY:=Qh Y6;obtain⟨o0,o1,of⟩:=HO.out _ hb0;have y0:=l7 0 _ rfl;have y1:=l7 1 _ rfl;have y2:=l7 2 _ rfl;have y3:=l7 3 _ rfl;have y4:=l7 4 _ rfl;have y5:=l7 5 _ rfl;have y6:=l7 6 _ rfl;have y7:=l7 7 _ rfl;have y8:=l7 8 _ rfl;simp only[Nat.reduceAdd]at y0 y1 y2 y3 y4 y5 y6 y7 y8;clear hb0 nE Y6 l5 l6 l7;go_wp2_with fail;refine(HV.out _ bu.out).mono ?_;rintro e w2 ⟨rfl,a_⟩;have bS:=Qh (bu.out.trans (a_.mono bu.out.size));have Nh:=Qh ((ax.refl (fun q=>q<w.heap.size) W1).bJ a_ (Nat.le_refl _))
 obtain⟨l5,l6,l7⟩:=HX.out _ Nh.out;clear gm Kp SP y0 y1 y2 y3 y4 y5 y6 y7 y8 o0 o1 of a_;have gm:=Qh l5;have Kp:=Qh l6;clear l5 l6 l7;go_wp2_with (first
  | (refine Ql gm.out ?_)
  | (refine Ql Kp.out ?_))
 refine(iT.out _ bS.out).mono ?_;rintro e w3 ⟨rfl,bN⟩;have dJ:=Qh (bS.out.trans (bN.mono bS.out.size));have UF:=Qh (Nh.out.bJ bN Nh.out.size);obtain⟨l5,l6,l7⟩:=HX.out _ UF.out;clear gm Kp bN bS Nh iT HV HO;have Kp:=Qh l6;clear l5 l6 l7;go_wp2_with (first
  | (refine Ql Kp.out ?_))
 refine(qE.out _ dJ.out).mono ?_;rintro e w4 ⟨rfl,dS⟩;have lG:=Qh (dJ.out.trans (dS.mono dJ.out.size));have UG:=Qh (UF.out.bJ dS UF.out.size);clear Kp dS dJ UF qE;go_upto_if 43 with(fail)
 go_cut [9,11] from 44 to 58 (fun s9 s11 wc=>s9=.pointer (some ⟨tb,0,none⟩)∧s11=.int .i64 (pos:Int)∧wc.rangeAt (w.heap.size+2) 0 (l9 vk vi vg vn vf va (.slice pv nv cv) vb vs)∧dA wc (w.heap.size+2)=some 24∧Md wc)
 case first=>
  cases hs
  ·have AY:=Qh (tZ.out (by trivial));clear tZ OS IU;go_upto_region 8 with(fail);have hbd:=lG.out.trans (aZ (Below.refl w.heap.size w4));have gK:=UG.out.drew;obtain⟨_,l6,_⟩:=HX.out _ gK
   refine wp_region_held_drew (S:=(fun w'=>w'.rangeAt (w.heap.size+1) 0 (l9 kk ki kg kn kf ka (.slice pk nk ck) kb ks))) (by kernel_rfl) ?_ (fun hHeld=>?_)
   ·exact l6
   refine run_in [0,1,2,3,5,6,8] ?_;iterate 5 refine Qe ?_
   refine Qm (fun w hs=>hs) ?_;refine Qm (fun w hs=>hs) ?_;refine aI ?_;refine wpAnyH_ready (rs:=[4,7]) (by kernel_rfl) (by simp) ?_
   refine(ia rfl (fun K hK=>?_) (ia rfl (fun K hK=>?_) AllReadyH.nil))
   ·have hc:=Ga.out _ hbd;go_simp;refine Qk hK (l6) (fun hHeld=>?_);clear hK K;refine Qd 7 (fun K hK=>?_);go_simp;refine(lZ.out _ hbd).mono ?_;rintro e w57 ⟨F1,g1,rfl,hN,_⟩;dsimp only[aj];have cz:=bZ.of (w0:=w) hN hbd.size;replace gK:=gK.bJ hN.below gK.size;replace hbd:=hbd.trans (hN.below.mono hbd.size);clear l6 hN;obtain⟨_,l6,_⟩:=HX.out _ gK;go_wp2_with fail;refine Qk hK (l6) (fun hHeld=>?_);clear hK K;refine Qd 9 (fun K hK=>?_);go_simp;refine(HH.out _ hbd).mono ?_;rintro e EX ⟨rfl,lR⟩;replace cz:=cz.below lR;replace gK:=gK.bJ lR gK.size
    replace hbd:=hbd.trans (lR.mono hbd.size);clear l6 lR;obtain⟨_,l6,_⟩:=HX.out _ gK;go_wp2_with fail;refine Qk hK (l6) (fun hHeld=>?_);clear hK K;refine run_in [10] ?_;refine Qe ?_;refine aI ?_;refine Qd 11 (fun K hK=>?_);go_simp;have Dj:=aF EX (.cells #[.int .i64 kk,.int .i64 ki,.int .i64 kg,.string kn,.string kf,.int .i64 ka,.slice (some ⟨g1,0,none⟩) nD.length nD.length,.string kb,.int .i64 ks,.int .i64 0,.int .i64 0,.int .i64 0,.string ⟨#[]⟩,.string ⟨#[]⟩,.int .i64 0,.slice none 0 0,.string ⟨#[]⟩,.int .i64 0,.int .u32 hk] 108)
    have hba:=aG (Below.refl EX.heap.size EX) (.cells #[.int .i64 kk,.int .i64 ki,.int .i64 kg,.string kn,.string kf,.int .i64 ka,.slice (some ⟨g1,0,none⟩) nD.length nD.length,.string kb,.int .i64 ks,.int .i64 0,.int .i64 0,.int .i64 0,.string ⟨#[]⟩,.string ⟨#[]⟩,.int .i64 0,.slice none 0 0,.string ⟨#[]⟩,.int .i64 0,.int .u32 hk] 108) (Nat.le_refl _);replace cz:=cz.below hba;replace gK:=gK.bJ hba gK.size;have pq:=hbd.size;replace hbd:=hbd.trans (hba.mono hbd.size);clear l6 hba;obtain⟨_,l6,_⟩:=HX.out _ gK;refine Qk hK (l6) (fun hHeld=>?_);clear hK K
    refine Qd 12 (fun K hK=>?_);go_simp;refine(AY.out _ hbd _ _ _ cz pq Dj).mono ?_;rintro e OT ⟨v',rfl,hone,Dk,kE,Dl,LH⟩;replace gK:=gK.trans Dk (fun q _ e=>hvl q (by rw[jL];exact e));clear l6 cz Dj pq hbd;obtain⟨_,l6,_⟩:=HX.out _ gK;go_wp2_with fail;refine Qk hK (l6) (fun hHeld=>?_);clear hK K;refine run_in [13,14] ?_;iterate 2 refine Qe ?_
    refine aI ?_;refine Qd 15 (fun K hK=>?_);refine aR (by rfl) 96 (.tmp 58) (.tmp 56) rfl (p:=⟨tb,19,none⟩) (v:=v') rfl rfl (LA _ _ _ _ hone kE Dl) ?_;replace gK:=gK.setCell ⟨tb,19,none⟩ v' (fun _=>kj);clear l6;obtain⟨_,l6,_⟩:=HX.out _ gK;refine Qk hK (l6) (fun hHeld=>?_);clear hK K;refine wpAnyH_done (by kernel_rfl) ?_ _;go_wp2_with fail;go_meet;exact⟨rfl,rfl,(HX.out _ gK).2.2,HY.out _ gK,LH⟩
   ·go_simp;refine(lZ.out _ hbd).mono ?_;rintro e w57 ⟨F1,g1,rfl,hN,_⟩;dsimp only[aj];have cz:=bZ.of (w0:=w) hN hbd.size;replace gK:=gK.bJ hN.below gK.size;replace hbd:=hbd.trans (hN.below.mono hbd.size);clear l6 hN;obtain⟨_,l6,_⟩:=HX.out _ gK;go_wp2_with fail;refine Qk hK (l6) (fun hHeld=>?_);clear hK K;refine wpAnyH_ready (rs:=[4,9]) (by kernel_rfl) (by simp) ?_
    refine(ia rfl (fun K hK=>?_) (ia rfl (fun K hK=>?_) AllReadyH.nil))
    ·have hc:=Ga.out _ hbd;go_simp;refine Qk hK (l6) (fun hHeld=>?_);clear hK K;refine Qd 9 (fun K hK=>?_);go_simp;refine(HH.out _ hbd).mono ?_;rintro e EX ⟨rfl,lR⟩;replace cz:=cz.below lR;replace gK:=gK.bJ lR gK.size;replace hbd:=hbd.trans (lR.mono hbd.size);clear l6 lR;obtain⟨_,l6,_⟩:=HX.out _ gK;go_wp2_with fail;refine Qk hK (l6) (fun hHeld=>?_);clear hK K;refine run_in [10] ?_;refine Qe ?_;refine aI ?_;refine Qd 11 (fun K hK=>?_);go_simp
     have Dj:=aF EX (.cells #[.int .i64 kk,.int .i64 ki,.int .i64 kg,.string kn,.string kf,.int .i64 ka,.slice (some ⟨g1,0,none⟩) nD.length nD.length,.string kb,.int .i64 ks,.int .i64 0,.int .i64 0,.int .i64 0,.string ⟨#[]⟩,.string ⟨#[]⟩,.int .i64 0,.slice none 0 0,.string ⟨#[]⟩,.int .i64 0,.int .u32 hk] 108)
     have hba:=aG (Below.refl EX.heap.size EX) (.cells #[.int .i64 kk,.int .i64 ki,.int .i64 kg,.string kn,.string kf,.int .i64 ka,.slice (some ⟨g1,0,none⟩) nD.length nD.length,.string kb,.int .i64 ks,.int .i64 0,.int .i64 0,.int .i64 0,.string ⟨#[]⟩,.string ⟨#[]⟩,.int .i64 0,.slice none 0 0,.string ⟨#[]⟩,.int .i64 0,.int .u32 hk] 108) (Nat.le_refl _);replace cz:=cz.below hba;replace gK:=gK.bJ hba gK.size;have pq:=hbd.size;replace hbd:=hbd.trans (hba.mono hbd.size);clear l6 hba;obtain⟨_,l6,_⟩:=HX.out _ gK;refine Qk hK (l6) (fun hHeld=>?_);clear hK K
     refine Qd 12 (fun K hK=>?_);go_simp;refine(AY.out _ hbd _ _ _ cz pq Dj).mono ?_;rintro e OT ⟨v',rfl,hone,Dk,kE,Dl,LH⟩;replace gK:=gK.trans Dk (fun q _ e=>hvl q (by rw[jL];exact e));clear l6 cz Dj pq hbd;obtain⟨_,l6,_⟩:=HX.out _ gK;go_wp2_with fail;refine Qk hK (l6) (fun hHeld=>?_);clear hK K;refine run_in [13,14] ?_;iterate 2 refine Qe ?_
     refine aI ?_;refine Qd 15 (fun K hK=>?_);refine aR (by rfl) 96 (.tmp 58) (.tmp 56) rfl (p:=⟨tb,19,none⟩) (v:=v') rfl rfl (LA _ _ _ _ hone kE Dl) ?_;replace gK:=gK.setCell ⟨tb,19,none⟩ v' (fun _=>kj);clear l6;obtain⟨_,l6,_⟩:=HX.out _ gK;refine Qk hK (l6) (fun hHeld=>?_);clear hK K;refine wpAnyH_done (by kernel_rfl) ?_ _;go_wp2_with fail;go_meet;exact⟨rfl,rfl,(HX.out _ gK).2.2,HY.out _ gK,LH⟩
    ·go_simp;refine(HH.out _ hbd).mono ?_;rintro e EX ⟨rfl,lR⟩;replace cz:=cz.below lR;replace gK:=gK.bJ lR gK.size;replace hbd:=hbd.trans (lR.mono hbd.size);clear l6 lR;obtain⟨_,l6,_⟩:=HX.out _ gK;go_wp2_with fail;refine Qk hK (l6) (fun hHeld=>?_);clear hK K;refine run_in [10] ?_;refine Qe ?_;refine aI ?_;refine wpAnyH_ready (rs:=[4,11]) (by kernel_rfl) (by simp) ?_
     refine(ia rfl (fun K hK=>?_) (ia rfl (fun K hK=>?_) AllReadyH.nil))
     ·have hc:=Ga.out _ hbd;go_simp;refine Qk hK (l6) (fun hHeld=>?_);clear hK K;refine Qd 11 (fun K hK=>?_);go_simp;have Dj:=aF EX (.cells #[.int .i64 kk,.int .i64 ki,.int .i64 kg,.string kn,.string kf,.int .i64 ka,.slice (some ⟨g1,0,none⟩) nD.length nD.length,.string kb,.int .i64 ks,.int .i64 0,.int .i64 0,.int .i64 0,.string ⟨#[]⟩,.string ⟨#[]⟩,.int .i64 0,.slice none 0 0,.string ⟨#[]⟩,.int .i64 0,.int .u32 hk] 108)
      have hba:=aG (Below.refl EX.heap.size EX) (.cells #[.int .i64 kk,.int .i64 ki,.int .i64 kg,.string kn,.string kf,.int .i64 ka,.slice (some ⟨g1,0,none⟩) nD.length nD.length,.string kb,.int .i64 ks,.int .i64 0,.int .i64 0,.int .i64 0,.string ⟨#[]⟩,.string ⟨#[]⟩,.int .i64 0,.slice none 0 0,.string ⟨#[]⟩,.int .i64 0,.int .u32 hk] 108) (Nat.le_refl _);replace cz:=cz.below hba;replace gK:=gK.bJ hba gK.size;have pq:=hbd.size;replace hbd:=hbd.trans (hba.mono hbd.size);clear l6 hba;obtain⟨_,l6,_⟩:=HX.out _ gK;refine Qk hK (l6) (fun hHeld=>?_);clear hK K
      refine Qd 12 (fun K hK=>?_);go_simp;refine(AY.out _ hbd _ _ _ cz pq Dj).mono ?_;rintro e OT ⟨v',rfl,hone,Dk,kE,Dl,LH⟩;replace gK:=gK.trans Dk (fun q _ e=>hvl q (by rw[jL];exact e));clear l6 cz Dj pq hbd;obtain⟨_,l6,_⟩:=HX.out _ gK;go_wp2_with fail;refine Qk hK (l6) (fun hHeld=>?_);clear hK K;refine run_in [13,14] ?_;iterate 2 refine Qe ?_
      refine aI ?_;refine Qd 15 (fun K hK=>?_);refine aR (by rfl) 96 (.tmp 58) (.tmp 56) rfl (p:=⟨tb,19,none⟩) (v:=v') rfl rfl (LA _ _ _ _ hone kE Dl) ?_;replace gK:=gK.setCell ⟨tb,19,none⟩ v' (fun _=>kj);clear l6;obtain⟨_,l6,_⟩:=HX.out _ gK;refine Qk hK (l6) (fun hHeld=>?_);clear hK K;refine wpAnyH_done (by kernel_rfl) ?_ _;go_wp2_with fail;go_meet;exact⟨rfl,rfl,(HX.out _ gK).2.2,HY.out _ gK,LH⟩
     ·go_simp;have Dj:=aF EX (.cells #[.int .i64 kk,.int .i64 ki,.int .i64 kg,.string kn,.string kf,.int .i64 ka,.slice (some ⟨g1,0,none⟩) nD.length nD.length,.string kb,.int .i64 ks,.int .i64 0,.int .i64 0,.int .i64 0,.string ⟨#[]⟩,.string ⟨#[]⟩,.int .i64 0,.slice none 0 0,.string ⟨#[]⟩,.int .i64 0,.int .u32 hk] 108)
      have hba:=aG (Below.refl EX.heap.size EX) (.cells #[.int .i64 kk,.int .i64 ki,.int .i64 kg,.string kn,.string kf,.int .i64 ka,.slice (some ⟨g1,0,none⟩) nD.length nD.length,.string kb,.int .i64 ks,.int .i64 0,.int .i64 0,.int .i64 0,.string ⟨#[]⟩,.string ⟨#[]⟩,.int .i64 0,.slice none 0 0,.string ⟨#[]⟩,.int .i64 0,.int .u32 hk] 108) (Nat.le_refl _);replace cz:=cz.below hba;replace gK:=gK.bJ hba gK.size;have pq:=hbd.size;replace hbd:=hbd.trans (hba.mono hbd.size);clear l6 hba;obtain⟨_,l6,_⟩:=HX.out _ gK;refine Qk hK (l6) (fun hHeld=>?_);clear hK K
      refine Qd 4 (fun K hK=>?_);have hc:=Ga.out _ hbd;go_simp;refine Qk hK (l6) (fun hHeld=>?_);clear hK K;refine Qd 12 (fun K hK=>?_);go_simp;refine(AY.out _ hbd _ _ _ cz pq Dj).mono ?_;rintro e OT ⟨v',rfl,hone,Dk,kE,Dl,LH⟩;replace gK:=gK.trans Dk (fun q _ e=>hvl q (by rw[jL];exact e));clear l6 cz Dj pq hbd;obtain⟨_,l6,_⟩:=HX.out _ gK;go_wp2_with fail;refine Qk hK (l6) (fun hHeld=>?_);clear hK K;refine run_in [13,14] ?_;iterate 2 refine Qe ?_
      refine aI ?_;refine Qd 15 (fun K hK=>?_);refine aR (by rfl) 96 (.tmp 58) (.tmp 56) rfl (p:=⟨tb,19,none⟩) (v:=v') rfl rfl (LA _ _ _ _ hone kE Dl) ?_;replace gK:=gK.setCell ⟨tb,19,none⟩ v' (fun _=>kj);clear l6;obtain⟨_,l6,_⟩:=HX.out _ gK;refine Qk hK (l6) (fun hHeld=>?_);clear hK K;refine wpAnyH_done (by kernel_rfl) ?_ _;go_wp2_with fail;go_meet;exact⟨rfl,rfl,(HX.out _ gK).2.2,HY.out _ gK,LH⟩
  ·go_wp2_with fail;go_meet;exact⟨rfl,rfl,(HX.out _ UG.out).2.2,HY.out _ UG.out,OS.out trivial _ lG.out⟩
 case rest=>
  clear HX HY OS tZ UG lG lZ HH Ga;obtain⟨rfl,rfl,l7,hy7,Y7⟩:=hcut;obtain⟨g,n,c,kE,hpn,hnm,htl,hgt,hg8,HW⟩:=IU.out _ Y7;unfold maxLen at hnm;have pO:(w.heap.size+2)<wc.heap.size:=World.block_lt_of_cell? wc _ (l7 0 _ rfl);have WX:(w.heap.size+2)≠g:=dX hy7 hg8 (by decide);have fP:=Qh HW;clear IU HW Y7;go_upto_region 9 with(fail);have hbd:=aZ (Below.refl wc.heap.size wc)
  refine wp_region_held_drew (S:=(fun w'=>w'.rangeAt (w.heap.size+2) 0 (l9 vk vi vg vn vf va (.slice pv nv cv) vb vs)∧w'.cell? ⟨tb,19,none⟩=some (.slice (some ⟨g,0,none⟩) n c))) (by kernel_rfl) ?_ (fun hHeld=>?_)
  ·exact⟨l7,kE⟩
  refine run_in [0,1,2,3,4,5] ?_;iterate 3 refine Qe ?_
  refine Qc OP (fun w hs=>hs.2) ?_;refine Qe ?_;refine Qm (fun w hs=>hs.1) ?_;refine aI ?_;refine Qd 6 (fun K hK=>?_);go_simp;refine((fP.out _ hbd).1).mono ?_;rintro e w6 ⟨F2,g2,rfl,hN,_⟩;dsimp only[aj];have cZ:=bZ.of (w0:=wc) hN hbd.size;replace hbd:=hbd.trans (hN.below.mono hbd.size);clear hN;replace l7:=dn l7 (hbd.block _ pO);replace kE:=aQ hbd htl kE;go_wp2_with fail;refine Qk hK (⟨l7,kE⟩) (fun hHeld=>?_);clear hK K;refine run_in [7,8] ?_;iterate 2 refine Qe ?_
  refine aI ?_;refine Qd 9 (fun K hK=>?_);obtain⟨w9,hst,WW,Y8⟩:=(fP.out _ hbd).2 F2 _ cZ;refine aR (by rfl) 24 (.tmp 67) (.tmp 65) rfl (p:=⟨g,pos*19+9,none⟩) rfl rfl hst ?_;have bT:=Nat.lt_of_lt_of_le pO hbd.size;have bX:=Nat.lt_of_lt_of_le htl hbd.size;replace l7:=dn l7 (Y8.block _ bT WX);replace kE:=(Y8.cell (p:=⟨tb,19,none⟩) bX (fun e=>hgt e.symm)).trans kE;refine Qk hK (⟨l7,kE⟩) (fun hHeld=>?_);clear hK K;refine wpAnyH_done (by kernel_rfl) ?_ _;go_wp2_with fail;go_ret;exact⟨rfl,WW⟩
theorem OU(h:cN w B F s)(hB:B≤w.heap.size)(hlen:s.tabs.length≤1000){r k v:Tm (N+1)}{ur uk uv:Value}{B2:Nat}(gZ:B2≤B)(hI:ah w B2 N ur r.items)(hJ:ah w B2 N uk k.items)(hV:ah w B2 N uv v.items)(hnk:ap k≤100000000)(qN:ap v≤100000000)
 (wF:aC k=true)(Ko:aC v=true){i:Nat}(hi:i<s.tabs.length)(hr:dK s.tabs r=some i)(hok:lp s.tabs[i] k) :
 Calls Tryz.prog 24 #[.pointer (some ⟨s.z,0,none⟩),aj r.f ur,aj k.f uk,aj v.f uv] w fun e w'=>e=.returned (.int .i64 0)∧LB w B F s.tabs[i] k v w' :=
 IR h hB hlen (Nat.le_trans gZ hB) hI hJ hV hnk qN wF Ko hi hr hok (fun Wm hm=>by
  obtain⟨F1,WY,vr,hq⟩:=hm
  have ht:=h.tabs _ (List.getElem_mem hi)
  have WV:Below B w Wm:=hq.aX.below (fun q hq=>by rcases hq with rfl|e;exact ht.low;exact(ht.rows.lt e).1) hB
  exact(hV.below WV gZ).more (Nat.le_trans gZ (Nat.le_trans hB WV.size)))
end
end tb
end Go.Proofs.YtfbggmbmgohiiaaGreat
