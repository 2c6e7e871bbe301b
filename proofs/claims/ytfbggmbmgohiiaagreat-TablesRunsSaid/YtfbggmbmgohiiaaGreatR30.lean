/- TbV,TbW,TbX,TbY,TcA. No condition beyond theirs. -/
import Derived.Test.YtfbggmbmgohiiaaGreatR29
import Derived.Laws.CopyRow
import Derived.Lib.Overlaps
import Derived.Laws.Externs
set_option linter.unusedSimpArgs false
set_option linter.unusedVariables false
set_option maxHeartbeats 4000000
set_option maxRecDepth 100000
namespace Go.Proofs.YtfbggmbmgohiiaaGreat.tb
open Go.RowKit mem rec tm names
def put{α:Type}(A:List α)(p:Nat)(X:List α):List α:=A.take p++X++A.drop (p+X.length)
theorem nB{α:Type}{A:List α}{p:Nat}{X:List α}(h:p+X.length≤A.length):(put A p X).length=A.length:=by
 unfold put;simp only[List.length_append,List.length_take,List.length_drop];omega
theorem Iw{α:Type}{A:List α}{p:Nat}{X:List α}(q:Nat)(hq:q≤p)(h:p≤A.length):(put A p X).take q=A.take q:=by
 unfold put;rw[List.append_assoc,List.take_append_of_le_length (by rw[List.length_take];omega),List.take_take,Nat.min_eq_left hq]
theorem Ix{α:Type}{A X:List α}{p n s:Nat}(hp:p≤n)(hX:X.length=s)(hA:n+s≤A.length):(put (put A (p+s) ((A.take n).drop p)) p X).take (n+s)=A.take p++X++(A.take n).drop p:=by
 have hD:((A.take n).drop p).length=n-p:=by rw[List.length_drop,List.length_take];omega
 unfold put;rw[hD,hX];have e1:((A.take (p+s)++(A.take n).drop p++A.drop (p+s+(n-p))).take p)=A.take p:=by
  rw[List.append_assoc,List.take_append_of_le_length (by rw[List.length_take];omega),List.take_take,Nat.min_eq_left (by omega)]
 have e2:((A.take (p+s)++(A.take n).drop p++A.drop (p+s+(n-p))).drop (p+s))=(A.take n).drop p++A.drop (p+s+(n-p)):=by
  rw[List.append_assoc];exact List.drop_left' (by rw[List.length_take];omega)
 rw[e1,e2,←List.append_assoc];exact List.take_left' (by simp only[List.length_append,hD,hX,List.length_take];omega)
theorem Lr{α:Type}{R X Z:List α}{p s:Nat}(hp:p≤R.length)(hX:X.length=s)(hZ:s+(R.length-p)≤Z.length):(put (put (R.take p++Z) p X) (p+s) (R.drop p)).take (R.length+s)=R.take p++X++R.drop p:=by
 have hD:(R.drop p).length=R.length-p:=List.length_drop;have hT:(R.take p).length=p:=by rw[List.length_take];omega
 have e1:put (R.take p++Z) p X=R.take p++X++Z.drop s:=by
  unfold put;rw[List.take_left' hT,hX,List.drop_append,hT,Nat.add_sub_cancel_left,List.drop_of_length_le (by omega),List.nil_append]
 have e2:(R.take p++X++Z.drop s).take (p+s)=R.take p++X:=List.take_left' (by rw[List.length_append,hT,hX]);rw[e1];unfold put;rw[e2];exact List.take_left' (by simp only[List.length_append,hT,hX,hD];omega)
theorem h_{w w':World}{ops:Array Oper}{rest:List Oper}{o:Oper}{a:Act}{Q:Exit→Act→World→Prop}(hgd:o.guard=none)(x y:Operand){t t':TypeId}
 (ho:o.op=.call { callee:=.builtin .copy,args:=#[x,y],argTypes:=#[t,t'] }){vx vy v:Value}(hx:a.eval x=vx)(hy:a.eval y=vy)(hr:(Builtin.copy_ #[t,t'] o.type #[vx,vy]).run Tryz.prog w=.ok v w')
 (h:wpList Tryz.prog ops Q rest (a.put o.dst v) w'):wpList Tryz.prog ops Q (o::rest) a w:=by
 refine wpList_plain hgd fun K hK=>?_;unfold Oper.wp execOp;simp only[ho,resolve,invoke,builtin,Sem.run_bind,Sem.run_pure,Result.andThen_ok,List.map_toArray,List.map_cons,List.map_nil,hx,hy,hr];exact hK _ _ h
theorem qA{w w':World}{ops:Array Oper}{rest:List Oper}{o:Oper}{a:Act}{Q:Exit→Act→World→Prop}(hgd:o.guard=none)(x y:Operand){t t':TypeId}
 (ho:o.op=.call { callee:=.builtin .append,args:=#[x,y],argTypes:=#[t,t'] }){vx vy v:Value}(hx:a.eval x=vx)(hy:a.eval y=vy)(hr:(Builtin.append_ #[t,t'] o.type #[vx,vy]).run Tryz.prog w=.ok v w')
 (h:wpList Tryz.prog ops Q rest (a.put o.dst v) w'):wpList Tryz.prog ops Q (o::rest) a w:=by
 refine wpList_plain hgd fun K hK=>?_;unfold Oper.wp execOp;simp only[ho,resolve,invoke,builtin,Sem.run_bind,Sem.run_pure,Result.andThen_ok,List.map_toArray,List.map_cons,List.map_nil,hx,hy,hr];exact hK _ _ h
section
variable {sl e s b:Nat}{z:Value}{i:TypeInfo}
theorem run_sizeOf(hi:Tryz.prog.info? e=some i)(hs:i.size=s)(w:World):(Go.sizeOf e).run Tryz.prog w=.ok s w:=by
 rw[←hs];simp[Go.sizeOf,typeInfo,Sem.run,hi,Result.andThen]
theorem kD(hu:Tryz.prog.underlying sl=some (.slice e))(hi:Tryz.prog.info? e=some i)(hs:i.size=s)(ty:TypeId)(w:World)(g o:Nat)(cur:Array Value)(hg:w.heap[g]?=some (.cells cur e (0,0)))(dLen dCap:Nat)(a:Addr)(sLen sCap:Nat)(news:List Value)(hl:news.length=Nat.min sLen dLen*s)(hnews:∀j u,news[j]?=some u→w.cell? (a.add j)=some u)(h1:∀u∈news,u.oneCell'=true)(hfit:o+news.length≤cur.size) :
 (Builtin.copy_ #[sl,sl] ty #[.slice (some ⟨g,o,none⟩) dLen dCap,.slice (some a) sLen sCap]).run Tryz.prog w=.ok (goInt (Nat.min sLen dLen)) (w.setRow g (put cur.toList o news).toArray):=by
 have hf:=run_firstCells_some (P:=Tryz.prog) w s (Nat.min sLen dLen) a sLen sCap news hl hnews;have hst:=run_storeCells_at Tryz.prog g o e news 0 cur w hg (by simpa using hfit) h1;simp only[Nat.add_zero]at hst;unfold put;simp[Builtin.copy_,run_underlying hu,Builtin.lenOf,sizeOf,typeInfo,hi,hs,hf,hst]
theorem tW(hu:Tryz.prog.underlying sl=some (.slice e))(hi:Tryz.prog.info? e=some i)(hz:i.zero=some z)(hs:i.size=s)(hzs:z.cells.size=s)(hpos:0<s)(hb:i.bytes=b)(ty:TypeId)(w:World)(g sLen sCap k:Nat)(olds:List Value)(hlo:olds.length=sLen*s)(holds:∀j u,olds[j]?=some u→w.cell? ⟨g,j,none⟩=some u)(hk:0<k)(hg:sCap<sLen+k)(qM:(sLen+k)*b≤140737488355328)(aai:sLen+k≤1000000000)(hk2:k*b≤140737488355328) :
 (Builtin.append_ #[sl,3] ty #[.slice (some ⟨g,0,none⟩) sLen sCap,.int .i64 k]).run Tryz.prog w =
   .ok (.slice (some ⟨w.heap.size,0,none⟩) (sLen+k) (grownCap w (sLen+k) sCap e))
    (w.drew.alloc (.cells (olds.toArray++Builtin.zeroCells z.cells k++Builtin.zeroCells z.cells (grownCap w (sLen+k) sCap e-(sLen+k))) e)):=by
 have hn:¬(sLen+k≤sCap):=by omega
 have h63':¬(9223372036854775807<((sLen:Int)+(k:Int))):=by omega
 have WE:¬(281474976710656<Builtin.nextslicecap (sLen+k) sCap*i.bytes):=Nat.not_lt.2 (growslice_fits (by omega) (by rw[hb];exact qM));have hw:IntKind.i64.wrap (k:Int)=k:=IntWalk.i64_in _ (by omega);have SI:¬(281474976710656<(k:Int)*(i.bytes:Int)):=by
  have:((k*i.bytes:Nat):Int)≤((140737488355328:Nat):Int):=Int.ofNat_le.2 (by rw[hb];exact hk2);rw[Int.natCast_mul]at this;have e:((140737488355328:Nat):Int)=140737488355328:=rfl;omega
 have hks:¬(k*s=0):=by
  have:=Nat.mul_pos hk hpos;omega
 have hfo:=run_firstCells_some (P:=Tryz.prog) w.drew s sLen ⟨g,0,none⟩ sLen sCap olds hlo (by intro j u hj;rw[Addr.add_lit,Nat.zero_add];exact holds j u hj);have OG:¬((k:Int)<0):=by omega
 have hai:(asInt (.int .i64 (k:Int))).run Tryz.prog w=.ok (k:Int) w:=by simp[asInt,asIntOf]
 simp[Builtin.append_,hai,run_underlying hu,run_underlying Tryz.underlying3,sizeOf,typeInfo,zeroValue,hi,hz,hs,hn,h63',WE,SI,hw,OG,hks,Question.forced,hfo,newRow,grownCap]
end
theorem pL:(Tryz.prog.info? 108).map (fun i=>(i.zero,i.size,i.bytes))=some (some (.agg #[.int .i64 0,.int .i64 0,.int .i64 0,.string ⟨#[]⟩,.string ⟨#[]⟩,.int .i64 0,.slice none 0 0,.string ⟨#[]⟩,.int .i64 0,.int .i64 0,.int .i64 0,.int .i64 0,.string ⟨#[]⟩,.string ⟨#[]⟩,.int .i64 0,.slice none 0 0,.string ⟨#[]⟩,.int .i64 0,.int .u32 0]),19,232):=by kernel_rfl
theorem elR:vq 96 108 19:=rj Tryz.underlying96 pL rfl (by decide) (by decide)
def FY{N:Nat}(B:Nat)(vr:Value)(l':List (j_ N))(w:World)(e:Ending)(w':World):Prop:=∃v',e=.returned v'∧aA bC 108 19 w' B v' l'∧ax (fun k=>vr.ownBlock=some k) w w'∧∀k,v'.ownBlock=some k→vr.ownBlock=some k∨w.heap.size≤k
section
variable {N:Nat}{w:World}{B:Nat}{vr:Value}{l:List (j_ N)}{row:j_ N}{zv:Nat}
theorem OH(h:w.heap[zv]?=some (.cells (bC row).toArray 108))(hE:bD bC 19 [row]):bq bC 19 w (zv+1) (.slice (some ⟨zv,0,none⟩) 1 1) [row] :=
 bq.fresh (l:=[row]) hE (by decide) (by simpa using h) (Nat.le_refl _) (by decide)
theorem FZ(hown:aA bC 108 19 w B vr l)(hB:B≤w.heap.size)(hlen:l.length≤1000000)(hE:bD bC 19 [row])(hz:w.heap[zv]?=some (.cells (bC row).toArray 108)) :
 Calls Tryz.prog 60 #[vr,.int .i64 l.length,.slice (some ⟨zv,0,none⟩) 1 1] w (FY B vr (l++[row]) w):=by
 have HO:=Qh hown;have CI:=Qh (OH hz hE);have HE:=Qh hE;obtain⟨pv,cv,rfl,hc,hm⟩:=hown.shape;unfold maxLen at hm;clear hown hz hE;go_enter Tryz.func60,Tryz.ntmps60;go_wp2_with (first
  | (refine ay elR rfl (.tmp 23) (.tmp 24) rfl rfl HO.out hB rfl CI.out HE.out (by simp;omega) ?_;intro v' w2 hA;obtain⟨sF,cap',hv,_,_⟩:=hA.own.shape;generalize(l++[row]).length=q at hv;subst hv;have HA:Hid (dz bC 108 19 w B (.slice pv l.length cv) l [row] (.slice sF q cap') w2):=Qh hA;clear hA))
 all_goals
  go_ret;refine⟨.slice sF q cap',rfl,HA.out.own,HA.out.aX (ax.refl _ _) (fun k hk _=>by cases pv <;> first|exact hk|simpa[Value.ownBlock] using hk),fun k hk=>?_⟩
  rcases HA.out.at_ with e|e
  ·have h5:(Value.slice pv l.length cv).ownBlock=some k:=e▸hk;exact .inl (by cases pv <;> first|exact h5|simpa[Value.ownBlock] using h5)
  ·rw[e]at hk;exact .inr (Nat.le_of_eq (Option.some.inj hk))
theorem kP(hown:aA bC 108 19 w B vr l)(h0:0<l.length):∃g cap cur,vr=.slice (some ⟨g,0,none⟩) l.length cap∧B≤g∧w.heap[g]?=some (.cells cur 108 (0,0))∧l.length≤cap∧cap≤maxLen∧cur.size=cap*19∧cur.toList.take (l.length*19)=l.flatMap bC:=by
 rcases hown.2 with⟨_,hz⟩|⟨g,cap,cur,hv,r⟩
 ·omega
 ·exact⟨g,cap,cur,hv,r⟩
theorem pM(hE:bD bC 19 l)(i:Nat)(hi:i≤l.length):(l.flatMap bC).take (i*19)=(l.take i).flatMap bC:=by
 have e:l.flatMap bC=(l.take i).flatMap bC++(l.drop i).flatMap bC:=by rw[←List.flatMap_append,List.take_append_drop]
 rw[e];exact List.take_left' (by rw[bH (hE.sub (fun a ha=>List.mem_of_mem_take ha)),List.length_take,Nat.min_eq_left hi])
theorem mL(hE:bD bC 19 l)(i:Nat)(hi:i≤l.length):(l.flatMap bC).drop (i*19)=(l.drop i).flatMap bC:=by
 have e:l.flatMap bC=(l.take i).flatMap bC++(l.drop i).flatMap bC:=by rw[←List.flatMap_append,List.take_append_drop]
 rw[e];exact List.drop_left' (by rw[bH (hE.sub (fun a ha=>List.mem_of_mem_take ha)),List.length_take,Nat.min_eq_left hi])
theorem Df{gb ob lb cb:Nat}{cur:Array Value}(hz:w.heap[zv]?=some (.cells (bC row).toArray 108))(hg:w.heap[gb]?=some (.cells cur 108 (0,0)))(hne:zv≠gb)(hc:cur.size≠0) :
 (callFunc 90 #[.slice (some ⟨zv,0,none⟩) 1 1,.slice (some ⟨gb,ob,none⟩) lb cb]).run Tryz.prog w=.ok (.value (.bool false)) w:=by
 have hsz:∀w,(Go.sizeOf 108).run Tryz.prog w=.ok 19 w:=fun w=>by
  obtain⟨i0,hi,p_,hs,hb⟩:=info_parts pL;exact run_sizeOf hi hs w
 rw[run_callFunc_extern Tryz.func90 (by kernel_rfl) (by kernel_rfl) (by kernel_rfl) (e:=Extern.SlicesOverlaps.overlaps #[96,96] #[4]) (by kernel_rfl),
  Lib.run_overlaps_apart w 96 4 108 Tryz.underlying96 19 hsz ⟨zv,0,none⟩ ⟨gb,ob,none⟩ 1 1 lb cb hne 108 108 (bC row).toArray.size cur.size (by simp[World.shape?,hz]) (by simp[World.shape?,hg]) hc (by simp only[World.frozen?,hz];simp) (by simp only[World.frozen?,hz];simp)]
 rfl
theorem F0(hown:aA bC 108 19 w B vr l)(hB:B≤w.heap.size)(hlen:l.length≤1000000)(pV:bD bC 19 l)(hE:bD bC 19 [row])(hz:w.heap[zv]?=some (.cells (bC row).toArray 108))(hne:vr.ownBlock≠some zv){i:Nat}(hi:i<l.length){p:Option Addr}{n c:Nat}(jL:vr=.slice p n c)(hroom:l.length+1≤c) :
 Calls Tryz.prog 60 #[vr,.int .i64 i,.slice (some ⟨zv,0,none⟩) 1 1] w (FY B vr (l.take i++[row]++l.drop i) w):=by
 obtain⟨g,cap,cur,rfl,mC,hg,hnc,gW,hcs,tX⟩:=kP hown (by omega);simp only[Value.slice.injEq]at jL;obtain⟨rfl,rfl,rfl⟩:=jL;obtain⟨i0,nA,pq,hs0,hb0⟩:=info_parts pL;have WG:zv≠g:=fun e=>hne (by rw[e];rfl);have hfl:=bH pV;have YY:=fun lb cb=>Df (gb:=g) (ob:=(i+1)*19) (lb:=lb) (cb:=cb) hz hg WG (by omega);unfold maxLen at gW;have hw1:IntKind.i64.wrap ((l.length:Int)+1)=(l.length:Int)+1:=IntWalk.i64_in _ (by omega);have td:IntKind.i64.wrap ((i:Int)+1)=(i:Int)+1:=IntWalk.i64_in _ (by omega);have Ls:¬((i:Int)=(l.length:Int)):=by omega
 have a_:¬(cap=i+1):=by omega
 have dS:¬(cap=i):=by omega
 have aD:(0:Int)≤(i:Int)+1:=by omega
 have htn:((i:Int)+1).toNat=i+1:=by omega
 have bN:(i:Int)≤(l.length:Int)+1:=by omega
 have hin:i≤l.length:=by omega
 have WH:(i:Int)≤(l.length:Int):=by omega
 have hX:(bC row).length=19:=rfl;have yF:cur.toList.length=cap*19:=by simpa using hcs
 have Lt:((l.drop i).flatMap bC).length=(l.length-i)*19:=by rw[bH (pV.sub (fun a ha=>List.mem_of_mem_drop ha)),List.length_drop]
 have YZ:((cur.toList.take (l.length*19)).drop (i*19))=(l.drop i).flatMap bC:=by rw[tX,mL pV i (Nat.le_of_lt hi)]
 have dF:∀j u,((l.drop i).flatMap bC)[j]?=some u→w.drew.cell? ((⟨g,i*19,none⟩:Addr).add j)=some u:=fun j u hj=>by
  rw[Addr.add_lit];have h2:(l.flatMap bC)[i*19+j]?=some u:=by rw[←List.getElem?_drop,mL pV i (Nat.le_of_lt hi)];exact hj
  have:=World.ownsRow.cells (g:=g) hown rfl (i*19+j) u h2;rwa[Addr.add_lit,Nat.zero_add]at this
 have SJ:∀u∈(l.drop i).flatMap bC,u.oneCell'=true:=fun u hu=>by
  obtain⟨a,ha,hu⟩:=List.mem_flatMap.1 hu;exact(pV a (List.mem_of_mem_drop ha)).2 u hu
 have hm1:Nat.min (l.length+1-i) (l.length-i)=l.length-i:=by simp only[Nat.min_def];split <;> omega
 have mj:=fun ty dc sc=>kD (sl:=96) (e:=108) (s:=19) Tryz.underlying96 nA hs0 ty w.drew g ((i+1)*19) cur hg (l.length-i) dc ⟨g,i*19,none⟩ (l.length+1-i) sc ((l.drop i).flatMap bC) (by rw[hm1];exact Lt) dF SJ (by rw[Lt];omega);rw[hm1]at mj;obtain⟨C1,kq⟩:∃C1,put cur.toList ((i+1)*19) ((l.drop i).flatMap bC)=C1:=⟨_,rfl⟩;have wT:C1.length=cap*19:=by rw[←kq,nB (by rw[Lt];omega),yF]
 rw[kq]at mj;have sg:=setRow_heap w.drew g cur C1.toArray 108 (0,0) hg;have bT:(w.drew.setRow g C1.toArray).heap[zv]?=some (.cells (bC row).toArray 108):=(setRow_other w.drew g zv _ WG).trans hz;have hm2:Nat.min 1 (l.length+1-i)=1:=by simp only[Nat.min_def];split <;> omega
 have uz:=fun ty dc sc=>kD (sl:=96) (e:=108) (s:=19) Tryz.underlying96 nA hs0 ty (w.drew.setRow g C1.toArray) g (i*19) C1.toArray sg (l.length+1-i) dc ⟨zv,0,none⟩ 1 sc (bC row) (by rw[hm2,hX]) (fun j u hj=>by
  rw[Addr.add_lit,Nat.zero_add]
  simp only[World.cell?,bT]
  simpa using hj) (fun u hu=>(hE row (List.mem_singleton.2 rfl)).2 u hu) (by rw[hX,List.size_toArray,wT];omega)
 rw[hm2]at uz;have nW:=setRow_heap (w.drew.setRow g C1.toArray) g C1.toArray (put C1 (i*19) (bC row)).toArray 108 (0,0) sg;have eU:Hid (FY B (.slice (some ⟨g,0,none⟩) l.length cap) (l.take i++[row]++l.drop i) w (.returned (.slice (some ⟨g,0,none⟩) (l.length+1) cap)) ((w.drew.setRow g C1.toArray).setRow g (put C1 (i*19) (bC row)).toArray)):=Qh (by
  have OI:(l.take i++[row]++l.drop i).length=l.length+1:=by simp;omega
  have Iy:=Ix (A:=cur.toList) (X:=bC row) (p:=i*19) (n:=l.length*19) (s:=19) (by omega) hX (by omega)
  rw[YZ,show i*19+19=(i+1)*19 by omega,kq]at Iy
  refine⟨_,rfl,⟨?_,.inr ⟨g,cap,_,by rw[OI],mC,nW,by rw[OI];exact hroom,by unfold maxLen;omega,?_,?_⟩⟩,⟨rfl,rfl,rfl,by simp[World.setRow],fun k hk hn=>?_⟩,fun k hk=>.inl (by simpa[Value.ownBlock] using hk)⟩
  ·rw[bH ((bD.append (bD.append (pV.sub (fun a ha=>List.mem_of_mem_take ha)) hE) (pV.sub (fun a ha=>List.mem_of_mem_drop ha))))]
  ·rw[List.size_toArray,nB (by rw[hX,wT];omega),wT]
  ·rw[OI,show(l.length+1)*19=l.length*19+19 by omega,Iy,List.flatMap_append,List.flatMap_append,←pM pV i (Nat.le_of_lt hi),←tX,List.take_take,Nat.min_eq_left (by omega)]
   simp
  ·have Y0:k≠g:=fun e=>hn (by rw[e];rfl)
   exact(setRow_other _ g k _ Y0).trans (setRow_other _ g k _ Y0))
 have dw:=Qh mj;have nu:=Qh uz;clear hown hne mC hg hnc hcs tX hfl hX yF Lt YZ dF SJ kq wT sg bT nW mj uz hm1 hm2 hz hE pV nA pq hs0 hb0 WG;go_enter Tryz.func60,Tryz.ntmps60;go_wp2_with (simp only[YY])
 have hcz:(cap:Int)≤9223372036854775807:=by omega
 clear YY gW hw1 Ls hlen hB;go_still_tail 8,(by kernel_rfl)
 change wpList _ _ _ _ _ w.drew;go_wp2_with (first
  | (refine h_ rfl (.tmp 73) (.tmp 76) rfl rfl rfl (dw.out _ _ _) ?_)
  | (refine h_ rfl (.tmp 80) (.tmp 81) rfl rfl rfl (nu.out _ _ _) ?_))
 go_ret;exact eU.out
end
section
variable {N:Nat}{w:World}{B:Nat}{vr:Value}{l:List (j_ N)}{row:j_ N}{zv:Nat}
theorem F3(hown:aA bC 108 19 w B vr l)(hB:B≤w.heap.size)(hlen:l.length≤1000000)(pV:bD bC 19 l)(hE:bD bC 19 [row])(hz:w.heap[zv]?=some (.cells (bC row).toArray 108)){i:Nat}(hi:i<l.length){p:Option Addr}{n c:Nat}(jL:vr=.slice p n c)(hroom:c<l.length+1) :
 Calls Tryz.prog 60 #[vr,.int .i64 i,.slice (some ⟨zv,0,none⟩) 1 1] w (FY B vr (l.take i++[row]++l.drop i) w):=by
 obtain⟨g,cap,cur,rfl,mC,hg,hnc,gW,hcs,tX⟩:=kP hown (by omega);simp only[Value.slice.injEq]at jL;obtain⟨rfl,rfl,rfl⟩:=jL;obtain⟨i0,nA,pq,hs0,hb0⟩:=info_parts pL;have hfl:=bH pV;have SK:(cap:Int)≤9223372036854775807:=by unfold maxLen at gW;omega
 have hw1:IntKind.i64.wrap ((l.length:Int)+1)=(l.length:Int)+1:=IntWalk.i64_in _ (by omega);have td:IntKind.i64.wrap ((i:Int)+1)=(i:Int)+1:=IntWalk.i64_in _ (by omega);have CS:IntKind.i64.wrap ((l.length:Int)+1-(i:Int))=(l.length:Int)+1-(i:Int):=IntWalk.i64_in _ (by omega);have Ls:¬((i:Int)=(l.length:Int)):=by omega
 have dS:¬(cap=i):=by omega
 have aD:(0:Int)≤(i:Int)+1:=by omega
 have htn:((i:Int)+1).toNat=i+1:=by omega
 have bN:(i:Int)≤(l.length:Int)+1:=by omega
 have hin:i≤l.length:=by omega
 have WH:(i:Int)≤(l.length:Int):=by omega
 have hic:(i:Int)≤(cap:Int):=by omega
 have hX:(bC row).length=19:=rfl;have Lt:((l.drop i).flatMap bC).length=(l.length-i)*19:=by rw[bH (pV.sub (fun a ha=>List.mem_of_mem_drop ha)),List.length_drop]
 have UC:((l.take i).flatMap bC).length=i*19:=by rw[bH (pV.sub (fun a ha=>List.mem_of_mem_take ha)),List.length_take,Nat.min_eq_left hin]
 have hcell:=World.ownsRow.cells (g:=g) hown rfl;have hc0:∀j u,((l.take i).flatMap bC)[j]?=some u→w.cell? ⟨g,j,none⟩=some u:=fun j u hj=>by
  have h2:(l.flatMap bC)[j]?=some u:=by
   have hlt:=(List.getElem?_eq_some_iff.1 hj).1;rw[←pM pV i hin,List.getElem?_take]at hj;rw[UC]at hlt;rwa[if_pos hlt]at hj
  have:=hcell j u h2;rwa[Addr.add_lit,Nat.zero_add]at this
 have hk:((l.length+1-i:Nat):Int)=(l.length:Int)+1-(i:Int):=by omega
 have Ej:=fun ty=>tW (sl:=96) (e:=108) (s:=19) Tryz.underlying96 nA pq hs0 rfl (by decide) hb0 ty w g i cap (l.length+1-i) _ UC hc0 (by omega) (by omega) (by omega) (by omega) (by omega);rw[hk,show i+(l.length+1-i)=l.length+1 by omega]at Ej;have hge:=grownCap_ge w (l.length+1) cap 108;have OJ:grownCap w (l.length+1) cap 108≤maxLen:=grownCap_le_maxLen w (l.length+1) cap 108 (by unfold maxLen;omega);generalize grownCap w (l.length+1) cap 108=cp at*
 obtain⟨Z,hZ⟩:∃Z:Array Value,Builtin.zeroCells (Value.agg #[.int .i64 0,.int .i64 0,.int .i64 0,.string ⟨#[]⟩,.string ⟨#[]⟩,.int .i64 0,.slice none 0 0,.string ⟨#[]⟩,.int .i64 0,.int .i64 0,.int .i64 0,.int .i64 0,.string ⟨#[]⟩,.string ⟨#[]⟩,.int .i64 0,.slice none 0 0,.string ⟨#[]⟩,.int .i64 0,.int .u32 0]).cells (l.length+1-i)++Builtin.zeroCells (Value.agg #[.int .i64 0,.int .i64 0,.int .i64 0,.string ⟨#[]⟩,.string ⟨#[]⟩,.int .i64 0,.slice none 0 0,.string ⟨#[]⟩,.int .i64 0,.int .i64 0,.int .i64 0,.int .i64 0,.string ⟨#[]⟩,.string ⟨#[]⟩,.int .i64 0,.slice none 0 0,.string ⟨#[]⟩,.int .i64 0,.int .u32 0]).cells (cp-(l.length+1))=Z:=⟨_,rfl⟩
 have WI:Z.size=(l.length+1-i)*19+(cp-(l.length+1))*19:=by
  rw[←hZ,Array.size_append,size_zeroCells,size_zeroCells];rfl
 simp only[Array.append_assoc]at Ej;rw[hZ]at Ej;have hpre:((l.take i).flatMap bC).toArray++Z=((l.take i).flatMap bC++Z.toList).toArray:=by simp
 rw[hpre]at Ej;clear hpre hZ;generalize WJ:(l.take i).flatMap bC++Z.toList=C0 at*;have Lu:C0.length=cp*19:=by rw[←WJ,List.length_append,UC,Array.length_toList,WI];omega
 have WK:Z.toList.length=(l.length+1-i)*19+(cp-(l.length+1))*19:=by rw[Array.length_toList,WI]
 obtain⟨W1,Lc⟩:∃W1,w.drew.alloc (.cells C0.toArray 108)=W1:=⟨_,rfl⟩;have sg:W1.heap[w.heap.size]?=some (.cells C0.toArray 108):=by rw[←Lc];exact aF w.drew _
 have hold:∀k,k<w.heap.size→W1.heap[k]?=w.heap[k]?:=fun k hk=>by rw[←Lc];exact Below.heap_alloc w.drew _ k hk
 have Iz:W1.os=w.os∧W1.tape=w.tape∧W1.output=w.output∧W1.heap.size=w.heap.size+1:=by rw[←Lc];exact⟨rfl,rfl,rfl,World.size_alloc _ _⟩
 rw[Lc]at Ej;have hzl:=(Qg hz);have mo:=(Qg hg);have bT:=(hold zv hzl).trans hz;have hm2:Nat.min 1 (l.length+1-i)=1:=by simp only[Nat.min_def];split <;> omega
 have mj:=fun ty dc sc=>kD (sl:=96) (e:=108) (s:=19) Tryz.underlying96 nA hs0 ty W1 w.heap.size (i*19) C0.toArray sg (l.length+1-i) dc ⟨zv,0,none⟩ 1 sc (bC row) (by rw[hm2,hX]) (fun j u hj=>by
  rw[Addr.add_lit,Nat.zero_add]
  simp only[World.cell?,bT]
  simpa using hj) (fun u hu=>(hE row (List.mem_singleton.2 rfl)).2 u hu) (by rw[hX,List.size_toArray,Lu];omega)
 rw[hm2]at mj;have nW:=setRow_heap W1 w.heap.size C0.toArray (put C0 (i*19) (bC row)).toArray 108 (0,0) sg;have wT:(put C0 (i*19) (bC row)).length=cp*19:=by rw[nB (by rw[hX,Lu];omega),Lu]
 obtain⟨C1,kq⟩:∃C1,put C0 (i*19) (bC row)=C1:=⟨_,rfl⟩;rw[kq]at mj nW wT;obtain⟨W2,GD⟩:∃W2,W1.setRow w.heap.size C1.toArray=W2:=⟨_,rfl⟩;rw[GD]at nW mj;have IA:∀k,k<w.heap.size→W2.heap[k]?=w.heap[k]?:=fun k hk=>by rw[←GD];exact(setRow_other W1 w.heap.size k _ (by omega)).trans (hold k hk)
 have IB:W2.os=w.os∧W2.tape=w.tape∧W2.output=w.output∧W2.heap.size=w.heap.size+1:=by rw[←GD];exact⟨Iz.1,Iz.2.1,Iz.2.2.1,by simp[World.setRow,Iz.2.2.2]⟩
 have eK:∀j u,((l.drop i).flatMap bC)[j]?=some u→W2.drew.cell? ((⟨g,i*19,none⟩:Addr).add j)=some u:=fun j u hj=>by
  rw[Addr.add_lit];have h2:(l.flatMap bC)[i*19+j]?=some u:=by rw[←List.getElem?_drop,mL pV i hin];exact hj
  have:=hcell (i*19+j) u h2;rw[Addr.add_lit,Nat.zero_add]at this;exact(World.cell?_of_block (w:=w) (w':=W2.drew) (a:=⟨g,i*19+j,none⟩) (IA g mo)).trans this
 have SJ:∀u∈(l.drop i).flatMap bC,u.oneCell'=true:=fun u hu=>by
  obtain⟨a,ha,hu⟩:=List.mem_flatMap.1 hu;exact(pV a (List.mem_of_mem_drop ha)).2 u hu
 have WL:Nat.min (l.length-i) (l.length-i)=l.length-i:=by simp only[Nat.min_def];split <;> omega
 have uz:=fun ty dc sc=>kD (sl:=96) (e:=108) (s:=19) Tryz.underlying96 nA hs0 ty W2.drew w.heap.size ((i+1)*19) C1.toArray nW (l.length-i) dc ⟨g,i*19,none⟩ (l.length-i) sc ((l.drop i).flatMap bC) (by rw[WL];exact Lt) eK SJ (by rw[Lt,List.size_toArray,wT];omega);rw[WL]at uz;have Nd:=setRow_heap W2.drew w.heap.size C1.toArray (put C1 ((i+1)*19) ((l.drop i).flatMap bC)).toArray 108 (0,0) nW
 have eU:Hid (FY B (.slice (some ⟨g,0,none⟩) l.length cap) (l.take i++[row]++l.drop i) w (.returned (.slice (some ⟨w.heap.size,0,none⟩) (l.length+1) cp)) (W2.drew.setRow w.heap.size (put C1 ((i+1)*19) ((l.drop i).flatMap bC)).toArray)):=Qh (by
  have OI:(l.take i++[row]++l.drop i).length=l.length+1:=by simp;omega
  have Iy:=Lr (R:=l.flatMap bC) (X:=bC row) (Z:=Z.toList) (p:=i*19) (s:=19) (by omega) hX (by omega)
  rw[pM pV i hin,mL pV i hin,WJ,show i*19+19=(i+1)*19 by omega,kq,hfl]at Iy
  refine⟨_,rfl,⟨?_,.inr ⟨w.heap.size,cp,_,by rw[OI],hB,Nd,by rw[OI];exact hge,OJ,?_,?_⟩⟩,⟨IB.1,IB.2.1,IB.2.2.1,by simp[World.setRow,IB.2.2.2],fun k hk hn=>?_⟩,fun k hk=>.inr (Nat.le_of_eq (by simpa[Value.ownBlock] using hk))⟩
  ·rw[bH ((bD.append (bD.append (pV.sub (fun a ha=>List.mem_of_mem_take ha)) hE) (pV.sub (fun a ha=>List.mem_of_mem_drop ha))))]
  ·rw[List.size_toArray,nB (by rw[Lt,wT];omega),wT]
  ·rw[OI,show(l.length+1)*19=l.length*19+19 by omega,Iy,List.flatMap_append,List.flatMap_append]
   simp
  ·exact(setRow_other _ w.heap.size k _ (by omega)).trans (IA k hk))
 have Bd:=Qh Ej;have dw:=Qh mj;have nu:=Qh uz;have aaj:¬(cp=i):=by omega
 have Y3:¬(cp=i+1):=by omega
 have aak:(cp:Int)≤9223372036854775807:=by unfold maxLen at OJ;omega
 clear hown hB mC hg gW hcs tX hfl hX Lt UC hcell hc0 hk Ej OJ WI WJ Lu WK Lc sg hold Iz hzl mo bT hm2 mj nW wT kq GD IA IB eK SJ WL uz Nd hz hE pV nA pq hs0 hb0;go_enter Tryz.func60,Tryz.ntmps60;go_upto_region 9 with(fail);clear hw1 SK;go_upto_region 10 with(at_builtin;refine qA (t:=96) (t':=3) (w':=W1) rfl (.tmp 34) (.tmp 39) rfl rfl rfl (Bd.out _) ?_)
 go_upto_region 11 with(refine h_ (t:=96) (t':=96) (w':=W2) rfl (.tmp 43) (.tmp 44) rfl rfl rfl (dw.out _ _ _) ?_)
 go_simp;clear Bd dw CS hroom hge hic;go_still_tail 8,(by kernel_rfl)
 change wpList _ _ _ _ _ W2.drew;go_wp2_with (refine h_ rfl (.tmp 50) (.tmp 53) rfl rfl rfl (nu.out _ _ _) ?_)
 go_ret;have h5:=eU.out;rw[List.append_assoc]at h5;exact h5
theorem IC(hown:aA bC 108 19 w B vr l)(hB:B≤w.heap.size)(hlen:l.length≤1000000)(pV:bD bC 19 l)(hE:bD bC 19 [row])(hz:w.heap[zv]?=some (.cells (bC row).toArray 108))(hne:vr.ownBlock≠some zv){i:Nat}(hi:i≤l.length) :
 Calls Tryz.prog 60 #[vr,.int .i64 i,.slice (some ⟨zv,0,none⟩) 1 1] w (FY B vr (l.take i++[row]++l.drop i) w):=by
 by_cases h:i<l.length
 ·obtain⟨p,c,hv,_,_⟩:=hown.shape
  by_cases hr:l.length+1≤c
  ·exact F0 hown hB hlen pV hE hz hne h hv hr
  ·exact F3 hown hB hlen pV hE hz h hv (by omega)
 ·obtain rfl:i=l.length:=by omega
  rw[List.take_length,List.drop_length,List.append_nil];exact FZ hown hB hlen hE hz
end
section
variable {N:Nat}{w w':World}{B:Nat}{F:Nat→Prop}{s:iy N}
def sI(l:List (ct N))(r k:Tm (N+1))(po:Option Addr)(er:Int):Prop:=(aC k=false∧po=none∧er=2)∨(aC k=true∧mJ l r po er)
theorem jl(h:cN w B F s)(hlen:s.tabs.length≤1000){r k:Tm (N+1)}{ur uk:Value}{B2:Nat}(hB:B2≤w.heap.size)(hI:ah w B2 N ur r.items)(hJ:ah w B2 N uk k.items)(hn:300*(ap k:Int)≤1000000000000){po:Option Addr}{er:Int}(hR:sI s.tabs r k po er) :
 Calls Tryz.prog 55 #[.pointer (some ⟨s.z,0,none⟩),aj r.f ur,aj k.f uk] w fun e w'=>e=.returned (.tuple #[.pointer po,.int .i64 er])∧Below w.heap.size w w':=by
 obtain⟨hb0,dF,eK⟩:=bI w (av r.f ur) (av k.f uk);have iX:=Qh (fun(W:World) (hW:Qb w W) hR=>eV (h.below hW) hlen (Nat.le_trans hB hW.size) (hI.below hW hB) (po:=po) (er:=er) hR);have HV:=Qh (fun(W:World) (hW:Qb w W)=>eN (jQ N) W B2 uk k (Nat.le_trans hB hW.size) (hJ.below hW hB) hn);have HO:=Qh (fun(W:World) (hW:Qb w W)=>di (h.below hW).obj);obtain⟨pl,cl,hv,_,_⟩:=h.l.shape;obtain⟨pr,cr,gQ,_,_⟩:=hI.shape;obtain⟨pk,ck,ek,_,_⟩:=hJ.shape;rw[hv]at HO;unfold sI at hR;generalize aC k=vk at*;generalize s.z=z at*;rw[gQ]at iX hb0 dF eK ⊢
 rw[ek]at HV hb0 dF eK ⊢;generalize r.items.length=nr at*;generalize k.items.length=nk at*;have HR:=Qh hR;clear h hB hI hJ hn hR hv gQ ek;generalize r.f=fr at*;generalize k.f=fk at*;obtain⟨rk,ri,rg,rn,rf,ra,rb,rs⟩:=fr;obtain⟨kk,ki,kg,kn,kf,ka,kb,ks⟩:=fk;have eT:=Qh dF;have iW:=Qh eK;unfold aj at*;unfold aV at HV;unfold av at hb0 eT iW;dsimp only at iX HV hb0 eT iW ⊢;have bu:=Qh hb0;have iq:=(Array.getElem?_eq_some_iff.1 eT.out).1;clear dF eK hb0
 rcases HR.out with⟨rfl,rfl,rfl⟩|⟨rfl,hT⟩
 ·clear iX HR;go_enter Tryz.func55,Tryz.ntmps55;go_upto_region 1 with(fail);generalize((w.alloc (.cells (a9 rk ri rg rn rf ra (.slice pr nr cr) rb rs) 24)).alloc (.cells (a9 kk ki kg kn kf ka (.slice pk nk ck) kb ks) 24))=W1 at*;obtain⟨o0,o1,of⟩:=HO.out _ bu.out;obtain⟨y0,y1,y2,y3,y4,y5,y6,y7,y8,yf⟩:=aW (f:=⟨kk,ki,kg,kn,kf,ka,kb,ks⟩) (v:=.slice pk nk ck) iW.out;dsimp only at y0 y1 y2 y3 y4 y5 y6 y7 y8;go_wp2_with fail;refine(HV.out _ bu.out).mono ?_;rintro e w2 ⟨rfl,a_⟩;have bS:=Qh (bu.out.trans (a_.mono bu.out.size));clear a_ y0 y1 y2 y3 y4 y5 y6 y7 y8 yf
  go_wp2_with fail;go_ret2
  exact⟨rfl,bS.out⟩
 ·have HT:=Qh (fun W hW=>iX.out W hW hT);clear iX HR hT;go_enter Tryz.func55,Tryz.ntmps55;go_upto_region 1 with(fail);generalize((w.alloc (.cells (a9 rk ri rg rn rf ra (.slice pr nr cr) rb rs) 24)).alloc (.cells (a9 kk ki kg kn kf ka (.slice pk nk ck) kb ks) 24))=W1 at*;obtain⟨o0,o1,of⟩:=HO.out _ bu.out;obtain⟨y0,y1,y2,y3,y4,y5,y6,y7,y8,yf⟩:=aW (f:=⟨kk,ki,kg,kn,kf,ka,kb,ks⟩) (v:=.slice pk nk ck) iW.out;dsimp only at y0 y1 y2 y3 y4 y5 y6 y7 y8;go_wp2_with fail;refine(HV.out _ bu.out).mono ?_;rintro e w2 ⟨rfl,a_⟩;have bS:=Qh (bu.out.trans (a_.mono bu.out.size))
  obtain⟨x0,x1,x2,x3,x4,x5,x6,x7,x8,xf⟩:=aW (f:=⟨rk,ri,rg,rn,rf,ra,rb,rs⟩) (v:=.slice pr nr cr) ((a_.block _ iq).trans eT.out);dsimp only at x0 x1 x2 x3 x4 x5 x6 x7 x8;clear a_ y0 y1 y2 y3 y4 y5 y6 y7 y8 yf;go_wp2_with fail;refine(HT.out _ bS.out).mono ?_;rintro e w3 ⟨rfl,bN⟩;have dJ:=Qh (bS.out.trans (bN.mono bS.out.size));clear bN x0 x1 x2 x3 x4 x5 x6 x7 x8 xf;go_wp2_with fail;go_ret2
  exact⟨rfl,dJ.out⟩
end
section
variable {N:Nat}{w w':World}{B:Nat}{F F':Nat→Prop}{s:iy N}
theorem yV(h:cN w B F s){g:Nat}(hg:F g):dA w g=some 24:=by
 obtain⟨cur,M,h1,_⟩:=h.ty g hg;exact br h1
theorem dX{k k':Nat}{a b:TypeId}(h1:dA w k=some a)(h2:dA w k'=some b)(hne:a≠b):k≠k':=fun e=>by
 rw[e,h2]at h1;exact hne (Option.some.inj h1).symm
theorem cN.Nf(h:cN w B F s){i:Nat}{t t':ct N}(hi:s.tabs[i]?=some t)(hT:ax (fun k=>k=t.b∨t.vr.ownBlock=some k) w w')(hb:t'.b=t.b)(h':fZ w' B F' t')(hv:∀k,t'.vr.ownBlock=some k→t.vr.ownBlock=some k∨w.heap.size≤k)
 (hF:∀g,F g→F' g)(hty:Typed w' F')(hfl:∀g,F' g→g<w'.heap.size):cN w' B F' { s with tabs:=s.tabs.set i t' }:=by
 have OK:=h.tabs t (List.mem_of_getElem? hi);have hsame:∀k,k<w.heap.size→k≠t.b→t.vr.ownBlock≠some k→w'.heap[k]?=w.heap[k]?:=fun k hk h1 h2=>hT.block k hk (fun e=>by rcases e with e|e;exact h1 e;exact h2 e);have htb:=br OK.blk;have jL:∀k,t.vr.ownBlock=some k→dA w k=some 108:=fun k hk=>dW OK.rows hk;have OL:∀k a,k<w.heap.size→dA w k=some a→a≠98→a≠108→w'.heap[k]?=w.heap[k]?:=fun k a hk ha h1 h2=>hsame k hk (dX ha htb h1) (fun e=>dX ha (jL k e) h2 rfl)
 have zV:∀g,F g→w'.heap[g]?=w.heap[g]?:=fun g hg=>OL g 24 (h.fl g hg) (yV h hg) (by decide) (by decide);have hlt:i<s.tabs.length:=(List.getElem?_eq_some_iff.1 hi).1;have fQ:∀j u,(s.tabs.set i t')[j]?=some u→(j=i∧u=t')∨(j≠i∧s.tabs[j]?=some u):=fun j u hj=>by
  by_cases e:i=j
  ·subst e;rw[List.getElem?_set_self hlt]at hj;exact .inl ⟨rfl,(Option.some.inj hj).symm⟩
  ·rw[List.getElem?_set_ne e]at hj;exact .inr ⟨fun e'=>e e'.symm,hj⟩
 have xw:(s.tabs.set i t').map (·.b)=s.tabs.map (·.b):=by
  refine List.ext_getElem? fun j=>?_;rw[List.getElem?_map,List.getElem?_map,List.getElem?_set]
  by_cases e:i=j
  ·subst e;rw[if_pos rfl,if_pos hlt,hi];simp[hb]
  ·rw[if_neg e]
 refine⟨(OL _ 74 h.Kn (br h.obj) (by decide) (by decide)).trans h.obj,?_,fun u hu=>?_,by rw[xw];exact h.nd,fun j k tj tk hj hk hne q hq=>?_,h.low,hty,hfl⟩
 ·show aA fD 89 1 w' B s.vl ((s.tabs.set i t').map (·.b));rw[xw];exact h.l.same (fun k hk=>OL k 89 (h.l.lt hk).2 (dW h.l hk) (by decide) (by decide))
 ·obtain⟨j,hj⟩:=List.mem_iff_getElem?.1 hu
  rcases fQ j u hj with⟨_,rfl⟩|⟨hne,hj⟩
  ·exact h'
  ·have hu:=h.tabs u (List.mem_of_getElem? hj);have Ls:u.b≠t.b:=fun e=>by
    have h1:(s.tabs.map (·.b))[j]?=some t.b:=by rw[List.getElem?_map,hj,←e];rfl
    have h2:(s.tabs.map (·.b))[i]?=some t.b:=by rw[List.getElem?_map,hi];rfl
    have hjl:j<(s.tabs.map (·.b)).length:=(List.getElem?_eq_some_iff.1 h1).1;exact hne ((List.getElem?_inj hjl h.nd).1 (h1.trans h2.symm))
   refine hu.same (hsame _ hu.lt Ls (fun e=>dX (br hu.blk) (jL _ e) (by decide) rfl)) (fun q hq=>hsame q (hu.rows.lt hq).2 (dX (dW hu.rows hq) htb (by decide)) (h.Ov j i u t hj hi hne q hq)) zV hF
 ·rcases fQ j tj hj with⟨rfl,rfl⟩|⟨V_,hj2⟩
  ·rcases fQ k tk hk with⟨rfl,rfl⟩|⟨hk1,hk2⟩
   ·exact absurd rfl hne
   ·rcases hv q hq with h1|h1
    ·exact h.Ov j k t tk hi hk2 hne q h1
    ·intro e;have:=((h.tabs tk (List.mem_of_getElem? hk2)).rows.lt e).2;omega
  ·rcases fQ k tk hk with⟨rfl,rfl⟩|⟨hk1,hk2⟩
   ·intro e
    rcases hv q e with h1|h1
    ·exact h.Ov j k tj t hj2 hi hne q hq h1
    ·have:=((h.tabs tj (List.mem_of_getElem? hj2)).rows.lt hq).2;omega
   ·exact h.Ov j k tj tk hj2 hk2 hne q hq
end
end Go.Proofs.YtfbggmbmgohiiaaGreat.tb
