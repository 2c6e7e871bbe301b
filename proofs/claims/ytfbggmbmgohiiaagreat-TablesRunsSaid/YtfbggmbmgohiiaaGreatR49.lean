/- TeQ,TfA,TfB,TfC,TfD,TrF. No condition beyond theirs. -/
import Derived.Test.YtfbggmbmgohiiaaGreatR48
import Derived.LaidEqlPtr
set_option linter.unusedSimpArgs false
set_option linter.unusedVariables false
set_option maxHeartbeats 4000000
set_option maxRecDepth 100000
namespace Go.Proofs.YtfbggmbmgohiiaaGreat.tb
open Go.RowKit mem rec tm names
theorem TR(w:World)(a:Addr)(v0 v:Value)(hv:v.oneCell'=true)(h:w.cell? a=some v0)(hf:w.frozen? a=false):(storeVar 22 a v).run Tryz.prog w=.ok () (w.setCell a v):=DB 22 (by kernel_rfl) w a v0 v hv h hf
theorem TS(w:World)(a:Addr)(v:Value)(h:w.cell? a=some v):(loadVar 22 a).run Tryz.prog w=.ok v w:=by
 go_simp
section
variable {α:Type}{enc:α→List Value}{e s:Nat}
theorem lz{w:World}{B:Nat}{v:Value}{l:List α}(hown:aA enc e s w B v l)(h0:0<l.length):∃g cap cur,v=.slice (some ⟨g,0,none⟩) l.length cap∧B≤g∧w.heap[g]?=some (.cells cur e (0,0))∧l.length≤cap∧cap≤maxLen∧cur.size=cap*s∧cur.toList.take (l.length*s)=l.flatMap enc:=by
 obtain⟨_,h|h⟩:=hown
 ·omega
 ·exact h
theorem Mt{w:World}{B g c n:Nat}{l:List α}(hown:aA enc e s w B (.slice (some ⟨g,0,none⟩) n c) l)(hE:bD enc s l){i:Nat}(hi:i<l.length){x:α}(hx:bD enc s [x]) :
 ∃cur,w.heap[g]?=some (.cells cur e (0,0))∧i*s+s≤cur.size∧aA enc e s (w.setRow g (put cur.toList (i*s) (enc x)).toArray) B (.slice (some ⟨g,0,none⟩) n c) (l.set i x):=by
 obtain⟨g',cap,cur,hv,mC,hg,hnc,gW,hcs,tX⟩:=lz hown (by omega);simp only[Value.slice.injEq,Option.some.injEq,Addr.mk.injEq,and_true,true_and]at hv;obtain⟨rfl,rfl,rfl⟩:=hv;have hlx:(enc x).length=s:=(hx x List.mem_cons_self).1;have yF:cur.toList.length=c*s:=by rw[Array.length_toList];exact hcs
 have hb:i*s+s≤l.length*s:=by have:=Nat.mul_le_mul_right s (show i+1≤l.length from hi);rwa[Nat.add_mul,Nat.one_mul]at this
 have a_:l.length*s≤c*s:=Nat.mul_le_mul_right s hnc;have hsp:l.flatMap enc=(l.take i).flatMap enc++enc l[i]++(l.drop (i+1)).flatMap enc:=by
  have e:l=l.take i++l[i]::l.drop (i+1):=by rw[List.getElem_cons_drop,List.take_append_drop]
  conv=>lhs;rw[e]
  rw[List.flatMap_append,List.flatMap_cons,List.append_assoc]
 have hP:((l.take i).flatMap enc).length=i*s:=by rw[bH (hE.sub (fun a ha=>List.mem_of_mem_take ha)),List.length_take,Nat.min_eq_left (by omega)]
 have hput:=EV (X:=enc x) (tX.trans hsp) hP (by rw[hlx,(hE _ (List.getElem_mem hi)).1])
 refine⟨cur,hg,by omega,⟨?_,.inr ⟨g,c,(put cur.toList (i*s) (enc x)).toArray,by simp,mC,setRow_heap _ _ _ _ _ _ hg,by simpa using hnc,gW,?_,?_⟩⟩⟩
 ·refine bH (fun r hr=>?_)
  rcases List.mem_or_eq_of_mem_set hr with h|h
  ·exact hE r h
  ·subst h;exact hx _ List.mem_cons_self
 ·rw[List.size_toArray,nB (by rw[yF,hlx];omega),yF]
 ·rw[List.toList_toArray,List.length_set,hput,List.set_eq_take_append_cons_drop,if_pos hi,List.flatMap_append,List.flatMap_cons,List.append_assoc]
end
section
variable {N:Nat}{w W W':World}{B z:Nat}{F:Nat→Prop}{s:iy N}
theorem Nu{g c n:Nat}{l:List (Tm (N+1)×Value)}(hown:aA tE 24 9 w B (.slice (some ⟨g,0,none⟩) n c) l)(hE:bD tE 9 l){i:Nat}(hi:i<l.length){x:Tm (N+1)×Value}(hx:x.2.oneCell'=true) :
 ∃C,(storeVar 24 ⟨g,i*9,none⟩ (aj x.1.f x.2)).run Tryz.prog w=.ok () (w.setRow g C)∧aA tE 24 9 (w.setRow g C) B (.slice (some ⟨g,0,none⟩) n c) (l.set i x):=by
 have hX:bD tE 9 [x]:=fun y hy=>by
  obtain rfl:=List.mem_singleton.1 hy;exact⟨qC _,aH hx⟩
 obtain⟨cur,hg,hz,ho⟩:=Mt hown hE hi hX;refine⟨_,?_,ho⟩;have hst:=run_storeCells_at Tryz.prog g (i*9) 24 (aE x.1.f x.2) 0 cur w hg hz (aH hx);simp only[Nat.add_zero]at hst;have hlen:(aE x.1.f x.2).length=9:=rfl;have IK:(Tryz.prog.info? 24).map (·.size)=some 9:=by kernel_rfl
 have hc:(aj x.1.f x.2).cells.toList=aE x.1.f x.2:=rfl;have eK:(aj x.1.f x.2).cells.size=9:=rfl;cases hq:Tryz.prog.info? 24 with
 | none=>simp[hq]at IK
 | some ie =>
  have hs:ie.size=9:=by simpa[hq] using IK
  show(storeVar 24 ⟨g,i*9,none⟩ (aj x.1.f x.2)).run Tryz.prog w=.ok () (w.setRow g (put cur.toList (i*9) (aE x.1.f x.2)).toArray);unfold put;rw[hlen]at hst ⊢;simp[storeVar,sizeOf,typeInfo,hq,hs,hc,eK,hst,hlen]
noncomputable def dB(o:Tm (N+1))(l:List (ct N)):List (Tm (N+1)×Value):=(l.filter (fun t=>dL t.own o)).map (fun t=>(t.ref,t.ur))
structure lA{N:Nat}(w:World)(g ob:Nat)(rows:List (Tm (N+1)×Value))(W:World):Prop where
 T:ax (fun k=>k=g∨k=ob) w W
 out:∃vo,W.heap[ob]?=some (.cells #[vo] 22)∧aA tE 24 9 W w.heap.size vo rows
structure sU{N:Nat}(w:World)(B B2:Nat)(F:Nat→Prop)(s:iy N)(g ob zb:Nat)(o:Tm (N+1))(uo:Value):Prop where
 tb:cN w B F s
 tg:dA w g=some 89
 Fs:dA w ob=some 22
 hz:w.heap[zb]?=some (av o.f uo)
 io:ah w B2 N uo o.items
 g2:B2≤g
 o2:B2≤ob
variable {B2 g ob zb:Nat}{o:Tm (N+1)}{uo:Value}
theorem sU.keep(c:sU w B B2 F s g ob zb o uo)(T:ax (fun k=>k=g∨k=ob) w W){k:Nat}(h0:dA w k≠none)(h1:dA w k≠some 89)(h2:dA w k≠some 22):W.heap[k]?=w.heap[k]?:=by
 refine T.block k ?_ (fun e=>?_)
 ·unfold dA at h0;cases hq:w.heap[k]? with
  | none=>rw[hq]at h0;exact absurd rfl h0
  | some x=>exact(Qg hq)
 ·rcases e with rfl|rfl
  ·exact h1 c.tg
  ·exact h2 c.Fs
theorem sU.at_(c:sU w B B2 F s g ob zb o uo)(T:ax (fun k=>k=g∨k=ob) w W){t:ct N}(ht:t∈s.tabs) :
 W.heap[t.b]?=some (.cells (vG t).toArray 98)∧bl W F N t.ur t.ref.items∧bl W F N t.uo t.own.items∧(∀k,F k→k<W.heap.size)∧W.heap[zb]?=some (av o.f uo)∧ah W B2 N uo o.items:=by
 have h:=c.tb.tabs t ht;have hF:∀k,F k→W.heap[k]?=w.heap[k]?:=fun k hk=>c.keep T (by rw[yV c.tb hk];exact fun e=>nomatch e) (by rw[yV c.tb hk];decide) (by rw[yV c.tb hk];decide);have X3:=br h.blk;have Kz:dA w zb=some 24:=br (c:=#[_,_,_,_,_,_,_,_,_]) c.hz
 refine⟨(c.keep T (by rw[X3];exact fun e=>nomatch e) (by rw[X3];decide) (by rw[X3];decide)).trans h.blk,h.ld.mono hF (fun _ q=>q),h.pX.mono hF (fun _ q=>q),fun k hk=>Nat.lt_of_lt_of_le (c.tb.fl k hk) T.size,(c.keep T (by rw[Kz];exact fun e=>nomatch e) (by rw[Kz];decide) (by rw[Kz];decide)).trans c.hz,c.io.same (fun k hk=>T.block k ?_ (fun e=>?_))⟩
 ·have h1:ob<w.heap.size:=by
   have:=c.Fs;unfold dA at this;cases hq:w.heap[ob]? with
   | none=>rw[hq]at this;cases this
   | some x=>exact(Qg hq)
  have:=c.o2;omega
 ·have:=c.o2;have:=c.g2;rcases e with rfl|rfl <;> omega
def BZ(w:World)(g ob:Nat)(b:Bool)(rows:List (Tm (N+1)×Value))(W:World)(e:Ending)(w':World):Prop:=e=.returned (.bool b)∧lA w g ob rows w'∧w'.heap[g]?=W.heap[g]?
end
section
variable {N:Nat}{w W W':World}{B B2 z g ob zb:Nat}{F:Nat→Prop}{s:iy N}{o:Tm (N+1)}{uo:Value}{rows:List (Tm (N+1)×Value)}{t:ct N}
theorem kv{k:Nat}{T:TypeId}(h:dA w k=some T):k<w.heap.size:=by
 unfold dA at h;cases hq:w.heap[k]? with
 | none=>rw[hq]at h;cases h
 | some x=>exact(Qg hq)
structure wh(w W:World)(g ob:Nat)(vc v8:Value)(rows:List (Tm (N+1)×Value))(X:World):Prop where
 T:ax (fun k=>k=g∨k=ob) w X
 gg:X.heap[g]?=W.heap[g]?
 oc:X.heap[ob]?=some (.cells #[vc] 22)
 own:aA tE 24 9 X w.heap.size v8 rows
variable {X:World}{vc v8:Value}{fB:List (Tm (N+1)×Value)}
theorem lA.app(c:sU w B B2 F s g ob zb o uo)(E:lA w g ob rows W){vo:Value}(h1:W.heap[ob]?=some (.cells #[vo] 22))(h2:aA tE 24 9 W w.heap.size vo rows)(hb:Below W.heap.size W W'){xs:List (Tm (N+1)×Value)}(hA:dz tE 24 9 W' w.heap.size vo rows xs v8 X):wh w W g ob vo v8 (rows++xs) X:=by
 have mo:=kv c.tg;have X4:=kv c.Fs;have hs:=E.T.size;have hn:∀k,k<w.heap.size→vo.ownBlock≠some k:=fun k hk e=>by have:=(h2.lt e).1;omega
 refine⟨hA.aX (E.T.bJ hb hs) (fun k hk hkw=>absurd hk (hn k hkw)),?_,?_,hA.own⟩
 ·exact(hA.other (by have:=hb.size;omega) (hn g mo)).trans (hb.block g (by omega))
 ·exact(hA.other (by have:=hb.size;omega) (hn ob X4)).trans ((hb.block ob (by omega)).trans h1)
theorem wh.row(c:sU w B B2 F s g ob zb o uo)(h:wh w W g ob vc v8 rows X){g8 n8 c8:Nat}(hv:v8=.slice (some ⟨g8,0,none⟩) n8 c8){C:Array Value}(ho:aA tE 24 9 (X.setRow g8 C) w.heap.size v8 fB):wh w W g ob vc v8 fB (X.setRow g8 C):=by
 have h8:w.heap.size≤g8:=(h.own.lt (k:=g8) (by rw[hv];rfl)).1;have mo:=kv c.tg;have X4:=kv c.Fs;exact⟨h.T.trans (aB X g8 C) (fun k hk e=>by omega),(setRow_other _ _ _ _ (by omega)).trans h.gg,(setRow_other _ _ _ _ (by omega)).trans h.oc,ho⟩
theorem wh.cell(c:sU w B B2 F s g ob zb o uo)(h:wh w W g ob vc v8 rows X):wh w W g ob v8 v8 rows (X.setCell ⟨ob,0,none⟩ v8):=by
 have mo:=kv c.tg;have X4:=kv c.Fs;have hgo:g≠ob:=dX c.tg c.Fs (by decide);refine⟨ax.setCell h.T ⟨ob,0,none⟩ v8 (fun _=>.inr rfl),(Below.heap_setCell _ _ _ _ hgo).trans h.gg,fp h.oc v8,h.own.same (fun k hk=>Below.heap_setCell _ _ _ _ (fun e=>?_))⟩;have:=(h.own.lt hk).1;have e:k=ob:=e;omega
theorem wh.done(h:wh w W g ob v8 v8 rows X):lA w g ob rows X∧X.heap[g]?=W.heap[g]?:=⟨⟨h.T,v8,h.oc,h.own⟩,h.gg⟩
theorem wh.at_(h:wh w W g ob vc v8 rows X):X.cell? ⟨ob,0,none⟩=some vc∧X.frozen? ⟨ob,0,none⟩=false:=⟨cm (x:=[vc]) h.oc 0 _ rfl,by simp only[World.frozen?,h.oc];simp⟩
theorem Jz(c:sU w B B2 F s g ob zb o uo)(E:lA w g ob rows W)(hE:bD tE 9 rows)(hlen:rows.length≤1000)(ht:t∈s.tabs) :
 Calls Tryz.prog 65 #[.pointer (some ⟨t.b,0,none⟩),.pointer (some ⟨zb,0,none⟩),.pointer (some ⟨ob,0,none⟩)] W (BZ w g ob (dL t.own o) (rows++(if dL t.own o then[(t.ref,t.ur)] else[])) W):=by
 have HF:=Qh (fun(X:World) (hT:ax (fun k=>k=g∨k=ob) w X)=>(show X.rangeAt t.b 0 (aE t.ref.f t.ur)∧X.rangeAt t.b 9 (aE t.own.f t.uo)∧X.rangeAt zb 0 (aE o.f uo) from by
  obtain⟨f1,f2,f3,f4,f5,f6⟩:=c.at_ hT ht
  obtain⟨d1,d2,_⟩:=dN f1
  exact⟨kR d1,kR d2,aq (x:=aE o.f uo) f5⟩))
 have HS:=Qh (fun(X:World) (hT:ax (fun k=>k=g∨k=ob) w X)=>(show Calls Tryz.prog 66 #[aj t.own.f t.uo,aj o.f uo] X (aV (dL t.own o) X) from by
  obtain⟨f1,f2,f3,f4,f5,f6⟩:=c.at_ hT ht
  exact yU f4 f3 (by have:=c.o2;have:=kv c.Fs;have:=hT.size;omega) f6))
 have OK:=c.tb.tabs t ht;have hur:=l_ OK.ld;obtain⟨p1,c1,e1,_,_⟩:=bl.shape OK.ld;obtain⟨p2,c2,e2,_,_⟩:=bl.shape OK.pX;obtain⟨p3,c3,e3,_,_⟩:=c.io.shape;obtain⟨vo,ho,hown⟩:=E.out;have hos:=hown.shape;obtain⟨po,co,eo,_,_⟩:=hos;have X5:=E.T;have HC:=Qh c;have Rm:=Qh E;have UX:=Qh hE;have HO:=Qh ho;have mE:=Qh hown;obtain⟨rt,UY⟩:∃x,x=(t.ref,t.ur):=⟨_,rfl⟩;rw[←UY];have lJ:aj t.ref.f t.ur=aj rt.1.f rt.2:=by rw[UY]
 have uz:rt.2.oneCell'=true:=by rw[UY];exact hur
 have nu:=Qh uz;rw[e1]at HF lJ;rw[e2]at HF HS;rw[e3]at HF HS HC;have bu:=Qh (fun X (hb:Qb W X)=>X5.bJ hb X5.size);clear E hE ho hown X5 OK UY e1 e2 e3 ht uz hur;rw[eo]at HO mE;generalize dL t.own o=qb at*;obtain⟨rq,X6⟩:∃x,rows++(if qb=true then[rt] else[])=x:=⟨_,rfl⟩;rw[X6];have HRq:=Qh X6;clear X6;generalize hrl:rows.length=n at*;generalize B0:(o:Tm (N+1))=ot at*;generalize t.ref.items.length=n1 at*;generalize t.own.items.length=n2 at*;generalize ot.items.length=n3 at*;generalize t.ref.f=fa at*;generalize t.own.f=fb at*
 have hcf:∃fo,ot.f=fo:=⟨_,rfl⟩;generalize vO:ot.f=fo at HF HS;generalize t.b=tb at*;obtain⟨zE,zF,zG,zH,zI,zJ,zK,zL⟩:=fa;obtain⟨zX,zY,zZ,z9,z_,Aa,Ab,Ac⟩:=fb;obtain⟨JA,JB,JC,JD,JE,JF,JG,JH⟩:=fo;unfold aE at HF;unfold aj aV at HS;unfold aj at lJ;dsimp only at HF HS;clear c hcf B0;have cE:(Tryz.prog.info? 24).map (·.size)=some 9:=by kernel_rfl
 have hb0:=aZ (Below.refl W.heap.size W);have hT:=bu.out _ hb0;go_enter Tryz.func65,Tryz.ntmps65;go_upto_region 1 with(fail)
 refine wp_region_held_drew (S:=(fun w'=>w'.rangeAt tb 9 (l9 zX zY zZ z9 z_ Aa (.slice p2 n2 c2) Ab Ac)∧w'.rangeAt zb 0 (l9 JA JB JC JD JE JF (.slice p3 n3 c3) JG JH))) (by kernel_rfl) ?_ (fun hHeld=>?_)
 ·exact(HF.out _ hT).2
 generalize W.drew=wd at*;refine wpAnyH_take (i:=0) (oi:={ dst:=some 5,op:=Op.move (Operand.tmp 0),type:=89,pos := "tables.go:211",after:=#[],guard:=none }) (v:=?aau) rfl (by kernel_rfl) (by kernel_rfl) (by kernel_rfl) (fun _ _ _ h=>h) (Or.inl ⟨by rfl,?hyA0⟩) (by assumption) ?aav;case hyA0=>
  intro w hSw;(try dsimp only at hSw)
  go_simp;(try with_reducible rfl)
 (try simp only[Act.put,List.setIfInBounds_toArray,List.set_cons_zero,List.set_cons_succ])
 refine wpAnyH_take (i:=1) (oi:={ dst:=some 6,op:=Op.nilCheck (Operand.tmp 5),type:=0,pos := "tables.go:211",after:=#[{ on:=0,ground:=Ground.data }],guard:=none }) (v:=?aaw) rfl (by kernel_rfl) (by kernel_rfl) (by kernel_rfl) (fun _ _ _ h=>h) (Or.inl ⟨by rfl,?hyA1⟩) (by assumption) ?aax;case hyA1=>
  intro w hSw;(try dsimp only at hSw)
  go_simp;(try with_reducible rfl)
 (try simp only[Act.put,List.setIfInBounds_toArray,List.set_cons_zero,List.set_cons_succ])
 refine wpAnyH_take (i:=2) (oi:={ dst:=some 7,op:=Op.fieldAddr 98 (Operand.tmp 6) 1,type:=0,pos := "tables.go:211",after:=#[{ on:=1,ground:=Ground.data }],guard:=none }) (v:=?aay) rfl (by kernel_rfl) (by kernel_rfl) (by kernel_rfl) (fun _ _ _ h=>h) (Or.inl ⟨by rfl,?hyA2⟩) (by assumption) ?aaz;case hyA2=>
  intro w hSw;(try dsimp only at hSw)
  go_simp;(try with_reducible rfl)
 (try simp only[Act.put,List.setIfInBounds_toArray,List.set_cons_zero,List.set_cons_succ])
 refine wpAnyH_take (i:=3) (oi:={ dst:=some 8,op:=Op.load 24 (Operand.tmp 7),type:=24,pos := "tables.go:211",after:=#[{ on:=2,ground:=Ground.data }],guard:=none }) rfl (by kernel_rfl) (by kernel_rfl) (by kernel_rfl) (fun _ _ _ h=>h) (yieldsIf_load_mid (by rfl) 24 (.tmp 7) rfl tb 9 rfl (l9 zX zY zZ z9 z_ Aa (.slice p2 n2 c2) Ab Ac) _ (fun w hs=>hs.1) Tryz.underlying24 rfl cE) (by assumption) ?_;(try simp only[Act.put,List.setIfInBounds_toArray,List.set_cons_zero,List.set_cons_succ])
 refine wpAnyH_take (i:=4) (oi:={ dst:=some 9,op:=Op.load 24 (Operand.tmp 1),type:=24,pos := "tables.go:211",after:=#[],guard:=none }) rfl (by kernel_rfl) (by kernel_rfl) (by kernel_rfl) (fun _ _ _ h=>h) (yieldsIf_load_mid (by rfl) 24 (.tmp 1) rfl zb 0 rfl (l9 JA JB JC JD JE JF (.slice p3 n3 c3) JG JH) _ (fun w hs=>hs.2) Tryz.underlying24 rfl cE) (by assumption) ?_;(try simp only[Act.put,List.setIfInBounds_toArray,List.set_cons_zero,List.set_cons_succ])
 refine wpAnyH_ready (rs:=[5]) (by kernel_rfl) (by simp) ?_;refine(AllReadyH.cons (o:={ dst:=some 10,op:=Op.call { callee:=Callee.value (Operand.func 66),args:=#[Operand.tmp 8,Operand.tmp 9],argTypes:=#[24,24] },type:=4,pos := "tables.go:211",after:=#[{ on:=3,ground:=Ground.data },{ on:=4,ground:=Ground.data }],guard:=none }) rfl (fun K hK=>?_) AllReadyH.nil);go_simp;refine(HS.out _ hT).mono ?_;rintro e w2 ⟨rfl,a_⟩;have bN:=hb0.trans (a_.mono hb0.size);have wO:=bu.out _ bN;clear a_;go_wp2_with fail
 refine hK.out _ _ ?_ (fun hHeld=>?_)
 ·exact(HF.out _ wO).2
 clear hK K;(try simp only[Act.put,List.setIfInBounds_toArray,List.set_cons_zero,List.set_cons_succ])
 refine wpAnyH_take (i:=6) (oi:={ dst:=some 11,op:=Op.unOp UnOp.not 4 (Operand.tmp 10),type:=4,pos := "tables.go:211",after:=#[{ on:=5,ground:=Ground.data }],guard:=none }) (v:=?aaA) rfl (by kernel_rfl) (by kernel_rfl) (by kernel_rfl) (fun _ _ _ h=>h) (Or.inl ⟨by rfl,?hyA6⟩) (by assumption) ?aaB;case hyA6=>
  intro w hSw;(try dsimp only at hSw)
  go_simp;(try with_reducible rfl)
 (try simp only[Act.put,List.setIfInBounds_toArray,List.set_cons_zero,List.set_cons_succ])
 refine wpAnyH_done (by kernel_rfl) ?_ _
 cases qb
 ·go_wp2_with fail;go_ret;have e0:rq=rows:=by rw[←HRq.out,if_neg (by decide),List.append_nil]
  rw[e0];exact⟨rfl,⟨wO,_,((bN.block ob (by have:=kv HC.out.Fs;have:=Rm.out.T.size;omega)).trans HO.out),mE.out.below bN⟩,bN.block g (by have:=kv HC.out.tg;have:=Rm.out.T.size;omega)⟩
 ·have e0:rows++[rt]=rq:=by rw[←HRq.out,if_pos rfl]
  have E2:lA w g ob rows w2.drew:=⟨bu.out _ (bN.trans ((aZ (Below.refl w2.heap.size w2)).mono bN.size)),_,(((aZ (Below.refl w2.heap.size w2)).mono bN.size).block ob (by have:=kv HC.out.Fs;have:=Rm.out.T.size;omega)).trans ((bN.block ob (by have:=kv HC.out.Fs;have:=Rm.out.T.size;omega)).trans HO.out),mE.out.below (bN.trans ((aZ (Below.refl w2.heap.size w2)).mono bN.size))⟩;have dS:=bN.trans ((aZ (Below.refl w2.heap.size w2)).mono bN.size);have UZ:=Qh ((dS.block ob (by have:=kv HC.out.Fs;have:=Rm.out.T.size;omega)).trans HO.out)
  have TU:=Qh (mE.out.below dS);have hgg:w2.drew.heap[g]?=W.heap[g]?:=dS.block g (by have:=kv HC.out.tg;have:=Rm.out.T.size;omega);go_upto_region 3 with(fail);have D0:=(HF.out _ E2.T).1
  refine wp_region_held_drew (S:=(fun w'=>w'.rangeAt tb 0 (l9 zE zF zG zH zI zJ (.slice p1 n1 c1) zK zL))) (by kernel_rfl) ?_ (fun hHeld=>?_)
  ·exact D0
  generalize w2.drew=Rn at*;have hba:=aG (Below.refl Rn.heap.size Rn) cQ (Nat.le_refl _);have hZ:=aF Rn cQ;have U0:bD tE 9 [((zT:Tm (N+1)),aK)]:=fun y hy=>by
   obtain rfl:=List.mem_singleton.1 hy;exact⟨qC _,aH rfl⟩
  have hfr:bq tE 9 (Rn.alloc cQ) (Rn.heap.size+1) (.slice (some ⟨Rn.heap.size,0,none⟩) 1 1) [((zT:Tm (N+1)),aK)]:=bq.fresh (c:=1) U0 (by decide) hZ (Nat.le_refl _) (by decide);obtain⟨v8,W9,Tz,Rk⟩:=nS II (TU.out.below hba) (Nat.le_trans E2.T.size hba.size) 22 hfr U0 (by simp;omega) (by decide) (by decide);have hM:=lA.app HC.out E2 UZ.out TU.out hba Rk;have hE9:bD tE 9 (rows++[((zT:Tm (N+1)),aK)]):=UX.out.append U0;obtain⟨g8,c8,aaC,e8,_,_,_,_,_,_⟩:=lz hM.own (by simp)
  have WO:(rows++[((zT:Tm (N+1)),aK)]).length=n+1:=by rw[List.length_append,hrl];rfl
  rw[WO]at e8;subst e8;have fQ:(rows++[((zT:Tm (N+1)),aK)]).set n rt=rows++[rt]:=by
   rw[List.set_append_right _ _ (by omega),hrl,Nat.sub_self];rfl
  obtain⟨C1,hs1,oX⟩:=Nu hM.own hE9 (i:=n) (by omega) (x:=rt) nu.out;have X7:=hM.cell HC.out;obtain⟨C2,iw,ud⟩:=Nu X7.own hE9 (i:=n) (by omega) (x:=rt) nu.out;rw[fQ]at oX ud;unfold aj at hs1 iw;rw[←lJ]at hs1 iw;clear lJ;have ox:=hM.row HC.out rfl oX;have ju:=X7.row HC.out rfl ud;have TV:=(ox.cell HC.out).done;have TW:=ju.done;rw[hgg,e0]at TV TW;obtain⟨k1,k2⟩:=hM.at_;obtain⟨k3,k4⟩:=ox.at_;have Mu:=TR W9 ⟨ob,0,none⟩ _ (.slice (some ⟨g8,0,none⟩) (n+1) c8) rfl k1 k2;have Mv:=TR _ ⟨ob,0,none⟩ _ (.slice (some ⟨g8,0,none⟩) (n+1) c8) rfl k3 k4
  have Ft:=(HF.out _ (E2.T.bJ hba E2.T.size)).1;have Fu:=(HF.out _ hM.T).1;have rP:=(HF.out _ X7.T).1;have rQ:=(HF.out _ ox.T).1;have rR:=(HF.out _ ju.T).1;have rS:=(HF.out _ (ox.cell HC.out).T).1;have GW:=cm (x:=[.slice po n co]) UZ.out 0 _ rfl;have ho5:=cm (x:=[.slice po n co]) ((hba.block ob (Array.getElem?_eq_some_iff.1 UZ.out).1).trans UZ.out) 0 _ rfl;have r1:(n:Int)<(n:Int)+1:=by omega
  have r2:n<n+1:=by omega
  clear k1 k2 k3 k4 Rk hfr hZ U0 hba;refine wpAnyH_take (i:=1) (oi:={ dst:=some 13,op:=Op.move (Operand.tmp 0),type:=89,pos := "tables.go:214",after:=#[],guard:=none }) (v:=?aaD) rfl (by kernel_rfl) (by kernel_rfl) (by kernel_rfl) (fun _ _ _ h=>h) (Or.inl ⟨by rfl,?hyB1⟩) (by assumption) ?aaE;case hyB1=>
   intro w hSw;(try dsimp only at hSw)
   go_simp;(try with_reducible rfl)
  (try simp only[Act.put,List.setIfInBounds_toArray,List.set_cons_zero,List.set_cons_succ])
  refine wpAnyH_take (i:=2) (oi:={ dst:=some 14,op:=Op.nilCheck (Operand.tmp 13),type:=0,pos := "tables.go:214",after:=#[{ on:=1,ground:=Ground.data }],guard:=none }) (v:=?aaF) rfl (by kernel_rfl) (by kernel_rfl) (by kernel_rfl) (fun _ _ _ h=>h) (Or.inl ⟨by rfl,?hyB2⟩) (by assumption) ?aaG;case hyB2=>
   intro w hSw;(try dsimp only at hSw)
   go_simp;(try with_reducible rfl)
  (try simp only[Act.put,List.setIfInBounds_toArray,List.set_cons_zero,List.set_cons_succ])
  refine wpAnyH_take (i:=3) (oi:={ dst:=some 15,op:=Op.fieldAddr 98 (Operand.tmp 14) 0,type:=0,pos := "tables.go:214",after:=#[{ on:=2,ground:=Ground.data }],guard:=none }) (v:=?aaH) rfl (by kernel_rfl) (by kernel_rfl) (by kernel_rfl) (fun _ _ _ h=>h) (Or.inl ⟨by rfl,?hyB3⟩) (by assumption) ?aaI;case hyB3=>
   intro w hSw;(try dsimp only at hSw)
   go_simp;(try with_reducible rfl)
  (try simp only[Act.put,List.setIfInBounds_toArray,List.set_cons_zero,List.set_cons_succ])
  refine wpAnyH_take (i:=4) (oi:={ dst:=some 16,op:=Op.load 24 (Operand.tmp 15),type:=24,pos := "tables.go:214",after:=#[{ on:=3,ground:=Ground.data }],guard:=none }) rfl (by kernel_rfl) (by kernel_rfl) (by kernel_rfl) (fun _ _ _ h=>h) (yieldsIf_load_mid (by rfl) 24 (.tmp 15) rfl tb 0 rfl (l9 zE zF zG zH zI zJ (.slice p1 n1 c1) zK zL) _ (fun w hs=>hs) Tryz.underlying24 rfl cE) (by assumption) ?_;(try simp only[Act.put,List.setIfInBounds_toArray,List.set_cons_zero,List.set_cons_succ])
  refine wpAnyH_ready (rs:=[0,6]) (by kernel_rfl) (by simp) ?_
  refine(AllReadyH.cons (o:={ dst:=some 12,op:=Op.load 22 (Operand.tmp 2),type:=22,pos := "tables.go:214",after:=#[],guard:=none }) rfl (fun K hK=>?_) (AllReadyH.cons (o:={ dst:=some 18,op:=Op.buildSlice 22 1 #[(0,Operand.const (Value.agg #[Value.int IntKind.i64 0,Value.int IntKind.i64 0,Value.int IntKind.i64 0,Value.string { data:=#[] },Value.string { data:=#[] },Value.int IntKind.i64 0,Value.slice none 0 0,Value.string { data:=#[] },Value.int IntKind.i64 0]))],type:=22,pos := "tables.go:214",after:=#[],guard:=none }) rfl (fun K hK=>?_) AllReadyH.nil))
  ·refine cH (by rfl) 22 (.tmp 2) rfl (p:=⟨ob,0,none⟩) (v:=.slice po n co) rfl (TS _ _ _ ?_) ?_
   ·first|exact ho5|exact GW
   refine hK.out _ _ ?_ (fun hHeld=>?_)
   ·first|exact Fu|exact Ft|exact D0|exact rP|exact rQ|exact rR|exact rS
   clear hK K;(try simp only[Act.put,List.setIfInBounds_toArray,List.set_cons_zero,List.set_cons_succ])
   refine wpAnyH_take (i:=5) (oi:={ dst:=some 17,op:=Op.call { callee:=Callee.builtin Builtin.len,args:=#[Operand.tmp 12],argTypes:=#[22] },type:=3,pos := "tables.go:214",after:=#[{ on:=0,ground:=Ground.data }],guard:=none }) (v:=?X8) rfl (by kernel_rfl) (by kernel_rfl) (by kernel_rfl) (fun _ _ _ h=>h) (Or.inl ⟨by rfl,?hyBx05⟩) (by assumption) ?X_;case hyBx05=>
    intro w hSw;(try dsimp only at hSw)
    go_simp;(try with_reducible rfl)
   (try simp only[Act.put,List.setIfInBounds_toArray,List.set_cons_zero,List.set_cons_succ])
   refine wpAnyH_ready (rs:=[6]) (by kernel_rfl) (by simp) ?_;refine(AllReadyH.cons (o:={ dst:=some 18,op:=Op.buildSlice 22 1 #[(0,Operand.const (Value.agg #[Value.int IntKind.i64 0,Value.int IntKind.i64 0,Value.int IntKind.i64 0,Value.string { data:=#[] },Value.string { data:=#[] },Value.int IntKind.i64 0,Value.slice none 0 0,Value.string { data:=#[] },Value.int IntKind.i64 0]))],type:=22,pos := "tables.go:214",after:=#[],guard:=none }) rfl (fun K hK=>?_) AllReadyH.nil);go_simp
   refine hK.out _ _ ?_ (fun hHeld=>?_)
   ·first|exact Fu|exact Ft|exact D0|exact rP|exact rQ|exact rR|exact rS
   clear hK K;(try simp only[Act.put,List.setIfInBounds_toArray,List.set_cons_zero,List.set_cons_succ])
   refine wpAnyH_ready (rs:=[7]) (by kernel_rfl) (by simp) ?_;refine(AllReadyH.cons (o:={ dst:=some 19,op:=Op.call { callee:=Callee.builtin Builtin.append,args:=#[Operand.tmp 12,Operand.tmp 18],argTypes:=#[22,22] },type:=22,pos := "tables.go:214",after:=#[{ on:=0,ground:=Ground.data },{ on:=6,ground:=Ground.data },{ on:=0,ground:=Ground.phase },{ on:=1,ground:=Ground.phase },{ on:=2,ground:=Ground.phase },{ on:=3,ground:=Ground.phase },{ on:=4,ground:=Ground.phase },{ on:=5,ground:=Ground.phase },{ on:=6,ground:=Ground.phase }],guard:=none }) rfl (fun K hK=>?_) AllReadyH.nil)
   refine bA (t:=22) (t':=22) (w':=W9) (v:=.slice (some ⟨g8,0,none⟩) (n+1) c8) rfl (.tmp 12) (.tmp 18) rfl rfl rfl Tz ?_
   refine hK.out _ _ ?_ (fun hHeld=>?_)
   ·first|exact Fu|exact Ft|exact D0|exact rP|exact rQ|exact rR|exact rS
   clear hK K;(try simp only[Act.put,List.setIfInBounds_toArray,List.set_cons_zero,List.set_cons_succ])
   refine wpAnyH_take (i:=8) (oi:={ dst:=some 20,op:=Op.indexAddr 22 (Operand.tmp 19) (Operand.tmp 17),type:=0,pos := "tables.go:214",after:=#[{ on:=7,ground:=Ground.data },{ on:=5,ground:=Ground.data },{ on:=0,ground:=Ground.phase },{ on:=1,ground:=Ground.phase },{ on:=2,ground:=Ground.phase },{ on:=3,ground:=Ground.phase },{ on:=4,ground:=Ground.phase },{ on:=5,ground:=Ground.phase },{ on:=6,ground:=Ground.phase },{ on:=7,ground:=Ground.phase },{ on:=10,ground:=Ground.gcOnly Departure.appendInPlace }],guard:=none }) (v:=?Ya) rfl (by kernel_rfl) (by kernel_rfl) (by kernel_rfl) (fun _ _ _ h=>h) (Or.inl ⟨by rfl,?hyBx08⟩) (by assumption) ?Yb
   case hyBx08=>
    intro w hSw;(try dsimp only at hSw)
    go_simp;(try with_reducible rfl)
   (try simp only[Act.put,List.setIfInBounds_toArray,List.set_cons_zero,List.set_cons_succ])
   refine wpAnyH_ready (rs:=[9,10]) (by kernel_rfl) (by simp) ?_
   refine(AllReadyH.cons (o:={ dst:=none,op:=Op.store 24 (Operand.tmp 20) (Operand.tmp 16),type:=0,pos := "tables.go:214",after:=#[{ on:=8,ground:=Ground.data },{ on:=4,ground:=Ground.data },{ on:=7,ground:=Ground.chain },{ on:=0,ground:=Ground.phase },{ on:=1,ground:=Ground.phase },{ on:=2,ground:=Ground.phase },{ on:=3,ground:=Ground.phase },{ on:=4,ground:=Ground.phase },{ on:=5,ground:=Ground.phase },{ on:=6,ground:=Ground.phase },{ on:=7,ground:=Ground.phase },{ on:=10,ground:=Ground.gcOnly Departure.appendInPlace }],guard:=none }) rfl (fun K hK=>?_) (AllReadyH.cons (o:={ dst:=none,op:=Op.store 22 (Operand.tmp 2) (Operand.tmp 19),type:=0,pos := "tables.go:214",after:=#[{ on:=7,ground:=Ground.data },{ on:=7,ground:=Ground.chain },{ on:=9,ground:=Ground.textOnly Departure.appendInPlace },{ on:=0,ground:=Ground.phase },{ on:=1,ground:=Ground.phase },{ on:=2,ground:=Ground.phase },{ on:=3,ground:=Ground.phase },{ on:=4,ground:=Ground.phase },{ on:=5,ground:=Ground.phase },{ on:=6,ground:=Ground.phase },{ on:=7,ground:=Ground.phase },{ on:=8,ground:=Ground.textOnly Departure.appendInPlace },{ on:=9,ground:=Ground.textOnly Departure.appendInPlace }],guard:=none }) rfl (fun K hK=>?_) AllReadyH.nil))
   ·refine aR (by rfl) 24 (.tmp 20) (.tmp 16) rfl (p:=⟨g8,n*9,none⟩) rfl rfl (by first|exact hs1|exact iw) ?_
    refine hK.out _ _ ?_ (fun hHeld=>?_)
    ·first|exact Fu|exact Ft|exact D0|exact rP|exact rQ|exact rR|exact rS
    clear hK K;(try simp only[Act.put,List.setIfInBounds_toArray,List.set_cons_zero,List.set_cons_succ])
    refine wpAnyH_ready (rs:=[10]) (by kernel_rfl) (by simp) ?_
    refine(AllReadyH.cons (o:={ dst:=none,op:=Op.store 22 (Operand.tmp 2) (Operand.tmp 19),type:=0,pos := "tables.go:214",after:=#[{ on:=7,ground:=Ground.data },{ on:=7,ground:=Ground.chain },{ on:=9,ground:=Ground.textOnly Departure.appendInPlace },{ on:=0,ground:=Ground.phase },{ on:=1,ground:=Ground.phase },{ on:=2,ground:=Ground.phase },{ on:=3,ground:=Ground.phase },{ on:=4,ground:=Ground.phase },{ on:=5,ground:=Ground.phase },{ on:=6,ground:=Ground.phase },{ on:=7,ground:=Ground.phase },{ on:=8,ground:=Ground.textOnly Departure.appendInPlace },{ on:=9,ground:=Ground.textOnly Departure.appendInPlace }],guard:=none }) rfl (fun K hK=>?_) AllReadyH.nil)
    refine aR (by rfl) 22 (.tmp 2) (.tmp 19) rfl (p:=⟨ob,0,none⟩) (v:=.slice (some ⟨g8,0,none⟩) (n+1) c8) rfl rfl (by first|exact Mu|exact Mv) ?_
    refine hK.out _ _ ?_ (fun hHeld=>?_)
    ·first|exact Fu|exact Ft|exact D0|exact rP|exact rQ|exact rR|exact rS
    clear hK K;(try simp only[Act.put,List.setIfInBounds_toArray,List.set_cons_zero,List.set_cons_succ])
    refine wpAnyH_done (by kernel_rfl) ?_ _;go_wp2_with fail;go_ret
    first|exact⟨rfl,TV⟩|exact⟨rfl,TW⟩
   ·refine aR (by rfl) 22 (.tmp 2) (.tmp 19) rfl (p:=⟨ob,0,none⟩) (v:=.slice (some ⟨g8,0,none⟩) (n+1) c8) rfl rfl (by first|exact Mu|exact Mv) ?_
    refine hK.out _ _ ?_ (fun hHeld=>?_)
    ·first|exact Fu|exact Ft|exact D0|exact rP|exact rQ|exact rR|exact rS
    clear hK K;(try simp only[Act.put,List.setIfInBounds_toArray,List.set_cons_zero,List.set_cons_succ])
    refine wpAnyH_ready (rs:=[9]) (by kernel_rfl) (by simp) ?_
    refine(AllReadyH.cons (o:={ dst:=none,op:=Op.store 24 (Operand.tmp 20) (Operand.tmp 16),type:=0,pos := "tables.go:214",after:=#[{ on:=8,ground:=Ground.data },{ on:=4,ground:=Ground.data },{ on:=7,ground:=Ground.chain },{ on:=0,ground:=Ground.phase },{ on:=1,ground:=Ground.phase },{ on:=2,ground:=Ground.phase },{ on:=3,ground:=Ground.phase },{ on:=4,ground:=Ground.phase },{ on:=5,ground:=Ground.phase },{ on:=6,ground:=Ground.phase },{ on:=7,ground:=Ground.phase },{ on:=10,ground:=Ground.gcOnly Departure.appendInPlace }],guard:=none }) rfl (fun K hK=>?_) AllReadyH.nil)
    refine aR (by rfl) 24 (.tmp 20) (.tmp 16) rfl (p:=⟨g8,n*9,none⟩) rfl rfl (by first|exact hs1|exact iw) ?_
    refine hK.out _ _ ?_ (fun hHeld=>?_)
    ·first|exact Fu|exact Ft|exact D0|exact rP|exact rQ|exact rR|exact rS
    clear hK K;(try simp only[Act.put,List.setIfInBounds_toArray,List.set_cons_zero,List.set_cons_succ])
    refine wpAnyH_done (by kernel_rfl) ?_ _;go_wp2_with fail;go_ret
    first|exact⟨rfl,TV⟩|exact⟨rfl,TW⟩
  ·go_simp
   refine hK.out _ _ ?_ (fun hHeld=>?_)
   ·first|exact Fu|exact Ft|exact D0|exact rP|exact rQ|exact rR|exact rS
   clear hK K;(try simp only[Act.put,List.setIfInBounds_toArray,List.set_cons_zero,List.set_cons_succ])
   refine wpAnyH_ready (rs:=[0]) (by kernel_rfl) (by simp) ?_;refine(AllReadyH.cons (o:={ dst:=some 12,op:=Op.load 22 (Operand.tmp 2),type:=22,pos := "tables.go:214",after:=#[],guard:=none }) rfl (fun K hK=>?_) AllReadyH.nil)
   refine cH (by rfl) 22 (.tmp 2) rfl (p:=⟨ob,0,none⟩) (v:=.slice po n co) rfl (TS _ _ _ ?_) ?_
   ·first|exact ho5|exact GW
   refine hK.out _ _ ?_ (fun hHeld=>?_)
   ·first|exact Fu|exact Ft|exact D0|exact rP|exact rQ|exact rR|exact rS
   clear hK K;(try simp only[Act.put,List.setIfInBounds_toArray,List.set_cons_zero,List.set_cons_succ])
   refine wpAnyH_take (i:=5) (oi:={ dst:=some 17,op:=Op.call { callee:=Callee.builtin Builtin.len,args:=#[Operand.tmp 12],argTypes:=#[22] },type:=3,pos := "tables.go:214",after:=#[{ on:=0,ground:=Ground.data }],guard:=none }) (v:=?Yc) rfl (by kernel_rfl) (by kernel_rfl) (by kernel_rfl) (fun _ _ _ h=>h) (Or.inl ⟨by rfl,?hyBx65⟩) (by assumption) ?Yd;case hyBx65=>
    intro w hSw;(try dsimp only at hSw)
    go_simp;(try with_reducible rfl)
   (try simp only[Act.put,List.setIfInBounds_toArray,List.set_cons_zero,List.set_cons_succ])
   refine wpAnyH_ready (rs:=[7]) (by kernel_rfl) (by simp) ?_;refine(AllReadyH.cons (o:={ dst:=some 19,op:=Op.call { callee:=Callee.builtin Builtin.append,args:=#[Operand.tmp 12,Operand.tmp 18],argTypes:=#[22,22] },type:=22,pos := "tables.go:214",after:=#[{ on:=0,ground:=Ground.data },{ on:=6,ground:=Ground.data },{ on:=0,ground:=Ground.phase },{ on:=1,ground:=Ground.phase },{ on:=2,ground:=Ground.phase },{ on:=3,ground:=Ground.phase },{ on:=4,ground:=Ground.phase },{ on:=5,ground:=Ground.phase },{ on:=6,ground:=Ground.phase }],guard:=none }) rfl (fun K hK=>?_) AllReadyH.nil)
   refine bA (t:=22) (t':=22) (w':=W9) (v:=.slice (some ⟨g8,0,none⟩) (n+1) c8) rfl (.tmp 12) (.tmp 18) rfl rfl rfl Tz ?_
   refine hK.out _ _ ?_ (fun hHeld=>?_)
   ·first|exact Fu|exact Ft|exact D0|exact rP|exact rQ|exact rR|exact rS
   clear hK K;(try simp only[Act.put,List.setIfInBounds_toArray,List.set_cons_zero,List.set_cons_succ])
   refine wpAnyH_take (i:=8) (oi:={ dst:=some 20,op:=Op.indexAddr 22 (Operand.tmp 19) (Operand.tmp 17),type:=0,pos := "tables.go:214",after:=#[{ on:=7,ground:=Ground.data },{ on:=5,ground:=Ground.data },{ on:=0,ground:=Ground.phase },{ on:=1,ground:=Ground.phase },{ on:=2,ground:=Ground.phase },{ on:=3,ground:=Ground.phase },{ on:=4,ground:=Ground.phase },{ on:=5,ground:=Ground.phase },{ on:=6,ground:=Ground.phase },{ on:=7,ground:=Ground.phase },{ on:=10,ground:=Ground.gcOnly Departure.appendInPlace }],guard:=none }) (v:=?Ye) rfl (by kernel_rfl) (by kernel_rfl) (by kernel_rfl) (fun _ _ _ h=>h) (Or.inl ⟨by rfl,?hyBx68⟩) (by assumption) ?Yf
   case hyBx68=>
    intro w hSw;(try dsimp only at hSw)
    go_simp;(try with_reducible rfl)
   (try simp only[Act.put,List.setIfInBounds_toArray,List.set_cons_zero,List.set_cons_succ])
   refine wpAnyH_ready (rs:=[9,10]) (by kernel_rfl) (by simp) ?_
   refine(AllReadyH.cons (o:={ dst:=none,op:=Op.store 24 (Operand.tmp 20) (Operand.tmp 16),type:=0,pos := "tables.go:214",after:=#[{ on:=8,ground:=Ground.data },{ on:=4,ground:=Ground.data },{ on:=7,ground:=Ground.chain },{ on:=0,ground:=Ground.phase },{ on:=1,ground:=Ground.phase },{ on:=2,ground:=Ground.phase },{ on:=3,ground:=Ground.phase },{ on:=4,ground:=Ground.phase },{ on:=5,ground:=Ground.phase },{ on:=6,ground:=Ground.phase },{ on:=7,ground:=Ground.phase },{ on:=10,ground:=Ground.gcOnly Departure.appendInPlace }],guard:=none }) rfl (fun K hK=>?_) (AllReadyH.cons (o:={ dst:=none,op:=Op.store 22 (Operand.tmp 2) (Operand.tmp 19),type:=0,pos := "tables.go:214",after:=#[{ on:=7,ground:=Ground.data },{ on:=7,ground:=Ground.chain },{ on:=9,ground:=Ground.textOnly Departure.appendInPlace },{ on:=0,ground:=Ground.phase },{ on:=1,ground:=Ground.phase },{ on:=2,ground:=Ground.phase },{ on:=3,ground:=Ground.phase },{ on:=4,ground:=Ground.phase },{ on:=5,ground:=Ground.phase },{ on:=6,ground:=Ground.phase },{ on:=7,ground:=Ground.phase },{ on:=8,ground:=Ground.textOnly Departure.appendInPlace },{ on:=9,ground:=Ground.textOnly Departure.appendInPlace }],guard:=none }) rfl (fun K hK=>?_) AllReadyH.nil))
   ·refine aR (by rfl) 24 (.tmp 20) (.tmp 16) rfl (p:=⟨g8,n*9,none⟩) rfl rfl (by first|exact hs1|exact iw) ?_
    refine hK.out _ _ ?_ (fun hHeld=>?_)
    ·first|exact Fu|exact Ft|exact D0|exact rP|exact rQ|exact rR|exact rS
    clear hK K;(try simp only[Act.put,List.setIfInBounds_toArray,List.set_cons_zero,List.set_cons_succ])
    refine wpAnyH_ready (rs:=[10]) (by kernel_rfl) (by simp) ?_
    refine(AllReadyH.cons (o:={ dst:=none,op:=Op.store 22 (Operand.tmp 2) (Operand.tmp 19),type:=0,pos := "tables.go:214",after:=#[{ on:=7,ground:=Ground.data },{ on:=7,ground:=Ground.chain },{ on:=9,ground:=Ground.textOnly Departure.appendInPlace },{ on:=0,ground:=Ground.phase },{ on:=1,ground:=Ground.phase },{ on:=2,ground:=Ground.phase },{ on:=3,ground:=Ground.phase },{ on:=4,ground:=Ground.phase },{ on:=5,ground:=Ground.phase },{ on:=6,ground:=Ground.phase },{ on:=7,ground:=Ground.phase },{ on:=8,ground:=Ground.textOnly Departure.appendInPlace },{ on:=9,ground:=Ground.textOnly Departure.appendInPlace }],guard:=none }) rfl (fun K hK=>?_) AllReadyH.nil)
    refine aR (by rfl) 22 (.tmp 2) (.tmp 19) rfl (p:=⟨ob,0,none⟩) (v:=.slice (some ⟨g8,0,none⟩) (n+1) c8) rfl rfl (by first|exact Mu|exact Mv) ?_
    refine hK.out _ _ ?_ (fun hHeld=>?_)
    ·first|exact Fu|exact Ft|exact D0|exact rP|exact rQ|exact rR|exact rS
    clear hK K;(try simp only[Act.put,List.setIfInBounds_toArray,List.set_cons_zero,List.set_cons_succ])
    refine wpAnyH_done (by kernel_rfl) ?_ _;go_wp2_with fail;go_ret
    first|exact⟨rfl,TV⟩|exact⟨rfl,TW⟩
   ·refine aR (by rfl) 22 (.tmp 2) (.tmp 19) rfl (p:=⟨ob,0,none⟩) (v:=.slice (some ⟨g8,0,none⟩) (n+1) c8) rfl rfl (by first|exact Mu|exact Mv) ?_
    refine hK.out _ _ ?_ (fun hHeld=>?_)
    ·first|exact Fu|exact Ft|exact D0|exact rP|exact rQ|exact rR|exact rS
    clear hK K;(try simp only[Act.put,List.setIfInBounds_toArray,List.set_cons_zero,List.set_cons_succ])
    refine wpAnyH_ready (rs:=[9]) (by kernel_rfl) (by simp) ?_
    refine(AllReadyH.cons (o:={ dst:=none,op:=Op.store 24 (Operand.tmp 20) (Operand.tmp 16),type:=0,pos := "tables.go:214",after:=#[{ on:=8,ground:=Ground.data },{ on:=4,ground:=Ground.data },{ on:=7,ground:=Ground.chain },{ on:=0,ground:=Ground.phase },{ on:=1,ground:=Ground.phase },{ on:=2,ground:=Ground.phase },{ on:=3,ground:=Ground.phase },{ on:=4,ground:=Ground.phase },{ on:=5,ground:=Ground.phase },{ on:=6,ground:=Ground.phase },{ on:=7,ground:=Ground.phase },{ on:=10,ground:=Ground.gcOnly Departure.appendInPlace }],guard:=none }) rfl (fun K hK=>?_) AllReadyH.nil)
    refine aR (by rfl) 24 (.tmp 20) (.tmp 16) rfl (p:=⟨g8,n*9,none⟩) rfl rfl (by first|exact hs1|exact iw) ?_
    refine hK.out _ _ ?_ (fun hHeld=>?_)
    ·first|exact Fu|exact Ft|exact D0|exact rP|exact rQ|exact rR|exact rS
    clear hK K;(try simp only[Act.put,List.setIfInBounds_toArray,List.set_cons_zero,List.set_cons_succ])
    refine wpAnyH_done (by kernel_rfl) ?_ _;go_wp2_with fail;go_ret
    first|exact⟨rfl,TV⟩|exact⟨rfl,TW⟩
end
section
variable {N:Nat}{w W W':World}{B B2 z g ob zb:Nat}{F:Nat→Prop}{s:iy N}{o:Tm (N+1)}{uo:Value}
theorem yw(c:sU w B B2 F s g ob zb o uo){l:List (ct N)}(hl:∀t∈l,t∈s.tabs):bD tE 9 (dB o l):=fun r hr=>by
 unfold dB at hr;obtain⟨t,ht,rfl⟩:=List.mem_map.1 hr;have h1:=c.tb.tabs t (hl t (List.mem_filter.1 ht).1);exact⟨qC _,aH (l_ h1.ld)⟩
theorem sV{l:List (ct N)}:(dB o l).length≤l.length:=by
 unfold dB;rw[List.length_map];exact List.length_filter_le _ _
theorem wj{l:List (ct N)}{j:Nat}{t:ct N}(h:l[j]?=some t):dB o (l.take (j+1))=dB o (l.take j)++(if dL t.own o then[(t.ref,t.ur)] else[]):=by
 unfold dB;rw[List.take_add_one,h,List.filter_append,List.map_append];congr 1;show(List.filter (fun t=>dL t.own o) [t]).map _=_;cases hq:dL t.own o <;> simp[hq]
noncomputable def kept(o:Tm (N+1))(l:List (ct N)):List (ct N):=l.filter (fun t=>!dL t.own o)
theorem sW{l:List (ct N)}{j:Nat}{t:ct N}(h:l[j]?=some t):kept o (l.take (j+1))=kept o (l.take j)++(if dL t.own o then[] else[t]):=by
 unfold kept;rw[List.take_add_one,h,List.filter_append];congr 1;show List.filter (fun t=>!dL t.own o) [t]=_;cases hq:dL t.own o <;> simp[hq]
theorem sX{L:List Nat}{n cp:Nat}(h:aA fD 89 1 W B (.slice (some ⟨g,0,none⟩) n cp) L){i:Nat}(hi:i<L.length):W.cell? ⟨g,i,none⟩=some (.pointer (some ⟨L[i],0,none⟩))∧W.frozen? ⟨g,i,none⟩=false:=by
 have hr:=h.row (jk L);obtain⟨g',o',e,_,hg,hc⟩:=hr.nth (by omega);simp only[Option.some.injEq,Addr.mk.injEq,and_true]at e;obtain⟨rfl,rfl⟩:=e;obtain⟨g',cap,cur,hv,mC,nW,_⟩:=lz h (by omega);simp only[Value.slice.injEq,Option.some.injEq,Addr.mk.injEq,and_true,true_and]at hv;obtain⟨rfl,_⟩:=hv;refine⟨?_,by simp only[World.frozen?,nW];simp⟩;have:=hc i L[i] (List.getElem?_eq_getElem hi) 0 _ rfl;simpa using this
def TX(w:World)(g ob:Nat)(o:Tm (N+1))(l:List (ct N))(W:World)(m:Nat)(iv:Value)(wr:World):Prop:=∃i:Nat,iv=.int .i64 (i:Int)∧i≤l.length∧m=l.length-i∧lA w g ob (dB o (l.take i)) wr∧wr.heap[g]?=W.heap[g]?∧∀j,(hj:j<i)→(hl:j<l.length)→dL (l[j]).own o=false
def TY(w:World)(g ob:Nat)(o:Tm (N+1))(l:List (ct N))(W:World)(e:Ending)(w':World):Prop:=w'.heap[g]?=W.heap[g]?∧((e=.returned (.int .i64 (-1))∧lA w g ob (dB o l) w'∧∀t∈l,dL t.own o=false) ∨
 ∃i:Nat,i<l.length∧e=.returned (.int .i64 (i:Int))∧lA w g ob (dB o (l.take (i+1))) w'∧(∀j,(hj:j<i)→(hl:j<l.length)→dL (l[j]).own o=false)∧∀h:i<l.length,dL (l[i]).own o=true)
theorem JI(c:sU w B B2 F s g ob zb o uo)(hlen:s.tabs.length≤1000)(E:lA (N:=N) w g ob [] W){n cp:Nat}(hn:n=s.tabs.length)(hown:aA fD 89 1 W B (.slice (some ⟨g,0,none⟩) n cp) (s.tabs.map (·.b))) :
 Calls Tryz.prog 81 #[.slice (some ⟨g,0,none⟩) n cp,.func (.func 65) #[] #[.pointer (some ⟨zb,0,none⟩),.pointer (some ⟨ob,0,none⟩)]] W (TY w g ob o s.tabs W):=by
 have hgt:∀X,X.heap[g]?=W.heap[g]?→aA fD 89 1 X B (.slice (some ⟨g,0,none⟩) n cp) (s.tabs.map (·.b)):=fun X hX=>hown.same (fun k hk=>by
  have e:k=g:=(Option.some.inj hk).symm
  rw[e];exact hX)
 have yT:=Qh (fun(X:World) (hX:X.heap[g]?=W.heap[g]?) (i:Nat) (hi:i<s.tabs.length)=>(show X.cell? ⟨g,i,none⟩=some (.pointer (some ⟨(s.tabs[i]).b,0,none⟩)) from by
  have:=(sX (hgt X hX) (i:=i) (by rw[List.length_map];exact hi)).1
  rwa[List.getElem_map]at this))
 have HC:=Qh (fun(X:World) (i:Nat) (hi:i<s.tabs.length) (hE:lA w g ob (dB o (s.tabs.take i)) X)=>(show Calls Tryz.prog 65 #[.pointer (some ⟨(s.tabs[i]).b,0,none⟩),.pointer (some ⟨zb,0,none⟩),.pointer (some ⟨ob,0,none⟩)] X (BZ w g ob (dL (s.tabs[i]).own o) (dB o (s.tabs.take (i+1))) X) from by
  rw[wj (List.getElem?_eq_getElem hi)]
  exact Jz c hE (yw c (fun t ht=>List.mem_of_mem_take ht)) (by have:=sV (o:=o) (l:=s.tabs.take i);rw[List.length_take]at this;omega) (List.getElem_mem hi)))
 clear c hown hgt;generalize s.tabs=l at*;subst hn;have iL:Hid (TX w g ob o l W l.length (.int .i64 0) W):=Qh ⟨0,rfl,Nat.zero_le _,rfl,E,rfl,fun j hj=>by omega⟩;clear E;go_enter Tryz.func81,Tryz.ntmps81;go_wp2_with fail;go_loopg [8] l.length (fun m iv wr=>Hid (TX w g ob o l W m iv wr))
 case atStart=>exact iL
 case round=>
  obtain⟨i,rfl,hi,hm,hE,hg,hno⟩:=hrel.out;clear hrel iL;have HM:=Qh hm
  by_cases hlt:i<l.length
  ·have r1:(i:Int)<(l.length:Int):=by omega
   have hp:=yT.out wr hg i hlt;have Ip:=Qh (HC.out wr i hlt hE);have HG:=Qh hg;have uy:=Qh hno;obtain⟨q,hq⟩:∃q,dL (l[i]).own o=q:=⟨_,rfl⟩;have HQ:=Qh hq;rw[hq]at Ip;clear hg hE hm hno hq;generalize(l[i]).b=tb at*;unfold BZ at Ip;go_wp2_with fail;refine Ip.out.mono ?_;rintro e w2 ⟨rfl,yX,nW⟩;have U1:=Qh yX;have Us:=Qh (nW.trans HG.out);clear yX nW hp
   cases q
   ·have HN:Hid (∀j,(hj:j<i+1)→(hl:j<l.length)→dL (l[j]).own o=false):=Qh (fun j hj hl=>by
     by_cases e:j=i
     ·subst e;exact HQ.out
     ·exact uy.out j (by omega) hl)
    go_wp2_with fail;go_roundg (l.length-(i+1))
    case measure=>have:=HM.out;omega
    case rel=>exact Qh ⟨i+1,by go_num,by omega,rfl,U1.out,Us.out,HN.out⟩
   ·go_wp2_with fail;go_ret;exact⟨Us.out,.inr ⟨i,hlt,rfl,U1.out,uy.out,fun _=>HQ.out⟩⟩
  ·obtain rfl:i=l.length:=by omega
   have HE:=Qh hE;have HG:=Qh hg;have uy:=Qh hno;clear hE hg hno hm;go_wp2_with fail;go_ret
   refine⟨HG.out,.inl ⟨rfl,?_,fun t ht=>?_⟩⟩
   ·have:=HE.out;rwa[List.take_length]at this
   ·obtain⟨j,hj,rfl⟩:=List.mem_iff_getElem.1 ht;exact uy.out j hj hj
end
theorem B1(n:Nat):(Builtin.zeroCells #[.pointer none] n).toList=List.replicate n (.pointer none):=by
 apply List.ext_getElem?;intro i;simp only[Builtin.zeroCells,Array.toList_map,Array.toList_range,List.getElem?_map]
 by_cases h:i<n
 ·rw[List.getElem?_range (by simpa using h),List.getElem?_replicate,if_pos h];have e:i%1=0:=Nat.mod_one i;show some (#[Value.pointer none][i%1]!)=_;rw[e];rfl
 ·rw[List.getElem?_eq_none (by simpa using h),List.getElem?_replicate,if_neg h];rfl
theorem uH(M:List Nat):M.flatMap fD=M.map (fun b=>Value.pointer (some ⟨b,0,none⟩)):=by
 induction M with
 | nil=>rfl
 | cons a M ih=>rw[List.flatMap_cons,ih];rfl
theorem wm{w:World}{B g n c:Nat}{L:List Nat}(hown:aA fD 89 1 w B (.slice (some ⟨g,0,none⟩) n c) L){k:Nat}(hk:k<L.length)(c':Nat)(ty:TypeId) :
 ∃w',(Builtin.clear_ #[72] ty #[.slice (some ⟨g,k,none⟩) (n-k) c']).run Tryz.prog w=.ok (.tuple #[]) w'∧aA fD 89 1 w' B (.slice (some ⟨g,0,none⟩) k c) (L.take k)∧ax (fun q=>q=g) w w':=by
 obtain⟨g',cap,cur,hv,mC,hg,hnc,gW,hcs,tX⟩:=lz hown (by omega);simp only[Value.slice.injEq,Option.some.injEq,Addr.mk.injEq,and_true,true_and]at hv;obtain⟨rfl,rfl,rfl⟩:=hv;have hm:L.length-k≠0:=by omega
 obtain⟨m,hm⟩:∃m,L.length-k=m+1:=⟨L.length-k-1,by omega⟩;rw[Nat.mul_one]at hcs tX;have hlr:(List.replicate (m+1) (Value.pointer none)).length=m+1:=List.length_replicate;have hst:=run_storeCells_at Tryz.prog g k 89 (List.replicate (m+1) (.pointer none)) 0 cur w hg (by rw[hlr,hcs];omega) (fun v hv=>by
  obtain⟨_,rfl⟩:=List.mem_replicate.1 hv
  rfl)
 simp only[Nat.add_zero,hlr]at hst;have yF:cur.toList.length=c:=by rw[Array.length_toList];exact hcs
 have hz:=B1 (m+1);rw[hm]
 refine⟨w.setRow g (cur.toList.take k++List.replicate (m+1) (Value.pointer none)++cur.toList.drop (k+(m+1))).toArray,?_,⟨?_,.inr ⟨g,c,_,by rw[List.length_take];congr 1;omega,mC,setRow_heap _ _ _ _ _ _ hg,by rw[List.length_take];omega,gW,?_,?_⟩⟩,aB _ _ _⟩
 ·have Dj:(zeroValue 89).run Tryz.prog w=.ok (.pointer none) w:=by kernel_rfl
  simp[Builtin.clear_,run_underlying Tryz.underlying72,Dj,Value.cells,hz,hst]
 ·exact bH (jk _)
 ·rw[List.size_toArray,List.length_append,List.length_append,List.length_take,List.length_drop,hlr,yF,Nat.mul_one];omega
 ·rw[List.toList_toArray,Nat.mul_one,List.length_take,Nat.min_eq_left (by omega)];have h1:(cur.toList.take k).length=k:=by rw[List.length_take];omega
  rw[List.append_assoc,List.take_left' h1];have h2:cur.toList.take k=(cur.toList.take L.length).take k:=by rw[List.take_take,Nat.min_eq_left (by omega)]
  rw[h2,tX];rw[uH,uH,List.map_take]
section
variable {N:Nat}{w W W':World}{B B2 z g ob zb:Nat}{F:Nat→Prop}{s:iy N}{o:Tm (N+1)}{uo:Value}
def TZ(w:World)(B g ob:Nat)(o:Tm (N+1))(l:List (ct N))(e:Ending)(w':World):Prop:=∃v',e=.returned v'∧aA fD 89 1 w' B v' ((kept o l).map (·.b))∧lA w g ob (dB o l) w'∧v'.ownBlock=some g
def T3(w:World)(B g ob cp:Nat)(o:Tm (N+1))(l:List (ct N))(k j:Nat)(wr:World):Prop:=∃L:List Nat,j≤l.length∧k<j∧L.length=l.length∧L.take k=(kept o (l.take j)).map (·.b)∧L.drop j=(l.drop j).map (·.b)∧lA w g ob (dB o (l.take j)) wr∧aA fD 89 1 wr B (.slice (some ⟨g,0,none⟩) l.length cp) L
def DlI(w:World)(B g ob cp:Nat)(o:Tm (N+1))(l:List (ct N))(m:Nat)(iv jv:Value)(wr:World):Prop:=∃(k j:Nat),iv=.int .i64 (k:Int)∧jv=.int .i64 (j:Int)∧m=l.length-j∧T3 w B g ob cp o l k j wr
theorem B3{l:List (ct N)}(h:∀t∈l,dL t.own o=false):kept o l=l:=by
 unfold kept;rw[List.filter_eq_self];intro t ht;rw[h t ht];rfl
theorem JJ{cp:Nat}{l:List (ct N)}{i:Nat}(hi:i<l.length)(hE:lA w g ob (dB o (l.take (i+1))) W)(hown:aA fD 89 1 W B (.slice (some ⟨g,0,none⟩) l.length cp) (l.map (·.b)))(h0:∀j,(hj:j<i)→(hl:j<l.length)→dL (l[j]).own o=false)(h1:dL (l[i]).own o=true):T3 w B g ob cp o l i (i+1) W:=by
 refine⟨l.map (·.b),hi,Nat.lt_succ_self i,List.length_map _,?_,List.map_drop.symm,hE,hown⟩;rw[sW (List.getElem?_eq_getElem hi),h1,if_pos rfl,List.append_nil,B3,List.map_take];intro t ht;obtain⟨j,hj,e⟩:=List.mem_iff_getElem.1 ht;rw[List.length_take]at hj;rw[List.getElem_take]at e;rw[←e];exact h0 j (by omega) (by omega)
theorem QB{cp:Nat}{l:List (ct N)}{k j:Nat}{L:List Nat}(hj:j<l.length)(hk:k<j)(hL:L.length=l.length)(h1:L.take k=(kept o (l.take j)).map (·.b))(h2:L.drop j=(l.drop j).map (·.b))(hE:lA w g ob (dB o (l.take (j+1))) W)(hown:aA fD 89 1 W B (.slice (some ⟨g,0,none⟩) l.length cp) L)(hq:dL (l[j]).own o=true):T3 w B g ob cp o l k (j+1) W:=by
 refine⟨L,hj,by omega,hL,?_,?_,hE,hown⟩
 ·rw[sW (List.getElem?_eq_getElem hj),hq,if_pos rfl,List.append_nil,h1]
 ·have:=congrArg (List.drop 1) h2;rwa[List.drop_drop,←List.map_drop,List.drop_drop]at this
theorem Mw(c:sU w B B2 F s g ob zb o uo){cp:Nat}{l:List (ct N)}{k j:Nat}{L:List Nat}(hj:j<l.length)(hk:k<j)(hL:L.length=l.length)(h1:L.take k=(kept o (l.take j)).map (·.b))(h2:L.drop j=(l.drop j).map (·.b))(hE:lA w g ob (dB o (l.take (j+1))) W)(hown:aA fD 89 1 W B (.slice (some ⟨g,0,none⟩) l.length cp) L)(hq:dL (l[j]).own o=false):T3 w B g ob cp o l (k+1) (j+1) (W.setCell ⟨g,k,none⟩ (.pointer (some ⟨(l[j]).b,0,none⟩))):=by
 have mo:=kv c.tg;have hgo:g≠ob:=dX c.tg c.Fs (by decide);obtain⟨vo,q1,q2⟩:=hE.out;have yX:lA w g ob (dB o (l.take (j+1))) (W.setCell ⟨g,k,none⟩ (.pointer (some ⟨(l[j]).b,0,none⟩))):=⟨ax.setCell hE.T _ _ (fun _=>.inl rfl),vo,(Below.heap_setCell _ _ _ _ (Ne.symm hgo)).trans q1,q2.same (fun q hq=>Below.heap_setCell _ _ _ _ (fun e=>by
  have:=(q2.lt hq).1
  have e:q=g:=e
  omega))⟩
 have yc:aA fD 89 1 (W.setCell ⟨g,k,none⟩ (.pointer (some ⟨(l[j]).b,0,none⟩))) B (.slice (some ⟨g,0,none⟩) l.length cp) (L.set k (l[j]).b):=by
  obtain⟨g',cap,cur,hv,mC,hg,hnc,gW,hcs,tX⟩:=lz hown (by omega);simp only[Value.slice.injEq,Option.some.injEq,Addr.mk.injEq,and_true,true_and]at hv;obtain⟨rfl,e,rfl⟩:=hv;refine⟨by rw[bH (jk _)],.inr ⟨g,cp,cur.setIfInBounds k (.pointer (some ⟨(l[j]).b,0,none⟩)),by rw[List.length_set];congr 1,mC,fp hg _,by rw[List.length_set];exact hnc,gW,by rw[Array.size_setIfInBounds];exact hcs,?_⟩⟩;rw[Array.toList_setIfInBounds,List.length_set,List.take_set,tX];refine List.ext_getElem? fun i=>?_
  have fg:∀(M:List Nat) (i:Nat),(M.flatMap fD)[i]?=(M[i]?).map (fun b=>Value.pointer (some ⟨b,0,none⟩)):=fun M i=>by
   rw[uH,List.getElem?_map]
  rw[List.getElem?_set,fg,fg,List.getElem?_set];have hfl:(L.flatMap fD).length=L.length:=by rw[bH (jk _),Nat.mul_one]
  rw[hfl]
  split
  ·split <;> rfl
  ·rfl
 refine⟨L.set k (l[j]).b,hj,by omega,by rw[List.length_set];exact hL,?_,?_,yX,yc⟩
 ·rw[sW (List.getElem?_eq_getElem hj),hq,if_neg (by decide),List.map_append,←h1,List.take_add_one,List.take_set_of_le (Nat.le_refl _),List.getElem?_set_self (by omega)];rfl
 ·rw[List.drop_set_of_lt (by omega)];have:=congrArg (List.drop 1) h2;rwa[List.drop_drop,←List.map_drop,List.drop_drop]at this
end
theorem JK:∃j,Tryz.prog.info? 98=some j∧j.size≠0:=by
 have h:(Tryz.prog.info? 98).map (·.size)=some 20:=by kernel_rfl
 obtain⟨j,h1,h2⟩:=Option.map_eq_some_iff.1 h;exact⟨j,h1,by rw[h2];decide⟩
theorem Mx{W:World}{ob b:Nat}(h:W.cell? ⟨ob,0,none⟩=some (.pointer (some ⟨b,0,none⟩))):Calls Tryz.prog 74 #[.pointer (some ⟨b,0,none⟩),.pointer (some ⟨ob,0,none⟩)] W fun e w'=>e=.returned (.bool true)∧w'=W:=by
 obtain⟨j,hj,hs⟩:=JK;have h1:=run_eql_ptr_same (P:=Tryz.prog) W ⟨b,0,none⟩ Tryz.underlying89 hj;clear hj hs;go_enter Tryz.func74,Tryz.ntmps74;go_wp2_with fail;go_ret;exact⟨rfl,rfl⟩
theorem Fv{W:World}{ob b b2:Nat}{c1 c2:Array Value}(h:W.cell? ⟨ob,0,none⟩=some (.pointer (some ⟨b,0,none⟩)))(hne:b≠b2)(hb:W.heap[b]?=some (.cells c1 98))(a_:W.heap[b2]?=some (.cells c2 98)):Calls Tryz.prog 74 #[.pointer (some ⟨b2,0,none⟩),.pointer (some ⟨ob,0,none⟩)] W fun e w'=>e=.returned (.bool false)∧w'=W:=by
 obtain⟨j,hj,hs⟩:=JK;have h1:=run_eql_ptr_other (P:=Tryz.prog) W (a:=⟨b,0,none⟩) (b:=⟨b2,0,none⟩) Tryz.underlying89 hj hs (fun e=>hne (congrArg Addr.block e)) hb a_;clear hj hs hb a_ hne;go_enter Tryz.func74,Tryz.ntmps74;go_wp2_with fail;go_ret;exact⟨rfl,rfl⟩
section
variable {W W':World}{B g ob cp:Nat}{L M:List Nat}
theorem My{n:Nat}(hown:aA fD 89 1 W B (.slice (some ⟨g,0,none⟩) n cp) L){k:Nat}(hk:k<L.length)(b:Nat):aA fD 89 1 (W.setCell ⟨g,k,none⟩ (.pointer (some ⟨b,0,none⟩))) B (.slice (some ⟨g,0,none⟩) n cp) (L.set k b):=by
 obtain⟨g',cap,cur,hv,mC,hg,hnc,gW,hcs,tX⟩:=lz hown (by omega);simp only[Value.slice.injEq,Option.some.injEq,Addr.mk.injEq,and_true,true_and]at hv;obtain⟨rfl,rfl,rfl⟩:=hv;refine⟨by rw[bH (jk _)],.inr ⟨g,cp,cur.setIfInBounds k (.pointer (some ⟨b,0,none⟩)),by rw[List.length_set],mC,fp hg _,by rw[List.length_set];exact hnc,gW,by rw[Array.size_setIfInBounds];exact hcs,?_⟩⟩;rw[Array.toList_setIfInBounds,List.length_set,List.take_set,tX];refine List.ext_getElem? fun i=>?_
 have fg:∀(M:List Nat) (i:Nat),(M.flatMap fD)[i]?=(M[i]?).map (fun b=>Value.pointer (some ⟨b,0,none⟩)):=fun M i=>by
  rw[uH,List.getElem?_map]
 rw[List.getElem?_set,fg,fg,List.getElem?_set];have hfl:(L.flatMap fD).length=L.length:=by rw[bH (jk _),Nat.mul_one]
 rw[hfl]
 split
 ·first|rfl|(split <;> rfl)
 ·rfl
def IxD(L:List Nat)(i:Nat)(W:World)(m:Nat)(iv:Value)(wr:World):Prop:=∃j:Nat,iv=.int .i64 (j:Int)∧j≤i∧m=L.length-j∧wr=W
theorem JL(hlen:L.length≤1000){n:Nat}(hn:n=L.length)(hown:aA fD 89 1 W B (.slice (some ⟨g,0,none⟩) n cp) L){i:Nat}(hi:i<L.length)(B0:W.cell? ⟨ob,0,none⟩=some (.pointer (some ⟨L[i],0,none⟩)))(hne:∀j,(hj:j<L.length)→j≠i→L[i]≠L[j])(kj:∀b∈L,∃c,W.heap[b]?=some (.cells c 98)) :
 Calls Tryz.prog 81 #[.slice (some ⟨g,0,none⟩) n cp,.func (.func 74) #[] #[.pointer (some ⟨ob,0,none⟩)]] W fun e w'=>e=.returned (.int .i64 i)∧w'=W:=by
 have yT:=Qh (fun(j:Nat) (hj:j<L.length)=>(sX hown (i:=j) hj).1);have HY:=Qh (Mx B0);have HN:=Qh (fun(j:Nat) (hj:j<L.length) (hji:j≠i)=>(show Calls Tryz.prog 74 #[.pointer (some ⟨L[j],0,none⟩),.pointer (some ⟨ob,0,none⟩)] W fun e w'=>e=.returned (.bool false)∧w'=W from by
  obtain⟨c1,q1⟩:=kj _ (List.getElem_mem hi)
  obtain⟨c2,q2⟩:=kj _ (List.getElem_mem hj)
  exact Fv B0 (hne j hj hji) q1 q2))
 clear hown B0 hne kj;subst hn;have iL:Hid (IxD L i W L.length (.int .i64 0) W):=Qh ⟨0,rfl,Nat.zero_le _,rfl,rfl⟩;go_enter Tryz.func81,Tryz.ntmps81;go_wp2_with fail;go_loopg [8] L.length (fun m iv wr=>Hid (IxD L i W m iv wr))
 case atStart=>exact iL
 case round=>
  obtain⟨j,rfl,hj,hm,rfl⟩:=hrel.out;clear hrel iL;have HM:=Qh hm;clear hm;have hlt:j<L.length:=by omega
  have r1:(j:Int)<(L.length:Int):=by omega
  have hp:=yT.out j hlt
  by_cases hji:j=i
  ·subst hji;have HY2:=HY;generalize L[j]=tb at*;go_wp2_with fail;refine HY2.out.mono ?_;rintro e w2 ⟨rfl,rfl⟩;clear hp;go_wp2_with fail;go_ret;exact⟨rfl,rfl⟩
  ·have gF:=Qh (HN.out j hlt hji);have hw1:IntKind.i64.wrap ((j:Int)+1)=(j:Int)+1:=IntWalk.i64_in _ (by omega);generalize L[j]=tb at*;go_wp2_with fail;refine gF.out.mono ?_;rintro e w2 ⟨rfl,rfl⟩;clear hp;go_wp2_with fail;go_roundg (L.length-(j+1))
   case measure=>have:=HM.out;omega
   case rel=>exact Qh ⟨j+1,by go_num,by omega,rfl,rfl⟩
structure KA(W:World)(B g cp:Nat)(L:List Nat)(i k:Nat)(M:List Nat)(wr:World):Prop where
 own:aA fD 89 1 wr B (.slice (some ⟨g,0,none⟩) L.length cp) M
 len:M.length=L.length
 low:M.take k=L.take i++(L.drop (i+1)).take (k-i)
 high:M.drop (k+1)=L.drop (k+1)
 T:ax (fun q=>q=g) W wr
def DdI(W:World)(B g cp:Nat)(L:List Nat)(i m:Nat)(iv jv:Value)(wr:World):Prop:=∃(k:Nat) (M:List Nat),iv=.int .i64 (k:Int)∧jv=.int .i64 ((k:Int)+1)∧i≤k∧k+1≤L.length∧m=L.length-(k+1)∧KA W B g cp L i k M wr
theorem KA.start(hown:aA fD 89 1 W B (.slice (some ⟨g,0,none⟩) L.length cp) L){i:Nat}:KA W B g cp L i i L W:=⟨hown,rfl,by simp,rfl,ax.refl _ _⟩
theorem KA.at_{i k:Nat}{wr:World}(h:KA W B g cp L i k M wr)(hk:k+1<L.length):M[k+1]'(by have:=h.len;omega)=L[k+1]:=by
 have h1:=congrArg (fun x=>x[0]?) h.high;have hl:=h.len;simp only[List.getElem?_drop,Nat.add_zero]at h1;rw[List.getElem?_eq_getElem (by omega),List.getElem?_eq_getElem hk]at h1;exact Option.some.inj h1
theorem KA.step{i k:Nat}{wr:World}(h:KA W B g cp L i k M wr)(hik:i≤k)(hk:k+1<L.length):KA W B g cp L i (k+1) (M.set k L[k+1]) (wr.setCell ⟨g,k,none⟩ (.pointer (some ⟨L[k+1],0,none⟩))):=by
 have hl:=h.len
 refine⟨My h.own (by omega) _,by rw[List.length_set,hl],?_,?_,ax.setCell h.T _ _ (fun _=>rfl)⟩
 ·have e1:(M.set k L[k+1]).take (k+1)=M.take k++[L[k+1]]:=by
   rw[List.take_add_one,List.take_set_of_le (Nat.le_refl k),List.getElem?_set_self (by omega)];rfl
  have e2:(L.drop (i+1)).take (k+1-i)=(L.drop (i+1)).take (k-i)++[L[k+1]]:=by
   rw[show k+1-i=(k-i)+1 from by omega,List.take_add_one,List.getElem?_drop,show i+1+(k-i)=k+1 from by omega,List.getElem?_eq_getElem hk];rfl
  rw[e1,e2,h.low,List.append_assoc]
 ·rw[List.drop_set_of_lt (by omega)];have:=congrArg (List.drop 1) h.high;rwa[List.drop_drop,List.drop_drop]at this
def QC(W:World)(B g:Nat)(M:List Nat)(e:Ending)(w':World):Prop:=∃v',e=.returned v'∧aA fD 89 1 w' B v' M∧ax (fun q=>q=g) W w'∧v'.ownBlock=some g∧v'.oneCell'=true
theorem QD(hlen:L.length≤1000){n:Nat}(hn:n=L.length)(hown:aA fD 89 1 W B (.slice (some ⟨g,0,none⟩) n cp) L){i:Nat}(hi:i<L.length)(hgo:g≠ob)(B0:W.cell? ⟨ob,0,none⟩=some (.pointer (some ⟨L[i],0,none⟩)))(hne:∀j,(hj:j<L.length)→j≠i→L[i]≠L[j])(kj:∀b∈L,∃c,W.heap[b]?=some (.cells c 98)) :
 Calls Tryz.prog 64 #[.slice (some ⟨g,0,none⟩) n cp,.func (.func 74) #[] #[.pointer (some ⟨ob,0,none⟩)]] W (QC W B g (L.take i++L.drop (i+1))):=by
 have QE:n≤cp∧cp≤maxLen:=by
  obtain⟨_,c',e,h1,h2⟩:=hown.shape;simp only[Value.slice.injEq]at e;rw[e.2.2];exact⟨by omega,h2⟩
 obtain⟨hnc,gW⟩:=QE;unfold maxLen at gW;have QF:=Qh (JL hlen hn hown hi B0 hne kj);have HN:=Qh (fun(X:World) (hX:ax (fun q=>q=g) W X) (j:Nat) (hj:j<L.length) (hji:j≠i)=>(show Calls Tryz.prog 74 #[.pointer (some ⟨L[j],0,none⟩),.pointer (some ⟨ob,0,none⟩)] X fun e w'=>e=.returned (.bool false)∧w'=X from by
  have hgt:=dW hown (k:=g) rfl
  have e:X.heap[ob]?=W.heap[ob]?:=hX.block ob (World.block_lt_of_cell? W ⟨ob,0,none⟩ B0) (fun e=>hgo e.symm)
  have hk:∀b∈L,∃c,X.heap[b]?=some (.cells c 98):=fun b hb=>by
   obtain⟨c,q⟩:=kj b hb
   exact⟨c,(hX.block b (Qg q) (dX (br q) hgt (by decide))).trans q⟩
  obtain⟨c1,q1⟩:=hk _ (List.getElem_mem hi)
  obtain⟨c2,q2⟩:=hk _ (List.getElem_mem hj)
  exact Fv (W:=X) ((World.cell?_of_block (w:=W) (w':=X) (a:=⟨ob,0,none⟩) e).trans B0) (hne j hj hji) q1 q2))
 subst hn;have iL:Hid (KA W B g cp L i i L W):=Qh (KA.start hown);have r0:¬((i:Int)=-1):=by omega
 have hi1:(i:Int)<(L.length:Int):=by omega
 have hw1:IntKind.i64.wrap ((i:Int)+1)=(i:Int)+1:=IntWalk.i64_in _ (by omega);clear hown B0 hne kj;go_enter Tryz.func64,Tryz.ntmps64;go_wp2_with fail;refine QF.out.mono ?_;rintro e w2 ⟨rfl,rfl⟩;clear QF;go_wp2_with fail;go_loopg [5,6] (L.length-(i+1)) (fun m iv jv wr=>Hid (DdI w2 B g cp L i m iv jv wr))
 case atStart=>exact Qh ⟨i,L,rfl,rfl,Nat.le_refl _,by omega,rfl,iL.out⟩
 case round=>
  obtain⟨k,M,rfl,rfl,hik,hk,hm,hd⟩:=hrel.out;clear hrel iL r0 hi1 hw1;have HM:=Qh hm;have hMl:=hd.len
  by_cases hlt:k+1<L.length
  ·have r1:(k:Int)+1<(L.length:Int):=by omega
   have r2:(k:Int)<(L.length:Int):=by omega
   have r3:¬((k:Int)+1<0):=by omega
   have hp:=(sX hd.own (i:=k+1) (by omega)).1;rw[hd.at_ hlt]at hp;have HNj:=Qh (HN.out wr hd.T (k+1) hlt (by omega));have HK:=Qh (hd.step hik hlt);obtain⟨hk1,hk2⟩:=sX hd.own (i:=k) (by omega);have td:IntKind.i64.wrap ((k:Int)+1)=(k:Int)+1:=IntWalk.i64_in _ (by omega);have CS:IntKind.i64.wrap ((k:Int)+1+1)=(k:Int)+1+1:=IntWalk.i64_in _ (by omega);have hcast:((k+1:Nat):Int)=(k:Int)+1:=by omega
   clear hd hm;generalize M[k]'(by omega)=bk at*;generalize L[k+1]=tb at*;go_wp2_with fail;refine HNj.out.mono ?_;rintro e w3 ⟨rfl,rfl⟩;clear hp;go_wp2_with fail;go_roundg (L.length-(k+1+1))
   case measure=>have:=HM.out;omega
   case rel=>exact Qh ⟨k+1,_,by go_num,by go_num,by omega,by omega,rfl,HK.out⟩
  ·have hkl:k+1=L.length:=by omega
   have rF:=hd.low;have hML:M.take k=L.take i++L.drop (i+1):=by
    rw[rF,List.take_of_length_le (l:=L.drop (i+1)) (by rw[List.length_drop];omega)]
   obtain⟨w7,KP,qj,L0⟩:=wm hd.own (k:=k) (by omega) (cp-k) 0;have hne:¬(cp=k):=by omega
   have r1:¬((k:Int)+1<(L.length:Int)):=by omega
   have hkn:(k:Int)≤(L.length:Int):=by omega
   have hkc:(k:Int)≤(cp:Int):=by omega
   have Yg:(L.length:Int)≤(cp:Int):=by omega
   have HF:Hid (QC w2 B g (L.take i++L.drop (i+1)) (.returned (.slice (some ⟨g,0,none⟩) k cp)) w7):=Qh ⟨_,rfl,by rw[hML]at qj;exact qj,hd.T.trans L0 (fun q _ e=>e),rfl,rfl⟩;clear hd qj L0 hm rF hML;go_wp2_with (refine jE rfl (.tmp 38) rfl (by first|rfl|(simp only[hne,if_false];rfl)) KP ?_)
   go_ret;exact HF.out
end
end Go.Proofs.YtfbggmbmgohiiaaGreat.tb
