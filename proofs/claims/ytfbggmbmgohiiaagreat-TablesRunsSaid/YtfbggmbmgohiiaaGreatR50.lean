/- TfE,TfF,TrG,TrC,TfG,TfH,TrH. No condition beyond theirs. -/
import Derived.Test.YtfbggmbmgohiiaaGreatR49
set_option linter.unusedSimpArgs false
set_option linter.unusedVariables false
set_option maxHeartbeats 4000000
set_option maxRecDepth 100000
namespace Go.Proofs.YtfbggmbmgohiiaaGreat.tb
open Go.RowKit mem rec tm names
section
variable {N:Nat}{w W W':World}{B B2 z g ob zb:Nat}{F:Nat→Prop}{s:iy N}{o:Tm (N+1)}{uo:Value}
theorem T4(c:sU w B B2 F s g ob zb o uo)(hlen:s.tabs.length≤1000)(E:lA (N:=N) w g ob [] W){n cp:Nat}(hn:n=s.tabs.length)(hown:aA fD 89 1 W B (.slice (some ⟨g,0,none⟩) n cp) (s.tabs.map (·.b))) :
 Calls Tryz.prog 64 #[.slice (some ⟨g,0,none⟩) n cp,.func (.func 65) #[] #[.pointer (some ⟨zb,0,none⟩),.pointer (some ⟨ob,0,none⟩)]] W (TZ w B g ob o s.tabs):=by
 have QE:n≤cp∧cp≤maxLen:=by
  obtain⟨_,c',e,h1,h2⟩:=hown.shape;simp only[Value.slice.injEq]at e;rw[e.2.2];rw[List.length_map]at h1;exact⟨by omega,h2⟩
 obtain⟨hnc,gW⟩:=QE;unfold maxLen at gW;have hgt:∀X,X.heap[g]?=W.heap[g]?→aA fD 89 1 X B (.slice (some ⟨g,0,none⟩) n cp) (s.tabs.map (·.b)):=fun X hX=>hown.same (fun k hk=>by
  have e:k=g:=(Option.some.inj hk).symm
  rw[e];exact hX)
 have HG:=Qh hgt;have QF:=Qh (JI c hlen E hn hown);have NX:=Qh (fun(X:World) (i:Nat) (hi:i<s.tabs.length) (hE:lA w g ob (dB o (s.tabs.take i)) X)=>(show Calls Tryz.prog 65 #[.pointer (some ⟨(s.tabs[i]).b,0,none⟩),.pointer (some ⟨zb,0,none⟩),.pointer (some ⟨ob,0,none⟩)] X (BZ w g ob (dL (s.tabs[i]).own o) (dB o (s.tabs.take (i+1))) X) from by
  rw[wj (List.getElem?_eq_getElem hi)]
  exact Jz c hE (yw c (fun t ht=>List.mem_of_mem_take ht)) (by have:=sV (o:=o) (l:=s.tabs.take i);rw[List.length_take]at this;omega) (List.getElem_mem hi)))
 have HC:=Qh c;have T5:g<w.heap.size∧ob<w.heap.size∧g≠ob:=⟨kv c.tg,kv c.Fs,dX c.tg c.Fs (by decide)⟩;have HGo:=Qh T5;clear hgt c hown T5 E;generalize s.tabs=l at*;subst hn;unfold TY at QF;go_enter Tryz.func64,Tryz.ntmps64;go_wp2_with fail;refine QF.out.mono ?_
 rintro e w2 ⟨nW,⟨rfl,yX,hall⟩|⟨i0,nA,rfl,yX,h0,h1⟩⟩
 ·have U1:=Qh yX;have HA:=Qh hall;have HW:=Qh (HG.out _ nW);clear yX hall nW QF;go_wp2_with fail;go_ret;exact⟨_,rfl,by rw[B3 HA.out];exact HW.out,U1.out,rfl⟩
 ·have iL:Hid (T3 w B g ob cp o l i0 (i0+1) w2):=Qh (JJ nA yX (HG.out _ nW) h0 (h1 nA));have r0:¬((i0:Int)=-1):=by omega
  have hi1:(i0:Int)<(l.length:Int):=by omega
  have hw1:IntKind.i64.wrap ((i0:Int)+1)=(i0:Int)+1:=IntWalk.i64_in _ (by omega);clear yX nW h0 h1 QF;go_wp2_with fail;go_loopg [5,6] (l.length-(i0+1)) (fun m iv jv wr=>Hid (DlI w B g ob cp o l m iv jv wr))
  case atStart=>exact Qh ⟨i0,i0+1,rfl,by go_num,rfl,iL.out⟩
  case round=>
   obtain⟨k,j,rfl,rfl,hm,L,hj,hk,hL,h1,h2,hE,hO⟩:=hrel.out;clear hrel iL r0 hi1 hw1;have HM:=Qh hm
   by_cases hlt:j<l.length
   ·have r1:(j:Int)<(l.length:Int):=by omega
    have hLj:L[j]'(by omega)=(l[j]).b:=by
     have:=congrArg (fun x=>x[0]?) h2;simp only[List.getElem?_drop,List.getElem?_map,Nat.add_zero]at this;rw[List.getElem?_eq_getElem (by omega),List.getElem?_eq_getElem hlt]at this;exact Option.some.inj this
    have hp:=(sX hO (i:=j) (by omega)).1;rw[hLj]at hp;obtain⟨q,hq⟩:∃q,dL (l[j]).own o=q:=⟨_,rfl⟩;have Ip:=Qh (NX.out wr j hlt hE);rw[hq]at Ip;have Yh:=Qh (fun(X:World) (hX:X.heap[g]?=wr.heap[g]?)=>hO.same (w':=X) (fun k hk=>by
     have e:k=g:=(Option.some.inj hk).symm
     rw[e];exact hX))
    have T6:=Qh (fun(X:World) (hX:X.heap[g]?=wr.heap[g]?) (yX:lA w g ob (dB o (l.take (j+1))) X) (UP:dL (l[j]).own o=true)=>QB hlt hk hL h1 h2 yX (Yh.out X hX) UP);have Nv:=Qh (fun(X:World) (hX:X.heap[g]?=wr.heap[g]?) (yX:lA w g ob (dB o (l.take (j+1))) X) (UO:dL (l[j]).own o=false)=>Mw HC.out hlt hk hL h1 h2 yX (Yh.out X hX) UO);have ul:=Qh (fun(X:World) (hX:X.heap[g]?=wr.heap[g]?)=>sX (Yh.out X hX) (i:=k) (by omega));rw[hq]at T6 Nv;have r2:(k:Int)<(l.length:Int):=by omega
    clear h1 h2 hE hO hLj hm hq;generalize(l[j]).b=tb at*;unfold BZ at Ip;go_wp2_with fail;refine Ip.out.mono ?_;rintro e w3 ⟨rfl,U2,Nd⟩;clear hp
    cases q
    ·have HK:=Qh (Nv.out w3 Nd U2 rfl);obtain⟨hk1,hk2⟩:=ul.out w3 Nd;generalize L[k]'(by omega)=bk at*;clear U2 Nd;go_wp2_with fail;go_roundg (l.length-(j+1))
     case measure=>have:=HM.out;omega
     case rel=>exact Qh ⟨k+1,j+1,by go_num,by go_num,rfl,HK.out⟩
    ·have HK:=Qh (T6.out w3 Nd U2 rfl);clear U2 Nd;go_wp2_with fail;go_roundg (l.length-(j+1))
     case measure=>have:=HM.out;omega
     case rel=>exact Qh ⟨k,j+1,rfl,by go_num,rfl,HK.out⟩
   ·obtain rfl:j=l.length:=by omega
    rw[List.take_length]at h1 hE;obtain⟨w7,KP,qj,L0⟩:=wm hO (k:=k) (by omega) (cp-k) 0;have hne:¬(cp=k):=by omega
    have hkn:(k:Int)≤(l.length:Int):=by omega
    have hkc:(k:Int)≤(cp:Int):=by omega
    have Yg:(l.length:Int)≤(cp:Int):=by omega
    have HF:Hid (TZ w B g ob o l (.returned (.slice (some ⟨g,0,none⟩) k cp)) w7):=Qh ⟨_,rfl,by rw[h1]at qj;exact qj,⟨hE.T.trans L0 (fun q _ e=>.inl e),by
     obtain⟨vo,q1,q2⟩:=hE.out
     have hne:=HGo.out
     exact⟨vo,(L0.block ob (by have:=hE.T.size;omega) (fun e=>hne.2.2 e.symm)).trans q1,q2.same (fun q hq=>L0.block q (q2.lt hq).2 (fun e=>by have:=(q2.lt hq).1;omega))⟩⟩,rfl⟩
    clear h1 h2 hE hO qj L0 hm;go_wp2_with (refine jE rfl (.tmp 38) rfl (by first|rfl|(simp only[hne,if_false];rfl)) KP ?_)
    go_ret;exact HF.out
end
section
theorem JM(W:World)(fv:Value):Calls Tryz.prog 81 #[.slice none 0 0,fv] W fun e w'=>e=.returned (.int .i64 (-1))∧Below W.heap.size W w':=by
 have HB:=Qh (Below.refl W.heap.size W);go_enter Tryz.func81,Tryz.ntmps81;go_wp2_with fail;refine wp_loop_rounds 1 ?_;rw[rounds_succ];go_wp2_with fail;go_ret;exact⟨rfl,HB.out⟩
theorem QG(W:World)(fv:Value):Calls Tryz.prog 64 #[.slice none 0 0,fv] W fun e w'=>e=.returned (.slice none 0 0)∧Below W.heap.size W w':=by
 have HI:=Qh (JM W fv);go_enter Tryz.func64,Tryz.ntmps64;go_wp2_with fail;refine HI.out.mono ?_;rintro e w2 ⟨rfl,hb⟩;have HB:=Qh hb;clear hb HI;go_wp2_with fail;go_ret;exact⟨rfl,HB.out⟩
variable {N:Nat}{w w' W W':World}{B B2 z g ob zb:Nat}{F:Nat→Prop}{s:iy N}{o:Tm (N+1)}{uo:Value}
def Yi(w:World)(B ob:Nat)(o:Tm (N+1))(s:iy N)(e:Ending)(w':World):Prop:=∃v' vo,e=.returned v'∧aA fD 89 1 w' B v' ((kept o s.tabs).map (·.b))∧w'.heap[ob]?=some (.cells #[vo] 22)∧aA tE 24 9 w' w.heap.size vo (dB o s.tabs)∧ax (fun k=>s.vl.ownBlock=some k∨k=ob) w w'∧∀k,v'.ownBlock=some k→s.vl.ownBlock=some k
theorem QH(h:cN w B F s)(hlen:s.tabs.length≤1000)(gZ:B2≤B)(B0:w.heap[ob]?=some (.cells #[.slice none 0 0] 22))(Uu:B≤ob)(hz:w.heap[zb]?=some (av o.f uo))(hI:ah w B2 N uo o.items) :
 Calls Tryz.prog 64 #[s.vl,.func (.func 65) #[] #[.pointer (some ⟨zb,0,none⟩),.pointer (some ⟨ob,0,none⟩)]] w (Yi w B ob o s):=by
 rcases h.l.2 with⟨e1,e2⟩|⟨g,cap,cur,e1,mC,hg,_⟩
 ·rw[List.length_map]at e2;have e3:s.tabs=[]:=List.eq_nil_of_length_eq_zero e2;rw[e1];refine(QG w _).mono ?_;rintro e w2 ⟨rfl,hb⟩
  refine⟨_,.slice none 0 0,rfl,?_,(hb.block ob (Qg B0)).trans B0,?_,(ax.refl _ _).bJ hb (Nat.le_refl _),fun k hk=>by simp[Value.ownBlock]at hk⟩
  ·rw[e3];exact aA.nil _ _ _
  ·rw[e3];exact aA.nil _ _ _
 ·have c:sU w B B2 F s g ob zb o uo:=⟨h,br hg,br B0,hz,hI,Nat.le_trans gZ mC,Nat.le_trans gZ Uu⟩;have E:lA (N:=N) w g ob [] w:=⟨ax.refl _ _,_,B0,aA.nil _ _ _⟩;have hown:=h.l;rw[e1]at hown ⊢;refine(T4 c hlen E (List.length_map _) hown).mono ?_;rintro e w2 ⟨v',rfl,h1,hE,h2⟩;obtain⟨vo,q1,q2⟩:=hE.out;have hs:s.vl.ownBlock=some g:=by rw[e1];rfl
  refine⟨v',vo,rfl,h1,q1,q2,?_,fun k hk=>by rw[hs,←hk,h2]⟩;have:=hE.T;have e:(fun k=>s.vl.ownBlock=some k∨k=ob)=(fun k=>k=g∨k=ob):=funext fun k=>by
   rw[hs];exact propext ⟨fun h=>h.elim (fun h=>.inl (Option.some.inj h).symm) .inr,fun h=>h.elim (fun h=>.inl (by rw[h])) .inr⟩
  rw[e];exact this
theorem cN.sub(h:cN w B F s)(p:ct N→Bool){v':Value}(hs:∀k,k<w.heap.size→(F k∨dA w k=some 98∨dA w k=some 108)→w'.heap[k]?=w.heap[k]?)(hz:w.heap.size≤w'.heap.size)(ho:w'.heap[s.z]?=some (.cells #[.bool true,v'] 74))(hl:aA fD 89 1 w' B v' ((s.tabs.filter p).map (·.b))):cN w' B F ⟨s.z,v',s.tabs.filter p⟩:=by
 have hF:∀k,F k→w'.heap[k]?=w.heap[k]?:=fun k hk=>hs k (h.fl k hk) (.inl hk);have hnd:((s.tabs.filter p).map (·.b)).Nodup:=h.nd.sublist (List.filter_sublist.map _)
 refine⟨ho,hl,fun t ht=>?_,hnd,fun i j ti tj hi hj hij k hk=>?_,h.low,h.ty.same hF,fun k hk=>Nat.lt_of_lt_of_le (h.fl k hk) hz⟩
 ·have h1:=h.tabs t (List.mem_filter.1 ht).1;exact h1.same (hs _ h1.lt (.inr (.inl (br h1.blk)))) (fun k hk=>hs k (h1.rows.lt hk).2 (.inr (.inr (dW h1.rows hk)))) hF (fun _ q=>q)
 ·obtain⟨i',hi'⟩:=List.mem_iff_getElem?.1 (List.mem_filter.1 (List.mem_of_getElem? hi)).1;obtain⟨j',hj'⟩:=List.mem_iff_getElem?.1 (List.mem_filter.1 (List.mem_of_getElem? hj)).1;refine h.Ov i' j' ti tj hi' hj' (fun e=>?_) k hk;subst e;rw[hi']at hj';obtain rfl:=Option.some.inj hj';have key:∀a b:Nat,a<b→(s.tabs.filter p)[a]?=some ti→(s.tabs.filter p)[b]?=some ti→False:=fun a b hab ha hb=>by
   obtain⟨_,e1⟩:=List.getElem?_eq_some_iff.1 ha;obtain⟨kj,e2⟩:=List.getElem?_eq_some_iff.1 hb;have:=List.pairwise_iff_getElem.1 hnd a b (by rw[List.length_map];omega) (by rw[List.length_map];omega) hab;rw[List.getElem_map,List.getElem_map,e1,e2]at this;exact this rfl
  rcases Nat.lt_or_gt_of_ne hij with hlt|hlt
  ·exact key i j hlt hi hj
  ·exact key j i hlt hj hi
end
section
variable {N:Nat}{w w':World}{B:Nat}{F:Nat→Prop}{s:iy N}{r:Tm (N+1)}{ur:Value}{B2:Nat}
theorem JN{l:List (ct N)}(hnd:(l.map (·.b)).Nodup){i:Nat}(hi:i<l.length):l.filter (fun t=>!decide (t.b=(l[i]).b))=l.take i++l.drop (i+1):=by
 have hp:=List.pairwise_iff_getElem.1 hnd;have key:∀j,(hj:j<l.length)→j≠i→(l[j]).b≠(l[i]).b:=fun j hj hji e=>by
  rcases Nat.lt_or_gt_of_ne hji with h|h
  ·exact hp j i (by rw[List.length_map];exact hj) (by rw[List.length_map];exact hi) h (by rw[List.getElem_map,List.getElem_map];exact e)
  ·exact hp i j (by rw[List.length_map];exact hi) (by rw[List.length_map];exact hj) h (by rw[List.getElem_map,List.getElem_map];exact e.symm)
 have h1:(l.take i).filter (fun t=>!decide (t.b=(l[i]).b))=l.take i:=by
  rw[List.filter_eq_self];intro t ht;obtain⟨j,hj,rfl⟩:=List.mem_iff_getElem.1 ht;rw[List.length_take]at hj;rw[List.getElem_take];have:=key j (by omega) (by omega);simp[this]
 have h2:(l.drop (i+1)).filter (fun t=>!decide (t.b=(l[i]).b))=l.drop (i+1):=by
  rw[List.filter_eq_self];intro t ht;obtain⟨j,hj,rfl⟩:=List.mem_iff_getElem.1 ht;rw[List.length_drop]at hj;rw[List.getElem_drop];have:=key (i+1+j) (by omega) (by omega);simp[this]
 obtain⟨b,hb⟩:∃b,(l[i]).b=b:=⟨_,rfl⟩;rw[hb]at h1 h2 ⊢;have e:l=l.take i++(l[i]::l.drop (i+1)):=by rw[←List.drop_eq_getElem_cons hi,List.take_append_drop]
 have hx:(!decide ((l[i]).b=b))=false:=by simp[hb]
 calc l.filter (fun t=>!decide (t.b=b))=(l.take i++(l[i]::l.drop (i+1))).filter (fun t=>!decide (t.b=b)):=by rw[←e]
  _=l.take i++l.drop (i+1):=by rw[List.filter_append,h1,List.filter_cons,hx,if_neg (by decide),h2]
theorem Mz(h:cN w B F s)(hlen:s.tabs.length≤1000)(hB:B2≤w.heap.size)(hI:ah w B2 N ur r.items){er:Int}(he:er≠0)(lD:mJ s.tabs r none er) :
 Calls Tryz.prog 41 #[.pointer (some ⟨s.z,0,none⟩),aj r.f ur] w fun e w'=>e=.returned (.int .i64 er)∧Below w.heap.size w w':=by
 have iX:=Qh (fun(W:World) (hW:Qb w W)=>eV (h.below hW) hlen (Nat.le_trans hB hW.size) (hI.below hW hB) (po:=none) (er:=er) lD);obtain⟨pr,cr,gQ,_,_⟩:=hI.shape;rw[gQ]at iX ⊢;clear h hlen hB hI lD gQ;generalize s.z=z at*;generalize r.items.length=nr at*;generalize r.f=fr at*;obtain⟨rk,ri,rg,rn,rf,ra,rb,rs⟩:=fr;unfold aj at*;dsimp only at*;have q1:(er==0)=false:=by rw[beq_eq_false_iff_ne];exact he
 have hb0:=aG (Below.refl w.heap.size w) (.cells (a9 rk ri rg rn rf ra (.slice pr nr cr) rb rs) 24) (Nat.le_refl _);have HL:=Qh (aq (x:=(l9 rk ri rg rn rf ra (.slice pr nr cr) rb rs)) (aF w (.cells (a9 rk ri rg rn rf ra (.slice pr nr cr) rb rs) 24)));have bu:=Qh hb0;clear hb0;go_enter Tryz.func41,Tryz.ntmps41;go_upto_region 1 with(fail);generalize(w.alloc (.cells (a9 rk ri rg rn rf ra (.slice pr nr cr) rb rs) 24))=W1 at*;go_wp2_with (first
  | (refine Ql HL.out ?_))
 refine(iX.out _ bu.out).mono ?_;rintro e w2 ⟨rfl,a_⟩;have bS:=Qh (bu.out.trans (a_.mono bu.out.size));clear HL a_ iX bu;go_wp2_with fail;go_ret;exact⟨rfl,bS.out.alloc bS.out.size _⟩
def Yj(w:World)(B:Nat)(F:Nat→Prop)(z:Nat)(tabs:List (ct N))(e:Ending)(w':World):Prop:=e=.returned (.int .i64 0)∧(∃v',cN w' B F ⟨z,v',tabs⟩)∧TT eF B w w'
theorem MA(h:cN w B F s)(hlen:s.tabs.length≤1000)(hB:B≤w.heap.size)(gZ:B2≤w.heap.size)(hI:ah w B2 N ur r.items){i:Nat}(hi:i<s.tabs.length)(hr:dK s.tabs r=some i) :
 Calls Tryz.prog 41 #[.pointer (some ⟨s.z,0,none⟩),aj r.f ur] w (Yj w B F s.z (s.tabs.take i++s.tabs.drop (i+1))):=by
 have iX:=Qh (fun(W:World) (hW:Qb w W)=>eV (h.below hW) hlen (Nat.le_trans gZ hW.size) (hI.below hW gZ) (.inr ⟨i,hi,hr,rfl,rfl⟩));obtain⟨g,cp,cur,hvl,hBg,KT,_,_,_,_⟩:=lz h.l (by rw[List.length_map];omega);rw[List.length_map]at hvl;have hgt:=dW h.l (k:=g) (by rw[hvl];rfl);have Sr:=(Qg KT);have hp:=List.pairwise_iff_getElem.1 h.nd;have hL:(s.tabs.map (·.b)).length=s.tabs.length:=List.length_map _;have hLi:(s.tabs.map (·.b))[i]'(by omega)=(s.tabs[i]).b:=List.getElem_map _
 have D3:=Qh (fun(w2:World) (hW:Qb w w2)=>(show Calls Tryz.prog 64 #[.slice (some ⟨g,0,none⟩) s.tabs.length cp,.func (.func 74) #[] #[.pointer (some ⟨w2.heap.size,0,none⟩)]] (w2.alloc (.cells #[.pointer (some ⟨(s.tabs[i]).b,0,none⟩)] 89)) (QC (w2.alloc (.cells #[.pointer (some ⟨(s.tabs[i]).b,0,none⟩)] 89)) B g ((s.tabs.map (·.b)).take i++(s.tabs.map (·.b)).drop (i+1))) from by
  have bN:=aG hW (.cells #[.pointer (some ⟨(s.tabs[i]).b,0,none⟩)] 89) hW.size
  have h3:=h.below bN
  have ho:=h3.l
  rw[hvl]at ho
  refine QD (by omega) hL.symm ho (i:=i) (by omega) (by have:=hW.size;omega) ?_ (fun j hj hji e=>?_) (fun b hb=>?_)
  ·rw[hLi]
   exact cm (x:=[.pointer (some ⟨(s.tabs[i]).b,0,none⟩)]) (aF w2 _) 0 _ rfl
  ·rcases Nat.lt_or_gt_of_ne hji with q|q
   ·exact hp j i hj (by omega) q e.symm
   ·exact hp i j (by omega) hj q e
  ·obtain⟨t,ht,rfl⟩:=List.mem_map.1 hb
   exact⟨_,(h3.tabs t ht).blk⟩))
 have eC:=Qh (fun(W w4:World) (hW:Qb w W) (hT:ax (fun q=>q=g) W w4)=>(show w4.heap[s.z]?=some (.cells #[.bool true,s.vl] 74) from
  (hT.block s.z (h.below hW).Kn (fun e=>dX (br h.obj) hgt (by decide) e)).trans (h.below hW).obj))
 have rG:=Qh (fun(W w4:World) (v':Value) (hW:Qb w W) (hT:ax (fun q=>q=g) W w4) (ho:aA fD 89 1 w4 B v' ((s.tabs.map (·.b)).take i++(s.tabs.map (·.b)).drop (i+1))) (hv:v'.ownBlock=some g)=>(show Yj w B F s.z (s.tabs.take i++s.tabs.drop (i+1)) (.returned (.int .i64 0)) (w4.setCell ⟨s.z,1,none⟩ v') from by
  have QI:=eC.out W w4 hW hT
  have GD:=h.below hW
  have T7:dA W g=some 89:=(xT (hW.block g Sr)).trans hgt
  have fQ:∀q,q≠s.z→(w4.setCell ⟨s.z,1,none⟩ v').heap[q]?=w4.heap[q]?:=fun q hq=>Below.heap_setCell _ _ _ _ hq
  have Gv:=br GD.obj
  refine⟨rfl,⟨v',?_⟩,?_⟩
  ·rw[←JN h.nd hi]
   refine GD.sub (fun t=>!decide (t.b=(s.tabs[i]).b)) (fun k hk hq=>?_) (by rw[World.size_setCell];exact hT.size) (fp QI v') ?_
   ·have hne:dA W k=some 24∨dA W k=some 98∨dA W k=some 108:=hq.elim (fun hF=>.inl (yV GD hF)) .inr
    refine(fQ k (fun e=>?_)).trans (hT.block k hk (fun e=>?_))
    ·subst e;rw[Gv]at hne;rcases hne with h|h|h <;> exact absurd (Option.some.inj h) (by decide)
    ·subst e;rw[T7]at hne;rcases hne with h|h|h <;> exact absurd (Option.some.inj h) (by decide)
   ·rw[JN h.nd hi,List.map_append,List.map_take,List.map_drop]
    exact ho.same (fun k hk=>fQ k (fun e=>by
     subst e
     rw[hv]at hk
     obtain rfl:=Option.some.inj hk
     exact dX T7 Gv (by decide) rfl))
  ·exact ax.setCell (((ax.refl _ w).bJ hW (Nat.le_refl _)).trans hT (fun q hq e=>by subst e;exact⟨hBg,89,hgt,.inr (.inl rfl)⟩)) _ _ (fun hq=>⟨h.low,74,br h.obj,.inl rfl⟩)))
 have hz:=br h.obj;obtain⟨pr,cr,gQ,_,_⟩:=hI.shape;rw[gQ]at iX ⊢;rw[hvl]at eC;clear h hlen hB gZ hI gQ hr hp hL hLi KT hvl;generalize(s.tabs[i]).b=tb at*;generalize hDr:Yj w B F s.z (s.tabs.take i++s.tabs.drop (i+1))=DQ at*;clear hDr;generalize(s.tabs.map (·.b)).take i++(s.tabs.map (·.b)).drop (i+1)=M at*;generalize hnt:s.tabs.length=nt at*;generalize s.z=z at*;generalize r.items.length=nr at*;generalize r.f=fr at*;obtain⟨rk,ri,rg,rn,rf,ra,rb,rs⟩:=fr;unfold aj at*;dsimp only at*
 have hb0:=aG (Below.refl w.heap.size w) (.cells (a9 rk ri rg rn rf ra (.slice pr nr cr) rb rs) 24) (Nat.le_refl _);have HL:=Qh (aq (x:=(l9 rk ri rg rn rf ra (.slice pr nr cr) rb rs)) (aF w (.cells (a9 rk ri rg rn rf ra (.slice pr nr cr) rb rs) 24)));have bu:=Qh hb0;clear hb0;go_enter Tryz.func41,Tryz.ntmps41;go_upto_region 1 with(fail);generalize(w.alloc (.cells (a9 rk ri rg rn rf ra (.slice pr nr cr) rb rs) 24))=W1 at*;go_wp2_with (first
  | (refine Ql HL.out ?_))
 refine(iX.out _ bu.out).mono ?_;rintro e w2 ⟨rfl,a_⟩;have bS:=Qh (bu.out.trans (a_.mono bu.out.size));clear HL a_ iX bu;have au:=bS.out;have bN:=aG au (.cells #[.pointer (some ⟨tb,0,none⟩)] 89) au.size;have N8:=Qh (D3.out _ au);have ho:=eC.out _ _ bN (ax.refl _ _);have c1:=cm (x:=[.bool true,.slice (some ⟨g,0,none⟩) nt cp]) ho 1 _ rfl;have dJ:=Qh bN;clear ho au bN D3;go_wp2_with fail;refine N8.out.mono ?_;rintro e w4 ⟨v',rfl,q1,q2,q3,q4⟩;have HE:=Qh (rG.out _ _ _ dJ.out q2 q1 q3);have ho:=eC.out _ _ dJ.out q2;obtain⟨p',c',rfl,_,_⟩:=q1.shape
 have k1:=cm (x:=[.bool true,.slice (some ⟨g,0,none⟩) nt cp]) ho 1 _ rfl;have f1:w4.frozen? ⟨z,1,none⟩=false:=by simp only[World.frozen?,ho];simp
 clear ho q1 q2 q3 q4 rG eC c1;go_wp2_with fail;exact HE.out
end
section
variable {N:Nat}{w w':World}{B y:Nat}{lv:Value}{T:List (g6 N)}{t:g6 N}{r k:Tm (N+1)}{fF uk:Value}
theorem Nw(h:mN w B t)(hl:t.rows.length≤1000000)(i:Nat):Calls Tryz.prog 97 #[.agg (ku t).toArray,.int .i64 i] w (CM (t.rows[i]?) 0 w):=by
 by_cases hi:t.rows.length≤i
 ·exact Qo h hi
 ·exact Qq h (List.getElem?_eq_getElem (by omega)) hl
theorem JO(h:mN w B t)(i:Nat):(BS (t.rows[i]?)).oneCell'=true∧(BU (t.rows[i]?)).oneCell'=true:=by
 cases hx:t.rows[i]? with
 | none=>exact⟨rfl,rfl⟩
 | some e=>have:=h.gU e (List.mem_of_getElem? hx);exact⟨cP this.1,cP this.2⟩
theorem JP(h:cY w B y lv T)(hT:T.length≤1000)(hI:ah w B N fF r.items)(hr:jG T r=none):Calls Tryz.prog 68 #[.pointer (some ⟨y,0,none⟩),aj r.f fF] w (CM (none:Option (qI N)) 4 w):=by
 have hB:=h.blt;have cB:=Qh (fun(W:World) (hW:Qb w W)=>lq (h.below hW) hT (Nat.le_trans hB hW.size) (hI.below hW hB));obtain⟨pr,cr,e1,_,_⟩:=hI.shape;unfold CM DV BS DW BU;simp only[Option.elim_none,Option.isSome_none,Option.elim];unfold aY aK;rw[hr]at cB;unfold lm at cB;dsimp only at cB;rw[e1]at cB ⊢;clear h hT hI hB e1 hr;generalize r.items.length=nr at*;generalize lJ:r.f=fr at*;obtain⟨rk,ri,rg,rn,rf,ra,rb,rz⟩:=fr;unfold aj at*;dsimp only at*;have cE:(Tryz.prog.info? 24).map (·.size)=some 9:=by kernel_rfl
 obtain⟨hb0,_,bT,bX,fY⟩:=bV w (.cells (a9 rk ri rg rn rf ra (.slice pr nr cr) rb rz) 24) cQ cQ;have iq:=(Qg bT);have jC:=(Qg bX);have nR:=(Qg fY);go_enter Tryz.func68,Tryz.ntmps68;go_upto_region 1 with(fail);generalize(((w.alloc (.cells (a9 rk ri rg rn rf ra (.slice pr nr cr) rb rz) 24)).alloc cQ).alloc cQ)=W1 at*;have HX:=Qh (fun W (hW:Qb W1 W)=>(And.intro (aq (x:=(l9 rk ri rg rn rf ra (.slice pr nr cr) rb rz)) ((hW.block _ iq).trans bT)) (And.intro ((hW.block _ jC).trans bX) ((hW.block _ nR).trans fY))));have hb:=Below.refl W1.heap.size W1;have au:=hb0
 clear hb0 bT iq bX jC fY nR;have dw:=Qh ((HX.out _ hb).1);go_wp2_with (first
  | (refine Ql dw.out ?_))
 refine(cB.out _ au).mono ?_;rintro e' w2 ⟨rfl,aD⟩;replace hb:=hb.trans (aD.mono hb.size);replace au:=au.trans (aD.mono au.size);clear aD cB dw;have bT:=(HX.out _ hb).2.1;have bX:=(HX.out _ hb).2.2;have jO:=(setRow_other w2 (w.heap.size+1) (w.heap.size+2) dG (by omega)).trans bX;have BV:=(setRow_other _ (w.heap.size+2) (w.heap.size+1) dG (by omega)).trans (setRow_heap w2 (w.heap.size+1) _ dG _ _ bT);have wN:=setRow_heap _ (w.heap.size+2) _ dG _ _ jO;have dZ:=ed (b:=(w.heap.size+2)) (ed (b:=(w.heap.size+1)) au (by omega) dG) (by omega) dG
 have eT:=Qh bT;have iW:=Qh jO;have HF:=Qh (And.intro (run_loadVar_mid (P:=Tryz.prog) _ (w.heap.size+1) 0 24 uJ _ (aq BV) Tryz.underlying24 rfl cE) (And.intro (run_loadVar_mid (P:=Tryz.prog) _ (w.heap.size+2) 0 24 uJ _ (aq wN) Tryz.underlying24 rfl cE) dZ));clear bT bX jO BV wN dZ;go_wp2_with (first
  | (refine Qs eT.out fJ ?_)
  | (refine Qs iW.out fJ ?_))
 (try simp only[Exit.inBlock,Exit.then])
 obtain⟨gP,dM,fR⟩:=HF.out;refine bodyPost_ret (v:=.tuple #[.agg dG,.agg dG,.bool false,.int .i64 4]) ?_ rfl ⟨rfl,fR⟩;have hA:∀(a:Addr) (w:World),(asAddr (.pointer (some a))).run Tryz.prog w=.ok a w:=fun _ _=>rfl;rw[cX rfl];simp[hA,gP,dM,Result.andThen]
theorem JQ(h:cY w B y lv T)(hT:T.length≤1000)(hI:ah w B N fF r.items){i:Nat}(hr:jG T r=some i)(ht:T[i]?=some t)(hl:t.rows.length≤1000000):Calls Tryz.prog 68 #[.pointer (some ⟨y,0,none⟩),aj r.f fF] w (CM (t.rows[0]?) 0 w):=by
 have hB:=h.blt;have cB:=Qh (fun(W:World) (hW:Qb w W)=>lq (h.below hW) hT (Nat.le_trans hB hW.size) (hI.below hW hB));obtain⟨pr,cr,e1,_,_⟩:=hI.shape;obtain⟨gl,cl,hlv,hil,mo,Gl,_,hm⟩:=h.main ht;have nQ:=h.tabs t (List.mem_of_getElem? ht);rw[hr]at cB;unfold lm at cB;dsimp only at cB;rw[e1]at cB ⊢;rw[hlv]at hm;have wY:=Qh (fun(W:World) (hW:Qb w W)=>(show Calls Tryz.prog 97 #[.agg (ku t).toArray,.int .i64 0] W (CM (t.rows[0]?) 0 W) from Nw ((h.below hW).tabs t (List.mem_of_getElem? ht)) hl 0));obtain⟨C6,AK⟩:=JO nQ 0;unfold ku aE at hm wY;unfold CM at wY ⊢
 have HM:=Qh hm;generalize t.rows[0]?=x0 at*;clear h hT hI hB e1 hr ht hm nQ hlv hl;generalize T.length=nT at*;obtain⟨ko,kp,ur,uo,hs,vr,rows⟩:=t;dsimp only at*;generalize ko.f=fe at*;generalize kp.f=fo at*;obtain⟨ek,ei,eg,en,ef,ea,eb,ez⟩:=fe;obtain⟨ok,oi,og,on,of,oa,ob,oz⟩:=fo;generalize r.items.length=nr at*;generalize lJ:r.f=fr at*;obtain⟨rk,ri,rg,rn,rf,ra,rb,rz⟩:=fr;generalize BS x0=ua at*;generalize BU x0=ub at*;generalize DV x0=fa at*;generalize DW x0=fb at*;generalize x0.isSome=bo at*;obtain⟨ak,ai,ag,an,af,aa,ab,az⟩:=fa
 obtain⟨bk,bi,bg,bn,bf,ba,bb,bz⟩:=fb;unfold aj at*;dsimp only at*;simp only[List.cons_append,List.nil_append]at HM wY;have cE:(Tryz.prog.info? 24).map (·.size)=some 9:=by kernel_rfl
 have jY:(Tryz.prog.info? 53).map (·.size)=some 20:=by kernel_rfl
 obtain⟨hb0,_,bT,bX,fY⟩:=bV w (.cells (a9 rk ri rg rn rf ra (.slice pr nr cr) rb rz) 24) cQ cQ;have iq:=(Qg bT);have jC:=(Qg bX);have nR:=(Qg fY);go_enter Tryz.func68,Tryz.ntmps68;go_upto_region 1 with(fail);generalize(((w.alloc (.cells (a9 rk ri rg rn rf ra (.slice pr nr cr) rb rz) 24)).alloc cQ).alloc cQ)=W1 at*;have HX:=Qh (fun W (hW:Qb W1 W)=>(And.intro (aq (x:=(l9 rk ri rg rn rf ra (.slice pr nr cr) rb rz)) ((hW.block _ iq).trans bT)) (And.intro ((hW.block _ jC).trans bX) ((hW.block _ nR).trans fY))));have hb:=Below.refl W1.heap.size W1;have au:=hb0
 clear hb0 bT iq bX jC fY nR;have dw:=Qh ((HX.out _ hb).1);go_wp2_with (first
  | (refine Ql dw.out ?_))
 refine(cB.out _ au).mono ?_;rintro e' w2 ⟨rfl,aD⟩;replace hb:=hb.trans (aD.mono hb.size);replace au:=au.trans (aD.mono au.size);clear aD cB dw;have r1:(i:Int)<(nT:Int):=by omega
 have r2:¬((i:Int)<0):=by omega
 have k0:=(HM.out _ au).2.1;have B4:=Qh (HM.out _ au).1;go_wp2_with (first
  | (refine wpList_load_mid rfl 53 (.tmp 21) rfl gl (i*20) rfl (wH ek ei eg en ef ea ur eb ez ok oi og on of oa uo ob oz hs vr) _ B4.out Tryz.underlying53 rfl jY ?_))
 refine(wY.out _ au).mono ?_;rintro e' w3 ⟨rfl,aD⟩;replace hb:=hb.trans (aD.mono hb.size);replace au:=au.trans (aD.mono au.size);clear aD wY B4 k0;have Qt:((a9 ak ai ag an af aa ua ab az):Array Value).all (·.oneCell')=true:=all_oneCell_toArray (aH (f:=⟨ak,ai,ag,an,af,aa,ab,az⟩) (u:=ua) C6);have Gn:((a9 bk bi bg bn bf ba ub bb bz):Array Value).all (·.oneCell')=true:=all_oneCell_toArray (aH (f:=⟨bk,bi,bg,bn,bf,ba,bb,bz⟩) (u:=ub) AK);have bT:=(HX.out _ hb).2.1;have bX:=(HX.out _ hb).2.2
 have jO:=(setRow_other w3 (w.heap.size+1) (w.heap.size+2) (a9 ak ai ag an af aa ua ab az) (by omega)).trans bX;have BV:=(setRow_other _ (w.heap.size+2) (w.heap.size+1) (a9 bk bi bg bn bf ba ub bb bz) (by omega)).trans (setRow_heap w3 (w.heap.size+1) _ (a9 ak ai ag an af aa ua ab az) _ _ bT);have wN:=setRow_heap _ (w.heap.size+2) _ (a9 bk bi bg bn bf ba ub bb bz) _ _ jO;have dZ:=ed (b:=(w.heap.size+2)) (ed (b:=(w.heap.size+1)) au (by omega) (a9 ak ai ag an af aa ua ab az)) (by omega) (a9 bk bi bg bn bf ba ub bb bz);have eT:=Qh bT;have iW:=Qh jO
 have HF:=Qh (And.intro (run_loadVar_mid (P:=Tryz.prog) _ (w.heap.size+1) 0 24 (l9 ak ai ag an af aa ua ab az) _ (aq BV) Tryz.underlying24 rfl cE) (And.intro (run_loadVar_mid (P:=Tryz.prog) _ (w.heap.size+2) 0 24 (l9 bk bi bg bn bf ba ub bb bz) _ (aq wN) Tryz.underlying24 rfl cE) dZ));clear bT bX jO BV wN dZ;go_wp2_with (first
  | (refine Qs eT.out Qt ?_)
  | (refine Qs iW.out Gn ?_))
 (try simp only[Exit.inBlock,Exit.then])
 obtain⟨gP,dM,fR⟩:=HF.out;refine bodyPost_ret (v:=.tuple #[.agg (a9 ak ai ag an af aa ua ab az),.agg (a9 bk bi bg bn bf ba ub bb bz),.bool bo,.int .i64 0]) ?_ rfl ⟨rfl,fR⟩;have hA:∀(a:Addr) (w:World),(asAddr (.pointer (some a))).run Tryz.prog w=.ok a w:=fun _ _=>rfl;rw[cX rfl];simp[hA,gP,dM,Result.andThen]
theorem Fw(h:cY w B y lv T)(hT:T.length≤1000)(a:sS w B r k fF uk){er:Int}(Px:er≠0)(hG:∀W,Below w.heap.size w W→Calls Tryz.prog 58 #[.pointer (some ⟨y,0,none⟩),aj r.f fF,aj k.f uk] W fun e w'=>e=.returned (.tuple #[.agg #[.int .i64 0,.int .i64 0,.int .i64 0,.string ⟨#[]⟩,.string ⟨#[]⟩,.int .i64 0,.slice none 0 0,.string ⟨#[]⟩,.int .i64 0],.bool false,.int .i64 er])∧Below W.heap.size W w'):Calls Tryz.prog 70 #[.pointer (some ⟨y,0,none⟩),aj r.f fF,aj k.f uk] w (CM (none:Option (qI N)) er w):=by
 have MB:=Qh hG;unfold CM DV BS DW BU;simp only[Option.elim_none,Option.isSome_none,Option.elim];unfold aY aK;obtain⟨pr,cr,e1,_,_⟩:=a.ir.shape;obtain⟨pk,ck,e2,_,_⟩:=a.ik.shape;rw[e1]at MB ⊢;rw[e2]at MB ⊢;clear h hT a e1 e2 hG;generalize r.items.length=nr at*;generalize k.items.length=nk at*;generalize lJ:r.f=fr at*;generalize Gk:k.f=fk at*;obtain⟨rk,ri,rg,rn,rf,ra,rb,rz⟩:=fr;obtain⟨kk,ki,kg,kn,kf,ka,kb,kz⟩:=fk;unfold aj at*;dsimp only at*;have cE:(Tryz.prog.info? 24).map (·.size)=some 9:=by kernel_rfl
 obtain⟨hb0,_,bT,bX,fY,eA⟩:=kS w (.cells (a9 rk ri rg rn rf ra (.slice pr nr cr) rb rz) 24) (.cells (a9 kk ki kg kn kf ka (.slice pk nk ck) kb kz) 24) cQ cQ;have iq:=(Qg bT);have jC:=(Qg bX);have nR:=(Qg fY);have gP:=(Qg eA);go_enter Tryz.func70,Tryz.ntmps70;go_upto_region 1 with(fail);generalize((((w.alloc (.cells (a9 rk ri rg rn rf ra (.slice pr nr cr) rb rz) 24)).alloc (.cells (a9 kk ki kg kn kf ka (.slice pk nk ck) kb kz) 24)).alloc cQ).alloc cQ)=W1 at*
 have HX:=Qh (fun W (hW:Qb W1 W)=>(And.intro (aq (x:=(l9 rk ri rg rn rf ra (.slice pr nr cr) rb rz)) ((hW.block _ iq).trans bT)) (And.intro (aq (x:=(l9 kk ki kg kn kf ka (.slice pk nk ck) kb kz)) ((hW.block _ jC).trans bX)) (And.intro ((hW.block _ nR).trans fY) ((hW.block _ gP).trans eA)))));have hb:=Below.refl W1.heap.size W1;have au:=hb0;clear hb0 bT iq bX jC fY nR eA gP;have dw:=Qh (HX.out _ hb).1;have lO:=Qh (HX.out _ hb).2.1;go_wp2_with (first
  | (refine Ql dw.out ?_)
  | (refine Ql lO.out ?_))
 refine(MB.out _ au).mono ?_;rintro e' w2 ⟨rfl,aD⟩;replace hb:=hb.trans (aD.mono hb.size);replace au:=au.trans (aD.mono au.size);clear aD MB dw lO;have Dx:=aF w2 cQ;have hba:=aG (Below.refl w2.heap.size w2) cQ (Nat.le_refl _);have Bs:=Qh Dx;obtain⟨x3,Pb,Rf,Jv,Rl,BW⟩:=Fp hba (Nat.le_refl _) dG Dx;have JR:=Jv;replace hb:=hb.trans (Jv.mono hb.size);replace au:=au.trans (JR.mono au.size);clear Dx hba Rf Jv JR Rl BW;go_upto_region 2 with(first
  | (refine Qs Bs.out fJ ?_))
 clear Bs;(try rw[Pb])
 clear Pb;have q1:(er != 0)=true:=by rw[bne_iff_ne];exact Px
 have bT:=(HX.out _ hb).2.2.1;have bX:=(HX.out _ hb).2.2.2;have jO:=(setRow_other x3 (w.heap.size+2) (w.heap.size+3) dG (by omega)).trans bX;have BV:=(setRow_other _ (w.heap.size+3) (w.heap.size+2) dG (by omega)).trans (setRow_heap x3 (w.heap.size+2) _ dG _ _ bT);have wN:=setRow_heap _ (w.heap.size+3) _ dG _ _ jO;have dZ:=ed (b:=(w.heap.size+3)) (ed (b:=(w.heap.size+2)) au (by omega) dG) (by omega) dG;have eT:=Qh bT;have iW:=Qh jO
 have HF:=Qh (And.intro (run_loadVar_mid (P:=Tryz.prog) _ (w.heap.size+2) 0 24 uJ _ (aq BV) Tryz.underlying24 rfl cE) (And.intro (run_loadVar_mid (P:=Tryz.prog) _ (w.heap.size+3) 0 24 uJ _ (aq wN) Tryz.underlying24 rfl cE) dZ));clear bT bX jO BV wN dZ;go_wp2_with (first
  | (refine Qs eT.out fJ ?_)
  | (refine Qs iW.out fJ ?_))
 (try simp only[Exit.inBlock,Exit.then])
 obtain⟨gP,dM,fR⟩:=HF.out;refine bodyPost_ret (v:=.tuple #[.agg dG,.agg dG,.bool false,.int .i64 er]) ?_ rfl ⟨rfl,fR⟩;have hA:∀(a:Addr) (w:World),(asAddr (.pointer (some a))).run Tryz.prog w=.ok a w:=fun _ _=>rfl;rw[cX rfl];simp[hA,gP,dM,Result.andThen]
theorem Fx(h:cY w B y lv T)(hT:T.length≤1000)(a:sS w B r k fF uk){i:Nat}(hr:jG T r=some i)(ht:T[i]?=some t)(hl:t.rows.length≤1000000)(hnd:∀r∈t.rows,ap r.k≤100000000){fg:TF}{ug:Value}{is:Bool}(hug:ug.oneCell'=true)(hG:∀W,Below w.heap.size w W→Calls Tryz.prog 58 #[.pointer (some ⟨y,0,none⟩),aj r.f fF,aj k.f uk] W fun e w'=>e=.returned (.tuple #[aj fg ug,.bool is,.int .i64 0])∧Below W.heap.size W w') :
 Calls Tryz.prog 70 #[.pointer (some ⟨y,0,none⟩),aj r.f fF,aj k.f uk] w (CM (t.rows[v_ (bM t.hs) (bh t.rows) k]?) 0 w):=by
 have MB:=Qh hG;have hB:=h.blt;have cB:=Qh (fun(W:World) (hW:Qb w W)=>lq (h.below hW) hT (Nat.le_trans hB hW.size) (a.ir.below hW hB));have qO:=Qh (fun(W:World) (hW:Qb w W)=>rL t (Nat.le_trans hB hW.size) ((h.below hW).tabs t (List.mem_of_getElem? ht)) hl hnd (Nat.le_trans hB hW.size) (a.ik.below hW hB) a.nk);have tV:cK (bM t.hs) (bh t.rows) k≤1000000:=Nat.le_trans (uB _ _) (by unfold bh;rw[List.length_map];exact hl);unfold v_;generalize cK (bM t.hs) (bh t.rows) k=px at*;generalize gp (bM t.hs) (bh t.rows) k=hx at*
 obtain⟨pos,hpos⟩:∃q,(if hx=true then px+1 else px)=q:=⟨_,rfl⟩;rw[hpos];have MC:=Qh hpos;clear hpos;have QJ:=Qh (fun(W:World) (hW:Qb w W)=>Nw ((h.below hW).tabs t (List.mem_of_getElem? ht)) hl pos);obtain⟨pr,cr,e1,_,_⟩:=a.ir.shape;obtain⟨pk,ck,e2,_,_⟩:=a.ik.shape;obtain⟨gl,cl,hlv,hil,mo,Gl,_,hm⟩:=h.main ht;have nQ:=h.tabs t (List.mem_of_getElem? ht);rw[hr]at cB;unfold lm at cB;dsimp only at cB;rw[e1]at cB MB ⊢;rw[hlv]at hm;obtain⟨C6,AK⟩:=JO nQ pos;rw[e2]at qO MB ⊢;unfold ku aE at hm QJ qO;unfold CM at QJ ⊢;generalize t.rows[pos]?=x0 at*
 generalize BS x0=ua at*;generalize BU x0=ub at*;generalize DV x0=fa at*;generalize DW x0=fb at*;generalize x0.isSome=bo at*;unfold PA at qO;have HM:=Qh hm;clear h hT a hB e1 e2 hr ht hm nQ hlv hl hnd hG;generalize T.length=nT at*;obtain⟨ko,kp,ur,uo,hs,vr,rows⟩:=t;dsimp only at*;generalize ko.f=fe at*;generalize kp.f=fo at*;obtain⟨ek,ei,eg,en,ef,ea,eb,ez⟩:=fe;obtain⟨ok,oi,og,on,of,oa,ob,oz⟩:=fo;generalize r.items.length=nr at*;generalize k.items.length=nk at*;generalize lJ:r.f=fr at*;generalize Gk:k.f=fk at*
 obtain⟨rk,ri,rg,rn,rf,ra,rb,rz⟩:=fr;obtain⟨kk,ki,kg,kn,kf,ka,kb,kz⟩:=fk;obtain⟨gk,gi,gg,gn,gf,ga,gb,gz⟩:=fg;obtain⟨ak,ai,ag,an,af,aa,ab,az⟩:=fa;obtain⟨bk,bi,bg,bn,bf,ba,bb,bz⟩:=fb;unfold aj at*;dsimp only at*;simp only[List.cons_append,List.nil_append]at HM QJ qO;have jY:(Tryz.prog.info? 53).map (·.size)=some 20:=by kernel_rfl
 have hoG:((a9 gk gi gg gn gf ga ug gb gz):Array Value).all (·.oneCell')=true:=all_oneCell_toArray (aH (f:=⟨gk,gi,gg,gn,gf,ga,gb,gz⟩) (u:=ug) hug);have cE:(Tryz.prog.info? 24).map (·.size)=some 9:=by kernel_rfl
 obtain⟨hb0,_,bT,bX,fY,eA⟩:=kS w (.cells (a9 rk ri rg rn rf ra (.slice pr nr cr) rb rz) 24) (.cells (a9 kk ki kg kn kf ka (.slice pk nk ck) kb kz) 24) cQ cQ;have iq:=(Qg bT);have jC:=(Qg bX);have nR:=(Qg fY);have gP:=(Qg eA);go_enter Tryz.func70,Tryz.ntmps70;go_upto_region 1 with(fail);generalize((((w.alloc (.cells (a9 rk ri rg rn rf ra (.slice pr nr cr) rb rz) 24)).alloc (.cells (a9 kk ki kg kn kf ka (.slice pk nk ck) kb kz) 24)).alloc cQ).alloc cQ)=W1 at*
 have HX:=Qh (fun W (hW:Qb W1 W)=>(And.intro (aq (x:=(l9 rk ri rg rn rf ra (.slice pr nr cr) rb rz)) ((hW.block _ iq).trans bT)) (And.intro (aq (x:=(l9 kk ki kg kn kf ka (.slice pk nk ck) kb kz)) ((hW.block _ jC).trans bX)) (And.intro ((hW.block _ nR).trans fY) ((hW.block _ gP).trans eA)))));have hb:=Below.refl W1.heap.size W1;have au:=hb0;clear hb0 bT iq bX jC fY nR eA gP;have dw:=Qh (HX.out _ hb).1;have lO:=Qh (HX.out _ hb).2.1;go_wp2_with (first
  | (refine Ql dw.out ?_)
  | (refine Ql lO.out ?_))
 refine(MB.out _ au).mono ?_;rintro e' w2 ⟨rfl,aD⟩;replace hb:=hb.trans (aD.mono hb.size);replace au:=au.trans (aD.mono au.size);clear aD MB dw lO;have Dx:=aF w2 cQ;have hba:=aG (Below.refl w2.heap.size w2) cQ (Nat.le_refl _);have Bs:=Qh Dx;obtain⟨x3,Pb,Rf,Jv,Rl,BW⟩:=Fp hba (Nat.le_refl _) (a9 gk gi gg gn gf ga ug gb gz) Dx;have JR:=Jv;replace hb:=hb.trans (Jv.mono hb.size);replace au:=au.trans (JR.mono au.size);clear Dx hba Rf Jv JR Rl BW;go_upto_region 4 with(first
  | (refine Qs Bs.out hoG ?_))
 clear Bs;(try rw[Pb])
 clear Pb;have dw:=Qh (HX.out _ hb).1;go_wp2_with (first
  | (refine Ql dw.out ?_))
 refine(cB.out _ au).mono ?_;rintro e' w4 ⟨rfl,aD⟩;replace hb:=hb.trans (aD.mono hb.size);replace au:=au.trans (aD.mono au.size);clear aD cB dw;have r1:(i:Int)<(nT:Int):=by omega
 have r2:¬((i:Int)<0):=by omega
 go_upto_region 5 with(fail);replace hb:=hb.trans ((aZ (Below.refl w4.heap.size w4)).mono hb.size);replace au:=au.trans ((aZ (Below.refl w4.heap.size w4)).mono au.size)
 refine wp_region_held_drew (S:=(fun w'=>w'.cell? ⟨y,0,none⟩=some (.slice (some ⟨gl,0,none⟩) nT cl)∧w'.rangeAt gl (i*20) (wH ek ei eg en ef ea ur eb ez ok oi og on of oa uo ob oz hs vr)∧w'.rangeAt (w.heap.size+1) 0 (l9 kk ki kg kn kf ka (.slice pk nk ck) kb kz))) (by kernel_rfl) ?_ (fun hHeld=>?_)
 ·exact⟨(HM.out _ au).2.1,(HM.out _ au).1,(HX.out _ hb).2.1⟩
 generalize w4.drew=wd at*;refine run_in [0,1,2,3,4,5,6,7] ?_;iterate 3 refine Qe ?_
 refine Qc oZ (fun w hs=>hs.1) ?_;iterate 2 refine Qe ?_
 refine Qr rfl (yieldsIf_load_mid (by rfl) 53 (.tmp 38) rfl gl (i*20) rfl (wH ek ei eg en ef ea ur eb ez ok oi og on of oa uo ob oz hs vr) _ (fun w hs=>hs.2.1) Tryz.underlying53 rfl jY) ?_;refine Qm (fun w hs=>hs.2.2) ?_;refine aI ?_;refine Qd 8 (fun K hK=>?_);go_simp;refine(qO.out _ au).mono ?_;rintro e w6 ⟨rfl,aD⟩;replace hb:=hb.trans (aD.mono hb.size);replace au:=au.trans (aD.mono au.size);clear aD qO;go_wp2_with fail;refine Qk hK (⟨(HM.out _ au).2.1,(HM.out _ au).1,(HX.out _ hb).2.1⟩) (fun hHeld=>?_);clear hK K;refine run_in [9,10,11,12,13] ?_;iterate 5 refine Qe ?_
 refine aI ?_;refine wpAnyH_done (by kernel_rfl) ?_ _;cases hx;case false=>
  have e9:=MC.out;simp only[Bool.false_eq_true,if_false,if_true,reduceIte]at e9;subst e9;clear MC;have hwp:IntKind.i64.wrap ((px:Int)+1)=((px+1:Nat):Int):=by rw[IntWalk.i64_in _ (by omega)];omega
  have k0:=(HM.out _ au).2.1;have B4:=Qh (HM.out _ au).1;have Yk:=Qh (HX.out _ hb).2.1;have Qt:((a9 ak ai ag an af aa ua ab az):Array Value).all (·.oneCell')=true:=all_oneCell_toArray (aH (f:=⟨ak,ai,ag,an,af,aa,ab,az⟩) (u:=ua) C6);have Gn:((a9 bk bi bg bn bf ba ub bb bz):Array Value).all (·.oneCell')=true:=all_oneCell_toArray (aH (f:=⟨bk,bi,bg,bn,bf,ba,bb,bz⟩) (u:=ub) AK);go_wp2_with (first
   | (refine wpList_load_mid rfl 53 (.tmp 52) rfl gl (i*20) rfl (wH ek ei eg en ef ea ur eb ez ok oi og on of oa uo ob oz hs vr) _ B4.out Tryz.underlying53 rfl jY ?_))
  refine(QJ.out _ au).mono ?_;rintro e' w7 ⟨rfl,aD⟩;replace hb:=hb.trans (aD.mono hb.size);replace au:=au.trans (aD.mono au.size);clear aD QJ B4 k0 Yk;have bT:=(HX.out _ hb).2.2.1;have bX:=(HX.out _ hb).2.2.2;have jO:=(setRow_other w7 (w.heap.size+2) (w.heap.size+3) (a9 ak ai ag an af aa ua ab az) (by omega)).trans bX;have BV:=(setRow_other _ (w.heap.size+3) (w.heap.size+2) (a9 bk bi bg bn bf ba ub bb bz) (by omega)).trans (setRow_heap w7 (w.heap.size+2) _ (a9 ak ai ag an af aa ua ab az) _ _ bT)
  have wN:=setRow_heap _ (w.heap.size+3) _ (a9 bk bi bg bn bf ba ub bb bz) _ _ jO;have dZ:=ed (b:=(w.heap.size+3)) (ed (b:=(w.heap.size+2)) au (by omega) (a9 ak ai ag an af aa ua ab az)) (by omega) (a9 bk bi bg bn bf ba ub bb bz);have eT:=Qh bT;have iW:=Qh jO;have HF:=Qh (And.intro (run_loadVar_mid (P:=Tryz.prog) _ (w.heap.size+2) 0 24 (l9 ak ai ag an af aa ua ab az) _ (aq BV) Tryz.underlying24 rfl cE) (And.intro (run_loadVar_mid (P:=Tryz.prog) _ (w.heap.size+3) 0 24 (l9 bk bi bg bn bf ba ub bb bz) _ (aq wN) Tryz.underlying24 rfl cE) dZ))
  clear bT bX jO BV wN dZ;go_wp2_with (first
   | (refine Qs eT.out Qt ?_)
   | (refine Qs iW.out Gn ?_))
  (try simp only[Exit.inBlock,Exit.then])
  obtain⟨gP,dM,fR⟩:=HF.out;refine bodyPost_ret (v:=.tuple #[.agg (a9 ak ai ag an af aa ua ab az),.agg (a9 bk bi bg bn bf ba ub bb bz),.bool bo,.int .i64 0]) ?_ rfl ⟨rfl,fR⟩;have hA:∀(a:Addr) (w:World),(asAddr (.pointer (some a))).run Tryz.prog w=.ok a w:=fun _ _=>rfl;rw[cX rfl];simp[hA,gP,dM,Result.andThen]
 case true=>
  have e9:=MC.out;simp only[Bool.false_eq_true,if_false,if_true,reduceIte]at e9;subst e9;clear MC;have hwp:IntKind.i64.wrap ((px:Int)+1)=((px+1:Nat):Int):=by rw[IntWalk.i64_in _ (by omega)];omega
  have k0:=(HM.out _ au).2.1;have B4:=Qh (HM.out _ au).1;have Yk:=Qh (HX.out _ hb).2.1;have Qt:((a9 ak ai ag an af aa ua ab az):Array Value).all (·.oneCell')=true:=all_oneCell_toArray (aH (f:=⟨ak,ai,ag,an,af,aa,ab,az⟩) (u:=ua) C6);have Gn:((a9 bk bi bg bn bf ba ub bb bz):Array Value).all (·.oneCell')=true:=all_oneCell_toArray (aH (f:=⟨bk,bi,bg,bn,bf,ba,bb,bz⟩) (u:=ub) AK);go_wp2_with (first
   | (refine wpList_load_mid rfl 53 (.tmp 52) rfl gl (i*20) rfl (wH ek ei eg en ef ea ur eb ez ok oi og on of oa uo ob oz hs vr) _ B4.out Tryz.underlying53 rfl jY ?_))
  refine(QJ.out _ au).mono ?_;rintro e' w7 ⟨rfl,aD⟩;replace hb:=hb.trans (aD.mono hb.size);replace au:=au.trans (aD.mono au.size);clear aD QJ B4 k0 Yk;have bT:=(HX.out _ hb).2.2.1;have bX:=(HX.out _ hb).2.2.2;have jO:=(setRow_other w7 (w.heap.size+2) (w.heap.size+3) (a9 ak ai ag an af aa ua ab az) (by omega)).trans bX;have BV:=(setRow_other _ (w.heap.size+3) (w.heap.size+2) (a9 bk bi bg bn bf ba ub bb bz) (by omega)).trans (setRow_heap w7 (w.heap.size+2) _ (a9 ak ai ag an af aa ua ab az) _ _ bT)
  have wN:=setRow_heap _ (w.heap.size+3) _ (a9 bk bi bg bn bf ba ub bb bz) _ _ jO;have dZ:=ed (b:=(w.heap.size+3)) (ed (b:=(w.heap.size+2)) au (by omega) (a9 ak ai ag an af aa ua ab az)) (by omega) (a9 bk bi bg bn bf ba ub bb bz);have eT:=Qh bT;have iW:=Qh jO;have HF:=Qh (And.intro (run_loadVar_mid (P:=Tryz.prog) _ (w.heap.size+2) 0 24 (l9 ak ai ag an af aa ua ab az) _ (aq BV) Tryz.underlying24 rfl cE) (And.intro (run_loadVar_mid (P:=Tryz.prog) _ (w.heap.size+3) 0 24 (l9 bk bi bg bn bf ba ub bb bz) _ (aq wN) Tryz.underlying24 rfl cE) dZ))
  clear bT bX jO BV wN dZ;go_wp2_with (first
   | (refine Qs eT.out Qt ?_)
   | (refine Qs iW.out Gn ?_))
  (try simp only[Exit.inBlock,Exit.then])
  obtain⟨gP,dM,fR⟩:=HF.out;refine bodyPost_ret (v:=.tuple #[.agg (a9 ak ai ag an af aa ua ab az),.agg (a9 bk bi bg bn bf ba ub bb bz),.bool bo,.int .i64 0]) ?_ rfl ⟨rfl,fR⟩;have hA:∀(a:Addr) (w:World),(asAddr (.pointer (some a))).run Tryz.prog w=.ok a w:=fun _ _=>rfl;rw[cX rfl];simp[hA,gP,dM,Result.andThen]
end
section
variable {N:Nat}{w w' W W':World}{B B2 z:Nat}{F:Nat→Prop}{s:iy N}{o:Tm (N+1)}{uo:Value}
def T8(W:World)(l:List (Tm (N+1)))(e:Ending)(w':World):Prop:=∃F g,e=.returned (.slice (some ⟨g,0,none⟩) l.length l.length)∧bZ W w' F (N+1) (.slice (some ⟨g,0,none⟩) l.length l.length) l∧F g
def T9(w:World)(B:Nat)(F:Nat→Prop)(z:Nat)(l:List (Tm (N+1)))(tabs:List (ct N))(e:Ending)(w':World):Prop:=T8 w (j6 l) e w'∧(∃v',cN w' B F ⟨z,v',tabs⟩)∧TT eF B w w'
theorem T_(h:cN w B F s)(hlen:s.tabs.length≤100)(hB:B≤w.heap.size)(gZ:B2≤B)(hI:ah w B2 N uo o.items)(hn:aP (N+1) ((dB o s.tabs).map (·.1))≤100000000) :
 Calls Tryz.prog 33 #[.pointer (some ⟨s.z,0,none⟩),aj o.f uo] w (T9 w B F s.z ((dB o s.tabs).map (·.1)) (kept o s.tabs)):=by
 obtain⟨p3,c3,e3,_,_⟩:=hI.shape;obtain⟨a_,bT,bX⟩:=bI w (av o.f uo) (.cells #[.slice none 0 0] 22);have hsz:((w.alloc (av o.f uo)).alloc (.cells #[.slice none 0 0] 22)).heap.size=w.heap.size+2:=by rw[World.size_alloc,World.size_alloc]
 have h2:=h.below a_;obtain⟨pl,cl,hvl,_,_⟩:=h.l.shape;rw[List.length_map]at hvl;have D3:=Qh (QH h2 (by omega) gZ bX (by omega) bT (hI.below a_ (Nat.le_trans gZ hB)));have hc0:=cm (x:=[.bool true,s.vl]) h2.obj 0 _ rfl;have dF:=cm (x:=[.bool true,s.vl]) h2.obj 1 _ rfl;have aD:=aG (Below.refl w.heap.size w) (av o.f uo) (Nat.le_refl _);have Ua:=cm (x:=[.bool true,s.vl]) (h.below aD).obj 0 _ rfl
 have eC:=Qh (fun(w3:World) (hT:ax (fun k=>s.vl.ownBlock=some k∨k=w.heap.size+1) ((w.alloc (av o.f uo)).alloc (.cells #[.slice none 0 0] 22)) w3)=>(show w3.heap[s.z]?=some (.cells #[.bool true,s.vl] 74) from by
  refine(hT.block s.z h2.Kn (fun e=>?_)).trans h2.obj
  rcases e with e|e
  ·have:=dW h2.l e
   rw[br h2.obj]at this
   exact absurd (Option.some.inj this) (by decide)
  ·have:=h.Kn
   omega))
 have rG:=Qh (fun(w3:World) (v' vo:Value) (ho:aA fD 89 1 w3 B v' ((kept o s.tabs).map (·.b))) (B0:w3.heap[w.heap.size+1]?=some (.cells #[vo] 22)) (E7:aA tE 24 9 w3 ((w.alloc (av o.f uo)).alloc (.cells #[.slice none 0 0] 22)).heap.size vo (dB o s.tabs)) (hT:ax (fun k=>s.vl.ownBlock=some k∨k=w.heap.size+1) ((w.alloc (av o.f uo)).alloc (.cells #[.slice none 0 0] 22)) w3) (hv:∀k,v'.ownBlock=some k→s.vl.ownBlock=some k)=>(show cN (w3.setCell ⟨s.z,1,none⟩ v') B F ⟨s.z,v',kept o s.tabs⟩∧(w3.setCell ⟨s.z,1,none⟩ v').heap[w.heap.size+1]?=some (.cells #[vo] 22)∧Calls Tryz.prog 67 #[vo] (w3.setCell ⟨s.z,1,none⟩ v') (EO (j6 ((dB o s.tabs).map (·.1))) (w3.setCell ⟨s.z,1,none⟩ v'))∧TT eF B w (w3.setCell ⟨s.z,1,none⟩ v') from by
  have hzw:=h.Kn
  have QI:=eC.out w3 hT
  have fQ:∀q,q≠s.z→(w3.setCell ⟨s.z,1,none⟩ v').heap[q]?=w3.heap[q]?:=fun q hq=>Below.heap_setCell _ _ _ _ hq
  have rX:=hT.size
  have QK:∀k,s.vl.ownBlock=some k→dA ((w.alloc (av o.f uo)).alloc (.cells #[.slice none 0 0] 22)) k=some 89:=fun k hk=>dW h2.l hk
  have Ub:dA ((w.alloc (av o.f uo)).alloc (.cells #[.slice none 0 0] 22)) (w.heap.size+1)=some 22:=br bX
  have Gv:=br h2.obj
  have hsub:cN (w3.setCell ⟨s.z,1,none⟩ v') B F ⟨s.z,v',kept o s.tabs⟩:=by
   refine h2.sub (fun t=>!dL t.own o) (fun k hk hq=>?_) (by rw[World.size_setCell];exact rX) (fp QI v') (ho.same (fun k hk=>fQ k (fun e=>?_)))
   ·have hne:dA ((w.alloc (av o.f uo)).alloc (.cells #[.slice none 0 0] 22)) k=some 24∨dA ((w.alloc (av o.f uo)).alloc (.cells #[.slice none 0 0] 22)) k=some 98∨dA ((w.alloc (av o.f uo)).alloc (.cells #[.slice none 0 0] 22)) k=some 108:=hq.elim (fun hF=>.inl (yV h2 hF)) .inr
    have n74:dA ((w.alloc (av o.f uo)).alloc (.cells #[.slice none 0 0] 22)) k≠some 74:=fun e=>by rw[e]at hne;rcases hne with h|h|h <;> exact absurd (Option.some.inj h) (by decide)
    have n89:dA ((w.alloc (av o.f uo)).alloc (.cells #[.slice none 0 0] 22)) k≠some 89:=fun e=>by rw[e]at hne;rcases hne with h|h|h <;> exact absurd (Option.some.inj h) (by decide)
    have n22:dA ((w.alloc (av o.f uo)).alloc (.cells #[.slice none 0 0] 22)) k≠some 22:=fun e=>by rw[e]at hne;rcases hne with h|h|h <;> exact absurd (Option.some.inj h) (by decide)
    refine(fQ k (fun e=>?_)).trans (hT.block k hk (fun e=>?_))
    ·subst e;exact n74 Gv
    ·rcases e with e|e
     ·exact n89 (QK k e)
     ·subst e;exact n22 Ub
   ·subst e
    have:=QK _ (hv _ hk)
    rw[Gv]at this
    exact absurd (Option.some.inj this) (by decide)
  have Yl:(w3.setCell ⟨s.z,1,none⟩ v').heap[w.heap.size+1]?=some (.cells #[vo] 22):=(fQ _ (by omega)).trans B0
  have Ym:=E7.same (w':=w3.setCell ⟨s.z,1,none⟩ v') (fun k hk=>fQ k (by have:=(E7.lt hk).1;omega))
  have hall:∀r∈dB o s.tabs,∃t∈s.tabs,r=(t.ref,t.ur):=fun r hr=>by
   unfold dB at hr
   obtain⟨t,ht,rfl⟩:=List.mem_map.1 hr
   exact⟨t,(List.mem_filter.1 ht).1,rfl⟩
  have hF4:∀k,F k→(w3.setCell ⟨s.z,1,none⟩ v').heap[k]?=((w.alloc (av o.f uo)).alloc (.cells #[.slice none 0 0] 22)).heap[k]?:=fun k hk=>by
   have Kz:=yV h2 hk
   refine(fQ k (fun e=>?_)).trans (hT.block k (h2.fl k hk) (fun e=>?_))
   ·subst e;rw[Gv]at Kz;exact absurd (Option.some.inj Kz) (by decide)
   ·rcases e with e|e
    ·have:=QK k e;rw[this]at Kz;exact absurd (Option.some.inj Kz) (by decide)
    ·subst e;rw[Ub]at Kz;exact absurd (Option.some.inj Kz) (by decide)
  have TC:∀r∈dB o s.tabs,F4 (w3.setCell ⟨s.z,1,none⟩ v') (w3.setCell ⟨s.z,1,none⟩ v').heap.size r:=fun r hr=>by
   obtain⟨t,ht,rfl⟩:=hall r hr
   exact bl.pR (fun k hk=>by rw[World.size_setCell];exact Nat.lt_of_lt_of_le (h2.fl k hk) rX) ((h2.tabs t ht).ld.mono hF4 (fun _ q=>q))
  have hrow:=sJ (Ym.row (fun r hr=>⟨qC r,Dg (TC r hr)⟩)) TC
  have hl:((dB o s.tabs).map (·.1)).length≤100:=by
   rw[List.length_map]
   have:=sV (o:=o) (l:=s.tabs)
   omega
  refine⟨hsub,Yl,TD (Mf 100 (by omega)) _ _ vo _ (Nat.le_refl _) hrow hn hl (by omega),?_⟩
  have td:ax (Sw eF B w) w ((w.alloc (av o.f uo)).alloc (.cells #[.slice none 0 0] 22)):=(ax.refl _ w).bJ a_ (Nat.le_refl _)
  refine ax.setCell (td.trans hT (fun i hi e=>?_)) _ _ (fun hi=>⟨h.low,74,br h.obj,.inl rfl⟩)
  rcases e with e|e
  ·exact⟨(h.l.lt e).1,89,dW h.l e,.inr (.inl rfl)⟩
  ·omega))
 rw[hvl]at D3 dF;have HV:=Qh hvl;rw[e3]at D3 rG hc0 dF Ua eC ⊢;clear h h2 hlen hB gZ hI hn bT bX a_ aD e3;generalize o.items.length=n3 at*;generalize vO:o.f=fo at*;generalize s.z=z at*;obtain⟨k,i,j,nm,fn,ar,aL,bt⟩:=fo;unfold aj av at*;dsimp only at*;clear vO;go_enter Tryz.func33,Tryz.ntmps33;go_upto_region 4 with(fail);clear hc0 Ua;generalize((w.alloc (.cells (a9 k i j nm fn ar (.slice p3 n3 c3) aL bt) 24)).alloc (.cells #[.slice none 0 0] 22))=W2 at*;go_wp2_with fail;refine D3.out.mono ?_;rintro e w3 ⟨v',vo,rfl,q1,q2,q3,q4,q5⟩
 obtain⟨p',c',rfl,_,_⟩:=q1.shape;obtain⟨E1,E2,E3,E4⟩:=rG.out w3 _ vo q1 q2 q3 q4 q5;simp only[List.length_map]at E1 E2 E3 E4;have ho:=eC.out w3 q4;rw[HV.out]at ho;have k1:=cm (x:=[.bool true,.slice pl s.tabs.length cl]) ho 1 _ rfl;have f1:w3.frozen? ⟨z,1,none⟩=false:=by simp only[World.frozen?,ho];simp
 have k2:=cm (x:=[vo]) E2 0 _ rfl;have HE1:=Qh E1;have HE3:=Qh E3;have Yn:=Qh E4;clear E1 E2 E3 E4 ho q1 q2 q3 q4 q5 rG eC D3 dF;go_wp2_with fail;refine HE3.out.mono ?_;rintro e w5 ⟨F9,g9,rfl,hN,Uw⟩;have HR:Hid (T9 w B F z ((dB o s.tabs).map (·.1)) (kept o s.tabs) (.returned (.slice (some ⟨g9,0,none⟩) (j6 ((dB o s.tabs).map (·.1))).length (j6 ((dB o s.tabs).map (·.1))).length)) w5):=Qh ⟨⟨F9,g9,rfl,bZ.of hN Yn.out.size,Uw⟩,⟨_,HE1.out.below hN.below⟩,Yn.out.bJ hN.below⟩;clear hN Uw HE1 HE3 Yn k1 k2 f1;go_wp2_with fail;go_ret;exact HR.out
end
section
variable {N:Nat}{w w' W W':World}{B B2 z:Nat}{A:List (bW N)}{o r:Tm (N+1)}{uo:Value}
noncomputable def dV(A:List (bW N))(o:Tm (N+1)):List (Tm (N+1)):=(A.filter (fun a=>dL a.own o)).map (·.ref)
noncomputable def rT(A:List (bW N))(o:Tm (N+1)):List (bW N):=A.filter (fun a=>!dL a.own o)
theorem Uc(h:n9 B z A W)(Ud:A.length≤100)(hB:B≤W.heap.size)(gZ:B2≤B)(hI:ah W B2 N uo o.items)(hn:aP (N+1) (dV A o)≤100000000) :
 Calls Tryz.prog 33 #[.pointer (some ⟨z,0,none⟩),aj o.f uo] W fun e w'=>T8 W (j6 (dV A o)) e w'∧n9 B z (rT A o) w'∧TT eF B W w':=by
 obtain⟨F,vl,tabs,h1,rfl,h3⟩:=h;have e1:(dB o tabs).map (·.1)=dV (tabs.map fE) o:=by
  unfold dB dV;rw[List.filter_map,List.map_map,List.map_map];rfl
 have e2:(kept o tabs).map fE=rT (tabs.map fE) o:=by
  unfold kept rT;rw[List.filter_map];rfl
 rw[←e1]at hn ⊢;refine(T_ h1 (by rw[List.length_map]at Ud;exact Ud) hB gZ hI hn).mono ?_;rintro e w' ⟨q1,⟨v',q2⟩,q3⟩;exact⟨q1,⟨F,v',_,q2,e2,fun t ht=>h3 t (List.mem_filter.1 ht).1⟩,q3⟩
noncomputable def pk(ow:List Int)(j:Nat):Nat:=(iM (ow.getD j 0) 3).toNat
variable {ow:List Int}{i k:Nat}
end
section
variable {N:Nat}{B z y:Nat}{A:List (bW N)}{W W':World}{r k o:Tm (N+1)}{ur uk uo:Value}{B2:Nat}
noncomputable def jz(A:List (bW N))(r:Tm (N+1)):Int:=match d_ A r with
 | none=>4
 | some _=>0
noncomputable def g7(A:List (bW N))(r:Tm (N+1)):List (bW N):=match d_ A r with
 | none=>A
 | some i=>A.take i++A.drop (i+1)
noncomputable def kJ(A:List (bW N))(r:Tm (N+1)):Tm (N+1)×Int:=match kH A r with
 | none=>(zT,4)
 | some a=>(a.own,0)
theorem QL(h:n9 B z A W)(hs:Fb A)(hB:B≤W.heap.size)(gZ:B2≤W.heap.size)(hI:ah W B2 N ur r.items) :
 Calls Tryz.prog 41 #[.pointer (some ⟨z,0,none⟩),aj r.f ur] W fun e w'=>e=.returned (.int .i64 (jz A r))∧n9 B z (g7 A r) w'∧TT eF B W w':=by
 obtain⟨F,vl,tabs,h1,h2,h3,hl,hc⟩:=h.open hs r
 rcases hc with⟨c1,c2,c3⟩|⟨i,hi,c1,c2,c3,c4,c5,c6⟩
 ·have e1:jz A r=4:=by unfold jz;rw[c1]
  have e2:g7 A r=A:=by unfold g7;rw[c1]
  rw[e1,e2];exact(Mz h1 hl gZ hI (er:=4) (by decide) (.inl ⟨c2,rfl,rfl⟩)).mono (fun e w' q=>⟨q.1,h.below q.2,TT.new q.2⟩)
 ·have e1:jz A r=0:=by unfold jz;rw[c1]
  have e2:g7 A r=A.take i++A.drop (i+1):=by unfold g7;rw[c1]
  rw[e1,e2];refine(MA h1 hl hB gZ hI hi c2).mono ?_;rintro e w' ⟨rfl,⟨v',q2⟩,q3⟩
  refine⟨rfl,⟨F,v',_,q2,?_,fun t ht=>?_⟩,q3⟩
  ·rw[List.map_append,List.map_take,List.map_drop,h2]
  ·rcases List.mem_append.1 ht with ht|ht
   ·exact h3 t (List.mem_of_mem_take ht)
   ·exact h3 t (List.mem_of_mem_drop ht)
theorem MD(h:n9 B z A W)(hs:Fb A)(hno:∀a∈A,ap a.own≤100000000)(gZ:B2≤W.heap.size)(hI:ah W B2 N ur r.items) :
 Calls Tryz.prog 37 #[.pointer (some ⟨z,0,none⟩),aj r.f ur] W fun e w'=>∃F1 u,e=.returned (.tuple #[aj (kJ A r).1.f u,.int .i64 (kJ A r).2])∧Below W.heap.size W w'∧bZ W w' F1 N u (kJ A r).1.items:=by
 obtain⟨F,vl,tabs,h1,h2,h3,hl,hc⟩:=h.open hs r
 rcases hc with⟨c1,c2,c3⟩|⟨i,hi,c1,c2,c3,c4,c5,c6⟩
 ·have e1:kJ A r=(zT,4):=by unfold kJ;rw[c3]
  rw[e1];exact(Pc h1 hl gZ hI (er:=4) (by decide) (.inl ⟨c2,rfl,rfl⟩)).mono (fun e w' q=>⟨_,aK,q.1,q.2,bZ.nil W w'⟩)
 ·have e1:kJ A r=((tabs[i]).own,0):=by unfold kJ;rw[c4];rfl
  rw[e1];exact Pd h1 hl gZ hI hi c2 (hno (fE tabs[i]) (List.mem_of_getElem? c3))
theorem QM(h:qL B y A W)(hs:GU A)(hI:ah W B N ur r.items) :
 Calls Tryz.prog 36 #[.pointer (some ⟨y,0,none⟩),aj r.f ur] W fun e w'=>e=.returned (.tuple #[.int .i64 (g5 A r).1,.int .i64 (g5 A r).2])∧Below W.heap.size W w':=by
 obtain⟨lv,T,h1,h2,h3,_,hc⟩:=h.open hs r
 rcases hc with⟨c1,c2,c3⟩|⟨i,t,c1,c2,c3,c4,c5,c6,c7⟩
 ·have e1:g5 A r=(0,4):=by unfold g5;rw[c3]
  rw[e1];exact Ml h1 h3 hI c2
 ·have e1:g5 A r=((t.rows.length:Int),0):=by
   unfold g5;rw[c5];show(((bh t.rows).length:Int),(0:Int))=_;unfold bh;rw[List.length_map]
  rw[e1];exact Mm h1 h3 hI c2 c3
theorem ME(h:qL B y A W)(hs:GU A)(hI:ah W B N ur r.items) :
 Calls Tryz.prog 38 #[.pointer (some ⟨y,0,none⟩),aj r.f ur] W fun e w'=>∃u,e=.returned (.tuple #[aj (kJ A r).1.f u,.int .i64 (kJ A r).2])∧Below W.heap.size W w'∧ah w' B N u (kJ A r).1.items:=by
 obtain⟨lv,T,h1,h2,h3,_,hc⟩:=h.open hs r
 rcases hc with⟨c1,c2,c3⟩|⟨i,t,c1,c2,c3,c4,c5,c6,c7⟩
 ·have e1:kJ A r=(zT,4):=by unfold kJ;rw[c3]
  rw[e1];exact(Qi h1 h3 hI c2).mono (fun e w' q=>⟨aK,q.1,q.2,cW w' B⟩)
 ·have e1:kJ A r=(t.own,0):=by unfold kJ;rw[c5];rfl
  rw[e1];exact(Qj h1 h3 hI c2 c3).mono (fun e w' q=>⟨t.uo,q.1,q.2,((h1.tabs t (List.mem_of_getElem? c3)).pX).below q.2 h1.blt⟩)
def U3(B:Nat)(x:Option (Tm (N+1)×Tm (N+1))×Int)(W:World)(e:Ending)(w':World):Prop:=∃u1 u2,e=.returned (.tuple #[aj (gD x.1).f u1,aj (gM x.1).f u2,.bool x.1.isSome,.int .i64 x.2])∧Below W.heap.size W w'∧ah w' B N u1 (gD x.1).items∧ah w' B N u2 (gM x.1).items
theorem rU{n:Int}{e:Ending}{w':World}(h:CM (none:Option (qI N)) n W e w'):U3 (N:=N) B (none,n) W e w':=⟨aK,aK,h.1,h.2,cW w' B,cW w' B⟩
theorem D4{lv:Value}{T:List (g6 N)}{t:g6 N}(h1:cY W B y lv T)(ht:t∈T){j:Nat}{e:Ending}{w':World}(h:CM (t.rows[j]?) 0 W e w'):U3 (N:=N) B ((bh t.rows)[j]?,0) W e w':=by
 have e8:(bh t.rows)[j]?=(t.rows[j]?).map (fun r:qI N=>(r.k,r.v)):=by unfold bh;rw[List.getElem?_map]
 rw[e8];cases hx:t.rows[j]? with
 | none=>rw[hx]at h;exact rU h
 | some e0 =>
  rw[hx]at h;have hi:=(h1.tabs t ht).gU e0 (List.mem_of_getElem? hx);exact⟨e0.uk,e0.uv,h.1,h.2,hi.1.below h.2 h1.blt,hi.2.below h.2 h1.blt⟩
theorem MF(h:qL B y A W)(hs:GU A)(hI:ah W B N ur r.items):Calls Tryz.prog 68 #[.pointer (some ⟨y,0,none⟩),aj r.f ur] W (U3 B (cq A r) W):=by
 obtain⟨lv,T,h1,h2,h3,_,hc⟩:=h.open hs r
 rcases hc with⟨c1,c2,c3⟩|⟨i,t,c1,c2,c3,c4,c5,c6,c7⟩
 ·have e1:cq A r=(none,4):=by unfold cq;rw[c3]
  rw[e1];exact(JP h1 h3 hI c2).mono (fun e w' q=>rU q)
 ·have e1:cq A r=((bh t.rows)[0]?,0):=by unfold cq;rw[c5];rfl
  rw[e1];exact(JQ h1 h3 hI c2 c3 c6).mono (fun e w' q=>D4 h1 (List.mem_of_getElem? c3) q)
theorem QN(h:qL B y A W)(hs:GU A)(hI:ah W B N ur r.items)(hJ:ah W B N uk k.items)(hnk:ap k≤100000000):Calls Tryz.prog 70 #[.pointer (some ⟨y,0,none⟩),aj r.f ur,aj k.f uk] W (U3 B (cV A r k) W):=by
 obtain⟨lv,T,h1,h2,h3,_,hc⟩:=h.open hs r;have hB:=h.blt;have a:sS W B r k ur uk:=⟨hI,hJ,hnk⟩;have aw:∀W',Qb W W'→sS W' B r k ur uk:=fun W' hW=>⟨hI.below hW hB,hJ.below hW hB,hnk⟩
 cases hk:aC k
 ·have e1:cV A r k=(none,2):=by unfold cV;rw[hk,if_neg (by decide)]
  rw[e1];exact(Fw h1 h3 a (er:=2) (by decide) (fun W' hW=>DJ (h1.below hW) h3 (aw W' hW) hk)).mono (fun e w' q=>rU q)
 ·rcases hc with⟨c1,c2,c3⟩|⟨i,t,c1,c2,c3,c4,c5,c6,c7⟩
  ·have e1:cV A r k=(none,4):=by unfold cV;rw[hk,if_pos rfl,c3]
   rw[e1];exact(Fw h1 h3 a (er:=4) (by decide) (fun W' hW=>DK (h1.below hW) h3 (aw W' hW) hk c2)).mono (fun e w' q=>rU q)
  ·have e1:cV A r k=((bh t.rows)[v_ (bM t.hs) (bh t.rows) k]?,0):=by unfold cV;rw[hk,if_pos rfl,c5];rfl
   rw[e1]
   cases hh:gp (bM t.hs) (bh t.rows) k
   ·exact(Fx h1 h3 a c2 c3 c6 c7 (fg:=aY) (ug:=aK) (is:=false) rfl (fun W' hW=>DL (h1.below hW) h3 (aw W' hW) hk c2 c3 c6 c7 hh)).mono (fun e w' q=>D4 h1 (List.mem_of_getElem? c3) q)
   ·obtain⟨hp,_⟩:=kQ hh;have tV:cK (bM t.hs) (bh t.rows) k<t.rows.length:=by
     unfold bh at hp;rw[List.length_map]at hp;exact hp
    have hi:=(h1.tabs t (List.mem_of_getElem? c3)).gU _ (List.getElem_mem tV);exact(Fx h1 h3 a c2 c3 c6 c7 (cP hi.2) (fun W' hW=>DM (h1.below hW) h3 (aw W' hW) hk c2 c3 c6 c7 hh (List.getElem?_eq_getElem tV))).mono (fun e w' q=>D4 h1 (List.mem_of_getElem? c3) q)
theorem QO(h:qL B y A W)(hs:GU A)(hI:ah W B N ur r.items) :
 Calls Tryz.prog 71 #[.pointer (some ⟨y,0,none⟩),aj r.f ur] W fun e w'=>e=.returned (.int .i64 (jz A r))∧qL B y (g7 A r) w'∧TT gC B W w':=by
 obtain⟨lv,T,h1,h2,h3,_,hc⟩:=h.open hs r
 rcases hc with⟨c1,c2,c3⟩|⟨i,t,c1,c2,c3,c4,c5,c6,c7⟩
 ·have e1:jz A r=4:=by unfold jz;rw[c1]
  have e2:g7 A r=A:=by unfold g7;rw[c1]
  rw[e1,e2];exact(Mn h1 h3 hI c2).mono (fun e w' q=>⟨q.1,h.below q.2,TT.new q.2⟩)
 ·have e1:jz A r=0:=by unfold jz;rw[c1]
  have e2:g7 A r=A.take i++A.drop (i+1):=by unfold g7;rw[c1]
  rw[e1,e2];refine(Mo h1 h3 hI c2 c3).mono ?_;rintro e w' ⟨rfl,CL,q1,q2⟩;refine⟨rfl,⟨CL,_,q1,?_⟩,q2⟩;rw[List.nil_append,List.map_append,List.map_take,List.map_drop,h2]
theorem Ue(h:qL B y A W)(hs:GU A)(hI:ah W B N uo o.items) :
 Calls Tryz.prog 72 #[.pointer (some ⟨y,0,none⟩),aj o.f uo] W fun e w'=>∃vo,e=.returned vo∧ah w' w'.heap.size (N+1) vo (dV A o)∧qL B y (rT A o) w'∧TT gC B W w':=by
 obtain⟨lv,T,h1,h2,h3,_⟩:=h.open hs o;have e1:(T.filter (DX o)).map (·.ref)=dV A o:=by
  rw[←h2];unfold dV;rw[List.filter_map,List.map_map];rfl
 have e2:(T.filter (fun t=>!DX o t)).map gj=rT A o:=by
  rw[←h2];unfold rT;rw[List.filter_map];rfl
 refine(Qv h1 h3 hI).mono ?_;rintro e w' ⟨vo,rfl,q1,CL,q2,q3⟩;rw[e1]at q1;exact⟨vo,rfl,q1,⟨CL,_,q2,e2⟩,q3⟩
end
end Go.Proofs.YtfbggmbmgohiiaaGreat.tb
