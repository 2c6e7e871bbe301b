/- TnS,ToF,ToG,ToD,ToE. No condition beyond theirs. -/
import Derived.Test.YtfbggmbmgohiiaaGreatR34
set_option linter.unusedSimpArgs false
set_option linter.unusedVariables false
set_option maxHeartbeats 1000000
set_option maxRecDepth 100000
namespace Go.Proofs.YtfbggmbmgohiiaaGreat.tm
open Go.RowKit mem names
def Fl(N:Nat):Prop:=∀(α:Type) (enc:α→TF×Value) (w0 w:World) (b n cap:Nat) (S:α→Prop) (c:α→α→Int) (tg:α→Nat) (M:List α),A0 enc w0 b 96 S c→TP S c→(∀x∈M,S x)→M.Pairwise (fun x y=>tg x<tg y)→bB enc w0 w b n cap M→n≤N →
 Calls Tryz.prog 95 #[.slice (some ⟨b,0,none⟩) n cap,.func (.func 96) #[] #[]] w (vM c tg enc w0 b n cap [] M [])
noncomputable def j6{n:Nat}(l:List (Tm (n+1))):List (Tm (n+1)):=l.mergeSort (qG cM)
abbrev Tag(n:Nat):=Nat×Tm (n+1)×Value
def gy{n:Nat}(x:Tag n):TF×Value:=(x.2.1.f,x.2.2)
noncomputable def Mb{n:Nat}(x y:Tag n):Int:=cM x.2.1 y.2.1
def Fm(w:World)(F:Nat→Prop)(g:Nat){n:Nat}(x:Tag n):Prop:=bl w F n x.2.2 x.2.1.items∧i_ w F g x.2.2∧300*(ap x.2.1:Int)≤1000000000000
theorem tagged{n:Nat}{w:World}{F:Nat→Prop}{g:Nat}:∀(l:List (Tm (n+1))) (rs:List (TF×Value)) (k:Nat),rs.length=l.length→(∀j,(h:j<l.length)→(h':j<rs.length)→AW w F (n+1) l[j] rs[j].1 rs[j].2∧i_ w F g rs[j].2∧300*(ap l[j]:Int)≤1000000000000) →
 ∃e:List (Tag n),e.map gy=rs∧e.map (fun x=>x.2.1)=l∧e.map (fun x=>x.1)=List.range' k l.length∧∀x∈e,Fm w F g x
 | [],[],k,_,_=>⟨[],rfl,rfl,rfl,by simp⟩
 | t::l,(f,u)::rs,k,hl,h=>by
  obtain⟨e,h1,h2,h3,h4⟩:=tagged l rs (k+1) (by simpa using hl) (fun j a b=>h (j+1) (by simpa using a) (by simpa using b));obtain⟨⟨a1,a2⟩,a3,a4⟩:=h 0 (by simp) (by simp)
  refine⟨(k,t,u)::e,?_,by simp[h2],by simp[h3,List.range'_succ],fun x hx=>?_⟩
  ·rw[List.map_cons,h1];show(t.f,u)::rs=(f,u)::rs;rw[show t.f=f from a1]
  ·rcases List.mem_cons.1 hx with rfl|hx
   ·exact⟨a2,a3,a4⟩
   ·exact h4 x hx
theorem BN{n:Nat}:∀(e:List (Tag n)) (k:Nat),e.map (fun x=>x.1)=List.range' k e.length→e.map (fun x=>(x.2.1,x.1))=(e.map (fun x=>x.2.1)).zipIdx k
 | [],_,_=>rfl
 | x::e,k,h=>by
  rw[List.map_cons,List.length_cons,List.range'_succ]at h;simp only[List.cons.injEq]at h;rw[List.map_cons,List.map_cons,List.zipIdx_cons,←BN e (k+1) h.2,h.1]
theorem xj{n:Nat}(e M:List (Tag n))(he:e.map (fun x=>x.1)=List.range' 0 e.length)(hp:M.Perm e)(hs:M.Pairwise (gH Mb (fun x=>x.1))):M.map (fun x=>x.2.1)=j6 (e.map (fun x=>x.2.1)):=by
 have h:=Bn (LO (n:=n)) (e.map (fun x=>x.2.1)) (M.map (fun x=>(x.1,x.2.1))) ?_ ?_
 ·rw[List.map_map]at h;exact h
 ·rw[List.map_map,←BN e 0 he];exact hp.map _
 ·rw[List.pairwise_map];exact hs
theorem zC{n:Nat}(e:List (Tag n))(he:e.map (fun x=>x.1)=List.range' 0 e.length):e.Pairwise (fun x y=>x.1<y.1):=by
 rw[←List.pairwise_map (f:=fun x:Tag n=>x.1) (R:=(·<·)),he];exact List.pairwise_lt_range'
theorem P2{n:Nat}(w0:World)(F:Nat→Prop)(b:Nat)(hF:∀g,F g→b<g∧g<w0.heap.size):A0 (gy (n:=n)) w0 b 96 (Fm w0 F b) Mb:=by
 refine⟨fun x hx=>?_,fun W x y ht hx hy=>?_⟩
 ·obtain⟨p,c,e,_⟩:=(hx.1.pR (B:=w0.heap.size) (fun g hg=>(hF g hg).2)).shape;exact⟨p,_,c,e⟩
 ·have hs:∀g,F g→W.heap[g]?=w0.heap[g]?:=fun g hg=>ht.block g (hF g hg).2 (by have:=(hF g hg).1;omega);exact Compare W w0.heap.size _ _ x.2.1 y.2.1 ht.size ((hx.1.mono hs (fun _ h=>h)).pR (fun g hg=>(hF g hg).2)) ((hy.1.mono hs (fun _ h=>h)).pR (fun g hg=>(hF g hg).2)) hx.2.2 hy.2.2
theorem DS{n:Nat}{w w0 w1:World}{F:Nat→Prop}{l:List (Tm (n+1))}(e M:List (Tag n))(hw:w.heap.size<w0.heap.size)(hb:Below w.heap.size w w0)(hF:∀g,F g→w.heap.size<g∧g<w0.heap.size)(hty:Typed w0 F)(hok:∀x∈e,Fm w0 F w.heap.size x)(hl:e.map (fun x=>x.2.1)=l)(XM:e.map (fun x=>x.1)=List.range' 0 l.length)
 (hp:M.Perm e)(hs:M.Pairwise (gH Mb (fun x=>x.1)))(hr:bB gy w0 w1 w.heap.size l.length l.length M):uO w w1 (fun g=>F g∨g=w.heap.size) (n+1) (.slice (some ⟨w.heap.size,0,none⟩) (j6 l).length (j6 l).length) (j6 l):=by
 have hle:e.length=l.length:=by rw[←hl];simp
 have Vn:(j6 l).length=l.length:=by unfold j6;exact List.length_mergeSort l
 have hM:=xj e M (by rw[hle];exact XM) hp hs;rw[hl]at hM;have hml:M.length=l.length:=by rw[hp.length_eq,hle]
 have hsame:∀g,F g→w1.heap[g]?=w0.heap[g]?:=fun g hg=>hr.aX.block g (hF g hg).2 (by have:=(hF g hg).1;omega);have hroom:=hr.room;have hcells:=fun j hj=>hr.cells j hj
 refine⟨?_,fun g hg=>?_,?_,fun g hg=>?_,?_⟩
 ·refine⟨_,_,rfl,Nat.le_refl _,by rw[Vn];exact hroom.2,fun _=>⟨_,0,rfl,.inr rfl,fun j hj=>?_⟩⟩;have hj':j<M.length:=by omega
  have ej:(j6 l)[j]=M[j].2.1:=by simp only[←hM,List.getElem_map]
  refine⟨M[j].2.2,?_,?_⟩
  ·rw[ej,Nat.zero_add];exact hcells j hj'
  ·rw[ej];exact(hok M[j] (hp.mem_iff.1 (List.getElem_mem hj'))).1.mono hsame (fun _ h=>.inl h)
 ·have:=hr.aX.size
  rcases hg with hg|rfl
  ·have:=hF g hg;omega
  ·omega
 ·rcases hr.own.2 with⟨h',_⟩|⟨g',cap',cur,h',mC,hg,hnc,gW,hcs,vA⟩
  ·simp at h'
  ·simp only[Value.slice.injEq,Option.some.injEq,Addr.mk.injEq,and_true,true_and]at h';obtain⟨rfl,rfl⟩:=h';refine(hty.same hsame).add hg hcs fun j hj=>?_;have hj':j<M.length:=by omega
   exact⟨_,_,hcells j hj',(hok M[j] (hp.mem_iff.1 (List.getElem_mem hj'))).2.1.mono hsame (fun _ h=>h)⟩
 ·rw[Vn]
  rcases hr.own.2 with⟨h',_⟩|⟨g',cap',cur,h',mC,hg',hnc,gW,hcs,vA⟩
  ·simp at h'
  ·simp only[Value.slice.injEq,Option.some.injEq,Addr.mk.injEq,and_true,true_and]at h';obtain⟨rfl,rfl⟩:=h';exact⟨_,_,_,rfl,.inr ⟨_,0,cur,_,by rw[Nat.zero_mul],.inr rfl,hg,hg',by rw[Nat.zero_add,hcs];omega,by omega⟩⟩
 ·exact(hr.aX.trans (S:=fun k=>k=w.heap.size) (ax.refl (fun _=>False) _) (fun _ _ f=>f.elim)) |> (fun ht=>⟨ht.os.trans hb.os,ht.tape.trans hb.tape,ht.output.trans hb.output,Nat.le_trans hb.size ht.size,fun k hk=>(ht.block k (by omega) (by omega)).trans (hb.block k hk)⟩)
set_option maxHeartbeats 4000000 in
theorem TD{n N:Nat}(hst:Fl N)(w:World)(B:Nat)(v:Value)(l:List (Tm (n+1)))(hB:B≤w.heap.size)(h1:ah w B (n+1) v l)(hs:aP (n+1) l≤100000000)(hN:l.length≤N)(cZ:N≤1000000) :
 Calls Tryz.prog 67 #[v] w (EO (j6 l) w):=by
 have ih:∀m,n+1=m+1→AX m:=fun m _=>ji m;have L5:=Qh hst;clear hst;have hlen:=iJ (n+1) l;obtain⟨p,c,rfl,hc,hm⟩:=h1.shape;have HP:=Qh (Ie ih w B p l.length c l hB h1 hs);have hle:l.length≤100000000:=by omega
 have Wu:(l.length:Int)≤100000000:=by omega
 have hmk:=fun W=>Ic W (l.length:Int) l.length rfl (by omega);have HS0:=Qh hs;have HN:=Qh hN;clear ih h1 hs hlen hc hm hN;obtain⟨i0,nA,pq,bT,bX⟩:=info_parts CP;go_enter Tryz.func67,Tryz.ntmps67;go_wp2_with fail;have HI:eI (C_ l) w (w.alloc (.cells (madeCells dG (l.length*9)) 24)) l.length 0 [] (fun _=>False):=eI.start _ (by unfold maxLen;omega) (size_madeCells _ _);generalize(w.alloc (.cells (madeCells dG (l.length*9)) 24))=w0 at*
 go_loopw [3,11] (fun s t wr=>∃(k:Nat) (rs:List (TF×Value)) (F:Nat→Prop),s=.slice (some ⟨w.heap.size,0,none⟩) k l.length∧t=.int .i64 k∧k≤l.length∧Hid (eI (C_ l) w wr l.length k rs F)) (fun _ t _=>l.length-(intOf t).toNat)
 case atStart=>exact⟨0,[],fun _=>False,rfl,rfl,by omega,Qh HI⟩
 case round=>
  obtain⟨k,rs,F,rfl,rfl,hk,HR⟩:=hrel
  by_cases hlt:k<l.length
  ·obtain⟨g,o,x,q,m,d,rfl,hg,hC,cT⟩:=HP.out k hlt;have cL:=Qh cT;clear cT;have hC:=hC.same (HR.out.below.block g hg);have vh:g<wr.heap.size:=Nat.lt_of_lt_of_le hg HR.out.below.size;obtain⟨x0,x1,x2,x3,x4,x5,x6,x7,x8⟩:=hC;obtain⟨kk,ii,gg,nm,fn,ar,aL,bt⟩:=x;dsimp only at x0 x1 x2 x3 x4 x5 x6 x7 x8;unfold EPost aj at cL;dsimp only at cL;go_wp2_with fail;have aD:Qb wr (wr.alloc (av ⟨kk,ii,gg,nm,fn,ar,aL,bt⟩ (.slice q m d))):=(Below.refl _ _).alloc (Nat.le_refl _) _;refine(cL.out _ (HR.out.below.trans (aD.mono HR.out.below.size))).mono ?_
   rintro e w2 ⟨F',g',rfl,hE,hin,hty,Ss,a_⟩;have yS:Qb wr w2:=aD.trans (a_.mono (by simp));have bN:Qb w2 (w2.alloc (av ⟨kk,ii,gg,nm,fn,ar,aL,bt⟩ (.slice (some ⟨g',0,none⟩) m m))):=(Below.refl _ _).alloc (Nat.le_refl _) _;have vF:Qb wr (w2.alloc (av ⟨kk,ii,gg,nm,fn,ar,aL,bt⟩ (.slice (some ⟨g',0,none⟩) m m))):=yS.trans (bN.mono yS.size);have HS:∀g,F' g→(w2.alloc (av ⟨kk,ii,gg,nm,fn,ar,aL,bt⟩ (.slice (some ⟨g',0,none⟩) m m))).heap[g]?=w2.heap[g]?:=fun g hg=>bN.block g (hin g hg).2
   have HE:=Qh (mI l w.heap.size _ _ _ _ _ _ _ HS (fun g hg=>bN.block g (Nat.lt_of_lt_of_le hg (Nat.le_trans HR.out.below.size yS.size))) (fun _ h=>h) hE);have yT:=Qh ((Ss w.heap.size (by have:=HR.out.lt;simp;omega)).mono HS (fun _ h=>h));have On:=Qh (hty.same HS);have AY:Hid (∀g,F' g→wr.heap.size≤g∧g<(w2.alloc (av ⟨kk,ii,gg,nm,fn,ar,aL,bt⟩ (.slice (some ⟨g',0,none⟩) m m))).heap.size):=Qh (fun g hg=>by have:=hin g hg;simp at this ⊢;omega);have Da:=Qh (HR.out.M6 vF);have Oo:=Qh (xo w2 ⟨kk,ii,gg,nm,fn,ar,aL,bt⟩ (.slice (some ⟨g',0,none⟩) m m))
   have FA:=Qh (qT ⟨kk,ii,gg,nm,fn,ar,aL,bt⟩ (some ⟨g',0,none⟩) m m);have Oq:=Qh vF;clear hE hin hty Ss a_ aD yS bN vF HS;unfold av at HE yT On AY Da Oo Oq;dsimp only at HE yT On AY Da Oo Oq;go_wp2_with (at_builtin;refine wpList_append_fits rfl (.tmp 15) (.tmp 18) 22 rfl w.heap.size 24 i0 9 Tryz.underlying22 nA bT w.heap.size k l.length (cA rs) rfl Da.out ⟨w2.heap.size,0,none⟩ 1 1 (aE ⟨kk,ii,gg,nm,fn,ar,aL,bt⟩ (.slice (some ⟨g',0,none⟩) m m)) rfl rfl Oo.out FA.out (by omega) ?_;intro w4 Ig Sq)
   have rA:=Qh (HR.out.next (mI l w.heap.size) Oq.out HE.out yT.out On.out AY.out Sq Ig);go_roundw
   case rel=>exact⟨k+1,_,_,rfl,by go_num,by omega,rA⟩
   case measure=>simp[intOf];omega
  ·obtain rfl:k=l.length:=by omega
   have hr:=HR.out;have hns:=fun j (h:j<l.length)=>iK h;obtain⟨e,k1,k2,k3,k4⟩:=tagged (w:=wr) (F:=F) (g:=w.heap.size) l rs 0 hr.len (fun j h h'=>⟨(hr.Lf j h').1.2,(hr.Lf j h').2,by have:=hns j h;have:=HS0.out;omega⟩);have hel:e.length=l.length:=by rw[←k2];simp
   have hrow:bB gy wr wr w.heap.size l.length l.length e:=⟨by rw[k1];exact Ad hr.own (fun k _=>Nat.zero_le _),hel,ax.refl _ _⟩;have HC:=Qh (L5.out _ gy wr wr w.heap.size l.length l.length (Fm wr F w.heap.size) Mb (fun x=>x.1) e (P2 wr F w.heap.size hr.inr) (TP.mono (TP.lK (LO (n:=n)) (fun x:Tag n=>x.2.1)) (fun _ _=>trivial)) k4 (zC e (by rw[hel];exact k3)) hrow HN.out);have eU:=Qh (fun w1 M hp hs (mj:bB gy wr w1 w.heap.size l.length l.length M)=>DS (l:=l) e M hr.lt hr.below hr.inr hr.typed k4 k2 k3 hp hs mj)
   have HSL:Hid ((j6 l).length=l.length):=Qh (List.length_mergeSort l);clear hr hns k1 k2 k3 k4 hrow;go_wp2_with fail;refine HC.out.mono ?_;rintro e1 w1 ⟨rfl,M,hp,hs1,mj⟩;have HF:=Qh (eU.out w1 M hp hs1 (by simpa using mj));clear hp hs1 mj;go_wp2_with fail;go_ret;exact⟨fun g=>F g∨g=w.heap.size,w.heap.size,by rw[HSL.out];rfl,HF.out,.inr rfl⟩
variable {n:Nat}{w w':World}{B:Nat}
theorem ah.rows{l:List (Tm (n+1))}{g o c:Nat}(h:ah w B (n+1) (.slice (some ⟨g,o,none⟩) l.length c) l):∃rs:List (TF×Value),rs.length=l.length∧(∀j,(h1:j<rs.length)→(h2:j<l.length)→rs[j].1=l[j].f∧ah w B n rs[j].2 l[j].items) ∧
 (∀j u,(cA rs)[j]?=some u→w.cell? ((⟨g,o,none⟩:Addr).add j)=some u)∧∀u∈cA rs,u.oneCell'=true:=by
 obtain⟨p,c',e,h1,h2,h3⟩:=h;simp only[Value.slice.injEq,true_and]at e;obtain⟨rfl,rfl⟩:=e;have key:∀k,k≤l.length→∃rs:List (TF×Value),rs.length=k∧∀j,(h1:j<rs.length)→(h2:j<l.length)→rs[j].1=l[j].f∧ah w B n rs[j].2 l[j].items∧Cells w g (o+j*9) rs[j].1 rs[j].2:=by
  intro k
  induction k with
  | zero=>intro _;exact⟨[],rfl,fun j h=>by simp at h⟩
  | succ k ih =>
   intro hk;obtain⟨rs,hl,hr⟩:=ih (by omega);obtain⟨g',o',e,hg,hc⟩:=h3 (by intro e;subst e;simp at hk);simp only[Option.some.injEq,Addr.mk.injEq,and_true]at e;obtain⟨rfl,rfl⟩:=e;obtain⟨u,C6,AK⟩:=hc k (by omega);refine⟨rs++[((l[k]'(by omega)).f,u)],by simp[hl],fun j h1 h2=>?_⟩
   by_cases hj:j<rs.length
   ·rw[List.getElem_append_left hj];exact hr j hj h2
   ·have:j=k:=by simp at h1;omega
    subst this;rw[List.getElem_append_right (by omega)];simp only[hl,Nat.sub_self,List.getElem_cons_zero]
    first|exact⟨rfl,AK,C6⟩|exact⟨trivial,AK,C6⟩
 obtain⟨rs,hl,hr⟩:=key l.length (Nat.le_refl _)
 refine⟨rs,hl,fun j h1 h2=>⟨(hr j h1 h2).1,(hr j h1 h2).2.1⟩,fun j u hj=>?_,fun u hu=>?_⟩
 ·rw[Addr.add_lit];have hjl:j<(cA rs).length:=(List.getElem?_eq_some_iff.1 hj).1;rw[iI]at hjl;have hq:j/9<rs.length:=by omega
  have:=(hr (j/9) hq (by omega)).2.2.all (j%9) (Nat.mod_lt _ (by omega));rw[←pE rs (j/9) hq (j%9) (Nat.mod_lt _ (by omega))]at this;rw[show j/9*9+j%9=j by omega,show o+j/9*9+j%9=o+j by omega]at this;rw[this,hj]
 ·unfold cA at hu;rw[List.mem_flatMap]at hu;obtain⟨r,mj,uz⟩:=hu;obtain⟨j,hj,rfl⟩:=List.getElem_of_mem mj;obtain⟨_,hi,_⟩:=hr j hj (by omega);obtain⟨q,c2,e,_⟩:=hi.shape;rw[e]at uz;exact qT _ _ _ _ u uz
def uh(wr:World)(B base:Nat)(v:Value)(rs:List (TF×Value))(O:List (Tm (n+1))):Prop :=
 wr.ownsRow base 24 9 v O.length (cA rs)∧rs.length=O.length∧∀j,(h1:j<rs.length)→(h2:j<O.length)→rs[j].1=O[j].f∧ah wr B n rs[j].2 O[j].items
theorem uh.nil(wr:World)(B base:Nat):uh (n:=n) wr B base (.slice none 0 0) [] []:=⟨World.ownsRow_nil _ _ _ _,rfl,fun j h=>by simp at h⟩
theorem uh.items{wr:World}{B base:Nat}{v:Value}{rs:List (TF×Value)}{O:List (Tm (n+1))}(h:uh wr B base v rs O)(hB:B≤wr.heap.size):ah wr wr.heap.size (n+1) v O:=by
 obtain⟨h1,h2,h3⟩:=h
 rcases h1.2 with⟨rfl,h0⟩|⟨g,cap,cur,rfl,mC,hg,hc,hm,hs,ht⟩
 ·have:O=[]:=List.eq_nil_of_length_eq_zero h0;subst this;exact ah.jH (by unfold maxLen;omega)
 ·refine⟨_,_,rfl,hc,hm,fun _=>⟨g,0,rfl,(Qg hg),fun j hj=>?_⟩⟩;have hj':j<rs.length:=by omega
  have:=pF h1 (by omega) j hj';refine⟨rs[j].2,?_,(h3 j hj' hj).2.more hB⟩;rw[Nat.zero_add,←(h3 j hj' hj).1];exact this
theorem uh.below{wr w':World}{B base:Nat}{v:Value}{rs:List (TF×Value)}{O:List (Tm (n+1))}(h:uh wr B base v rs O)(hb:Below wr.heap.size wr w')(hB:B≤wr.heap.size):uh w' B base v rs O:=by
 obtain⟨h1,h2,h3⟩:=h;refine⟨oA h1 (fun k hk=>hb.block k ?_),h2,fun j a b=>⟨(h3 j a b).1,(h3 j a b).2.below hb hB⟩⟩
 rcases h1.2 with⟨rfl,h0⟩|⟨g,cap,cur,rfl,mC,hg,_⟩
 ·simp[Value.ownBlock]at hk
 ·simp[Value.ownBlock]at hk;subst hk;exact(Qg hg)
theorem uh.push{wr w':World}{B base:Nat}{v v':Value}{rs rs':List (TF×Value)}{O O':List (Tm (n+1))}(h:uh wr B base v rs O)(hl:rs'.length=O'.length)(h':∀j,(h1:j<rs'.length)→(h2:j<O'.length)→rs'[j].1=O'[j].f∧ah wr B n rs'[j].2 O'[j].items)
 (hown:w'.ownsRow base 24 9 v' (O.length+O'.length) (cA rs++cA rs'))(hg:wr.grownBy w' v.ownBlock)(hv:∀k,v.ownBlock=some k→B≤k)(hB:B≤wr.heap.size):uh w' B base v' (rs++rs') (O++O'):=by
 obtain⟨h1,h2,h3⟩:=h;have hs:∀g,g<B→w'.heap[g]?=wr.heap[g]?:=fun g hg'=>hg.block g (by omega) (fun e=>by have:=hv g e.symm;omega);refine⟨by rw[List.length_append,gI];exact hown,by simp[h2,hl],fun j a b=>?_⟩
 by_cases hj:j<rs.length
 ·rw[List.getElem_append_left hj,List.getElem_append_left (by omega)];exact⟨(h3 j hj (by omega)).1,(h3 j hj (by omega)).2.same hs⟩
 ·rw[List.getElem_append_right (by omega),List.getElem_append_right (by omega)];have e:j-rs.length=j-O.length:=by omega
  have:=h' (j-O.length) (by simp at a b;omega) (by simp at a b;omega);simp only[e];exact⟨this.1,this.2.same hs⟩
theorem uh.shape{wr:World}{B base:Nat}{v:Value}{rs:List (TF×Value)}{O:List (Tm (n+1))}(h:uh wr B base v rs O):∃p c,v=.slice p O.length c:=by
 rcases h.1.2 with⟨rfl,h0⟩|⟨g,cap,cur,rfl,_⟩
 ·exact⟨_,_,by rw[h0]⟩
 ·exact⟨_,_,rfl⟩
def Nr{n:Nat}(l:List (Tm (n+1)))(w:World)(e:Ending)(w':World):Prop:=∃p c,e=.returned (.slice p l.length c)∧ah w' w'.heap.size (n+1) (.slice p l.length c) l∧Below w.heap.size w w'
def P3{n:Nat}(l:List (Tm (n+1)))(w W:World)(e:Ending)(w':World):Prop:=∃p c,e=.returned (.slice p l.length c)∧ah w' w'.heap.size (n+1) (.slice p l.length c) l∧Below W.heap.size W w'∧Below w.heap.size w w'
theorem Nr.on{n:Nat}{l:List (Tm (n+1))}{w W w':World}{e:Ending}(hb:Below w.heap.size w W)(h:Nr l W e w'):P3 l w W e w':=by
 obtain⟨p,c,h1,h2,h3⟩:=h;exact⟨p,c,h1,h2,h3,hb.trans (h3.mono hb.size)⟩
theorem Jq{n:Nat}(a:Tm (n+1))(A:List (Tm (n+1)))(b:Tm (n+1))(B:List (Tm (n+1)))(h:cM a b≤0):(a::A).merge (b::B) (qG cM)=a::A.merge (b::B) (qG cM):=by
 rw[List.cons_merge_cons,if_pos (by unfold qG;simpa using h)]
theorem Gq{n:Nat}(a:Tm (n+1))(A:List (Tm (n+1)))(b:Tm (n+1))(B:List (Tm (n+1)))(h:¬cM a b≤0):(a::A).merge (b::B) (qG cM)=b::(a::A).merge B (qG cM):=by
 rw[List.cons_merge_cons,if_neg (by unfold qG;simpa using h)]
def BO{n:Nat}(A B T O:List (Tm (n+1)))(i k:Nat):Prop:=O++(A.drop i).merge (B.drop k) (qG cM)=T∧O.length=i+k
theorem BO.left{n:Nat}{A B T O:List (Tm (n+1))}{i k:Nat}(h:BO A B T O i k)(hi:i<A.length)(hk:(hk:k<B.length)→cM A[i] B[k]≤0)(hkl:k≤B.length):BO A B T (O++[A[i]]) (i+1) k:=by
 obtain⟨h1,h2⟩:=h;refine⟨?_,by simp;omega⟩;rw[←h1,List.drop_eq_getElem_cons hi]
 by_cases hb:k<B.length
 ·rw[List.drop_eq_getElem_cons hb,Jq _ _ _ _ (hk hb)];simp
 ·rw[List.drop_eq_nil_of_le (by omega:B.length≤k),List.merge_right,List.merge_right];simp
theorem BO.right{n:Nat}{A B T O:List (Tm (n+1))}{i k:Nat}(h:BO A B T O i k)(hk:k<B.length)(hi:(hi:i<A.length)→¬cM A[i] B[k]≤0)(hil:i≤A.length):BO A B T (O++[B[k]]) i (k+1):=by
 obtain⟨h1,h2⟩:=h;refine⟨?_,by simp;omega⟩;rw[←h1,List.drop_eq_getElem_cons hk]
 by_cases ha:i<A.length
 ·rw[List.drop_eq_getElem_cons ha,Gq _ _ _ _ (hi ha)];simp
 ·rw[List.drop_eq_nil_of_le (by omega:A.length≤i),List.nil_merge,List.nil_merge];simp
theorem BO.done{n:Nat}{A B T O:List (Tm (n+1))}(h:BO A B T O A.length B.length):O=T:=by
 obtain⟨h1,h2⟩:=h;rw[List.drop_length,List.drop_length,List.nil_merge,List.append_nil]at h1;exact h1
theorem ah.Lf{n:Nat}{w:World}{B g o c:Nat}{l:List (Tm (n+1))}(h:ah w B (n+1) (.slice (some ⟨g,o,none⟩) l.length c) l)(i:Nat)(hi:i<l.length):∃t x q m d,l[i]?=some t∧t.f=x∧Cells w g (o+i*9) x (.slice q m d)∧ah w B n (.slice q m d) t.items:=by
 obtain⟨p,c',e,h1,h2,h3⟩:=h;simp only[Value.slice.injEq,true_and]at e;obtain⟨rfl,rfl⟩:=e;obtain⟨g',o',e,hg,hc⟩:=h3 (by intro e;subst e;simp at hi);simp only[Option.some.injEq,Addr.mk.injEq,and_true]at e;obtain⟨rfl,rfl⟩:=e;obtain⟨u,C6,AK⟩:=hc i hi;obtain⟨q,d,rfl,_⟩:=AK.shape;exact⟨l[i],l[i].f,q,_,d,List.getElem?_eq_getElem hi,rfl,C6,AK⟩
variable {α:Type}{enc:α→TF×Value}{w0 wr w:World}{b n cap:Nat}{d:List α}{S:α→Prop}{c:α→α→Int}{tg:α→Nat}
set_option maxHeartbeats 8000000 in
theorem Mc(hC:A0 enc w0 b 96 S c)(mg:TP S c)(N:Nat)
 (ih:∀(w:World) (A L R C:List α) (hS:∀z∈L++R,S z) (hL:L.Pairwise (gH c tg)) (hR:R.Pairwise (gH c tg)) (ht:∀z∈L,∀y∈R,tg z<tg y) (h:bB enc w0 w b n cap (A++(L++(R++C)))) (a m e:Nat) (ha:A.length=a) (hm:a+L.length=m) (he:m+R.length=e) (hl:a<m) (hr:m<e) (hN:e<a+N),
   Calls Tryz.prog 129 #[.slice (some ⟨b,0,none⟩) n cap,.int .i64 a,.int .i64 m,.int .i64 e,.func (.func 96) #[] #[]] w (gL c tg enc w0 b n cap A (L++R) C))
 (A L R C:List α)(hS:∀z∈L++R,S z)(hL:L.Pairwise (gH c tg))(hR:R.Pairwise (gH c tg))(ht:∀z∈L,∀y∈R,tg z<tg y)(h:bB enc w0 w b n cap (A++(L++(R++C))))(a m e:Nat)(ha:A.length=a)(hm:a+L.length=m)(he:m+R.length=e)(hl:a+1<m)(hr:m+1<e)(hN:e≤a+N)(hn:n≤1000000) :
 Calls Tryz.prog 129 #[.slice (some ⟨b,0,none⟩) n cap,.int .i64 a,.int .i64 m,.int .i64 e,.func (.func 96) #[] #[]] w (gL c tg enc w0 b n cap A (L++R) C):=by
 have hlen:=h.len;have AU:e≤n:=by rw[←hlen];simp;omega
 have SS:∀z∈L,S z:=fun z hz=>hS z (by simp[hz]);have SR:∀z∈R,S z:=fun z hz=>hS z (by simp[hz]);obtain⟨mid,hmid⟩:∃mid,mid=(a+e)/2:=⟨_,rfl⟩;obtain⟨nn,Xt⟩:∃nn,nn=mid+m:=⟨_,rfl⟩;obtain⟨p,hp⟩:∃p,p+1=nn:=⟨nn-1,by omega⟩
 have vY:=Qh (fun(w:World) (A' L' R' C':List α) (hL1:∀z∈L',z∈L) (rp:∀z∈R',z∈R) (hL:L'.Pairwise (gH c tg)) (hR:R'.Pairwise (gH c tg)) (h:bB enc w0 w b n cap (A'++(L'++(R'++C')))) (a m e:Nat) (ha:A'.length=a) (hm:a+L'.length=m) (he:m+R'.length=e) (hl:a<m) (hr:m<e) (hN:e<a+N)=>ih w A' L' R' C' (fun z hz=>by rcases List.mem_append.1 hz with hz|hz;exact SS z (hL1 z hz);exact SR z (rp z hz)) hL hR (fun z hz y hy=>ht z (hL1 z hz) y (rp y hy)) h a m e ha hm he hl hr hN)
 have Gr:=Qh (fun(w:World) (A' U V C':List α) (hS':∀x∈U++V,x∈L∨x∈R) (h:bB enc w0 w b n cap (A'++(U++(V++C')))) (a m e:Nat) (ha:A'.length=a) (hm:a+U.length=m) (he:m+V.length=e) (hU:a<m) (hV:m<e)=>rotate (w:=w) hC.shape A' U V C' (fun x hx=>(hS' x hx).elim (SS x) (SR x)) h a m e ha hm he hU hV hn (.func (.func 96) #[] #[]));have qF:Hid (∀i,a≤i→i<e→∃y,(A++(L++(R++C)))[i]?=some y∧S y):=Qh (fun i h1 h2=>by
  have hg:(A++(L++(R++C)))[i]?=(L++R)[i-a]?:=by
   rw[List.getElem?_append_right (by omega),show i-A.length=i-a by omega,←List.append_assoc,List.getElem?_append_left (by simp;omega)]
  have hx:=List.getElem?_eq_getElem (l:=L++R) (i:=i-a) (by simp;omega)
  exact⟨(L++R)[i-a]'(by simp;omega),by rw[hg,hx],hS _ (List.getElem_mem _)⟩)
 have mM:=Qh h;have lU:=Qh hC.shape;have cL:=Qh hC.call;have HA:=Qh ha;have HM:=Qh hm;have HE:=Qh he;have HL:=Qh hL;have HRR:=Qh hR;have pQ:=Qh (fun t_ nA i h0 hB=>parts (A:=A) (L:=L) (R:=R) (C:=C) (tg:=tg) (t_:=t_) (nA:=nA) (i:=i) (p:=p) mg ha hm he hS hL hR ht h0 (by omega) hB);rw[←hmid]at pQ;obtain⟨D,hD⟩:∃D,D=A++(L++(R++C)):=⟨_,rfl⟩;have HD:=Qh hD;rw[←hD]at pQ qF mM;obtain⟨l0,Sn⟩:∃l0:Nat,a+l0=m:=⟨L.length,hm⟩;obtain⟨l1,iq⟩:∃l1:Nat,m+l1=e:=⟨R.length,he⟩;have r0:(m:Int)-(a:Int)=(l0:Int):=by omega
 have t0:¬((l0:Int)=1):=by omega
 have t1:((l0:Int)==1)=false:=by simpa using t0
 have r1:(e:Int)-(m:Int)=(l1:Int):=by omega
 have t2:¬((l1:Int)=1):=by omega
 have t3:((l1:Int)==1)=false:=by simpa using t2
 have r2:((a:Int)+(e:Int))/2=(mid:Int):=by omega
 have r3:(mid:Int)+(m:Int)=(nn:Int):=by omega
 have r4:(nn:Int)-1=(p:Int):=by omega
 have m1:a+e≤2*mid+1:=by omega
 have m2:2*mid≤a+e:=by omega
 have m3:p+1≤mid+m:=by omega
 have m4:mid+m≤p+1:=by omega
 have m5:nn≤mid+m:=by omega
 have m6:mid+m≤nn:=by omega
 clear hS hL hR ht h ha hlen hD hC mg hm Sn iq hmid Xt hp SS SR ih he
 by_cases hb:mid<m
 ·obtain⟨t_,hlo⟩:∃t_:Nat,t_+e=nn:=⟨nn-e,by omega⟩;have r5:(nn:Int)-(e:Int)=(t_:Int):=by omega
  have qJ:=Qh (fun i (hx:i≤i) hB=>pQ.out t_ mid i (.inr ⟨by omega,rfl,hb⟩) hB);have m7:t_+e≤nn:=by omega
  have m8:nn≤t_+e:=by omega
  clear hlo pQ;go_enter Tryz.func129,Tryz.ntmps129;go_wp2_with fail;clear r0 r1 r2 r3 r4 r5 t0 t1 t2 t3;go_loopw [20,21] (fun s t wr=>∃i j:Nat,s=.int .i64 i∧t=.int .i64 j∧t_≤i∧i≤j∧j≤mid∧Hid (Dp (fun h=>¬Kt c D (p-h) h) t_ mid i j)∧Hid (bB enc w0 wr b n cap D)) (fun s t _=>(intOf t).toNat-(intOf s).toNat)
  case atStart=>exact⟨t_,mid,rfl,rfl,by omega,by omega,by omega,Qh ⟨Nat.le_refl _,by omega,Nat.le_refl _,.inl rfl,.inl rfl⟩,mM⟩
  case round=>
   obtain⟨i,j,rfl,rfl,O0,hij,O1,HB,cO⟩:=hrel
   by_cases hlt:i<j
   ·obtain⟨h,hh⟩:∃h:Nat,(i+j)/2=h:=⟨_,rfl⟩;have e1:((i:Int)+(j:Int))/2=(h:Int):=by omega
    obtain⟨q,hq⟩:∃q:Nat,p-h=q:=⟨_,rfl⟩;have e2:(p:Int)-(h:Int)=(q:Int):=by omega
    obtain⟨x,hx,yZ⟩:=qF.out q (by omega) (by omega);obtain⟨y,hy,y9⟩:=qF.out h (by omega) (by omega);have hcx:=cO.out.jW hx;have ol:=cO.out.jW hy;have dw:=Qh (fun hz:¬c x y<0=>HB.out.right (h:=h) (by omega) (by omega) (fun hw=>hz ((gh hx hy).1 (by rw[←hq];exact hw))));have nu:=Qh (fun hz:c x y<0=>HB.out.left (h:=h) (by omega) (by omega) (fun hw=>hw (by rw[hq];exact(gh hx hy).2 hz)));clear hx hy;have kj:b<wr.heap.size:=cO.out.lt;have HC:=Qh (cL.out wr.drew x y (cO.out.aX.drewN 1) yZ y9);have Dm:=lU.out x yZ;have Dn:=lU.out y y9
    obtain⟨z,hz⟩:∃z,c x y=z:=⟨_,rfl⟩;have HZ:=Qh hz;rw[hz]at HC;clear hz;obtain⟨p1,m1,c1,ex⟩:=Dm;obtain⟨p2,m2,c2,ey⟩:=Dn;obtain⟨X9,eX⟩:∃X9,enc x=X9:=⟨_,rfl⟩;obtain⟨Y9,eY⟩:∃Y9,enc y=Y9:=⟨_,rfl⟩;rw[eX]at hcx ex HC;rw[eY]at ol ey HC;clear eX eY;obtain⟨⟨k1,i1,g1,n1,dr,a1,gY,s1⟩,v1⟩:=X9;obtain⟨⟨k2,i2,g2,n2,cU,a2,fW,s2⟩,v2⟩:=Y9;dsimp only at hcx ol HC ex ey;subst ex;subst ey;have ig:=Qh hcx;have dU:=Qh ol;unfold aj aM at HC;dsimp only at HC;obtain⟨x0,x1,x2,x3,x4,x5,x6,x7,x8⟩:=hcx;obtain⟨y0,y1,y2,y3,y4,y5,y6,y7,y8⟩:=ol
    dsimp only at x0 x1 x2 x3 x4 x5 x6 x7 x8 y0 y1 y2 y3 y4 y5 y6 y7 y8;rw[HZ.out]at dw nu;have r1:(h:Int)<(n:Int):=by omega
    have r2:(0:Int)≤(h:Int):=by omega
    have r3:(q:Int)<(n:Int):=by omega
    have r4:(0:Int)≤(q:Int):=by omega
    have r5:IntKind.i64.wrap (q:Int)=(q:Int):=IntWalk.i64_in _ (by omega);have b1:i≤h:=by omega
    have b2:h<j:=by omega
    clear hh hq qJ vY Gr
    by_cases hlz:z<0
    ·have q1:decide (z<0)=true:=decide_eq_true hlz;have wQ:=Qh (nu.out hlz);clear dw nu HB;go_wp2_with fail
     go_region_held3 (fun w'=>(w'.cell? ⟨b,q*9,none⟩=some (.int .i64 k1)∧w'.cell? ⟨b,q*9+1,none⟩=some (.int .i64 i1)∧w'.cell? ⟨b,q*9+1+1,none⟩=some (.int .i64 g1)∧w'.cell? ⟨b,q*9+1+1+1,none⟩=some (.string n1)∧w'.cell? ⟨b,q*9+1+1+1+1,none⟩=some (.string dr)∧w'.cell? ⟨b,q*9+1+1+1+1+1,none⟩=some (.int .i64 a1)∧w'.cell? ⟨b,q*9+1+1+1+1+1+1,none⟩=some (.slice p1 m1 c1)∧w'.cell? ⟨b,q*9+1+1+1+1+1+1+1,none⟩=some (.string gY)∧w'.cell? ⟨b,q*9+1+1+1+1+1+1+1+1,none⟩=some (.int .i64 s1))∧w'.cell? ⟨b,h*9,none⟩=some (.int .i64 k2)∧w'.cell? ⟨b,h*9+1,none⟩=some (.int .i64 i2)∧w'.cell? ⟨b,h*9+1+1,none⟩=some (.int .i64 g2)∧w'.cell? ⟨b,h*9+1+1+1,none⟩=some (.string n2)∧w'.cell? ⟨b,h*9+1+1+1+1,none⟩=some (.string cU)∧w'.cell? ⟨b,h*9+1+1+1+1+1,none⟩=some (.int .i64 a2)∧w'.cell? ⟨b,h*9+1+1+1+1+1+1,none⟩=some (.slice p2 m2 c2)∧w'.cell? ⟨b,h*9+1+1+1+1+1+1+1,none⟩=some (.string fW)∧w'.cell? ⟨b,h*9+1+1+1+1+1+1+1+1,none⟩=some (.int .i64 s2)) (go_keep)
      (first
        | (go_at_call 96;(with_reducible refine HC.out.mono ?_);rintro e5 w5 ⟨rfl,eS⟩;have nh:=Qh (ig.out.same (eS.block b kj));have kZ:=Qh (dU.out.same (eS.block b kj));obtain⟨z0,z1,z2,z3,z4,z5,z6,z7,z8⟩:=nh.out;obtain⟨t0,t1,t2,t3,t4,t5,t6,t7,t8⟩:=kZ.out;dsimp only at z0 z1 z2 z3 z4 z5 z6 z7 z8 t0 t1 t2 t3 t4 t5 t6 t7 t8))
     have Ds:=Qh ((cO.out.drewN 1).below eS cO.out.aX.size);clear eS HC ig dU nh kZ cO x0 x1 x2 x3 x4 x5 x6 x7 x8 y0 y1 y2 y3 y4 y5 y6 y7 y8 kj;go_wp2_with fail;go_roundw
     case rel=>exact⟨i,h,rfl,rfl,O0,by omega,by omega,wQ,Ds⟩
     case measure=>simp[intOf];omega
    ·have q1:decide (z<0)=false:=decide_eq_false hlz;have wQ:=Qh (dw.out hlz);clear dw nu HB;go_wp2_with fail
     go_region_held3 (fun w'=>(w'.cell? ⟨b,q*9,none⟩=some (.int .i64 k1)∧w'.cell? ⟨b,q*9+1,none⟩=some (.int .i64 i1)∧w'.cell? ⟨b,q*9+1+1,none⟩=some (.int .i64 g1)∧w'.cell? ⟨b,q*9+1+1+1,none⟩=some (.string n1)∧w'.cell? ⟨b,q*9+1+1+1+1,none⟩=some (.string dr)∧w'.cell? ⟨b,q*9+1+1+1+1+1,none⟩=some (.int .i64 a1)∧w'.cell? ⟨b,q*9+1+1+1+1+1+1,none⟩=some (.slice p1 m1 c1)∧w'.cell? ⟨b,q*9+1+1+1+1+1+1+1,none⟩=some (.string gY)∧w'.cell? ⟨b,q*9+1+1+1+1+1+1+1+1,none⟩=some (.int .i64 s1))∧w'.cell? ⟨b,h*9,none⟩=some (.int .i64 k2)∧w'.cell? ⟨b,h*9+1,none⟩=some (.int .i64 i2)∧w'.cell? ⟨b,h*9+1+1,none⟩=some (.int .i64 g2)∧w'.cell? ⟨b,h*9+1+1+1,none⟩=some (.string n2)∧w'.cell? ⟨b,h*9+1+1+1+1,none⟩=some (.string cU)∧w'.cell? ⟨b,h*9+1+1+1+1+1,none⟩=some (.int .i64 a2)∧w'.cell? ⟨b,h*9+1+1+1+1+1+1,none⟩=some (.slice p2 m2 c2)∧w'.cell? ⟨b,h*9+1+1+1+1+1+1+1,none⟩=some (.string fW)∧w'.cell? ⟨b,h*9+1+1+1+1+1+1+1+1,none⟩=some (.int .i64 s2)) (go_keep)
      (first
        | (go_at_call 96;(with_reducible refine HC.out.mono ?_);rintro e5 w5 ⟨rfl,eS⟩;have nh:=Qh (ig.out.same (eS.block b kj));have kZ:=Qh (dU.out.same (eS.block b kj));obtain⟨z0,z1,z2,z3,z4,z5,z6,z7,z8⟩:=nh.out;obtain⟨t0,t1,t2,t3,t4,t5,t6,t7,t8⟩:=kZ.out;dsimp only at z0 z1 z2 z3 z4 z5 z6 z7 z8 t0 t1 t2 t3 t4 t5 t6 t7 t8))
     have Ds:=Qh ((cO.out.drewN 1).below eS cO.out.aX.size);clear eS HC ig dU nh kZ cO x0 x1 x2 x3 x4 x5 x6 x7 x8 y0 y1 y2 y3 y4 y5 y6 y7 y8 kj;go_wp2_with fail;go_roundw
     case rel=>exact⟨h+1,j,by go_num,rfl,by omega,by omega,O1,wQ,Ds⟩
     case measure=>simp[intOf];omega
   ·obtain rfl:i=j:=by omega
    obtain⟨L1,L2,R1,R2,hL,hR,iq,jC,hJ⟩:=qJ.out i (by omega) HB.out;have hrow:=cO.out;rw[HD.out,hL,hR]at hrow;have hm':=HM.out;have he':=HE.out;have ha':=HA.out;rw[hL]at hm';rw[hR]at he';rw[List.length_append]at hm' he';have OV:∀z∈L1,z∈L:=fun z hz=>by rw[hL];simp[hz]
    have LM:∀z∈L2,z∈L:=fun z hz=>by rw[hL];simp[hz]
    have LN:∀z∈R1,z∈R:=fun z hz=>by rw[hR];simp[hz]
    have OW:∀z∈R2,z∈R:=fun z hz=>by rw[hR];simp[hz]
    have BP:=HL.out;have BQ:=HRR.out;rw[hL]at BP;rw[hR]at BQ;have BP:=List.pairwise_append.1 BP;have BQ:=List.pairwise_append.1 BQ;obtain⟨en,AU⟩:∃en:Nat,en=m+R1.length:=⟨_,rfl⟩;have r1:(nn:Int)-(i:Int)=(en:Int):=by omega
    have c1:i≤m:=by omega
    have c2:m≤en:=by omega
    have c3:a≤i:=by omega
    have c4:i≤mid:=by omega
    have c5:mid≤en:=by omega
    have c6:en≤e:=by omega
    have HJ:=Qh hJ;have lZ:Hid (i<m∧m<en→Calls Tryz.prog 152 #[.slice (some ⟨b,0,none⟩) n cap,.int .i64 i,.int .i64 m,.int .i64 en,.func (.func 96) #[] #[]] wr (uA enc w0 b n cap (A++(L1++(R1++(L2++(R2++C))))))):=Qh (fun hc=>by
     have:=Gr.out wr (A++L1) L2 R1 (R2++C) (fun z hz=>by rcases List.mem_append.1 hz with hz|hz;exact .inl (LM z hz);exact .inr (LN z hz)) (by simpa using hrow) i m en (by simp;omega) (by omega) (by omega) hc.1 hc.2
     simpa using this)
    have gF:Hid (¬(i<m∧m<en)→bB enc w0 wr b n cap (A++(L1++(R1++(L2++(R2++C)))))):=Qh (fun hc=>by
     have:L2=[]∨R1=[]:=by
      by_cases hq:i<m
      ·exact .inr (List.eq_nil_of_length_eq_zero (by omega))
      ·exact .inl (List.eq_nil_of_length_eq_zero (by omega))
     rcases this with rfl|rfl
     ·simpa using hrow
     ·simpa using hrow)
    have nY:Hid (∀W,bB enc w0 W b n cap (A++(L1++(R1++(L2++(R2++C)))))→a<i∧i<mid→Calls Tryz.prog 129 #[.slice (some ⟨b,0,none⟩) n cap,.int .i64 a,.int .i64 i,.int .i64 mid,.func (.func 96) #[] #[]] W (gL c tg enc w0 b n cap A (L1++R1) (L2++(R2++C)))):=Qh (fun W hw hc=>vY.out W A L1 R1 (L2++(R2++C)) (fun z hz=>OV z hz) (fun z hz=>LN z hz) BP.1 BQ.1 hw a i mid (by omega) (by omega) (by omega) hc.1 hc.2 (by omega));have gG:Hid (¬(a<i∧i<mid)→(L1++R1).Pairwise (gH c tg)):=Qh (fun hc=>by
     have:L1=[]∨R1=[]:=by
      by_cases hq:a<i
      ·exact .inr (List.eq_nil_of_length_eq_zero (by omega))
      ·exact .inl (List.eq_nil_of_length_eq_zero (by omega))
     rcases this with rfl|rfl
     ·simpa using BQ.1
     ·simpa using BP.1)
    have u9:Hid (∀W (M1:List α),M1.Perm (L1++R1)→bB enc w0 W b n cap (A++(M1++(L2++(R2++C))))→mid<en∧en<e→Calls Tryz.prog 129 #[.slice (some ⟨b,0,none⟩) n cap,.int .i64 mid,.int .i64 en,.int .i64 e,.func (.func 96) #[] #[]] W (gL c tg enc w0 b n cap (A++M1) (L2++R2) C)):=Qh (fun W M1 hp hw hc=>vY.out W (A++M1) L2 R2 C (fun z hz=>LM z hz) (fun z hz=>OW z hz) BP.2.1 BQ.2.1 (by simpa using hw) mid en e (by have:=hp.length_eq;simp at this ⊢;omega) (by omega) (by omega) hc.1 hc.2 (by omega))
    have Me:Hid (¬(mid<en∧en<e)→(L2++R2).Pairwise (gH c tg)):=Qh (fun hc=>by
     have:L2=[]∨R2=[]:=by
      by_cases hq:mid<en
      ·exact .inr (List.eq_nil_of_length_eq_zero (by omega))
      ·exact .inl (List.eq_nil_of_length_eq_zero (by omega))
     rcases this with rfl|rfl
     ·simpa using BQ.2.1
     ·simpa using BP.2.1)
    clear hL hR iq jC hJ hrow hm' he' ha' OV LM LN OW BP BQ AU qJ vY Gr HB cO qF HD mM cL lU
    by_cases h0:i<m∧m<en
    ·have u1:(i:Int)<(m:Int):=by omega
     have u2:(m:Int)<(en:Int):=by omega
     have u3:decide (i<m)=true:=decide_eq_true (by omega);have u4:decide (m<en)=true:=decide_eq_true (by omega);have mQ:=Qh (lZ.out h0);go_wp2_with fail;refine mQ.out.mono ?_;rintro e1 v0 ⟨rfl,hr⟩;have eJ:=Qh hr;clear hr mQ u1 u2 u3 u4 h0
     by_cases h1:a<i∧i<mid
     ·have u1:(a:Int)<(i:Int):=by omega
      have u2:(i:Int)<(mid:Int):=by omega
      have u3:decide (a<i)=true:=decide_eq_true (by omega);have u4:decide (i<mid)=true:=decide_eq_true (by omega);have mQ:=Qh (nY.out v0 eJ.out h1);go_wp2_with fail;refine mQ.out.mono ?_;rintro e1 v1 ⟨rfl,M1,hp,hs,hr⟩;have jw:=Qh hp;have dl:=Qh hs;clear eJ;have eJ:=Qh hr;clear hp hs;clear hr mQ u1 u2 u3 u4 h1
      by_cases h2:mid<en∧en<e
      ·have u1:(mid:Int)<(en:Int):=by omega
       have u2:(en:Int)<(e:Int):=by omega
       have u3:decide (mid<en)=true:=decide_eq_true (by omega);have u4:decide (en<e)=true:=decide_eq_true (by omega);have mQ:=Qh (u9.out v1 M1 jw.out eJ.out h2);go_wp2_with fail;refine mQ.out.mono ?_;rintro e1 v2 ⟨rfl,M2,hp,hs,hr⟩;have gJ:=Qh hp;have dP:=Qh hs;clear eJ;have eJ:=Qh hr;clear hp hs;clear hr mQ u1 u2 u3 u4 h2;go_wp2_with fail;go_end0
       exact⟨rfl,M1++M2,(HJ.out M1 M2 jw.out gJ.out dl.out dP.out).1,(HJ.out M1 M2 jw.out gJ.out dl.out dP.out).2,by simpa using eJ.out⟩
      ·have lY:Hid (¬(mid<en∧en<e)):=Qh h2;obtain⟨M2,ju⟩:∃M2,M2=L2++R2:=⟨_,rfl⟩;have gJ:Hid (M2.Perm (L2++R2)):=Qh (by rw[ju]);have dP:Hid (M2.Pairwise (gH c tg)):=Qh (by rw[ju];exact Me.out h2);have hrw:=eJ.out;rw[←List.append_assoc L2,←ju,←List.append_assoc A]at hrw;clear eJ;have eJ:=Qh hrw;clear hrw ju;clear h2;go_upto_region 43 with fail;go_cut [213] from 206 to 213 (fun v wx=>v=.bool false∧wx=v1)
       case first=>
        by_cases hu:mid<en
        ·have u2:¬en<e:=by have:=lY.out;omega
         have u3:decide (mid<en)=true:=decide_eq_true hu;have u4:decide (en<e)=false:=decide_eq_false u2;have u5:(mid:Int)<(en:Int):=by omega
         have u6:¬(en:Int)<(e:Int):=by omega
         have u7:decide ((en:Int)<(e:Int))=false:=decide_eq_false u6;go_wp2_with fail;go_meet;exact⟨rfl,rfl⟩
        ·have u3:decide (mid<en)=false:=decide_eq_false hu;have u6:¬(mid:Int)<(en:Int):=by omega
         have u7:decide ((mid:Int)<(en:Int))=false:=decide_eq_false u6;go_wp2_with fail;go_meet;exact⟨rfl,rfl⟩
       case rest=>
        obtain⟨rfl,rfl⟩:=hcut;clear lY;obtain⟨y2,rfl⟩:∃y2:World,y2=wc:=⟨_,rfl⟩;go_wp2_with fail;go_end0
        exact⟨rfl,M1++M2,(HJ.out M1 M2 jw.out gJ.out dl.out dP.out).1,(HJ.out M1 M2 jw.out gJ.out dl.out dP.out).2,by simpa using eJ.out⟩
     ·have lY:Hid (¬(a<i∧i<mid)):=Qh h1;obtain⟨M1,ox⟩:∃M1,M1=L1++R1:=⟨_,rfl⟩;have jw:Hid (M1.Perm (L1++R1)):=Qh (by rw[ox]);have dl:Hid (M1.Pairwise (gH c tg)):=Qh (by rw[ox];exact gG.out h1);have hrw:=eJ.out;rw[←List.append_assoc L1,←ox]at hrw;clear eJ;have eJ:=Qh hrw;clear hrw ox;clear h1;go_upto_region 41 with fail;go_cut [199] from 192 to 199 (fun v wx=>v=.bool false∧wx=v0)
      case first=>
       by_cases hu:a<i
       ·have u2:¬i<mid:=by have:=lY.out;omega
        have u3:decide (a<i)=true:=decide_eq_true hu;have u4:decide (i<mid)=false:=decide_eq_false u2;have u5:(a:Int)<(i:Int):=by omega
        have u6:¬(i:Int)<(mid:Int):=by omega
        have u7:decide ((i:Int)<(mid:Int))=false:=decide_eq_false u6;go_wp2_with fail;go_meet;exact⟨rfl,rfl⟩
       ·have u3:decide (a<i)=false:=decide_eq_false hu;have u6:¬(a:Int)<(i:Int):=by omega
        have u7:decide ((a:Int)<(i:Int))=false:=decide_eq_false u6;go_wp2_with fail;go_meet;exact⟨rfl,rfl⟩
      case rest=>
       obtain⟨rfl,rfl⟩:=hcut;clear lY;obtain⟨y1,rfl⟩:∃y1:World,y1=wc:=⟨_,rfl⟩
       by_cases h2:mid<en∧en<e
       ·have u1:(mid:Int)<(en:Int):=by omega
        have u2:(en:Int)<(e:Int):=by omega
        have u3:decide (mid<en)=true:=decide_eq_true (by omega);have u4:decide (en<e)=true:=decide_eq_true (by omega);have mQ:=Qh (u9.out y1 M1 jw.out eJ.out h2);go_wp2_with fail;refine mQ.out.mono ?_;rintro e1 v2 ⟨rfl,M2,hp,hs,hr⟩;have gJ:=Qh hp;have dP:=Qh hs;clear eJ;have eJ:=Qh hr;clear hp hs;clear hr mQ u1 u2 u3 u4 h2;go_wp2_with fail;go_end0
        exact⟨rfl,M1++M2,(HJ.out M1 M2 jw.out gJ.out dl.out dP.out).1,(HJ.out M1 M2 jw.out gJ.out dl.out dP.out).2,by simpa using eJ.out⟩
       ·have lY:Hid (¬(mid<en∧en<e)):=Qh h2;obtain⟨M2,ju⟩:∃M2,M2=L2++R2:=⟨_,rfl⟩;have gJ:Hid (M2.Perm (L2++R2)):=Qh (by rw[ju]);have dP:Hid (M2.Pairwise (gH c tg)):=Qh (by rw[ju];exact Me.out h2);have hrw:=eJ.out;rw[←List.append_assoc L2,←ju,←List.append_assoc A]at hrw;clear eJ;have eJ:=Qh hrw;clear hrw ju;clear h2;go_upto_region 43 with fail;go_cut [213] from 206 to 213 (fun v wx=>v=.bool false∧wx=y1)
        case first=>
         by_cases hu:mid<en
         ·have u2:¬en<e:=by have:=lY.out;omega
          have u3:decide (mid<en)=true:=decide_eq_true hu;have u4:decide (en<e)=false:=decide_eq_false u2;have u5:(mid:Int)<(en:Int):=by omega
          have u6:¬(en:Int)<(e:Int):=by omega
          have u7:decide ((en:Int)<(e:Int))=false:=decide_eq_false u6;go_wp2_with fail;go_meet;exact⟨rfl,rfl⟩
         ·have u3:decide (mid<en)=false:=decide_eq_false hu;have u6:¬(mid:Int)<(en:Int):=by omega
          have u7:decide ((mid:Int)<(en:Int))=false:=decide_eq_false u6;go_wp2_with fail;go_meet;exact⟨rfl,rfl⟩
        case rest=>
         obtain⟨rfl,rfl⟩:=hcut;clear lY;obtain⟨y2,rfl⟩:∃y2:World,y2=wc:=⟨_,rfl⟩;go_wp2_with fail;go_end0
         exact⟨rfl,M1++M2,(HJ.out M1 M2 jw.out gJ.out dl.out dP.out).1,(HJ.out M1 M2 jw.out gJ.out dl.out dP.out).2,by simpa using eJ.out⟩
    ·have lY:Hid (¬(i<m∧m<en)):=Qh h0;have eJ:=Qh (gF.out h0);clear h0;go_upto_region 39 with fail;go_cut [185] from 178 to 185 (fun v wx=>v=.bool false∧wx=wr)
     case first=>
      by_cases hu:i<m
      ·have u2:¬m<en:=by have:=lY.out;omega
       have u3:decide (i<m)=true:=decide_eq_true hu;have u4:decide (m<en)=false:=decide_eq_false u2;have u5:(i:Int)<(m:Int):=by omega
       have u6:¬(m:Int)<(en:Int):=by omega
       have u7:decide ((m:Int)<(en:Int))=false:=decide_eq_false u6;go_wp2_with fail;go_meet;exact⟨rfl,rfl⟩
      ·have u3:decide (i<m)=false:=decide_eq_false hu;have u6:¬(i:Int)<(m:Int):=by omega
       have u7:decide ((i:Int)<(m:Int))=false:=decide_eq_false u6;go_wp2_with fail;go_meet;exact⟨rfl,rfl⟩
     case rest=>
      obtain⟨rfl,rfl⟩:=hcut;clear lY;obtain⟨y0,rfl⟩:∃y0:World,y0=wc:=⟨_,rfl⟩
      by_cases h1:a<i∧i<mid
      ·have u1:(a:Int)<(i:Int):=by omega
       have u2:(i:Int)<(mid:Int):=by omega
       have u3:decide (a<i)=true:=decide_eq_true (by omega);have u4:decide (i<mid)=true:=decide_eq_true (by omega);have mQ:=Qh (nY.out y0 eJ.out h1);go_wp2_with fail;refine mQ.out.mono ?_;rintro e1 v1 ⟨rfl,M1,hp,hs,hr⟩;have jw:=Qh hp;have dl:=Qh hs;clear eJ;have eJ:=Qh hr;clear hp hs;clear hr mQ u1 u2 u3 u4 h1
       by_cases h2:mid<en∧en<e
       ·have u1:(mid:Int)<(en:Int):=by omega
        have u2:(en:Int)<(e:Int):=by omega
        have u3:decide (mid<en)=true:=decide_eq_true (by omega);have u4:decide (en<e)=true:=decide_eq_true (by omega);have mQ:=Qh (u9.out v1 M1 jw.out eJ.out h2);go_wp2_with fail;refine mQ.out.mono ?_;rintro e1 v2 ⟨rfl,M2,hp,hs,hr⟩;have gJ:=Qh hp;have dP:=Qh hs;clear eJ;have eJ:=Qh hr;clear hp hs;clear hr mQ u1 u2 u3 u4 h2;go_wp2_with fail;go_end0
        exact⟨rfl,M1++M2,(HJ.out M1 M2 jw.out gJ.out dl.out dP.out).1,(HJ.out M1 M2 jw.out gJ.out dl.out dP.out).2,by simpa using eJ.out⟩
       ·have lY:Hid (¬(mid<en∧en<e)):=Qh h2;obtain⟨M2,ju⟩:∃M2,M2=L2++R2:=⟨_,rfl⟩;have gJ:Hid (M2.Perm (L2++R2)):=Qh (by rw[ju]);have dP:Hid (M2.Pairwise (gH c tg)):=Qh (by rw[ju];exact Me.out h2);have hrw:=eJ.out;rw[←List.append_assoc L2,←ju,←List.append_assoc A]at hrw;clear eJ;have eJ:=Qh hrw;clear hrw ju;clear h2;go_upto_region 43 with fail;go_cut [213] from 206 to 213 (fun v wx=>v=.bool false∧wx=v1)
        case first=>
         by_cases hu:mid<en
         ·have u2:¬en<e:=by have:=lY.out;omega
          have u3:decide (mid<en)=true:=decide_eq_true hu;have u4:decide (en<e)=false:=decide_eq_false u2;have u5:(mid:Int)<(en:Int):=by omega
          have u6:¬(en:Int)<(e:Int):=by omega
          have u7:decide ((en:Int)<(e:Int))=false:=decide_eq_false u6;go_wp2_with fail;go_meet;exact⟨rfl,rfl⟩
         ·have u3:decide (mid<en)=false:=decide_eq_false hu;have u6:¬(mid:Int)<(en:Int):=by omega
          have u7:decide ((mid:Int)<(en:Int))=false:=decide_eq_false u6;go_wp2_with fail;go_meet;exact⟨rfl,rfl⟩
        case rest=>
         obtain⟨rfl,rfl⟩:=hcut;clear lY;obtain⟨y2,rfl⟩:∃y2:World,y2=wc:=⟨_,rfl⟩;go_wp2_with fail;go_end0
         exact⟨rfl,M1++M2,(HJ.out M1 M2 jw.out gJ.out dl.out dP.out).1,(HJ.out M1 M2 jw.out gJ.out dl.out dP.out).2,by simpa using eJ.out⟩
      ·have lY:Hid (¬(a<i∧i<mid)):=Qh h1;obtain⟨M1,ox⟩:∃M1,M1=L1++R1:=⟨_,rfl⟩;have jw:Hid (M1.Perm (L1++R1)):=Qh (by rw[ox]);have dl:Hid (M1.Pairwise (gH c tg)):=Qh (by rw[ox];exact gG.out h1);have hrw:=eJ.out;rw[←List.append_assoc L1,←ox]at hrw;clear eJ;have eJ:=Qh hrw;clear hrw ox;clear h1;go_upto_region 41 with fail;go_cut [199] from 192 to 199 (fun v wx=>v=.bool false∧wx=y0)
       case first=>
        by_cases hu:a<i
        ·have u2:¬i<mid:=by have:=lY.out;omega
         have u3:decide (a<i)=true:=decide_eq_true hu;have u4:decide (i<mid)=false:=decide_eq_false u2;have u5:(a:Int)<(i:Int):=by omega
         have u6:¬(i:Int)<(mid:Int):=by omega
         have u7:decide ((i:Int)<(mid:Int))=false:=decide_eq_false u6;go_wp2_with fail;go_meet;exact⟨rfl,rfl⟩
        ·have u3:decide (a<i)=false:=decide_eq_false hu;have u6:¬(a:Int)<(i:Int):=by omega
         have u7:decide ((a:Int)<(i:Int))=false:=decide_eq_false u6;go_wp2_with fail;go_meet;exact⟨rfl,rfl⟩
       case rest=>
        obtain⟨rfl,rfl⟩:=hcut;clear lY;obtain⟨y1,rfl⟩:∃y1:World,y1=wc:=⟨_,rfl⟩
        by_cases h2:mid<en∧en<e
        ·have u1:(mid:Int)<(en:Int):=by omega
         have u2:(en:Int)<(e:Int):=by omega
         have u3:decide (mid<en)=true:=decide_eq_true (by omega);have u4:decide (en<e)=true:=decide_eq_true (by omega);have mQ:=Qh (u9.out y1 M1 jw.out eJ.out h2);go_wp2_with fail;refine mQ.out.mono ?_;rintro e1 v2 ⟨rfl,M2,hp,hs,hr⟩;have gJ:=Qh hp;have dP:=Qh hs;clear eJ;have eJ:=Qh hr;clear hp hs;clear hr mQ u1 u2 u3 u4 h2;go_wp2_with fail;go_end0
         exact⟨rfl,M1++M2,(HJ.out M1 M2 jw.out gJ.out dl.out dP.out).1,(HJ.out M1 M2 jw.out gJ.out dl.out dP.out).2,by simpa using eJ.out⟩
        ·have lY:Hid (¬(mid<en∧en<e)):=Qh h2;obtain⟨M2,ju⟩:∃M2,M2=L2++R2:=⟨_,rfl⟩;have gJ:Hid (M2.Perm (L2++R2)):=Qh (by rw[ju]);have dP:Hid (M2.Pairwise (gH c tg)):=Qh (by rw[ju];exact Me.out h2);have hrw:=eJ.out;rw[←List.append_assoc L2,←ju,←List.append_assoc A]at hrw;clear eJ;have eJ:=Qh hrw;clear hrw ju;clear h2;go_upto_region 43 with fail;go_cut [213] from 206 to 213 (fun v wx=>v=.bool false∧wx=y1)
         case first=>
          by_cases hu:mid<en
          ·have u2:¬en<e:=by have:=lY.out;omega
           have u3:decide (mid<en)=true:=decide_eq_true hu;have u4:decide (en<e)=false:=decide_eq_false u2;have u5:(mid:Int)<(en:Int):=by omega
           have u6:¬(en:Int)<(e:Int):=by omega
           have u7:decide ((en:Int)<(e:Int))=false:=decide_eq_false u6;go_wp2_with fail;go_meet;exact⟨rfl,rfl⟩
          ·have u3:decide (mid<en)=false:=decide_eq_false hu;have u6:¬(mid:Int)<(en:Int):=by omega
           have u7:decide ((mid:Int)<(en:Int))=false:=decide_eq_false u6;go_wp2_with fail;go_meet;exact⟨rfl,rfl⟩
         case rest=>
          obtain⟨rfl,rfl⟩:=hcut;clear lY;obtain⟨y2,rfl⟩:∃y2:World,y2=wc:=⟨_,rfl⟩;go_wp2_with fail;go_end0
          exact⟨rfl,M1++M2,(HJ.out M1 M2 jw.out gJ.out dl.out dP.out).1,(HJ.out M1 M2 jw.out gJ.out dl.out dP.out).2,by simpa using eJ.out⟩
 ·have qJ:=Qh (fun i (hx:i≤i) hB=>pQ.out a m i (.inl ⟨rfl,rfl,by omega⟩) hB);have hb':¬((mid:Int)<(m:Int)):=by omega
  clear pQ;go_enter Tryz.func129,Tryz.ntmps129;go_wp2_with fail;clear r0 r1 r2 r3 r4 t0 t1 t2 t3;go_loopw [20,21] (fun s t wr=>∃i j:Nat,s=.int .i64 i∧t=.int .i64 j∧a≤i∧i≤j∧j≤m∧Hid (Dp (fun h=>¬Kt c D (p-h) h) a m i j)∧Hid (bB enc w0 wr b n cap D)) (fun s t _=>(intOf t).toNat-(intOf s).toNat)
  case atStart=>exact⟨a,m,rfl,rfl,by omega,by omega,by omega,Qh ⟨Nat.le_refl _,by omega,Nat.le_refl _,.inl rfl,.inl rfl⟩,mM⟩
  case round=>
   obtain⟨i,j,rfl,rfl,O0,hij,O1,HB,cO⟩:=hrel
   by_cases hlt:i<j
   ·obtain⟨h,hh⟩:∃h:Nat,(i+j)/2=h:=⟨_,rfl⟩;have e1:((i:Int)+(j:Int))/2=(h:Int):=by omega
    obtain⟨q,hq⟩:∃q:Nat,p-h=q:=⟨_,rfl⟩;have e2:(p:Int)-(h:Int)=(q:Int):=by omega
    obtain⟨x,hx,yZ⟩:=qF.out q (by omega) (by omega);obtain⟨y,hy,y9⟩:=qF.out h (by omega) (by omega);have hcx:=cO.out.jW hx;have ol:=cO.out.jW hy;have dw:=Qh (fun hz:¬c x y<0=>HB.out.right (h:=h) (by omega) (by omega) (fun hw=>hz ((gh hx hy).1 (by rw[←hq];exact hw))));have nu:=Qh (fun hz:c x y<0=>HB.out.left (h:=h) (by omega) (by omega) (fun hw=>hw (by rw[hq];exact(gh hx hy).2 hz)));clear hx hy;have kj:b<wr.heap.size:=cO.out.lt;have HC:=Qh (cL.out wr.drew x y (cO.out.aX.drewN 1) yZ y9);have Dm:=lU.out x yZ;have Dn:=lU.out y y9
    obtain⟨z,hz⟩:∃z,c x y=z:=⟨_,rfl⟩;have HZ:=Qh hz;rw[hz]at HC;clear hz;obtain⟨p1,m1,c1,ex⟩:=Dm;obtain⟨p2,m2,c2,ey⟩:=Dn;obtain⟨X9,eX⟩:∃X9,enc x=X9:=⟨_,rfl⟩;obtain⟨Y9,eY⟩:∃Y9,enc y=Y9:=⟨_,rfl⟩;rw[eX]at hcx ex HC;rw[eY]at ol ey HC;clear eX eY;obtain⟨⟨k1,i1,g1,n1,dr,a1,gY,s1⟩,v1⟩:=X9;obtain⟨⟨k2,i2,g2,n2,cU,a2,fW,s2⟩,v2⟩:=Y9;dsimp only at hcx ol HC ex ey;subst ex;subst ey;have ig:=Qh hcx;have dU:=Qh ol;unfold aj aM at HC;dsimp only at HC;obtain⟨x0,x1,x2,x3,x4,x5,x6,x7,x8⟩:=hcx;obtain⟨y0,y1,y2,y3,y4,y5,y6,y7,y8⟩:=ol
    dsimp only at x0 x1 x2 x3 x4 x5 x6 x7 x8 y0 y1 y2 y3 y4 y5 y6 y7 y8;rw[HZ.out]at dw nu;have r1:(h:Int)<(n:Int):=by omega
    have r2:(0:Int)≤(h:Int):=by omega
    have r3:(q:Int)<(n:Int):=by omega
    have r4:(0:Int)≤(q:Int):=by omega
    have r5:IntKind.i64.wrap (q:Int)=(q:Int):=IntWalk.i64_in _ (by omega);have b1:i≤h:=by omega
    have b2:h<j:=by omega
    clear hh hq qJ vY Gr
    by_cases hlz:z<0
    ·have q1:decide (z<0)=true:=decide_eq_true hlz;have wQ:=Qh (nu.out hlz);clear dw nu HB;go_wp2_with fail
     go_region_held3 (fun w'=>(w'.cell? ⟨b,q*9,none⟩=some (.int .i64 k1)∧w'.cell? ⟨b,q*9+1,none⟩=some (.int .i64 i1)∧w'.cell? ⟨b,q*9+1+1,none⟩=some (.int .i64 g1)∧w'.cell? ⟨b,q*9+1+1+1,none⟩=some (.string n1)∧w'.cell? ⟨b,q*9+1+1+1+1,none⟩=some (.string dr)∧w'.cell? ⟨b,q*9+1+1+1+1+1,none⟩=some (.int .i64 a1)∧w'.cell? ⟨b,q*9+1+1+1+1+1+1,none⟩=some (.slice p1 m1 c1)∧w'.cell? ⟨b,q*9+1+1+1+1+1+1+1,none⟩=some (.string gY)∧w'.cell? ⟨b,q*9+1+1+1+1+1+1+1+1,none⟩=some (.int .i64 s1))∧w'.cell? ⟨b,h*9,none⟩=some (.int .i64 k2)∧w'.cell? ⟨b,h*9+1,none⟩=some (.int .i64 i2)∧w'.cell? ⟨b,h*9+1+1,none⟩=some (.int .i64 g2)∧w'.cell? ⟨b,h*9+1+1+1,none⟩=some (.string n2)∧w'.cell? ⟨b,h*9+1+1+1+1,none⟩=some (.string cU)∧w'.cell? ⟨b,h*9+1+1+1+1+1,none⟩=some (.int .i64 a2)∧w'.cell? ⟨b,h*9+1+1+1+1+1+1,none⟩=some (.slice p2 m2 c2)∧w'.cell? ⟨b,h*9+1+1+1+1+1+1+1,none⟩=some (.string fW)∧w'.cell? ⟨b,h*9+1+1+1+1+1+1+1+1,none⟩=some (.int .i64 s2)) (go_keep)
      (first
        | (go_at_call 96;(with_reducible refine HC.out.mono ?_);rintro e5 w5 ⟨rfl,eS⟩;have nh:=Qh (ig.out.same (eS.block b kj));have kZ:=Qh (dU.out.same (eS.block b kj));obtain⟨z0,z1,z2,z3,z4,z5,z6,z7,z8⟩:=nh.out;obtain⟨t0,t1,t2,t3,t4,t5,t6,t7,t8⟩:=kZ.out;dsimp only at z0 z1 z2 z3 z4 z5 z6 z7 z8 t0 t1 t2 t3 t4 t5 t6 t7 t8))
     have Ds:=Qh ((cO.out.drewN 1).below eS cO.out.aX.size);clear eS HC ig dU nh kZ cO x0 x1 x2 x3 x4 x5 x6 x7 x8 y0 y1 y2 y3 y4 y5 y6 y7 y8 kj;go_wp2_with fail;go_roundw
     case rel=>exact⟨i,h,rfl,rfl,O0,by omega,by omega,wQ,Ds⟩
     case measure=>simp[intOf];omega
    ·have q1:decide (z<0)=false:=decide_eq_false hlz;have wQ:=Qh (dw.out hlz);clear dw nu HB;go_wp2_with fail
     go_region_held3 (fun w'=>(w'.cell? ⟨b,q*9,none⟩=some (.int .i64 k1)∧w'.cell? ⟨b,q*9+1,none⟩=some (.int .i64 i1)∧w'.cell? ⟨b,q*9+1+1,none⟩=some (.int .i64 g1)∧w'.cell? ⟨b,q*9+1+1+1,none⟩=some (.string n1)∧w'.cell? ⟨b,q*9+1+1+1+1,none⟩=some (.string dr)∧w'.cell? ⟨b,q*9+1+1+1+1+1,none⟩=some (.int .i64 a1)∧w'.cell? ⟨b,q*9+1+1+1+1+1+1,none⟩=some (.slice p1 m1 c1)∧w'.cell? ⟨b,q*9+1+1+1+1+1+1+1,none⟩=some (.string gY)∧w'.cell? ⟨b,q*9+1+1+1+1+1+1+1+1,none⟩=some (.int .i64 s1))∧w'.cell? ⟨b,h*9,none⟩=some (.int .i64 k2)∧w'.cell? ⟨b,h*9+1,none⟩=some (.int .i64 i2)∧w'.cell? ⟨b,h*9+1+1,none⟩=some (.int .i64 g2)∧w'.cell? ⟨b,h*9+1+1+1,none⟩=some (.string n2)∧w'.cell? ⟨b,h*9+1+1+1+1,none⟩=some (.string cU)∧w'.cell? ⟨b,h*9+1+1+1+1+1,none⟩=some (.int .i64 a2)∧w'.cell? ⟨b,h*9+1+1+1+1+1+1,none⟩=some (.slice p2 m2 c2)∧w'.cell? ⟨b,h*9+1+1+1+1+1+1+1,none⟩=some (.string fW)∧w'.cell? ⟨b,h*9+1+1+1+1+1+1+1+1,none⟩=some (.int .i64 s2)) (go_keep)
      (first
        | (go_at_call 96;(with_reducible refine HC.out.mono ?_);rintro e5 w5 ⟨rfl,eS⟩;have nh:=Qh (ig.out.same (eS.block b kj));have kZ:=Qh (dU.out.same (eS.block b kj));obtain⟨z0,z1,z2,z3,z4,z5,z6,z7,z8⟩:=nh.out;obtain⟨t0,t1,t2,t3,t4,t5,t6,t7,t8⟩:=kZ.out;dsimp only at z0 z1 z2 z3 z4 z5 z6 z7 z8 t0 t1 t2 t3 t4 t5 t6 t7 t8))
     have Ds:=Qh ((cO.out.drewN 1).below eS cO.out.aX.size);clear eS HC ig dU nh kZ cO x0 x1 x2 x3 x4 x5 x6 x7 x8 y0 y1 y2 y3 y4 y5 y6 y7 y8 kj;go_wp2_with fail;go_roundw
     case rel=>exact⟨h+1,j,by go_num,rfl,by omega,by omega,O1,wQ,Ds⟩
     case measure=>simp[intOf];omega
   ·obtain rfl:i=j:=by omega
    obtain⟨L1,L2,R1,R2,hL,hR,iq,jC,hJ⟩:=qJ.out i (by omega) HB.out;have hrow:=cO.out;rw[HD.out,hL,hR]at hrow;have hm':=HM.out;have he':=HE.out;have ha':=HA.out;rw[hL]at hm';rw[hR]at he';rw[List.length_append]at hm' he';have OV:∀z∈L1,z∈L:=fun z hz=>by rw[hL];simp[hz]
    have LM:∀z∈L2,z∈L:=fun z hz=>by rw[hL];simp[hz]
    have LN:∀z∈R1,z∈R:=fun z hz=>by rw[hR];simp[hz]
    have OW:∀z∈R2,z∈R:=fun z hz=>by rw[hR];simp[hz]
    have BP:=HL.out;have BQ:=HRR.out;rw[hL]at BP;rw[hR]at BQ;have BP:=List.pairwise_append.1 BP;have BQ:=List.pairwise_append.1 BQ;obtain⟨en,AU⟩:∃en:Nat,en=m+R1.length:=⟨_,rfl⟩;have r1:(nn:Int)-(i:Int)=(en:Int):=by omega
    have c1:i≤m:=by omega
    have c2:m≤en:=by omega
    have c3:a≤i:=by omega
    have c4:i≤mid:=by omega
    have c5:mid≤en:=by omega
    have c6:en≤e:=by omega
    have HJ:=Qh hJ;have lZ:Hid (i<m∧m<en→Calls Tryz.prog 152 #[.slice (some ⟨b,0,none⟩) n cap,.int .i64 i,.int .i64 m,.int .i64 en,.func (.func 96) #[] #[]] wr (uA enc w0 b n cap (A++(L1++(R1++(L2++(R2++C))))))):=Qh (fun hc=>by
     have:=Gr.out wr (A++L1) L2 R1 (R2++C) (fun z hz=>by rcases List.mem_append.1 hz with hz|hz;exact .inl (LM z hz);exact .inr (LN z hz)) (by simpa using hrow) i m en (by simp;omega) (by omega) (by omega) hc.1 hc.2
     simpa using this)
    have gF:Hid (¬(i<m∧m<en)→bB enc w0 wr b n cap (A++(L1++(R1++(L2++(R2++C)))))):=Qh (fun hc=>by
     have:L2=[]∨R1=[]:=by
      by_cases hq:i<m
      ·exact .inr (List.eq_nil_of_length_eq_zero (by omega))
      ·exact .inl (List.eq_nil_of_length_eq_zero (by omega))
     rcases this with rfl|rfl
     ·simpa using hrow
     ·simpa using hrow)
    have nY:Hid (∀W,bB enc w0 W b n cap (A++(L1++(R1++(L2++(R2++C)))))→a<i∧i<mid→Calls Tryz.prog 129 #[.slice (some ⟨b,0,none⟩) n cap,.int .i64 a,.int .i64 i,.int .i64 mid,.func (.func 96) #[] #[]] W (gL c tg enc w0 b n cap A (L1++R1) (L2++(R2++C)))):=Qh (fun W hw hc=>vY.out W A L1 R1 (L2++(R2++C)) (fun z hz=>OV z hz) (fun z hz=>LN z hz) BP.1 BQ.1 hw a i mid (by omega) (by omega) (by omega) hc.1 hc.2 (by omega));have gG:Hid (¬(a<i∧i<mid)→(L1++R1).Pairwise (gH c tg)):=Qh (fun hc=>by
     have:L1=[]∨R1=[]:=by
      by_cases hq:a<i
      ·exact .inr (List.eq_nil_of_length_eq_zero (by omega))
      ·exact .inl (List.eq_nil_of_length_eq_zero (by omega))
     rcases this with rfl|rfl
     ·simpa using BQ.1
     ·simpa using BP.1)
    have u9:Hid (∀W (M1:List α),M1.Perm (L1++R1)→bB enc w0 W b n cap (A++(M1++(L2++(R2++C))))→mid<en∧en<e→Calls Tryz.prog 129 #[.slice (some ⟨b,0,none⟩) n cap,.int .i64 mid,.int .i64 en,.int .i64 e,.func (.func 96) #[] #[]] W (gL c tg enc w0 b n cap (A++M1) (L2++R2) C)):=Qh (fun W M1 hp hw hc=>vY.out W (A++M1) L2 R2 C (fun z hz=>LM z hz) (fun z hz=>OW z hz) BP.2.1 BQ.2.1 (by simpa using hw) mid en e (by have:=hp.length_eq;simp at this ⊢;omega) (by omega) (by omega) hc.1 hc.2 (by omega))
    have Me:Hid (¬(mid<en∧en<e)→(L2++R2).Pairwise (gH c tg)):=Qh (fun hc=>by
     have:L2=[]∨R2=[]:=by
      by_cases hq:mid<en
      ·exact .inr (List.eq_nil_of_length_eq_zero (by omega))
      ·exact .inl (List.eq_nil_of_length_eq_zero (by omega))
     rcases this with rfl|rfl
     ·simpa using BQ.2.1
     ·simpa using BP.2.1)
    clear hL hR iq jC hJ hrow hm' he' ha' OV LM LN OW BP BQ AU qJ vY Gr HB cO qF HD mM cL lU
    by_cases h0:i<m∧m<en
    ·have u1:(i:Int)<(m:Int):=by omega
     have u2:(m:Int)<(en:Int):=by omega
     have u3:decide (i<m)=true:=decide_eq_true (by omega);have u4:decide (m<en)=true:=decide_eq_true (by omega);have mQ:=Qh (lZ.out h0);go_wp2_with fail;refine mQ.out.mono ?_;rintro e1 v0 ⟨rfl,hr⟩;have eJ:=Qh hr;clear hr mQ u1 u2 u3 u4 h0
     by_cases h1:a<i∧i<mid
     ·have u1:(a:Int)<(i:Int):=by omega
      have u2:(i:Int)<(mid:Int):=by omega
      have u3:decide (a<i)=true:=decide_eq_true (by omega);have u4:decide (i<mid)=true:=decide_eq_true (by omega);have mQ:=Qh (nY.out v0 eJ.out h1);go_wp2_with fail;refine mQ.out.mono ?_;rintro e1 v1 ⟨rfl,M1,hp,hs,hr⟩;have jw:=Qh hp;have dl:=Qh hs;clear eJ;have eJ:=Qh hr;clear hp hs;clear hr mQ u1 u2 u3 u4 h1
      by_cases h2:mid<en∧en<e
      ·have u1:(mid:Int)<(en:Int):=by omega
       have u2:(en:Int)<(e:Int):=by omega
       have u3:decide (mid<en)=true:=decide_eq_true (by omega);have u4:decide (en<e)=true:=decide_eq_true (by omega);have mQ:=Qh (u9.out v1 M1 jw.out eJ.out h2);go_wp2_with fail;refine mQ.out.mono ?_;rintro e1 v2 ⟨rfl,M2,hp,hs,hr⟩;have gJ:=Qh hp;have dP:=Qh hs;clear eJ;have eJ:=Qh hr;clear hp hs;clear hr mQ u1 u2 u3 u4 h2;go_wp2_with fail;go_end0
       exact⟨rfl,M1++M2,(HJ.out M1 M2 jw.out gJ.out dl.out dP.out).1,(HJ.out M1 M2 jw.out gJ.out dl.out dP.out).2,by simpa using eJ.out⟩
      ·have lY:Hid (¬(mid<en∧en<e)):=Qh h2;obtain⟨M2,ju⟩:∃M2,M2=L2++R2:=⟨_,rfl⟩;have gJ:Hid (M2.Perm (L2++R2)):=Qh (by rw[ju]);have dP:Hid (M2.Pairwise (gH c tg)):=Qh (by rw[ju];exact Me.out h2);have hrw:=eJ.out;rw[←List.append_assoc L2,←ju,←List.append_assoc A]at hrw;clear eJ;have eJ:=Qh hrw;clear hrw ju;clear h2;go_upto_region 43 with fail;go_cut [213] from 206 to 213 (fun v wx=>v=.bool false∧wx=v1)
       case first=>
        by_cases hu:mid<en
        ·have u2:¬en<e:=by have:=lY.out;omega
         have u3:decide (mid<en)=true:=decide_eq_true hu;have u4:decide (en<e)=false:=decide_eq_false u2;have u5:(mid:Int)<(en:Int):=by omega
         have u6:¬(en:Int)<(e:Int):=by omega
         have u7:decide ((en:Int)<(e:Int))=false:=decide_eq_false u6;go_wp2_with fail;go_meet;exact⟨rfl,rfl⟩
        ·have u3:decide (mid<en)=false:=decide_eq_false hu;have u6:¬(mid:Int)<(en:Int):=by omega
         have u7:decide ((mid:Int)<(en:Int))=false:=decide_eq_false u6;go_wp2_with fail;go_meet;exact⟨rfl,rfl⟩
       case rest=>
        obtain⟨rfl,rfl⟩:=hcut;clear lY;obtain⟨y2,rfl⟩:∃y2:World,y2=wc:=⟨_,rfl⟩;go_wp2_with fail;go_end0
        exact⟨rfl,M1++M2,(HJ.out M1 M2 jw.out gJ.out dl.out dP.out).1,(HJ.out M1 M2 jw.out gJ.out dl.out dP.out).2,by simpa using eJ.out⟩
     ·have lY:Hid (¬(a<i∧i<mid)):=Qh h1;obtain⟨M1,ox⟩:∃M1,M1=L1++R1:=⟨_,rfl⟩;have jw:Hid (M1.Perm (L1++R1)):=Qh (by rw[ox]);have dl:Hid (M1.Pairwise (gH c tg)):=Qh (by rw[ox];exact gG.out h1);have hrw:=eJ.out;rw[←List.append_assoc L1,←ox]at hrw;clear eJ;have eJ:=Qh hrw;clear hrw ox;clear h1;go_upto_region 41 with fail;go_cut [199] from 192 to 199 (fun v wx=>v=.bool false∧wx=v0)
      case first=>
       by_cases hu:a<i
       ·have u2:¬i<mid:=by have:=lY.out;omega
        have u3:decide (a<i)=true:=decide_eq_true hu;have u4:decide (i<mid)=false:=decide_eq_false u2;have u5:(a:Int)<(i:Int):=by omega
        have u6:¬(i:Int)<(mid:Int):=by omega
        have u7:decide ((i:Int)<(mid:Int))=false:=decide_eq_false u6;go_wp2_with fail;go_meet;exact⟨rfl,rfl⟩
       ·have u3:decide (a<i)=false:=decide_eq_false hu;have u6:¬(a:Int)<(i:Int):=by omega
        have u7:decide ((a:Int)<(i:Int))=false:=decide_eq_false u6;go_wp2_with fail;go_meet;exact⟨rfl,rfl⟩
      case rest=>
       obtain⟨rfl,rfl⟩:=hcut;clear lY;obtain⟨y1,rfl⟩:∃y1:World,y1=wc:=⟨_,rfl⟩
       by_cases h2:mid<en∧en<e
       ·have u1:(mid:Int)<(en:Int):=by omega
        have u2:(en:Int)<(e:Int):=by omega
        have u3:decide (mid<en)=true:=decide_eq_true (by omega);have u4:decide (en<e)=true:=decide_eq_true (by omega);have mQ:=Qh (u9.out y1 M1 jw.out eJ.out h2);go_wp2_with fail;refine mQ.out.mono ?_;rintro e1 v2 ⟨rfl,M2,hp,hs,hr⟩;have gJ:=Qh hp;have dP:=Qh hs;clear eJ;have eJ:=Qh hr;clear hp hs;clear hr mQ u1 u2 u3 u4 h2;go_wp2_with fail;go_end0
        exact⟨rfl,M1++M2,(HJ.out M1 M2 jw.out gJ.out dl.out dP.out).1,(HJ.out M1 M2 jw.out gJ.out dl.out dP.out).2,by simpa using eJ.out⟩
       ·have lY:Hid (¬(mid<en∧en<e)):=Qh h2;obtain⟨M2,ju⟩:∃M2,M2=L2++R2:=⟨_,rfl⟩;have gJ:Hid (M2.Perm (L2++R2)):=Qh (by rw[ju]);have dP:Hid (M2.Pairwise (gH c tg)):=Qh (by rw[ju];exact Me.out h2);have hrw:=eJ.out;rw[←List.append_assoc L2,←ju,←List.append_assoc A]at hrw;clear eJ;have eJ:=Qh hrw;clear hrw ju;clear h2;go_upto_region 43 with fail;go_cut [213] from 206 to 213 (fun v wx=>v=.bool false∧wx=y1)
        case first=>
         by_cases hu:mid<en
         ·have u2:¬en<e:=by have:=lY.out;omega
          have u3:decide (mid<en)=true:=decide_eq_true hu;have u4:decide (en<e)=false:=decide_eq_false u2;have u5:(mid:Int)<(en:Int):=by omega
          have u6:¬(en:Int)<(e:Int):=by omega
          have u7:decide ((en:Int)<(e:Int))=false:=decide_eq_false u6;go_wp2_with fail;go_meet;exact⟨rfl,rfl⟩
         ·have u3:decide (mid<en)=false:=decide_eq_false hu;have u6:¬(mid:Int)<(en:Int):=by omega
          have u7:decide ((mid:Int)<(en:Int))=false:=decide_eq_false u6;go_wp2_with fail;go_meet;exact⟨rfl,rfl⟩
        case rest=>
         obtain⟨rfl,rfl⟩:=hcut;clear lY;obtain⟨y2,rfl⟩:∃y2:World,y2=wc:=⟨_,rfl⟩;go_wp2_with fail;go_end0
         exact⟨rfl,M1++M2,(HJ.out M1 M2 jw.out gJ.out dl.out dP.out).1,(HJ.out M1 M2 jw.out gJ.out dl.out dP.out).2,by simpa using eJ.out⟩
    ·have lY:Hid (¬(i<m∧m<en)):=Qh h0;have eJ:=Qh (gF.out h0);clear h0;go_upto_region 39 with fail;go_cut [185] from 178 to 185 (fun v wx=>v=.bool false∧wx=wr)
     case first=>
      by_cases hu:i<m
      ·have u2:¬m<en:=by have:=lY.out;omega
       have u3:decide (i<m)=true:=decide_eq_true hu;have u4:decide (m<en)=false:=decide_eq_false u2;have u5:(i:Int)<(m:Int):=by omega
       have u6:¬(m:Int)<(en:Int):=by omega
       have u7:decide ((m:Int)<(en:Int))=false:=decide_eq_false u6;go_wp2_with fail;go_meet;exact⟨rfl,rfl⟩
      ·have u3:decide (i<m)=false:=decide_eq_false hu;have u6:¬(i:Int)<(m:Int):=by omega
       have u7:decide ((i:Int)<(m:Int))=false:=decide_eq_false u6;go_wp2_with fail;go_meet;exact⟨rfl,rfl⟩
     case rest=>
      obtain⟨rfl,rfl⟩:=hcut;clear lY;obtain⟨y0,rfl⟩:∃y0:World,y0=wc:=⟨_,rfl⟩
      by_cases h1:a<i∧i<mid
      ·have u1:(a:Int)<(i:Int):=by omega
       have u2:(i:Int)<(mid:Int):=by omega
       have u3:decide (a<i)=true:=decide_eq_true (by omega);have u4:decide (i<mid)=true:=decide_eq_true (by omega);have mQ:=Qh (nY.out y0 eJ.out h1);go_wp2_with fail;refine mQ.out.mono ?_;rintro e1 v1 ⟨rfl,M1,hp,hs,hr⟩;have jw:=Qh hp;have dl:=Qh hs;clear eJ;have eJ:=Qh hr;clear hp hs;clear hr mQ u1 u2 u3 u4 h1
       by_cases h2:mid<en∧en<e
       ·have u1:(mid:Int)<(en:Int):=by omega
        have u2:(en:Int)<(e:Int):=by omega
        have u3:decide (mid<en)=true:=decide_eq_true (by omega);have u4:decide (en<e)=true:=decide_eq_true (by omega);have mQ:=Qh (u9.out v1 M1 jw.out eJ.out h2);go_wp2_with fail;refine mQ.out.mono ?_;rintro e1 v2 ⟨rfl,M2,hp,hs,hr⟩;have gJ:=Qh hp;have dP:=Qh hs;clear eJ;have eJ:=Qh hr;clear hp hs;clear hr mQ u1 u2 u3 u4 h2;go_wp2_with fail;go_end0
        exact⟨rfl,M1++M2,(HJ.out M1 M2 jw.out gJ.out dl.out dP.out).1,(HJ.out M1 M2 jw.out gJ.out dl.out dP.out).2,by simpa using eJ.out⟩
       ·have lY:Hid (¬(mid<en∧en<e)):=Qh h2;obtain⟨M2,ju⟩:∃M2,M2=L2++R2:=⟨_,rfl⟩;have gJ:Hid (M2.Perm (L2++R2)):=Qh (by rw[ju]);have dP:Hid (M2.Pairwise (gH c tg)):=Qh (by rw[ju];exact Me.out h2);have hrw:=eJ.out;rw[←List.append_assoc L2,←ju,←List.append_assoc A]at hrw;clear eJ;have eJ:=Qh hrw;clear hrw ju;clear h2;go_upto_region 43 with fail;go_cut [213] from 206 to 213 (fun v wx=>v=.bool false∧wx=v1)
        case first=>
         by_cases hu:mid<en
         ·have u2:¬en<e:=by have:=lY.out;omega
          have u3:decide (mid<en)=true:=decide_eq_true hu;have u4:decide (en<e)=false:=decide_eq_false u2;have u5:(mid:Int)<(en:Int):=by omega
          have u6:¬(en:Int)<(e:Int):=by omega
          have u7:decide ((en:Int)<(e:Int))=false:=decide_eq_false u6;go_wp2_with fail;go_meet;exact⟨rfl,rfl⟩
         ·have u3:decide (mid<en)=false:=decide_eq_false hu;have u6:¬(mid:Int)<(en:Int):=by omega
          have u7:decide ((mid:Int)<(en:Int))=false:=decide_eq_false u6;go_wp2_with fail;go_meet;exact⟨rfl,rfl⟩
        case rest=>
         obtain⟨rfl,rfl⟩:=hcut;clear lY;obtain⟨y2,rfl⟩:∃y2:World,y2=wc:=⟨_,rfl⟩;go_wp2_with fail;go_end0
         exact⟨rfl,M1++M2,(HJ.out M1 M2 jw.out gJ.out dl.out dP.out).1,(HJ.out M1 M2 jw.out gJ.out dl.out dP.out).2,by simpa using eJ.out⟩
      ·have lY:Hid (¬(a<i∧i<mid)):=Qh h1;obtain⟨M1,ox⟩:∃M1,M1=L1++R1:=⟨_,rfl⟩;have jw:Hid (M1.Perm (L1++R1)):=Qh (by rw[ox]);have dl:Hid (M1.Pairwise (gH c tg)):=Qh (by rw[ox];exact gG.out h1);have hrw:=eJ.out;rw[←List.append_assoc L1,←ox]at hrw;clear eJ;have eJ:=Qh hrw;clear hrw ox;clear h1;go_upto_region 41 with fail;go_cut [199] from 192 to 199 (fun v wx=>v=.bool false∧wx=y0)
       case first=>
        by_cases hu:a<i
        ·have u2:¬i<mid:=by have:=lY.out;omega
         have u3:decide (a<i)=true:=decide_eq_true hu;have u4:decide (i<mid)=false:=decide_eq_false u2;have u5:(a:Int)<(i:Int):=by omega
         have u6:¬(i:Int)<(mid:Int):=by omega
         have u7:decide ((i:Int)<(mid:Int))=false:=decide_eq_false u6;go_wp2_with fail;go_meet;exact⟨rfl,rfl⟩
        ·have u3:decide (a<i)=false:=decide_eq_false hu;have u6:¬(a:Int)<(i:Int):=by omega
         have u7:decide ((a:Int)<(i:Int))=false:=decide_eq_false u6;go_wp2_with fail;go_meet;exact⟨rfl,rfl⟩
       case rest=>
        obtain⟨rfl,rfl⟩:=hcut;clear lY;obtain⟨y1,rfl⟩:∃y1:World,y1=wc:=⟨_,rfl⟩
        by_cases h2:mid<en∧en<e
        ·have u1:(mid:Int)<(en:Int):=by omega
         have u2:(en:Int)<(e:Int):=by omega
         have u3:decide (mid<en)=true:=decide_eq_true (by omega);have u4:decide (en<e)=true:=decide_eq_true (by omega);have mQ:=Qh (u9.out y1 M1 jw.out eJ.out h2);go_wp2_with fail;refine mQ.out.mono ?_;rintro e1 v2 ⟨rfl,M2,hp,hs,hr⟩;have gJ:=Qh hp;have dP:=Qh hs;clear eJ;have eJ:=Qh hr;clear hp hs;clear hr mQ u1 u2 u3 u4 h2;go_wp2_with fail;go_end0
         exact⟨rfl,M1++M2,(HJ.out M1 M2 jw.out gJ.out dl.out dP.out).1,(HJ.out M1 M2 jw.out gJ.out dl.out dP.out).2,by simpa using eJ.out⟩
        ·have lY:Hid (¬(mid<en∧en<e)):=Qh h2;obtain⟨M2,ju⟩:∃M2,M2=L2++R2:=⟨_,rfl⟩;have gJ:Hid (M2.Perm (L2++R2)):=Qh (by rw[ju]);have dP:Hid (M2.Pairwise (gH c tg)):=Qh (by rw[ju];exact Me.out h2);have hrw:=eJ.out;rw[←List.append_assoc L2,←ju,←List.append_assoc A]at hrw;clear eJ;have eJ:=Qh hrw;clear hrw ju;clear h2;go_upto_region 43 with fail;go_cut [213] from 206 to 213 (fun v wx=>v=.bool false∧wx=y1)
         case first=>
          by_cases hu:mid<en
          ·have u2:¬en<e:=by have:=lY.out;omega
           have u3:decide (mid<en)=true:=decide_eq_true hu;have u4:decide (en<e)=false:=decide_eq_false u2;have u5:(mid:Int)<(en:Int):=by omega
           have u6:¬(en:Int)<(e:Int):=by omega
           have u7:decide ((en:Int)<(e:Int))=false:=decide_eq_false u6;go_wp2_with fail;go_meet;exact⟨rfl,rfl⟩
          ·have u3:decide (mid<en)=false:=decide_eq_false hu;have u6:¬(mid:Int)<(en:Int):=by omega
           have u7:decide ((mid:Int)<(en:Int))=false:=decide_eq_false u6;go_wp2_with fail;go_meet;exact⟨rfl,rfl⟩
         case rest=>
          obtain⟨rfl,rfl⟩:=hcut;clear lY;obtain⟨y2,rfl⟩:∃y2:World,y2=wc:=⟨_,rfl⟩;go_wp2_with fail;go_end0
          exact⟨rfl,M1++M2,(HJ.out M1 M2 jw.out gJ.out dl.out dP.out).1,(HJ.out M1 M2 jw.out gJ.out dl.out dP.out).2,by simpa using eJ.out⟩
theorem Jr(hC:A0 enc w0 b 96 S c)(mg:TP S c)(hn:n≤1000000):∀(N:Nat) (w:World) (A L R C:List α) (hS:∀z∈L++R,S z) (hL:L.Pairwise (gH c tg)) (hR:R.Pairwise (gH c tg)) (ht:∀z∈L,∀y∈R,tg z<tg y) (h:bB enc w0 w b n cap (A++(L++(R++C)))) (a m e:Nat) (ha:A.length=a) (hm:a+L.length=m) (he:m+R.length=e) (hl:a<m) (hr:m<e) (hN:e<a+N),
 Calls Tryz.prog 129 #[.slice (some ⟨b,0,none⟩) n cap,.int .i64 a,.int .i64 m,.int .i64 e,.func (.func 96) #[] #[]] w (gL c tg enc w0 b n cap A (L++R) C)
 | 0,_,_,_,_,_,_,_,_,_,_,a,m,e,_,_,_,_,_,hN=>by omega
 | N+1,w,A,L,R,C,hS,hL,hR,ht,h,a,m,e,ha,hm,he,hl,hr,hN=>by
  by_cases h1:a+1=m
  ·have iq:L.length=1:=by omega
   obtain⟨y,rfl⟩:=List.length_eq_one_iff.1 iq;exact OZ hC mg A R C y (by simpa using hS) hR (fun z hz=>ht y (by simp) z hz) h a m e ha h1 he hr hn
  ·by_cases h2:m+1=e
   ·have iq:R.length=1:=by omega
    obtain⟨x,rfl⟩:=List.length_eq_one_iff.1 iq;exact O2 hC mg A L C x hS hL (fun z hz=>ht z hz x (by simp)) h a m e ha hm h2 (by omega) hn
   ·exact Mc hC mg N (fun w A L R C hS hL hR ht h a m e ha hm he hl hr hN=>Jr hC mg hn N w A L R C hS hL hR ht h a m e ha hm he hl hr hN) A L R C hS hL hR ht h a m e ha hm he (by omega) (by omega) (by omega) hn
variable {α:Type}{enc:α→TF×Value}{w0 wr w:World}{b n cap:Nat}{M:List α}{S:α→Prop}{c:α→α→Int}{tg:α→Nat}
def rN(c:α→α→Int)(tg:α→Nat)(enc:α→TF×Value)(w0 wr:World)(b n cap:Nat)(M:List α)(a:Nat):Prop :=
 ∃D U M1,M=M1++U∧Full (gH c tg) 20 D M1∧D.length=a∧bB enc w0 wr b n cap (D++U)
def BR(c:α→α→Int)(tg:α→Nat)(enc:α→TF×Value)(w0 wr:World)(b n cap:Nat)(M:List α)(bs:Nat):Prop :=
 ∃D,pY (gH c tg) bs D M∧bB enc w0 wr b n cap D
def o8(c:α→α→Int)(tg:α→Nat)(enc:α→TF×Value)(w0 wr:World)(b n cap:Nat)(M:List α)(bs a:Nat):Prop :=
 ∃D1 D2 M1 M2,M=M1++M2∧Full (gH c tg) (2*bs) D1 M1∧pY (gH c tg) bs D2 M2∧D1.length=a∧bB enc w0 wr b n cap (D1++D2)
theorem rN.take{a:Nat}(h:rN c tg enc w0 wr b n cap M a)(hS:∀x∈M,S x)(hT:M.Pairwise (fun x y=>tg x<tg y))(ha:a+20≤n) :
 ∃A X C,bB enc w0 wr b n cap (A++X++C)∧A.length=a∧X.length=20∧(∀x∈X,S x)∧X.Pairwise (fun x y=>tg x<tg y)∧(∀w' X',X'.Perm X→X'.Pairwise (gH c tg)→bB enc w0 w' b n cap (A++X'++C)→rN c tg enc w0 w' b n cap M (a+20)):=by
 obtain⟨D,U,M1,h1,h2,h3,h4⟩:=h;have hl:=h4.len;simp at hl;have hU:U=U.take 20++U.drop 20:=(List.take_append_drop _ _).symm;have hM:M=M1++(U.take 20++U.drop 20):=by rw[←hU];exact h1
 rw[hM]at hS hT;refine⟨D,U.take 20,U.drop 20,by rw[List.append_assoc,←hU];exact h4,h3,by simp;omega,fun x hx=>hS x (List.mem_append.2 (.inr (List.mem_append.2 (.inl hx)))),(List.pairwise_append.1 (List.pairwise_append.1 hT).2.1).1,fun w' X' p s r=>?_⟩;refine⟨D++X',U.drop 20,M1++U.take 20,by rw[List.append_assoc];exact hM,h2.snoc (by rw[p.length_eq];simp;omega) p s,by simp[p.length_eq];omega,r⟩
theorem rN.rest{a:Nat}(h:rN c tg enc w0 wr b n cap M a)(hS:∀x∈M,S x)(hT:M.Pairwise (fun x y=>tg x<tg y))(ha:n≤a+20) :
 ∃A X,bB enc w0 wr b n cap (A++X++[])∧A.length=a∧a+X.length=n∧(∀x∈X,S x)∧X.Pairwise (fun x y=>tg x<tg y)∧(∀w' X',X'.Perm X→X'.Pairwise (gH c tg)→bB enc w0 w' b n cap (A++X'++[])→BR c tg enc w0 w' b n cap M 20):=by
 obtain⟨D,U,M1,h1,h2,h3,h4⟩:=h;have hl:=h4.len;simp at hl;subst h1;refine⟨D,U,by simpa using h4,h3,by omega,fun x hx=>hS x (by simp[hx]),(List.pairwise_append.1 hT).2.1,fun w' X' p s r=>?_⟩;exact⟨D++X',h2.OX (.last (by have:=p.length_eq;omega) p s),by simpa using r⟩
theorem BR.start{bs:Nat}(h:BR c tg enc w0 wr b n cap M bs):o8 c tg enc w0 wr b n cap M bs 0:=by
 obtain⟨D,h1,h2⟩:=h;exact⟨[],D,[],M,rfl,.nil,h1,rfl,h2⟩
theorem o8.take{bs a:Nat}(h:o8 c tg enc w0 wr b n cap M bs a)(hS:∀x∈M,S x)(hT:M.Pairwise (fun x y=>tg x<tg y))(hb:0<bs)(ha:a+2*bs≤n) :
 ∃A L R C,bB enc w0 wr b n cap (A++(L++(R++C)))∧A.length=a∧L.length=bs∧R.length=bs∧(∀x∈L++R,S x)∧L.Pairwise (gH c tg)∧R.Pairwise (gH c tg)∧(∀x∈L,∀y∈R,tg x<tg y)∧(∀w' X,X.Perm (L++R)→X.Pairwise (gH c tg)→bB enc w0 w' b n cap (A++(X++C))→o8 c tg enc w0 w' b n cap M bs (a+2*bs)):=by
 obtain⟨D1,D2,M1,M2,h1,h2,h3,h4,h5⟩:=h;have hl:=h5.len;simp at hl;obtain⟨x1,x2,D',y1,y2,M',e1,e2,l1,l2,p1,p2,s1,s2,hr⟩:=h3.two hb (by omega);subst e1 e2 h1
 refine⟨D1,x1,x2,D',h5,h4,l1,l2,fun x hx=>hS x ?_,s1,s2,fun x hx y hy=>?_,fun w' X p s r=>?_⟩
 ·rcases List.mem_append.1 hx with hx|hx
  ·have:=p1.mem_iff.1 hx;simp[this]
  ·have:=p2.mem_iff.1 hx;simp[this]
 ·have:=(List.pairwise_append.1 (List.pairwise_append.1 hT).2.1).2.2 x (p1.mem_iff.1 hx) y;exact this (List.mem_append.2 (.inl (p2.mem_iff.1 hy)))
 ·refine⟨D1++X,D',M1++(y1++y2),M',by simp,h2.snoc (by rw[p.length_eq];simp;omega) (p.trans (p1.append p2)) s,hr,by simp[p.length_eq];omega,by simpa using r⟩
theorem o8.rest{bs a:Nat}(h:o8 c tg enc w0 wr b n cap M bs a)(hS:∀x∈M,S x)(hT:M.Pairwise (fun x y=>tg x<tg y))(hb:0<bs)(h1n:n<a+2*bs)(h2n:a+bs<n) :
 ∃A L R,bB enc w0 wr b n cap (A++(L++(R++[])))∧A.length=a∧L.length=bs∧a+bs+R.length=n∧(∀x∈L++R,S x)∧L.Pairwise (gH c tg)∧R.Pairwise (gH c tg)∧(∀x∈L,∀y∈R,tg x<tg y)∧(∀w' X,X.Perm (L++R)→X.Pairwise (gH c tg)→bB enc w0 w' b n cap (A++(X++[]))→BR c tg enc w0 w' b n cap M (2*bs)):=by
 obtain⟨D1,D2,M1,M2,h1,h2,h3,h4,h5⟩:=h;have hl:=h5.len;simp at hl;obtain⟨x1,x2,y1,y2,e1,e2,l1,l2,p1,p2,s1,s2⟩:=h3.rest hb (by omega) (by omega);subst e1 e2 h1;simp at hl
 refine⟨D1,x1,x2,by simpa using h5,h4,l1,by omega,fun x hx=>hS x ?_,s1,s2,fun x hx y hy=>?_,fun w' X p s r=>?_⟩
 ·rcases List.mem_append.1 hx with hx|hx
  ·have:=p1.mem_iff.1 hx;simp[this]
  ·have:=p2.mem_iff.1 hx;simp[this]
 ·exact(List.pairwise_append.1 (List.pairwise_append.1 hT).2.1).2.2 x (p1.mem_iff.1 hx) y (p2.mem_iff.1 hy)
 ·exact⟨D1++X,h2.OX (.last (by have:=p.length_eq;simp at this;omega) (p.trans (p1.append p2)) s),by simpa using r⟩
theorem o8.none{bs a:Nat}(h:o8 c tg enc w0 wr b n cap M bs a)(h1n:n≤a+bs):BR c tg enc w0 wr b n cap M (2*bs):=by
 obtain⟨D1,D2,M1,M2,h1,h2,h3,h4,h5⟩:=h;have hl:=h5.len;simp at hl;subst h1;obtain⟨p,s⟩:=h3.one (by omega);exact⟨D1++D2,h2.OX (.last (by omega) p s),h5⟩
theorem BR.done{bs:Nat}(h:BR c tg enc w0 wr b n cap M bs)(hn:n≤bs):∃M',M'.Perm M∧M'.Pairwise (gH c tg)∧bB enc w0 wr b n cap ([]++M'++[]):=by
 obtain⟨D,h1,h2⟩:=h;obtain⟨p,s⟩:=h1.one (by have:=h2.len;omega);exact⟨D,p,s,by simpa using h2⟩
set_option maxHeartbeats 8000000 in
theorem Js(hC:A0 enc w0 b 96 S c)(mg:TP S c)(hS:∀x∈M,S x)(hT:M.Pairwise (fun x y=>tg x<tg y))(h:bB enc w0 w b n cap M)(hn:n≤100000) :
 Calls Tryz.prog 120 #[.slice (some ⟨b,0,none⟩) n cap,.int .i64 n,.func (.func 96) #[] #[]] w (vM c tg enc w0 b n cap [] M []):=by
 have tZ:=Qh (fun(w:World) (A X C:List α) (hS:∀x∈X,S x) (hT:X.Pairwise (fun x y=>tg x<tg y)) (h:bB enc w0 w b n cap (A++X++C)) (a e:Nat) (ha:A.length=a) (he:a+X.length=e)=>LI (w:=w) hC mg A X C hS hT h a e ha he (by omega))
 have vY:=Qh (fun(w:World) (A L R C:List α) (hS:∀z∈L++R,S z) (hL:L.Pairwise (gH c tg)) (hR:R.Pairwise (gH c tg)) (ht:∀z∈L,∀y∈R,tg z<tg y) (h:bB enc w0 w b n cap (A++(L++(R++C)))) (a m e:Nat) (ha:A.length=a) (hm:a+L.length=m) (he:m+R.length=e) (hl:a<m) (hr:m<e)=>Jr (b:=b) (n:=n) (cap:=cap) hC mg (by omega) (e+1) w A L R C hS hL hR ht h a m e ha hm he hl hr (by omega));have P4:=Qh (fun wr a (h:rN c tg enc w0 wr b n cap M a) ha=>h.take hS hT ha);have P5:=Qh (fun wr a (h:rN c tg enc w0 wr b n cap M a) ha=>h.rest hS hT ha)
 have P6:=Qh (fun wr bs a (h:o8 c tg enc w0 wr b n cap M bs a) hb ha=>h.take hS hT hb ha);have P7:=Qh (fun wr bs a (h:o8 c tg enc w0 wr b n cap M bs a) hb h1 h2=>h.rest hS hT hb h1 h2);have gV:Hid (rN c tg enc w0 w b n cap M 0):=Qh ⟨[],M,[],rfl,.nil,rfl,h⟩;clear hS hT h hC mg;go_enter Tryz.func120,Tryz.ntmps120;go_wp2_with fail;go_loopw [7,8] (fun s t wr=>∃a e:Nat,s=.int .i64 a∧t=.int .i64 e∧a+20≤e∧e≤a+20∧a≤n∧Hid (rN c tg enc w0 wr b n cap M a)) (fun s _ _=>n-(intOf s).toNat)
 case atStart=>exact⟨0,20,by go_num,by go_num,by omega,by omega,by omega,gV⟩
 case round=>
  obtain⟨a,e,rfl,rfl,hae,hea,han,HR⟩:=hrel
  by_cases hlt:e≤n
  ·obtain⟨A,X,C,q1,q2,q3,q4,q5,q6⟩:=P4.out wr a HR.out (by omega);have cL:=Qh (tZ.out wr A X C q4 q5 q1 a e q2 (by omega));have HN:=Qh q6;clear q1 q2 q3 q4 q5 q6;go_wp2_with fail;refine cL.out.mono ?_;rintro e1 w1 ⟨rfl,M',hp,hs,hr⟩;obtain⟨a2,NK⟩:∃a2,a2=a+20:=⟨_,rfl⟩;have HF:=Qh (HN.out w1 M' hp hs hr);rw[←NK]at HF;have hee:a2=e:=by omega
   subst hee;clear hp hs hr cL HN NK;go_wp2_with fail;go_roundw
   case rel=>exact⟨a2,a2+20,rfl,by go_num,by omega,by omega,by omega,HF⟩
   case measure=>simp[intOf];omega
  ·obtain⟨A,X,q1,q2,q3,q4,q5,q6⟩:=P5.out wr a HR.out (by omega);have cL:=Qh (tZ.out wr A X [] q4 q5 q1 a n q2 q3);have HN:=Qh q6;clear q1 q2 q3 q4 q5 q6;go_wp2_with fail;refine cL.out.mono ?_;rintro e1 w1 ⟨rfl,M',hp,hs,hr⟩;have HF:=Qh (HN.out w1 M' hp hs hr);clear hp hs hr cL HN HR;go_wp2_with fail;obtain⟨wo,rfl⟩:∃wo:World,wo=wr:=⟨_,rfl⟩;go_loopw [6,7,8,9] (fun s x y z wr=>∃bs:Nat,s=.int .i64 bs∧20≤bs∧bs≤2*n+20∧Hid (BR c tg enc w0 wr b n cap M bs)) (fun s _ _ _ _=>n-(intOf s).toNat)
   case atStart=>exact⟨20,by go_num,by omega,by omega,HF⟩
   case round=>
    obtain⟨bs,rfl,aD,a_,HR⟩:=hrel
    by_cases Ur:bs<n
    ·have dP:=Qh HR.out.start;clear HR HF;obtain⟨bb,KX⟩:∃bb:Nat,bb=2*bs:=⟨_,rfl⟩;have r0:2*(bs:Int)=(bb:Int):=by omega
     have g1:bb≤2*bs:=by omega
     have g2:2*bs≤bb:=by omega
     clear KX;go_wp2_with fail;obtain⟨wq,rfl⟩:∃wq:World,wq=wr:=⟨_,rfl⟩;go_loopw [7,8] (fun s t wr=>∃a e:Nat,s=.int .i64 a∧t=.int .i64 e∧a+bb≤e∧e≤a+bb∧a≤n∧Hid (o8 c tg enc w0 wr b n cap M bs a)) (fun s _ _=>n-(intOf s).toNat)
     case atStart=>exact⟨0,bb,by go_num,by first|rfl|go_num,by omega,by omega,by omega,dP⟩
     case round=>
      obtain⟨a,e,rfl,rfl,aar,aas,aat,HQ⟩:=hrel;obtain⟨m,hm⟩:∃m:Nat,m=a+bs:=⟨_,rfl⟩;have r1:(a:Int)+(bs:Int)=(m:Int):=by omega
      by_cases AU:e≤n
      ·obtain⟨A,L,R,C,q1,q2,q3,q4,q5,q6,q7,q8,q9⟩:=P6.out wr bs a HQ.out (by omega) (by omega);have cL:=Qh (vY.out wr A L R C q5 q6 q7 q8 q1 a m e q2 (by omega) (by omega) (by omega) (by omega));have HN:=Qh q9;clear q1 q2 q3 q4 q5 q6 q7 q8 q9 hm;go_wp2_with fail;refine cL.out.mono ?_;rintro e2 w2 ⟨rfl,XN,hp,hs,hr⟩;have HG:=Qh (HN.out w2 XN hp hs hr);obtain⟨a2,NK⟩:∃a2,a2=a+2*bs:=⟨_,rfl⟩;rw[←NK]at HG;have hee:a2=e:=by omega
       subst hee;clear hp hs hr cL HN NK;go_wp2_with fail;go_roundw
       case rel=>exact⟨a2,a2+bb,rfl,by go_num,by omega,by omega,by omega,HG⟩
       case measure=>simp[intOf];omega
      ·by_cases hmn:m<n
       ·obtain⟨A,L,R,q1,q2,q3,q4,q5,q6,q7,q8,q9⟩:=P7.out wr bs a HQ.out (by omega) (by omega) (by omega);have cL:=Qh (vY.out wr A L R [] q5 q6 q7 q8 q1 a m n q2 (by omega) (by omega) (by omega) (by omega));have HN:=Qh q9;clear q1 q2 q3 q4 q5 q6 q7 q8 q9 hm;go_wp2_with fail;refine cL.out.mono ?_;rintro e2 w2 ⟨rfl,XN,hp,hs,hr⟩;have HG:=Qh (HN.out w2 XN hp hs hr);clear hp hs hr cL HN;go_wp2_with fail;go_roundw
        case rel=>exact⟨2*bs,by go_num,by omega,by omega,HG⟩
        case measure=>simp[intOf];omega
       ·have HG:=Qh (HQ.out.none (by omega));clear hm;go_wp2_with fail;go_roundw
        case rel=>exact⟨2*bs,by go_num,by omega,by omega,HG⟩
        case measure=>simp[intOf];omega
    ·have HG:=Qh (HR.out.done (by omega));go_wp2_with fail;go_end0
     exact⟨rfl,HG.out⟩
theorem Mf(N:Nat)(hN:N≤100000):Fl N:=by
 intro α enc w0 w b n cap S c tg M hC mg hS hT h hn;have H67:=Qh (Js (w:=w) (cap:=cap) hC mg hS hT h (by omega));clear h hS hT mg hC;go_enter Tryz.func95,Tryz.ntmps95;go_wp2_with fail;refine H67.out.mono ?_;rintro e w1 ⟨rfl,hp⟩;go_wp2_with fail;go_end0
 exact⟨rfl,hp⟩
end Go.Proofs.YtfbggmbmgohiiaaGreat.tm
