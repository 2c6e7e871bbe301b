/- TeM,TeN,TeO,TcX,TdA,TeP. No condition beyond theirs. -/
import Derived.Test.YtfbggmbmgohiiaaGreatR47
import Derived.Test.YtfbggmbmgohiiaaGreatR46
set_option linter.unusedSimpArgs false
set_option linter.unusedVariables false
set_option maxHeartbeats 4000000
set_option maxRecDepth 100000
namespace Go.Proofs.YtfbggmbmgohiiaaGreat
namespace tb
open Go.RowKit mem rec tm names
def qL{N:Nat}(B y:Nat)(A:List (bW N))(W:World):Prop:=∃lv T,cY W B y lv T∧T.map gj=A
structure GU{N:Nat}(A:List (bW N)):Prop where
 sm:Fb A
 nd:∀a∈A,ap a.ref≤100000000∧ap a.own≤100000000∧∀x∈a.rows,ap x.1≤100000000∧ap x.2≤100000000
noncomputable def jr{N:Nat}(A:List (bW N))(r:Tm (N+1)):Nat:=A.findIdx (fun a=>!decide (cM a.ref r<0))
noncomputable def lu{N:Nat}(A:List (bW N))(r o:Tm (N+1))(hs:Bool):List (bW N):=if eO A r o=0 then A.take (jr A r)++[⟨r,o,hs,[]⟩]++A.drop (jr A r) else A
section
variable {N:Nat}{B y:Nat}{A:List (bW N)}{W W':World}{r k v o:Tm (N+1)}{ur uk uv uo:Value}
theorem qL.below(h:qL B y A W)(hb:Below W.heap.size W W'):qL B y A W':=by
 obtain⟨lv,T,h1,h2⟩:=h;exact⟨lv,T,h1.below hb,h2⟩
theorem qL.prog(h:qL B y A W)(ht:TT eF B W W'):qL B y A W':=by
 obtain⟨lv,T,h1,h2⟩:=h;exact⟨lv,T,h1.prog ht,h2⟩
theorem qL.blt(h:qL B y A W):B≤W.heap.size:=by
 obtain⟨lv,T,h1,h2⟩:=h;exact h1.blt
theorem Gu(t:g6 N):(gj t).rows=bh t.rows:=rfl
theorem qL.open(h:qL B y A W)(hs:GU A)(r:Tm (N+1)):∃lv T,cY W B y lv T∧T.map gj=A∧T.length≤1000∧(∀t∈T,ap t.ref≤100000000) ∧
 ((d_ A r=none∧jG T r=none∧kH A r=none)∨∃i t,d_ A r=some i∧jG T r=some i∧T[i]?=some t∧A[i]?=some (gj t)∧kH A r=some (gj t)∧t.rows.length≤1000000∧∀r∈t.rows,ap r.k≤100000000):=by
 obtain⟨lv,T,h1,rfl⟩:=h;refine⟨lv,T,h1,rfl,by have:=hs.sm.len;rwa[List.length_map]at this,fun t ht=>(hs.nd _ (List.mem_map.2 ⟨t,ht,rfl⟩)).1,?_⟩;cases hr:jG T r with
 | none =>
  have e:d_ (T.map gj) r=none:=by rw[Bu,hr]
  exact .inl ⟨e,rfl,by unfold kH;rw[e];rfl⟩
 | some i =>
  have e:d_ (T.map gj) r=some i:=by rw[Bu,hr]
  obtain⟨a,ha,_⟩:=rK e;rw[List.getElem?_map]at ha;cases ht:T[i]? with
  | none=>rw[ht]at ha;cases ha
  | some t =>
   have ea:(T.map gj)[i]?=some (gj t):=by rw[List.getElem?_map,ht];rfl
   have hm:gj t∈T.map gj:=List.mem_of_getElem? ea;refine .inr ⟨i,t,e,rfl,ht,ea,by unfold kH;rw[e];exact ea,?_,fun r hr=>((hs.nd _ hm).2.2 (r.k,r.v) (List.mem_map.2 ⟨r,hr,rfl⟩)).1⟩;have:=hs.sm.rows _ hm;rw[Gu]at this;unfold bh at this;rwa[List.length_map]at this
theorem DZ{i:Nat}{a:bW N}{f:bW N→List (Tm (N+1)×Tm (N+1))}(h1:d_ A r=some i)(h2:A[i]?=some a):ue A r f=A.set i { a with rows:=f a }:=by
 unfold ue;rw[h1];dsimp only;rw[h2]
theorem BB.out{lv:Value}{T:List (g6 N)}{i:Nat}{t:g6 N}{R:List (Tm (N+1)×Tm (N+1))}(h:BB B y lv T i t R W W'):qL B y ((T.map gj).set i { gj t with rows:=R }) W'∧TT gC B W W':=by
 obtain⟨v',fB,e,h1,h2⟩:=h;refine⟨⟨lv,_,h1,?_⟩,h2⟩;refine List.ext_getElem? fun j=>?_;rw[List.getElem?_map,List.getElem?_set,List.getElem?_set,List.length_map,List.getElem?_map]
 split
 ·split
  ·rw[←e];rfl
  ·rfl
 ·rfl
theorem TJ(h:qL B y A W)(hs:GU A)(hI:ah W B N ur r.items)(hJ:ah W B N uk k.items)(hV:ah W B N uv v.items)(hnk:ap k≤100000000)(qN:ap v≤100000000) :
 Calls Tryz.prog 25 #[.pointer (some ⟨y,0,none⟩),aj r.f ur,aj k.f uk,aj v.f uv] W fun e w'=>e=.returned (.int .i64 (jm A r k v))∧qL B y (iU A r k v) w'∧TT gC B W w':=by
 obtain⟨lv,T,h1,h2,h3,_,hc⟩:=h.open hs r;have a:Jk W B r k v ur uk uv:=⟨hI,hJ,hV,hnk,qN⟩;have old:∀{n:Int},jm A r k v=n→iU A r k v=A→∀{e:Ending} {w':World},e=.returned (.int .i64 n)∧Qb W w'→e=.returned (.int .i64 (jm A r k v))∧qL B y (iU A r k v) w'∧TT gC B W w':=fun e1 e2 e w' ⟨q,hb⟩=>by
  rw[e1,e2];exact⟨q,h.below hb,TT.new hb⟩
 cases hk:aC k
 ·have e1:jm A r k v=2:=by unfold jm;rw[hk];cases aC v <;> rfl
  have e2:iU A r k v=A:=by unfold iU;rw[hk];cases aC v <;> rfl
  exact(PJ h1 h3 a hk).mono (fun e w' q=>old e1 e2 q)
 ·cases hv:aC v
  ·have e1:jm A r k v=2:=by unfold jm;rw[hv];rfl
   have e2:iU A r k v=A:=by unfold iU;rw[hv];rfl
   exact(PK h1 h3 a hk hv).mono (fun e w' q=>old e1 e2 q)
  ·rcases hc with⟨c1,c2,c3⟩|⟨i,t,c1,c2,c3,c4,c5,c6,c7⟩
   ·have e1:jm A r k v=4:=by unfold jm;rw[hv,hk,if_pos rfl,if_pos rfl,c1]
    have e2:iU A r k v=A:=by unfold iU ue;rw[hv,hk,c1];rfl
    exact(PL h1 h3 a hk hv c2).mono (fun e w' q=>old e1 e2 q)
   ·have e1:jm A r k v=0:=by unfold jm;rw[hv,hk,if_pos rfl,if_pos rfl,c1]
    have e2:iU A r k v=A.set i { gj t with rows:=lH (bM t.hs) (bh t.rows) k v }:=by
     unfold iU;rw[hv,hk,DZ c1 c4];rfl
    refine(PM h1 h3 a hk hv c2 c3 c6 c7).mono ?_;rintro e w' ⟨rfl,hp⟩;rw[e1,e2,←h2];exact⟨rfl,hp.out⟩
theorem TK(h:qL B y A W)(hs:GU A)(hI:ah W B N ur r.items)(hJ:ah W B N uk k.items)(hnk:ap k≤100000000) :
 Calls Tryz.prog 58 #[.pointer (some ⟨y,0,none⟩),aj r.f ur,aj k.f uk] W fun e w'=>∃u,e=.returned (.tuple #[aj (eB A r k).1.f u,.bool (eB A r k).2.1,.int .i64 (eB A r k).2.2])∧Below W.heap.size W w'∧ah w' B N u (eB A r k).1.items:=by
 obtain⟨lv,T,h1,h2,h3,_,hc⟩:=h.open hs r;have a:sS W B r k ur uk:=⟨hI,hJ,hnk⟩;have hB:=h.blt;have zero:∀{n:Int},eB A r k=(zT,false,n)→∀{e:Ending} {w':World},(e=.returned (.tuple #[aj (zT:Tm (N+1)).f aK,.bool false,.int .i64 n])∧Qb W w')→∃u,e=.returned (.tuple #[aj (eB A r k).1.f u,.bool (eB A r k).2.1,.int .i64 (eB A r k).2.2])∧Qb W w'∧ah w' B N u (eB A r k).1.items:=fun e1 e w' ⟨q,hb⟩=>by
  rw[e1];exact⟨aK,q,hb,cW w' B⟩
 cases hk:aC k
 ·have e1:eB A r k=(zT,false,2):=by unfold eB;rw[hk,if_neg (by decide)]
  exact(DJ h1 h3 a hk).mono (fun e w' q=>zero e1 q)
 ·rcases hc with⟨c1,c2,c3⟩|⟨i,t,c1,c2,c3,c4,c5,c6,c7⟩
  ·have e1:eB A r k=(zT,false,4):=by unfold eB;rw[hk,if_pos rfl,c3]
   exact(DK h1 h3 a hk c2).mono (fun e w' q=>zero e1 q)
  ·cases hh:gp (bM t.hs) (bh t.rows) k
   ·have e0:pZ (bM (gj t).hs) (gj t).rows k=none:=by
     show pZ (bM t.hs) (bh t.rows) k=none;unfold pZ;rw[hh,if_neg (by decide)]
    have e1:eB A r k=(zT,false,0):=by unfold eB;rw[hk,if_pos rfl,c5];dsimp only;rw[e0]
    exact(DL h1 h3 a hk c2 c3 c6 c7 hh).mono (fun e w' q=>zero e1 q)
   ·obtain⟨hp,_⟩:=kQ hh;have tV:cK (bM t.hs) (bh t.rows) k<t.rows.length:=by
     unfold bh at hp;rw[List.length_map]at hp;exact hp
    have e0:pZ (bM (gj t).hs) (gj t).rows k=some (t.rows[cK (bM t.hs) (bh t.rows) k]).v:=by
     show pZ (bM t.hs) (bh t.rows) k=_;unfold pZ;rw[hh,if_pos rfl];have e9:(bh t.rows)[cK (bM t.hs) (bh t.rows) k]?=some ((t.rows[cK (bM t.hs) (bh t.rows) k]).k,(t.rows[cK (bM t.hs) (bh t.rows) k]).v):=by
      have e8:∀j,(bh t.rows)[j]?=(t.rows[j]?).map (fun r:qI N=>(r.k,r.v)):=fun j=>by unfold bh;rw[List.getElem?_map]
      rw[e8,List.getElem?_eq_getElem tV];rfl
     rw[e9];rfl
    have e1:eB A r k=((t.rows[cK (bM t.hs) (bh t.rows) k]).v,true,0):=by unfold eB;rw[hk,if_pos rfl,c5];dsimp only;rw[e0]
    rw[e1];refine(DM h1 h3 a hk c2 c3 c6 c7 hh (List.getElem?_eq_getElem tV)).mono ?_;rintro e w' ⟨rfl,hb⟩;exact⟨_,rfl,hb,((h1.tabs t (List.mem_of_getElem? c3)).gU _ (List.getElem_mem tV)).2.below hb hB⟩
theorem TL(h:qL B y A W)(hs:GU A)(hI:ah W B N ur r.items)(hJ:ah W B N uk k.items)(hnk:ap k≤100000000) :
 Calls Tryz.prog 23 #[.pointer (some ⟨y,0,none⟩),aj r.f ur,aj k.f uk] W fun e w'=>e=.returned (.tuple #[.bool (iV A r k).1,.int .i64 (iV A r k).2])∧qL B y (jF A r k) w'∧TT gC B W w':=by
 obtain⟨lv,T,h1,h2,h3,_,hc⟩:=h.open hs r;have a:sS W B r k ur uk:=⟨hI,hJ,hnk⟩;have hB:=h.blt;have aw:∀W',Qb W W'→sS W' B r k ur uk:=fun W' hW=>⟨hI.below hW hB,hJ.below hW hB,hnk⟩;have old:∀{n:Int},iV A r k=(false,n)→jF A r k=A→∀{e:Ending} {w':World},e=.returned (.tuple #[.bool false,.int .i64 n])∧Qb W w'→e=.returned (.tuple #[.bool (iV A r k).1,.int .i64 (iV A r k).2])∧qL B y (jF A r k) w'∧TT gC B W w':=fun e1 e2 e w' ⟨q,hb⟩=>by
  rw[e1,e2];exact⟨q,h.below hb,TT.new hb⟩
 cases hk:aC k
 ·have e1:iV A r k=(false,2):=by unfold iV;rw[hk,if_neg (by decide)]
  have e2:jF A r k=A:=by unfold jF;rw[hk,if_neg (by decide)]
  exact(DN a (fun W' hW=>DJ (h1.below hW) h3 (aw W' hW) hk)).mono (fun e w' q=>old e1 e2 q)
 ·rcases hc with⟨c1,c2,c3⟩|⟨i,t,c1,c2,c3,c4,c5,c6,c7⟩
  ·have e1:iV A r k=(false,4):=by unfold iV;rw[hk,if_pos rfl,c3]
   have e2:jF A r k=A:=by unfold jF ue;rw[hk,if_pos rfl,c1]
   exact(DN a (fun W' hW=>DK (h1.below hW) h3 (aw W' hW) hk c2)).mono (fun e w' q=>old e1 e2 q)
  ·have e0:iV A r k=(gp (bM t.hs) (bh t.rows) k,0):=by unfold iV;rw[hk,if_pos rfl,c5];rfl
   have e3:jF A r k=A.set i { gj t with rows:=kG (bM t.hs) (bh t.rows) k }:=by
    unfold jF;rw[hk,if_pos rfl,DZ c1 c4];rfl
   cases hh:gp (bM t.hs) (bh t.rows) k
   ·have e2:jF A r k=A:=by
     rw[e3];have:kG (bM t.hs) (bh t.rows) k=(gj t).rows:=by unfold kG;rw[hh,if_neg (by decide)];rfl
     rw[this];refine List.ext_getElem? fun j=>?_;rw[List.getElem?_set]
     split
     ·rename_i e;subst e;split
      ·exact c4.symm
      ·rename_i hn;rw[List.getElem?_eq_none (by omega)]
     ·rfl
    exact(DN a (fun W' hW=>DL (h1.below hW) h3 (aw W' hW) hk c2 c3 c6 c7 hh)).mono (fun e w' q=>old (by rw[e0,hh]) e2 q)
   ·refine(P0 h1 h3 a hk c2 c3 c6 c7 hh).mono ?_;rintro e w' ⟨rfl,hp⟩;rw[e0,e3,hh,←h2];exact⟨rfl,hp.out⟩
theorem Jx(T:List (g6 N))(r:Tm (N+1)):jr (T.map gj) r=uj T r:=by
 unfold jr uj;rw[nG];rfl
theorem Qy(h:qL B y A W)(hs:GU A)(hI:ah W B N ur r.items)(hJ:ah W B N uo o.items)(iZ:ap r≤100000000)(hno:ap o≤100000000)(hf:Bool) :
 Calls Tryz.prog 20 #[.pointer (some ⟨y,0,none⟩),aj r.f ur,aj o.f uo,.bool hf] W fun e w'=>e=.returned (.int .i64 (eO A r o))∧qL B y (lu A r o hf) w'∧TT gC B W w':=by
 obtain⟨lv,T,h1,h2,h3,h4,hc⟩:=h.open hs r;have a:Gs W B r o ur uo:=⟨hI,hJ,iZ,hno⟩;have old:eO A r o≠0→∀{n:Int},eO A r o=n→∀{e:Ending} {w':World},e=.returned (.int .i64 n)∧Qb W w'→e=.returned (.int .i64 (eO A r o))∧qL B y (lu A r o hf) w'∧TT gC B W w':=fun hne n hn e w' ⟨he,hb⟩=>by
  have e2:lu A r o hf=A:=by unfold lu;rw[if_neg hne]
  rw[e2,hn];exact⟨he,h.below hb,TT.new hb⟩
 have bad:(decide (r.f.kind=3)&&decide (o.f.kind=6)&&aC r&&aC o)=false→eO A r o=2:=fun hq=>by unfold eO;rw[hq,if_neg (by decide)]
 have good:(decide (r.f.kind=3)&&decide (o.f.kind=6)&&aC r&&aC o)=true→eO A r o=(match d_ A r with|some _=>8|none=>if 64≤A.length then 5 else 0):=fun hq=>by unfold eO;rw[hq,if_pos rfl];cases d_ A r <;> rfl
 cases hk:(decide (r.f.kind=3)&&aC r)
 ·have hm:=bad (by
   cases q1:decide (r.f.kind=3) <;> cases q2:aC r <;> simp[q1,q2]at hk ⊢)
  exact(Mg h1 h3 a hf hk).mono (fun e w' hp=>old (by omega) hm hp)
 ·cases hv:(decide (o.f.kind=6)&&aC o)
  ·have hm:=bad (by
    cases q1:decide (o.f.kind=6) <;> cases q2:aC o <;> simp[q1,q2]at hv ⊢)
   exact(Mh h1 h3 a hf hk hv).mono (fun e w' hp=>old (by omega) hm hp)
  ·have hg:=good (by
    cases q1:decide (r.f.kind=3) <;> cases q2:aC r <;> cases q3:decide (o.f.kind=6) <;> cases q4:aC o <;> simp[q1,q2,q3,q4]at hk hv ⊢)
   rcases hc with⟨c1,c2,c3⟩|⟨i,t,c1,c2,c3,c4,c5,c6,c7⟩
   ·rw[c1]at hg;dsimp only at hg;have hle:A.length=T.length:=by rw[←h2,List.length_map]
    by_cases hfull:64≤A.length
    ·rw[if_pos hfull]at hg;exact(Mj h1 h3 a hf hk hv c2 (by omega)).mono (fun e w' hp=>old (by omega) hg hp)
    ·rw[if_neg hfull]at hg;have e2:lu A r o hf=A.take (jr A r)++[⟨r,o,hf,[]⟩]++A.drop (jr A r):=by unfold lu;rw[if_pos hg]
     rw[hg,e2];refine(Mk h1 h3 a hf hk hv c2 (by omega) h4).mono ?_;rintro e w' ⟨rfl,CL,h5,h6⟩;refine⟨rfl,⟨CL,_,h5,?_⟩,h6⟩;rw[←h2,Jx];simp only[List.nil_append,List.map_append,List.map_take,List.map_drop,List.map_cons,List.map_nil];rfl
   ·rw[c1]at hg;dsimp only at hg;exact(Mi h1 h3 a hf hk hv c2).mono (fun e w' hp=>old (by omega) hg hp)
end
noncomputable def v_{K V:Type}(c:K→K→Int)(R:List (K×V))(k:K):Nat:=if gp c R k then cK c R k+1 else cK c R k
section
variable {N:Nat}
noncomputable def cq(A:List (bW N))(r:Tm (N+1)):Option (Tm (N+1)×Tm (N+1))×Int:=match kH A r with
 | none=>(none,4)
 | some a=>(a.rows[0]?,0)
noncomputable def cV(A:List (bW N))(r k:Tm (N+1)):Option (Tm (N+1)×Tm (N+1))×Int:=if aC k then(match kH A r with
 | none=>(none,4)
 | some a=>(a.rows[v_ (bM a.hs) a.rows k]?,0)) else(none,2)
def gD(x:Option (Tm (N+1)×Tm (N+1))):Tm (N+1):=x.elim zT (·.1)
def gM(x:Option (Tm (N+1)×Tm (N+1))):Tm (N+1):=x.elim zT (·.2)
def Mp(x:Option (Tm (N+1)×Tm (N+1))×Int)(W:World)(e:Ending)(w':World):Prop:=∃F1 F2 u1 u2,e=.returned (.tuple #[aj (gD x.1).f u1,aj (gM x.1).f u2,.bool x.1.isSome,.int .i64 x.2])∧Below W.heap.size W w'∧bZ W w' F1 N u1 (gD x.1).items∧bZ W w' F2 N u2 (gM x.1).items
variable {B z:Nat}{A:List (bW N)}{W W':World}{r k v:Tm (N+1)}{ur uk:Value}{B2:Nat}
theorem mS{n:Int}{e:Ending}{w':World}(h:e=.returned (.tuple #[.agg #[.int .i64 0,.int .i64 0,.int .i64 0,.string ⟨#[]⟩,.string ⟨#[]⟩,.int .i64 0,.slice none 0 0,.string ⟨#[]⟩,.int .i64 0],.agg #[.int .i64 0,.int .i64 0,.int .i64 0,.string ⟨#[]⟩,.string ⟨#[]⟩,.int .i64 0,.slice none 0 0,.string ⟨#[]⟩,.int .i64 0],.bool false,.int .i64 n])∧Below W.heap.size W w'):Mp (N:=N) (none,n) W e w':=by
 obtain⟨rfl,hb⟩:=h;exact⟨_,_,aK,aK,rfl,hb,bZ.nil W w',bZ.nil W w'⟩
theorem yt{k v:Tm (N+1)}{e:Ending}{w':World}(h:zm k v W e w'):Mp (some (k,v),0) W e w':=h
theorem Mr(h:n9 B z A W)(hs:Fb A)(gZ:B2≤W.heap.size)(hI:ah W B2 N ur r.items) :
 Calls Tryz.prog 39 #[.pointer (some ⟨z,0,none⟩),aj r.f ur] W (Mp (cq A r) W):=by
 obtain⟨F,vl,tabs,h1,h2,h3,hl,hc⟩:=h.open hs r
 rcases hc with⟨c1,c2,c3⟩|⟨i,hi,c1,c2,c3,c4,c5,c6⟩
 ·have e1:cq A r=(none,4):=by unfold cq;rw[c3]
  rw[e1];exact(Ja h1 hl gZ hI (er:=4) (by decide) (.inl ⟨c2,rfl,rfl⟩)).mono (fun e w' q=>mS q)
 ·have e1:cq A r=(((tabs[i]).rows[0]?).map (fun r=>(r.k,r.v)),0):=by
   unfold cq;rw[c4];show((g4 tabs[i])[0]?,(0:Int))=_;unfold g4;rw[List.getElem?_map]
  rw[e1]
  by_cases h0:0<(tabs[i]).rows.length
  ·rw[List.getElem?_eq_getElem h0];exact(Bq h1 hl gZ hI hi c2 h0 (c5.nd _ (List.getElem_mem h0)).1 (c5.nd _ (List.getElem_mem h0)).2).mono (fun e w' q=>yt q)
  ·rw[List.getElem?_eq_none (by omega)];exact(Jb h1 hl gZ hI hi c2 (List.eq_nil_of_length_eq_zero (by show(tabs[i]).rows.length=0;omega))).mono (fun e w' q=>mS q)
theorem QA(h:n9 B z A W)(hs:Fb A)(gZ:B2≤W.heap.size)(hI:ah W B2 N ur r.items)(hJ:ah W B2 N uk k.items)(hnk:ap k≤100000000) :
 Calls Tryz.prog 40 #[.pointer (some ⟨z,0,none⟩),aj r.f ur,aj k.f uk] W (Mp (cV A r k) W):=by
 obtain⟨F,vl,tabs,h1,h2,h3,hl,hc⟩:=h.open hs r
 cases hk:aC k
 ·have e1:cV A r k=(none,2):=by unfold cV;rw[hk,if_neg (by decide)]
  rw[e1];exact(E_ h1 hl gZ hI hJ hnk (er:=2) (by decide) (.inl ⟨hk,rfl,rfl⟩)).mono (fun e w' q=>mS q)
 ·rcases hc with⟨c1,c2,c3⟩|⟨i,hi,c1,c2,c3,c4,c5,c6⟩
  ·have e1:cV A r k=(none,4):=by unfold cV;rw[hk,if_pos rfl,c3]
   rw[e1];exact(E_ h1 hl gZ hI hJ hnk (er:=4) (by decide) (.inr ⟨hk,.inl ⟨c2,rfl,rfl⟩⟩)).mono (fun e w' q=>mS q)
  ·have en:v_ (bM (fE tabs[i]).hs) (fE tabs[i]).rows k=fS tabs[i] k:=by
    show v_ (bM (tabs[i]).hs) (g4 tabs[i]) k=_;unfold v_ fS;rw[←c5.has,←c5.pos]
   have e1:cV A r k=(((tabs[i]).rows[fS tabs[i] k]?).map (fun r=>(r.k,r.v)),0):=by
    unfold cV;rw[hk,if_pos rfl,c4];dsimp only;rw[en];show((g4 tabs[i])[fS tabs[i] k]?,(0:Int))=_;unfold g4;rw[List.getElem?_map]
   rw[e1]
   by_cases h0:fS tabs[i] k<(tabs[i]).rows.length
   ·rw[List.getElem?_eq_getElem h0];exact(LZ h1 hl gZ hI hJ hnk hk hi c2 (c5.find c6 k) h0 (c5.nd _ (List.getElem_mem h0)).1 (c5.nd _ (List.getElem_mem h0)).2).mono (fun e w' q=>yt q)
   ·rw[List.getElem?_eq_none (by omega)];exact(LY h1 hl gZ hI hJ hnk hk hi c2 (c5.find c6 k) (by show(tabs[i]).rows.length≤fS tabs[i] k;omega)).mono (fun e w' q=>mS q)
theorem n9.good(h:n9 B z A W):∀a∈A,jx (bM a.hs) a.rows∧∀x∈a.rows,aC x.1=true∧ap x.1≤100000000∧ap x.2≤100000000:=fun a ha=>by
 obtain⟨F,vl,tabs,h1,rfl,h3⟩:=h;obtain⟨t,ht,rfl⟩:=List.mem_map.1 ha;refine⟨(h3 t ht).sd,fun x hx=>?_⟩;obtain⟨r,hr,rfl⟩:=List.mem_map.1 hx;exact⟨(h3 t ht).vd r hr,((h3 t ht).nd r hr).1,((h3 t ht).nd r hr).2⟩
def XY(hs:Bool)(R:List (Tm (N+1)×Tm (N+1))):List (bW N):=[⟨A8 1,A9 1,hs,R⟩]
variable {hs:Bool}{R:List (Tm (N+1)×Tm (N+1))}
def tL(w0 W:World)(q:Nat)(u:Value)(l:List (Tm N)):Prop:=∃F,bZ w0 W F N u l∧¬F q∧¬F (q+1)
theorem tL.keep{w0:World}{q:Nat}{u:Value}{l:List (Tm N)}(h:tL w0 W q u l)(hs:∀g,g<W.heap.size→g≠q→g≠q+1→dA W g=some 24→W'.heap[g]?=W.heap[g]?)(hz:W.heap.size≤W'.heap.size):tL w0 W' q u l:=by
 obtain⟨F,h1,h2,h3⟩:=h;have hF:∀g,F g→W'.heap[g]?=W.heap[g]?:=fun g hg=>by
  refine hs g (h1.inr g hg).2 (fun e=>h2 (e▸hg)) (fun e=>h3 (e▸hg)) ?_;obtain⟨cur,n,e,_⟩:=h1.typed g hg;exact br e
 exact⟨F,⟨h1.items.mono hF (fun _ hg=>hg),h1.typed.same hF,fun g hg=>⟨(h1.inr g hg).1,Nat.lt_of_lt_of_le (h1.inr g hg).2 hz⟩⟩,h2,h3⟩
theorem tL.below{w0:World}{q:Nat}{u:Value}{l:List (Tm N)}(h:tL w0 W q u l)(hb:Below W.heap.size W W'):tL w0 W' q u l:=h.keep (fun g hg _ _ _=>hb.block g hg) hb.size
theorem tL.at_{w0:World}{q:Nat}{u:Value}{l:List (Tm N)}(h:tL w0 W q u l):ah W W.heap.size N u l:=by
 obtain⟨F,h1,_⟩:=h;exact bl.pR (fun g hg=>(h1.inr g hg).2) h1.items
theorem tL.new{w0 w1:World}{q:Nat}{F:Nat→Prop}{u:Value}{l:List (Tm N)}(h:bZ w1 W F N u l)(h0:w0.heap.size≤w1.heap.size)(hq:q+1<w1.heap.size∨W.heap.size≤q):tL w0 W q u l :=
 ⟨F,⟨h.items,h.typed,fun g hg=>⟨Nat.le_trans h0 (h.inr g hg).1,(h.inr g hg).2⟩⟩,fun hg=>by have:=h.inr q hg;omega,fun hg=>by have:=h.inr (q+1) hg;omega⟩
def boxes(W:World)(q:Nat)(k v:Tm (N+1))(u1 u2:Value):World:=(W.setRow q (aE k.f u1).toArray).setRow (q+1) (aE v.f u2).toArray
structure GV(w0 W:World)(q:Nat)(R:List (Tm (N+1)×Tm (N+1)))(j:Nat)(vo:Value)(rows:List (qI N))(u1 u2:Value):Prop where
 hb:Below w0.heap.size w0 W
 hq:w0.heap.size≤q
 own:aA vR 55 18 W (q+2) vo rows
 abs:bh rows=R.take j
 it:∀r∈rows,tL w0 W q r.uk r.k.items∧tL w0 W q r.uv r.v.items
 b1:W.heap[q]?=some (.cells (aE (gD R[j]?).f u1).toArray 24)
 b2:W.heap[q+1]?=some (.cells (aE (gM R[j]?).f u2).toArray 24)
 i1:tL w0 W q u1 (gD R[j]?).items
 i2:tL w0 W q u2 (gM R[j]?).items
theorem GV.below{w0:World}{q j:Nat}{vo u1 u2:Value}{rows:List (qI N)}(h:GV w0 W q R j vo rows u1 u2)(hb:Below W.heap.size W W'):GV w0 W' q R j vo rows u1 u2 :=
 ⟨h.hb.trans (hb.mono h.hb.size),h.hq,h.own.below hb,h.abs,fun r hr=>⟨(h.it r hr).1.below hb,(h.it r hr).2.below hb⟩,(hb.block _ (Array.getElem?_eq_some_iff.1 h.b1).1).trans h.b1,(hb.block _ (Array.getElem?_eq_some_iff.1 h.b2).1).trans h.b2,h.i1.below hb,h.i2.below hb⟩
theorem tM(W:World)(q:Nat)(k v:Tm (N+1))(u1 u2:Value):(boxes W q k v u1 u2).heap.size=W.heap.size∧∀g,g≠q→g≠q+1→(boxes W q k v u1 u2).heap[g]?=W.heap[g]? :=
 ⟨by unfold boxes;simp,fun g h1 h2=>by
  unfold boxes
  rw[setRow_other _ _ _ _ h2,setRow_other _ _ _ _ h1]⟩
theorem BX{W:World}{q:Nat}{k v:Tm (N+1)}{u1 u2:Value}{c1 c2:Array Value}(h1:W.heap[q]?=some (.cells c1 24))(h2:W.heap[q+1]?=some (.cells c2 24)):(boxes W q k v u1 u2).heap[q]?=some (.cells (aE k.f u1).toArray 24)∧(boxes W q k v u1 u2).heap[q+1]?=some (.cells (aE v.f u2).toArray 24):=by
 unfold boxes;refine⟨?_,setRow_heap _ _ _ _ _ _ ((setRow_other _ _ _ _ (by omega)).trans h2)⟩;rw[setRow_other _ _ _ _ (by omega)];exact setRow_heap _ _ _ _ _ _ h1
theorem GV.enc{w0:World}{q j:Nat}{vo u1 u2:Value}{rows:List (qI N)}(h:GV w0 W q R j vo rows u1 u2):bD vR 18 rows:=fun r hr=>⟨rfl,fun u hu=>by
 obtain⟨h1,h2⟩:=h.it r hr
 unfold vR at hu
 rcases List.mem_append.1 hu with hu|hu
 ·exact aH (cP h1.at_) u hu
 ·exact aH (cP h2.at_) u hu⟩
theorem tN{W:World}{q B:Nat}{k v:Tm (N+1)}{u1 u2:Value}(hq:B≤q)(hB:B≤W.heap.size):Below B W (boxes W q k v u1 u2) :=
 ((aB W q (aE k.f u1).toArray).below (fun g e=>by omega) hB).trans ((aB _ (q+1) (aE v.f u2).toArray).below (fun g e=>by omega) (by simp;exact hB))
theorem GV.start{w1 w2:World}{F1 F2:Nat→Prop}{u1 u2:Value}(hb:Below w1.heap.size w1 w2)(h1:bZ w1 w2 F1 N u1 (gD R[0]?).items)(h2:bZ w1 w2 F2 N u2 (gM R[0]?).items){c1 c2:Array Value} :
 GV w1 (boxes ((w2.alloc (.cells c1 24)).alloc (.cells c2 24)) w2.heap.size (gD R[0]?) (gM R[0]?) u1 u2) w2.heap.size R 0 (.slice none 0 0) [] u1 u2:=by
 obtain⟨hw,z1,z2⟩:=bI w2 (.cells c1 24) (.cells c2 24);have hsz:((w2.alloc (.cells c1 24)).alloc (.cells c2 24)).heap.size=w2.heap.size+2:=by rw[World.size_alloc,World.size_alloc]
 generalize(w2.alloc (.cells c1 24)).alloc (.cells c2 24)=w3 at*;obtain⟨t1,t2⟩:=tM w3 w2.heap.size (gD R[0]?) (gM R[0]?) u1 u2;obtain⟨t3,t4⟩:=BX (k:=gD R[0]?) (v:=gM R[0]?) (u1:=u1) (u2:=u2) z1 z2;have TM:=hb.size;have k2:∀{u:Value} {l:List (Tm N)} {F:Nat→Prop},bZ w1 w2 F N u l→tL w1 (boxes w3 w2.heap.size (gD R[0]?) (gM R[0]?) u1 u2) w2.heap.size u l:=fun hn=>by
  have h3:tL w1 w3 w2.heap.size _ _:=(tL.new (w0:=w1) hn (Nat.le_refl _) (.inr (Nat.le_refl _))).below hw;exact h3.keep (fun g hg a b _=>t2 g a b) (by omega)
 exact⟨(hb.trans (hw.mono hb.size)).trans (tN TM (by omega)),TM,aA.nil _ _ _,rfl,fun r hr=>(nomatch hr),t3,t4,k2 h1,k2 h2⟩
structure XZ(w0 W:World)(q:Nat)(R:List (Tm (N+1)×Tm (N+1)))(j:Nat)(vo:Value)(rows:List (qI N))(u1 u2:Value):Prop where
 hb:Below w0.heap.size w0 W
 hq:w0.heap.size≤q
 own:aA vR 55 18 W (q+2) vo rows
 abs:bh rows=R.take (j+1)
 it:∀r∈rows,tL w0 W q r.uk r.k.items∧tL w0 W q r.uv r.v.items
 b1:W.heap[q]?=some (.cells (aE (gD R[j]?).f u1).toArray 24)
 b2:W.heap[q+1]?=some (.cells (aE (gM R[j]?).f u2).toArray 24)
 i1:tL w0 W q u1 (gD R[j]?).items
theorem GV.app{w0 W0 W2:World}{q j:Nat}{vo Kw u1 u2:Value}{rows:List (qI N)}{k v:Tm (N+1)}(h:GV w0 W0 q R j vo rows u1 u2)(hx:R[j]?=some (k,v))(hb:Below W0.heap.size W0 W)(hA:dz vR 55 18 W (q+2) vo rows [⟨k,v,u1,u2⟩] Kw W2) :
 XZ w0 W2 q R j Kw (rows++[⟨k,v,u1,u2⟩]) u1 u2:=by
 have h:=h.below hb;have Di:=(Array.getElem?_eq_some_iff.1 h.b1).1;have jO:=(Array.getElem?_eq_some_iff.1 h.b2).1;have hkeep:∀g,g<W.heap.size→dA W g=some 24→W2.heap[g]?=W.heap[g]?:=fun g hg ht=>hA.other hg (fun e=>by
  rw[dW h.own e]at ht
  exact absurd (Option.some.inj ht) (by decide))
 have rF:∀g,vo.ownBlock=some g→q+2≤g:=fun g hg=>(h.own.lt hg).1;have hz:W.heap.size≤W2.heap.size:=hA.grown.size;have ki:∀{u:Value} {l:List (Tm N)},tL w0 W q u l→tL w0 W2 q u l:=fun hi=>hi.keep (fun g hg _ _ ht=>hkeep g hg ht) hz
 refine⟨hA.bL h.hb h.hb.size (fun g hg=>by have:=rF g hg;have:=h.hq;omega),h.hq,hA.own,?_,fun r hr=>?_,(hkeep q Di (br h.b1)).trans h.b1,(hkeep (q+1) jO (br h.b2)).trans h.b2,ki h.i1⟩
 ·unfold bh;rw[List.map_append];have:=h.abs;unfold bh at this;rw[this,List.take_add_one,hx];rfl
 ·rcases List.mem_append.1 hr with hr|hr
  ·exact⟨ki (h.it r hr).1,ki (h.it r hr).2⟩
  ·obtain rfl:=List.mem_singleton.1 hr;have e1:=h.i1;have e2:=h.i2;rw[hx]at e1 e2;exact⟨ki e1,ki e2⟩
theorem XZ.step{w0 W2 W3:World}{F1 F2:Nat→Prop}{q j:Nat}{vo u1 u2 x1 x2:Value}{rows:List (qI N)}(h:XZ w0 W2 q R j vo rows u1 u2)(hb:Below W2.heap.size W2 W3)(h1:bZ W2 W3 F1 N x1 (gD R[j+1]?).items)(h2:bZ W2 W3 F2 N x2 (gM R[j+1]?).items) :
 GV w0 (boxes W3 q (gD R[j+1]?) (gM R[j+1]?) x1 x2) q R (j+1) vo rows x1 x2:=by
 have Di:=(Array.getElem?_eq_some_iff.1 h.b1).1;have jO:=(Array.getElem?_eq_some_iff.1 h.b2).1;obtain⟨t1,t2⟩:=tM W3 q (gD R[j+1]?) (gM R[j+1]?) x1 x2;obtain⟨t3,t4⟩:=BX (k:=gD R[j+1]?) (v:=gM R[j+1]?) (u1:=x1) (u2:=x2) ((hb.block _ Di).trans h.b1) ((hb.block _ jO).trans h.b2);have hs:=hb.size;have ki:∀{u:Value} {l:List (Tm N)},tL w0 W2 q u l→tL w0 (boxes W3 q (gD R[j+1]?) (gM R[j+1]?) x1 x2) q u l:=fun hi=>(hi.below hb).keep (fun g _ a b _=>t2 g a b) (by omega)
 have kn:∀{u:Value} {l:List (Tm N)} {F:Nat→Prop},bZ W2 W3 F N u l→tL w0 (boxes W3 q (gD R[j+1]?) (gM R[j+1]?) x1 x2) q u l:=fun hn =>
  (tL.new (w0:=w0) hn h.hb.size (.inl jO)).keep (fun g _ a b _=>t2 g a b) (by omega)
 exact⟨(h.hb.trans (hb.mono h.hb.size)).trans (tN h.hq (by have:=h.hb.size;omega)),h.hq,(h.own.below hb).same (fun g hg=>t2 g (by have:=(h.own.lt hg).1;omega) (by have:=(h.own.lt hg).1;omega)),h.abs,fun r hr=>⟨ki (h.it r hr).1,ki (h.it r hr).2⟩,t3,t4,kn h1,kn h2⟩
def WkP(R:List (Tm (N+1)×Tm (N+1)))(w:World)(e:Ending)(w':World):Prop:=∃v rows,e=.returned (.tuple #[v,.bool true])∧Below w.heap.size w w'∧bh rows=R∧bq vR 18 w' w'.heap.size v rows∧∀r∈rows,ah w' w'.heap.size N r.uk r.k.items∧ah w' w'.heap.size N r.uv r.v.items
theorem GV.out{w0:World}{q:Nat}{vo u1 u2:Value}{rows:List (qI N)}{j:Nat}(h:GV w0 W q R j vo rows u1 u2)(hj:R.length≤j){w:World}(hb:Below w.heap.size w w0):WkP R w (.returned (.tuple #[vo,.bool true])) W :=
 ⟨vo,rows,rfl,hb.trans (h.hb.mono hb.size),by rw[h.abs,List.take_of_length_le hj],h.own.row h.enc,fun r hr=>⟨(h.it r hr).1.at_,(h.it r hr).2.at_⟩⟩
end
section
variable {N:Nat}{w W W':World}{B z:Nat}{hs:Bool}{R:List (Tm (N+1)×Tm (N+1))}
end
end tb
namespace tmt
open Go.RowKit mem names tm
def TN(w:World)(g:Nat):Prop:=∃c f,w.heap[g]?=some (.cells c 24 f)
def cC(Z:Nat)(w:World)(B:Nat)(n:Nat)(v:Value)(l:List (Tm n)):Prop:=bl w (fun g=>g<B∧(g<Z∨TN w g)) n v l
theorem cC.A{Z:Nat}{w:World}{B n:Nat}{v:Value}{l:List (Tm n)}(h:cC Z w B n v l):ah w B n v l:=bl.pR (fun g hg=>hg.1) h
theorem cC.of{w:World}{B n:Nat}{v:Value}{l:List (Tm n)}(h:ah w B n v l):cC B w B n v l:=bl.mono (fun _ _=>rfl) (fun g hg=>⟨hg,.inl hg⟩) h.KF
theorem cC.shape{Z:Nat}{w:World}{B n:Nat}{v:Value}{l:List (Tm n)}(h:cC Z w B n v l):∃p c,v=.slice p l.length c∧l.length≤c∧c≤maxLen:=h.A.shape
theorem cC.keep{Z:Nat}{w w':World}{B n:Nat}{v:Value}{l:List (Tm n)}(h:cC Z w B n v l)(hs:∀g,g<B→(g<Z∨TN w g)→w'.heap[g]?=w.heap[g]?):cC Z w' B n v l :=
 bl.mono (w:=w) (fun g hg=>hs g hg.1 hg.2) (fun g hg=>⟨hg.1,hg.2.elim .inl (fun⟨c,f,e⟩=>.inr ⟨c,f,(hs g hg.1 hg.2).trans e⟩)⟩) h
theorem cC.same{Z:Nat}{w w':World}{B n:Nat}{v:Value}{l:List (Tm n)}(h:cC Z w B n v l)(hs:∀g,g<B→w'.heap[g]?=w.heap[g]?):cC Z w' B n v l:=h.keep (fun g hg _=>hs g hg)
theorem cC.below{Z:Nat}{w w':World}{B B':Nat}{n:Nat}{v:Value}{l:List (Tm n)}(h:cC Z w B n v l)(hb:Below B' w w')(hB:B≤B'):cC Z w' B n v l:=h.same fun g hg=>hb.block g (by omega)
theorem cC.more{Z:Nat}{w:World}{B B':Nat}{n:Nat}{v:Value}{l:List (Tm n)}(h:cC Z w B n v l)(hB:B≤B'):cC Z w B' n v l:=bl.mono (fun _ _=>rfl) (fun g hg=>⟨by omega,hg.2⟩) h
theorem cC.jH{Z:Nat}{w:World}{B n c:Nat}{p:Option Addr}(hc:c≤maxLen):cC Z w B n (.slice p 0 c) ([]:List (Tm n)):=bl.jH hc
theorem cC.at_{Z:Nat}{w:World}{B n:Nat}{v:Value}{l:List (Tm (n+1))}(h:cC Z w B (n+1) v l)(hne:l≠[]):∃g o c,v=.slice (some ⟨g,o,none⟩) l.length c∧l.length≤c∧c≤maxLen∧g<B ∧
 ∀j,(h:j<l.length)→∃u,Cells w g (o+j*9) (l[j]).f u∧cC Z w B n u (l[j]).items:=by
 obtain⟨p,c,e,h1,h2,h3⟩:=h;obtain⟨g,o,rfl,hg,hc⟩:=h3 hne;exact⟨g,o,c,e,h1,h2,hg.1,hc⟩
variable {n:Nat}{w w':World}{B Z:Nat}
theorem cC.rows{l:List (Tm (n+1))}{g o c:Nat}(h:cC Z w B (n+1) (.slice (some ⟨g,o,none⟩) l.length c) l):∃rs:List (TF×Value),rs.length=l.length∧(∀j,(h1:j<rs.length)→(h2:j<l.length)→rs[j].1=l[j].f∧cC Z w B n rs[j].2 l[j].items) ∧
 (∀j u,(cA rs)[j]?=some u→w.cell? ((⟨g,o,none⟩:Addr).add j)=some u)∧∀u∈cA rs,u.oneCell'=true:=by
 obtain⟨p,c',e,h1,h2,h3⟩:=h;simp only[Value.slice.injEq,true_and]at e;obtain⟨rfl,rfl⟩:=e;have key:∀k,k≤l.length→∃rs:List (TF×Value),rs.length=k∧∀j,(h1:j<rs.length)→(h2:j<l.length)→rs[j].1=l[j].f∧cC Z w B n rs[j].2 l[j].items∧Cells w g (o+j*9) rs[j].1 rs[j].2:=by
  intro k
  induction k with
  | zero=>intro _;exact⟨[],rfl,fun j h=>by simp at h⟩
  | succ k ih =>
   intro hk;obtain⟨rs,hl,hr⟩:=ih (by omega);obtain⟨g',o',e,hg,hc⟩:=h3 (by intro e;subst e;simp at hk);simp only[Option.some.injEq,Addr.mk.injEq,and_true]at e;obtain⟨rfl,rfl⟩:=e;obtain⟨u,C6,AK⟩:=hc k (by omega);refine⟨rs++[((l[k]'(by omega)).f,u)],by simp[hl],fun j h1 h2=>?_⟩
   by_cases hj:j<rs.length
   ·rw[List.getElem_append_left hj];exact hr j hj h2
   ·have:j=k:=by simp at h1;omega
    subst this;rw[List.getElem_append_right (by omega)];simp only[hl,Nat.sub_self,List.getElem_cons_zero]
    first|exact⟨rfl,AK,C6⟩|exact⟨trivial,AK,C6⟩
 obtain⟨rs,hl,hr⟩:=key l.length (Nat.le_refl _)
 refine⟨rs,hl,fun j h1 h2=>⟨(hr j h1 h2).1,(hr j h1 h2).2.1⟩,fun j u hj=>?_,fun u hu=>?_⟩
 ·rw[Addr.add_lit];have hjl:j<(cA rs).length:=(List.getElem?_eq_some_iff.1 hj).1;rw[iI]at hjl;have hq:j/9<rs.length:=by omega
  have:=(hr (j/9) hq (by omega)).2.2.all (j%9) (Nat.mod_lt _ (by omega));rw[←pE rs (j/9) hq (j%9) (Nat.mod_lt _ (by omega))]at this;rw[show j/9*9+j%9=j by omega,show o+j/9*9+j%9=o+j by omega]at this;rw[this,hj]
 ·unfold cA at hu;rw[List.mem_flatMap]at hu;obtain⟨r,mj,uz⟩:=hu;obtain⟨j,hj,rfl⟩:=List.getElem_of_mem mj;obtain⟨_,hi,_⟩:=hr j hj (by omega);obtain⟨q,c2,e,_⟩:=hi.shape;rw[e]at uz;exact qT _ _ _ _ u uz
def nV{n:Nat}(Z:Nat)(wr:World)(B base:Nat)(v:Value)(rs:List (TF×Value))(O:List (Tm (n+1))):Prop :=
 wr.ownsRow base 24 9 v O.length (cA rs)∧rs.length=O.length∧∀j,(h1:j<rs.length)→(h2:j<O.length)→rs[j].1=O[j].f∧cC Z wr B n rs[j].2 O[j].items
theorem nV.nil(wr:World)(B base:Nat):nV (n:=n) Z wr B base (.slice none 0 0) [] []:=⟨World.ownsRow_nil _ _ _ _,rfl,fun j h=>by simp at h⟩
theorem nV.items{wr:World}{B base:Nat}{v:Value}{rs:List (TF×Value)}{O:List (Tm (n+1))}(h:nV Z wr B base v rs O)(hB:B≤wr.heap.size):cC Z wr wr.heap.size (n+1) v O:=by
 obtain⟨h1,h2,h3⟩:=h
 rcases h1.2 with⟨rfl,h0⟩|⟨g,cap,cur,rfl,mC,hg,hc,hm,hs,ht⟩
 ·have:O=[]:=List.eq_nil_of_length_eq_zero h0;subst this;exact cC.jH (by unfold maxLen;omega)
 ·refine⟨_,_,rfl,hc,hm,fun _=>⟨g,0,rfl,⟨(Qg hg),.inr ⟨_,_,hg⟩⟩,fun j hj=>?_⟩⟩;have hj':j<rs.length:=by omega
  have:=pF h1 (by omega) j hj';refine⟨rs[j].2,?_,(h3 j hj' hj).2.more hB⟩;rw[Nat.zero_add,←(h3 j hj' hj).1];exact this
theorem nV.below{wr w':World}{B base:Nat}{v:Value}{rs:List (TF×Value)}{O:List (Tm (n+1))}(h:nV Z wr B base v rs O)(hb:Below wr.heap.size wr w')(hB:B≤wr.heap.size):nV Z w' B base v rs O:=by
 obtain⟨h1,h2,h3⟩:=h;refine⟨oA h1 (fun k hk=>hb.block k ?_),h2,fun j a b=>⟨(h3 j a b).1,(h3 j a b).2.below hb hB⟩⟩
 rcases h1.2 with⟨rfl,h0⟩|⟨g,cap,cur,rfl,mC,hg,_⟩
 ·simp[Value.ownBlock]at hk
 ·simp[Value.ownBlock]at hk;subst hk;exact(Qg hg)
theorem nV.push{wr w':World}{B base:Nat}{v v':Value}{rs rs':List (TF×Value)}{O O':List (Tm (n+1))}(h:nV Z wr B base v rs O)(hl:rs'.length=O'.length)(h':∀j,(h1:j<rs'.length)→(h2:j<O'.length)→rs'[j].1=O'[j].f∧cC Z wr B n rs'[j].2 O'[j].items)
 (hown:w'.ownsRow base 24 9 v' (O.length+O'.length) (cA rs++cA rs'))(hg:wr.grownBy w' v.ownBlock)(hv:∀k,v.ownBlock=some k→B≤k)(hB:B≤wr.heap.size):nV Z w' B base v' (rs++rs') (O++O'):=by
 obtain⟨h1,h2,h3⟩:=h;have hs:∀g,g<B→w'.heap[g]?=wr.heap[g]?:=fun g hg'=>hg.block g (by omega) (fun e=>by have:=hv g e.symm;omega);refine⟨by rw[List.length_append,gI];exact hown,by simp[h2,hl],fun j a b=>?_⟩
 by_cases hj:j<rs.length
 ·rw[List.getElem_append_left hj,List.getElem_append_left (by omega)];exact⟨(h3 j hj (by omega)).1,(h3 j hj (by omega)).2.same hs⟩
 ·rw[List.getElem_append_right (by omega),List.getElem_append_right (by omega)];have e:j-rs.length=j-O.length:=by omega
  have:=h' (j-O.length) (by simp at a b;omega) (by simp at a b;omega);simp only[e];exact⟨this.1,this.2.same hs⟩
theorem nV.shape{wr:World}{B base:Nat}{v:Value}{rs:List (TF×Value)}{O:List (Tm (n+1))}(h:nV Z wr B base v rs O):∃p c,v=.slice p O.length c:=by
 rcases h.1.2 with⟨rfl,h0⟩|⟨g,cap,cur,rfl,_⟩
 ·exact⟨_,_,by rw[h0]⟩
 ·exact⟨_,_,rfl⟩
def Jy{n:Nat}(Z:Nat)(l:List (Tm (n+1)))(w:World)(e:Ending)(w':World):Prop:=∃p c,e=.returned (.slice p l.length c)∧cC Z w' w'.heap.size (n+1) (.slice p l.length c) l∧Below w.heap.size w w'
def Ms{n:Nat}(Z:Nat)(l:List (Tm (n+1)))(w W:World)(e:Ending)(w':World):Prop:=∃p c,e=.returned (.slice p l.length c)∧cC Z w' w'.heap.size (n+1) (.slice p l.length c) l∧Below W.heap.size W w'∧Below w.heap.size w w'
theorem Jy.on{n:Nat}{l:List (Tm (n+1))}{w W w':World}{e:Ending}(hb:Below w.heap.size w W)(h:Jy Z l W e w'):Ms Z l w W e w':=by
 obtain⟨p,c,h1,h2,h3⟩:=h;exact⟨p,c,h1,h2,h3,hb.trans (h3.mono hb.size)⟩
theorem cC.Lf{n:Nat}{w:World}{B g o c:Nat}{l:List (Tm (n+1))}(h:cC Z w B (n+1) (.slice (some ⟨g,o,none⟩) l.length c) l)(i:Nat)(hi:i<l.length):∃t x q m d,l[i]?=some t∧t.f=x∧Cells w g (o+i*9) x (.slice q m d)∧cC Z w B n (.slice q m d) t.items:=by
 obtain⟨p,c',e,h1,h2,h3⟩:=h;simp only[Value.slice.injEq,true_and]at e;obtain⟨rfl,rfl⟩:=e;obtain⟨g',o',e,hg,hc⟩:=h3 (by intro e;subst e;simp at hi);simp only[Option.some.injEq,Addr.mk.injEq,and_true]at e;obtain⟨rfl,rfl⟩:=e;obtain⟨u,C6,AK⟩:=hc i hi;obtain⟨q,d,rfl,_⟩:=cC.shape (Z:=Z) (w:=w) (B:=B) AK;exact⟨l[i],l[i].f,q,_,d,List.getElem?_eq_getElem hi,rfl,C6,AK⟩
end tmt
namespace tb
open Go.RowKit mem rec tm names
structure Ky{N:Nat}(w:World)(z:Nat)(A:List (bW N))(W:World):Prop where
 st:n9 w.heap.size z A W
 tt:TT eF w.heap.size w W
section
variable {N:Nat}{w W W':World}{z:Nat}{A A':List (bW N)}
theorem Ky.below(h:Ky w z A W)(hb:Below W.heap.size W W'):Ky w z A W':=⟨h.st.below hb,h.tt.bJ hb⟩
theorem Ky.base(h:Ky w z A W):Below w.heap.size w W:=h.tt.below (Nat.le_refl _)
theorem Ky.size(h:Ky w z A W):w.heap.size≤W.heap.size:=h.base.size
theorem TQ(hb:Below w.heap.size w W):Calls Tryz.prog 16 #[] W fun e w'=>∃z,e=.returned (.pointer (some ⟨z,0,none⟩))∧Ky (N:=N) w z [] w':=by
 refine(M8 (N:=N) W w.heap.size hb.size).mono ?_;rintro e w' ⟨rfl,h1,h2⟩;exact⟨_,rfl,⟨_,aK,[],h1,rfl,fun t ht=>(nomatch ht)⟩,(TT.new hb).bJ h2⟩
variable {hs:Bool}{l:List (Tm (N+1))}{R:List (Tm (N+1)×Tm (N+1))}{U:List (Tm (N+1))}
end
structure jy{N:Nat}(w:World)(z y:Nat)(A1 A2:List (bW N))(W:World):Prop where
 st:n9 w.heap.size z A1 W
 rf:qL w.heap.size y A2 W
 hb:Below w.heap.size w W
section
variable {N:Nat}{w W W':World}{z y:Nat}{A1 A2:List (bW N)}{hs:Bool}{R:List (Tm (N+1)×Tm (N+1))}{k v:Tm (N+1)}{uk uv:Value}
theorem jy.below(h:jy w z y A1 A2 W)(hb:Below W.heap.size W W'):jy w z y A1 A2 W':=⟨h.st.below hb,h.rf.below hb,h.hb.trans (hb.mono h.hb.size)⟩
theorem jy.size(h:jy w z y A1 A2 W):w.heap.size≤W.heap.size:=h.hb.size
theorem jy.start(h:Ky (N:=N) w z [] W):jy (N:=N) w z W.heap.size [] [] (W.alloc (.cells #[.slice none 0 0] 39)):=by
 have hb:=aG (Below.refl W.heap.size W) (.cells #[.slice none 0 0] 39) (Nat.le_refl _);refine⟨h.st.below hb,⟨.slice none 0 0,[],⟨aF W _,aA.nil _ _ _,fun t ht=>(nomatch ht),h.size⟩,rfl⟩,h.base.trans (hb.mono h.size)⟩
theorem jy.rows(h:jy w z y A1 (XY hs R) W):∃g o c vr rows,W.cell? ⟨y,0,none⟩=some (.slice (some ⟨g,o,none⟩) 1 c)∧W.cell? ⟨g,o+19,none⟩=some vr∧bh rows=R∧bq vR 18 W W.heap.size vr rows∧∀r∈rows,ah W W.heap.size N r.uk r.k.items∧ah W W.heap.size N r.uv r.v.items:=by
 obtain⟨lv,T,h1,h2⟩:=h.rf;have hT:∃t,T=[t]∧gj t=⟨A8 1,A9 1,hs,R⟩:=by
  cases T with
  | nil=>cases h2
  | cons t T' =>
   cases T' with
   | nil=>exact⟨t,rfl,(List.cons.inj h2).1⟩
   | cons t2 T2=>cases (List.cons.inj h2).2
 obtain⟨t,rfl,h3⟩:=hT;have ht:=h1.tabs t (List.mem_singleton.2 rfl);have hrow:=h1.l.row h1.enc;obtain⟨p,c,e,_,_⟩:=h1.l.shape;rw[e]at hrow;have ho:=h1.obj;rw[e]at ho;obtain⟨g,o,ep,_,hr⟩:=lV hrow (i:=0) (by simp);rw[ep]at ho;have h5:=congrArg bW.rows h3;refine⟨g,o,c,t.vr,t.rows,cm ho 0 _ rfl,?_,h5,ht.rows.row ht.enc,fun r hr=>⟨(ht.gU r hr).1.more h1.blt,(ht.gU r hr).2.more h1.blt⟩⟩;have hl:(ku t)[19]?=some t.vr:=by
  unfold ku;rw[List.getElem?_append_right (by show 9≤19;decide),List.getElem?_append_right (by show 9≤19-9;decide)];rfl
 have:=hr 19 t.vr hl;rwa[Nat.zero_mul,Nat.add_zero]at this
end
end tb
end Go.Proofs.YtfbggmbmgohiiaaGreat
