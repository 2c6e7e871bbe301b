/- TbH,TbN,TbO,TbI,TbJ,TbK. No condition beyond theirs. -/
import Derived.Test.YtfbggmbmgohiiaaGreatR18
import Derived.Test.YtfbggmbmgohiiaaGreatR27
set_option linter.unusedSectionVars false
set_option linter.unusedSimpArgs false
set_option linter.unusedVariables false
set_option maxHeartbeats 4000000
set_option maxRecDepth 100000
namespace Go.Proofs.YtfbggmbmgohiiaaGreat.tb
open Go.RowKit mem rec tm names
noncomputable def cy{n:Nat}(t:Tm (n+1)):Int:=if aC t then Er (131::gy t) else 0
def EQ(l:List UInt8)(w:World)(m:Nat)(sv iv:Value)(wr:World):Prop:=∃i:Nat,iv=.int .i64 (i:Int)∧i≤l.length∧m=l.length-i∧sv=.int .u32 (wL (l.take i))∧wr=w
def Lg(s:Int)(w:World)(m:Nat)(sv iv:Value)(wr:World):Prop:=∃i:Nat,iv=.int .i64 (i:Int)∧i≤8∧m=8-i∧sv=.int .u32 (wK i s)∧wr=w
theorem Lh{n:Nat}(w:World)(B:Nat)(v:Value)(t:Tm (n+1))(hB:B≤w.heap.size)(hI:ah w B n v t.items)(hv:aC t=true) :
 Calls Tryz.prog 12 #[aj t.f v] w fun e w'=>e=.returned (.int .u32 (Er (131::gy t)))∧Below w.heap.size w w':=by
 have HP:=Qh (fun W (hb:Qb w W)=>Ok W B v t (Nat.le_trans hB hb.size) (hI.below hb hB) hv);have hlen:(131::gy t).length≤10000000:=by
  have h1:=kY n t.items (dg (bR hv));have h2:=jB (bR hv);have h3:=lS hv;have h4:ap t=1+aP n t.items:=rfl;unfold gy;simp;omega
 generalize 131::gy t=l at*;obtain⟨p,c,rfl,_,_⟩:=hI.shape;generalize t.items.length=m,t.f=f at*;clear hI hv hB;obtain⟨fk,fi,fg,fn,ff,fa,fb,fs⟩:=f;unfold aj at*;dsimp only at HP ⊢;have bu:=Qh (aG (Below.refl w.heap.size w) (av ⟨fk,fi,fg,fn,ff,fa,fb,fs⟩ (.slice p m c)) (Nat.le_refl _));have hx:=aW (aF w (av ⟨fk,fi,fg,fn,ff,fa,fb,fs⟩ (.slice p m c)));unfold av at hx bu;dsimp only at hx bu;obtain⟨x0,x1,x2,x3,x4,x5,x6,x7,x8,xf⟩:=hx;dsimp only at x0 x1 x2 x3 x4 x5 x6 x7 x8;go_enter Tryz.func12,Tryz.ntmps12;go_wp2_with fail
 refine(HP.out _ bu.out).mono ?_;rintro e w2 ⟨rfl,a_⟩;have oJ:=Qh (bu.out.trans (a_.mono bu.out.size));clear a_ x0 x1 x2 x3 x4 x5 x6 x7 x8 xf;have hcv:=Lib.run_convert_string_bytes w2 9 86 5 ⟨l.toArray⟩ Tryz.underlying9 Tryz.underlying86 Tryz.underlying5;go_wp2_with fail;have EC:∀j,(h:j<l.length)→(Lib.bytesWorld w2 5 ⟨l.toArray⟩).cell? ⟨w2.heap.size,j,none⟩=some (.int .u8 l[j].toNat):=fun j hj=>by
  rw[Lib.bytesWorld_cell w2 5 ⟨l.toArray⟩ j (by show j<l.toArray.size;simpa using hj)];simp[List.getD,hj]
 have bN:Qb w2 (Lib.bytesWorld w2 5 ⟨l.toArray⟩):=Lib.below_freeze (aG (aZ (Below.refl w2.heap.size w2)) _ (Nat.le_refl _)) (Nat.le_refl _) _;have dJ:=Qh (K3 oJ.out bN);have u9:=Qh EC;clear EC bN hcv;generalize Lib.bytesWorld w2 5 ⟨l.toArray⟩=w3,w2.heap.size=z,grownCap w2 l.length 0 5=cp at*;have C9:=Qh hlen;have iL:Hid (EQ l w3 l.length (.int .u32 4294967295) (.int .i64 0) w3):=Qh ⟨0,rfl,Nat.zero_le _,rfl,rfl,rfl⟩;go_loopg [5,18] l.length (fun m sv iv wr=>Hid (EQ l w3 m sv iv wr))
 case atStart=>exact iL
 case round=>
  obtain⟨i,rfl,hi,hm,rfl,rfl⟩:=hrel.out;clear hrel iL;have HM:=Qh hm;clear hm
  by_cases hlt:i<l.length
  ·have c0:=u9.out i hlt;have AI:=Qh (xD l i hlt);have xS:=AA (l.take i);generalize wL (l.take i)=S,l[i]=ch at*;have Ux:(ch.toNat:Int)%4294967296=ch.toNat:=by have:=ch.toNat_lt;omega
   have Ot:=ux S ch.toNat;have Ou:Hid (Lg (bits .xor .u32 S ch.toNat) wr 8 (.int .u32 (bits .xor .u32 S ch.toNat)) (.int .i64 0) wr):=Qh ⟨0,rfl,by decide,rfl,rfl,rfl⟩;go_wp2_with fail;obtain⟨s,hs⟩:∃s,bits .xor .u32 S ch.toNat=s:=⟨_,rfl⟩;rw[hs]at Ot Ou ⊢;have HS:=Qh hs;clear hs Ux xS c0;go_loopg [5,26] 8 (fun m sv iv wq=>Hid (Lg s wr m sv iv wq))
   case atStart=>exact Ou
   case round=>
    obtain⟨j,rfl,hj,hm,rfl,rfl⟩:=hrel.out;clear hrel Ou;have Su:=Qh hm;clear hm
    by_cases Uy:j<8
    ·obtain⟨r0,r1⟩:=qX j Ot.1 Ot.2;have Sv:=Qh (sC j s);generalize wK j s=q at*;have ha:=KS q r0 r1
     by_cases hq:q%2=1
     ·rw[hq]at ha;have HO:=Qh (Et hq);have hn:IntKind.u32.wrap (-1)=4294967295:=rfl;have hp:bits .and .u32 3988292384 4294967295=3988292384:=rfl;go_wp2_with fail;go_roundg (8-(j+1))
      case measure=>have:=Su.out;omega
      case rel=>exact Qh ⟨j+1,by go_num,by omega,rfl,by rw[Sv.out,←HO.out],rfl⟩
     ·have G2:q%2=0:=by omega
      rw[G2]at ha;have HO:=Qh (Az r0 r1 G2);have hp:bits .and .u32 3988292384 0=0:=rfl;go_wp2_with fail;go_roundg (8-(j+1))
      case measure=>have:=Su.out;omega
      case rel=>exact Qh ⟨j+1,by go_num,by omega,rfl,by rw[Sv.out,←HO.out],rfl⟩
    ·obtain rfl:j=8:=by omega
     go_wp2_with fail;go_roundg (l.length-(i+1))
     case measure=>have:=HM.out;omega
     case rel=>exact Qh ⟨i+1,by go_num,by omega,rfl,by rw[AI.out];unfold FH;rw[HS.out],rfl⟩
  ·obtain rfl:i=l.length:=by omega
   rw[List.take_length];go_wp2_with fail;go_ret;refine⟨?_,dJ.out⟩;unfold Er;rw[xor_comm];rfl
theorem Li{n:Nat}(w:World)(B:Nat)(v:Value)(t:Tm (n+1))(hB:B≤w.heap.size)(hI:ah w B n v t.items)(mB:300*(ap t:Int)≤1000000000000)(hv:aC t=false) :
 Calls Tryz.prog 12 #[aj t.f v] w fun e w'=>e=.returned (.int .u32 0)∧Below w.heap.size w w':=by
 have HP:=Qh (fun W (hb:Qb w W)=>Ol W B v t (Nat.le_trans hB hb.size) (hI.below hb hB) mB hv);obtain⟨p,c,rfl,_,_⟩:=hI.shape;generalize t.items.length=m,t.f=f at*;clear hI hv hB mB;obtain⟨fk,fi,fg,fn,ff,fa,fb,fs⟩:=f;unfold aj at*;dsimp only at HP ⊢;have bu:=Qh (aG (Below.refl w.heap.size w) (av ⟨fk,fi,fg,fn,ff,fa,fb,fs⟩ (.slice p m c)) (Nat.le_refl _));have hx:=aW (aF w (av ⟨fk,fi,fg,fn,ff,fa,fb,fs⟩ (.slice p m c)));unfold av at hx bu;dsimp only at hx bu;obtain⟨x0,x1,x2,x3,x4,x5,x6,x7,x8,xf⟩:=hx;dsimp only at x0 x1 x2 x3 x4 x5 x6 x7 x8
 go_enter Tryz.func12,Tryz.ntmps12;go_wp2_with fail;refine(HP.out _ bu.out).mono ?_;rintro e w2 ⟨rfl,a_⟩;have oJ:=Qh (bu.out.trans (a_.mono bu.out.size));clear a_ x0 x1 x2 x3 x4 x5 x6 x7 x8 xf;go_wp2_with fail;go_ret;exact⟨rfl,oJ.out⟩
theorem Dc{n:Nat}(w:World)(B:Nat)(v:Value)(t:Tm (n+1))(hB:B≤w.heap.size)(hI:ah w B n v t.items)(mB:300*(ap t:Int)≤1000000000000) :
 Calls Tryz.prog 12 #[aj t.f v] w fun e w'=>e=.returned (.int .u32 (cy t))∧Below w.heap.size w w':=by
 cases hv:aC t with
 | false=>unfold cy;rw[hv];exact Li w B v t hB hI mB hv
 | true=>unfold cy;rw[hv];exact Lh w B v t hB hI hv
def dA(w:World)(k:Nat):Option TypeId:=match w.heap[k]? with
 | some (.cells _ t _)=>some t
 | _=>none
theorem br{w:World}{k:Nat}{c:Array Value}{t:TypeId}{f:Nat×Nat}(h:w.heap[k]?=some (.cells c t f)):dA w k=some t:=by unfold dA;rw[h]
theorem xT{w w':World}{k:Nat}(h:w'.heap[k]?=w.heap[k]?):dA w' k=dA w k:=by unfold dA;rw[h]
def Sw(T:TypeId→Prop)(B:Nat)(w:World)(k:Nat):Prop:=B≤k∧∃t,dA w k=some t∧T t
def TT(T:TypeId→Prop)(B:Nat)(w w':World):Prop:=ax (Sw T B w) w w'
section
variable {T:TypeId→Prop}{B:Nat}{a b c:World}
theorem TT.refl:TT T B a a:=ax.refl _ _
theorem TT.back(h:TT T B a b){i:Nat}(hi:i<a.heap.size)(hs:Sw T B b i):Sw T B a i:=by
 by_cases hn:Sw T B a i
 ·exact hn
 ·obtain⟨hB,t,ht,hT⟩:=hs;exact⟨hB,t,(xT (h.block i hi hn)).symm.trans ht,hT⟩
theorem TT.trans(h:TT T B a b)(k:TT T B b c):TT T B a c:=ax.trans h k (fun i hi hs=>h.back hi hs)
theorem TT.bJ(h:TT T B a b)(hb:Below b.heap.size b c):TT T B a c:=ax.bJ h hb h.size
theorem TT.new(hb:Below a.heap.size a b):TT T B a b:=(ax.refl _ a).bJ hb (Nat.le_refl _)
theorem TT.below(h:TT T B a b)(hB:B≤a.heap.size):Below B a b:=ax.below h (fun k hk=>hk.1) hB
theorem TT.keep(h:TT T B a b){k:Nat}(hk:k<a.heap.size)(hn:∀t,dA a k=some t→¬T t):b.heap[k]?=a.heap[k]?:=h.block k hk (fun⟨_,t,ht,hT⟩=>hn t ht hT)
theorem TT.ER(h:TT T B a b){k:Nat}{x:Array Value}{t:TypeId}{f:Nat×Nat}(hk:a.heap[k]?=some (.cells x t f))(hn:¬T t):b.heap[k]?=some (.cells x t f) :=
 (h.keep (Array.getElem?_eq_some_iff.1 hk).1 (fun t' ht=>by rw[br hk]at ht;obtain rfl:=Option.some.inj ht;exact hn)).trans hk
theorem TT.setCell(h:TT T B a b){p:Addr}{x:Array Value}{t:TypeId}{f:Nat×Nat}(hp:b.heap[p.block]?=some (.cells x t f))(hT:T t)(hB:B≤p.block)(u:Value):TT T B a (b.setCell p u) :=
 ax.setCell h p u (fun hi=>h.back hi ⟨hB,t,br hp,hT⟩)
theorem TT.alloc(h:TT T B a b)(o:Obj):TT T B a (b.alloc o):=ax.alloc h o
theorem TT.drew(h:TT T B a b):TT T B a b.drew:=ax.drew h
theorem TT.drewN(h:TT T B a b)(n:Nat):TT T B a (b.drewN n):=ax.drewN h n
theorem TT.app{α:Type}{enc:α→List Value}{e s base:Nat}{v v':Value}{l xs:List α}(h:TT T B a b)(hA:dz enc e s b base v l xs v' c)(hown:aA enc e s b base v l)(hT:T e)(hB:B≤base):TT T B a c :=
 ax.grown h hA.grown (fun k hk hi=>h.back hi ⟨Nat.le_trans hB (hown.lt hk).1,e,by
  rcases hown.2 with⟨h1,_⟩|⟨g,cap,cur,h1,_,hh,_⟩
  ·subst h1;simp[Value.ownBlock]at hk
  ·subst h1
   obtain rfl:g=k:=by simpa[Value.ownBlock] using hk
   exact br hh,hT⟩)
end
theorem dW{α:Type}{enc:α→List Value}{e s:Nat}{w:World}{base:Nat}{v:Value}{l:List α}(h:aA enc e s w base v l){k:Nat}(hk:v.ownBlock=some k):dA w k=some e:=by
 rcases h.2 with⟨h1,_⟩|⟨g,cap,cur,h1,_,hh,_⟩
 ·subst h1;simp[Value.ownBlock]at hk
 ·subst h1;obtain rfl:g=k:=by simpa[Value.ownBlock] using hk
  exact br hh
structure j_(N:Nat) where
 k:Tm (N+1)
 v:Tm (N+1)
 h:Int
 uk:Value
 uv:Value
def bC{N:Nat}(r:j_ N):List Value:=aE r.k.f r.uk++(aE r.v.f r.uv++[.int .u32 r.h])
structure ct(N:Nat) where
 ref:Tm (N+1)
 own:Tm (N+1)
 ur:Value
 uo:Value
 hs:Bool
 vr:Value
 rows:List (j_ N)
 b:Nat
def rB(hs:Bool):Value:=if hs then .iface 99 (.agg #[]) else .iface 93 (.agg #[])
def vG{N:Nat}(t:ct N):List Value:=aE t.ref.f t.ur++(aE t.own.f t.uo++[rB t.hs,t.vr])
def fD(b:Nat):List Value:=[.pointer (some ⟨b,0,none⟩)]
structure fZ{N:Nat}(w:World)(B:Nat)(F:Nat→Prop)(t:ct N):Prop where
 blk:w.heap[t.b]?=some (.cells (vG t).toArray 98)
 rows:aA bC 108 19 w B t.vr t.rows
 ld:bl w F N t.ur t.ref.items
 pX:bl w F N t.uo t.own.items
 gU:∀r∈t.rows,bl w F N r.uk r.k.items∧bl w F N r.uv r.v.items
 low:B≤t.b
structure iy(N:Nat) where
 z:Nat
 vl:Value
 tabs:List (ct N)
structure cN{N:Nat}(w:World)(B:Nat)(F:Nat→Prop)(s:iy N):Prop where
 obj:w.heap[s.z]?=some (.cells #[.bool true,s.vl] 74)
 l:aA fD 89 1 w B s.vl (s.tabs.map (·.b))
 tabs:∀t∈s.tabs,fZ w B F t
 nd:(s.tabs.map (·.b)).Nodup
 Ov:∀(i j:Nat) (ti tj:ct N),s.tabs[i]?=some ti→s.tabs[j]?=some tj→i≠j→∀k,ti.vr.ownBlock=some k→tj.vr.ownBlock≠some k
 low:B≤s.z
 ty:Typed w F
 fl:∀g,F g→g<w.heap.size
def eF(t:TypeId):Prop:=t=74∨t=89∨t=98∨t=108
section
variable {N:Nat}{w w':World}{B:Nat}{F:Nat→Prop}
theorem bl.shape{n:Nat}{v:Value}{l:List (Tm n)}(h:bl w F n v l):∃p c,v=.slice p l.length c∧l.length≤c∧c≤maxLen:=by
 cases n with
 | zero =>
  obtain⟨p,c,rfl,hc⟩:=h;have:=Tm.js l;subst this;exact⟨p,c,rfl,Nat.zero_le _,hc⟩
 | succ n=>obtain⟨p,c,e,h1,h2,_⟩:=h;exact⟨p,c,e,h1,h2⟩
theorem aH{f:TF}{u:Value}(h:u.oneCell'=true):∀x∈aE f u,x.oneCell'=true:=by
 intro x hx;simp only[aE,List.mem_cons,List.mem_nil_iff,or_false]at hx;rcases hx with rfl|rfl|rfl|rfl|rfl|rfl|rfl|rfl|rfl
 all_goals first|rfl|exact h
theorem l_{n:Nat}{v:Value}{l:List (Tm n)}(h:bl w F n v l):v.oneCell'=true:=by
 obtain⟨p,c,rfl,_,_⟩:=bl.shape h;rfl
theorem A7(r:j_ N):(bC r).length=19:=rfl
theorem fZ.enc{t:ct N}(h:fZ w B F t):bD bC 19 t.rows:=fun r hr=>⟨A7 r,fun u hu=>by
 obtain⟨h1,h2⟩:=h.gU r hr
 unfold bC at hu
 rcases List.mem_append.1 hu with hu|hu
 ·exact aH (l_ h1) u hu
 rcases List.mem_append.1 hu with hu|hu
 ·exact aH (l_ h2) u hu
 ·simp at hu;subst hu;rfl⟩
theorem jk(l:List Nat):bD fD 1 l:=fun a _=>⟨rfl,fun u hu=>by simp[fD]at hu;subst hu;rfl⟩
theorem fZ.lt{t:ct N}(h:fZ w B F t):t.b<w.heap.size:=(Array.getElem?_eq_some_iff.1 h.blk).1
theorem fZ.same{F':Nat→Prop}{t:ct N}(h:fZ w B F t)(h1:w'.heap[t.b]?=w.heap[t.b]?)(h2:∀k,t.vr.ownBlock=some k→w'.heap[k]?=w.heap[k]?)(h3:∀g,F g→w'.heap[g]?=w.heap[g]?)(h4:∀g,F g→F' g):fZ w' B F' t :=
 ⟨h1.trans h.blk,h.rows.same h2,h.ld.mono h3 h4,h.pX.mono h3 h4,fun r hr=>⟨(h.gU r hr).1.mono h3 h4,(h.gU r hr).2.mono h3 h4⟩,h.low⟩
theorem cN.Kn{s:iy N}(h:cN w B F s):s.z<w.heap.size:=(Array.getElem?_eq_some_iff.1 h.obj).1
theorem cN.same{s:iy N}(h:cN w B F s)(hs:∀k,k<w.heap.size→(F k∨∃t,dA w k=some t∧eF t)→w'.heap[k]?=w.heap[k]?)(hz:w.heap.size≤w'.heap.size):cN w' B F s:=by
 have hF:∀g,F g→w'.heap[g]?=w.heap[g]?:=fun g hg=>hs g (h.fl g hg) (.inl hg);refine⟨(hs _ h.Kn (.inr ⟨_,br h.obj,.inl rfl⟩)).trans h.obj,h.l.same (fun k hk=>hs k (h.l.lt hk).2 (.inr ⟨_,dW h.l hk,.inr (.inl rfl)⟩)),fun t ht=>?_,h.nd,h.Ov,h.low,h.ty.same hF,fun g hg=>Nat.lt_of_lt_of_le (h.fl g hg) hz⟩;have h1:=h.tabs t ht;exact h1.same (hs _ h1.lt (.inr ⟨_,br h1.blk,.inr (.inr (.inl rfl))⟩)) (fun k hk=>hs k (h1.rows.lt hk).2 (.inr ⟨_,dW h1.rows hk,.inr (.inr (.inr rfl))⟩)) hF (fun _ hg=>hg)
theorem cN.below{s:iy N}(h:cN w B F s)(hb:Below w.heap.size w w'):cN w' B F s:=h.same (fun k hk _=>hb.block k hk) hb.size
end
theorem jK{fn:Func}{p:Tmp}{ty:TypeId}(h:fn.results=#[.cell p ty])(tmps:Array Value)(P:Program)(w:World) :
 (results fn tmps).run P w=((asAddr (tmps.getD p undef)).run P w).andThen fun a w₁=>(loadVar ty a).run P w₁:=by
 simp only[results,h];simp[Sem.run_bind,Result.andThen]
def YJ:ByteArray:=⟨#[110]⟩
def A8{N:Nat}(n:Int):Tm (N+1):=Tm.mk ⟨3,n,1,YJ,⟨#[]⟩,0,⟨#[]⟩,0⟩ []
def A9{N:Nat}(n:Int):Tm (N+1):=Tm.mk ⟨6,n,1,YJ,⟨#[]⟩,0,⟨#[]⟩,0⟩ []
def A_{N:Nat}(n:Int):Tm (N+1):=Tm.mk ⟨1,n,0,⟨#[]⟩,⟨#[]⟩,0,⟨#[]⟩,0⟩ []
def vH{N:Nat}(s:ByteArray):Tm (N+1):=Tm.mk ⟨2,0,0,s,⟨#[]⟩,0,⟨#[]⟩,0⟩ []
theorem cW{N:Nat}(w:World)(B:Nat):ah w B N aK ([]:List (Tm N)):=ah.jH (Nat.zero_le _)
def VQ(v:Value)(w:World)(e:Ending)(w':World):Prop:=e=.returned v∧Below w.heap.size w w'
theorem Sy{N:Nat}(n:Int)(w:World):Calls Tryz.prog 18 #[.int .i64 n] w (VQ (aj (A8 (N:=N) n).f aK) w):=by
 have HB:=Qh (fun o=>aG (Below.refl w.heap.size w) o (Nat.le_refl _));go_enter Tryz.func18,Tryz.ntmps18;go_wp2_with fail;(try simp only[Exit.inBlock,Exit.then])
 refine bodyPost_ret (v:=.agg #[.int .i64 3,.int .i64 n,.int .i64 1,.string ⟨#[110]⟩,.string ⟨#[]⟩,.int .i64 0,.slice none 0 0,.string ⟨#[]⟩,.int .i64 0]) ?_ rfl ⟨rfl,?_⟩
 ·rw[jK rfl];go_simp
 ·exact HB.out _
theorem Sz{N:Nat}(n:Int)(w:World):Calls Tryz.prog 19 #[.int .i64 n] w (VQ (aj (A9 (N:=N) n).f aK) w):=by
 have HB:=Qh (fun o=>aG (Below.refl w.heap.size w) o (Nat.le_refl _));go_enter Tryz.func19,Tryz.ntmps19;go_wp2_with fail;(try simp only[Exit.inBlock,Exit.then])
 refine bodyPost_ret (v:=.agg #[.int .i64 6,.int .i64 n,.int .i64 1,.string ⟨#[110]⟩,.string ⟨#[]⟩,.int .i64 0,.slice none 0 0,.string ⟨#[]⟩,.int .i64 0]) ?_ rfl ⟨rfl,?_⟩
 ·rw[jK rfl];go_simp
 ·exact HB.out _
theorem M7{N:Nat}(n:Int)(w:World):Calls Tryz.prog 29 #[.int .i64 n] w (VQ (aj (A_ (N:=N) n).f aK) w):=by
 have HB:=Qh (fun o=>aG (Below.refl w.heap.size w) o (Nat.le_refl _));go_enter Tryz.func29,Tryz.ntmps29;go_wp2_with fail;(try simp only[Exit.inBlock,Exit.then])
 refine bodyPost_ret (v:=.agg (a9 1 n 0 ⟨#[]⟩ ⟨#[]⟩ 0 (.slice none 0 0) ⟨#[]⟩ 0)) ?_ rfl ⟨rfl,?_⟩
 ·rw[jK rfl];go_simp
 ·exact HB.out _
theorem Ow{N:Nat}(s:ByteArray)(w:World):Calls Tryz.prog 43 #[.string s] w (VQ (aj (vH (N:=N) s).f aK) w):=by
 have HB:=Qh (fun o=>aG (Below.refl w.heap.size w) o (Nat.le_refl _));go_enter Tryz.func43,Tryz.ntmps43;go_wp2_with fail;(try simp only[Exit.inBlock,Exit.then])
 refine bodyPost_ret (v:=.agg (a9 2 0 0 s ⟨#[]⟩ 0 (.slice none 0 0) ⟨#[]⟩ 0)) ?_ rfl ⟨rfl,?_⟩
 ·rw[jK rfl];go_simp
 ·exact HB.out _
theorem M8{N:Nat}(w:World)(B:Nat)(hB:B≤w.heap.size):Calls Tryz.prog 16 #[] w fun e w'=>e=.returned (.pointer (some ⟨w.heap.size,0,none⟩))∧cN (N:=N) w' B (fun _=>False) ⟨w.heap.size,aK,[]⟩∧Below w.heap.size w w':=by
 have HB:=Qh (aG (Below.refl w.heap.size w) (.cells #[.bool true,.slice none 0 0] 74) (Nat.le_refl _));have HZ:=Qh (aF w (.cells #[.bool true,.slice none 0 0] 74));go_enter Tryz.func16,Tryz.ntmps16;go_wp2_with fail;go_ret;exact⟨rfl,⟨HZ.out,aA.nil _ _ _,fun t ht=>absurd ht List.not_mem_nil,List.nodup_nil,fun i j ti tj h=>by simp at h,hB,fun g hg=>hg.elim,fun g hg=>hg.elim⟩,HB.out⟩
section
variable {N:Nat}{w w':World}{B:Nat}{F:Nat→Prop}
theorem dN{t:ct N}(h:w.heap[t.b]?=some (.cells (vG t).toArray 98)):Cells w t.b 0 t.ref.f t.ur∧Cells w t.b 9 t.own.f t.uo∧w.cell? ⟨t.b,18,none⟩=some (rB t.hs)∧w.cell? ⟨t.b,19,none⟩=some t.vr∧∀o,w.frozen? ⟨t.b,o,none⟩=false:=by
 have e:∀i,w.cell? ⟨t.b,i,none⟩=(vG t)[i]?:=fun i=>by simp only[World.cell?,h];simp
 refine⟨⟨e 0,e 1,e 2,e 3,e 4,e 5,e 6,e 7,e 8⟩,⟨e 9,e 10,e 11,e 12,e 13,e 14,e 15,e 16,e 17⟩,e 18,e 19,fun o=>by simp only[World.frozen?,h];simp⟩
theorem yU{n:Nat}{a b:Tm (n+1)}{u1 u2:Value}{B2:Nat}(hF:∀g,F g→g<w.heap.size)(h1:bl w F n u1 a.items)(hB:B2≤w.heap.size)(h2:ah w B2 n u2 b.items):Calls Tryz.prog 66 #[aj a.f u1,aj b.f u2] w (aV (dL a b) w) :=
 N5 w w.heap.size u1 u2 a b (Nat.le_refl _) (h1.pR hF) (h2.more hB)
theorem Ox{t:ct N}{r:Tm (N+1)}{u:Value}{zb B2:Nat}(h:fZ w B F t)(hF:∀g,F g→g<w.heap.size)(hB:B2≤w.heap.size)(hI:ah w B2 N u r.items)(hz:w.heap[zb]?=some (av r.f u)) :
 Calls Tryz.prog 82 #[.pointer (some ⟨t.b,0,none⟩),.pointer (some ⟨zb,0,none⟩)] w (aV (dL t.ref r) w):=by
 have HC:Hid (Calls Tryz.prog 66 #[aj t.ref.f t.ur,aj r.f u] w.drew (aV (dL t.ref r) w.drew)):=Qh (yU (w:=w.drew) hF (bl.mono (w:=w) (w':=w.drew) (F:=F) (F':=F) (fun _ _=>rfl) (fun _ hg=>hg) h.ld) hB (ah.same (w:=w) (w':=w.drew) (fun _ _=>rfl) hI));obtain⟨⟨x0,x1,x2,x3,x4,x5,x6,x7,x8⟩,_,_,_,_⟩:=dN h.blk;obtain⟨y0,y1,y2,y3,y4,y5,y6,y7,y8,yf⟩:=aW hz;obtain⟨pa,ca,ea,_,_⟩:=bl.shape h.ld;obtain⟨pb,cb,eb,_,_⟩:=hI.shape;clear h hF hB hI hz;generalize dL t.ref r=q at*;rw[ea]at x6 HC;rw[eb]at y6 HC
 generalize t.ref.items.length=na,r.items.length=nb,t.ref.f=fa,r.f=fb,t.b=tb at*;clear ea eb;obtain⟨k1,i1,j1,n1,f1,a1,b1,s1⟩:=fa;obtain⟨k2,i2,j2,n2,f2,a2,b2,s2⟩:=fb;unfold aj at HC;dsimp only at HC x0 x1 x2 x3 x4 x5 x6 x7 x8 y0 y1 y2 y3 y4 y5 y6 y7 y8;simp only[Nat.reduceAdd]at x0 x1 x2 x3 x4 x5 x6 x7 x8;go_enter Tryz.func82,Tryz.ntmps82;go_wp2_with fail;go_still_tail 5,(by kernel_rfl)
 change wpList _ _ _ _ _ w.drew;clear x0 x1 x2 x3 x4 x5 x6 x7 x8 y0 y1 y2 y3 y4 y5 y6 y7 y8 yf;have FP:=Qh (aZ (Below.refl w.heap.size w));go_wp2_with fail;refine HC.out.mono ?_;rintro e w3 ⟨rfl,bN⟩;have lG:=Qh (FP.out.trans (bN.mono FP.out.size));clear bN;go_wp2_with fail;go_ret;exact⟨rfl,lG.out⟩
end
def vI(l:List UInt8)(w:World)(e:Ending)(w':World):Prop:=∃v,e=.returned v∧aA bw 5 1 w' w.heap.size v l∧Below w.heap.size w w'
theorem Oy(W:World)(k:Nat)(hc:k≤1000):(Instr.makeSlice 86 (.int .i64 k) (.int .i64 k)).run Tryz.prog W=.ok (.slice (some ⟨W.heap.size,0,none⟩) k k) (W.alloc (.cells ((List.replicate k (0:UInt8)).flatMap bw).toArray 5)):=by
 obtain⟨i0,hi,hz,hs,hb⟩:=info_parts Hs;have:=run_make (P:=Tryz.prog) W 86 5 i0 _ Tryz.underlying86 hi hz .i64 .i64 (k:Int) (k:Int) (by omega) (by omega) (by rw[hb];omega) (by omega);rw[hs]at this;simp only[Int.toNat_natCast]at this;rw[this];congr 3
 apply Array.ext
 ·rw[size_madeCells];simp[bH (aU _)]
 ·intro i h1 h2;have e:(madeCells (Value.int .u8 0).cells (k*1))[i]=.int .u8 0:=by
   simp[madeCells];show(#[Value.int .u8 0]:Array Value)[i%1]! = _;rw[Nat.mod_one];rfl
  have h0:∀(q:List UInt8) (j:Nat) (hj:j<(q.flatMap bw).length) (hq:∀b∈q,b=0),(q.flatMap bw)[j]=.int .u8 0:=by
   intro q j hj hq;have:=List.getElem_mem hj;obtain⟨b,hb,hu⟩:=List.mem_flatMap.1 this;rw[hq b hb]at hu;simpa[bw] using hu
  refine e.trans ?_;rw[List.getElem_toArray];exact(h0 _ _ _ (fun b hb=>(List.mem_replicate.1 hb).2)).symm
def wS(n:Int)(k j:Nat):List UInt8:=List.replicate j 0++(bO n k).drop j
theorem FV(n:Int)(k j:Nat)(h0:0<j)(h:j≤k):(wS n k j).set (j-1) (byteOf (n/256^(k-j)))=wS n k (j-1):=by
 obtain⟨i,rfl⟩:∃i,j=i+1:=⟨j-1,by omega⟩;have hl:i<(bO n k).length:=by rw[dm];omega
 unfold wS;rw[Nat.add_sub_cancel,List.replicate_succ',List.append_assoc,List.set_append_right _ _ (by simp),List.length_replicate,Nat.sub_self];rw[List.drop_eq_getElem_cons hl];simp only[List.singleton_append,List.set_cons_zero];congr 2;simp only[bO,List.getElem_map,List.getElem_range];rw[show k-1-i=k-(i+1) by omega]
def SA(n:Int)(k:Nat)(w:World)(m:Nat)(nv iv:Value)(wr:World):Prop:=∃j:Nat,j≤k∧iv=.int .i64 ((j:Int)-1)∧m=j∧nv=.int .i64 (n/256^(k-j))∧wr.heap[w.heap.size]?=some (.cells ((wS n k j).flatMap bw).toArray 5)∧Below w.heap.size w wr
theorem Ij(l:List UInt8)(i:Nat)(c:UInt8):((l.flatMap bw).toArray.setIfInBounds i (.int .u8 c.toNat))=((l.set i c).flatMap bw).toArray:=by
 rw[pI,pI];unfold Lib.byteCells;simp[List.map_set]
theorem Ik(n:Int)(k j:Nat)(h0:0<j)(h:j≤k):n/256^(k-j)/256=n/256^(k-(j-1)):=by
 rw[show k-(j-1)=k-j+1 by omega,Int.pow_succ,Int.ediv_ediv_of_nonneg (Int.pow_nonneg (by decide))]
theorem fL(w:World)(n:Int)(k:Nat)(hk:k≤8):Calls Tryz.prog 105 #[.int .i64 n,.int .i64 k] w (vI (bO n k) w):=by
 have hmk:=fun W=>Oy W k (by omega);have hw0:IntKind.i64.wrap ((k:Int)-1)=(k:Int)-1:=IntWalk.i64_in _ (by omega);have iL:Hid (SA n k w k (.int .i64 n) (.int .i64 ((k:Int)-1)) (w.alloc (.cells ((List.replicate k (0:UInt8)).flatMap bw).toArray 5))):=Qh ⟨k,Nat.le_refl _,rfl,rfl,by simp,by
  rw[aF]
  unfold wS
  rw[List.drop_of_length_le (by rw[dm];exact Nat.le_refl _),List.append_nil],aG (Below.refl _ _) _ (Nat.le_refl _)⟩
 go_enter Tryz.func105,Tryz.ntmps105;go_wp2_with fail;go_loopg [0,6] k (fun m nv iv wr=>Hid (SA n k w m nv iv wr))
 case atStart=>exact iL
 case round=>
  obtain⟨j,hj,rfl,hm,rfl,hz,hb⟩:=hrel.out;clear hrel iL hmk;have HM:=Qh hm;have HB:=Qh hb;have HZ:=Qh hz;clear hm
  by_cases h0:0<j
  ·have hge:(0:Int)≤(j:Int)-1:=by omega
   have qM:(j:Int)≤8:=by omega
   have Vq:(j:Int)-1<(k:Int):=by omega
   have hlen:(wS n k j).length=k:=by unfold wS;simp[dm];omega
   have hc:∃u,wr.cell? ⟨w.heap.size,j-1,none⟩=some u:=by
    have:j-1<((wS n k j).flatMap bw).length:=by rw[bH (aU _),hlen];omega
    refine⟨((wS n k j).flatMap bw)[j-1],?_⟩;simp only[World.cell?,hz];simp
   obtain⟨u,hc⟩:=hc;have hf:wr.frozen? ⟨w.heap.size,j-1,none⟩=false:=by simp only[World.frozen?,hz];simp
   have HBy:=Qh (bF (n/256^(k-j)));have HDv:=Qh (Ik n k j h0 hj);clear hz hb hlen;go_wp2_with fail;go_roundg (j-1)
   case measure=>have:=HM.out;omega
   case rel=>
    refine Qh ⟨j-1,by omega,by congr 1;omega,rfl,by rw[HDv.out],?_,HB.out.setCell (p:=⟨w.heap.size,j-1,none⟩) (Nat.le_refl _) _⟩;rw[heap_setCell_same wr w.heap.size (j-1) _ 5 _ HZ.out,←HBy.out,Ij,FV n k j h0 hj]
  ·obtain rfl:j=0:=by omega
   go_wp2_with fail;go_ret;refine⟨.slice (some ⟨w.heap.size,0,none⟩) k k,rfl,?_,HB.out⟩;have pq:=HZ.out;unfold wS at pq;simp only[List.replicate_zero,List.drop_zero,List.nil_append]at pq
   refine⟨?_,.inr ⟨w.heap.size,k,_,by rw[dm],Nat.le_refl _,pq,by rw[dm];exact Nat.le_refl _,by unfold maxLen;omega,?_,?_⟩⟩
   ·rw[bH (aU _)]
   ·rw[List.size_toArray,bH (aU _),dm]
   ·rw[List.take_of_length_le];rw[bH (aU _)];exact Nat.le_refl _
theorem f_(w:World)(l:List UInt8)(k base:Nat)(hk:l.length=k)(hb:base≤w.heap.size)(hl:k≤1000000):aA bw 5 1 (w.alloc (.cells (l.flatMap bw).toArray 5)) base (.slice (some ⟨w.heap.size,0,none⟩) k k) l:=by
 subst hk
 refine⟨bH (aU _),.inr ⟨w.heap.size,_,_,rfl,hb,aF _ _,Nat.le_refl _,by unfold maxLen;omega,?_,?_⟩⟩
 ·rw[List.size_toArray,bH (aU _)]
 ·exact List.take_of_length_le (by rw[bH (aU _)];exact Nat.le_refl _)
theorem pK(w:World)(s:ByteArray)(hs:s.size≤1000000):Calls Tryz.prog 104 #[.string s] w (vI (cj s) w):=by
 have hr:=f_ w [119,byteOf s.size] 2 w.heap.size rfl (Nat.le_refl _) (by decide);have e:([119,byteOf s.size].flatMap bw).toArray=#[.int .u8 119,.int .u8 ((s.size:Int)%256)]:=by rw[←bF];rfl
 rw[e]at hr;have HR:=Qh hr;have hb:=aG (Below.refl w.heap.size w) (.cells #[.int .u8 119,.int .u8 ((s.size:Int)%256)] 5) (Nat.le_refl _);have HB:=Qh hb;have hz:=hb.size;clear e hr hb;go_enter Tryz.func104,Tryz.ntmps104;go_wp2_with (first
  | (refine fX rfl (.tmp 6) (.tmp 7) rfl rfl HR.out hz rfl (by simp;omega) ?_;intro v' w2 hA;obtain⟨sF,cap',hv,_,_⟩:=hA.own.shape;subst hv;have HA:Hid (dz bw 5 1 (w.alloc (.cells #[.int .u8 119,.int .u8 ((s.size:Int)%256)] 5)) w.heap.size (.slice (some ⟨w.heap.size,0,none⟩) 2 2) [119,byteOf s.size] (kx s) (.slice sF ([119,byteOf s.size]++kx s).length cap') w2):=Qh hA;clear hA))
 go_ret;exact⟨_,rfl,HA.out.own,HA.out.bL HB.out HB.out.size (fun k hk=>by have e:w.heap.size=k:=Option.some.inj hk;omega)⟩
theorem FW(w:World)(n:Int)(h0:0≤n)(h1:n<256):Calls Tryz.prog 103 #[.int .i64 n] w (vI (iP n) w):=by
 have hr:=f_ w [97,byteOf n] 2 w.heap.size rfl (Nat.le_refl _) (by decide);have e:([97,byteOf n].flatMap bw).toArray=#[.int .u8 97,.int .u8 (n%256)]:=by rw[←bF];rfl
 have e2:iP n=[97,byteOf n]:=by unfold iP;rw[if_pos ⟨h0,h1⟩]
 have e3:n%256=n:=by omega
 rw[e,e3]at hr;have HR:=Qh hr;have HB:=Qh (aG (Below.refl w.heap.size w) (.cells #[.int .u8 97,.int .u8 n] 5) (Nat.le_refl _));rw[e2];have h5:n≤255:=by omega
 clear e e3 hr e2;go_enter Tryz.func103,Tryz.ntmps103;go_wp2_with fail;go_ret;exact⟨_,rfl,HR.out,HB.out⟩
theorem Lj(w:World)(n:Int)(hs:¬(0≤n∧n<256))(h0:-2147483648≤n)(h1:n≤2147483647):Calls Tryz.prog 103 #[.int .i64 n] w (vI (iP n) w):=by
 have hr:=f_ w [98] 1 w.heap.size rfl (Nat.le_refl _) (by decide);have e:(([98]:List UInt8).flatMap bw).toArray=#[.int .u8 98]:=rfl;have e2:iP n=[98]++bO n 4:=by unfold iP;rw[if_neg hs,if_pos ⟨h0,h1⟩];rfl
 rw[e]at hr;have HR:=Qh hr;have HB:=Qh (aG (Below.refl w.heap.size w) (.cells #[.int .u8 98] 5) (Nat.le_refl _));have HN:=Qh (fL (w.alloc (.cells #[.int .u8 98] 5)) n 4 (by decide));rw[e2];clear e hr e2;by_cases c1:0≤n
 all_goals
  go_enter Tryz.func103,Tryz.ntmps103;go_wp2_with fail;refine HN.out.mono ?_;rintro e w2 ⟨v2,rfl,ho,hb⟩;obtain⟨p2,c2,rfl,_,_⟩:=ho.shape;have HO:=Qh (ho.row (aU _));have nu:=Qh (HR.out.below hb);have bS:=Qh (HB.out.trans (hb.mono HB.out.size));have hz:=bS.out.size;clear ho hb;go_wp2_with (first
   | (refine ay rW rfl (.tmp 21) (.tmp 23) rfl rfl nu.out hz rfl HO.out (aU _) (by simp[dm]) ?_;intro v' w3 hA;obtain⟨sF,cap',hv,_,_⟩:=hA.own.shape;subst hv;have HA:Hid (dz bw 5 1 w2 w.heap.size (.slice (some ⟨w.heap.size,0,none⟩) 1 1) [98] (bO n 4) (.slice sF ([98]++bO n 4).length cap') w3):=Qh hA;clear hA))
  go_ret;exact⟨_,rfl,HA.out.own,HA.out.bL bS.out hz (fun k hk=>by have e:w.heap.size=k:=Option.some.inj hk;omega)⟩
theorem Lk(w:World)(n:Int)(hs:¬(0≤n∧n<256))(hm:¬(-2147483648≤n∧n≤2147483647)):Calls Tryz.prog 103 #[.int .i64 n] w (vI (iP n) w):=by
 have e2:iP n=[110,byteOf (dy (gx n)).length,if n<0 then 1 else 0]++dy (gx n):=by unfold iP;rw[if_neg hs,if_neg hm];rfl
 have N8:=Qh (uY 8 (gx n) (qW n));rw[e2];have hmx:gx n≤18446744073709551615:=by have:=qW n;have e:(256:Nat)^8=18446744073709551616:=rfl;omega
 clear e2
 by_cases c1:0≤n
 ·have hab:((gx n:Nat):Int)=IntKind.u64.wrap n:=by rw[uw];unfold Ax;rw[if_neg (by omega)]
  have iL:Hid (AJ (gx n) w (gx n) (.int .u64 (IntKind.u64.wrap n)) (.slice none 0 0) w):=Qh ⟨(gx n),[],by rw[hab],hmx,rfl,aA.nil _ _ _,rfl,Below.refl _ _⟩;have e3:(if n<0 then(1:UInt8) else 0)=0:=if_neg (by omega);rw[e3];clear e3 hab hmx;generalize gx n=N at*;go_enter Tryz.func103,Tryz.ntmps103;go_wp2_with fail;go_loopg [4,5] N (fun m uv lv wr=>Hid (AJ N w m uv lv wr))
  case atStart=>exact iL
  case round=>
   obtain⟨u,l0,rfl,hu,hm,hown,vC,au⟩:=hrel.out;clear hrel iL;obtain⟨po,co,rfl,_,_⟩:=hown.shape;have HM:=Qh hm;have mE:=Qh hown;have C5:=Qh vC;have sG:=Qh au;clear hm hown vC;have MS:l0.length≤8:=by
    have:=congrArg List.length C5.out;rw[List.length_append]at this;have:=N8.out;omega
   by_cases h0:0<u
   ·have hz:w.heap.size≤(wr.alloc (.cells #[.int .u8 ((u:Int)%256)] 5)).heap.size:=by rw[World.size_alloc];have:=au.size;omega
    have hrow:=lQ wr [byteOf u] 1 (Nat.le_refl _) (by decide);have e:([byteOf (u:Int)].flatMap bw).toArray=#[.int .u8 ((u:Int)%256)]:=by rw[←bF];rfl
    rw[e]at hrow;have CI:=Qh hrow;clear e hrow;have N9:=Qh (mE.out.below (aG (Below.refl wr.heap.size wr) (.cells #[.int .u8 ((u:Int)%256)] 5) (Nat.le_refl _)));go_wp2_with (first
     | (refine ay rW rfl (.tmp 33) (.tmp 37) rfl rfl N9.out hz rfl CI.out (aU _) (by simp;omega) ?_;intro v' w8 hA;obtain⟨sF,cap',hv,_,_⟩:=hA.own.shape;rw[List.length_append]at hv;subst hv;have HA:Hid (dz bw 5 1 (wr.alloc (.cells #[.int .u8 ((u:Int)%256)] 5)) w.heap.size (.slice po l0.length co) l0 [byteOf u] (.slice sF (l0.length+1) cap') w8):=Qh hA;clear hA))
    go_wp2_with fail;go_roundg (u/256)
    case measure=>have:=HM.out;omega
    case rel=>
     refine Qh ⟨u/256,l0++[byteOf u],by go_num,by omega,rfl,HA.out.own,by rw[C5.out,uX (by omega)];simp,?_⟩;exact HA.out.bL (aG sG.out _ sG.out.size) hz (fun k hk=>(mE.out.lt hk).1)
   ·obtain rfl:u=0:=by omega
    have hl:=C5.out;rw[sB,List.append_nil]at hl;subst hl;have hr:=f_ wr [110,byteOf (dy N).length,0] 3 w.heap.size rfl au.size (by decide);have hla:((dy N).length:Int)%256=(dy N).length:=by omega
    have e:([110,byteOf (dy N).length,0].flatMap bw).toArray=#[.int .u8 110,.int .u8 ((dy N).length:Int),.int .u8 0]:=by
     simp only[List.flatMap_cons,List.flatMap_nil,bw,List.cons_append,List.nil_append,bF,hla];rfl
    rw[e]at hr;have HR:=Qh hr;have bN:=aG (Below.refl wr.heap.size wr) (.cells #[.int .u8 110,.int .u8 ((dy N).length:Int),.int .u8 0] 5) (Nat.le_refl _);have HS:=Qh ((mE.out.below bN).row (aU _));have dJ:=Qh (au.trans (bN.mono au.size));have hz:=dJ.out.size;clear e hr hla bN;go_wp2_with (first
     | (refine ay rW rfl (.tmp 45) (.tmp 46) rfl rfl HR.out hz rfl HS.out (aU _) (by simp;omega) ?_;intro v' w8 hA;obtain⟨sF,cap',hv,_,_⟩:=hA.own.shape;subst hv;have HA:Hid (dz bw 5 1 (wr.alloc (.cells #[.int .u8 110,.int .u8 ((dy N).length:Int),.int .u8 0] 5)) w.heap.size (.slice (some ⟨wr.heap.size,0,none⟩) 3 3) [110,byteOf (dy N).length,0] (dy N) (.slice sF ([110,byteOf (dy N).length,0]++dy N).length cap') w8):=Qh hA;clear hA))
    go_ret;exact⟨_,rfl,HA.out.own,HA.out.bL dJ.out hz (fun k hk=>by have e:wr.heap.size=k:=Option.some.inj hk;have:=sG.out.size;omega)⟩
 ·have hab:((gx n:Nat):Int)=IntKind.u64.wrap (-IntKind.u64.wrap n):=by rw[uw];unfold Ax;rw[if_pos (by omega)]
  have iL:Hid (AJ (gx n) w (gx n) (.int .u64 (IntKind.u64.wrap (-IntKind.u64.wrap n))) (.slice none 0 0) w):=Qh ⟨(gx n),[],by rw[hab],hmx,rfl,aA.nil _ _ _,rfl,Below.refl _ _⟩;have e3:(if n<0 then(1:UInt8) else 0)=1:=if_pos (by omega);rw[e3];clear e3 hab hmx;generalize gx n=N at*;go_enter Tryz.func103,Tryz.ntmps103;go_wp2_with fail;go_loopg [4,5] N (fun m uv lv wr=>Hid (AJ N w m uv lv wr))
  case atStart=>exact iL
  case round=>
   obtain⟨u,l0,rfl,hu,hm,hown,vC,au⟩:=hrel.out;clear hrel iL;obtain⟨po,co,rfl,_,_⟩:=hown.shape;have HM:=Qh hm;have mE:=Qh hown;have C5:=Qh vC;have sG:=Qh au;clear hm hown vC;have MS:l0.length≤8:=by
    have:=congrArg List.length C5.out;rw[List.length_append]at this;have:=N8.out;omega
   by_cases h0:0<u
   ·have hz:w.heap.size≤(wr.alloc (.cells #[.int .u8 ((u:Int)%256)] 5)).heap.size:=by rw[World.size_alloc];have:=au.size;omega
    have hrow:=lQ wr [byteOf u] 1 (Nat.le_refl _) (by decide);have e:([byteOf (u:Int)].flatMap bw).toArray=#[.int .u8 ((u:Int)%256)]:=by rw[←bF];rfl
    rw[e]at hrow;have CI:=Qh hrow;clear e hrow;have N9:=Qh (mE.out.below (aG (Below.refl wr.heap.size wr) (.cells #[.int .u8 ((u:Int)%256)] 5) (Nat.le_refl _)));go_wp2_with (first
     | (refine ay rW rfl (.tmp 33) (.tmp 37) rfl rfl N9.out hz rfl CI.out (aU _) (by simp;omega) ?_;intro v' w8 hA;obtain⟨sF,cap',hv,_,_⟩:=hA.own.shape;rw[List.length_append]at hv;subst hv;have HA:Hid (dz bw 5 1 (wr.alloc (.cells #[.int .u8 ((u:Int)%256)] 5)) w.heap.size (.slice po l0.length co) l0 [byteOf u] (.slice sF (l0.length+1) cap') w8):=Qh hA;clear hA))
    go_wp2_with fail;go_roundg (u/256)
    case measure=>have:=HM.out;omega
    case rel=>
     refine Qh ⟨u/256,l0++[byteOf u],by go_num,by omega,rfl,HA.out.own,by rw[C5.out,uX (by omega)];simp,?_⟩;exact HA.out.bL (aG sG.out _ sG.out.size) hz (fun k hk=>(mE.out.lt hk).1)
   ·obtain rfl:u=0:=by omega
    have hl:=C5.out;rw[sB,List.append_nil]at hl;subst hl;have hr:=f_ wr [110,byteOf (dy N).length,1] 3 w.heap.size rfl au.size (by decide);have hla:((dy N).length:Int)%256=(dy N).length:=by omega
    have e:([110,byteOf (dy N).length,1].flatMap bw).toArray=#[.int .u8 110,.int .u8 ((dy N).length:Int),.int .u8 1]:=by
     simp only[List.flatMap_cons,List.flatMap_nil,bw,List.cons_append,List.nil_append,bF,hla];rfl
    rw[e]at hr;have HR:=Qh hr;have bN:=aG (Below.refl wr.heap.size wr) (.cells #[.int .u8 110,.int .u8 ((dy N).length:Int),.int .u8 1] 5) (Nat.le_refl _);have HS:=Qh ((mE.out.below bN).row (aU _));have dJ:=Qh (au.trans (bN.mono au.size));have hz:=dJ.out.size;clear e hr hla bN;go_wp2_with (first
     | (refine ay rW rfl (.tmp 45) (.tmp 46) rfl rfl HR.out hz rfl HS.out (aU _) (by simp;omega) ?_;intro v' w8 hA;obtain⟨sF,cap',hv,_,_⟩:=hA.own.shape;subst hv;have HA:Hid (dz bw 5 1 (wr.alloc (.cells #[.int .u8 110,.int .u8 ((dy N).length:Int),.int .u8 1] 5)) w.heap.size (.slice (some ⟨wr.heap.size,0,none⟩) 3 3) [110,byteOf (dy N).length,1] (dy N) (.slice sF ([110,byteOf (dy N).length,1]++dy N).length cap') w8):=Qh hA;clear hA))
    go_ret;exact⟨_,rfl,HA.out.own,HA.out.bL dJ.out hz (fun k hk=>by have e:wr.heap.size=k:=Option.some.inj hk;have:=sG.out.size;omega)⟩
theorem vJ(w:World)(n:Int):Calls Tryz.prog 103 #[.int .i64 n] w (vI (iP n) w):=by
 by_cases hs:0≤n∧n<256
 ·exact FW w n hs.1 hs.2
 by_cases hm:-2147483648≤n∧n≤2147483647
 ·exact Lj w n hs hm.1 hm.2
 ·exact Lk w n hs hm
def ES(n:Nat):Prop:=∀(w:World) (B:Nat) (vt:Value) (t:Tm (n+1)),B≤w.heap.size→ah w B n vt t.items→aJ t=true→3000*ap t≤400000000→Calls Tryz.prog 80 #[aj t.f vt] w (vI (gy t) w)
def M9{n:Nat}(l:List UInt8)(items:List (Tm n))(W1:World)(m:Nat)(ov iv:Value)(wr:World):Prop:=∃i:Nat,iv=.int .i64 (i:Int)∧i≤items.length∧m=items.length-i∧aA bw 5 1 wr W1.heap.size ov (l++iQ n (items.take i))∧Below W1.heap.size W1 wr
def M_(l:List UInt8)(W1:World)(v:Value)(wc:World):Prop:=aA bw 5 1 wc W1.heap.size v l∧Below W1.heap.size W1 wc
theorem Oz{n:Nat}(ih:∀m,n=m+1→ES m){w:World}{B:Nat}{p:Option Addr}{len c:Nat}{items:List (Tm n)}(hB:B≤w.heap.size)(hI:ah w B n (.slice p len c) items)(hf:bp n items=true)(i:Nat)(hi:i<items.length)(hs:3000*aP n items≤400000000) :
 ∃g o x q m d bs,p=some ⟨g,o,none⟩∧g<B∧Cells w g (o+i*9) x (.slice q m d)∧iQ n (items.take (i+1))=iQ n (items.take i)++bs∧bs.length≤400000000∧Calls Tryz.prog 80 #[aj x (.slice q m d)] w (vI bs w):=by
 cases n with
 | zero=>rw[Tm.js items]at hi;exact absurd hi (by simp)
 | succ n =>
  obtain⟨g,o,d,e,_,_,hg,hx⟩:=hI.at_ (by intro e;subst e;simp at hi);obtain⟨u,hC,hJ⟩:=hx i hi;simp only[Value.slice.injEq]at e;obtain⟨q,c',rfl,_,_⟩:=hJ.shape;have hn:=iK hi;have hl:(gy items[i]).length≤400000000:=by
   have h1:=kY n items[i].items (dg (kL hf i hi));have h2:=jB (kL hf i hi);have h3:ap items[i]=1+aP n items[i].items:=rfl;unfold gy;rw[List.length_append];omega
  exact⟨g,o,items[i].f,q,_,c',gy items[i],e.1,hg,hC,xC items i hi,hl,ih n rfl w B _ items[i] hB hJ (kL hf i hi) (by omega)⟩
theorem Dd{n:Nat}(l:List (Tm n))(k:Nat):aP n (l.take k)≤aP n l:=by
 cases n with
 | zero=>exact Nat.le_refl _
 | succ n =>
  have:=qc (l.take k) (l.drop k);rw[List.take_append_drop]at this;omega
theorem Ba{n:Nat}(ih:∀m,n=m+1→ES m):ES n:=by
 intro w B vt t hB hI hf hn;have C8:ap t=1+aP n t.items:=rfl;have ry:=Qh (jB hf);have hft:=dg hf;obtain⟨k1,k2,_,k4⟩:=p8 hf;have hk:=yP hf;have h2:t.f.kind=9→2≤t.items.length:=fun e=>(jb hf e).1;obtain⟨p,c,rfl,_,_⟩:=hI.shape;have AU:gy t=eE t.f t.items.length++iQ n t.items:=rfl;rw[AU];clear AU hf k1 k2;have hlen:=iJ n t.items;have hel:=kY n t.items hft;generalize Oh:t.items=items,t.f=f at*;obtain⟨fk,fi,fg,fn,ff,fa,fb,fs⟩:=f;unfold aj;dsimp only at hk h2 k4 ry ⊢
 have hb0:=aG (Below.refl w.heap.size w) (av ⟨fk,fi,fg,fn,ff,fa,fb,fs⟩ (.slice p items.length c)) (Nat.le_refl _);have HZ:=Qh (aF w (av ⟨fk,fi,fg,fn,ff,fa,fb,fs⟩ (.slice p items.length c)));have sG:=Qh hb0;have dU:Hid (B≤w.heap.size∧(w.alloc (av ⟨fk,fi,fg,fn,ff,fa,fb,fs⟩ (.slice p items.length c))).heap.size=w.heap.size+1):=Qh ⟨hB,by rw[World.size_alloc]⟩;have ny:Hid (3000*(1+aP n items)≤400000000):=Qh (by omega);have Sl:=Qh hft;have Na:=Qh k4;have tU:=Qh hel;have Sm:=Qh (hI.below hb0 hB);have C9:Hid (items.length≤1000000):=Qh (by omega)
 unfold av at HZ sG dU Sm;dsimp only at HZ sG dU Sm;clear hb0 hB hI hn C8 hlen h2 hft Oh k4 hel;go_enter Tryz.func80,Tryz.ntmps80;go_upto_region 1 with(fail);generalize Lc:(w.alloc (.cells (a9 fk fi fg fn ff fa (.slice p items.length c) fb fs) 24))=W1 at*;clear Lc;generalize hz:w.heap.size=z at*;have M3:=Qh hz;clear hz;have HX:=Qh (fun(W':World) (hs:Qb W1 W')=>(aW ((hs.block z (by have:=dU.out.2;omega)).trans HZ.out):gu W' z ⟨fk,fi,fg,fn,ff,fa,fb,fs⟩ (.slice p items.length c)))
 have Ih:=Qh (fun(W':World) (u:Value) (l:List UInt8) (hl:l=eE ⟨fk,fi,fg,fn,ff,fa,fb,fs⟩ items.length) (h0:items=[]) (hb:Qb W1 W') (ho:aA bw 5 1 W' W1.heap.size u l)=>(by
  subst h0
  rw[uZ,List.append_nil,←hl]
  refine⟨u,rfl,ho.base (fun k hk=>?_),?_⟩
  ·have:=(ho.lt hk).1
   have:=dU.out.2
   have:=M3.out
   omega
  ·have:=hb.mono (B':=w.heap.size) (by have:=dU.out.2;have:=M3.out;omega)
   rw[M3.out]at this ⊢
   exact sG.out.trans this:vI (eE ⟨fk,fi,fg,fn,ff,fa,fb,fs⟩ items.length++iQ n items) w (.returned u) W'))
 obtain⟨x0,x1,x2,x3,x4,x5,x6,x7,x8,xf⟩:=HX.out W1 (Below.refl _ _);dsimp only at x0 x1 x2 x3 x4 x5 x6 x7 x8;have bu:=Qh (Below.refl W1.heap.size W1);go_upto_block 0 with(fail)
 go_cut [3] from 5 (fun v wc=>Hid (M_ (eE ⟨fk,fi,fg,fn,ff,fa,fb,fs⟩ items.length) W1 v wc))
 case first=>
  have hks:fk=1∨fk=2∨fk=7∨fk=8∨fk=9∨fk=10∨fk=6∨fk=3∨fk=5∨fk=4:=by omega
  clear hk
  rcases hks with rfl|rfl|rfl|rfl|rfl|rfl|rfl|rfl|rfl|rfl
  ·have hE:=EE fi fg fn ff fa fb fs items.length;have hL:=ry.out;rw[hE]at hL;(try simp only[Qn]at hL)
   have HL:Hid _:=Qh hL;have HE:=Qh hE;clear hL hE;have lZ:=Qh (vJ W1 fi);go_wp2_with fail;refine lZ.out.mono ?_;rintro e u1 ⟨v1,rfl,ho,hb⟩;obtain⟨p1,c1,hv,_,_⟩:=ho.shape;generalize(iP fi).length=q1 at hv;subst hv;have dw:=Qh ho;have dU:=Qh hb;clear x0 x1 x2 x3 x4 x5 x6 x7 x8 xf ho hb;go_wp2_with fail;go_ret;exact Ih.out _ (.slice p1 q1 c1) _ HE.out.symm (List.eq_nil_of_length_eq_zero (by simpa using Na.out)) dU.out (dw.out)
  ·have hE:=EF fi fg fn ff fa fb fs items.length;have hL:=ry.out;rw[hE]at hL;(try simp only[Qn]at hL)
   have HL:Hid _:=Qh hL;have HE:=Qh hE;clear hL hE;have lZ:=Qh (pK W1 fn (by have:=HL.out;omega));go_wp2_with fail;refine lZ.out.mono ?_;rintro e u1 ⟨v1,rfl,ho,hb⟩;obtain⟨p1,c1,hv,_,_⟩:=ho.shape;generalize(cj fn).length=q1 at hv;subst hv;have dw:=Qh ho;have dU:=Qh hb;clear x0 x1 x2 x3 x4 x5 x6 x7 x8 xf ho hb;go_wp2_with fail;go_ret;exact Ih.out _ (.slice p1 q1 c1) _ HE.out.symm (List.eq_nil_of_length_eq_zero (by simpa using Na.out)) dU.out (dw.out)
  ·have hE:=EG fi fg fn ff fa fb fs items.length;have hL:=ry.out;rw[hE]at hL;(try simp only[Qn]at hL)
   have HL:Hid _:=Qh hL;have HE:=Qh hE;clear hL hE;have hr:=f_ W1 [104,byteOf items.length] 2 W1.heap.size rfl bu.out.size (by decide);have e:(([104,byteOf items.length]:List UInt8).flatMap bw).toArray=#[.int .u8 104,.int .u8 ((items.length:Int)%256)]:=by rw[←bF];rfl
   rw[e]at hr;have dw:=Qh hr;have dU:=Qh (aG bu.out (.cells #[.int .u8 104,.int .u8 ((items.length:Int)%256)] 5) bu.out.size);clear hr e;go_wp2_with fail;go_meet;case rel=>
    refine Qh ⟨?_,dU.out⟩;have h5:=dw.out;rw[HE.out];(try simp only[List.append_assoc]at h5)
    exact h5
  ·have hE:=EH fi fg fn ff fa fb fs items.length;have hL:=ry.out;rw[hE]at hL;(try simp only[Qn]at hL)
   have HL:Hid _:=Qh hL;have HE:=Qh hE;clear hL hE;have hr:=f_ W1 [106] 1 W1.heap.size rfl bu.out.size (by decide);have e:(([106]:List UInt8).flatMap bw).toArray=#[.int .u8 106]:=by rfl
   rw[e]at hr;have dw:=Qh hr;have dU:=Qh (aG bu.out (.cells #[.int .u8 106] 5) bu.out.size);clear hr e;go_wp2_with fail;go_ret;exact Ih.out _ (.slice (some ⟨W1.heap.size,0,none⟩) 1 1) _ HE.out.symm (List.eq_nil_of_length_eq_zero (by simpa using Na.out)) dU.out (dw.out)
  ·have YG:IntKind.i64.wrap ((items.length:Int)-1)=(items.length:Int)-1:=IntWalk.i64_in _ (by have:=C9.out;omega);have hE:=EI fi fg fn ff fa fb fs items.length;have hL:=ry.out;rw[hE]at hL;(try simp only[Qn]at hL)
   have HL:Hid _:=Qh hL;have HE:=Qh hE;clear hL hE;have hr:=f_ W1 [108] 1 W1.heap.size rfl bu.out.size (by decide);have e:(([108]:List UInt8).flatMap bw).toArray=#[.int .u8 108]:=by rfl
   rw[e]at hr;have dw:=Qh hr;have lg:=Qh (aG bu.out (.cells #[.int .u8 108] 5) bu.out.size);clear hr e;have lZ:=Qh (fL (W1.alloc (.cells #[.int .u8 108] 5)) ((items.length:Int)-1) 4 (by decide));obtain⟨y0,y1,y2,y3,y4,y5,y6,y7,y8,yf⟩:=HX.out _ lg.out;dsimp only at y0 y1 y2 y3 y4 y5 y6 y7 y8;go_wp2_with fail;refine lZ.out.mono ?_;rintro e u1 ⟨v1,rfl,ho,hb⟩;obtain⟨p1,c1,hv,_,_⟩:=ho.shape;generalize(bO ((items.length:Int)-1) 4).length=r1 at hv;subst hv;have dl:=Qh (ho.row (aU _));have oK:=Qh (dw.out.below hb)
   have oL:=Qh (lg.out.trans (hb.mono lg.out.size));have bT:=oL.out.size;clear x0 x1 x2 x3 x4 x5 x6 x7 x8 xf y0 y1 y2 y3 y4 y5 y6 y7 y8 yf ho hb;go_wp2_with (first
    | (refine ay rW rfl (.tmp 29) (.tmp 34) rfl rfl oK.out bT rfl dl.out (aU _) (by have:=HL.out;(try simp only[Qn]);(try simp only[Qn]at this);omega) ?_;intro v' w1 hA;obtain⟨zR,n7,hv,_,_⟩:=hA.own.shape;generalize(([108])++(bO ((items.length:Int)-1) 4)).length=q1 at hv;subst hv;have ig:Hid (dz bw 5 1 u1 W1.heap.size (.slice (some ⟨W1.heap.size,0,none⟩) 1 1) ([108]) (bO ((items.length:Int)-1) 4) (.slice zR q1 n7) w1):=Qh hA;clear hA))
   have dU:Hid (Qb W1 w1):=Qh (ig.out.bL oL.out bT (fun k hk=>(oK.out.lt hk).1));obtain⟨x0,x1,x2,x3,x4,x5,x6,x7,x8,xf⟩:=HX.out w1 dU.out;dsimp only at x0 x1 x2 x3 x4 x5 x6 x7 x8;go_wp2_with fail;go_meet;case rel=>
    refine Qh ⟨?_,dU.out⟩;have h5:=ig.out.own;rw[HE.out];(try simp only[List.append_assoc]at h5)
    exact h5
  ·by_cases h8:fs.tmod 8=0
   ·have hE:=AQ fi fg fn ff fa fb fs items.length h8;have hL:=ry.out;rw[hE]at hL;(try simp only[Qn]at hL)
    have HL:Hid _:=Qh hL;have HE:=Qh hE;clear hL hE;have hr:=f_ W1 [109] 1 W1.heap.size rfl bu.out.size (by decide);have e:(([109]:List UInt8).flatMap bw).toArray=#[.int .u8 109]:=by rfl
    rw[e]at hr;have dw:=Qh hr;have lg:=Qh (aG bu.out (.cells #[.int .u8 109] 5) bu.out.size);clear hr e;have lZ:=Qh (fL (W1.alloc (.cells #[.int .u8 109] 5)) fb.size 4 (by decide));obtain⟨y0,y1,y2,y3,y4,y5,y6,y7,y8,yf⟩:=HX.out _ lg.out;dsimp only at y0 y1 y2 y3 y4 y5 y6 y7 y8;go_wp2_with fail;refine lZ.out.mono ?_;rintro e u1 ⟨v1,rfl,ho,hb⟩;obtain⟨p1,c1,hv,_,_⟩:=ho.shape;generalize(bO fb.size 4).length=r1 at hv;subst hv;have dl:=Qh (ho.row (aU _));have oK:=Qh (dw.out.below hb);have oL:=Qh (lg.out.trans (hb.mono lg.out.size));have bT:=oL.out.size
    clear x0 x1 x2 x3 x4 x5 x6 x7 x8 xf y0 y1 y2 y3 y4 y5 y6 y7 y8 yf ho hb;go_upto_region 18 with(first
     | (refine ay rW rfl (.tmp 42) (.tmp 46) rfl rfl oK.out bT rfl dl.out (aU _) (by have:=HL.out;(try simp only[Qn]);(try simp only[Qn]at this);omega) ?_;intro v' w1 hA;obtain⟨zR,n7,hv,_,_⟩:=hA.own.shape;generalize(([109])++(bO fb.size 4)).length=q1 at hv;subst hv;have ig:Hid (dz bw 5 1 u1 W1.heap.size (.slice (some ⟨W1.heap.size,0,none⟩) 1 1) ([109]) (bO fb.size 4) (.slice zR q1 n7) w1):=Qh hA;clear hA))
    have dU:Hid (Qb W1 w1):=Qh (ig.out.bL oL.out bT (fun k hk=>(oK.out.lt hk).1));obtain⟨x0,x1,x2,x3,x4,x5,x6,x7,x8,xf⟩:=HX.out w1 dU.out;dsimp only at x0 x1 x2 x3 x4 x5 x6 x7 x8;have nu:=Qh (ig.out.own);have bX:=dU.out.size;go_wp2_with (first
     | (refine fX rfl (.tmp 61) (.tmp 63) rfl rfl nu.out bX rfl (by have:=HL.out;(try simp only[Qn]);(try simp only[Qn]at this);omega) ?_;intro v' w2 hA;obtain⟨Bb,oM,hv,_,_⟩:=hA.own.shape;generalize(([109]++bO fb.size 4)++kx fb).length=q2 at hv;subst hv;have lB:Hid (dz bw 5 1 w1 W1.heap.size (.slice zR q1 n7) ([109]++bO fb.size 4) (kx fb) (.slice Bb q2 oM) w2):=Qh hA;clear hA))
    have bS:Hid (Qb W1 w2):=Qh (lB.out.bL dU.out bX (fun k hk=>(nu.out.lt hk).1));go_wp2_with fail;go_ret;exact Ih.out _ (.slice Bb q2 oM) _ (by rw[HE.out];simp only[List.append_assoc]) (List.eq_nil_of_length_eq_zero (by simpa using Na.out)) bS.out (lB.out.own)
   ·have hE:=xP fi fg fn ff fa fb fs items.length h8;have hL:=ry.out;rw[hE]at hL;(try simp only[Qn]at hL)
    have HL:Hid _:=Qh hL;have HE:=Qh hE;clear hL hE;have hr:=f_ W1 [77] 1 W1.heap.size rfl bu.out.size (by decide);have e:(([77]:List UInt8).flatMap bw).toArray=#[.int .u8 77]:=by rfl
    rw[e]at hr;have dw:=Qh hr;have lg:=Qh (aG bu.out (.cells #[.int .u8 77] 5) bu.out.size);clear hr e;have lZ:=Qh (fL (W1.alloc (.cells #[.int .u8 77] 5)) fb.size 4 (by decide));obtain⟨y0,y1,y2,y3,y4,y5,y6,y7,y8,yf⟩:=HX.out _ lg.out;dsimp only at y0 y1 y2 y3 y4 y5 y6 y7 y8;go_wp2_with fail;refine lZ.out.mono ?_;rintro e u1 ⟨v1,rfl,ho,hb⟩;obtain⟨p1,c1,hv,_,_⟩:=ho.shape;generalize(bO fb.size 4).length=r1 at hv;subst hv;have dl:=Qh (ho.row (aU _));have oK:=Qh (dw.out.below hb);have oL:=Qh (lg.out.trans (hb.mono lg.out.size));have bT:=oL.out.size
    clear x0 x1 x2 x3 x4 x5 x6 x7 x8 xf y0 y1 y2 y3 y4 y5 y6 y7 y8 yf ho hb;go_upto_region 17 with(first
     | (refine ay rW rfl (.tmp 48) (.tmp 52) rfl rfl oK.out bT rfl dl.out (aU _) (by have:=HL.out;(try simp only[Qn]);(try simp only[Qn]at this);omega) ?_;intro v' w1 hA;obtain⟨zR,n7,hv,_,_⟩:=hA.own.shape;generalize(([77])++(bO fb.size 4)).length=q1 at hv;subst hv;have ig:Hid (dz bw 5 1 u1 W1.heap.size (.slice (some ⟨W1.heap.size,0,none⟩) 1 1) ([77]) (bO fb.size 4) (.slice zR q1 n7) w1):=Qh hA;clear hA))
    have dU:Hid (Qb W1 w1):=Qh (ig.out.bL oL.out bT (fun k hk=>(oK.out.lt hk).1));obtain⟨x0,x1,x2,x3,x4,x5,x6,x7,x8,xf⟩:=HX.out w1 dU.out;dsimp only at x0 x1 x2 x3 x4 x5 x6 x7 x8;have hrow:=lQ w1 [byteOf (fs.tmod 8)] 1 (Nat.le_refl _) (by decide);have e:(([byteOf (fs.tmod 8)]:List UInt8).flatMap bw).toArray=#[.int .u8 (fs.tmod 8%256)]:=by rw[←bF];rfl
    rw[e]at hrow;have dP:=Qh hrow;have rC:=Qh ((ig.out.own).below (aG (Below.refl w1.heap.size w1) (.cells #[.int .u8 (fs.tmod 8%256)] 5) (Nat.le_refl _)));have rD:=Qh (aG dU.out (.cells #[.int .u8 (fs.tmod 8%256)] 5) dU.out.size);have bX:=rD.out.size;clear hrow e;go_upto_region 18 with(first
     | (refine ay rW rfl (.tmp 54) (.tmp 59) rfl rfl rC.out bX rfl dP.out (aU _) (by have:=HL.out;(try simp only[Qn]);(try simp only[Qn]at this);omega) ?_;intro v' w2 hA;obtain⟨Bb,oM,hv,_,_⟩:=hA.own.shape;generalize(([77]++bO fb.size 4)++([byteOf (fs.tmod 8)])).length=q2 at hv;subst hv;have lB:Hid (dz bw 5 1 (w1.alloc (.cells #[.int .u8 (fs.tmod 8%256)] 5)) W1.heap.size (.slice zR q1 n7) ([77]++bO fb.size 4) ([byteOf (fs.tmod 8)]) (.slice Bb q2 oM) w2):=Qh hA;clear hA))
    have bS:Hid (Qb W1 w2):=Qh (lB.out.bL rD.out bX (fun k hk=>(rC.out.lt hk).1));clear x0 x1 x2 x3 x4 x5 x6 x7 x8 xf;obtain⟨x0,x1,x2,x3,x4,x5,x6,x7,x8,xf⟩:=HX.out w2 bS.out;dsimp only at x0 x1 x2 x3 x4 x5 x6 x7 x8;have Nb:=Qh (lB.out.own);have fY:=bS.out.size;go_wp2_with (first
     | (refine fX rfl (.tmp 61) (.tmp 63) rfl rfl Nb.out fY rfl (by have:=HL.out;(try simp only[Qn]);(try simp only[Qn]at this);omega) ?_;intro v' w3 hA;obtain⟨ET,rE,hv,_,_⟩:=hA.own.shape;generalize((([77]++bO fb.size 4)++[byteOf (fs.tmod 8)])++kx fb).length=q3 at hv;subst hv;have qY:Hid (dz bw 5 1 w2 W1.heap.size (.slice Bb q2 oM) (([77]++bO fb.size 4)++[byteOf (fs.tmod 8)]) (kx fb) (.slice ET q3 rE) w3):=Qh hA;clear hA))
    have dJ:Hid (Qb W1 w3):=Qh (qY.out.bL bS.out fY (fun k hk=>(Nb.out.lt hk).1));go_wp2_with fail;go_ret;exact Ih.out _ (.slice ET q3 rE) _ (by rw[HE.out];simp only[List.append_assoc]) (List.eq_nil_of_length_eq_zero (by simpa using Na.out)) dJ.out (qY.out.own)
  ·have hE:=EJ fi fg fn ff fa fb fs items.length;have hL:=ry.out;rw[hE]at hL;(try simp only[Qn]at hL)
   have HL:Hid _:=Qh hL;have HE:=Qh hE;clear hL hE;have hr:=f_ W1 [88] 1 W1.heap.size rfl bu.out.size (by decide);have e:(([88]:List UInt8).flatMap bw).toArray=#[.int .u8 88]:=by rfl
   rw[e]at hr;have dw:=Qh hr;have lg:=Qh (aG bu.out (.cells #[.int .u8 88] 5) bu.out.size);clear hr e;have lZ:=Qh (pK (W1.alloc (.cells #[.int .u8 88] 5)) fn (by have:=HL.out;omega));obtain⟨y0,y1,y2,y3,y4,y5,y6,y7,y8,yf⟩:=HX.out _ lg.out;dsimp only at y0 y1 y2 y3 y4 y5 y6 y7 y8;go_wp2_with fail;refine lZ.out.mono ?_;rintro e u1 ⟨v1,rfl,ho,hb⟩;obtain⟨p1,c1,hv,_,_⟩:=ho.shape;generalize(cj fn).length=r1 at hv;subst hv;have dl:=Qh (ho.row (aU _));have oK:=Qh (dw.out.below hb);have oL:=Qh (lg.out.trans (hb.mono lg.out.size));have bT:=oL.out.size
   clear x0 x1 x2 x3 x4 x5 x6 x7 x8 xf y0 y1 y2 y3 y4 y5 y6 y7 y8 yf ho hb;go_upto_region 21 with(first
    | (refine ay rW rfl (.tmp 67) (.tmp 70) rfl rfl oK.out bT rfl dl.out (aU _) (by have:=HL.out;(try simp only[Qn]);(try simp only[Qn]at this);omega) ?_;intro v' w1 hA;obtain⟨zR,n7,hv,_,_⟩:=hA.own.shape;generalize(([88])++(cj fn)).length=q1 at hv;subst hv;have ig:Hid (dz bw 5 1 u1 W1.heap.size (.slice (some ⟨W1.heap.size,0,none⟩) 1 1) ([88]) (cj fn) (.slice zR q1 n7) w1):=Qh hA;clear hA))
   have dU:Hid (Qb W1 w1):=Qh (ig.out.bL oL.out bT (fun k hk=>(oK.out.lt hk).1));obtain⟨x0,x1,x2,x3,x4,x5,x6,x7,x8,xf⟩:=HX.out w1 dU.out;dsimp only at x0 x1 x2 x3 x4 x5 x6 x7 x8;have nY:=Qh (fL w1 fi 4 (by decide));have nu:=Qh (ig.out.own);go_wp2_with fail;refine nY.out.mono ?_;rintro e u2 ⟨v2,rfl,ho,hb⟩;obtain⟨p2,c2,hv,_,_⟩:=ho.shape;generalize(bO fi 4).length=r2 at hv;subst hv;have dP:=Qh (ho.row (aU _));have rC:=Qh (nu.out.below hb);have rD:=Qh (dU.out.trans (hb.mono dU.out.size));have bX:=rD.out.size;clear x0 x1 x2 x3 x4 x5 x6 x7 x8 xf ho hb
   go_upto_region 22 with(first
    | (refine ay rW rfl (.tmp 72) (.tmp 75) rfl rfl rC.out bX rfl dP.out (aU _) (by have:=HL.out;(try simp only[Qn]);(try simp only[Qn]at this);omega) ?_;intro v' w2 hA;obtain⟨Bb,oM,hv,_,_⟩:=hA.own.shape;generalize(([88]++cj fn)++(bO fi 4)).length=q2 at hv;subst hv;have lB:Hid (dz bw 5 1 u2 W1.heap.size (.slice zR q1 n7) ([88]++cj fn) (bO fi 4) (.slice Bb q2 oM) w2):=Qh hA;clear hA))
   have bS:Hid (Qb W1 w2):=Qh (lB.out.bL rD.out bX (fun k hk=>(rC.out.lt hk).1));obtain⟨x0,x1,x2,x3,x4,x5,x6,x7,x8,xf⟩:=HX.out w2 bS.out;dsimp only at x0 x1 x2 x3 x4 x5 x6 x7 x8;have hrow:=lQ w2 (bO 0 4) 4 (Nat.le_refl _) (by decide);have e:(((bO 0 4):List UInt8).flatMap bw).toArray=#[.int .u8 0,.int .u8 0,.int .u8 0,.int .u8 0]:=by rfl
   rw[e]at hrow;have py:=Qh hrow;have vK:=Qh ((lB.out.own).below (aG (Below.refl w2.heap.size w2) (.cells #[.int .u8 0,.int .u8 0,.int .u8 0,.int .u8 0] 5) (Nat.le_refl _)));have vL:=Qh (aG bS.out (.cells #[.int .u8 0,.int .u8 0,.int .u8 0,.int .u8 0] 5) bS.out.size);have fY:=vL.out.size;clear hrow e;go_upto_region 23 with(first
    | (refine ay rW rfl (.tmp 77) (.tmp 78) rfl rfl vK.out fY rfl py.out (aU _) (by have:=HL.out;(try simp only[Qn]);(try simp only[Qn]at this);omega) ?_;intro v' w3 hA;obtain⟨ET,rE,hv,_,_⟩:=hA.own.shape;generalize((([88]++cj fn)++bO fi 4)++((bO 0 4))).length=q3 at hv;subst hv;have qY:Hid (dz bw 5 1 (w2.alloc (.cells #[.int .u8 0,.int .u8 0,.int .u8 0,.int .u8 0] 5)) W1.heap.size (.slice Bb q2 oM) (([88]++cj fn)++bO fi 4) ((bO 0 4)) (.slice ET q3 rE) w3):=Qh hA;clear hA))
   have dJ:Hid (Qb W1 w3):=Qh (qY.out.bL vL.out fY (fun k hk=>(vK.out.lt hk).1));clear x0 x1 x2 x3 x4 x5 x6 x7 x8 xf;obtain⟨x0,x1,x2,x3,x4,x5,x6,x7,x8,xf⟩:=HX.out w3 dJ.out;dsimp only at x0 x1 x2 x3 x4 x5 x6 x7 x8;have Q0:=Qh (fL w3 fg 4 (by decide));have So:=Qh (qY.out.own);go_wp2_with fail;refine Q0.out.mono ?_;rintro e u4 ⟨v4,rfl,ho,hb⟩;obtain⟨p4,c4,hv,_,_⟩:=ho.shape;generalize(bO fg 4).length=r4 at hv;subst hv;have yQ:=Qh (ho.row (aU _));have Il:=Qh (So.out.below hb);have Im:=Qh (dJ.out.trans (hb.mono dJ.out.size));have eA:=Im.out.size
   clear x0 x1 x2 x3 x4 x5 x6 x7 x8 xf ho hb;go_wp2_with (first
    | (refine ay rW rfl (.tmp 80) (.tmp 83) rfl rfl Il.out eA rfl yQ.out (aU _) (by have:=HL.out;(try simp only[Qn]);(try simp only[Qn]at this);omega) ?_;intro v' w4 hA;obtain⟨Uz,Ll,hv,_,_⟩:=hA.own.shape;generalize(((([88]++cj fn)++bO fi 4)++(bO 0 4))++(bO fg 4)).length=q4 at hv;subst hv;have yL:Hid (dz bw 5 1 u4 W1.heap.size (.slice ET q3 rE) ((([88]++cj fn)++bO fi 4)++(bO 0 4)) (bO fg 4) (.slice Uz q4 Ll) w4):=Qh hA;clear hA))
   have lG:Hid (Qb W1 w4):=Qh (yL.out.bL Im.out eA (fun k hk=>(Il.out.lt hk).1));obtain⟨x0,x1,x2,x3,x4,x5,x6,x7,x8,xf⟩:=HX.out w4 lG.out;dsimp only at x0 x1 x2 x3 x4 x5 x6 x7 x8;go_wp2_with fail;go_ret;exact Ih.out _ (.slice Uz q4 Ll) _ (by rw[HE.out];simp only[List.append_assoc]) (List.eq_nil_of_length_eq_zero (by simpa using Na.out)) lG.out (yL.out.own)
  ·have hE:=EK fi fg fn ff fa fb fs items.length;have hL:=ry.out;rw[hE]at hL;(try simp only[Qn]at hL)
   have HL:Hid _:=Qh hL;have HE:=Qh hE;clear hL hE;have hr:=f_ W1 [90,0,1] 3 W1.heap.size rfl bu.out.size (by decide);have e:(([90,0,1]:List UInt8).flatMap bw).toArray=#[.int .u8 90,.int .u8 0,.int .u8 1]:=by rfl
   rw[e]at hr;have dw:=Qh hr;have lg:=Qh (aG bu.out (.cells #[.int .u8 90,.int .u8 0,.int .u8 1] 5) bu.out.size);clear hr e;have lZ:=Qh (pK (W1.alloc (.cells #[.int .u8 90,.int .u8 0,.int .u8 1] 5)) fn (by have:=HL.out;omega));obtain⟨y0,y1,y2,y3,y4,y5,y6,y7,y8,yf⟩:=HX.out _ lg.out;dsimp only at y0 y1 y2 y3 y4 y5 y6 y7 y8;go_wp2_with fail;refine lZ.out.mono ?_;rintro e u1 ⟨v1,rfl,ho,hb⟩;obtain⟨p1,c1,hv,_,_⟩:=ho.shape;generalize(cj fn).length=r1 at hv;subst hv;have dl:=Qh (ho.row (aU _));have oK:=Qh (dw.out.below hb)
   have oL:=Qh (lg.out.trans (hb.mono lg.out.size));have bT:=oL.out.size;clear x0 x1 x2 x3 x4 x5 x6 x7 x8 xf y0 y1 y2 y3 y4 y5 y6 y7 y8 yf ho hb;go_upto_region 26 with(first
    | (refine ay rW rfl (.tmp 87) (.tmp 90) rfl rfl oK.out bT rfl dl.out (aU _) (by have:=HL.out;(try simp only[Qn]);(try simp only[Qn]at this);omega) ?_;intro v' w1 hA;obtain⟨zR,n7,hv,_,_⟩:=hA.own.shape;generalize(([90,0,1])++(cj fn)).length=q1 at hv;subst hv;have ig:Hid (dz bw 5 1 u1 W1.heap.size (.slice (some ⟨W1.heap.size,0,none⟩) 3 3) ([90,0,1]) (cj fn) (.slice zR q1 n7) w1):=Qh hA;clear hA))
   have dU:Hid (Qb W1 w1):=Qh (ig.out.bL oL.out bT (fun k hk=>(oK.out.lt hk).1));obtain⟨x0,x1,x2,x3,x4,x5,x6,x7,x8,xf⟩:=HX.out w1 dU.out;dsimp only at x0 x1 x2 x3 x4 x5 x6 x7 x8;have nY:=Qh (fL w1 fg 4 (by decide));have nu:=Qh (ig.out.own);go_wp2_with fail;refine nY.out.mono ?_;rintro e u2 ⟨v2,rfl,ho,hb⟩;obtain⟨p2,c2,hv,_,_⟩:=ho.shape;generalize(bO fg 4).length=r2 at hv;subst hv;have dP:=Qh (ho.row (aU _));have rC:=Qh (nu.out.below hb);have rD:=Qh (dU.out.trans (hb.mono dU.out.size));have bX:=rD.out.size;clear x0 x1 x2 x3 x4 x5 x6 x7 x8 xf ho hb
   go_upto_region 27 with(first
    | (refine ay rW rfl (.tmp 92) (.tmp 95) rfl rfl rC.out bX rfl dP.out (aU _) (by have:=HL.out;(try simp only[Qn]);(try simp only[Qn]at this);omega) ?_;intro v' w2 hA;obtain⟨Bb,oM,hv,_,_⟩:=hA.own.shape;generalize(([90,0,1]++cj fn)++(bO fg 4)).length=q2 at hv;subst hv;have lB:Hid (dz bw 5 1 u2 W1.heap.size (.slice zR q1 n7) ([90,0,1]++cj fn) (bO fg 4) (.slice Bb q2 oM) w2):=Qh hA;clear hA))
   have bS:Hid (Qb W1 w2):=Qh (lB.out.bL rD.out bX (fun k hk=>(rC.out.lt hk).1));obtain⟨x0,x1,x2,x3,x4,x5,x6,x7,x8,xf⟩:=HX.out w2 bS.out;dsimp only at x0 x1 x2 x3 x4 x5 x6 x7 x8;have u9:=Qh (fL w2 fi 4 (by decide));have Nb:=Qh (lB.out.own);go_wp2_with fail;refine u9.out.mono ?_;rintro e u3 ⟨v3,rfl,ho,hb⟩;obtain⟨p3,c3,hv,_,_⟩:=ho.shape;generalize(bO fi 4).length=r3 at hv;subst hv;have py:=Qh (ho.row (aU _));have vK:=Qh (Nb.out.below hb);have vL:=Qh (bS.out.trans (hb.mono bS.out.size));have fY:=vL.out.size;clear x0 x1 x2 x3 x4 x5 x6 x7 x8 xf ho hb
   go_wp2_with (first
    | (refine ay rW rfl (.tmp 97) (.tmp 100) rfl rfl vK.out fY rfl py.out (aU _) (by have:=HL.out;(try simp only[Qn]);(try simp only[Qn]at this);omega) ?_;intro v' w3 hA;obtain⟨ET,rE,hv,_,_⟩:=hA.own.shape;generalize((([90,0,1]++cj fn)++bO fg 4)++(bO fi 4)).length=q3 at hv;subst hv;have qY:Hid (dz bw 5 1 u3 W1.heap.size (.slice Bb q2 oM) (([90,0,1]++cj fn)++bO fg 4) (bO fi 4) (.slice ET q3 rE) w3):=Qh hA;clear hA))
   have dJ:Hid (Qb W1 w3):=Qh (qY.out.bL vL.out fY (fun k hk=>(vK.out.lt hk).1));obtain⟨x0,x1,x2,x3,x4,x5,x6,x7,x8,xf⟩:=HX.out w3 dJ.out;dsimp only at x0 x1 x2 x3 x4 x5 x6 x7 x8;go_wp2_with fail;go_ret;exact Ih.out _ (.slice ET q3 rE) _ (by rw[HE.out];simp only[List.append_assoc]) (List.eq_nil_of_length_eq_zero (by simpa using Na.out)) dJ.out (qY.out.own)
  ·have hE:=EL fi fg fn ff fa fb fs items.length;have hL:=ry.out;rw[hE]at hL;(try simp only[Qn]at hL)
   have HL:Hid _:=Qh hL;have HE:=Qh hE;clear hL hE;have hr:=f_ W1 [113] 1 W1.heap.size rfl bu.out.size (by decide);have e:(([113]:List UInt8).flatMap bw).toArray=#[.int .u8 113]:=by rfl
   rw[e]at hr;have dw:=Qh hr;have lg:=Qh (aG bu.out (.cells #[.int .u8 113] 5) bu.out.size);clear hr e;have lZ:=Qh (pK (W1.alloc (.cells #[.int .u8 113] 5)) fn (by have:=HL.out;omega));obtain⟨y0,y1,y2,y3,y4,y5,y6,y7,y8,yf⟩:=HX.out _ lg.out;dsimp only at y0 y1 y2 y3 y4 y5 y6 y7 y8;go_wp2_with fail;refine lZ.out.mono ?_;rintro e u1 ⟨v1,rfl,ho,hb⟩;obtain⟨p1,c1,hv,_,_⟩:=ho.shape;generalize(cj fn).length=r1 at hv;subst hv;have dl:=Qh (ho.row (aU _));have oK:=Qh (dw.out.below hb);have oL:=Qh (lg.out.trans (hb.mono lg.out.size));have bT:=oL.out.size
   clear x0 x1 x2 x3 x4 x5 x6 x7 x8 xf y0 y1 y2 y3 y4 y5 y6 y7 y8 yf ho hb;go_upto_region 30 with(first
    | (refine ay rW rfl (.tmp 104) (.tmp 107) rfl rfl oK.out bT rfl dl.out (aU _) (by have:=HL.out;(try simp only[Qn]);(try simp only[Qn]at this);omega) ?_;intro v' w1 hA;obtain⟨zR,n7,hv,_,_⟩:=hA.own.shape;generalize(([113])++(cj fn)).length=q1 at hv;subst hv;have ig:Hid (dz bw 5 1 u1 W1.heap.size (.slice (some ⟨W1.heap.size,0,none⟩) 1 1) ([113]) (cj fn) (.slice zR q1 n7) w1):=Qh hA;clear hA))
   have dU:Hid (Qb W1 w1):=Qh (ig.out.bL oL.out bT (fun k hk=>(oK.out.lt hk).1));obtain⟨x0,x1,x2,x3,x4,x5,x6,x7,x8,xf⟩:=HX.out w1 dU.out;dsimp only at x0 x1 x2 x3 x4 x5 x6 x7 x8;have nY:=Qh (pK w1 ff (by have:=HL.out;omega));have nu:=Qh (ig.out.own);go_wp2_with fail;refine nY.out.mono ?_;rintro e u2 ⟨v2,rfl,ho,hb⟩;obtain⟨p2,c2,hv,_,_⟩:=ho.shape;generalize(cj ff).length=r2 at hv;subst hv;have dP:=Qh (ho.row (aU _));have rC:=Qh (nu.out.below hb);have rD:=Qh (dU.out.trans (hb.mono dU.out.size));have bX:=rD.out.size
   clear x0 x1 x2 x3 x4 x5 x6 x7 x8 xf ho hb;go_upto_region 31 with(first
    | (refine ay rW rfl (.tmp 109) (.tmp 112) rfl rfl rC.out bX rfl dP.out (aU _) (by have:=HL.out;(try simp only[Qn]);(try simp only[Qn]at this);omega) ?_;intro v' w2 hA;obtain⟨Bb,oM,hv,_,_⟩:=hA.own.shape;generalize(([113]++cj fn)++(cj ff)).length=q2 at hv;subst hv;have lB:Hid (dz bw 5 1 u2 W1.heap.size (.slice zR q1 n7) ([113]++cj fn) (cj ff) (.slice Bb q2 oM) w2):=Qh hA;clear hA))
   have bS:Hid (Qb W1 w2):=Qh (lB.out.bL rD.out bX (fun k hk=>(rC.out.lt hk).1));obtain⟨x0,x1,x2,x3,x4,x5,x6,x7,x8,xf⟩:=HX.out w2 bS.out;dsimp only at x0 x1 x2 x3 x4 x5 x6 x7 x8;have u9:=Qh (vJ w2 fa);have Nb:=Qh (lB.out.own);go_wp2_with fail;refine u9.out.mono ?_;rintro e u3 ⟨v3,rfl,ho,hb⟩;obtain⟨p3,c3,hv,_,_⟩:=ho.shape;generalize(iP fa).length=r3 at hv;subst hv;have py:=Qh (ho.row (aU _));have vK:=Qh (Nb.out.below hb);have vL:=Qh (bS.out.trans (hb.mono bS.out.size));have fY:=vL.out.size;clear x0 x1 x2 x3 x4 x5 x6 x7 x8 xf ho hb
   go_wp2_with (first
    | (refine ay rW rfl (.tmp 114) (.tmp 117) rfl rfl vK.out fY rfl py.out (aU _) (by have:=HL.out;(try simp only[Qn]);(try simp only[Qn]at this);omega) ?_;intro v' w3 hA;obtain⟨ET,rE,hv,_,_⟩:=hA.own.shape;generalize((([113]++cj fn)++cj ff)++(iP fa)).length=q3 at hv;subst hv;have qY:Hid (dz bw 5 1 u3 W1.heap.size (.slice Bb q2 oM) (([113]++cj fn)++cj ff) (iP fa) (.slice ET q3 rE) w3):=Qh hA;clear hA))
   have dJ:Hid (Qb W1 w3):=Qh (qY.out.bL vL.out fY (fun k hk=>(vK.out.lt hk).1));obtain⟨x0,x1,x2,x3,x4,x5,x6,x7,x8,xf⟩:=HX.out w3 dJ.out;dsimp only at x0 x1 x2 x3 x4 x5 x6 x7 x8;go_wp2_with fail;go_ret;exact Ih.out _ (.slice ET q3 rE) _ (by rw[HE.out];simp only[List.append_assoc]) (List.eq_nil_of_length_eq_zero (by simpa using Na.out)) dJ.out (qY.out.own)
  ·have hE:=EM fi fg fn ff fa fb fs items.length;have hL:=ry.out;rw[hE]at hL;(try simp only[Qn]at hL)
   have HL:Hid _:=Qh hL;have HE:=Qh hE;clear hL hE;go_upto_region 33 with(fail);go_cut [3] from 121 (fun v wc=>Hid (M_ ([112,byteOf fa]++bO fi 2) W1 v wc))
   case first=>
    have HC:Hid (∀W,Calls Tryz.prog 105 #[.int .i64 fi,.int .i64 2] W (vI (bO fi 2) W)):=Qh (fun W=>fL W fi 2 (by decide));have e:([112,byteOf fa].flatMap bw).toArray=#[.int .u8 112,.int .u8 (IntKind.u8.wrap fa)]:=by rw[ML];rfl
    have Wv:=fun(W:World) (hW:Qb W1 W)=>f_ W [112,byteOf fa] 2 W1.heap.size rfl hW.size (by decide);rw[e]at Wv;have YK:=Qh Wv;clear e Wv;have hbd:=aZ (Below.refl W1.heap.size W1);have HD:=Qh hbd;have YL:Hid (Qb W1 (W1.alloc (.cells #[.int .u8 112,.int .u8 (IntKind.u8.wrap fa)] 5)).drew):=Qh (aZ (aG (Below.refl W1.heap.size W1) (.cells #[.int .u8 112,.int .u8 (IntKind.u8.wrap fa)] 5) (Nat.le_refl _)))
    have HRA:Hid (aA bw 5 1 (W1.alloc (.cells #[.int .u8 112,.int .u8 (IntKind.u8.wrap fa)] 5)).drew W1.heap.size (.slice (some ⟨W1.heap.size,0,none⟩) 2 2) [112,byteOf fa]):=Qh ((YK.out W1 (Below.refl _ _)).below (aZ (Below.refl _ _)));obtain⟨y0,y1,y2,y3,y4,y5,y6,y7,y8,yf⟩:=HX.out _ hbd;dsimp only at y0 y1 y2 y3 y4 y5 y6 y7 y8
    go_region_held3 (fun w'=>w'.cell? ⟨z,5,none⟩=some (.int .i64 fa)∧w'.cell? ⟨z,1,none⟩=some (.int .i64 fi)) (go_keep)
     (first
       | (go_at_call 105;(with_reducible refine(HC.out (W1.alloc (.cells #[.int .u8 112,.int .u8 (IntKind.u8.wrap fa)] 5)).drew).mono ?_);rintro e u1 ⟨v1,rfl,ho,hb⟩;have hu:=YL.out.trans (hb.mono YL.out.size);have hown:=HRA.out.below hb;obtain⟨x0,x1,x2,x3,x4,x5,x6,x7,x8,xf⟩:=HX.out u1 hu;dsimp only at x0 x1 x2 x3 x4 x5 x6 x7 x8;obtain⟨p1,c1,hv,_,_⟩:=ho.shape;generalize(bO fi 2).length=r1 at hv;subst hv;have hsrc:=ho.row (aU _))
       | (go_at_call 105;(with_reducible refine(HC.out W1.drew).mono ?_);rintro e u1 ⟨v1,rfl,ho,hb⟩;have Sc:=HD.out.trans (hb.mono HD.out.size);obtain⟨x0,x1,x2,x3,x4,x5,x6,x7,x8,xf⟩:=HX.out u1 Sc;dsimp only at x0 x1 x2 x3 x4 x5 x6 x7 x8;obtain⟨p1,c1,hv,_,_⟩:=ho.shape;generalize(bO fi 2).length=r1 at hv;subst hv;have hown:=YK.out u1 Sc;have hu:=aG Sc (.cells #[.int .u8 112,.int .u8 (IntKind.u8.wrap fa)] 5) Sc.size;have hsrc:=(ho.below (aG (Below.refl u1.heap.size u1) (.cells #[.int .u8 112,.int .u8 (IntKind.u8.wrap fa)] 5) (Nat.le_refl _))).row (aU _))
       | (refine tT rW rfl (.tmp 124) (.tmp 127) rfl rfl hown hu.size rfl hsrc (aU _) (by simp[dm]) ?_;intro v' w8 hA;have qp:=hA.bL hu hu.size (fun k hk=>(hown.lt hk).1);have ho8:=hA.own;obtain⟨sF,cap',YM,_,_⟩:=hA.own.shape;generalize([112,byteOf fa]++bO fi 2).length=r2 at YM;subst YM;obtain⟨x0,x1,x2,x3,x4,x5,x6,x7,x8,xf⟩:=HX.out w8 qp;dsimp only at x0 x1 x2 x3 x4 x5 x6 x7 x8)
       | fail)
    all_goals
     (try go_wp2_with fail)
     go_meet;exact Qh ⟨ho8,qp⟩
   case rest=>
    obtain⟨FX,SB⟩:=hcut.out;clear hcut x0 x1 x2 x3 x4 x5 x6 x7 x8 xf;obtain⟨zR,n7,hv,_,_⟩:=FX.shape;generalize([112,byteOf fa]++bO fi 2).length=q1 at hv;subst hv;have HO1:=Qh FX;have OA:=Qh SB;clear FX SB;generalize wc=w1 at*;obtain⟨x0,x1,x2,x3,x4,x5,x6,x7,x8,xf⟩:=HX.out w1 OA.out;dsimp only at x0 x1 x2 x3 x4 x5 x6 x7 x8;have dU:=Qh OA.out;have hrow:=lQ w1 [byteOf items.length] 1 (Nat.le_refl _) (by decide);have e:(([byteOf items.length]:List UInt8).flatMap bw).toArray=#[.int .u8 ((items.length:Int)%256)]:=by rw[←bF];rfl
    rw[e]at hrow;have dP:=Qh hrow;have rC:=Qh ((HO1.out).below (aG (Below.refl w1.heap.size w1) (.cells #[.int .u8 ((items.length:Int)%256)] 5) (Nat.le_refl _)));have rD:=Qh (aG dU.out (.cells #[.int .u8 ((items.length:Int)%256)] 5) dU.out.size);have bX:=rD.out.size;clear hrow e;go_upto_region 35 with(first
     | (refine ay rW rfl (.tmp 129) (.tmp 134) rfl rfl rC.out bX rfl dP.out (aU _) (by have:=HL.out;(try simp only[Qn]);(try simp only[Qn]at this);omega) ?_;intro v' w2 hA;obtain⟨Bb,oM,hv,_,_⟩:=hA.own.shape;generalize(([112,byteOf fa]++bO fi 2)++([byteOf items.length])).length=q2 at hv;subst hv;have lB:Hid (dz bw 5 1 (w1.alloc (.cells #[.int .u8 ((items.length:Int)%256)] 5)) W1.heap.size (.slice zR q1 n7) ([112,byteOf fa]++bO fi 2) ([byteOf items.length]) (.slice Bb q2 oM) w2):=Qh hA;clear hA))
    have bS:Hid (Qb W1 w2):=Qh (lB.out.bL rD.out bX (fun k hk=>(rC.out.lt hk).1));clear x0 x1 x2 x3 x4 x5 x6 x7 x8 xf;obtain⟨x0,x1,x2,x3,x4,x5,x6,x7,x8,xf⟩:=HX.out w2 bS.out;dsimp only at x0 x1 x2 x3 x4 x5 x6 x7 x8;have u9:=Qh (pK w2 fn (by have:=HL.out;omega));have Nb:=Qh (lB.out.own);go_wp2_with fail;refine u9.out.mono ?_;rintro e u3 ⟨v3,rfl,ho,hb⟩;obtain⟨p3,c3,hv,_,_⟩:=ho.shape;generalize(cj fn).length=r3 at hv;subst hv;have py:=Qh (ho.row (aU _));have vK:=Qh (Nb.out.below hb);have vL:=Qh (bS.out.trans (hb.mono bS.out.size));have fY:=vL.out.size
    clear x0 x1 x2 x3 x4 x5 x6 x7 x8 xf ho hb;go_upto_region 36 with(first
     | (refine ay rW rfl (.tmp 136) (.tmp 139) rfl rfl vK.out fY rfl py.out (aU _) (by have:=HL.out;(try simp only[Qn]);(try simp only[Qn]at this);omega) ?_;intro v' w3 hA;obtain⟨ET,rE,hv,_,_⟩:=hA.own.shape;generalize((([112,byteOf fa]++bO fi 2)++[byteOf items.length])++(cj fn)).length=q3 at hv;subst hv;have qY:Hid (dz bw 5 1 u3 W1.heap.size (.slice Bb q2 oM) (([112,byteOf fa]++bO fi 2)++[byteOf items.length]) (cj fn) (.slice ET q3 rE) w3):=Qh hA;clear hA))
    have dJ:Hid (Qb W1 w3):=Qh (qY.out.bL vL.out fY (fun k hk=>(vK.out.lt hk).1));obtain⟨x0,x1,x2,x3,x4,x5,x6,x7,x8,xf⟩:=HX.out w3 dJ.out;dsimp only at x0 x1 x2 x3 x4 x5 x6 x7 x8;have Q0:=Qh (fL w3 fg 4 (by decide));have So:=Qh (qY.out.own);go_wp2_with fail;refine Q0.out.mono ?_;rintro e u4 ⟨v4,rfl,ho,hb⟩;obtain⟨p4,c4,hv,_,_⟩:=ho.shape;generalize(bO fg 4).length=r4 at hv;subst hv;have yQ:=Qh (ho.row (aU _));have Il:=Qh (So.out.below hb);have Im:=Qh (dJ.out.trans (hb.mono dJ.out.size));have eA:=Im.out.size;clear x0 x1 x2 x3 x4 x5 x6 x7 x8 xf ho hb
    go_wp2_with (first
     | (refine ay rW rfl (.tmp 141) (.tmp 144) rfl rfl Il.out eA rfl yQ.out (aU _) (by have:=HL.out;(try simp only[Qn]);(try simp only[Qn]at this);omega) ?_;intro v' w4 hA;obtain⟨Uz,Ll,hv,_,_⟩:=hA.own.shape;generalize(((([112,byteOf fa]++bO fi 2)++[byteOf items.length])++cj fn)++(bO fg 4)).length=q4 at hv;subst hv;have yL:Hid (dz bw 5 1 u4 W1.heap.size (.slice ET q3 rE) ((([112,byteOf fa]++bO fi 2)++[byteOf items.length])++cj fn) (bO fg 4) (.slice Uz q4 Ll) w4):=Qh hA;clear hA))
    have lG:Hid (Qb W1 w4):=Qh (yL.out.bL Im.out eA (fun k hk=>(Il.out.lt hk).1));obtain⟨x0,x1,x2,x3,x4,x5,x6,x7,x8,xf⟩:=HX.out w4 lG.out;dsimp only at x0 x1 x2 x3 x4 x5 x6 x7 x8;go_wp2_with fail;go_meet;case rel=>
     refine Qh ⟨?_,lG.out⟩;have h5:=yL.out.own;rw[HE.out];(try simp only[List.append_assoc]at h5)
     exact h5
 case rest=>
  obtain⟨mj,aD⟩:=hcut.out;clear hcut x0 x1 x2 x3 x4 x5 x6 x7 x8 xf hk bu;have eU:Hid (∀W' u,aA bw 5 1 W' W1.heap.size u (eE ⟨fk,fi,fg,fn,ff,fa,fb,fs⟩ items.length++iQ n items)→Qb W1 W'→vI (eE ⟨fk,fi,fg,fn,ff,fa,fb,fs⟩ items.length++iQ n items) w (.returned u) W'):=Qh (fun W' u ho hb=>by
   refine⟨u,rfl,ho.base (fun k hk=>?_),?_⟩
   ·have:=(ho.lt hk).1
    have:=dU.out.2
    have:=M3.out
    omega
   ·have:=hb.mono (B':=w.heap.size) (by have:=dU.out.2;have:=M3.out;omega)
    rw[M3.out]at this ⊢
    exact sG.out.trans this)
  have Wr:Hid ((eE ⟨fk,fi,fg,fn,ff,fa,fb,fs⟩ items.length).length+(iQ n items).length≤400000000):=Qh (by have:=ry.out;have:=tU.out;have:=ny.out;omega);have iL:Hid (M9 (eE ⟨fk,fi,fg,fn,ff,fa,fb,fs⟩ items.length) items W1 items.length u3 (.int .i64 0) wc):=Qh ⟨0,rfl,Nat.zero_le _,rfl,by rw[List.take_zero,uZ,List.append_nil];exact mj,aD⟩;obtain⟨x0,x1,x2,x3,x4,x5,x6,x7,x8,xf⟩:=HX.out wc aD;dsimp only at x0 x1 x2 x3 x4 x5 x6 x7 x8;generalize eE ⟨fk,fi,fg,fn,ff,fa,fb,fs⟩ items.length=hd at*;clear mj aD Ih ry;go_wp2_with fail
  clear x0 x1 x2 x3 x4 x5 x6 x7 x8 xf;go_loopg [3,4] items.length (fun m ov iv wr=>Hid (M9 hd items W1 m ov iv wr))
  case atStart=>exact iL
  case round=>
   obtain⟨i,rfl,hi,hm,hown,au⟩:=hrel.out;clear hrel iL;obtain⟨po,co,hv,_,_⟩:=hown.shape;generalize Ww:(hd++iQ n (items.take i)).length=q at hv;subst hv;have HM:=Qh hm;have mE:=Qh hown;have Wx:=Qh au;have HQl:=Qh Ww;clear hm hown Ww;obtain⟨x0,x1,x2,x3,x4,x5,x6,x7,x8,xf⟩:=HX.out wr au;dsimp only at x0 x1 x2 x3 x4 x5 x6 x7 x8;have MS:=C9.out
   by_cases hlt:i<items.length
   ·obtain⟨g,o,x,qq,mm,d,bs,hp,hg,hC,CO,kj,cT⟩:=Oz (w:=wr) ih (B:=B) (by have:=dU.out;have:=au.size;omega) (Sm.out.below au (by have:=dU.out;omega)) Sl.out i hlt (by have:=ny.out;omega);subst hp;have cL:=Qh cT;have N3:=Qh CO;have HBl:Hid ((hd++iQ n (items.take i)).length+bs.length≤1000000000):=Qh (by
     have h1:=kY n (items.take (i+1)) (tG Sl.out (i+1))
     rw[CO,List.length_append]at h1
     rw[List.length_append]
     have h2:=Dd items (i+1)
     have:=Wr.out
     have:=ny.out
     omega)
    clear cT CO hg kj;obtain⟨c0,c1,c2,c3,c4,c5,c6,c7,c8⟩:=hC;obtain⟨y0,y1,y2,y3,y4,y5,y6,y7⟩:=x;dsimp only at c0 c1 c2 c3 c4 c5 c6 c7 c8;unfold aj at cL;dsimp only at cL;go_wp2_with fail;refine cL.out.mono ?_;rintro e u1 ⟨v1,rfl,ho,hb⟩;obtain⟨p1,NA,hv,_,_⟩:=ho.shape;generalize bs.length=r1 at hv;subst hv;have dl:=Qh (ho.row (aU _));have dw:=Qh (mE.out.below hb);have YN:=Qh (Wx.out.trans (hb.mono Wx.out.size));have YO:=YN.out.size;clear ho hb c0 c1 c2 c3 c4 c5 c6 c7 c8 x0 x1 x2 x3 x4 x5 x6 x7 x8 xf;go_wp2_with (first
     | (refine ay rW rfl (.tmp 153) (.tmp 159) rfl rfl dw.out YO rfl dl.out (aU _) HBl.out ?_;intro v' w8 hA;obtain⟨sF,cap',hv,_,_⟩:=hA.own.shape;generalize jO:((hd++iQ n (items.take i))++bs).length=q2 at hv;subst hv;have HA:Hid (dz bw 5 1 u1 W1.heap.size (.slice po q co) (hd++iQ n (items.take i)) bs (.slice sF q2 cap') w8):=Qh hA;clear hA))
    go_roundg (items.length-(i+1))
    case measure=>have:=HM.out;omega
    case rel=>
     refine Qh ⟨i+1,by go_num,by omega,rfl,?_,HA.out.bL YN.out YO (fun k hk=>(dw.out.lt hk).1)⟩;rw[N3.out,←List.append_assoc];exact HA.out.own
   ·obtain rfl:i=items.length:=by omega
    go_wp2_with fail;go_ret;have ho:=mE.out;rw[List.take_length]at ho;exact eU.out _ (.slice po q co) ho Wx.out
theorem Lm:∀n,ES n:=by
 intro n
 induction n with
 | zero=>exact Ba (fun m h=>by omega)
 | succ n ih=>exact Ba (fun m h=>by
  obtain rfl:n=m:=by omega
  exact ih)
end Go.Proofs.YtfbggmbmgohiiaaGreat.tb
