/- TbL,TcH,TcI,TcJ. No condition beyond theirs. -/
import Derived.Test.YtfbggmbmgohiiaaGreatR35
import Derived.Laws.BytesString
import Derived.Laws.Cells
set_option linter.unusedSimpArgs false
set_option linter.unusedVariables false
set_option maxHeartbeats 4000000
set_option maxRecDepth 100000
namespace Go.Proofs.YtfbggmbmgohiiaaGreat.tb
open Go.RowKit mem rec tm names
theorem fold_push:∀(l:List UInt8) (r:ByteArray),(l.map (fun b=>(b.toNat:Int))).foldl (fun(r:ByteArray) (n:Int)=>r.push (UInt8.ofNat n.toNat)) r=⟨r.data++l.toArray⟩:=by
 intro l
 induction l with
 | nil=>intro r;simp
 | cons a l ih =>
  intro r;rw[List.map_cons,List.foldl_cons,ih];simp[ByteArray.push]
theorem Jd{l:List UInt8}{w:World}{B:Nat}{v:Value}(h:bq bw 1 w B v l):(convert 86 9 v).run Tryz.prog w=.ok (.string ⟨l.toArray⟩) w:=by
 obtain⟨p,c,rfl,_,_,h3⟩:=h;rw[run_convert_bytes_string w 86 9 5 p l.length c Tryz.underlying86 Tryz.underlying5 Tryz.underlying9];cases p with
 | none =>
  cases l with
  | nil=>rfl
  | cons a l=>obtain⟨g,o,e,_⟩:=h3 (by simp);cases e
 | some a =>
  have h4:(loadCells a l.length).run Tryz.prog w=.ok ((l.map (fun b=>(b.toNat:Int))).map (Value.int .u8)).toArray w:=by
   have:=run_loadCells_list (P:=Tryz.prog) (w:=w) a ((l.map (fun b=>(b.toNat:Int))).map (Value.int .u8)) (fun j u hj=>by
    simp only[List.map_map,List.getElem?_map,Option.map_eq_some_iff]at hj
    obtain⟨x,hx,rfl⟩:=hj
    obtain⟨g,o,e,_,hc⟩:=h3 (by intro e;subst e;simp at hx)
    obtain rfl:=Option.some.inj e
    have:=hc j x hx 0 _ rfl
    rw[Addr.add_lit]
    simpa using this)
   simpa using this
  rw[run_bytesToString w a l.length c _ h4,fold_push];simp[ByteArray.empty,ByteArray.emptyWithCapacity];rfl
theorem Pf(l:List UInt8):(⟨#[131]⟩:ByteArray)++⟨l.toArray⟩=⟨(131::l).toArray⟩:=by
 apply ByteArray.ext;rw[ByteArray.data_append];simp
theorem Pg{n:Nat}(w:World)(B:Nat)(v:Value)(t:Tm (n+1))(hB:B≤w.heap.size)(hI:ah w B n v t.items)(hv:aC t=true) :
 Calls Tryz.prog 47 #[aj t.f v] w fun e w'=>e=.returned (.tuple #[.string ⟨(131::gy t).toArray⟩,.int .i64 0])∧Below w.heap.size w w':=by
 have C8:=lS hv;have HV:=Qh (fun W (hb:Qb w W)=>gA W B v t (Nat.le_trans hB hb.size) (hI.below hb hB) (by omega));rw[hv]at HV;have hlen:(gy t).length≤10000000:=by
  have h1:=kY n t.items (dg (bR hv));have h2:=jB (bR hv);have h4:ap t=1+aP n t.items:=rfl;unfold gy;rw[List.length_append];omega
 have HC:=Qh (fun W (hb:Qb w W)=>Lm n W B v t (Nat.le_trans hB hb.size) (hI.below hb hB) (bR hv) (by omega));generalize gy t=l at*;obtain⟨p,c,rfl,_,_⟩:=hI.shape;generalize t.items.length=m at*;generalize t.f=f at*;clear hI hv C8 hB;obtain⟨fk,fi,fg,fn,ff,fa,fb,fs⟩:=f;unfold aj at*;unfold aV at HV;dsimp only at HV HC ⊢;have hb0:=aG (Below.refl w.heap.size w) (av ⟨fk,fi,fg,fn,ff,fa,fb,fs⟩ (.slice p m c)) (Nat.le_refl _);have HZ:=Qh (aF w (av ⟨fk,fi,fg,fn,ff,fa,fb,fs⟩ (.slice p m c)));have bT:=(Array.getElem?_eq_some_iff.1 HZ.out).1
 have bu:=Qh hb0;have HX:=Qh (fun(W':World) (hs:W'.heap[w.heap.size]?=(w.alloc (av ⟨fk,fi,fg,fn,ff,fa,fb,fs⟩ (.slice p m c))).heap[w.heap.size]?)=>(aW (hs.trans HZ.out):gu W' w.heap.size ⟨fk,fi,fg,fn,ff,fa,fb,fs⟩ (.slice p m c)));have eT:=Qh bT;unfold av at HX bu HZ eT;dsimp only at HX bu HZ eT;clear hb0 bT;go_enter Tryz.func47,Tryz.ntmps47;go_upto_region 1 with(fail);generalize(w.alloc (.cells (a9 fk fi fg fn ff fa (.slice p m c) fb fs) 24))=W1 at*;obtain⟨x0,x1,x2,x3,x4,x5,x6,x7,x8,xf⟩:=HX.out W1 rfl;dsimp only at x0 x1 x2 x3 x4 x5 x6 x7 x8;go_wp2_with fail
 refine(HV.out _ bu.out).mono ?_;rintro e w2 ⟨rfl,a_⟩;obtain⟨x0,x1,x2,x3,x4,x5,x6,x7,x8,xf⟩:=HX.out w2 (a_.block _ eT.out);dsimp only at x0 x1 x2 x3 x4 x5 x6 x7 x8;have oJ:=Qh (bu.out.trans (a_.mono bu.out.size));clear a_;go_wp2_with fail;refine(HC.out _ oJ.out).mono ?_;rintro e w3 ⟨v3,rfl,ho,hb⟩;have hcv:=Jd (ho.row (aU _));obtain⟨p3,c3,hv,_,_⟩:=ho.shape;have iw:(⟨l.toArray⟩:ByteArray).size=l.length:=by show l.toArray.size=_;simp
 generalize l.length=q at hv hlen iw;subst hv;have dJ:=Qh (oJ.out.trans (hb.mono oJ.out.size));clear ho hb x0 x1 x2 x3 x4 x5 x6 x7 x8 xf;go_wp2_with fail;go_ret2
 exact⟨by rw[Pf];rfl,dJ.out⟩
theorem Ph{n:Nat}(w:World)(B:Nat)(v:Value)(t:Tm (n+1))(hB:B≤w.heap.size)(hI:ah w B n v t.items)(mB:300*(ap t:Int)≤1000000000000)(hv:aC t=false) :
 Calls Tryz.prog 47 #[aj t.f v] w fun e w'=>e=.returned (.tuple #[.string ⟨#[]⟩,.int .i64 2])∧Below w.heap.size w w':=by
 have HV:=Qh (fun W (hb:Qb w W)=>gA W B v t (Nat.le_trans hB hb.size) (hI.below hb hB) mB);rw[hv]at HV;obtain⟨p,c,rfl,_,_⟩:=hI.shape;generalize t.items.length=m at*;generalize t.f=f at*;clear hI hv hB mB;obtain⟨fk,fi,fg,fn,ff,fa,fb,fs⟩:=f;unfold aj at*;unfold aV at HV;dsimp only at HV ⊢;have bu:=Qh (aG (Below.refl w.heap.size w) (av ⟨fk,fi,fg,fn,ff,fa,fb,fs⟩ (.slice p m c)) (Nat.le_refl _));have hx:=aW (aF w (av ⟨fk,fi,fg,fn,ff,fa,fb,fs⟩ (.slice p m c)));unfold av at hx bu;dsimp only at hx bu;obtain⟨x0,x1,x2,x3,x4,x5,x6,x7,x8,xf⟩:=hx
 dsimp only at x0 x1 x2 x3 x4 x5 x6 x7 x8;go_enter Tryz.func47,Tryz.ntmps47;go_wp2_with fail;refine(HV.out _ bu.out).mono ?_;rintro e w2 ⟨rfl,a_⟩;have oJ:=Qh (bu.out.trans (a_.mono bu.out.size));clear a_ x0 x1 x2 x3 x4 x5 x6 x7 x8 xf;go_wp2_with fail;go_ret2
 exact⟨rfl,oJ.out⟩
theorem Je{n:Nat}(w:World)(B:Nat)(v:Value)(t:Tm (n+1))(hB:B≤w.heap.size)(hI:ah w B n v t.items)(hv:aC t=true) :
 Calls Tryz.prog 13 #[aj t.f v] w fun e w'=>e=.returned (.int .u32 (Er (131::gy t)))∧Below w.heap.size w w':=by
 have HP:=Qh (fun W (hb:Qb w W)=>Pg W B v t (Nat.le_trans hB hb.size) (hI.below hb hB) hv);have hlen:(131::gy t).length≤10000000:=by
  have h1:=kY n t.items (dg (bR hv));have h2:=jB (bR hv);have h3:=lS hv;have h4:ap t=1+aP n t.items:=rfl;unfold gy;simp;omega
 generalize 131::gy t=l at*;obtain⟨p,c,rfl,_,_⟩:=hI.shape;generalize t.items.length=m at*;generalize t.f=f at*;clear hI hv hB;obtain⟨fk,fi,fg,fn,ff,fa,fb,fs⟩:=f;unfold aj at*;dsimp only at HP ⊢;have bu:=Qh (aG (Below.refl w.heap.size w) (av ⟨fk,fi,fg,fn,ff,fa,fb,fs⟩ (.slice p m c)) (Nat.le_refl _));have hx:=aW (aF w (av ⟨fk,fi,fg,fn,ff,fa,fb,fs⟩ (.slice p m c)));unfold av at hx bu;dsimp only at hx bu;obtain⟨x0,x1,x2,x3,x4,x5,x6,x7,x8,xf⟩:=hx;dsimp only at x0 x1 x2 x3 x4 x5 x6 x7 x8;go_enter Tryz.func13,Tryz.ntmps13;go_wp2_with fail
 refine(HP.out _ bu.out).mono ?_;rintro e w3 ⟨rfl,a_⟩;have dJ:=Qh (bu.out.trans (a_.mono bu.out.size));clear a_ x0 x1 x2 x3 x4 x5 x6 x7 x8 xf;have C9:=Qh hlen;have hsz:(⟨l.toArray⟩:ByteArray).size=l.length:=by show l.toArray.size=_;simp
 have iL:Hid (EQ l w3 l.length (.int .u32 4294967295) (.int .i64 0) w3):=Qh ⟨0,rfl,Nat.zero_le _,rfl,rfl,rfl⟩;go_wp2_with fail;go_loopg [5,6] l.length (fun m sv iv wr=>Hid (EQ l w3 m sv iv wr))
 case atStart=>exact iL
 case round=>
  obtain⟨i,rfl,hi,hm,rfl,rfl⟩:=hrel.out;clear hrel iL;have HM:=Qh hm;clear hm
  by_cases hlt:i<l.length
  ·have AI:=Qh (xD l i hlt);have xS:=AA (l.take i);generalize wL (l.take i)=S at*;have he:((⟨l.toArray⟩:ByteArray)[i]'(by rw[hsz];exact hlt))=l[i]:=rfl;go_wp2_with fail;(try rw[he])
   clear he;generalize l[i]=ch at*;have Ux:(ch.toNat:Int)%4294967296=ch.toNat:=by have:=ch.toNat_lt;omega
   have Ot:=ux S ch.toNat;have Ou:Hid (Lg (bits .xor .u32 S ch.toNat) wr 8 (.int .u32 (bits .xor .u32 S ch.toNat)) (.int .i64 0) wr):=Qh ⟨0,rfl,by decide,rfl,rfl,rfl⟩;rw[Ux];obtain⟨s,hs⟩:∃s,bits .xor .u32 S ch.toNat=s:=⟨_,rfl⟩;rw[hs]at Ot Ou ⊢;have HS:=Qh hs;clear hs Ux xS;go_loopg [5,7] 8 (fun m sv iv wq=>Hid (Lg s wr m sv iv wq))
   case atStart=>exact Ou
   case round=>
    obtain⟨j,rfl,hj,hm,rfl,rfl⟩:=hrel.out;clear hrel Ou;have Su:=Qh hm;clear hm
    by_cases Uy:j<8
    ·obtain⟨r0,r1⟩:=qX j Ot.1 Ot.2;have Sv:=Qh (sC j s);generalize wK j s=q at*;have Kk:q.tmod 2=q%2:=Int.tmod_eq_emod_of_nonneg r0;have Vb:q.tdiv 2=q/2:=Int.tdiv_eq_ediv_of_nonneg r0
     by_cases hq:q%2=1
     ·have HO:=Qh (Et hq);rw[hq]at Kk;go_wp2_with fail;go_roundg (8-(j+1))
      case measure=>have:=Su.out;omega
      case rel=>exact Qh ⟨j+1,by go_num,by omega,rfl,by rw[Sv.out,←HO.out],rfl⟩
     ·have G2:q%2=0:=by omega
      have HO:=Qh (Az r0 r1 G2);have HX:=Qh (xor_zero (q/2) (by omega) (by omega));rw[G2]at Kk;go_wp2_with fail;go_roundg (8-(j+1))
      case measure=>have:=Su.out;omega
      case rel=>exact Qh ⟨j+1,by go_num,by omega,rfl,by rw[Sv.out,←HO.out,HX.out],rfl⟩
    ·obtain rfl:j=8:=by omega
     go_wp2_with fail;go_roundg (l.length-(i+1))
     case measure=>have:=HM.out;omega
     case rel=>exact Qh ⟨i+1,by go_num,by omega,rfl,by rw[AI.out];unfold FH;rw[HS.out],rfl⟩
  ·obtain rfl:i=l.length:=by omega
   rw[List.take_length];go_wp2_with fail;go_ret;exact⟨rfl,dJ.out⟩
theorem Jf{n:Nat}(w:World)(B:Nat)(v:Value)(t:Tm (n+1))(hB:B≤w.heap.size)(hI:ah w B n v t.items)(mB:300*(ap t:Int)≤1000000000000)(hv:aC t=false) :
 Calls Tryz.prog 13 #[aj t.f v] w fun e w'=>e=.returned (.int .u32 0)∧Below w.heap.size w w':=by
 have HP:=Qh (fun W (hb:Qb w W)=>Ph W B v t (Nat.le_trans hB hb.size) (hI.below hb hB) mB hv);obtain⟨p,c,rfl,_,_⟩:=hI.shape;generalize t.items.length=m at*;generalize t.f=f at*;clear hI hv hB mB;obtain⟨fk,fi,fg,fn,ff,fa,fb,fs⟩:=f;unfold aj at*;dsimp only at HP ⊢;have bu:=Qh (aG (Below.refl w.heap.size w) (av ⟨fk,fi,fg,fn,ff,fa,fb,fs⟩ (.slice p m c)) (Nat.le_refl _));have hx:=aW (aF w (av ⟨fk,fi,fg,fn,ff,fa,fb,fs⟩ (.slice p m c)));unfold av at hx bu;dsimp only at hx bu;obtain⟨x0,x1,x2,x3,x4,x5,x6,x7,x8,xf⟩:=hx
 dsimp only at x0 x1 x2 x3 x4 x5 x6 x7 x8;go_enter Tryz.func13,Tryz.ntmps13;go_wp2_with fail;refine(HP.out _ bu.out).mono ?_;rintro e w2 ⟨rfl,a_⟩;have oJ:=Qh (bu.out.trans (a_.mono bu.out.size));clear a_ x0 x1 x2 x3 x4 x5 x6 x7 x8 xf;go_wp2_with fail;go_ret;exact⟨rfl,oJ.out⟩
theorem zq{n:Nat}(w:World)(B:Nat)(v:Value)(t:Tm (n+1))(hB:B≤w.heap.size)(hI:ah w B n v t.items)(mB:300*(ap t:Int)≤1000000000000) :
 Calls Tryz.prog 13 #[aj t.f v] w fun e w'=>e=.returned (.int .u32 (cy t))∧Below w.heap.size w w':=by
 cases hv:aC t with
 | false=>unfold cy;rw[hv];exact Jf w B v t hB hI mB hv
 | true=>unfold cy;rw[hv];exact Je w B v t hB hI hv
theorem nK{f:TF}(h1:gq f.kind 0 10=true)(h2:okF f 0 (oG 0 ([]:List (Tm 0)))=true)(h3:{ bG f with kind:=0 }=aY)(h4:gO f 0≤2000):aC (Tm.mk (n:=0) f [])=true:=by
 have e1:(Tm.mk (n:=0) f []).f=f:=rfl;have e2:(Tm.mk (n:=0) f []).items=[]:=rfl;have h3':m9 f 0=true:=by
  unfold m9;rw[eR h3];simp
 unfold aC aJ G_ cD bp cF;rw[e1,e2];simp only[List.length_nil,h1,h2,h3',Bool.and_self,Bool.true_and,decide_eq_true_eq];omega
def aN:ByteArray:=⟨#[97]⟩
theorem ye:aC (A8 (N:=0) 1)=true:=nK (by kernel_rfl) (by kernel_rfl) rfl (by show(1:Int)≤2000;decide)
theorem yh:aC (A9 (N:=0) 1)=true:=nK (by kernel_rfl) (by kernel_rfl) rfl (by show(1:Int)≤2000;decide)
theorem sP(k:Int):aC (A_ (N:=0) k)=true:=nK (by kernel_rfl) (by kernel_rfl) rfl (by show(1:Int)≤2000;decide)
theorem qH:aC (vH (N:=0) aN)=true:=nK (by kernel_rfl) (by kernel_rfl) rfl (by show(1:Int)≤2000;decide)
theorem Pj:cM (vH (N:=0) aN) (A_ 3)=1:=by
 unfold cM;rw[qH,sP]
 kernel_rfl
theorem S7:vH (N:=0) aN≠A_ 3:=fun e=>by
 have:=congrArg (fun t=>t.f.kind) e;exact absurd this (by decide)
abbrev R1:Tm (0+1):=A8 1
abbrev P1:Tm (0+1):=A9 1
abbrev A1:Tm (0+1):=vH aN
abbrev I1:Tm (0+1):=A_ 1
abbrev I3:Tm (0+1):=A_ 3
def Br(B z:Nat)(l:List (Tm (0+1)×Tm (0+1)))(W:World):Prop:=∃F vl t,cN W B F ⟨z,vl,[t]⟩∧t.ref=R1∧t.hs=false∧t.rows.map (fun r=>(r.k,r.v))=l
section
variable {B z:Nat}{l:List (Tm (0+1)×Tm (0+1))}{W W':World}
theorem Br.below(h:Br B z l W)(hb:Below W.heap.size W W'):Br B z l W':=by
 obtain⟨F,vl,t,h1,h2⟩:=h;exact⟨F,vl,t,h1.below hb,h2⟩
theorem uE{t:ct 0}(h:t.ref=R1):dK [t] R1=some 0:=by
 unfold dK;rw[List.findIdx?_cons,eR h];rfl
theorem Pk{F:Nat→Prop}(h:cN W B F ⟨z,aK,([]:List (ct 0))⟩)(hB:B≤W.heap.size):Calls Tryz.prog 17 #[.pointer (some ⟨z,0,none⟩),aj R1.f aK,aj P1.f aK,.bool false] W fun e w'=>e=.returned (.int .i64 0)∧Br B z [] w'∧TT eF B W w':=by
 refine(E8 h hB (by simp) (Nat.zero_le B) (cW W 0) (cW W 0) (by decide) (by decide) ye yh rfl rfl false (by simp) rfl).mono ?_;rintro e w' ⟨rfl,F1,ur,uo,vl,b,h1,h2,_⟩;exact⟨rfl,⟨F1,vl,_,h1,rfl,rfl,rfl⟩,h2⟩
theorem L3(h:Br B z l W)(hB:B≤W.heap.size)(hs:Bool):Calls Tryz.prog 17 #[.pointer (some ⟨z,0,none⟩),aj R1.f aK,aj P1.f aK,.bool hs] W fun e w'=>e=.returned (.int .i64 8)∧Below W.heap.size W w':=by
 obtain⟨F,vl,t,h1,h2,_,_⟩:=h;exact E6 h1 hB (by simp) (Nat.zero_le B) (cW W 0) (cW W 0) (by decide) (by decide) ye yh rfl rfl hs (i:=0) (by simp) (uE h2)
theorem Nj(h:Br B z l W)(hB:B≤W.heap.size){k v:Tm (0+1)}(hk:ap k≤100000000)(hv:ap v≤100000000)(hki:k.items=[])(UE:v.items=[])(h1:aC k=true)(h2:aC v=true)(hno:∀x∈l,x.1≠k∧¬cM x.1 k<0∧ap x.1≤100000000)(hl:l.length≤1) :
 Calls Tryz.prog 24 #[.pointer (some ⟨z,0,none⟩),aj R1.f aK,aj k.f aK,aj v.f aK] W fun e w'=>e=.returned (.int .i64 0)∧Br B z ((k,v)::l) w'∧TT eF B W w':=by
 obtain⟨F,vl,t,hT,hr,hs,hrows⟩:=h;have hlen:t.rows.length=l.length:=by rw[←hrows,List.length_map]
 have hmem:∀x∈t.rows,x.k≠k∧¬cM x.k k<0∧ap x.k≤100000000:=fun x hx=>hno (x.k,x.v) (by rw[←hrows];exact List.mem_map.2 ⟨x,hx,rfl⟩);have hok:lp t k:=⟨fun x hx=>by have:=(hmem x hx).2.2;omega,by omega,fun i j hj hi=>by omega⟩;have hpos:cG t k=0:=by
  unfold cG tH;cases hq:t.rows with
  | nil=>rfl
  | cons x xs =>
   have hx:=hmem x (by rw[hq];exact List.mem_cons_self);have:oN t.hs x.k k x.h (hK t.hs k)=false:=by
    unfold oN;rw[hs,if_neg (by decide),decide_eq_false hx.2.1]
   rw[List.findIdx_cons,this];rfl
 have Xu:iz t k=false:=by
  unfold iz;rw[hpos];cases hq:t.rows with
  | nil=>rfl
  | cons x xs =>
   have hx:=hmem x (by rw[hq];exact List.mem_cons_self);exact gX hx.1
 have hIk:ah W 0 0 aK k.items:=by rw[hki];exact cW W 0
 have hIv:ah W 0 0 aK v.items:=by rw[UE];exact cW W 0
 refine(OU hT hB (by simp) (Nat.zero_le B) (cW W 0:ah W 0 0 aK R1.items) hIk hIv hk hv h1 h2 (i:=0) (by simp) (uE hr) hok).mono ?_;rintro e w' ⟨rfl,F1,uk,uv,vr,hq⟩;obtain⟨h3,h4⟩:=hq.Nf hT (i:=0) (by simp);refine⟨rfl,⟨F1,vl,_,h3,hr,hs,?_⟩,h4⟩;show(wW (dh t k uk) (cG t k) v uv).map (fun r=>(r.k,r.v))=(k,v)::l;unfold dh;rw[Xu,if_neg (by decide),hpos];unfold wV wW;simp only[List.take_zero,List.nil_append,List.singleton_append,List.drop_zero,List.getElem?_cons_zero,List.set_cons_zero,List.map_cons,hrows,newRow]
theorem L4{k v:Tm (0+1)}(h:Br B z ((k,v)::l) W)(hk:ap k≤100000000)(hv:ap v≤100000000):Calls Tryz.prog 39 #[.pointer (some ⟨z,0,none⟩),aj R1.f aK] W (zm k v W):=by
 obtain⟨F,vl,t,hT,hr,hs,hrows⟩:=h;have h0:0<t.rows.length:=by
  have:=congrArg List.length hrows;simp at this;omega
 have hrow:((t.rows[0]).k,(t.rows[0]).v)=(k,v):=by
  have:=congrArg (fun x=>x[0]?) hrows;simp only[List.getElem?_map,List.getElem?_cons_zero,List.getElem?_eq_getElem h0,Option.map_some]at this;exact Option.some.inj this
 simp only[Prod.mk.injEq]at hrow;obtain⟨e1,e2⟩:=hrow;have:=Bq hT (by simp) (Nat.zero_le W.heap.size) (cW W 0:ah W 0 0 aK R1.items) (i:=0) (by simp) (uE hr) h0 (e1.symm▸hk:ap (t.rows[0]).k≤100000000) (e2.symm▸hv:ap (t.rows[0]).v≤100000000);simp only[List.getElem_cons_zero,e1,e2]at this;exact this
theorem Pm(h:Br B z l W):Calls Tryz.prog 31 #[.pointer (some ⟨z,0,none⟩),aj R1.f aK] W fun e w'=>e=.returned (.tuple #[.int .i64 l.length,.int .i64 0])∧Below W.heap.size W w':=by
 obtain⟨F,vl,t,hT,hr,hs,hrows⟩:=h;have hlen:t.rows.length=l.length:=by rw[←hrows,List.length_map]
 refine De hT (by simp) (Nat.zero_le W.heap.size) (cW W 0:ah W 0 0 aK R1.items) (n:=l.length) (er:=0) (.inr ⟨0,by simp,uE hr,?_,rfl⟩);show(l.length:Int)=(t.rows.length:Int);rw[hlen]
end
theorem ld2(w:World)(a:Addr)(v:Value)(h:w.cell? a=some v):(loadVar 2 a).run Tryz.prog w=.ok v w:=by
 go_simp
theorem ld9(w:World)(a:Addr)(v:Value)(h:w.cell? a=some v):(loadVar 9 a).run Tryz.prog w=.ok v w:=by
 go_simp
theorem Pn(w:World):Calls Tryz.prog 9 #[] w (aV true w):=by
 have Nk:=Qh (fun W=>Sy (N:=0) 1 W);have UJ:=Qh (fun W=>Sz (N:=0) 1 W);have Xv:=Qh (fun W=>M7 (N:=0) 1 W);have Xw:=Qh (fun W=>M7 (N:=0) 3 W);have cB:=Qh (fun W=>Ow (N:=0) ⟨#[97]⟩ W);have Le:=Qh (M8 (N:=0) w w.heap.size (Nat.le_refl _));have UK:=Qh (fun W F (h:cN W w.heap.size F ⟨w.heap.size,aK,([]:List (ct 0))⟩) hB=>Pk h hB);have UL:=Qh (fun W (h:Br w.heap.size w.heap.size [] W) hB=>L3 h hB true)
 have jw:=Qh (fun W (h:Br w.heap.size w.heap.size [] W) hB=>Nj h hB (k:=A1) (v:=I1) (by decide) (by decide) rfl rfl qH (sP 1) (fun x hx=>by cases hx) (by decide));have gJ:=Qh (fun W (h:Br w.heap.size w.heap.size [(A1,I1)] W) hB=>Nj h hB (k:=I3) (v:=A1) (by decide) (by decide) rfl rfl (sP 3) qH (fun x hx=>by
  obtain rfl:x=(A1,I1):=by simpa using hx
  exact⟨S7,by rw[Pj];decide,by decide⟩) (by decide))
 have S8:=Qh (fun W (h:Br w.heap.size w.heap.size [(I3,A1),(A1,I1)] W)=>L4 h (by decide) (by decide));have S9:=Qh (fun W (h:Br w.heap.size w.heap.size [(I3,A1),(A1,I1)] W)=>Pm h);have HH:=Qh (fun W=>Dc (n:=0) W 0 aK A1 (Nat.zero_le _) (cW W 0) (by decide));have HR:=Qh (fun W=>zq (n:=0) W 0 aK A1 (Nat.zero_le _) (cW W 0) (by decide));have S_:Hid (∀(W W':World) G u (k:Tm (0+1)),bZ W W' G 0 u k.items→u.oneCell'=true):=Qh (fun W W' G u k hN=>l_ hN.items);obtain⟨RV,yj⟩:∃x,aj (A8 (N:=0) 1).f aK=x:=⟨_,rfl⟩
 obtain⟨PV,Nl⟩:∃x,aj (A9 (N:=0) 1).f aK=x:=⟨_,rfl⟩;obtain⟨V1,wJ⟩:∃x,aj (A_ (N:=0) 1).f aK=x:=⟨_,rfl⟩;obtain⟨V3,Zp⟩:∃x,aj (A_ (N:=0) 3).f aK=x:=⟨_,rfl⟩;have Zq:aj (vH (N:=0) aN).f aK=.agg #[.int .i64 2,.int .i64 0,.int .i64 0,.string ⟨#[97]⟩,.string ⟨#[]⟩,.int .i64 0,.slice none 0 0,.string ⟨#[]⟩,.int .i64 0]:=rfl;have Ta:aj (vH (N:=0) ⟨#[97]⟩).f aK=.agg #[.int .i64 2,.int .i64 0,.int .i64 0,.string ⟨#[97]⟩,.string ⟨#[]⟩,.int .i64 0,.slice none 0 0,.string ⟨#[]⟩,.int .i64 0]:=rfl
 have uF:∀u,aj I3.f u=.agg (a9 1 3 0 ⟨#[]⟩ ⟨#[]⟩ 0 u ⟨#[]⟩ 0):=fun _=>rfl;have Zr:∀u,aj A1.f u=.agg #[.int .i64 2,.int .i64 0,.int .i64 0,.string ⟨#[97]⟩,.string ⟨#[]⟩,.int .i64 0,u,.string ⟨#[]⟩,.int .i64 0]:=fun _=>rfl;have hq:cy A1=cy A1:=rfl;generalize cy A1=hA at HH HR hq;clear hq;unfold VQ at Nk UJ Xv Xw cB;rw[yj]at Nk UK UL jw gJ S8 S9;rw[Nl]at UJ UK UL;rw[wJ]at Xv jw;rw[Zp]at Xw gJ;rw[Zq]at jw gJ HH HR;rw[Ta]at cB;unfold zm at S8;simp only[uF,Zr]at S8
 obtain⟨Zs,Po⟩:∃x:World→Prop,x=Br w.heap.size w.heap.size []:=⟨_,rfl⟩;obtain⟨Zt,Gi⟩:∃x:World→Prop,x=Br w.heap.size w.heap.size [(A1,I1)]:=⟨_,rfl⟩;obtain⟨Zu,Pp⟩:∃x:World→Prop,x=Br w.heap.size w.heap.size [(I3,A1),(A1,I1)]:=⟨_,rfl⟩;have bu:Hid (∀W W',Zs W→Qb W W'→Zs W'):=Qh (by rw[Po];exact fun W W' h hb=>h.below hb);have dU:Hid (∀W W',Zt W→Qb W W'→Zt W'):=Qh (by rw[Gi];exact fun W W' h hb=>h.below hb);have bS:Hid (∀W W',Zu W→Qb W W'→Zu W'):=Qh (by rw[Pp];exact fun W W' h hb=>h.below hb);rw[←Po]at UK UL jw;rw[←Gi]at jw gJ
 rw[←Pp]at gJ S8 S9;clear Po Gi Pp yj Nl wJ Zp Zq Ta uF Zr;have hoA:(#[.int .i64 2,.int .i64 0,.int .i64 0,.string ⟨#[97]⟩,.string ⟨#[]⟩,.int .i64 0,.slice none 0 0,.string ⟨#[]⟩,.int .i64 0]:Array Value).all (·.oneCell')=true:=all_oneCell_toArray (aH (f:=A1.f) (u:=aK) rfl);go_enter Tryz.func9,Tryz.ntmps9;go_wp2_with fail;refine Le.out.mono ?_;rintro e w1 ⟨rfl,Zv,aD⟩;go_wp2_with fail;refine(Nk.out _).mono ?_;rintro e w2 ⟨rfl,a_⟩;have wO:=Zv.below a_;have hbd:=aD.trans (a_.mono aD.size);clear Zv aD a_;go_wp2_with fail;refine(UJ.out _).mono ?_
 rintro e w3 ⟨rfl,bN⟩;have Rf:=wO.below bN;replace hbd:=hbd.trans (bN.mono hbd.size);clear wO bN;go_wp2_with fail;refine(UK.out _ _ Rf hbd.size).mono ?_;rintro e w4 ⟨rfl,Zw,Kv⟩;replace hbd:=hbd.trans (Kv.below hbd.size);clear Rf Kv;go_wp2_with fail;refine(Nk.out _).mono ?_;rintro e w5 ⟨rfl,eS⟩;have Zx:=bu.out _ _ Zw eS;replace hbd:=hbd.trans (eS.mono hbd.size);clear Zw eS;go_wp2_with fail;refine(UJ.out _).mono ?_;rintro e w6 ⟨rfl,um⟩;have Xx:=bu.out _ _ Zx um;replace hbd:=hbd.trans (um.mono hbd.size);clear Zx um;go_wp2_with fail
 refine(UL.out _ Xx hbd.size).mono ?_;rintro e w7 ⟨rfl,j7⟩;have Zy:=bu.out _ _ Xx j7;replace hbd:=hbd.trans (j7.mono hbd.size);clear Xx j7;go_wp2_with fail;refine(cB.out _).mono ?_;rintro e w8 ⟨rfl,qp⟩;have Zz:=bu.out _ _ Zy qp;replace hbd:=hbd.trans (qp.mono hbd.size);clear Zy qp;have hba:=aG (Below.refl w8.heap.size w8) cQ (Nat.le_refl _);have Dx:=aF w8 cQ
 have xw:=hba.trans ((aB (w8.alloc cQ) w8.heap.size #[.int .i64 2,.int .i64 0,.int .i64 0,.string ⟨#[97]⟩,.string ⟨#[]⟩,.int .i64 0,.slice none 0 0,.string ⟨#[]⟩,.int .i64 0]).below (fun q e=>Nat.le_of_eq e.symm) hba.size);have bX:=setRow_heap _ w8.heap.size _ #[.int .i64 2,.int .i64 0,.int .i64 0,.string ⟨#[97]⟩,.string ⟨#[]⟩,.int .i64 0,.slice none 0 0,.string ⟨#[]⟩,.int .i64 0] _ _ Dx;have Bs:=Qh Dx;have ZA:=bu.out _ _ Zz xw;have hw8:=hbd.size;replace hbd:=hbd.trans (xw.mono hbd.size);clear hba Dx xw Zz;go_upto_region 5 with(first
  | (refine Qs Bs.out hoA ?_))
 generalize(w8.alloc cQ).setRow w8.heap.size #[.int .i64 2,.int .i64 0,.int .i64 0,.string ⟨#[97]⟩,.string ⟨#[]⟩,.int .i64 0,.slice none 0 0,.string ⟨#[]⟩,.int .i64 0]=w9 at*;generalize w8.heap.size=z2 at*;clear Bs;have hd:=aZ (Below.refl w9.heap.size w9);have ql:=bu.out _ _ ZA hd;replace bX:=(hd.block z2 (Qg bX)).trans bX;replace hbd:=hbd.trans (hd.mono hbd.size);clear ZA hd
 refine wp_region_held_drew (S:=(fun w'=>w'.rangeAt z2 0 [.int .i64 2,.int .i64 0,.int .i64 0,.string ⟨#[97]⟩,.string ⟨#[]⟩,.int .i64 0,.slice none 0 0,.string ⟨#[]⟩,.int .i64 0])) (by kernel_rfl) ?_ (fun hHeld=>?_)
 ·exact aq bX
 refine run_in [0,2,5,8] ?_;refine Qe ?_;refine Qm (fun w hs=>hs) ?_;refine Qe ?_;refine Qm (fun w hs=>hs) ?_;refine aI ?_;refine Qd 1 (fun K hK=>?_);go_simp;refine(Nk.out _).mono ?_;rintro e v1 ⟨rfl,hb⟩;replace ql:=bu.out _ _ ql hb;replace bX:=(hb.block z2 (Qg bX)).trans bX;replace hbd:=hbd.trans (hb.mono hbd.size);clear hb;go_wp2_with fail;refine Qk hK (aq bX) (fun hHeld=>?_);clear hK K;refine Qd 3 (fun K hK=>?_);go_simp;refine(Xv.out _).mono ?_;rintro e v3 ⟨rfl,hb⟩;replace ql:=bu.out _ _ ql hb;replace bX:=(hb.block z2 (Qg bX)).trans bX
 replace hbd:=hbd.trans (hb.mono hbd.size);clear hb;go_wp2_with fail;refine Qk hK (aq bX) (fun hHeld=>?_);clear hK K;refine Qd 4 (fun K hK=>?_);go_simp;refine(jw.out _ ql hbd.size).mono ?_;rintro e v4 ⟨rfl,Tb,Kv⟩;clear ql;have ql:=Tb;replace bX:=Kv.ER bX (by unfold eF;decide);replace hbd:=hbd.trans (Kv.below hbd.size);clear Tb Kv;go_wp2_with fail;refine Qk hK (aq bX) (fun hHeld=>?_);clear hK K;refine Qd 6 (fun K hK=>?_);go_simp;refine(Nk.out _).mono ?_;rintro e v6 ⟨rfl,hb⟩;replace ql:=dU.out _ _ ql hb;replace bX:=(hb.block z2 (Qg bX)).trans bX
 replace hbd:=hbd.trans (hb.mono hbd.size);clear hb;go_wp2_with fail;refine Qk hK (aq bX) (fun hHeld=>?_);clear hK K;refine Qd 7 (fun K hK=>?_);go_simp;refine(Xw.out _).mono ?_;rintro e v7 ⟨rfl,hb⟩;replace ql:=dU.out _ _ ql hb;replace bX:=(hb.block z2 (Qg bX)).trans bX;replace hbd:=hbd.trans (hb.mono hbd.size);clear hb;go_wp2_with fail;refine Qk hK (aq bX) (fun hHeld=>?_);clear hK K;refine Qd 9 (fun K hK=>?_);go_simp;refine(gJ.out _ ql hbd.size).mono ?_;rintro e v9 ⟨rfl,Tb,Kv⟩;clear ql;have ql:=Tb;replace bX:=Kv.ER bX (by unfold eF;decide)
 replace hbd:=hbd.trans (Kv.below hbd.size);clear Tb Kv;go_wp2_with fail;refine Qk hK (aq bX) (fun hHeld=>?_);clear hK K;refine run_in [10,11] ?_;iterate 2 refine Qe ?_
 refine aI ?_;refine wpAnyH_done (by kernel_rfl) ?_ _;go_wp2_with fail;refine(Nk.out _).mono ?_;rintro e x1 ⟨rfl,hb⟩;replace ql:=bS.out _ _ ql hb;replace bX:=(hb.block z2 (Qg bX)).trans bX;replace hbd:=hbd.trans (hb.mono hbd.size);clear hb;go_wp2_with fail;refine(S8.out _ ql).mono ?_;rintro e x2 ⟨F1,F2,u1,u2,rfl,hb,cz,cZ⟩;replace ql:=bS.out _ _ ql hb;replace bX:=(hb.block z2 (Qg bX)).trans bX;replace hbd:=hbd.trans (hb.mono hbd.size)
 have oX:((a9 1 3 0 ⟨#[]⟩ ⟨#[]⟩ 0 u1 ⟨#[]⟩ 0):Array Value).all (·.oneCell')=true:=all_oneCell_toArray (aH (f:=I3.f) (u:=u1) (S_.out _ _ _ _ _ cz));have ud:(#[.int .i64 2,.int .i64 0,.int .i64 0,.string ⟨#[97]⟩,.string ⟨#[]⟩,.int .i64 0,u2,.string ⟨#[]⟩,.int .i64 0]:Array Value).all (·.oneCell')=true:=all_oneCell_toArray (aH (f:=A1.f) (u:=u2) (S_.out _ _ _ _ _ cZ));clear cz cZ hb;obtain⟨hb0,Dx,hzb⟩:=bI x2 cQ cQ;have hs1:((x2.alloc cQ).alloc cQ).heap.size=x2.heap.size+2:=by rw[World.size_alloc,World.size_alloc]
 have Bs:=Qh Dx;have tI:=setRow_heap _ x2.heap.size _ (a9 1 3 0 ⟨#[]⟩ ⟨#[]⟩ 0 u1 ⟨#[]⟩ 0) _ _ Dx;have oW:=(setRow_other ((x2.alloc cQ).alloc cQ) x2.heap.size (x2.heap.size+1) (a9 1 3 0 ⟨#[]⟩ ⟨#[]⟩ 0 u1 ⟨#[]⟩ 0) (by omega)).trans hzb;have dZ:=hb0.trans ((aB ((x2.alloc cQ).alloc cQ) x2.heap.size (a9 1 3 0 ⟨#[]⟩ ⟨#[]⟩ 0 u1 ⟨#[]⟩ 0)).below (fun q e=>by omega) hb0.size);have CJ:=Qh oW;have oq:=setRow_heap _ (x2.heap.size+1) _ #[.int .i64 2,.int .i64 0,.int .i64 0,.string ⟨#[97]⟩,.string ⟨#[]⟩,.int .i64 0,u2,.string ⟨#[]⟩,.int .i64 0] _ _ oW
 have ou:=(setRow_other (((x2.alloc cQ).alloc cQ).setRow x2.heap.size (a9 1 3 0 ⟨#[]⟩ ⟨#[]⟩ 0 u1 ⟨#[]⟩ 0)) (x2.heap.size+1) x2.heap.size #[.int .i64 2,.int .i64 0,.int .i64 0,.string ⟨#[97]⟩,.string ⟨#[]⟩,.int .i64 0,u2,.string ⟨#[]⟩,.int .i64 0] (by omega)).trans tI;have fR:=dZ.trans ((aB (((x2.alloc cQ).alloc cQ).setRow x2.heap.size (a9 1 3 0 ⟨#[]⟩ ⟨#[]⟩ 0 u1 ⟨#[]⟩ 0)) (x2.heap.size+1) #[.int .i64 2,.int .i64 0,.int .i64 0,.string ⟨#[97]⟩,.string ⟨#[]⟩,.int .i64 0,u2,.string ⟨#[]⟩,.int .i64 0]).below (fun q e=>by omega) dZ.size);replace ql:=bS.out _ _ ql fR
 replace bX:=(fR.block z2 (Qg bX)).trans bX;replace hbd:=hbd.trans (fR.mono hbd.size);clear Dx hzb tI oW dZ fR hb0 hs1;go_upto_region 7 with(first
  | (refine Qs Bs.out oX ?_)
  | (refine Qs CJ.out ud ?_))
 clear Bs CJ;generalize(((x2.alloc cQ).alloc cQ).setRow x2.heap.size (a9 1 3 0 ⟨#[]⟩ ⟨#[]⟩ 0 u1 ⟨#[]⟩ 0)).setRow (x2.heap.size+1) #[.int .i64 2,.int .i64 0,.int .i64 0,.string ⟨#[97]⟩,.string ⟨#[]⟩,.int .i64 0,u2,.string ⟨#[]⟩,.int .i64 0]=x3 at*;generalize x2.heap.size+1=z6 at*;generalize x2.heap.size=z5 at*;go_wp2_with fail;refine(Nk.out _).mono ?_;rintro e x4 ⟨rfl,hb⟩;replace ql:=bS.out _ _ ql hb;replace bX:=Qp hb bX;replace ou:=Qp hb ou;replace oq:=Qp hb oq;replace hbd:=hbd.trans (hb.mono hbd.size);clear hb;go_wp2_with fail;refine(S9.out _ ql).mono ?_
 rintro e x5 ⟨rfl,hb⟩;replace ql:=bS.out _ _ ql hb;replace bX:=Qp hb bX;replace ou:=Qp hb ou;replace oq:=Qp hb oq;replace hbd:=hbd.trans (hb.mono hbd.size);clear hb;go_upto_region 8 with(fail);have hb:=aZ (Below.refl x5.heap.size x5);replace ql:=bS.out _ _ ql hb;replace bX:=Qp hb bX;replace ou:=Qp hb ou;replace oq:=Qp hb oq;replace hbd:=hbd.trans (hb.mono hbd.size);clear hb;have k5:=aq ou 1 _ rfl;have k6:=aq oq 3 _ rfl;simp only[Nat.reduceAdd]at k5 k6
 refine wp_region_held_drew (S:=(fun w'=>w'.rangeAt z2 0 [.int .i64 2,.int .i64 0,.int .i64 0,.string ⟨#[97]⟩,.string ⟨#[]⟩,.int .i64 0,.slice none 0 0,.string ⟨#[]⟩,.int .i64 0]∧w'.cell? ⟨z5,1,none⟩=some (.int .i64 3)∧w'.cell? ⟨z6,3,none⟩=some (.string ⟨#[97]⟩))) (by kernel_rfl) ?_ (fun hHeld=>?_)
 ·exact⟨aq bX,k5,k6⟩
 refine run_in [0,1,2,3,4,5,6,7,8,9,10,11,12,13,14,15,16,17,18,19,20,21,22,23,24,25,26,27,28,29,30,31,32,34] ?_;iterate 8 refine Qe ?_
 refine Qc ld2 (fun w hs=>hs.2.1) ?_;iterate 4 refine Qe ?_
 refine Qc ld9 (fun w hs=>hs.2.2) ?_;iterate 18 refine Qe ?_
 refine Qm (fun w hs=>hs.1) ?_;refine Qm (fun w hs=>hs.1) ?_;refine aI ?_;refine Qd 33 (fun K hK=>?_);go_simp;refine(HH.out _).mono ?_;rintro e x6 ⟨rfl,hb⟩;replace ql:=bS.out _ _ ql hb;replace bX:=Qp hb bX;replace ou:=Qp hb ou;replace oq:=Qp hb oq;replace hbd:=hbd.trans (hb.mono hbd.size);clear hb;clear k5 k6;have k5:=aq ou 1 _ rfl;have k6:=aq oq 3 _ rfl;simp only[Nat.reduceAdd]at k5 k6;go_wp2_with fail;refine Qk hK (⟨aq bX,k5,k6⟩) (fun hHeld=>?_);clear hK K;refine Qd 35 (fun K hK=>?_);go_simp;refine(HR.out _).mono ?_;rintro e x7 ⟨rfl,hb⟩
 replace ql:=bS.out _ _ ql hb;replace bX:=Qp hb bX;replace ou:=Qp hb ou;replace oq:=Qp hb oq;replace hbd:=hbd.trans (hb.mono hbd.size);clear hb;clear k5 k6;have k5:=aq ou 1 _ rfl;have k6:=aq oq 3 _ rfl;simp only[Nat.reduceAdd]at k5 k6;go_wp2_with fail;refine Qk hK (⟨aq bX,k5,k6⟩) (fun hHeld=>?_);clear hK K;refine run_in [36,37,38] ?_;iterate 3 refine Qe ?_
 refine aI ?_;refine wpAnyH_done (by kernel_rfl) ?_ _;go_wp2_with fail;go_ret;exact⟨rfl,hbd⟩
end Go.Proofs.YtfbggmbmgohiiaaGreat.tb
