/- TbE. No condition beyond theirs. -/
import Derived.Test.YtfbggmbmgohiiaaGreatR19
set_option linter.unusedSimpArgs false
set_option linter.unusedVariables false
set_option maxHeartbeats 4000000
set_option maxRecDepth 100000
namespace Go.Proofs.YtfbggmbmgohiiaaGreat.tb
open Go.RowKit mem rec tm names
def AJ(N:Nat)(w:World)(m:Nat)(uv lv:Value)(wr:World):Prop:=∃(u:Nat) (l0:List UInt8),uv=.int .u64 (u:Int)∧u≤18446744073709551615∧m=u∧aA bw 5 1 wr w.heap.size lv l0∧dy N=l0++dy u∧Below w.heap.size w wr
theorem wE.step{B b:Nat}{v:Value}{l xs:List UInt8}{w w1 w2:World}(h:wE B b v l w w1)(k:∀v1,jh w1 B b v1 l→jR b v v1 w w1→wE B b v1 (l++xs) w1 w2):wE B b v (l++xs) w w2:=by
 obtain⟨v1,h1,hs1⟩:=h;obtain⟨v2,h2,iw⟩:=k v1 h1 hs1;exact⟨v2,h2,hs1.trans iw⟩
theorem Hx{w:World}{B b:Nat}{v:Value}{l:List UInt8}(h:jh w B b v l)(hB:B≤w.heap.size)(n:Int)(h0:0≤n)(h1:n<256)(hn:l.length+11≤1000000000) :
 Calls Tryz.prog 99 #[.pointer (some ⟨b,0,none⟩),.int .i64 n] w fun e w'=>e=.returned (.tuple #[])∧wE B b v (l++iP n) w w':=by
 have hq:=fO h hB [97,byteOf n] 2 rfl (by omega);have e:([97,byteOf n].flatMap bw).toArray=#[.int .u8 97,.int .u8 (n%256)]:=by rw[←bF];rfl
 have e2:iP n=[97,byteOf n]:=by unfold iP;rw[if_pos ⟨h0,h1⟩]
 have e3:n%256=n:=by omega
 rw[e,e3]at hq;rw[e2];have HQ:=Qh hq;clear e e2 hq e3;go_enter Tryz.func99,Tryz.ntmps99;go_wp2_with fail;refine HQ.out.mono ?_;rintro e w1 ⟨rfl,hq⟩;have HQ1:=Qh hq;clear hq;go_wp2_with fail;go_end0
 exact⟨rfl,HQ1.out⟩
theorem N6{w:World}{B b:Nat}{v:Value}{l:List UInt8}(h:jh w B b v l)(hB:B≤w.heap.size)(n:Int)(hs:¬(0≤n∧n<256))(h0:-2147483648≤n)(h1:n≤2147483647)(hn:l.length+11≤1000000000) :
 Calls Tryz.prog 99 #[.pointer (some ⟨b,0,none⟩),.int .i64 n] w fun e w'=>e=.returned (.tuple #[])∧wE B b v (l++iP n) w w':=by
 have hq:=fO h hB [98] 1 rfl (by omega);have e:(([98]:List UInt8).flatMap bw).toArray=#[.int .u8 98]:=rfl;have e2:iP n=[98]++bO n 4:=by unfold iP;rw[if_neg hs,if_pos ⟨h0,h1⟩];rfl
 rw[e]at hq;rw[e2];have HQ:=Qh hq;clear e e2 hq;by_cases c1:0≤n
 all_goals
  go_enter Tryz.func99,Tryz.ntmps99;go_wp2_with fail;refine HQ.out.mono ?_;rintro e w1 ⟨rfl,v1,hq,hs1⟩;have HN:=Qh (fj hq (Nat.le_trans hB hs1.aX.size) n 4 (by decide) (by simp;omega));have dl:=Qh hs1;clear hq hs1;go_wp2_with fail;refine HN.out.mono ?_;rintro e w2 ⟨rfl,v2,hq,iw⟩;have Ey:=Qh hq;have dP:=Qh iw;clear hq iw;go_wp2_with fail;go_end0
  exact⟨rfl,v2,by have h5:=Ey.out;rw[List.append_assoc]at h5;exact h5,dl.out.trans dP.out⟩
theorem N7{w:World}{B b:Nat}{v:Value}{l:List UInt8}(h:jh w B b v l)(hB:B≤w.heap.size)(n:Int)(hs:¬(0≤n∧n<256))(hm:¬(-2147483648≤n∧n≤2147483647))(hn:l.length+11≤1000000000) :
 Calls Tryz.prog 99 #[.pointer (some ⟨b,0,none⟩),.int .i64 n] w fun e w'=>e=.returned (.tuple #[])∧wE B b v (l++iP n) w w':=by
 have e2:iP n=[110,byteOf (dy (gx n)).length,if n<0 then 1 else 0]++dy (gx n):=by unfold iP;rw[if_neg hs,if_neg hm];rfl
 have N8:=Qh (uY 8 (gx n) (qW n));rw[e2];have H0:=Qh h;have hBw:B≤w.heap.size:=hB;have hx:(n==RowKit.wrap64 (RowKit.wrap32 n))=false:=by
  simp only[beq_eq_false_iff_ne];intro e;unfold RowKit.wrap64 RowKit.wrap32 at e;omega
 have hmx:gx n≤18446744073709551615:=by have:=qW n;have e:(256:Nat)^8=18446744073709551616:=rfl;omega
 clear e2 h
 by_cases c1:0≤n
 ·have hab:((gx n:Nat):Int)=IntKind.u64.wrap n:=by rw[uw];unfold Ax;rw[if_neg (by omega)]
  have iL:Hid (AJ (gx n) w (gx n) (.int .u64 (IntKind.u64.wrap n)) (.slice none 0 0) w):=Qh ⟨(gx n),[],by rw[hab],hmx,rfl,aA.nil _ _ _,rfl,Below.refl _ _⟩;have e3:(if n<0 then(1:UInt8) else 0)=0:=if_neg (by omega);rw[e3];clear e3 hab;clear hmx;generalize gx n=N at*;go_enter Tryz.func99,Tryz.ntmps99;go_wp2_with fail;go_loopg [5,6] N (fun m uv lv wr=>Hid (AJ N w m uv lv wr))
  case atStart=>exact iL
  case round=>
   obtain⟨u,l0,rfl,hu,hm,hown,vC,au⟩:=hrel.out;clear hrel iL;obtain⟨po,co,rfl,_,_⟩:=hown.shape;have HM:=Qh hm;have mE:=Qh hown;have C5:=Qh vC;have sG:=Qh au;clear hm hown vC;have MS:l0.length≤8:=by
    have:=congrArg List.length C5.out;rw[List.length_append]at this;have:=N8.out;omega
   by_cases h0:0<u
   ·have hz:w.heap.size≤(wr.alloc (.cells #[.int .u8 ((u:Int)%256)] 5)).heap.size:=by rw[World.size_alloc];have:=au.size;omega
    have hrow:=lQ wr [byteOf u] 1 (Nat.le_refl _) (by decide);have e:([byteOf (u:Int)].flatMap bw).toArray=#[.int .u8 ((u:Int)%256)]:=by rw[←bF];rfl
    rw[e]at hrow;have CI:=Qh hrow;clear e hrow;have N9:=Qh (mE.out.below (aG (Below.refl wr.heap.size wr) (.cells #[.int .u8 ((u:Int)%256)] 5) (Nat.le_refl _)));go_wp2_with (first
     | (refine ay rW rfl (.tmp 17) (.tmp 20) rfl rfl N9.out hz rfl CI.out (aU _) (by simp;omega) ?_;intro v' w8 hA;obtain⟨sF,cap',hv,_,_⟩:=hA.own.shape;rw[List.length_append]at hv;subst hv;have HA:Hid (dz bw 5 1 (wr.alloc (.cells #[.int .u8 ((u:Int)%256)] 5)) w.heap.size (.slice po l0.length co) l0 [byteOf u] (.slice sF (l0.length+1) cap') w8):=Qh hA;clear hA))
    go_wp2_with fail;go_roundg (u/256)
    case measure=>have:=HM.out;omega
    case rel=>
     refine Qh ⟨u/256,l0++[byteOf u],by go_num,by omega,rfl,HA.out.own,by rw[C5.out,uX (by omega)];simp,?_⟩;exact HA.out.bL (aG sG.out _ sG.out.size) hz (fun k hk=>(mE.out.lt hk).1)
   ·obtain rfl:u=0:=by omega
    have hl:=C5.out;rw[sB,List.append_nil]at hl;subst hl;have h1:=H0.out.below au;have hq:=fO h1 (Nat.le_trans hBw au.size) [110,byteOf (dy N).length,0] 3 rfl (by omega);have hla:((dy N).length:Int)%256=(dy N).length:=by omega
    have e:([110,byteOf (dy N).length,0].flatMap bw).toArray=#[.int .u8 110,.int .u8 ((dy N).length:Int),.int .u8 0]:=by
     rw[←hla,←bF,bF,hla];have e4:byteOf ((dy N).length:Int)=byteOf ((dy N).length:Int):=rfl;simp only[List.flatMap_cons,List.flatMap_nil,bw,List.cons_append,List.nil_append,bF,hla];rfl
    rw[e]at hq;have HQ:=Qh hq;clear e hq hla h1;go_wp2_with fail;refine HQ.out.mono ?_;rintro e w1 ⟨rfl,v1,hq,hs1⟩;have hrow:aA bw 5 1 w1 w.heap.size (.slice po (dy N).length co) (dy N):=mE.out.same (fun k hk=>hs1.other (mE.out.lt hk).2 (by have:=(mE.out.lt hk).1;have:=H0.out.lt;omega) (fun e=>by have:=(mE.out.lt hk).1;have:=(H0.out.row.lt e).2;omega));have HN:=Qh (yM hq (Nat.le_trans hBw (Nat.le_trans au.size hs1.aX.size)) (hrow.row (aU _)) (fun e=>by have:=(mE.out.lt e).1;have:=H0.out.lt;omega) (by simp;omega));have dl:=Qh hs1;clear hq hs1 hrow
    go_wp2_with fail;refine HN.out.mono ?_;rintro e w2 ⟨rfl,v2,hq,iw⟩;have Ey:=Qh hq;have dP:=Qh iw;clear hq iw;go_wp2_with fail;go_end0
    exact⟨rfl,v2,by have h5:=Ey.out;rw[List.append_assoc]at h5;exact h5,(dl.out.trans dP.out).grow sG.out⟩
 ·have hab:((gx n:Nat):Int)=IntKind.u64.wrap (-IntKind.u64.wrap n):=by rw[uw];unfold Ax;rw[if_pos (by omega)]
  have iL:Hid (AJ (gx n) w (gx n) (.int .u64 (IntKind.u64.wrap (-IntKind.u64.wrap n))) (.slice none 0 0) w):=Qh ⟨(gx n),[],by rw[hab],hmx,rfl,aA.nil _ _ _,rfl,Below.refl _ _⟩;have e3:(if n<0 then(1:UInt8) else 0)=1:=if_pos (by omega);rw[e3];clear e3 hab;clear hmx;generalize gx n=N at*;go_enter Tryz.func99,Tryz.ntmps99;go_wp2_with fail;go_loopg [5,6] N (fun m uv lv wr=>Hid (AJ N w m uv lv wr))
  case atStart=>exact iL
  case round=>
   obtain⟨u,l0,rfl,hu,hm,hown,vC,au⟩:=hrel.out;clear hrel iL;obtain⟨po,co,rfl,_,_⟩:=hown.shape;have HM:=Qh hm;have mE:=Qh hown;have C5:=Qh vC;have sG:=Qh au;clear hm hown vC;have MS:l0.length≤8:=by
    have:=congrArg List.length C5.out;rw[List.length_append]at this;have:=N8.out;omega
   by_cases h0:0<u
   ·have hz:w.heap.size≤(wr.alloc (.cells #[.int .u8 ((u:Int)%256)] 5)).heap.size:=by rw[World.size_alloc];have:=au.size;omega
    have hrow:=lQ wr [byteOf u] 1 (Nat.le_refl _) (by decide);have e:([byteOf (u:Int)].flatMap bw).toArray=#[.int .u8 ((u:Int)%256)]:=by rw[←bF];rfl
    rw[e]at hrow;have CI:=Qh hrow;clear e hrow;have N9:=Qh (mE.out.below (aG (Below.refl wr.heap.size wr) (.cells #[.int .u8 ((u:Int)%256)] 5) (Nat.le_refl _)));go_wp2_with (first
     | (refine ay rW rfl (.tmp 17) (.tmp 20) rfl rfl N9.out hz rfl CI.out (aU _) (by simp;omega) ?_;intro v' w8 hA;obtain⟨sF,cap',hv,_,_⟩:=hA.own.shape;rw[List.length_append]at hv;subst hv;have HA:Hid (dz bw 5 1 (wr.alloc (.cells #[.int .u8 ((u:Int)%256)] 5)) w.heap.size (.slice po l0.length co) l0 [byteOf u] (.slice sF (l0.length+1) cap') w8):=Qh hA;clear hA))
    go_wp2_with fail;go_roundg (u/256)
    case measure=>have:=HM.out;omega
    case rel=>
     refine Qh ⟨u/256,l0++[byteOf u],by go_num,by omega,rfl,HA.out.own,by rw[C5.out,uX (by omega)];simp,?_⟩;exact HA.out.bL (aG sG.out _ sG.out.size) hz (fun k hk=>(mE.out.lt hk).1)
   ·obtain rfl:u=0:=by omega
    have hl:=C5.out;rw[sB,List.append_nil]at hl;subst hl;have h1:=H0.out.below au;have hq:=fO h1 (Nat.le_trans hBw au.size) [110,byteOf (dy N).length,1] 3 rfl (by omega);have hla:((dy N).length:Int)%256=(dy N).length:=by omega
    have e:([110,byteOf (dy N).length,1].flatMap bw).toArray=#[.int .u8 110,.int .u8 ((dy N).length:Int),.int .u8 1]:=by
     rw[←hla,←bF,bF,hla];have e4:byteOf ((dy N).length:Int)=byteOf ((dy N).length:Int):=rfl;simp only[List.flatMap_cons,List.flatMap_nil,bw,List.cons_append,List.nil_append,bF,hla];rfl
    rw[e]at hq;have HQ:=Qh hq;clear e hq hla h1;go_wp2_with fail;refine HQ.out.mono ?_;rintro e w1 ⟨rfl,v1,hq,hs1⟩;have hrow:aA bw 5 1 w1 w.heap.size (.slice po (dy N).length co) (dy N):=mE.out.same (fun k hk=>hs1.other (mE.out.lt hk).2 (by have:=(mE.out.lt hk).1;have:=H0.out.lt;omega) (fun e=>by have:=(mE.out.lt hk).1;have:=(H0.out.row.lt e).2;omega));have HN:=Qh (yM hq (Nat.le_trans hBw (Nat.le_trans au.size hs1.aX.size)) (hrow.row (aU _)) (fun e=>by have:=(mE.out.lt e).1;have:=H0.out.lt;omega) (by simp;omega));have dl:=Qh hs1;clear hq hs1 hrow
    go_wp2_with fail;refine HN.out.mono ?_;rintro e w2 ⟨rfl,v2,hq,iw⟩;have Ey:=Qh hq;have dP:=Qh iw;clear hq iw;go_wp2_with fail;go_end0
    exact⟨rfl,v2,by have h5:=Ey.out;rw[List.append_assoc]at h5;exact h5,(dl.out.trans dP.out).grow sG.out⟩
theorem xJ{w:World}{B b:Nat}{v:Value}{l:List UInt8}(h:jh w B b v l)(hB:B≤w.heap.size)(n:Int)(hn:l.length+11≤1000000000) :
 Calls Tryz.prog 99 #[.pointer (some ⟨b,0,none⟩),.int .i64 n] w fun e w'=>e=.returned (.tuple #[])∧wE B b v (l++iP n) w w':=by
 by_cases hs:0≤n∧n<256
 ·exact Hx h hB n hs.1 hs.2 hn
 by_cases hm:-2147483648≤n∧n≤2147483647
 ·exact N6 h hB n hs hm.1 hm.2 hn
 ·exact N7 h hB n hs hm hn
end Go.Proofs.YtfbggmbmgohiiaaGreat.tb
