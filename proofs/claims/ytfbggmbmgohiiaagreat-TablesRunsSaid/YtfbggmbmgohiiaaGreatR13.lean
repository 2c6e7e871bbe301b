/- TmZ. No condition beyond theirs. -/
import Derived.Test.YtfbggmbmgohiiaaGreatR11
import Derived.Test.YtfbggmbmgohiiaaGreatR12
set_option linter.unusedSimpArgs false
set_option linter.unusedVariables false
set_option maxHeartbeats 4000000
set_option maxRecDepth 100000
namespace Go.Proofs.YtfbggmbmgohiiaaGreat.tm
open Go.RowKit mem names
theorem FJ(k1 i1 g1 k2 i2 g2 a b:Int)(oh dr iu cU x y:ByteArray)(mV gS:Int)(p1 p2:Option Addr)(m1 c1 m2 c2:Nat)(w:World)(hk:k1=k2)(h7:k1≠7)(h9:k1≠9)(lC:k1≠10)(r:Int)
 (hI:∀W,Below w.heap.size w W→Calls Tryz.prog 131 #[.slice p1 m1 c1,.slice p2 m2 c2] W (aM r W)) :
 Calls Tryz.prog 121 #[aj ⟨k1,i1,g1,oh,dr,mV,x,a⟩ (.slice p1 m1 c1),aj ⟨k2,i2,g2,iu,cU,gS,y,b⟩ (.slice p2 m2 c2)] w (aM (if jP ⟨k1,i1,g1,oh,dr,mV,x,a⟩ ⟨k2,i2,g2,iu,cU,gS,y,b⟩=0 then r else jP ⟨k1,i1,g1,oh,dr,mV,x,a⟩ ⟨k2,i2,g2,iu,cU,gS,y,b⟩) w):=by
 have FK:=Qh (fun W=>kV k1 k2 W);rw[sA hk]at FK;subst hk;have q7:(k1==7)=false:=by simp[h7]
 have q9:(k1==9)=false:=by simp[h9]
 have NQ:(k1==10)=false:=by simp[lC]
 have HI:=Qh hI;clear hI;unfold jP;dsimp only;have HOr:=Qh (fun(W:World) (g:Nat) h=>KG W g [dx oh iu,dx dr cU,aO g1 g2,aO i1 i2,aO mV gS] 5 (by simp) h);generalize hres:(if cn [dx oh iu,dx dr cU,aO g1 g2,aO i1 i2,aO mV gS]=0 then r else cn [dx oh iu,dx dr cU,aO g1 g2,aO i1 i2,aO mV gS])=res at*;have qu:=Qh hres;clear hres;unfold aM at*;unfold aj;dsimp only;go_enter Tryz.func121,Tryz.ntmps121;go_wp2_with fail
 obtain⟨cz,cZ,au,hsz⟩:=j8 w ⟨k1,i1,g1,oh,dr,mV,x,a⟩ ⟨k1,i2,g2,iu,cU,gS,y,b⟩ (.slice p1 m1 c1) (.slice p2 m2 c2);unfold av at cz cZ au hsz;dsimp only at cz cZ au hsz;generalize((w.alloc (.cells (a9 k1 i1 g1 oh dr mV (.slice p1 m1 c1) x a) 24)).alloc (.cells (a9 k1 i2 g2 iu cU gS (.slice p2 m2 c2) y b) 24))=W0 at*;have eT:Hid (w.heap.size<W0.heap.size):=Qh (by omega);have iW:Hid (w.heap.size+1<W0.heap.size):=Qh (by omega);clear hsz;have gF:=Qh cz;have gG:=Qh cZ;obtain⟨x0,x1,x2,x3,x4,x5,x6,x7,x8,xz⟩:=cz;obtain⟨y0,y1,y2,y3,y4,y5,y6,y7,y8,yz⟩:=cZ
 dsimp only at x0 x1 x2 x3 x4 x5 x6 x7 x8 y0 y1 y2 y3 y4 y5 y6 y7 y8;refine(FK.out _).mono ?_;rintro e w' ⟨rfl,rfl⟩;go_wp2_with fail;go_still_tail 25,(by kernel_rfl)
 still_call ((pG oh iu _).mono (fun e w' h=>⟨h.1,h.2.symm⟩))
 repeat still_step
 still_call ((pG dr cU _).mono (fun e w' h=>⟨h.1,h.2.symm⟩))
 repeat still_step
 still_call ((Al g1 g2 _).mono (fun e w' h=>⟨h.1,h.2.symm⟩))
 repeat still_step
 still_call ((Al i1 i2 _).mono (fun e w' h=>⟨h.1,h.2.symm⟩))
 repeat still_step
 still_call ((kV mV gS _).mono (fun e w' h=>⟨h.1,h.2.symm⟩))
 repeat still_step
 refine wpStill_nil ?_;change wpList _ _ _ _ _ W0.drew;have cz:=cR gF.out;have cZ:=cR gG.out;have jt:Qb w W0.drew:=au.drewN 1;clear x0 x1 x2 x3 x4 x5 x6 x7 x8 xz y0 y1 y2 y3 y4 y5 y6 y7 y8 yz gF gG au;have eT:Hid (w.heap.size<W0.drew.heap.size):=Qh eT.out;have iW:Hid (w.heap.size+1<W0.drew.heap.size):=Qh iW.out;generalize W0.drew=W1,dx oh iu=u1,dx dr cU=u2,aO g1 g2=u3,aO i1 i2=u4,aO mV gS=u5 at*;have gF:=Qh cz;have gG:=Qh cZ;clear cz cZ;go_wp2_with fail
 have hcells:∀j,(h:j<[u1,u2,u3,u4,u5].length)→(W1.alloc (.cells #[.int .i64 u1,.int .i64 u2,.int .i64 u3,.int .i64 u4,.int .i64 u5] 3)).cell? ⟨W1.heap.size,j,none⟩=some (.int .i64 [u1,u2,u3,u4,u5][j]):=fun j h=>by
  have hA:=(MapKept.heap_alloc W1 (.cells #[.int .i64 u1,.int .i64 u2,.int .i64 u3,.int .i64 u4,.int .i64 u5] 3)).1;rcases(show j=0∨j=1∨j=2∨j=3∨j=4 by simp at h;omega)with rfl|rfl|rfl|rfl|rfl <;> (simp only[World.cell?,hA];rfl)
 refine(HOr.out _ _ hcells).mono ?_;clear hcells HOr;rintro e w' ⟨rfl,rfl⟩;have qZ:Qb w (W1.alloc (.cells #[.int .i64 u1,.int .i64 u2,.int .i64 u3,.int .i64 u4,.int .i64 u5] 3)):=jt.alloc jt.size _;have KX:Qb W1 (W1.alloc (.cells #[.int .i64 u1,.int .i64 u2,.int .i64 u3,.int .i64 u4,.int .i64 u5] 3)):=(Below.refl _ _).alloc (Nat.le_refl _) _;obtain⟨x0,x1,x2,x3,x4,x5,x6,x7,x8,xz⟩:=gF.out.below KX eT.out;obtain⟨y0,y1,y2,y3,y4,y5,y6,y7,y8,yz⟩:=gG.out.below KX iW.out;dsimp only at x0 x1 x2 x3 x4 x5 x6 x7 x8 y0 y1 y2 y3 y4 y5 y6 y7 y8;clear KX jt
 generalize(W1.alloc (.cells #[.int .i64 u1,.int .i64 u2,.int .i64 u3,.int .i64 u4,.int .i64 u5] 3))=W2,cn [u1,u2,u3,u4,u5]=hd at*
 by_cases h0:hd=0
 ·subst h0;go_wp2_with fail;refine(HI.out _ qZ).mono ?_;rintro e w3 ⟨rfl,bN⟩;go_wp2_with fail;go_ret;exact⟨dH (by rw[←qu.out];simp),qZ.trans (bN.mono qZ.size)⟩
 ·have q:(hd != 0)=true:=by simp[h0]
  have H0:=Qh h0;clear h0;go_wp2_with fail;go_ret;exact⟨dH (by rw[←qu.out,if_neg H0.out]),qZ⟩
end Go.Proofs.YtfbggmbmgohiiaaGreat.tm
