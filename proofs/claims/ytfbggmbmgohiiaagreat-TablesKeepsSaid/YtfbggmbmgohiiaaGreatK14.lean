/- Texts of this seat, one behind the other: TmX, TmZ. No condition beyond theirs. -/
import Derived.Deep.QuietTactic
import Derived.Test.YtfbggmbmgohiiaaGreatK09
import Derived.StillTailTactics
import Derived.Test.YtfbggmbmgohiiaaGreatK13
set_option linter.unusedSimpArgs false
set_option linter.unusedVariables false
set_option maxHeartbeats 4000000
set_option maxRecDepth 100000
namespace Go.Proofs.YtfbggmbmgohiiaaGreat.tm
open Go.RowKit mem names
theorem listsW {n:Nat} (ih:∀ m,n = m + 1→CmpS m) (w:World) (B:Nat) (v1 v2:Value) (l1 l2:List (Tm n)) (hB:B ≤ w.heap.size) (h1:ItemsAt w B n v1 l1) (h2:ItemsAt w B n v2 l2) (f1:formedL n l1 = true) (f2:formedL n l2 = true) (hl1:2 ≤ l1.length) (hl2:2 ≤ l2.length) :
 Calls Tryz.prog 132 #[v1,v2] w (IPostC (listsC (kdT n) (cmpTm n) l1 l2) w):=by
 obtain ⟨p1,c1,rfl,hc1,hm1⟩:=h1.shape
 obtain ⟨p2,c2,rfl,hc2,hm2⟩:=h2.shape
 unfold maxLen at hm1 hm2
 have HP:=Lib.hid (pairEl ih w B p1 p2 _ _ c1 c2 l1 l2 hB h1 h2 f1 f2)
 have HA:=Lib.hid (lists_at (kdT n) (cmpTm n) l1 l2)
 obtain ⟨g1,o1,zx1,zq1,zm1,zd1,g2,o2,zx2,zq2,zm2,zd2,rfl,hg1,zC1,rfl,hg2,zrest⟩:=HP.out 0 0 (by omega) (by omega)
 clear zrest zC1
 have H0:Hid (listsC (kdT n) (cmpTm n) l1 l2 = listsC (kdT n) (cmpTm n) (l1.drop 0) (l2.drop 0)):=Lib.hid rfl
 generalize listsC (kdT n) (cmpTm n) l1 l2 = r at *
 clear ih h1 h2 f1 f2
 obtain ⟨a0,ha0⟩:∃ a,l1.length = a + 2:=⟨l1.length - 2,by omega⟩
 obtain ⟨b0,hb0⟩:∃ a,l2.length = a + 2:=⟨l2.length - 2,by omega⟩
 obtain ⟨x0,hx0⟩:∃ a,c1 = a + 2:=⟨c1 - 2,by omega⟩
 obtain ⟨y0,hy0⟩:∃ a,c2 = a + 2:=⟨c2 - 2,by omega⟩
 subst hx0
 subst hy0
 rw [ha0,hb0]
 have HL1:=Lib.hid ha0
 have HL2:=Lib.hid hb0
 rw [ha0] at hc1
 rw [hb0] at hc2
 clear ha0 hb0 hl1 hl2
 go_enter Tryz.func132,Tryz.ntmps132
 go_wp2_with fail
 go_loopw [0,1] (fun s t wr=>∃ k a b x y ga gb:Nat,s = .slice (some ⟨g1,ga,none⟩) (a + 2) (x + 2)∧t = .slice (some ⟨g2,gb,none⟩) (b + 2) (y + 2)∧Hid (ga = o1 + k * 9)∧Hid (gb = o2 + k * 9)∧Hid (k + a + 2 = l1.length)∧Hid (k + b + 2 = l2.length)∧a ≤ x∧b ≤ y∧x + 2 ≤ 9223372036854775807∧y + 2 ≤ 9223372036854775807∧Hid (r = listsC (kdT n) (cmpTm n) (l1.drop k) (l2.drop k))∧Below w.heap.size w wr) (fun s _ _=>match s with | .slice _ m _=>m | _=>0)
 case atStart=>exact ⟨0,a0,b0,x0,y0,o1,o2,rfl,rfl,Lib.hid (by omega),Lib.hid (by omega),Lib.hid (by have:=HL1.out;omega),Lib.hid (by have:=HL2.out;omega),by omega,by omega,by omega,by omega,H0,Below.refl _ _⟩
 case round =>
  obtain ⟨k,a,b,x,y,ga,gb,rfl,rfl,hga,hgb,hka,hkb,hax,hby,hxm,hym,hr,hb⟩:=hrel
  have hlt1:k < l1.length:=by have:=hka.out;omega
  have hlt2:k < l2.length:=by have:=hkb.out;omega
  have hn1:k + 1 < l1.length:=by have:=hka.out;omega
  have hn2:k + 1 < l2.length:=by have:=hkb.out;omega
  have HN1:=Lib.hid hn1
  have HN2:=Lib.hid hn2
  obtain ⟨_,_,x1,q1,m1,d1,_,_,x2,q2,m2,d2,e1,_,hC1,e2,_,hC2,ek1,ek2,hCall⟩:=HP.out k k hlt1 hlt2
  simp only [Option.some.injEq,Addr.mk.injEq] at e1 e2
  obtain ⟨rfl,rfl,_⟩:=e1
  obtain ⟨rfl,rfl,_⟩:=e2
  clear ek1 ek2
  have hC1:=hC1.same (hb.block g1 hg1)
  have hC2:=hC2.same (hb.block g2 hg2)
  rw [← hga.out] at hC1
  rw [← hgb.out] at hC2
  obtain ⟨x10,x11,x12,x13,x14,x15,x16,x17,x18⟩:=hC1
  obtain ⟨y10,y11,y12,y13,y14,y15,y16,y17,y18⟩:=hC2
  obtain ⟨A1,A2,A3,A4,A5⟩:=HA.out k hn1 hn2
  obtain ⟨_,_,x3,q3,m3,d3,_,_,x4,q4,m4,d4,e1,_,hC3,e2,_,hC4,ek1,ek2,hCall2⟩:=HP.out (k + 1) (k + 1) hn1 hn2
  simp only [Option.some.injEq,Addr.mk.injEq] at e1 e2
  obtain ⟨rfl,rfl,_⟩:=e1
  obtain ⟨rfl,rfl,_⟩:=e2
  rw [show o1 + (k + 1) * 9 = ga + 9 by have:=hga.out;omega] at hC3
  rw [show o2 + (k + 1) * 9 = gb + 9 by have:=hgb.out;omega] at hC4
  have HK1:=Lib.hid ek1
  have HK2:=Lib.hid ek2
  clear ek1 ek2
  have HC3:=Lib.hid hC3
  have HC4:=Lib.hid hC4
  clear hC3 hC4
  rw [← hr.out] at A1 A2
  have hb':Below w.heap.size w wr.drew:=hb.drewN 1
  have HC:=Lib.hid (hCall wr.drew hb')
  clear hCall
  have HA1:=Lib.hid A1
  have HA2:=Lib.hid A2
  have HA3:=Lib.hid A3
  have HA4:=Lib.hid A4
  have HA5:=Lib.hid A5
  clear A1 A2 A3 A4 A5 hr
  have HCall2:=Lib.hid hCall2
  clear hCall2
  generalize cmpTm n l1[k] l2[k] = z at *
  unfold aggV IPostC at HC HCall2
  have ha2:(0:Int) < (a:Int) + 2:=by omega
  have hb2:(0:Int) < (b:Int) + 2:=by omega
  have ha2n:0 < a + 2:=by omega
  have hb2n:0 < b + 2:=by omega
  go_wp2_with fail
  go_still_tail 6,(by kernel_rfl)
  change wpList _ _ _ _ _ wr.drew
  clear x10 x11 x12 x13 x14 x15 x16 x17 x18 y10 y11 y12 y13 y14 y15 y16 y17 y18
  generalize wr.drew = w2 at *
  go_wp2_with fail
  refine HC.out.mono ?_
  rintro e w3 ⟨rfl,hb3⟩
  have hb4:Below w.heap.size w w3:=hb'.trans (hb3.mono hb'.size)
  clear HC hb3 hb hb'
  by_cases hz:z = 0
  ·subst hz
   have hr1:=HA2.out rfl
   have hb5:Below w.heap.size w w3.drew:=hb4.drewN 1
   go_wp2_with fail
   go_quiet (fail)
   have hb5:Below w.heap.size w (w3.drewN nq):=hb4.drewN nq
   generalize w3.drewN nq = w4 at *
   clear HA1 HA2 hb4
   rcases a with _ | a
   ·rcases b with _ | b
    ·have hfin:r = cmpTm n (l1[k + 1]'HN1.out) (l2[k + 1]'HN2.out):=hr1.trans (HA3.out (by have:=hka.out;omega) (by have:=hkb.out;omega))
     have HFin:=Lib.hid hfin
     have hC3:=HC3.out.same (hb5.block g1 hg1)
     have hC4:=HC4.out.same (hb5.block g2 hg2)
     obtain ⟨x10,x11,x12,x13,x14,x15,x16,x17,x18⟩:=hC3
     obtain ⟨y10,y11,y12,y13,y14,y15,y16,y17,y18⟩:=hC4
     have hb6:Below w.heap.size w w4.drew:=hb5.drewN 1
     have HC:=Lib.hid (HCall2.out w4.drew hb6)
     clear hfin hr1 HA3 HA4 HA5 HCall2
     generalize cmpTm n (l1[k + 1]'HN1.out) (l2[k + 1]'HN2.out) = zz at *
     go_wp2_with fail
     go_still_tail 6,(by kernel_rfl)
     change wpList _ _ _ _ _ w4.drew
     clear x10 x11 x12 x13 x14 x15 x16 x17 x18 y10 y11 y12 y13 y14 y15 y16 y17 y18
     generalize w4.drew = w5 at *
     go_wp2_with fail
     refine HC.out.mono ?_
     rintro e w6 ⟨rfl,hb7⟩
     go_wp2_with fail
     go_ret
     exact ⟨ret1i HFin.out.symm,hb6.trans (hb7.mono hb6.size)⟩
    ·have hfin:r = cmpI (kdT n (l1[k + 1]'HN1.out)) 9:=hr1.trans (HA4.out (by have:=hka.out;omega) (by have:=hkb.out;omega))
     rw [← HK1.out] at hfin
     have HFin:=Lib.hid hfin
     have hC3:=HC3.out.same (hb5.block g1 hg1)
     obtain ⟨x10,x11,x12,x13,x14,x15,x16,x17,x18⟩:=hC3
     have HI:=Lib.hid (fun W=>cmpInt x3.kind 9 W)
     have qb:((b:Int) + 1 + 1 == 1) = false:=by simp;omega
     have qb':((b:Int) + 1 = 0) = False:=by simp;omega
     clear hfin hr1 HA3 HA4 HA5 HCall2 x11 x12 x13 x14 x15 x16 x17 x18
     go_wp2_with fail
     refine (HI.out _).mono ?_
     rintro e w6 ⟨rfl,rfl⟩
     go_wp2_with fail
     go_ret
     exact ⟨ret1i HFin.out.symm,hb5⟩
   ·have qa:((a:Int) + 1 + 1 == 1) = false:=by simp;omega
    have qa':((a:Int) + 1 = 0) = False:=by simp;omega
    rcases b with _ | b
    ·have hfin:r = cmpI 9 (kdT n (l2[k + 1]'HN2.out)):=hr1.trans (HA5.out (by have:=hka.out;omega) (by have:=hkb.out;omega))
     rw [← HK2.out] at hfin
     have HFin:=Lib.hid hfin
     have hC4:=HC4.out.same (hb5.block g2 hg2)
     obtain ⟨x10,x11,x12,x13,x14,x15,x16,x17,x18⟩:=hC4
     have HI:=Lib.hid (fun W=>cmpInt 9 x4.kind W)
     clear hfin hr1 HA3 HA4 HA5 HCall2 x11 x12 x13 x14 x15 x16 x17 x18
     go_wp2_with fail
     refine (HI.out _).mono ?_
     rintro e w6 ⟨rfl,rfl⟩
     go_wp2_with fail
     go_ret
     exact ⟨ret1i HFin.out.symm,hb5⟩
    ·have qb:((b:Int) + 1 + 1 == 1) = false:=by simp;omega
     have qb':((b:Int) + 1 = 0) = False:=by simp;omega
     have HR1:=Lib.hid hr1
     clear hr1 HA3 HA4 HA5 HCall2
     obtain ⟨x,rfl⟩:∃ x',x = x' + 1:=⟨x - 1,by omega⟩
     obtain ⟨y,rfl⟩:∃ y',y = y' + 1:=⟨y - 1,by omega⟩
     go_wp2_with fail
     go_roundw
     case rel=>exact ⟨k + 1,a,b,x,y,ga + 9,gb + 9,rfl,rfl,Lib.hid (by have:=hga.out;omega),Lib.hid (by have:=hgb.out;omega),Lib.hid (by have:=hka.out;omega),Lib.hid (by have:=hkb.out;omega),by omega,by omega,by omega,by omega,HR1,hb5⟩
     case measure=>simp
  ·have q:(z != 0) = true:=by simp [hz]
   have HF:=Lib.hid (HA1.out hz)
   go_wp2_with fail
   go_ret
   exact ⟨ret1i HF.out.symm,hb4⟩
theorem validHead (k1 i1 g1 k2 i2 g2 a b:Int) (nm1 fn1 nm2 fn2 x y:ByteArray) (ar1 ar2:Int) (p1 p2:Option Addr) (m1 c1 m2 c2:Nat) (w:World) (hk:k1 = k2) (h7:k1 ≠ 7) (h9:k1 ≠ 9) (h10:k1 ≠ 10) (r:Int)
 (hI:∀ W,Below w.heap.size w W→Calls Tryz.prog 131 #[.slice p1 m1 c1,.slice p2 m2 c2] W (IPostC r W)) :
 Calls Tryz.prog 121 #[aggV ⟨k1,i1,g1,nm1,fn1,ar1,x,a⟩ (.slice p1 m1 c1),aggV ⟨k2,i2,g2,nm2,fn2,ar2,y,b⟩ (.slice p2 m2 c2)] w (IPostC (if headC ⟨k1,i1,g1,nm1,fn1,ar1,x,a⟩ ⟨k2,i2,g2,nm2,fn2,ar2,y,b⟩ = 0 then r else headC ⟨k1,i1,g1,nm1,fn1,ar1,x,a⟩ ⟨k2,i2,g2,nm2,fn2,ar2,y,b⟩) w):=by
 have hCK:=Lib.hid (fun W=>cmpInt k1 k2 W)
 rw [cmpI_0 hk] at hCK
 subst hk
 have q7:(k1 == 7) = false:=by simp [h7]
 have q9:(k1 == 9) = false:=by simp [h9]
 have q10:(k1 == 10) = false:=by simp [h10]
 have HI:=Lib.hid hI
 clear hI
 unfold headC
 dsimp only
 have HOr:=Lib.hid (fun (W:World) (g:Nat) h=>firstOr W g [cmpB nm1 nm2,cmpB fn1 fn2,cmpI g1 g2,cmpI i1 i2,cmpI ar1 ar2] 5 (by simp) h)
 generalize hres:(if firstL [cmpB nm1 nm2,cmpB fn1 fn2,cmpI g1 g2,cmpI i1 i2,cmpI ar1 ar2] = 0 then r else firstL [cmpB nm1 nm2,cmpB fn1 fn2,cmpI g1 g2,cmpI i1 i2,cmpI ar1 ar2]) = res at *
 have HRes:=Lib.hid hres
 clear hres
 unfold IPostC at *
 unfold aggV
 dsimp only
 go_enter Tryz.func121,Tryz.ntmps121
 go_wp2_with fail
 obtain ⟨hN1,hN2,hbw,hsz⟩:=boxes2 w ⟨k1,i1,g1,nm1,fn1,ar1,x,a⟩ ⟨k1,i2,g2,nm2,fn2,ar2,y,b⟩ (.slice p1 m1 c1) (.slice p2 m2 c2)
 unfold cells9 at hN1 hN2 hbw hsz
 dsimp only at hN1 hN2 hbw hsz
 generalize ((w.alloc (.cells #[.int .i64 k1,.int .i64 i1,.int .i64 g1,.string nm1,.string fn1,.int .i64 ar1,.slice p1 m1 c1,.string x,.int .i64 a] 24)).alloc (.cells #[.int .i64 k1,.int .i64 i2,.int .i64 g2,.string nm2,.string fn2,.int .i64 ar2,.slice p2 m2 c2,.string y,.int .i64 b] 24)) = W0 at *
 have HZ1:Hid (w.heap.size < W0.heap.size):=Lib.hid (by omega)
 have HZ2:Hid (w.heap.size + 1 < W0.heap.size):=Lib.hid (by omega)
 clear hsz
 have HN1:=Lib.hid hN1
 have HN2:=Lib.hid hN2
 obtain ⟨x0,x1,x2,x3,x4,x5,x6,x7,x8,xz⟩:=hN1
 obtain ⟨y0,y1,y2,y3,y4,y5,y6,y7,y8,yz⟩:=hN2
 dsimp only at x0 x1 x2 x3 x4 x5 x6 x7 x8 y0 y1 y2 y3 y4 y5 y6 y7 y8
 refine (hCK.out _).mono ?_
 rintro e w' ⟨rfl,rfl⟩
 go_wp2_with fail
 go_still_tail 25,(by kernel_rfl)
 still_call ((cmpString nm1 nm2 _).mono (fun e w' h=>⟨h.1,h.2.symm⟩))
 repeat still_step
 still_call ((cmpString fn1 fn2 _).mono (fun e w' h=>⟨h.1,h.2.symm⟩))
 repeat still_step
 still_call ((cmpInt64 g1 g2 _).mono (fun e w' h=>⟨h.1,h.2.symm⟩))
 repeat still_step
 still_call ((cmpInt64 i1 i2 _).mono (fun e w' h=>⟨h.1,h.2.symm⟩))
 repeat still_step
 still_call ((cmpInt ar1 ar2 _).mono (fun e w' h=>⟨h.1,h.2.symm⟩))
 repeat still_step
 refine wpStill_nil ?_
 change wpList _ _ _ _ _ W0.drew
 have hN1:=nine_drew HN1.out
 have hN2:=nine_drew HN2.out
 have hbw1:Below w.heap.size w W0.drew:=hbw.drewN 1
 clear x0 x1 x2 x3 x4 x5 x6 x7 x8 xz y0 y1 y2 y3 y4 y5 y6 y7 y8 yz HN1 HN2 hbw
 have HZ1:Hid (w.heap.size < W0.drew.heap.size):=Lib.hid HZ1.out
 have HZ2:Hid (w.heap.size + 1 < W0.drew.heap.size):=Lib.hid HZ2.out
 generalize W0.drew = W1 at *
 generalize cmpB nm1 nm2 = u1 at *
 generalize cmpB fn1 fn2 = u2 at *
 generalize cmpI g1 g2 = u3 at *
 generalize cmpI i1 i2 = u4 at *
 generalize cmpI ar1 ar2 = u5 at *
 have HN1:=Lib.hid hN1
 have HN2:=Lib.hid hN2
 clear hN1 hN2
 go_wp2_with fail
 have hcells:∀ j,(h:j < [u1,u2,u3,u4,u5].length)→(W1.alloc (.cells #[.int .i64 u1,.int .i64 u2,.int .i64 u3,.int .i64 u4,.int .i64 u5] 3)).cell? ⟨W1.heap.size,j,none⟩ = some (.int .i64 [u1,u2,u3,u4,u5][j]):=fun j h=>by
  have hA:=(MapKept.heap_alloc W1 (.cells #[.int .i64 u1,.int .i64 u2,.int .i64 u3,.int .i64 u4,.int .i64 u5] 3)).1
  rcases (show j = 0∨j = 1∨j = 2∨j = 3∨j = 4 by simp at h;omega) with rfl | rfl | rfl | rfl | rfl <;> (simp only [World.cell?,hA];rfl)
 refine (HOr.out _ _ hcells).mono ?_
 clear hcells HOr
 rintro e w' ⟨rfl,rfl⟩
 have hbw2:Below w.heap.size w (W1.alloc (.cells #[.int .i64 u1,.int .i64 u2,.int .i64 u3,.int .i64 u4,.int .i64 u5] 3)):=hbw1.alloc hbw1.size _
 have hbb:Below W1.heap.size W1 (W1.alloc (.cells #[.int .i64 u1,.int .i64 u2,.int .i64 u3,.int .i64 u4,.int .i64 u5] 3)):=(Below.refl _ _).alloc (Nat.le_refl _) _
 obtain ⟨x0,x1,x2,x3,x4,x5,x6,x7,x8,xz⟩:=HN1.out.below hbb HZ1.out
 obtain ⟨y0,y1,y2,y3,y4,y5,y6,y7,y8,yz⟩:=HN2.out.below hbb HZ2.out
 dsimp only at x0 x1 x2 x3 x4 x5 x6 x7 x8 y0 y1 y2 y3 y4 y5 y6 y7 y8
 clear hbb hbw1
 generalize (W1.alloc (.cells #[.int .i64 u1,.int .i64 u2,.int .i64 u3,.int .i64 u4,.int .i64 u5] 3)) = W2 at *
 generalize firstL [u1,u2,u3,u4,u5] = hd at *
 by_cases h0:hd = 0
 ·subst h0
  go_wp2_with fail
  refine (HI.out _ hbw2).mono ?_
  rintro e w3 ⟨rfl,hb3⟩
  go_wp2_with fail
  go_ret
  exact ⟨ret1i (by rw [← HRes.out];simp),hbw2.trans (hb3.mono hbw2.size)⟩
 ·have q:(hd != 0) = true:=by simp [h0]
  have H0:=Lib.hid h0
  clear h0
  go_wp2_with fail
  go_ret
  exact ⟨ret1i (by rw [← HRes.out,if_neg H0.out]),hbw2⟩
end Go.Proofs.YtfbggmbmgohiiaaGreat.tm
