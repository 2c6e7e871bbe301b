/- Texts of this seat, one behind the other: TnD. No condition beyond theirs. -/
import Derived.Test.YtfbggmbmgohiiaaGreatW19
set_option linter.unusedSimpArgs false
set_option linter.unusedVariables false
set_option maxHeartbeats 4000000
set_option maxRecDepth 100000
namespace Go.Proofs.YtfbggmbmgohiiaaGreat.tm
open Go.RowKit mem names
theorem first3At (W:World) (u1 u2 u3:Int):Calls Tryz.prog 110 #[.slice (some ⟨W.heap.size,0,none⟩) 3 3] (W.alloc (.cells #[.int .i64 u1,.int .i64 u2,.int .i64 u3] 3)) fun e w'=>e = .returned (.int .i64 (firstL [u1,u2,u3]))∧W.alloc (.cells #[.int .i64 u1,.int .i64 u2,.int .i64 u3] 3) = w':=by
 have hA:=(MapKept.heap_alloc W (.cells #[.int .i64 u1,.int .i64 u2,.int .i64 u3] 3)).1
 refine firstRef _ _ [u1,u2,u3] 3 (by simp) (fun j h=>?_)
 rcases (show j = 0∨j = 1∨j = 2 by simp at h;omega) with rfl | rfl | rfl <;> (simp only [World.cell?,hA];rfl)
theorem first5At (W:World) (u1 u2 u3 u4 u5:Int):Calls Tryz.prog 110 #[.slice (some ⟨W.heap.size,0,none⟩) 5 5] (W.alloc (.cells #[.int .i64 u1,.int .i64 u2,.int .i64 u3,.int .i64 u4,.int .i64 u5] 3)) fun e w'=>e = .returned (.int .i64 (firstL [u1,u2,u3,u4,u5]))∧W.alloc (.cells #[.int .i64 u1,.int .i64 u2,.int .i64 u3,.int .i64 u4,.int .i64 u5] 3) = w':=by
 have hA:=(MapKept.heap_alloc W (.cells #[.int .i64 u1,.int .i64 u2,.int .i64 u3,.int .i64 u4,.int .i64 u5] 3)).1
 refine firstRef _ _ [u1,u2,u3,u4,u5] 5 (by simp) (fun j h=>?_)
 rcases (show j = 0∨j = 1∨j = 2∨j = 3∨j = 4 by simp at h;omega) with rfl | rfl | rfl | rfl | rfl <;> (simp only [World.cell?,hA];rfl)
section
variable (i1 g1 i2 g2:Int) (n1 fn1 n2 fn2:ByteArray) (a1 a2:Int) (by1 by2:ByteArray) (s1 s2:Int) (p1 p2:Option Addr) (m1 c1 m2 c2:Nat) (w:World)
theorem fNe (k1 k2:Int) (hk:k1 ≠ k2) :
 Calls Tryz.prog 86 #[aggV ⟨k1,i1,g1,n1,fn1,a1,by1,s1⟩ (.slice p1 m1 c1),aggV ⟨k2,i2,g2,n2,fn2,a2,by2,s2⟩ (.slice p2 m2 c2)] w (IPostC (cmpI k1 k2) w):=by
 have HI:=Lib.hid (fun W=>ints k1 k2 W)
 have q:(k1 != k2) = true:=by simp [hk]
 clear hk
 generalize cmpI k1 k2 = z at *
 unfold IPostC aggV
 dsimp only
 go_enter Tryz.func86,Tryz.ntmps86
 go_wp2_with fail
 refine (HI.out _).mono ?_
 rintro e w' ⟨rfl,rfl⟩
 go_wp2_with fail
 go_ret
 exact ⟨rfl,((Below.refl _ _).alloc (Nat.le_refl _) _).alloc (by simp) _⟩
theorem f1  :
 Calls Tryz.prog 86 #[aggV ⟨1,i1,g1,n1,fn1,a1,by1,s1⟩ (.slice p1 m1 c1),aggV ⟨1,i2,g2,n2,fn2,a2,by2,s2⟩ (.slice p2 m2 c2)] w (IPostC (cmpI i1 i2) w):=by
 have HI:=Lib.hid (fun W=>ints i1 i2 W)
 generalize cmpI i1 i2 = z at *
 unfold IPostC aggV
 dsimp only
 go_enter Tryz.func86,Tryz.ntmps86
 go_wp2_with fail
 refine (HI.out _).mono ?_
 rintro e w' ⟨rfl,rfl⟩
 go_wp2_with fail
 go_ret
 exact ⟨rfl,((Below.refl _ _).alloc (Nat.le_refl _) _).alloc (by simp) _⟩
theorem f2  :
 Calls Tryz.prog 86 #[aggV ⟨2,i1,g1,n1,fn1,a1,by1,s1⟩ (.slice p1 m1 c1),aggV ⟨2,i2,g2,n2,fn2,a2,by2,s2⟩ (.slice p2 m2 c2)] w (IPostC (cmpB n1 n2) w):=by
 have HI:=Lib.hid (fun W=>texts n1 n2 W)
 generalize cmpB n1 n2 = z at *
 unfold IPostC aggV
 dsimp only
 go_enter Tryz.func86,Tryz.ntmps86
 go_wp2_with fail
 refine (HI.out _).mono ?_
 rintro e w' ⟨rfl,rfl⟩
 go_wp2_with fail
 go_ret
 exact ⟨rfl,((Below.refl _ _).alloc (Nat.le_refl _) _).alloc (by simp) _⟩
theorem f8  :
 Calls Tryz.prog 86 #[aggV ⟨8,i1,g1,n1,fn1,a1,by1,s1⟩ (.slice p1 m1 c1),aggV ⟨8,i2,g2,n2,fn2,a2,by2,s2⟩ (.slice p2 m2 c2)] w (IPostC (0) w):=by
 unfold IPostC aggV
 dsimp only
 go_enter Tryz.func86,Tryz.ntmps86
 go_wp2_with fail
 go_ret
 exact ⟨rfl,((Below.refl _ _).alloc (Nat.le_refl _) _).alloc (by simp) _⟩
theorem f7 (r:Int) (hI:∀ W,Below w.heap.size w W→Calls Tryz.prog 111 #[.slice p1 m1 c1,.slice p2 m2 c2] W (IPostC r W)) :
 Calls Tryz.prog 86 #[aggV ⟨7,i1,g1,n1,fn1,a1,by1,s1⟩ (.slice p1 m1 c1),aggV ⟨7,i2,g2,n2,fn2,a2,by2,s2⟩ (.slice p2 m2 c2)] w (IPostC (r) w):=by
 have HI:=Lib.hid hI
 clear hI
 unfold IPostC aggV at *
 dsimp only at *
 go_enter Tryz.func86,Tryz.ntmps86
 go_wp2_with fail
 refine (HI.out _ (((Below.refl _ _).alloc (Nat.le_refl _) _).alloc (by simp) _)).mono ?_
 rintro e w3 ⟨rfl,hb3⟩
 go_wp2_with fail
 go_ret
 exact ⟨rfl,(((Below.refl _ _).alloc (Nat.le_refl _) _).alloc (by simp) _).trans (hb3.mono (by simp;omega))⟩
theorem f9 (r:Int) (hI:∀ W,Below w.heap.size w W→Calls Tryz.prog 112 #[.slice p1 m1 c1,.slice p2 m2 c2] W (IPostC r W)) :
 Calls Tryz.prog 86 #[aggV ⟨9,i1,g1,n1,fn1,a1,by1,s1⟩ (.slice p1 m1 c1),aggV ⟨9,i2,g2,n2,fn2,a2,by2,s2⟩ (.slice p2 m2 c2)] w (IPostC (r) w):=by
 have HI:=Lib.hid hI
 clear hI
 unfold IPostC aggV at *
 dsimp only at *
 go_enter Tryz.func86,Tryz.ntmps86
 go_wp2_with fail
 refine (HI.out _ (((Below.refl _ _).alloc (Nat.le_refl _) _).alloc (by simp) _)).mono ?_
 rintro e w3 ⟨rfl,hb3⟩
 go_wp2_with fail
 go_ret
 exact ⟨rfl,(((Below.refl _ _).alloc (Nat.le_refl _) _).alloc (by simp) _).trans (hb3.mono (by simp;omega))⟩
theorem f10 (r:Int) (hI:∀ W,Below w.heap.size w W→Calls Tryz.prog 113 #[aggV ⟨10,i1,g1,n1,fn1,a1,by1,s1⟩ (.slice p1 m1 c1),aggV ⟨10,i2,g2,n2,fn2,a2,by2,s2⟩ (.slice p2 m2 c2)] W (IPostC r W)) :
 Calls Tryz.prog 86 #[aggV ⟨10,i1,g1,n1,fn1,a1,by1,s1⟩ (.slice p1 m1 c1),aggV ⟨10,i2,g2,n2,fn2,a2,by2,s2⟩ (.slice p2 m2 c2)] w (IPostC (r) w):=by
 have HI:=Lib.hid hI
 clear hI
 unfold IPostC aggV at *
 dsimp only at *
 go_enter Tryz.func86,Tryz.ntmps86
 go_wp2_with fail
 refine (HI.out _ (((Below.refl _ _).alloc (Nat.le_refl _) _).alloc (by simp) _)).mono ?_
 rintro e w3 ⟨rfl,hb3⟩
 go_wp2_with fail
 go_ret
 exact ⟨rfl,(((Below.refl _ _).alloc (Nat.le_refl _) _).alloc (by simp) _).trans (hb3.mono (by simp;omega))⟩
theorem f3  :
 Calls Tryz.prog 86 #[aggV ⟨3,i1,g1,n1,fn1,a1,by1,s1⟩ (.slice p1 m1 c1),aggV ⟨3,i2,g2,n2,fn2,a2,by2,s2⟩ (.slice p2 m2 c2)] w (IPostC (firstL [cmpB n1 n2,cmpI g1 g2,cmpI i1 i2]) w):=by
 obtain ⟨z,hz⟩:∃ z,firstL [cmpB n1 n2,cmpI g1 g2,cmpI i1 i2] = z:=⟨_,rfl⟩
 rw [hz]
 have HZ:=Lib.hid hz
 clear hz
 unfold IPostC aggV
 dsimp only
 go_enter Tryz.func86,Tryz.ntmps86
 go_wp2_with fail
 obtain ⟨hN1,hN2,hbw,hsz⟩:=boxes2 w ⟨3,i1,g1,n1,fn1,a1,by1,s1⟩ ⟨3,i2,g2,n2,fn2,a2,by2,s2⟩ (.slice p1 m1 c1) (.slice p2 m2 c2)
 unfold cells9 at hN1 hN2 hbw hsz
 dsimp only at hN1 hN2 hbw hsz
 generalize ((w.alloc (.cells #[.int .i64 3,.int .i64 i1,.int .i64 g1,.string n1,.string fn1,.int .i64 a1,.slice p1 m1 c1,.string by1,.int .i64 s1] 24)).alloc (.cells #[.int .i64 3,.int .i64 i2,.int .i64 g2,.string n2,.string fn2,.int .i64 a2,.slice p2 m2 c2,.string by2,.int .i64 s2] 24)) = W0 at *
 have HZ1:Hid (w.heap.size < W0.heap.size):=Lib.hid (by omega)
 have HZ2:Hid (w.heap.size + 1 < W0.heap.size):=Lib.hid (by omega)
 clear hsz
 have HN1:=Lib.hid hN1
 have HN2:=Lib.hid hN2
 clear hN1 hN2
 obtain ⟨x0,x1,x2,x3,x4,x5,x6,x7,x8,xz⟩:=HN1.out
 obtain ⟨y0,y1,y2,y3,y4,y5,y6,y7,y8,yz⟩:=HN2.out
 dsimp only at x0 x1 x2 x3 x4 x5 x6 x7 x8 y0 y1 y2 y3 y4 y5 y6 y7 y8
 go_still_tail 15,(by kernel_rfl)
 still_call ((texts n1 n2 _).mono (fun e w' h=>⟨h.1,h.2.symm⟩))
 repeat still_step
 still_call ((ints g1 g2 _).mono (fun e w' h=>⟨h.1,h.2.symm⟩))
 repeat still_step
 still_call ((ints i1 i2 _).mono (fun e w' h=>⟨h.1,h.2.symm⟩))
 repeat still_step
 refine wpStill_nil ?_
 change wpList _ _ _ _ _ W0.drew
 have hbw1:Below w.heap.size w W0.drew:=hbw.drewN 1
 clear x0 x1 x2 x3 x4 x5 x6 x7 x8 xz y0 y1 y2 y3 y4 y5 y6 y7 y8 yz
 clear HN1 HN2 hbw HZ1 HZ2
 generalize W0.drew = W1 at *
 generalize cmpB n1 n2 = u1 at *
 generalize cmpI g1 g2 = u2 at *
 generalize cmpI i1 i2 = u3 at *
 have hF:=Lib.hid (first3At W1 u1 u2 u3)
 rw [HZ.out] at hF
 go_wp2_with fail
 refine hF.out.mono ?_
 rintro e w3 ⟨rfl,rfl⟩
 go_wp2_with fail
 go_ret
 exact ⟨rfl,hbw1.alloc hbw1.size _⟩
theorem f6  :
 Calls Tryz.prog 86 #[aggV ⟨6,i1,g1,n1,fn1,a1,by1,s1⟩ (.slice p1 m1 c1),aggV ⟨6,i2,g2,n2,fn2,a2,by2,s2⟩ (.slice p2 m2 c2)] w (IPostC (firstL [cmpB n1 n2,cmpI g1 g2,cmpI i1 i2]) w):=by
 obtain ⟨z,hz⟩:∃ z,firstL [cmpB n1 n2,cmpI g1 g2,cmpI i1 i2] = z:=⟨_,rfl⟩
 rw [hz]
 have HZ:=Lib.hid hz
 clear hz
 unfold IPostC aggV
 dsimp only
 go_enter Tryz.func86,Tryz.ntmps86
 go_wp2_with fail
 obtain ⟨hN1,hN2,hbw,hsz⟩:=boxes2 w ⟨6,i1,g1,n1,fn1,a1,by1,s1⟩ ⟨6,i2,g2,n2,fn2,a2,by2,s2⟩ (.slice p1 m1 c1) (.slice p2 m2 c2)
 unfold cells9 at hN1 hN2 hbw hsz
 dsimp only at hN1 hN2 hbw hsz
 generalize ((w.alloc (.cells #[.int .i64 6,.int .i64 i1,.int .i64 g1,.string n1,.string fn1,.int .i64 a1,.slice p1 m1 c1,.string by1,.int .i64 s1] 24)).alloc (.cells #[.int .i64 6,.int .i64 i2,.int .i64 g2,.string n2,.string fn2,.int .i64 a2,.slice p2 m2 c2,.string by2,.int .i64 s2] 24)) = W0 at *
 have HZ1:Hid (w.heap.size < W0.heap.size):=Lib.hid (by omega)
 have HZ2:Hid (w.heap.size + 1 < W0.heap.size):=Lib.hid (by omega)
 clear hsz
 have HN1:=Lib.hid hN1
 have HN2:=Lib.hid hN2
 clear hN1 hN2
 obtain ⟨x0,x1,x2,x3,x4,x5,x6,x7,x8,xz⟩:=HN1.out
 obtain ⟨y0,y1,y2,y3,y4,y5,y6,y7,y8,yz⟩:=HN2.out
 dsimp only at x0 x1 x2 x3 x4 x5 x6 x7 x8 y0 y1 y2 y3 y4 y5 y6 y7 y8
 go_still_tail 15,(by kernel_rfl)
 still_call ((texts n1 n2 _).mono (fun e w' h=>⟨h.1,h.2.symm⟩))
 repeat still_step
 still_call ((ints g1 g2 _).mono (fun e w' h=>⟨h.1,h.2.symm⟩))
 repeat still_step
 still_call ((ints i1 i2 _).mono (fun e w' h=>⟨h.1,h.2.symm⟩))
 repeat still_step
 refine wpStill_nil ?_
 change wpList _ _ _ _ _ W0.drew
 have hbw1:Below w.heap.size w W0.drew:=hbw.drewN 1
 clear x0 x1 x2 x3 x4 x5 x6 x7 x8 xz y0 y1 y2 y3 y4 y5 y6 y7 y8 yz
 clear HN1 HN2 hbw HZ1 HZ2
 generalize W0.drew = W1 at *
 generalize cmpB n1 n2 = u1 at *
 generalize cmpI g1 g2 = u2 at *
 generalize cmpI i1 i2 = u3 at *
 have hF:=Lib.hid (first3At W1 u1 u2 u3)
 rw [HZ.out] at hF
 go_wp2_with fail
 refine hF.out.mono ?_
 rintro e w3 ⟨rfl,rfl⟩
 go_wp2_with fail
 go_ret
 exact ⟨rfl,hbw1.alloc hbw1.size _⟩
theorem f5  :
 Calls Tryz.prog 86 #[aggV ⟨5,i1,g1,n1,fn1,a1,by1,s1⟩ (.slice p1 m1 c1),aggV ⟨5,i2,g2,n2,fn2,a2,by2,s2⟩ (.slice p2 m2 c2)] w (IPostC (firstL [cmpB n1 n2,cmpB fn1 fn2,cmpI a1 a2]) w):=by
 obtain ⟨z,hz⟩:∃ z,firstL [cmpB n1 n2,cmpB fn1 fn2,cmpI a1 a2] = z:=⟨_,rfl⟩
 rw [hz]
 have HZ:=Lib.hid hz
 clear hz
 unfold IPostC aggV
 dsimp only
 go_enter Tryz.func86,Tryz.ntmps86
 go_wp2_with fail
 obtain ⟨hN1,hN2,hbw,hsz⟩:=boxes2 w ⟨5,i1,g1,n1,fn1,a1,by1,s1⟩ ⟨5,i2,g2,n2,fn2,a2,by2,s2⟩ (.slice p1 m1 c1) (.slice p2 m2 c2)
 unfold cells9 at hN1 hN2 hbw hsz
 dsimp only at hN1 hN2 hbw hsz
 generalize ((w.alloc (.cells #[.int .i64 5,.int .i64 i1,.int .i64 g1,.string n1,.string fn1,.int .i64 a1,.slice p1 m1 c1,.string by1,.int .i64 s1] 24)).alloc (.cells #[.int .i64 5,.int .i64 i2,.int .i64 g2,.string n2,.string fn2,.int .i64 a2,.slice p2 m2 c2,.string by2,.int .i64 s2] 24)) = W0 at *
 have HZ1:Hid (w.heap.size < W0.heap.size):=Lib.hid (by omega)
 have HZ2:Hid (w.heap.size + 1 < W0.heap.size):=Lib.hid (by omega)
 clear hsz
 have HN1:=Lib.hid hN1
 have HN2:=Lib.hid hN2
 clear hN1 hN2
 obtain ⟨x0,x1,x2,x3,x4,x5,x6,x7,x8,xz⟩:=HN1.out
 obtain ⟨y0,y1,y2,y3,y4,y5,y6,y7,y8,yz⟩:=HN2.out
 dsimp only at x0 x1 x2 x3 x4 x5 x6 x7 x8 y0 y1 y2 y3 y4 y5 y6 y7 y8
 go_still_tail 15,(by kernel_rfl)
 still_call ((texts n1 n2 _).mono (fun e w' h=>⟨h.1,h.2.symm⟩))
 repeat still_step
 still_call ((texts fn1 fn2 _).mono (fun e w' h=>⟨h.1,h.2.symm⟩))
 repeat still_step
 still_call ((ints a1 a2 _).mono (fun e w' h=>⟨h.1,h.2.symm⟩))
 repeat still_step
 refine wpStill_nil ?_
 change wpList _ _ _ _ _ W0.drew
 have hbw1:Below w.heap.size w W0.drew:=hbw.drewN 1
 clear x0 x1 x2 x3 x4 x5 x6 x7 x8 xz y0 y1 y2 y3 y4 y5 y6 y7 y8 yz
 clear HN1 HN2 hbw HZ1 HZ2
 generalize W0.drew = W1 at *
 generalize cmpB n1 n2 = u1 at *
 generalize cmpB fn1 fn2 = u2 at *
 generalize cmpI a1 a2 = u3 at *
 have hF:=Lib.hid (first3At W1 u1 u2 u3)
 rw [HZ.out] at hF
 go_wp2_with fail
 refine hF.out.mono ?_
 rintro e w3 ⟨rfl,rfl⟩
 go_wp2_with fail
 go_ret
 exact ⟨rfl,hbw1.alloc hbw1.size _⟩
theorem f4 (r:Int) (hI:∀ W,Below w.heap.size w W→Calls Tryz.prog 111 #[.slice p1 m1 c1,.slice p2 m2 c2] W (IPostC r W)) :
 Calls Tryz.prog 86 #[aggV ⟨4,i1,g1,n1,fn1,a1,by1,s1⟩ (.slice p1 m1 c1),aggV ⟨4,i2,g2,n2,fn2,a2,by2,s2⟩ (.slice p2 m2 c2)] w (IPostC (firstL [cmpB n1 n2,cmpI g1 g2,cmpI i1 i2,cmpI a1 a2,r]) w):=by
 have HI:=Lib.hid hI
 clear hI
 have HT:=Lib.hid (fun W=>texts n1 n2 W)
 have HG:=Lib.hid (fun W=>ints g1 g2 W)
 have HJ:=Lib.hid (fun W=>ints i1 i2 W)
 have HA:=Lib.hid (fun W=>ints a1 a2 W)
 generalize cmpB n1 n2 = u1 at *
 generalize cmpI g1 g2 = u2 at *
 generalize cmpI i1 i2 = u3 at *
 generalize cmpI a1 a2 = u4 at *
 have HF:=Lib.hid (fun W=>first5At W u1 u2 u3 u4 r)
 generalize firstL [u1,u2,u3,u4,r] = z at *
 unfold IPostC aggV at *
 dsimp only at *
 go_enter Tryz.func86,Tryz.ntmps86
 go_wp2_with fail
 obtain ⟨hN1,hN2,hbw,hsz⟩:=boxes2 w ⟨4,i1,g1,n1,fn1,a1,by1,s1⟩ ⟨4,i2,g2,n2,fn2,a2,by2,s2⟩ (.slice p1 m1 c1) (.slice p2 m2 c2)
 unfold cells9 at hN1 hN2 hbw hsz
 dsimp only at hN1 hN2 hbw hsz
 generalize ((w.alloc (.cells #[.int .i64 4,.int .i64 i1,.int .i64 g1,.string n1,.string fn1,.int .i64 a1,.slice p1 m1 c1,.string by1,.int .i64 s1] 24)).alloc (.cells #[.int .i64 4,.int .i64 i2,.int .i64 g2,.string n2,.string fn2,.int .i64 a2,.slice p2 m2 c2,.string by2,.int .i64 s2] 24)) = W0 at *
 have HZ1:Hid (w.heap.size < W0.heap.size):=Lib.hid (by omega)
 have HZ2:Hid (w.heap.size + 1 < W0.heap.size):=Lib.hid (by omega)
 clear hsz
 have HN1:=Lib.hid hN1
 have HN2:=Lib.hid hN2
 clear hN1 hN2
 obtain ⟨x0,x1,x2,x3,x4,x5,x6,x7,x8,xz⟩:=HN1.out
 obtain ⟨y0,y1,y2,y3,y4,y5,y6,y7,y8,yz⟩:=HN2.out
 dsimp only at x0 x1 x2 x3 x4 x5 x6 x7 x8 y0 y1 y2 y3 y4 y5 y6 y7 y8
 have hbd:Below w.heap.size w W0.drew:=hbw.drewN 1
 have HIW:=Lib.hid (HI.out W0.drew hbd)
 have HD1:=Lib.hid (show Nine W0.drew w.heap.size ⟨4,i1,g1,n1,fn1,a1,by1,s1⟩ (.slice p1 m1 c1) from nine_drew HN1.out)
 have HD2:=Lib.hid (show Nine W0.drew (w.heap.size + 1) ⟨4,i2,g2,n2,fn2,a2,by2,s2⟩ (.slice p2 m2 c2) from nine_drew HN2.out)
 go_region_held3 (fun w'=>(w'.cell? ⟨w.heap.size,0,none⟩ = some (.int .i64 4)∧w'.cell? ⟨w.heap.size,1,none⟩ = some (.int .i64 i1)∧w'.cell? ⟨w.heap.size,2,none⟩ = some (.int .i64 g1)∧w'.cell? ⟨w.heap.size,3,none⟩ = some (.string n1)∧w'.cell? ⟨w.heap.size,4,none⟩ = some (.string fn1)∧w'.cell? ⟨w.heap.size,5,none⟩ = some (.int .i64 a1)∧w'.cell? ⟨w.heap.size,6,none⟩ = some (.slice p1 m1 c1)∧w'.cell? ⟨w.heap.size,7,none⟩ = some (.string by1)∧w'.cell? ⟨w.heap.size,8,none⟩ = some (.int .i64 s1))∧w'.cell? ⟨w.heap.size + 1,0,none⟩ = some (.int .i64 4)∧w'.cell? ⟨w.heap.size + 1,1,none⟩ = some (.int .i64 i2)∧w'.cell? ⟨w.heap.size + 1,2,none⟩ = some (.int .i64 g2)∧w'.cell? ⟨w.heap.size + 1,3,none⟩ = some (.string n2)∧w'.cell? ⟨w.heap.size + 1,4,none⟩ = some (.string fn2)∧w'.cell? ⟨w.heap.size + 1,5,none⟩ = some (.int .i64 a2)∧w'.cell? ⟨w.heap.size + 1,6,none⟩ = some (.slice p2 m2 c2)∧w'.cell? ⟨w.heap.size + 1,7,none⟩ = some (.string by2)∧w'.cell? ⟨w.heap.size + 1,8,none⟩ = some (.int .i64 s2)) (go_keep)
  (first
    | (go_at_call 109;(with_reducible refine (HT.out _).mono ?_);rintro e w4 ⟨rfl,rfl⟩)
    | (go_at_call 108;(with_reducible refine (HG.out _).mono ?_);rintro e w4 ⟨rfl,rfl⟩)
    | (go_at_call 108;(with_reducible refine (HJ.out _).mono ?_);rintro e w4 ⟨rfl,rfl⟩)
    | (go_at_call 108;(with_reducible refine (HA.out _).mono ?_);rintro e w4 ⟨rfl,rfl⟩)
    | (go_at_call 111;(with_reducible refine HIW.out.mono ?_);rintro e w1 ⟨rfl,hb⟩;have HM1:=Lib.hid (HD1.out.below hb HZ1.out);have HM2:=Lib.hid (HD2.out.below hb HZ2.out);obtain ⟨z0,z1,z2,z3,z4,z5,z6,z7,z8,zz⟩:=HM1.out;obtain ⟨t0,t1,t2,t3,t4,t5,t6,t7,t8,tz⟩:=HM2.out;dsimp only at z0 z1 z2 z3 z4 z5 z6 z7 z8 t0 t1 t2 t3 t4 t5 t6 t7 t8)
    | (go_at_call 110;(with_reducible refine (HF.out w1).mono ?_);rintro e w5 ⟨rfl,rfl⟩))
 have hbf:Below w.heap.size w w1:=hbd.trans (hb.mono hbd.size)
 go_wp2_with fail
 go_ret
 exact ⟨rfl,hbf.alloc hbf.size _⟩
end
end Go.Proofs.YtfbggmbmgohiiaaGreat.tm
