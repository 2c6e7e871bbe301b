/- Texts of this seat, one behind the other: TnA, TnB, TnC. No condition beyond theirs. -/
import Derived.Deep.RegionHeld3
import Derived.Test.YtfbggmbmgohiiaaGreatW11
import Derived.Test.YtfbggmbmgohiiaaGreatW09
import Derived.Test.YtfbggmbmgohiiaaGreatW18
set_option linter.unusedSimpArgs false
set_option linter.unusedVariables false
set_option maxHeartbeats 4000000
set_option maxRecDepth 100000
namespace Go.Proofs.YtfbggmbmgohiiaaGreat.tm
open Go.RowKit mem names
theorem validNe (k1 i1 g1 k2 i2 g2 a b:Int) (nm1 fn1 nm2 fn2 x y:ByteArray) (ar1 ar2:Int) (p1 p2:Option Addr) (m1 c1 m2 c2:Nat) (w:World) (hk:k1 ≠ k2) :
 Calls Tryz.prog 121 #[aggV ⟨k1,i1,g1,nm1,fn1,ar1,x,a⟩ (.slice p1 m1 c1),aggV ⟨k2,i2,g2,nm2,fn2,ar2,y,b⟩ (.slice p2 m2 c2)] w (IPostC (cmpI k1 k2) w):=by
 have hCK:=Lib.hid (fun W=>cmpInt k1 k2 W)
 have h0:=cmpI_ne hk
 clear hk
 generalize cmpI k1 k2 = z at *
 have q:(z != 0) = true:=by simp [h0]
 clear h0
 unfold IPostC at *
 unfold aggV
 dsimp only
 go_enter Tryz.func121,Tryz.ntmps121
 go_wp2_with fail
 refine (hCK.out _).mono ?_
 rintro e w' ⟨rfl,rfl⟩
 go_wp2_with fail
 go_ret
 exact ⟨rfl,((Below.refl _ _).alloc (Nat.le_refl _) _).alloc (by simp) _⟩
theorem validItems (k i1 g1 i2 g2 a b:Int) (nm1 fn1 nm2 fn2 x y:ByteArray) (ar1 ar2:Int) (p1 p2:Option Addr) (m1 c1 m2 c2:Nat) (w:World) (hk:k = 7) (r:Int)
 (hI:∀ W,Below w.heap.size w W→Calls Tryz.prog 131 #[.slice p1 m1 c1,.slice p2 m2 c2] W (IPostC r W)) :
 Calls Tryz.prog 121 #[aggV ⟨k,i1,g1,nm1,fn1,ar1,x,a⟩ (.slice p1 m1 c1),aggV ⟨k,i2,g2,nm2,fn2,ar2,y,b⟩ (.slice p2 m2 c2)] w (IPostC r w):=by
 subst hk
 have hCK:=Lib.hid (fun W=>cmpInt 7 7 W)
 rw [cmpI_0 rfl] at hCK
 have HI:=Lib.hid hI
 clear hI
 unfold IPostC at *
 unfold aggV
 dsimp only
 go_enter Tryz.func121,Tryz.ntmps121
 go_wp2_with fail
 refine (hCK.out _).mono ?_
 rintro e w' ⟨rfl,rfl⟩
 go_wp2_with fail
 refine (HI.out _ (((Below.refl _ _).alloc (Nat.le_refl _) _).alloc (by simp) _)).mono ?_
 rintro e w3 ⟨rfl,hb3⟩
 go_wp2_with fail
 go_ret
 exact ⟨rfl,(((Below.refl _ _).alloc (Nat.le_refl _) _).alloc (by simp) _).trans (hb3.mono (by simp;omega))⟩
theorem validLists (k i1 g1 i2 g2 a b:Int) (nm1 fn1 nm2 fn2 x y:ByteArray) (ar1 ar2:Int) (p1 p2:Option Addr) (m1 c1 m2 c2:Nat) (w:World) (hk:k = 9) (r:Int)
 (hI:∀ W,Below w.heap.size w W→Calls Tryz.prog 132 #[.slice p1 m1 c1,.slice p2 m2 c2] W (IPostC r W)) :
 Calls Tryz.prog 121 #[aggV ⟨k,i1,g1,nm1,fn1,ar1,x,a⟩ (.slice p1 m1 c1),aggV ⟨k,i2,g2,nm2,fn2,ar2,y,b⟩ (.slice p2 m2 c2)] w (IPostC r w):=by
 subst hk
 have hCK:=Lib.hid (fun W=>cmpInt 9 9 W)
 rw [cmpI_0 rfl] at hCK
 have HI:=Lib.hid hI
 clear hI
 unfold IPostC at *
 unfold aggV
 dsimp only
 go_enter Tryz.func121,Tryz.ntmps121
 go_wp2_with fail
 refine (hCK.out _).mono ?_
 rintro e w' ⟨rfl,rfl⟩
 go_wp2_with fail
 refine (HI.out _ (((Below.refl _ _).alloc (Nat.le_refl _) _).alloc (by simp) _)).mono ?_
 rintro e w3 ⟨rfl,hb3⟩
 go_wp2_with fail
 go_ret
 exact ⟨rfl,(((Below.refl _ _).alloc (Nat.le_refl _) _).alloc (by simp) _).trans (hb3.mono (by simp;omega))⟩
theorem validBits (k i1 g1 i2 g2 a b:Int) (nm1 fn1 nm2 fn2 x y:ByteArray) (ar1 ar2:Int) (p1 p2:Option Addr) (m1 c1 m2 c2:Nat) (w:World) (hk:k = 10) (r:Int)
 (hI:∀ W,Below w.heap.size w W→Calls Tryz.prog 133 #[aggV ⟨k,i1,g1,nm1,fn1,ar1,x,a⟩ (.slice p1 m1 c1),aggV ⟨k,i2,g2,nm2,fn2,ar2,y,b⟩ (.slice p2 m2 c2)] W (IPostC r W)) :
 Calls Tryz.prog 121 #[aggV ⟨k,i1,g1,nm1,fn1,ar1,x,a⟩ (.slice p1 m1 c1),aggV ⟨k,i2,g2,nm2,fn2,ar2,y,b⟩ (.slice p2 m2 c2)] w (IPostC r w):=by
 subst hk
 have hCK:=Lib.hid (fun W=>cmpInt 10 10 W)
 rw [cmpI_0 rfl] at hCK
 have HI:=Lib.hid hI
 clear hI
 unfold IPostC at *
 unfold aggV at *
 dsimp only at *
 go_enter Tryz.func121,Tryz.ntmps121
 go_wp2_with fail
 refine (hCK.out _).mono ?_
 rintro e w' ⟨rfl,rfl⟩
 go_wp2_with fail
 refine (HI.out _ (((Below.refl _ _).alloc (Nat.le_refl _) _).alloc (by simp) _)).mono ?_
 rintro e w3 ⟨rfl,hb3⟩
 go_wp2_with fail
 go_ret
 exact ⟨rfl,(((Below.refl _ _).alloc (Nat.le_refl _) _).alloc (by simp) _).trans (hb3.mono (by simp;omega))⟩
theorem formed_items {n:Nat} {t:Tm (n + 1)} (h:formedT t = true):formedL n t.items = true:=by
 unfold formedT at h
 simp only [Bool.and_eq_true] at h
 exact h.2
theorem validF (x y:TF) (p1 p2:Option Addr) (m1 c1 m2 c2:Nat) (ri rl:Int) (w:World)
 (hItems:∀ W,Below w.heap.size w W→Calls Tryz.prog 131 #[.slice p1 m1 c1,.slice p2 m2 c2] W (IPostC ri W))
 (hLists:∀ W,Below w.heap.size w W→2 ≤ m1→2 ≤ m2→Calls Tryz.prog 132 #[.slice p1 m1 c1,.slice p2 m2 c2] W (IPostC rl W))
 (hb1:x.kind = 10→BitsOK x) (hb2:y.kind = 10→BitsOK y) (hl1:x.kind = 9→2 ≤ m1) (hl2:y.kind = 9→2 ≤ m2) :
 Calls Tryz.prog 121 #[aggV x (.slice p1 m1 c1),aggV y (.slice p2 m2 c2)] w (IPostC (if x.kind = y.kind then (if x.kind = 7 then ri else if x.kind = 9 then rl else if x.kind = 10 then bitsC x y else if headC x y = 0 then ri else headC x y) else cmpI x.kind y.kind) w):=by
 obtain ⟨k1,i1,g1,n1,fn1,a1,b1,s1⟩:=x
 obtain ⟨k2,i2,g2,n2,fn2,a2,b2,s2⟩:=y
 dsimp only at *
 by_cases hk:k1 = k2
 ·subst hk
  rw [if_pos rfl]
  by_cases h7:k1 = 7
  ·rw [if_pos h7];exact validItems k1 _ _ _ _ _ _ _ _ _ _ _ _ _ _ _ _ _ _ _ _ w h7 ri hItems
  rw [if_neg h7]
  by_cases h9:k1 = 9
  ·rw [if_pos h9];exact validLists k1 _ _ _ _ _ _ _ _ _ _ _ _ _ _ _ _ _ _ _ _ w h9 rl (fun W hb=>hLists W hb (hl1 h9) (hl2 h9))
  rw [if_neg h9]
  by_cases h10:k1 = 10
  ·rw [if_pos h10]
   exact validBits k1 _ _ _ _ _ _ _ _ _ _ _ _ _ _ _ _ _ _ _ _ w h10 _ (fun W hb=>bitsW _ _ _ _ _ _ _ _ W ⟨(hb1 h10).lo,(hb1 h10).hi⟩ ⟨(hb2 h10).lo,(hb2 h10).hi⟩ (hb1 h10).size (hb2 h10).size)
  rw [if_neg h10]
  exact validHead k1 _ _ k1 _ _ _ _ _ _ _ _ _ _ _ _ _ _ _ _ _ _ w rfl h7 h9 h10 ri hItems
 ·rw [if_neg hk]
  exact validNe _ _ _ _ _ _ _ _ _ _ _ _ _ _ _ _ _ _ _ _ _ _ w hk
theorem validStep {n:Nat} (ih:∀ m,n = m + 1→CmpS m):CmpS n:=by
 intro w B v1 v2 a b hB h1 h2 f1 f2
 have F1:=formed_items f1
 have F2:=formed_items f2
 have hItems:=fun W (hb:Below w.heap.size w W)=>itemsW ih W B v1 v2 a.items b.items (Nat.le_trans hB hb.size) (h1.below hb hB) (h2.below hb hB) F1 F2
 have hLists:=fun W (hb:Below w.heap.size w W)=>listsW ih W B v1 v2 a.items b.items (Nat.le_trans hB hb.size) (h1.below hb hB) (h2.below hb hB) F1 F2
 obtain ⟨p1,c1,rfl,_,_⟩:=h1.shape
 obtain ⟨p2,c2,rfl,_,_⟩:=h2.shape
 exact validF a.f b.f p1 p2 _ c1 _ c2 _ _ w hItems hLists (fun h=>ft_bits f1 h) (fun h=>ft_bits f2 h) (fun h=>(ft_list f1 h).1) (fun h=>(ft_list f2 h).1)
theorem validAll:∀ n,CmpS n
 | 0=>validStep (fun m h=>by omega)
 | n + 1 => validStep (fun m h => by obtain rfl : n = m := by omega
                                     exact validAll n)
noncomputable def cmpV {n:Nat} (a b:Tm (n + 1)):Int:=if validT a = true then (if validT b = true then cmpTm (n + 1) a b else 1) else (if validT b = true then -1 else 0)
theorem valid_formed {n:Nat} {t:Tm (n + 1)} (h:validT t = true):formedT t = true:=by
 unfold validT at h
 simp only [Bool.and_eq_true] at h
 exact h.1
theorem compareF (x y:TF) (p1 p2:Option Addr) (m1 c1 m2 c2:Nat) (va vb:Bool) (r:Int) (w:World)
 (hV1:∀ W,Below w.heap.size w W→Calls Tryz.prog 50 #[aggV x (.slice p1 m1 c1)] W (BPost va W))
 (hV2:∀ W,Below w.heap.size w W→Calls Tryz.prog 50 #[aggV y (.slice p2 m2 c2)] W (BPost vb W))
 (hC:va = true→vb = true→∀ W,Below w.heap.size w W→Calls Tryz.prog 121 #[aggV x (.slice p1 m1 c1),aggV y (.slice p2 m2 c2)] W (IPostC r W)) :
 Calls Tryz.prog 96 #[aggV x (.slice p1 m1 c1),aggV y (.slice p2 m2 c2)] w (IPostC (if va = true then (if vb = true then r else 1) else (if vb = true then -1 else 0)) w):=by
 generalize hres:(if va = true then (if vb = true then r else 1) else (if vb = true then -1 else 0)) = res
 have HRes:=Lib.hid hres
 clear hres
 have HV1:=Lib.hid hV1
 have HV2:=Lib.hid hV2
 have HC:=Lib.hid hC
 clear hV1 hV2 hC
 obtain ⟨k1,i1,g1,n1,fn1,a1,b1,s1⟩:=x
 obtain ⟨k2,i2,g2,n2,fn2,a2,b2,s2⟩:=y
 unfold aggV BPost IPostC at *
 dsimp only at *
 go_enter Tryz.func96,Tryz.ntmps96
 go_wp2_with fail
 obtain ⟨hN1,hN2,hbw,hsz⟩:=boxes2 w ⟨k1,i1,g1,n1,fn1,a1,b1,s1⟩ ⟨k2,i2,g2,n2,fn2,a2,b2,s2⟩ (.slice p1 m1 c1) (.slice p2 m2 c2)
 unfold cells9 at hN1 hN2 hbw hsz
 dsimp only at hN1 hN2 hbw hsz
 generalize ((w.alloc (.cells #[.int .i64 k1,.int .i64 i1,.int .i64 g1,.string n1,.string fn1,.int .i64 a1,.slice p1 m1 c1,.string b1,.int .i64 s1] 24)).alloc (.cells #[.int .i64 k2,.int .i64 i2,.int .i64 g2,.string n2,.string fn2,.int .i64 a2,.slice p2 m2 c2,.string b2,.int .i64 s2] 24)) = W0 at *
 have HZ1:Hid (w.heap.size < W0.heap.size):=Lib.hid (by omega)
 have HZ2:Hid (w.heap.size + 1 < W0.heap.size):=Lib.hid (by omega)
 clear hsz
 have HN1:=Lib.hid hN1
 have HN2:=Lib.hid hN2
 obtain ⟨x0,x1,x2,x3,x4,x5,x6,x7,x8,xz⟩:=hN1
 obtain ⟨y0,y1,y2,y3,y4,y5,y6,y7,y8,yz⟩:=hN2
 dsimp only at x0 x1 x2 x3 x4 x5 x6 x7 x8 y0 y1 y2 y3 y4 y5 y6 y7 y8
 have hbd:Below w.heap.size w (W0.drewN 1):=hbw.drewN 1
 have HD1:=Lib.hid (show Nine (W0.drewN 1) w.heap.size ⟨k1,i1,g1,n1,fn1,a1,b1,s1⟩ (.slice p1 m1 c1) from nine_drew HN1.out)
 have HD2:=Lib.hid (show Nine (W0.drewN 1) (w.heap.size + 1) ⟨k2,i2,g2,n2,fn2,a2,b2,s2⟩ (.slice p2 m2 c2) from nine_drew HN2.out)
 go_region_held3 (fun w'=>(w'.cell? ⟨w.heap.size,0,none⟩ = some (.int .i64 k1)∧w'.cell? ⟨w.heap.size,1,none⟩ = some (.int .i64 i1)∧w'.cell? ⟨w.heap.size,2,none⟩ = some (.int .i64 g1)∧w'.cell? ⟨w.heap.size,3,none⟩ = some (.string n1)∧w'.cell? ⟨w.heap.size,4,none⟩ = some (.string fn1)∧w'.cell? ⟨w.heap.size,5,none⟩ = some (.int .i64 a1)∧w'.cell? ⟨w.heap.size,6,none⟩ = some (.slice p1 m1 c1)∧w'.cell? ⟨w.heap.size,7,none⟩ = some (.string b1)∧w'.cell? ⟨w.heap.size,8,none⟩ = some (.int .i64 s1))∧w'.cell? ⟨w.heap.size + 1,0,none⟩ = some (.int .i64 k2)∧w'.cell? ⟨w.heap.size + 1,1,none⟩ = some (.int .i64 i2)∧w'.cell? ⟨w.heap.size + 1,2,none⟩ = some (.int .i64 g2)∧w'.cell? ⟨w.heap.size + 1,3,none⟩ = some (.string n2)∧w'.cell? ⟨w.heap.size + 1,4,none⟩ = some (.string fn2)∧w'.cell? ⟨w.heap.size + 1,5,none⟩ = some (.int .i64 a2)∧w'.cell? ⟨w.heap.size + 1,6,none⟩ = some (.slice p2 m2 c2)∧w'.cell? ⟨w.heap.size + 1,7,none⟩ = some (.string b2)∧w'.cell? ⟨w.heap.size + 1,8,none⟩ = some (.int .i64 s2)) (go_keep)
  (first
    | (go_at_call 50;refine (HV1.out _ hbd).mono ?_;rintro e w1 ⟨rfl,hb⟩;have hbe:=hbd.trans (hb.mono hbd.size);have HM1:=Lib.hid (HD1.out.below hb HZ1.out);have HM2:=Lib.hid (HD2.out.below hb HZ2.out);obtain ⟨z0,z1,z2,z3,z4,z5,z6,z7,z8,zz⟩:=HM1.out;obtain ⟨t0,t1,t2,t3,t4,t5,t6,t7,t8,tz⟩:=HM2.out;dsimp only at z0 z1 z2 z3 z4 z5 z6 z7 z8 t0 t1 t2 t3 t4 t5 t6 t7 t8)
    | (go_at_call 50;refine (HV2.out _ hbd).mono ?_;rintro e w1 ⟨rfl,hb⟩;have hbe:=hbd.trans (hb.mono hbd.size);have HM1:=Lib.hid (HD1.out.below hb HZ1.out);have HM2:=Lib.hid (HD2.out.below hb HZ2.out);obtain ⟨z0,z1,z2,z3,z4,z5,z6,z7,z8,zz⟩:=HM1.out;obtain ⟨t0,t1,t2,t3,t4,t5,t6,t7,t8,tz⟩:=HM2.out;dsimp only at z0 z1 z2 z3 z4 z5 z6 z7 z8 t0 t1 t2 t3 t4 t5 t6 t7 t8)
    | (go_at_call 50;refine (HV1.out _ hbe).mono ?_;rintro e w2 ⟨rfl,hb2⟩;have hbf:=hbe.trans (hb2.mono hbe.size);have hz1:=Nat.lt_of_lt_of_le HZ1.out hb.size;have hz2:=Nat.lt_of_lt_of_le HZ2.out hb.size;have HL1:=Lib.hid (HM1.out.below hb2 hz1);have HL2:=Lib.hid (HM2.out.below hb2 hz2);obtain ⟨z0,z1,z2,z3,z4,z5,z6,z7,z8,zz⟩:=HL1.out;obtain ⟨t0,t1,t2,t3,t4,t5,t6,t7,t8,tz⟩:=HL2.out;dsimp only at z0 z1 z2 z3 z4 z5 z6 z7 z8 t0 t1 t2 t3 t4 t5 t6 t7 t8)
    | (go_at_call 50;refine (HV2.out _ hbe).mono ?_;rintro e w2 ⟨rfl,hb2⟩;have hbf:=hbe.trans (hb2.mono hbe.size);have hz1:=Nat.lt_of_lt_of_le HZ1.out hb.size;have hz2:=Nat.lt_of_lt_of_le HZ2.out hb.size;have HL1:=Lib.hid (HM1.out.below hb2 hz1);have HL2:=Lib.hid (HM2.out.below hb2 hz2);obtain ⟨z0,z1,z2,z3,z4,z5,z6,z7,z8,zz⟩:=HL1.out;obtain ⟨t0,t1,t2,t3,t4,t5,t6,t7,t8,tz⟩:=HL2.out;dsimp only at z0 z1 z2 z3 z4 z5 z6 z7 z8 t0 t1 t2 t3 t4 t5 t6 t7 t8))
 ·clear HM1 HM2 HL1 HL2 HN1 HN2 x0 x1 x2 x3 x4 x5 x6 x7 x8 xz y0 y1 y2 y3 y4 y5 y6 y7 y8 yz HV1 HV2
  cases va
  ·cases vb
   ·have HF:=Lib.hid (show 0 = res from HRes.out)
    go_wp2_with fail
    go_ret
    exact ⟨ret1i HF.out,by assumption⟩
   ·have HF:=Lib.hid (show -1 = res from HRes.out)
    go_wp2_with fail
    go_ret
    exact ⟨ret1i HF.out,by assumption⟩
  ·cases vb
   ·have HF:=Lib.hid (show 1 = res from HRes.out)
    go_wp2_with fail
    go_ret
    exact ⟨ret1i HF.out,by assumption⟩
   ·have HF:=Lib.hid (show r = res from HRes.out)
    have HC2:=Lib.hid (HC.out rfl rfl _ hbf)
    clear HC
    go_wp2_with fail
    refine HC2.out.mono ?_
    rintro e w3 ⟨rfl,hb3⟩
    go_wp2_with fail
    go_ret
    exact ⟨ret1i HF.out,hbf.trans (hb3.mono hbf.size)⟩
theorem Compare {n:Nat} (w:World) (B:Nat) (v1 v2:Value) (a b:Tm (n + 1)) (hB:B ≤ w.heap.size) (h1:ItemsAt w B n v1 a.items) (h2:ItemsAt w B n v2 b.items) (s1:300 * (nodesT a:Int) ≤ 1000000000000) (s2:300 * (nodesT b:Int) ≤ 1000000000000) :
 Calls Tryz.prog 96 #[aggV a.f v1,aggV b.f v2] w (IPostC (cmpV a b) w):=by
 have hV1:=fun W (hb:Below w.heap.size w W)=>ValidTm (ofAll n) W B v1 a (Nat.le_trans hB hb.size) (h1.below hb hB) s1
 have hV2:=fun W (hb:Below w.heap.size w W)=>ValidTm (ofAll n) W B v2 b (Nat.le_trans hB hb.size) (h2.below hb hB) s2
 have hC:=fun f1 f2 W (hb:Below w.heap.size w W)=>validAll n W B v1 v2 a b (Nat.le_trans hB hb.size) (h1.below hb hB) (h2.below hb hB) (valid_formed f1) (valid_formed f2)
 obtain ⟨p1,c1,rfl,_,_⟩:=h1.shape
 obtain ⟨p2,c2,rfl,_,_⟩:=h2.shape
 exact compareF a.f b.f p1 p2 _ c1 _ c2 (validT a) (validT b) _ w hV1 hV2 hC
theorem lessF (x y:TF) (p1 p2:Option Addr) (m1 c1 m2 c2:Nat) (r:Int) (w:World)
 (hC:∀ W,Below w.heap.size w W→Calls Tryz.prog 96 #[aggV x (.slice p1 m1 c1),aggV y (.slice p2 m2 c2)] W (IPostC r W)) :
 Calls Tryz.prog 178 #[aggV x (.slice p1 m1 c1),aggV y (.slice p2 m2 c2)] w (BPost (decide (r < 0)) w):=by
 have HC:=Lib.hid hC
 clear hC
 obtain ⟨k1,i1,g1,n1,fn1,a1,b1,s1⟩:=x
 obtain ⟨k2,i2,g2,n2,fn2,a2,b2,s2⟩:=y
 unfold aggV BPost IPostC at *
 dsimp only at *
 go_enter Tryz.func178,Tryz.ntmps178
 go_wp2_with fail
 refine (HC.out _ (((Below.refl _ _).alloc (Nat.le_refl _) _).alloc (by simp) _)).mono ?_
 rintro e w3 ⟨rfl,hb3⟩
 go_wp2_with fail
 go_ret
 exact ⟨rfl,(((Below.refl _ _).alloc (Nat.le_refl _) _).alloc (by simp) _).trans (hb3.mono (by simp;omega))⟩
theorem Less {n:Nat} (w:World) (B:Nat) (v1 v2:Value) (a b:Tm (n + 1)) (hB:B ≤ w.heap.size) (h1:ItemsAt w B n v1 a.items) (h2:ItemsAt w B n v2 b.items) (s1:300 * (nodesT a:Int) ≤ 1000000000000) (s2:300 * (nodesT b:Int) ≤ 1000000000000) :
 Calls Tryz.prog 178 #[aggV a.f v1,aggV b.f v2] w (BPost (decide (cmpV a b < 0)) w):=by
 have hC:=fun W (hb:Below w.heap.size w W)=>Compare W B v1 v2 a b (Nat.le_trans hB hb.size) (h1.below hb hB) (h2.below hb hB) s1 s2
 obtain ⟨p1,c1,rfl,_,_⟩:=h1.shape
 obtain ⟨p2,c2,rfl,_,_⟩:=h2.shape
 exact lessF a.f b.f p1 p2 _ c1 _ c2 _ w hC
theorem bitR (f:TF) (p:Option Addr) (m c i:Nat) (w:World) (hi:i / 8 < f.bytes.size) (hm:i ≤ 20000) :
 Calls Tryz.prog 126 #[aggV f (.slice p m c),.int .i64 i] w (IPostC (bitAt f.bytes.data.toList i) w):=by
 obtain ⟨k1,i1,g1,n1,fn1,a1,by1,s1⟩:=f
 dsimp only at hi ⊢
 unfold aggV IPostC
 dsimp only
 obtain ⟨q,hq⟩:∃ q:Nat,i / 8 = q:=⟨_,rfl⟩
 obtain ⟨r,hr⟩:∃ r:Nat,i % 8 = r:=⟨_,rfl⟩
 have hd8:(i:Int) / 8 = (q:Int):=by omega
 have hm8:(i:Int) % 8 = (r:Int):=by omega
 have htd:(i:Int).tdiv 8 = (q:Int):=by rw [Int.tdiv_eq_ediv_of_nonneg (by omega)];exact hd8
 have htm:(i:Int).tmod 8 = (r:Int):=by rw [Int.tmod_eq_emod_of_nonneg (by omega)];exact hm8
 have hqs:q < by1.size:=by omega
 have hr8:r < 8:=by omega
 have hqi:(q:Int) < (by1.size:Int):=by omega
 have hq0:(0:Int) ≤ (q:Int):=by omega
 have hby:byteAt by1.data.toList q = (by1[q]'hqs).toNat:=by
  unfold byteAt
  rw [getD_in (by rw [Array.length_toList];exact hqs)];rfl
 have hb0:(0:Int) ≤ ((by1[q]'hqs).toNat:Int):=by omega
 have hb1:((by1[q]'hqs).toNat:Int) ≤ 255:=by have:=UInt8.toNat_lt (by1[q]'hqs);omega
 have hres:bitAt by1.data.toList i = (((by1[q]'hqs).toNat / 2 ^ (7 - r) % 2:Nat):Int):=by unfold bitAt;rw [hq,hr,hby]
 rw [hres]
 obtain ⟨B,hB⟩:∃ B:Nat,(by1[q]'hqs).toNat = B:=⟨_,rfl⟩
 rw [hB]
 obtain ⟨R,hR⟩:∃ R:Nat,B / 2 ^ (7 - r) % 2 = R:=⟨_,rfl⟩
 rw [hR]
 have HR:=Lib.hid hR
 have HB:=Lib.hid hB
 clear hi hres hby hq hr hB hR
 go_enter Tryz.func126,Tryz.ntmps126
 go_wp2_with fail
 go_loop [5,6] (fun s t=>∃ k n:Nat,s = .int .i64 n∧t = .int .i64 k∧k ≤ 7∧n ≤ 255∧Hid (r ≤ k∧n = B / 2 ^ (k - r))) (fun _ t=>7 - (intOf t).toNat)
 case atStart=>exact ⟨r,B,by rw [HB.out],rfl,by omega,by have:=HB.out;omega,Lib.hid ⟨by omega,by rw [Nat.sub_self,Nat.pow_zero,Nat.div_one]⟩⟩
 case round =>
  obtain ⟨k,n,rfl,rfl,hk,hn,HN⟩:=hrel
  by_cases hlt:k < 7
  ·have hd:(n:Int).tdiv 2 = ((n / 2:Nat):Int):=by rw [Int.tdiv_eq_ediv_of_nonneg (by omega)];omega
   have H2:Hid (r ≤ k + 1∧n / 2 = B / 2 ^ (k + 1 - r)):=Lib.hid (by
    obtain ⟨h1,h2⟩:=HN.out
    refine ⟨by omega,?_⟩
    rw [h2,show k + 1 - r = (k - r) + 1 by omega,Nat.pow_succ,← Nat.div_div_eq_div_mul])
   go_wp2_with fail
   go_round
   case rel=>exact ⟨k + 1,n / 2,by go_num,by go_num,by omega,by omega,H2⟩
   case measure=>simp [intOf];omega
  ·obtain rfl:k = 7:=by omega
   have hd:(n:Int).tmod 2 = ((n % 2:Nat):Int):=by rw [Int.tmod_eq_emod_of_nonneg (by omega)];omega
   have HF:Hid (R = n % 2):=Lib.hid (by obtain ⟨h1,h2⟩:=HN.out;rw [h2,HR.out])
   go_wp2_with fail
   go_ret
   exact ⟨ret1i (by have:=HF.out;omega),(Below.refl _ _).alloc (Nat.le_refl _) _⟩
theorem lexN_stop (x y:Nat→Int) (k:Nat) (h:lexN x y (k + 1) ≠ 0):∀ n,k + 1 ≤ n→lexN x y n = lexN x y (k + 1)
 | 0,hn=>by omega
 | n + 1,hn=>by
  by_cases e:n = k
  ·rw [e]
  ·have ih:=lexN_stop x y k h n (by omega)
   rw [lexN,ih,if_neg h]
theorem bitsR (f1 f2:TF) (p1 p2:Option Addr) (m1 c1 m2 c2:Nat) (w:World) (h1:BitsOK f1) (h2:BitsOK f2) :
 Calls Tryz.prog 113 #[aggV f1 (.slice p1 m1 c1),aggV f2 (.slice p2 m2 c2)] w (IPostC (bitsC f1 f2) w):=by
 rw [bits_lexN f1 f2 h1 h2]
 obtain ⟨q1,q0,q2,q3⟩:=h1
 obtain ⟨r1,r0,r2,r3⟩:=h2
 have hB1:=fun (i:Nat) (h:(i:Int) < f1.bits) (W:World)=>bitR f1 p1 m1 c1 i W (by omega) (by omega)
 have hB2:=fun (i:Nat) (h:(i:Int) < f2.bits) (W:World)=>bitR f2 p2 m2 c2 i W (by omega) (by omega)
 obtain ⟨t1,ht1⟩:∃ n:Nat,f1.bits = n:=⟨f1.bits.toNat,by omega⟩
 obtain ⟨t2,ht2⟩:∃ n:Nat,f2.bits = n:=⟨f2.bits.toNat,by omega⟩
 have hmin:(min f1.bits f2.bits).toNat = min t1 t2:=by omega
 rw [hmin]
 have hst:=Lib.hid (lexN_stop (bitAt f1.bytes.data.toList) (bitAt f2.bytes.data.toList))
 have hsu:=Lib.hid (fun k=>show lexN (bitAt f1.bytes.data.toList) (bitAt f2.bytes.data.toList) (k + 1) = (if lexN (bitAt f1.bytes.data.toList) (bitAt f2.bytes.data.toList) k = 0 then cmpI (bitAt f1.bytes.data.toList k) (bitAt f2.bytes.data.toList k) else lexN (bitAt f1.bytes.data.toList) (bitAt f2.bytes.data.toList) k) from rfl)
 have h00:=Lib.hid (show lexN (bitAt f1.bytes.data.toList) (bitAt f2.bytes.data.toList) 0 = 0 from rfl)
 clear q2 r2 q3 r3 hmin
 unfold IPostC at *
 obtain ⟨k1,i1,g1,n1,fn1,a1,by1,s1⟩:=f1
 obtain ⟨k2,i2,g2,n2,fn2,a2,by2,s2⟩:=f2
 dsimp only at *
 subst ht1
 subst ht2
 generalize lexN (bitAt by1.data.toList) (bitAt by2.data.toList) = L at *
 generalize bitAt by1.data.toList = X at *
 generalize bitAt by2.data.toList = Y at *
 have hIn:=Lib.hid (fun W=>ints t1 t2 W)
 generalize hres:(if L (min t1 t2) = 0 then cmpI (t1:Int) t2 else L (min t1 t2)) = res at *
 have HRes:=Lib.hid hres
 clear q1 r1
 have HB1:=Lib.hid hB1
 have HB2:=Lib.hid hB2
 clear hres hB1 hB2
 unfold aggV at *
 dsimp only at *
 go_enter Tryz.func113,Tryz.ntmps113
 go_wp2_with fail
 obtain ⟨hN1,hN2,hbw,hsz⟩:=boxes2 w ⟨k1,i1,g1,n1,fn1,a1,by1,(t1:Int)⟩ ⟨k2,i2,g2,n2,fn2,a2,by2,(t2:Int)⟩ (.slice p1 m1 c1) (.slice p2 m2 c2)
 unfold cells9 at hN1 hN2 hbw hsz
 dsimp only at hN1 hN2 hbw hsz
 generalize ((w.alloc (.cells #[.int .i64 k1,.int .i64 i1,.int .i64 g1,.string n1,.string fn1,.int .i64 a1,.slice p1 m1 c1,.string by1,.int .i64 t1] 24)).alloc (.cells #[.int .i64 k2,.int .i64 i2,.int .i64 g2,.string n2,.string fn2,.int .i64 a2,.slice p2 m2 c2,.string by2,.int .i64 t2] 24)) = W0 at *
 have HZ1:Hid (w.heap.size < W0.heap.size):=Lib.hid (by omega)
 have HZ2:Hid (w.heap.size + 1 < W0.heap.size):=Lib.hid (by omega)
 clear hsz
 have HN1:=Lib.hid hN1
 have HN2:=Lib.hid hN2
 clear hN1 hN2
 go_loopw [5] (fun s wr=>∃ (k:Nat),s = .int .i64 k∧k ≤ t1∧k ≤ t2∧Hid (L k = 0)∧Below W0.heap.size W0 wr) (fun s _=>t1 - (intOf s).toNat)
 case atStart=>exact ⟨0,rfl,by omega,by omega,h00,Below.refl _ _⟩
 case round =>
  obtain ⟨k,rfl,hk1,hk2,HL,hb⟩:=hrel
  have HP1:=Lib.hid (HN1.out.below hb HZ1.out)
  have HP2:=Lib.hid (HN2.out.below hb HZ2.out)
  obtain ⟨x0,x1,x2,x3,x4,x5,x6,x7,x8,xz⟩:=HP1.out
  obtain ⟨y0,y1,y2,y3,y4,y5,y6,y7,y8,yz⟩:=HP2.out
  dsimp only at x0 x1 x2 x3 x4 x5 x6 x7 x8 y0 y1 y2 y3 y4 y5 y6 y7 y8
  by_cases hlt:k < t1∧k < t2
  ·obtain ⟨l1,l2⟩:=hlt
   have HC1:=Lib.hid (fun W=>HB1.out k (by omega) W)
   have HC2:=Lib.hid (fun W=>HB2.out k (by omega) W)
   have HC3:=Lib.hid (fun W=>ints (X k) (Y k) W)
   have HS1:=Lib.hid (hsu.out k)
   generalize X k = x at *
   generalize Y k = y at *
   have HD1:=Lib.hid (show Nine (wr.drewN 1) w.heap.size ⟨k1,i1,g1,n1,fn1,a1,by1,(t1:Int)⟩ (.slice p1 m1 c1) from nine_drew HP1.out)
   have HD2:=Lib.hid (show Nine (wr.drewN 1) (w.heap.size + 1) ⟨k2,i2,g2,n2,fn2,a2,by2,(t2:Int)⟩ (.slice p2 m2 c2) from nine_drew HP2.out)
   have hzz1:w.heap.size < (wr.drewN 1).heap.size:=Nat.lt_of_lt_of_le HZ1.out hb.size
   have hzz2:w.heap.size + 1 < (wr.drewN 1).heap.size:=Nat.lt_of_lt_of_le HZ2.out hb.size
   go_wp2_with fail
   go_region_held3 (fun w'=>(w'.cell? ⟨w.heap.size,0,none⟩ = some (.int .i64 k1)∧w'.cell? ⟨w.heap.size,1,none⟩ = some (.int .i64 i1)∧w'.cell? ⟨w.heap.size,2,none⟩ = some (.int .i64 g1)∧w'.cell? ⟨w.heap.size,3,none⟩ = some (.string n1)∧w'.cell? ⟨w.heap.size,4,none⟩ = some (.string fn1)∧w'.cell? ⟨w.heap.size,5,none⟩ = some (.int .i64 a1)∧w'.cell? ⟨w.heap.size,6,none⟩ = some (.slice p1 m1 c1)∧w'.cell? ⟨w.heap.size,7,none⟩ = some (.string by1)∧w'.cell? ⟨w.heap.size,8,none⟩ = some (.int .i64 t1))∧w'.cell? ⟨w.heap.size + 1,0,none⟩ = some (.int .i64 k2)∧w'.cell? ⟨w.heap.size + 1,1,none⟩ = some (.int .i64 i2)∧w'.cell? ⟨w.heap.size + 1,2,none⟩ = some (.int .i64 g2)∧w'.cell? ⟨w.heap.size + 1,3,none⟩ = some (.string n2)∧w'.cell? ⟨w.heap.size + 1,4,none⟩ = some (.string fn2)∧w'.cell? ⟨w.heap.size + 1,5,none⟩ = some (.int .i64 a2)∧w'.cell? ⟨w.heap.size + 1,6,none⟩ = some (.slice p2 m2 c2)∧w'.cell? ⟨w.heap.size + 1,7,none⟩ = some (.string by2)∧w'.cell? ⟨w.heap.size + 1,8,none⟩ = some (.int .i64 t2)) (go_keep)
    (first
      | (go_at_call 126;(with_reducible refine (HC1.out wr.drew).mono ?_);rintro e w1 ⟨rfl,hbq⟩;have Hq1:=Lib.hid (HD1.out.below hbq (hzz1));have Hq2:=Lib.hid (HD2.out.below hbq (hzz2));obtain ⟨aq0,aq1,aq2,aq3,aq4,aq5,aq6,aq7,aq8,aqz⟩:=Hq1.out;obtain ⟨bq0,bq1,bq2,bq3,bq4,bq5,bq6,bq7,bq8,bqz⟩:=Hq2.out;dsimp only at aq0 aq1 aq2 aq3 aq4 aq5 aq6 aq7 aq8 bq0 bq1 bq2 bq3 bq4 bq5 bq6 bq7 bq8)
      | (go_at_call 126;(with_reducible refine (HC2.out wr.drew).mono ?_);rintro e w1 ⟨rfl,hbq⟩;have Hq1:=Lib.hid (HD1.out.below hbq (hzz1));have Hq2:=Lib.hid (HD2.out.below hbq (hzz2));obtain ⟨aq0,aq1,aq2,aq3,aq4,aq5,aq6,aq7,aq8,aqz⟩:=Hq1.out;obtain ⟨bq0,bq1,bq2,bq3,bq4,bq5,bq6,bq7,bq8,bqz⟩:=Hq2.out;dsimp only at aq0 aq1 aq2 aq3 aq4 aq5 aq6 aq7 aq8 bq0 bq1 bq2 bq3 bq4 bq5 bq6 bq7 bq8)
      | (go_at_call 126;(with_reducible refine (HC1.out w1).mono ?_);rintro e w2 ⟨rfl,hbr⟩;have Hr1:=Lib.hid (Hq1.out.below hbr (Nat.lt_of_lt_of_le hzz1 hbq.size));have Hr2:=Lib.hid (Hq2.out.below hbr (Nat.lt_of_lt_of_le hzz2 hbq.size));obtain ⟨ar0,ar1,ar2,ar3,ar4,ar5,ar6,ar7,ar8,arz⟩:=Hr1.out;obtain ⟨br0,br1,br2,br3,br4,br5,br6,br7,br8,brz⟩:=Hr2.out;dsimp only at ar0 ar1 ar2 ar3 ar4 ar5 ar6 ar7 ar8 br0 br1 br2 br3 br4 br5 br6 br7 br8)
      | (go_at_call 126;(with_reducible refine (HC2.out w1).mono ?_);rintro e w2 ⟨rfl,hbr⟩;have Hr1:=Lib.hid (Hq1.out.below hbr (Nat.lt_of_lt_of_le hzz1 hbq.size));have Hr2:=Lib.hid (Hq2.out.below hbr (Nat.lt_of_lt_of_le hzz2 hbq.size));obtain ⟨ar0,ar1,ar2,ar3,ar4,ar5,ar6,ar7,ar8,arz⟩:=Hr1.out;obtain ⟨br0,br1,br2,br3,br4,br5,br6,br7,br8,brz⟩:=Hr2.out;dsimp only at ar0 ar1 ar2 ar3 ar4 ar5 ar6 ar7 ar8 br0 br1 br2 br3 br4 br5 br6 br7 br8)
      | (go_at_call 108;refine (HC3.out _).mono ?_;rintro e w3 ⟨rfl,rfl⟩))
   have hbn:Below W0.heap.size W0 w2:=((hb.drewN 1).trans (hbq.mono hb.size)).trans (hbr.mono (Nat.le_trans hb.size hbq.size))
   have HZ3:Hid (L (k + 1) = cmpI x y):=Lib.hid (by rw [HS1.out,if_pos HL.out])
   clear HS1 HC1 HC2 HC3 HD1 HD2 Hq1 Hq2 Hr1 Hr2 hbq hbr hzz1 hzz2
   generalize cmpI x y = zc at *
   by_cases hz:zc = 0
   ·subst hz
    go_wp2_with fail
    go_roundw
    case rel=>exact ⟨k + 1,by go_num,by omega,by omega,HZ3,hbn⟩
    case measure=>simp [intOf];omega
   ·have q:(zc != 0) = true:=by simp [hz]
    have HF:Hid (zc = res):=Lib.hid (by
     rw [← HRes.out,hst.out k (by rw [HZ3.out];exact hz) (min t1 t2) (by omega),if_neg (by rw [HZ3.out];exact hz),HZ3.out])
    clear hz
    go_wp2_with fail
    go_ret
    exact ⟨ret1i HF.out,hbw.trans (hbn.mono hbw.size)⟩
  ·have HF:Hid (cmpI (t1:Int) t2 = res):=Lib.hid (by
    rw [← HRes.out,show min t1 t2 = k by omega,if_pos HL.out])
   by_cases l1:k < t1
   ·have l2:¬ k < t2:=fun h=>hlt ⟨l1,h⟩
    clear hlt
    go_wp2_with fail
    refine (hIn.out _).mono ?_
    rintro e w3 ⟨rfl,rfl⟩
    go_wp2_with fail
    go_ret
    exact ⟨ret1i HF.out,hbw.trans (hb.mono hbw.size)⟩
   ·clear hlt
    go_wp2_with fail
    refine (hIn.out _).mono ?_
    rintro e w3 ⟨rfl,rfl⟩
    go_wp2_with fail
    go_ret
    exact ⟨ret1i HF.out,hbw.trans (hb.mono hbw.size)⟩
end Go.Proofs.YtfbggmbmgohiiaaGreat.tm
