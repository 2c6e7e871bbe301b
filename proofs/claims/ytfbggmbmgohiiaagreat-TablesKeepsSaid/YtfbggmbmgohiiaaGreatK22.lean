/- Texts of this seat, one behind the other: TnA, TnB, TnC. No condition beyond theirs. -/
import Derived.Deep.RegionHeld3
import Derived.Test.YtfbggmbmgohiiaaGreatK14
import Derived.Test.YtfbggmbmgohiiaaGreatK10
import Derived.Test.YtfbggmbmgohiiaaGreatK21
set_option linter.unusedSimpArgs false
set_option linter.unusedVariables false
set_option maxHeartbeats 4000000
set_option maxRecDepth 100000
namespace Go.Proofs.YtfbggmbmgohiiaaGreat.tm
open Go.RowKit mem names
theorem validNe (k1 i1 g1 k2 i2 g2 a b:Int) (nm1 fn1 nm2 fn2 x y:ByteArray) (ar1 ar2:Int) (p1 p2:Option Addr) (m1 c1 m2 c2:Nat) (w:World) (hk:k1 ≠ k2) :
 Calls Tryz.prog 121 #[aggV ⟨k1,i1,g1,nm1,fn1,ar1,x,a⟩ (.slice p1 m1 c1),aggV ⟨k2,i2,g2,nm2,fn2,ar2,y,b⟩ (.slice p2 m2 c2)] w (IPostC (cmpI k1 k2) w):=by
 have hCK:=Lib.hid (fun W=>cmpInt k1 k2 W)
 have h0:=cmpI_ne hk
 clear hk
 generalize cmpI k1 k2 = z at *
 have q:(z != 0) = true:=by simp [h0]
 clear h0
 unfold IPostC at *
 unfold aggV
 dsimp only
 go_enter Tryz.func121,Tryz.ntmps121
 go_wp2_with fail
 refine (hCK.out _).mono ?_
 rintro e w' ⟨rfl,rfl⟩
 go_wp2_with fail
 go_ret
 exact ⟨rfl,((Below.refl _ _).alloc (Nat.le_refl _) _).alloc (by simp) _⟩
theorem validItems (k i1 g1 i2 g2 a b:Int) (nm1 fn1 nm2 fn2 x y:ByteArray) (ar1 ar2:Int) (p1 p2:Option Addr) (m1 c1 m2 c2:Nat) (w:World) (hk:k = 7) (r:Int)
 (hI:∀ W,Below w.heap.size w W→Calls Tryz.prog 131 #[.slice p1 m1 c1,.slice p2 m2 c2] W (IPostC r W)) :
 Calls Tryz.prog 121 #[aggV ⟨k,i1,g1,nm1,fn1,ar1,x,a⟩ (.slice p1 m1 c1),aggV ⟨k,i2,g2,nm2,fn2,ar2,y,b⟩ (.slice p2 m2 c2)] w (IPostC r w):=by
 subst hk
 have hCK:=Lib.hid (fun W=>cmpInt 7 7 W)
 rw [cmpI_0 rfl] at hCK
 have HI:=Lib.hid hI
 clear hI
 unfold IPostC at *
 unfold aggV
 dsimp only
 go_enter Tryz.func121,Tryz.ntmps121
 go_wp2_with fail
 refine (hCK.out _).mono ?_
 rintro e w' ⟨rfl,rfl⟩
 go_wp2_with fail
 refine (HI.out _ (((Below.refl _ _).alloc (Nat.le_refl _) _).alloc (by simp) _)).mono ?_
 rintro e w3 ⟨rfl,hb3⟩
 go_wp2_with fail
 go_ret
 exact ⟨rfl,(((Below.refl _ _).alloc (Nat.le_refl _) _).alloc (by simp) _).trans (hb3.mono (by simp;omega))⟩
theorem validLists (k i1 g1 i2 g2 a b:Int) (nm1 fn1 nm2 fn2 x y:ByteArray) (ar1 ar2:Int) (p1 p2:Option Addr) (m1 c1 m2 c2:Nat) (w:World) (hk:k = 9) (r:Int)
 (hI:∀ W,Below w.heap.size w W→Calls Tryz.prog 132 #[.slice p1 m1 c1,.slice p2 m2 c2] W (IPostC r W)) :
 Calls Tryz.prog 121 #[aggV ⟨k,i1,g1,nm1,fn1,ar1,x,a⟩ (.slice p1 m1 c1),aggV ⟨k,i2,g2,nm2,fn2,ar2,y,b⟩ (.slice p2 m2 c2)] w (IPostC r w):=by
 subst hk
 have hCK:=Lib.hid (fun W=>cmpInt 9 9 W)
 rw [cmpI_0 rfl] at hCK
 have HI:=Lib.hid hI
 clear hI
 unfold IPostC at *
 unfold aggV
 dsimp only
 go_enter Tryz.func121,Tryz.ntmps121
 go_wp2_with fail
 refine (hCK.out _).mono ?_
 rintro e w' ⟨rfl,rfl⟩
 go_wp2_with fail
 refine (HI.out _ (((Below.refl _ _).alloc (Nat.le_refl _) _).alloc (by simp) _)).mono ?_
 rintro e w3 ⟨rfl,hb3⟩
 go_wp2_with fail
 go_ret
 exact ⟨rfl,(((Below.refl _ _).alloc (Nat.le_refl _) _).alloc (by simp) _).trans (hb3.mono (by simp;omega))⟩
theorem validBits (k i1 g1 i2 g2 a b:Int) (nm1 fn1 nm2 fn2 x y:ByteArray) (ar1 ar2:Int) (p1 p2:Option Addr) (m1 c1 m2 c2:Nat) (w:World) (hk:k = 10) (r:Int)
 (hI:∀ W,Below w.heap.size w W→Calls Tryz.prog 133 #[aggV ⟨k,i1,g1,nm1,fn1,ar1,x,a⟩ (.slice p1 m1 c1),aggV ⟨k,i2,g2,nm2,fn2,ar2,y,b⟩ (.slice p2 m2 c2)] W (IPostC r W)) :
 Calls Tryz.prog 121 #[aggV ⟨k,i1,g1,nm1,fn1,ar1,x,a⟩ (.slice p1 m1 c1),aggV ⟨k,i2,g2,nm2,fn2,ar2,y,b⟩ (.slice p2 m2 c2)] w (IPostC r w):=by
 subst hk
 have hCK:=Lib.hid (fun W=>cmpInt 10 10 W)
 rw [cmpI_0 rfl] at hCK
 have HI:=Lib.hid hI
 clear hI
 unfold IPostC at *
 unfold aggV at *
 dsimp only at *
 go_enter Tryz.func121,Tryz.ntmps121
 go_wp2_with fail
 refine (hCK.out _).mono ?_
 rintro e w' ⟨rfl,rfl⟩
 go_wp2_with fail
 refine (HI.out _ (((Below.refl _ _).alloc (Nat.le_refl _) _).alloc (by simp) _)).mono ?_
 rintro e w3 ⟨rfl,hb3⟩
 go_wp2_with fail
 go_ret
 exact ⟨rfl,(((Below.refl _ _).alloc (Nat.le_refl _) _).alloc (by simp) _).trans (hb3.mono (by simp;omega))⟩
theorem formed_items {n:Nat} {t:Tm (n + 1)} (h:formedT t = true):formedL n t.items = true:=by
 unfold formedT at h
 simp only [Bool.and_eq_true] at h
 exact h.2
theorem validF (x y:TF) (p1 p2:Option Addr) (m1 c1 m2 c2:Nat) (ri rl:Int) (w:World)
 (hItems:∀ W,Below w.heap.size w W→Calls Tryz.prog 131 #[.slice p1 m1 c1,.slice p2 m2 c2] W (IPostC ri W))
 (hLists:∀ W,Below w.heap.size w W→2 ≤ m1→2 ≤ m2→Calls Tryz.prog 132 #[.slice p1 m1 c1,.slice p2 m2 c2] W (IPostC rl W))
 (hb1:x.kind = 10→BitsOK x) (hb2:y.kind = 10→BitsOK y) (hl1:x.kind = 9→2 ≤ m1) (hl2:y.kind = 9→2 ≤ m2) :
 Calls Tryz.prog 121 #[aggV x (.slice p1 m1 c1),aggV y (.slice p2 m2 c2)] w (IPostC (if x.kind = y.kind then (if x.kind = 7 then ri else if x.kind = 9 then rl else if x.kind = 10 then bitsC x y else if headC x y = 0 then ri else headC x y) else cmpI x.kind y.kind) w):=by
 obtain ⟨k1,i1,g1,n1,fn1,a1,b1,s1⟩:=x
 obtain ⟨k2,i2,g2,n2,fn2,a2,b2,s2⟩:=y
 dsimp only at *
 by_cases hk:k1 = k2
 ·subst hk
  rw [if_pos rfl]
  by_cases h7:k1 = 7
  ·rw [if_pos h7];exact validItems k1 _ _ _ _ _ _ _ _ _ _ _ _ _ _ _ _ _ _ _ _ w h7 ri hItems
  rw [if_neg h7]
  by_cases h9:k1 = 9
  ·rw [if_pos h9];exact validLists k1 _ _ _ _ _ _ _ _ _ _ _ _ _ _ _ _ _ _ _ _ w h9 rl (fun W hb=>hLists W hb (hl1 h9) (hl2 h9))
  rw [if_neg h9]
  by_cases h10:k1 = 10
  ·rw [if_pos h10]
   exact validBits k1 _ _ _ _ _ _ _ _ _ _ _ _ _ _ _ _ _ _ _ _ w h10 _ (fun W hb=>bitsW _ _ _ _ _ _ _ _ W ⟨(hb1 h10).lo,(hb1 h10).hi⟩ ⟨(hb2 h10).lo,(hb2 h10).hi⟩ (hb1 h10).size (hb2 h10).size)
  rw [if_neg h10]
  exact validHead k1 _ _ k1 _ _ _ _ _ _ _ _ _ _ _ _ _ _ _ _ _ _ w rfl h7 h9 h10 ri hItems
 ·rw [if_neg hk]
  exact validNe _ _ _ _ _ _ _ _ _ _ _ _ _ _ _ _ _ _ _ _ _ _ w hk
theorem validStep {n:Nat} (ih:∀ m,n = m + 1→CmpS m):CmpS n:=by
 intro w B v1 v2 a b hB h1 h2 f1 f2
 have F1:=formed_items f1
 have F2:=formed_items f2
 have hItems:=fun W (hb:Below w.heap.size w W)=>itemsW ih W B v1 v2 a.items b.items (Nat.le_trans hB hb.size) (h1.below hb hB) (h2.below hb hB) F1 F2
 have hLists:=fun W (hb:Below w.heap.size w W)=>listsW ih W B v1 v2 a.items b.items (Nat.le_trans hB hb.size) (h1.below hb hB) (h2.below hb hB) F1 F2
 obtain ⟨p1,c1,rfl,_,_⟩:=h1.shape
 obtain ⟨p2,c2,rfl,_,_⟩:=h2.shape
 exact validF a.f b.f p1 p2 _ c1 _ c2 _ _ w hItems hLists (fun h=>ft_bits f1 h) (fun h=>ft_bits f2 h) (fun h=>(ft_list f1 h).1) (fun h=>(ft_list f2 h).1)
theorem validAll:∀ n,CmpS n
 | 0=>validStep (fun m h=>by omega)
 | n + 1 => validStep (fun m h => by obtain rfl : n = m := by omega
                                     exact validAll n)
noncomputable def cmpV {n:Nat} (a b:Tm (n + 1)):Int:=if validT a = true then (if validT b = true then cmpTm (n + 1) a b else 1) else (if validT b = true then -1 else 0)
theorem valid_formed {n:Nat} {t:Tm (n + 1)} (h:validT t = true):formedT t = true:=by
 unfold validT at h
 simp only [Bool.and_eq_true] at h
 exact h.1
theorem compareF (x y:TF) (p1 p2:Option Addr) (m1 c1 m2 c2:Nat) (va vb:Bool) (r:Int) (w:World)
 (hV1:∀ W,Below w.heap.size w W→Calls Tryz.prog 50 #[aggV x (.slice p1 m1 c1)] W (BPost va W))
 (hV2:∀ W,Below w.heap.size w W→Calls Tryz.prog 50 #[aggV y (.slice p2 m2 c2)] W (BPost vb W))
 (hC:va = true→vb = true→∀ W,Below w.heap.size w W→Calls Tryz.prog 121 #[aggV x (.slice p1 m1 c1),aggV y (.slice p2 m2 c2)] W (IPostC r W)) :
 Calls Tryz.prog 96 #[aggV x (.slice p1 m1 c1),aggV y (.slice p2 m2 c2)] w (IPostC (if va = true then (if vb = true then r else 1) else (if vb = true then -1 else 0)) w):=by
 generalize hres:(if va = true then (if vb = true then r else 1) else (if vb = true then -1 else 0)) = res
 have HRes:=Lib.hid hres
 clear hres
 have HV1:=Lib.hid hV1
 have HV2:=Lib.hid hV2
 have HC:=Lib.hid hC
 clear hV1 hV2 hC
 obtain ⟨k1,i1,g1,n1,fn1,a1,b1,s1⟩:=x
 obtain ⟨k2,i2,g2,n2,fn2,a2,b2,s2⟩:=y
 unfold aggV BPost IPostC at *
 dsimp only at *
 go_enter Tryz.func96,Tryz.ntmps96
 go_wp2_with fail
 obtain ⟨hN1,hN2,hbw,hsz⟩:=boxes2 w ⟨k1,i1,g1,n1,fn1,a1,b1,s1⟩ ⟨k2,i2,g2,n2,fn2,a2,b2,s2⟩ (.slice p1 m1 c1) (.slice p2 m2 c2)
 unfold cells9 at hN1 hN2 hbw hsz
 dsimp only at hN1 hN2 hbw hsz
 generalize ((w.alloc (.cells #[.int .i64 k1,.int .i64 i1,.int .i64 g1,.string n1,.string fn1,.int .i64 a1,.slice p1 m1 c1,.string b1,.int .i64 s1] 24)).alloc (.cells #[.int .i64 k2,.int .i64 i2,.int .i64 g2,.string n2,.string fn2,.int .i64 a2,.slice p2 m2 c2,.string b2,.int .i64 s2] 24)) = W0 at *
 have HZ1:Hid (w.heap.size < W0.heap.size):=Lib.hid (by omega)
 have HZ2:Hid (w.heap.size + 1 < W0.heap.size):=Lib.hid (by omega)
 clear hsz
 have HN1:=Lib.hid hN1
 have HN2:=Lib.hid hN2
 obtain ⟨x0,x1,x2,x3,x4,x5,x6,x7,x8,xz⟩:=hN1
 obtain ⟨y0,y1,y2,y3,y4,y5,y6,y7,y8,yz⟩:=hN2
 dsimp only at x0 x1 x2 x3 x4 x5 x6 x7 x8 y0 y1 y2 y3 y4 y5 y6 y7 y8
 have hbd:Below w.heap.size w (W0.drewN 1):=hbw.drewN 1
 have HD1:=Lib.hid (show Nine (W0.drewN 1) w.heap.size ⟨k1,i1,g1,n1,fn1,a1,b1,s1⟩ (.slice p1 m1 c1) from nine_drew HN1.out)
 have HD2:=Lib.hid (show Nine (W0.drewN 1) (w.heap.size + 1) ⟨k2,i2,g2,n2,fn2,a2,b2,s2⟩ (.slice p2 m2 c2) from nine_drew HN2.out)
 go_region_held3 (fun w'=>(w'.cell? ⟨w.heap.size,0,none⟩ = some (.int .i64 k1)∧w'.cell? ⟨w.heap.size,1,none⟩ = some (.int .i64 i1)∧w'.cell? ⟨w.heap.size,2,none⟩ = some (.int .i64 g1)∧w'.cell? ⟨w.heap.size,3,none⟩ = some (.string n1)∧w'.cell? ⟨w.heap.size,4,none⟩ = some (.string fn1)∧w'.cell? ⟨w.heap.size,5,none⟩ = some (.int .i64 a1)∧w'.cell? ⟨w.heap.size,6,none⟩ = some (.slice p1 m1 c1)∧w'.cell? ⟨w.heap.size,7,none⟩ = some (.string b1)∧w'.cell? ⟨w.heap.size,8,none⟩ = some (.int .i64 s1))∧w'.cell? ⟨w.heap.size + 1,0,none⟩ = some (.int .i64 k2)∧w'.cell? ⟨w.heap.size + 1,1,none⟩ = some (.int .i64 i2)∧w'.cell? ⟨w.heap.size + 1,2,none⟩ = some (.int .i64 g2)∧w'.cell? ⟨w.heap.size + 1,3,none⟩ = some (.string n2)∧w'.cell? ⟨w.heap.size + 1,4,none⟩ = some (.string fn2)∧w'.cell? ⟨w.heap.size + 1,5,none⟩ = some (.int .i64 a2)∧w'.cell? ⟨w.heap.size + 1,6,none⟩ = some (.slice p2 m2 c2)∧w'.cell? ⟨w.heap.size + 1,7,none⟩ = some (.string b2)∧w'.cell? ⟨w.heap.size + 1,8,none⟩ = some (.int .i64 s2)) (go_keep)
  (first
    | (go_at_call 50;refine (HV1.out _ hbd).mono ?_;rintro e w1 ⟨rfl,hb⟩;have hbe:=hbd.trans (hb.mono hbd.size);have HM1:=Lib.hid (HD1.out.below hb HZ1.out);have HM2:=Lib.hid (HD2.out.below hb HZ2.out);obtain ⟨z0,z1,z2,z3,z4,z5,z6,z7,z8,zz⟩:=HM1.out;obtain ⟨t0,t1,t2,t3,t4,t5,t6,t7,t8,tz⟩:=HM2.out;dsimp only at z0 z1 z2 z3 z4 z5 z6 z7 z8 t0 t1 t2 t3 t4 t5 t6 t7 t8)
    | (go_at_call 50;refine (HV2.out _ hbd).mono ?_;rintro e w1 ⟨rfl,hb⟩;have hbe:=hbd.trans (hb.mono hbd.size);have HM1:=Lib.hid (HD1.out.below hb HZ1.out);have HM2:=Lib.hid (HD2.out.below hb HZ2.out);obtain ⟨z0,z1,z2,z3,z4,z5,z6,z7,z8,zz⟩:=HM1.out;obtain ⟨t0,t1,t2,t3,t4,t5,t6,t7,t8,tz⟩:=HM2.out;dsimp only at z0 z1 z2 z3 z4 z5 z6 z7 z8 t0 t1 t2 t3 t4 t5 t6 t7 t8)
    | (go_at_call 50;refine (HV1.out _ hbe).mono ?_;rintro e w2 ⟨rfl,hb2⟩;have hbf:=hbe.trans (hb2.mono hbe.size);have hz1:=Nat.lt_of_lt_of_le HZ1.out hb.size;have hz2:=Nat.lt_of_lt_of_le HZ2.out hb.size;have HL1:=Lib.hid (HM1.out.below hb2 hz1);have HL2:=Lib.hid (HM2.out.below hb2 hz2);obtain ⟨z0,z1,z2,z3,z4,z5,z6,z7,z8,zz⟩:=HL1.out;obtain ⟨t0,t1,t2,t3,t4,t5,t6,t7,t8,tz⟩:=HL2.out;dsimp only at z0 z1 z2 z3 z4 z5 z6 z7 z8 t0 t1 t2 t3 t4 t5 t6 t7 t8)
    | (go_at_call 50;refine (HV2.out _ hbe).mono ?_;rintro e w2 ⟨rfl,hb2⟩;have hbf:=hbe.trans (hb2.mono hbe.size);have hz1:=Nat.lt_of_lt_of_le HZ1.out hb.size;have hz2:=Nat.lt_of_lt_of_le HZ2.out hb.size;have HL1:=Lib.hid (HM1.out.below hb2 hz1);have HL2:=Lib.hid (HM2.out.below hb2 hz2);obtain ⟨z0,z1,z2,z3,z4,z5,z6,z7,z8,zz⟩:=HL1.out;obtain ⟨t0,t1,t2,t3,t4,t5,t6,t7,t8,tz⟩:=HL2.out;dsimp only at z0 z1 z2 z3 z4 z5 z6 z7 z8 t0 t1 t2 t3 t4 t5 t6 t7 t8))
 ·clear HM1 HM2 HL1 HL2 HN1 HN2 x0 x1 x2 x3 x4 x5 x6 x7 x8 xz y0 y1 y2 y3 y4 y5 y6 y7 y8 yz HV1 HV2
  cases va
  ·cases vb
   ·have HF:=Lib.hid (show 0 = res from HRes.out)
    go_wp2_with fail
    go_ret
    exact ⟨ret1i HF.out,by assumption⟩
   ·have HF:=Lib.hid (show -1 = res from HRes.out)
    go_wp2_with fail
    go_ret
    exact ⟨ret1i HF.out,by assumption⟩
  ·cases vb
   ·have HF:=Lib.hid (show 1 = res from HRes.out)
    go_wp2_with fail
    go_ret
    exact ⟨ret1i HF.out,by assumption⟩
   ·have HF:=Lib.hid (show r = res from HRes.out)
    have HC2:=Lib.hid (HC.out rfl rfl _ hbf)
    clear HC
    go_wp2_with fail
    refine HC2.out.mono ?_
    rintro e w3 ⟨rfl,hb3⟩
    go_wp2_with fail
    go_ret
    exact ⟨ret1i HF.out,hbf.trans (hb3.mono hbf.size)⟩
theorem Compare {n:Nat} (w:World) (B:Nat) (v1 v2:Value) (a b:Tm (n + 1)) (hB:B ≤ w.heap.size) (h1:ItemsAt w B n v1 a.items) (h2:ItemsAt w B n v2 b.items) (s1:300 * (nodesT a:Int) ≤ 1000000000000) (s2:300 * (nodesT b:Int) ≤ 1000000000000) :
 Calls Tryz.prog 96 #[aggV a.f v1,aggV b.f v2] w (IPostC (cmpV a b) w):=by
 have hV1:=fun W (hb:Below w.heap.size w W)=>ValidTm (ofAll n) W B v1 a (Nat.le_trans hB hb.size) (h1.below hb hB) s1
 have hV2:=fun W (hb:Below w.heap.size w W)=>ValidTm (ofAll n) W B v2 b (Nat.le_trans hB hb.size) (h2.below hb hB) s2
 have hC:=fun f1 f2 W (hb:Below w.heap.size w W)=>validAll n W B v1 v2 a b (Nat.le_trans hB hb.size) (h1.below hb hB) (h2.below hb hB) (valid_formed f1) (valid_formed f2)
 obtain ⟨p1,c1,rfl,_,_⟩:=h1.shape
 obtain ⟨p2,c2,rfl,_,_⟩:=h2.shape
 exact compareF a.f b.f p1 p2 _ c1 _ c2 (validT a) (validT b) _ w hV1 hV2 hC
theorem lessF (x y:TF) (p1 p2:Option Addr) (m1 c1 m2 c2:Nat) (r:Int) (w:World)
 (hC:∀ W,Below w.heap.size w W→Calls Tryz.prog 96 #[aggV x (.slice p1 m1 c1),aggV y (.slice p2 m2 c2)] W (IPostC r W)) :
 Calls Tryz.prog 178 #[aggV x (.slice p1 m1 c1),aggV y (.slice p2 m2 c2)] w (BPost (decide (r < 0)) w):=by
 have HC:=Lib.hid hC
 clear hC
 obtain ⟨k1,i1,g1,n1,fn1,a1,b1,s1⟩:=x
 obtain ⟨k2,i2,g2,n2,fn2,a2,b2,s2⟩:=y
 unfold aggV BPost IPostC at *
 dsimp only at *
 go_enter Tryz.func178,Tryz.ntmps178
 go_wp2_with fail
 refine (HC.out _ (((Below.refl _ _).alloc (Nat.le_refl _) _).alloc (by simp) _)).mono ?_
 rintro e w3 ⟨rfl,hb3⟩
 go_wp2_with fail
 go_ret
 exact ⟨rfl,(((Below.refl _ _).alloc (Nat.le_refl _) _).alloc (by simp) _).trans (hb3.mono (by simp;omega))⟩
theorem Less {n:Nat} (w:World) (B:Nat) (v1 v2:Value) (a b:Tm (n + 1)) (hB:B ≤ w.heap.size) (h1:ItemsAt w B n v1 a.items) (h2:ItemsAt w B n v2 b.items) (s1:300 * (nodesT a:Int) ≤ 1000000000000) (s2:300 * (nodesT b:Int) ≤ 1000000000000) :
 Calls Tryz.prog 178 #[aggV a.f v1,aggV b.f v2] w (BPost (decide (cmpV a b < 0)) w):=by
 have hC:=fun W (hb:Below w.heap.size w W)=>Compare W B v1 v2 a b (Nat.le_trans hB hb.size) (h1.below hb hB) (h2.below hb hB) s1 s2
 obtain ⟨p1,c1,rfl,_,_⟩:=h1.shape
 obtain ⟨p2,c2,rfl,_,_⟩:=h2.shape
 exact lessF a.f b.f p1 p2 _ c1 _ c2 _ w hC
end Go.Proofs.YtfbggmbmgohiiaaGreat.tm
