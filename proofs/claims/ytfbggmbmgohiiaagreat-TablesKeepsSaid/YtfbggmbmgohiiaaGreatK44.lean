/- Texts of this seat, one behind the other: TbJ. No condition beyond theirs. -/
import Derived.Test.YtfbggmbmgohiiaaGreatK27
set_option linter.unusedSimpArgs false
set_option linter.unusedVariables false
set_option maxHeartbeats 4000000
set_option maxRecDepth 100000
namespace Go.Proofs.YtfbggmbmgohiiaaGreat.tb
open Go.RowKit mem rec tm names
theorem rintSmall (w:World) (n:Int) (h0:0 ≤ n) (h1:n < 256):Calls Tryz.prog 103 #[.int .i64 n] w (OwnQ (intB n) w):=by
 have hr:=own_new w [97,byteOf n] 2 w.heap.size rfl (Nat.le_refl _) (by decide)
 have e:([97,byteOf n].flatMap encB).toArray = #[.int .u8 97,.int .u8 (n % 256)]:=by rw [← byteOf_nat];rfl
 have e2:intB n = [97,byteOf n]:=by unfold intB;rw [if_pos ⟨h0,h1⟩]
 have e3:n % 256 = n:=by omega
 rw [e,e3] at hr
 have HR:=Lib.hid hr
 have HB:=Lib.hid (belowA (Below.refl w.heap.size w) (.cells #[.int .u8 97,.int .u8 n] 5) (Nat.le_refl _))
 rw [e2]
 have h5:n ≤ 255:=by omega
 clear e e3 hr e2
 go_enter Tryz.func103,Tryz.ntmps103
 go_wp2_with fail
 go_ret
 exact ⟨_,rfl,HR.out,HB.out⟩
theorem rintMid (w:World) (n:Int) (hs:¬ (0 ≤ n∧n < 256)) (h0:-2147483648 ≤ n) (h1:n ≤ 2147483647):Calls Tryz.prog 103 #[.int .i64 n] w (OwnQ (intB n) w):=by
 have hr:=own_new w [98] 1 w.heap.size rfl (Nat.le_refl _) (by decide)
 have e:(([98]:List UInt8).flatMap encB).toArray = #[.int .u8 98]:=rfl
 have e2:intB n = [98] ++ numB n 4:=by unfold intB;rw [if_neg hs,if_pos ⟨h0,h1⟩];rfl
 rw [e] at hr
 have HR:=Lib.hid hr
 have HB:=Lib.hid (belowA (Below.refl w.heap.size w) (.cells #[.int .u8 98] 5) (Nat.le_refl _))
 have HN:=Lib.hid (number105 (w.alloc (.cells #[.int .u8 98] 5)) n 4 (by decide))
 rw [e2]
 clear e hr e2
 by_cases c1:0 ≤ n
 all_goals
  go_enter Tryz.func103,Tryz.ntmps103
  go_wp2_with fail
  refine HN.out.mono ?_
  rintro e w2 ⟨v2,rfl,ho,hb⟩
  obtain ⟨p2,c2,rfl,_,_⟩:=ho.shape
  have HO:=Lib.hid (ho.row (encB_ok _))
  have HR2:=Lib.hid (HR.out.below hb)
  have HB2:=Lib.hid (HB.out.trans (hb.mono HB.out.size))
  have hz:=HB2.out.size
  clear ho hb
  go_wp2_with (first
   | (refine wpList_append_rec elB rfl (.tmp 21) (.tmp 23) rfl rfl HR2.out hz rfl HO.out (encB_ok _) (by simp [numB_len]) ?_;intro v' w3 hA;obtain ⟨ao',cap',hv,_,_⟩:=hA.own.shape;subst hv;have HA:Hid (AppR encB 5 1 w2 w.heap.size (.slice (some ⟨w.heap.size,0,none⟩) 1 1) [98] (numB n 4) (.slice ao' ([98] ++ numB n 4).length cap') w3):=Lib.hid hA;clear hA))
  go_ret
  exact ⟨_,rfl,HA.out.own,HA.out.belowB HB2.out hz (fun k hk=>by have e:w.heap.size = k:=Option.some.inj hk;omega)⟩
theorem rintBig (w:World) (n:Int) (hs:¬ (0 ≤ n∧n < 256)) (hm:¬ (-2147483648 ≤ n∧n ≤ 2147483647)):Calls Tryz.prog 103 #[.int .i64 n] w (OwnQ (intB n) w):=by
 have e2:intB n = [110,byteOf (digB (magN n)).length,if n < 0 then 1 else 0] ++ digB (magN n):=by unfold intB;rw [if_neg hs,if_neg hm];rfl
 have HDl:=Lib.hid (digB_len 8 (magN n) (magN_lt n))
 rw [e2]
 have hmx:magN n ≤ 18446744073709551615:=by have:=magN_lt n;have e:(256:Nat) ^ 8 = 18446744073709551616:=rfl;omega
 clear e2
 by_cases c1:0 ≤ n
 ·have hab:((magN n:Nat):Int) = IntKind.u64.wrap n:=by rw [magN_eq];unfold magI;rw [if_neg (by omega)]
  have H00:Hid (DigI (magN n) w (magN n) (.int .u64 (IntKind.u64.wrap n)) (.slice none 0 0) w):=Lib.hid ⟨(magN n),[],by rw [hab],hmx,rfl,RecOwn.nil _ _ _,rfl,Below.refl _ _⟩
  have e3:(if n < 0 then (1:UInt8) else 0) = 0:=if_neg (by omega)
  rw [e3]
  clear e3 hab hmx
  generalize magN n = N at *
  go_enter Tryz.func103,Tryz.ntmps103
  go_wp2_with fail
  go_loopg [4,5] N (fun m uv lv wr=>Hid (DigI N w m uv lv wr))
  case atStart=>exact H00
  case round =>
   obtain ⟨u,l0,rfl,hu,hm,hown,hdig,hbw⟩:=hrel.out
   clear hrel H00
   obtain ⟨po,co,rfl,_,_⟩:=hown.shape
   have HM:=Lib.hid hm
   have HOw:=Lib.hid hown
   have HDg:=Lib.hid hdig
   have HBw:=Lib.hid hbw
   clear hm hown hdig
   have hll:l0.length ≤ 8:=by
    have:=congrArg List.length HDg.out
    rw [List.length_append] at this
    have:=HDl.out
    omega
   by_cases h0:0 < u
   ·have hz:w.heap.size ≤ (wr.alloc (.cells #[.int .u8 ((u:Int) % 256)] 5)).heap.size:=by rw [World.size_alloc];have:=hbw.size;omega
    have hrow:=row_new wr [byteOf u] 1 (Nat.le_refl _) (by decide)
    have e:([byteOf (u:Int)].flatMap encB).toArray = #[.int .u8 ((u:Int) % 256)]:=by rw [← byteOf_nat];rfl
    rw [e] at hrow
    have HRw:=Lib.hid hrow
    clear e hrow
    have HO2:=Lib.hid (HOw.out.below (belowA (Below.refl wr.heap.size wr) (.cells #[.int .u8 ((u:Int) % 256)] 5) (Nat.le_refl _)))
    go_wp2_with (first
     | (refine wpList_append_rec elB rfl (.tmp 33) (.tmp 37) rfl rfl HO2.out hz rfl HRw.out (encB_ok _) (by simp;omega) ?_;intro v' w8 hA;obtain ⟨ao',cap',hv,_,_⟩:=hA.own.shape;rw [List.length_append] at hv;subst hv;have HA:Hid (AppR encB 5 1 (wr.alloc (.cells #[.int .u8 ((u:Int) % 256)] 5)) w.heap.size (.slice po l0.length co) l0 [byteOf u] (.slice ao' (l0.length + 1) cap') w8):=Lib.hid hA;clear hA))
    go_wp2_with fail
    go_roundg (u / 256)
    case measure=>have:=HM.out;omega
    case rel =>
     refine Lib.hid ⟨u / 256,l0 ++ [byteOf u],by go_num,by omega,rfl,HA.out.own,by rw [HDg.out,digB_s (by omega)];simp,?_⟩
     exact HA.out.belowB (belowA HBw.out _ HBw.out.size) hz (fun k hk=>(HOw.out.lt hk).1)
   ·obtain rfl:u = 0:=by omega
    have hl:=HDg.out
    rw [digB_0,List.append_nil] at hl
    subst hl
    have hr:=own_new wr [110,byteOf (digB N).length,0] 3 w.heap.size rfl hbw.size (by decide)
    have hla:((digB N).length:Int) % 256 = (digB N).length:=by omega
    have e:([110,byteOf (digB N).length,0].flatMap encB).toArray = #[.int .u8 110,.int .u8 ((digB N).length:Int),.int .u8 0]:=by
     simp only [List.flatMap_cons,List.flatMap_nil,encB,List.cons_append,List.nil_append,byteOf_nat,hla]
     rfl
    rw [e] at hr
    have HR:=Lib.hid hr
    have hb3:=belowA (Below.refl wr.heap.size wr) (.cells #[.int .u8 110,.int .u8 ((digB N).length:Int),.int .u8 0] 5) (Nat.le_refl _)
    have HS:=Lib.hid ((HOw.out.below hb3).row (encB_ok _))
    have HB3:=Lib.hid (hbw.trans (hb3.mono hbw.size))
    have hz:=HB3.out.size
    clear e hr hla hb3
    go_wp2_with (first
     | (refine wpList_append_rec elB rfl (.tmp 45) (.tmp 46) rfl rfl HR.out hz rfl HS.out (encB_ok _) (by simp;omega) ?_;intro v' w8 hA;obtain ⟨ao',cap',hv,_,_⟩:=hA.own.shape;subst hv;have HA:Hid (AppR encB 5 1 (wr.alloc (.cells #[.int .u8 110,.int .u8 ((digB N).length:Int),.int .u8 0] 5)) w.heap.size (.slice (some ⟨wr.heap.size,0,none⟩) 3 3) [110,byteOf (digB N).length,0] (digB N) (.slice ao' ([110,byteOf (digB N).length,0] ++ digB N).length cap') w8):=Lib.hid hA;clear hA))
    go_ret
    exact ⟨_,rfl,HA.out.own,HA.out.belowB HB3.out hz (fun k hk=>by have e:wr.heap.size = k:=Option.some.inj hk;have:=HBw.out.size;omega)⟩
 ·have hab:((magN n:Nat):Int) = IntKind.u64.wrap (-IntKind.u64.wrap n):=by rw [magN_eq];unfold magI;rw [if_pos (by omega)]
  have H00:Hid (DigI (magN n) w (magN n) (.int .u64 (IntKind.u64.wrap (-IntKind.u64.wrap n))) (.slice none 0 0) w):=Lib.hid ⟨(magN n),[],by rw [hab],hmx,rfl,RecOwn.nil _ _ _,rfl,Below.refl _ _⟩
  have e3:(if n < 0 then (1:UInt8) else 0) = 1:=if_pos (by omega)
  rw [e3]
  clear e3 hab hmx
  generalize magN n = N at *
  go_enter Tryz.func103,Tryz.ntmps103
  go_wp2_with fail
  go_loopg [4,5] N (fun m uv lv wr=>Hid (DigI N w m uv lv wr))
  case atStart=>exact H00
  case round =>
   obtain ⟨u,l0,rfl,hu,hm,hown,hdig,hbw⟩:=hrel.out
   clear hrel H00
   obtain ⟨po,co,rfl,_,_⟩:=hown.shape
   have HM:=Lib.hid hm
   have HOw:=Lib.hid hown
   have HDg:=Lib.hid hdig
   have HBw:=Lib.hid hbw
   clear hm hown hdig
   have hll:l0.length ≤ 8:=by
    have:=congrArg List.length HDg.out
    rw [List.length_append] at this
    have:=HDl.out
    omega
   by_cases h0:0 < u
   ·have hz:w.heap.size ≤ (wr.alloc (.cells #[.int .u8 ((u:Int) % 256)] 5)).heap.size:=by rw [World.size_alloc];have:=hbw.size;omega
    have hrow:=row_new wr [byteOf u] 1 (Nat.le_refl _) (by decide)
    have e:([byteOf (u:Int)].flatMap encB).toArray = #[.int .u8 ((u:Int) % 256)]:=by rw [← byteOf_nat];rfl
    rw [e] at hrow
    have HRw:=Lib.hid hrow
    clear e hrow
    have HO2:=Lib.hid (HOw.out.below (belowA (Below.refl wr.heap.size wr) (.cells #[.int .u8 ((u:Int) % 256)] 5) (Nat.le_refl _)))
    go_wp2_with (first
     | (refine wpList_append_rec elB rfl (.tmp 33) (.tmp 37) rfl rfl HO2.out hz rfl HRw.out (encB_ok _) (by simp;omega) ?_;intro v' w8 hA;obtain ⟨ao',cap',hv,_,_⟩:=hA.own.shape;rw [List.length_append] at hv;subst hv;have HA:Hid (AppR encB 5 1 (wr.alloc (.cells #[.int .u8 ((u:Int) % 256)] 5)) w.heap.size (.slice po l0.length co) l0 [byteOf u] (.slice ao' (l0.length + 1) cap') w8):=Lib.hid hA;clear hA))
    go_wp2_with fail
    go_roundg (u / 256)
    case measure=>have:=HM.out;omega
    case rel =>
     refine Lib.hid ⟨u / 256,l0 ++ [byteOf u],by go_num,by omega,rfl,HA.out.own,by rw [HDg.out,digB_s (by omega)];simp,?_⟩
     exact HA.out.belowB (belowA HBw.out _ HBw.out.size) hz (fun k hk=>(HOw.out.lt hk).1)
   ·obtain rfl:u = 0:=by omega
    have hl:=HDg.out
    rw [digB_0,List.append_nil] at hl
    subst hl
    have hr:=own_new wr [110,byteOf (digB N).length,1] 3 w.heap.size rfl hbw.size (by decide)
    have hla:((digB N).length:Int) % 256 = (digB N).length:=by omega
    have e:([110,byteOf (digB N).length,1].flatMap encB).toArray = #[.int .u8 110,.int .u8 ((digB N).length:Int),.int .u8 1]:=by
     simp only [List.flatMap_cons,List.flatMap_nil,encB,List.cons_append,List.nil_append,byteOf_nat,hla]
     rfl
    rw [e] at hr
    have HR:=Lib.hid hr
    have hb3:=belowA (Below.refl wr.heap.size wr) (.cells #[.int .u8 110,.int .u8 ((digB N).length:Int),.int .u8 1] 5) (Nat.le_refl _)
    have HS:=Lib.hid ((HOw.out.below hb3).row (encB_ok _))
    have HB3:=Lib.hid (hbw.trans (hb3.mono hbw.size))
    have hz:=HB3.out.size
    clear e hr hla hb3
    go_wp2_with (first
     | (refine wpList_append_rec elB rfl (.tmp 45) (.tmp 46) rfl rfl HR.out hz rfl HS.out (encB_ok _) (by simp;omega) ?_;intro v' w8 hA;obtain ⟨ao',cap',hv,_,_⟩:=hA.own.shape;subst hv;have HA:Hid (AppR encB 5 1 (wr.alloc (.cells #[.int .u8 110,.int .u8 ((digB N).length:Int),.int .u8 1] 5)) w.heap.size (.slice (some ⟨wr.heap.size,0,none⟩) 3 3) [110,byteOf (digB N).length,1] (digB N) (.slice ao' ([110,byteOf (digB N).length,1] ++ digB N).length cap') w8):=Lib.hid hA;clear hA))
    go_ret
    exact ⟨_,rfl,HA.out.own,HA.out.belowB HB3.out hz (fun k hk=>by have e:wr.heap.size = k:=Option.some.inj hk;have:=HBw.out.size;omega)⟩
theorem integer103 (w:World) (n:Int):Calls Tryz.prog 103 #[.int .i64 n] w (OwnQ (intB n) w):=by
 by_cases hs:0 ≤ n∧n < 256
 ·exact rintSmall w n hs.1 hs.2
 by_cases hm:-2147483648 ≤ n∧n ≤ 2147483647
 ·exact rintMid w n hs hm.1 hm.2
 ·exact rintBig w n hs hm
end Go.Proofs.YtfbggmbmgohiiaaGreat.tb
