/- Texts of this seat, one behind the other: TbC, TbD, TbE. No condition beyond theirs. -/
import Derived.Test.YtfbggmbmgohiiaaGreatK10
set_option linter.unusedSimpArgs false
set_option linter.unusedVariables false
set_option maxHeartbeats 4000000
set_option maxRecDepth 100000
namespace Go.Proofs.YtfbggmbmgohiiaaGreat.tb
open Go.RowKit mem rec tm names
theorem wr_done {w w1 w2:World} {B b:Nat} {v v':Value} {l xs:List UInt8} (h:WrAt w B b v l) (h1:w1.heap[b]? = some (.cells #[.pointer (some ⟨b,0,none⟩),v] 120)) (ht:TouchB (fun k=>k = b) w w1) (hs:w1.heap.size = w.heap.size) (hA:AppR encB 5 1 w1 B v l xs v' w2):WrQ B b v (l ++ xs) w (w2.setCell ⟨b,1,none⟩ v'):=by
 have hlt:=h.lt
 have hb2:w2.heap[b]? = some (.cells #[.pointer (some ⟨b,0,none⟩),v] 120):=(hA.other (by omega) h.ne).trans h1
 have hne':v'.ownBlock ≠ some b:=hA.place (by omega) h.ne
 refine ⟨v',⟨⟨_,.inr rfl,heap_setCell_same w2 b 1 _ 120 v' hb2⟩,hA.own.same (fun k hk=>Below.heap_setCell _ _ _ _ (fun e=>hne' (by rw [hk];exact congrArg some e))),hne',h.hb⟩,?_,?_⟩
 ·refine TouchB.setCell ?_ ⟨b,1,none⟩ _ (fun _=>.inl rfl)
  refine TouchB.trans (ht.mono (fun i _ e=>.inl e)) (hA.touch (TouchB.refl (fun k=>v.ownBlock = some k) w1) (fun k hk _=>hk)) (fun i _ e=>.inr e)
 ·intro k hk
  rcases hA.at_ with e | e
  ·exact .inl (e ▸ hk)
  ·rw [e] at hk
   have:=Option.some.inj hk
   exact .inr (by omega)
theorem write98 {w:World} {B b:Nat} {v:Value} {l:List UInt8} (h:WrAt w B b v l) (hB:B ≤ w.heap.size) {xs:List UInt8} {vx:Value} (hx:RecAt encB 1 w w.heap.size vx xs) (hxb:vx.ownBlock ≠ some b) (hn:l.length + xs.length ≤ 1000000000) :
 Calls Tryz.prog 98 #[.pointer (some ⟨b,0,none⟩),vx] w fun e w'=>e = .returned (.tuple #[.int .i64 xs.length,.nilIface])∧WrQ B b v (l ++ xs) w w':=by
 have HC:=Lib.hid (copy122 h)
 have H0:=Lib.hid h
 have HX:=Lib.hid (fun (w1:World) (h1:TouchB (fun k=>k = b) w w1)=>recTouch hx h1 (Nat.le_refl _) (fun g hg e=>hxb (by rw [hg,e])))
 obtain ⟨px,cx,rfl,_,_⟩:=hx.shape
 obtain ⟨pv,cv,rfl,_,_⟩:=h.row.shape
 clear h hx
 go_enter Tryz.func98,Tryz.ntmps98
 go_wp2_with fail
 refine HC.out.mono ?_
 rintro e w1 ⟨rfl,h1,ht,hs⟩
 obtain ⟨c0,c1,cf⟩:=two_cells h1
 have HT:=Lib.hid ht
 have H1:=Lib.hid h1
 have HS:=Lib.hid hs
 have hrow:RecOwn encB 5 1 w1 B (.slice pv l.length cv) l:=H0.out.row.same (fun k hk=>HT.out.block k (H0.out.row.lt hk).2 (fun e=>H0.out.ne (by rw [hk,e])))
 have HR:=Lib.hid hrow
 have hB1:B ≤ w1.heap.size:=by omega
 have HX1:=Lib.hid (HX.out w1 ht)
 clear h1 ht hs hrow
 go_wp2_with (first
  | (refine wpList_append_rec elB rfl (.tmp 12) (.tmp 13) rfl rfl HR.out hB1 rfl HX1.out (encB_ok _) hn ?_;intro v' w2 hA;obtain ⟨ao',cap',hv,_,_⟩:=hA.own.shape;rw [List.length_append] at hv;subst hv;have HA:Hid (AppR encB 5 1 w1 B (.slice pv l.length cv) l xs (.slice ao' (l.length + xs.length) cap') w2):=Lib.hid hA;clear hA;obtain ⟨d0,d1,df⟩:=two_cells ((HA.out.other (by have:=H0.out.lt;have:=HS.out;omega) H0.out.ne).trans H1.out)))
 go_ret2
 exact ⟨rfl,wr_done H0.out H1.out HT.out HS.out HA.out⟩
theorem writeS102 {w:World} {B b:Nat} {v:Value} {l:List UInt8} (h:WrAt w B b v l) (hB:B ≤ w.heap.size) (s:ByteArray) (hn:l.length + s.size ≤ 1000000000) :
 Calls Tryz.prog 102 #[.pointer (some ⟨b,0,none⟩),.string s] w fun e w'=>e = .returned (.tuple #[.int .i64 s.size,.nilIface])∧WrQ B b v (l ++ strB s) w w':=by
 have HC:=Lib.hid (copy122 h)
 have H0:=Lib.hid h
 obtain ⟨pv,cv,rfl,_,_⟩:=h.row.shape
 clear h
 go_enter Tryz.func102,Tryz.ntmps102
 go_wp2_with fail
 refine HC.out.mono ?_
 rintro e w1 ⟨rfl,h1,ht,hs⟩
 obtain ⟨c0,c1,cf⟩:=two_cells h1
 have HT:=Lib.hid ht
 have H1:=Lib.hid h1
 have HS:=Lib.hid hs
 have hrow:RecOwn encB 5 1 w1 B (.slice pv l.length cv) l:=H0.out.row.same (fun k hk=>HT.out.block k (H0.out.row.lt hk).2 (fun e=>H0.out.ne (by rw [hk,e])))
 have HR:=Lib.hid hrow
 have hB1:B ≤ w1.heap.size:=by omega
 clear h1 ht hs hrow
 go_wp2_with (first
  | (refine wpList_append_str rfl (.tmp 12) (.tmp 13) rfl rfl HR.out hB1 rfl hn ?_;intro v' w2 hA;obtain ⟨ao',cap',hv,_,_⟩:=hA.own.shape;rw [List.length_append,strB_len] at hv;subst hv;have HA:Hid (AppR encB 5 1 w1 B (.slice pv l.length cv) l (strB s) (.slice ao' (l.length + s.size) cap') w2):=Lib.hid hA;clear hA;obtain ⟨d0,d1,df⟩:=two_cells ((HA.out.other (by have:=H0.out.lt;have:=HS.out;omega) H0.out.ne).trans H1.out)))
 go_ret2
 exact ⟨rfl,wr_done H0.out H1.out HT.out HS.out HA.out⟩
theorem bytes77 {w:World} {B b:Nat} {v:Value} {l:List UInt8} (h:WrAt w B b v l) (hB:B ≤ w.heap.size) {xs:List UInt8} {vx:Value} (hx:RecAt encB 1 w w.heap.size vx xs) (hxb:vx.ownBlock ≠ some b) (hn:l.length + xs.length ≤ 1000000000) :
 Calls Tryz.prog 77 #[.pointer (some ⟨b,0,none⟩),vx] w fun e w'=>e = .returned (.tuple #[])∧WrQ B b v (l ++ xs) w w':=by
 have HC:=Lib.hid (write98 h hB hx hxb hn)
 obtain ⟨px,cx,rfl,_,_⟩:=hx.shape
 clear h hx hB hn hxb
 go_enter Tryz.func77,Tryz.ntmps77
 go_wp2_with fail
 refine HC.out.mono ?_
 rintro e w1 ⟨rfl,hq⟩
 have HQ:=Lib.hid hq
 clear hq
 go_wp2_with fail
 go_end0
 exact ⟨rfl,HQ.out⟩
theorem row_new (w:World) (xs:List UInt8) (c:Nat) (h:xs.length ≤ c) (hc:c ≤ maxLen):RecAt encB 1 (w.alloc (.cells (xs.flatMap encB).toArray 5)) (w.alloc (.cells (xs.flatMap encB).toArray 5)).heap.size (.slice (some ⟨w.heap.size,0,none⟩) xs.length c) xs:=by
 have:=RecAt.fresh (encB_ok xs) (by decide) (alloc_new w (.cells (xs.flatMap encB).toArray 5)) h hc
 rwa [World.size_alloc]
theorem bytesN {w:World} {B b:Nat} {v:Value} {l:List UInt8} (h:WrAt w B b v l) (hB:B ≤ w.heap.size) (xs:List UInt8) (k:Nat) (hk:xs.length = k) (hn:l.length + k ≤ 1000000000) :
 Calls Tryz.prog 77 #[.pointer (some ⟨b,0,none⟩),.slice (some ⟨w.heap.size,0,none⟩) k k] (w.alloc (.cells (xs.flatMap encB).toArray 5)) fun e w'=>e = .returned (.tuple #[])∧WrQ B b v (l ++ xs) w w':=by
 subst hk
 have hb:=belowA (Below.refl w.heap.size w) (.cells (xs.flatMap encB).toArray 5) (Nat.le_refl _)
 refine (bytes77 (h.below hb) (Nat.le_trans hB hb.size) (row_new w xs xs.length (Nat.le_refl _) (by unfold maxLen;omega)) (fun e=>by
  have e':w.heap.size = b:=Option.some.inj e
  have:=h.lt
  omega) hn).mono ?_
 rintro e w' ⟨rfl,v',h1,h2⟩
 exact ⟨rfl,v',h1,h2.grow hb⟩
theorem atom100 {w:World} {B b:Nat} {v:Value} {l:List UInt8} (h:WrAt w B b v l) (hB:B ≤ w.heap.size) (s:ByteArray) (hn:l.length + (s.size + 2) ≤ 1000000000) :
 Calls Tryz.prog 100 #[.pointer (some ⟨b,0,none⟩),.string s] w fun e w'=>e = .returned (.tuple #[])∧WrQ B b v (l ++ atomB s) w w':=by
 have hq:=bytesN h hB [119,byteOf s.size] 2 rfl (by omega)
 have e:([119,byteOf s.size].flatMap encB).toArray = #[.int .u8 119,.int .u8 (IntKind.u8.wrap s.size)]:=by rw [wrap8];rfl
 rw [e] at hq
 have HQ:=Lib.hid hq
 clear e hq
 go_enter Tryz.func100,Tryz.ntmps100
 go_wp2_with fail
 refine HQ.out.mono ?_
 rintro e w1 ⟨rfl,v1,h1,hs1⟩
 have HW:=Lib.hid (writeS102 h1 (Nat.le_trans hB hs1.touch.size) s (by simp;omega))
 have HS1:=Lib.hid hs1
 clear hs1 h1
 go_wp2_with fail
 refine HW.out.mono ?_
 rintro e w2 ⟨rfl,hq⟩
 have HQ2:=Lib.hid hq
 clear hq
 go_wp2_with fail
 go_end0
 obtain ⟨v2,h2,hs2⟩:=HQ2.out
 refine ⟨rfl,v2,?_,HS1.out.trans hs2⟩
 have:l ++ atomB s = l ++ [119,byteOf s.size] ++ strB s:=by simp [atomB]
 rw [this]
 exact h2
def NumI (B b:Nat) (v:Value) (l:List UInt8) (n:Int) (k:Nat) (w:World) (m:Nat) (iv:Value) (wr:World):Prop:=∃ j:Nat,j ≤ k∧iv = .int .i64 ((j:Int) - 1)∧m = j∧WrQ B b v (l ++ (numB n k).take (k - j)) w wr
theorem num_next (n:Int) (k j:Nat) (h0:0 < j) (h:j ≤ k):(numB n k).take (k - (j - 1)) = (numB n k).take (k - j) ++ [byteOf (n / 256 ^ (j - 1))]:=by
 have hl:k - j < (numB n k).length:=by rw [numB_len];omega
 rw [show k - (j - 1) = k - j + 1 by omega,← List.take_append_getElem hl]
 congr 2
 simp only [numB,List.getElem_map,List.getElem_range]
 rw [show k - 1 - (k - j) = j - 1 by omega]
theorem number101 {w:World} {B b:Nat} {v:Value} {l:List UInt8} (h:WrAt w B b v l) (hB:B ≤ w.heap.size) (n:Int) (k:Nat) (hk:k ≤ 8) (hn:l.length + k ≤ 1000000000) :
 Calls Tryz.prog 101 #[.pointer (some ⟨b,0,none⟩),.int .i64 n,.int .i64 k] w fun e w'=>e = .returned (.tuple #[])∧WrQ B b v (l ++ numB n k) w w':=by
 have H00:Hid (NumI B b v l n k w k (.int .i64 ((k:Int) - 1)) w):=Lib.hid ⟨k,Nat.le_refl _,rfl,rfl,v,by rw [Nat.sub_self,List.take_zero,List.append_nil];exact h,WrS.refl _ _ _⟩
 have hw0:IntKind.i64.wrap ((k:Int) - 1) = (k:Int) - 1:=IntWalk.i64_in _ (by omega)
 clear h
 go_enter Tryz.func101,Tryz.ntmps101
 go_wp2_with fail
 go_loopg [6] k (fun m iv wr=>Hid (NumI B b v l n k w m iv wr))
 case atStart=>exact H00
 case round =>
  obtain ⟨j,hj,rfl,hm,v1,h1,hs1⟩:=hrel.out
  clear hrel H00
  have HM:=Lib.hid hm
  have H1:=Lib.hid h1
  have HS1:=Lib.hid hs1
  clear hm
  by_cases h0:0 < j
  ·have hge:(0:Int) ≤ (j:Int) - 1:=by omega
   have hq:=bytesN h1 (Nat.le_trans hB hs1.touch.size) [byteOf (n / 256 ^ (j - 1))] 1 rfl (by simp;omega)
   have e0:(256:Int) ^ (j - 1) = 2 ^ (8 * (j - 1)):=by rw [Int.pow_mul];rfl
   have e:([byteOf (n / 256 ^ (j - 1))].flatMap encB).toArray = #[.int .u8 (n / 2 ^ (8 * (j - 1)) % 256)]:=by
    rw [← e0,← byteOf_nat]
    rfl
   rw [e] at hq
   have HQ:=Lib.hid hq
   clear e hq
   have HE:=Lib.hid e0
   clear e0 h1 hs1
   go_wp2_with fail
   refine HQ.out.mono ?_
   rintro e w2 ⟨rfl,hq2⟩
   have HQ2:=Lib.hid hq2
   clear hq2
   have hw1:IntKind.i64.wrap ((j:Int) - 1 - 1) = (j:Int) - 1 - 1:=IntWalk.i64_in _ (by omega)
   go_wp2_with fail
   go_roundg (j - 1)
   case measure=>have:=HM.out;omega
   case rel =>
    refine Lib.hid ⟨j - 1,by omega,by congr 1;omega,rfl,?_⟩
    obtain ⟨v2,h2,hs2⟩:=HQ2.out
    refine ⟨v2,?_,HS1.out.trans hs2⟩
    rw [num_next n k j h0 hj,← List.append_assoc]
    exact h2
  ·obtain rfl:j = 0:=by omega
   go_wp2_with fail
   go_end0
   refine ⟨rfl,v1,?_,HS1.out⟩
   have h2:=H1.out
   rw [Nat.sub_zero,show (numB n k).take k = numB n k from List.take_of_length_le (by rw [numB_len];exact Nat.le_refl _)] at h2
   exact h2
def DigI (N:Nat) (w:World) (m:Nat) (uv lv:Value) (wr:World):Prop:=∃ (u:Nat) (l0:List UInt8),uv = .int .u64 (u:Int)∧u ≤ 18446744073709551615∧m = u∧RecOwn encB 5 1 wr w.heap.size lv l0∧digB N = l0 ++ digB u∧Below w.heap.size w wr
theorem WrQ.step {B b:Nat} {v:Value} {l xs:List UInt8} {w w1 w2:World} (h:WrQ B b v l w w1) (k:∀ v1,WrAt w1 B b v1 l→WrS b v v1 w w1→WrQ B b v1 (l ++ xs) w1 w2):WrQ B b v (l ++ xs) w w2:=by
 obtain ⟨v1,h1,hs1⟩:=h
 obtain ⟨v2,h2,hs2⟩:=k v1 h1 hs1
 exact ⟨v2,h2,hs1.trans hs2⟩
theorem intSmall {w:World} {B b:Nat} {v:Value} {l:List UInt8} (h:WrAt w B b v l) (hB:B ≤ w.heap.size) (n:Int) (h0:0 ≤ n) (h1:n < 256) (hn:l.length + 11 ≤ 1000000000) :
 Calls Tryz.prog 99 #[.pointer (some ⟨b,0,none⟩),.int .i64 n] w fun e w'=>e = .returned (.tuple #[])∧WrQ B b v (l ++ intB n) w w':=by
 have hq:=bytesN h hB [97,byteOf n] 2 rfl (by omega)
 have e:([97,byteOf n].flatMap encB).toArray = #[.int .u8 97,.int .u8 (n % 256)]:=by rw [← byteOf_nat];rfl
 have e2:intB n = [97,byteOf n]:=by unfold intB;rw [if_pos ⟨h0,h1⟩]
 have e3:n % 256 = n:=by omega
 rw [e,e3] at hq
 rw [e2]
 have HQ:=Lib.hid hq
 clear e e2 hq e3
 go_enter Tryz.func99,Tryz.ntmps99
 go_wp2_with fail
 refine HQ.out.mono ?_
 rintro e w1 ⟨rfl,hq⟩
 have HQ1:=Lib.hid hq
 clear hq
 go_wp2_with fail
 go_end0
 exact ⟨rfl,HQ1.out⟩
theorem intMid {w:World} {B b:Nat} {v:Value} {l:List UInt8} (h:WrAt w B b v l) (hB:B ≤ w.heap.size) (n:Int) (hs:¬ (0 ≤ n∧n < 256)) (h0:-2147483648 ≤ n) (h1:n ≤ 2147483647) (hn:l.length + 11 ≤ 1000000000) :
 Calls Tryz.prog 99 #[.pointer (some ⟨b,0,none⟩),.int .i64 n] w fun e w'=>e = .returned (.tuple #[])∧WrQ B b v (l ++ intB n) w w':=by
 have hq:=bytesN h hB [98] 1 rfl (by omega)
 have e:(([98]:List UInt8).flatMap encB).toArray = #[.int .u8 98]:=rfl
 have e2:intB n = [98] ++ numB n 4:=by unfold intB;rw [if_neg hs,if_pos ⟨h0,h1⟩];rfl
 rw [e] at hq
 rw [e2]
 have HQ:=Lib.hid hq
 clear e e2 hq
 by_cases c1:0 ≤ n
 all_goals
  go_enter Tryz.func99,Tryz.ntmps99
  go_wp2_with fail
  refine HQ.out.mono ?_
  rintro e w1 ⟨rfl,v1,hq,hs1⟩
  have HN:=Lib.hid (number101 hq (Nat.le_trans hB hs1.touch.size) n 4 (by decide) (by simp;omega))
  have HS1:=Lib.hid hs1
  clear hq hs1
  go_wp2_with fail
  refine HN.out.mono ?_
  rintro e w2 ⟨rfl,v2,hq,hs2⟩
  have HQ2:=Lib.hid hq
  have HS2:=Lib.hid hs2
  clear hq hs2
  go_wp2_with fail
  go_end0
  exact ⟨rfl,v2,by have h5:=HQ2.out;rw [List.append_assoc] at h5;exact h5,HS1.out.trans HS2.out⟩
theorem intBig {w:World} {B b:Nat} {v:Value} {l:List UInt8} (h:WrAt w B b v l) (hB:B ≤ w.heap.size) (n:Int) (hs:¬ (0 ≤ n∧n < 256)) (hm:¬ (-2147483648 ≤ n∧n ≤ 2147483647)) (hn:l.length + 11 ≤ 1000000000) :
 Calls Tryz.prog 99 #[.pointer (some ⟨b,0,none⟩),.int .i64 n] w fun e w'=>e = .returned (.tuple #[])∧WrQ B b v (l ++ intB n) w w':=by
 have e2:intB n = [110,byteOf (digB (magN n)).length,if n < 0 then 1 else 0] ++ digB (magN n):=by unfold intB;rw [if_neg hs,if_neg hm];rfl
 have HDl:=Lib.hid (digB_len 8 (magN n) (magN_lt n))
 rw [e2]
 have H0:=Lib.hid h
 have hBw:B ≤ w.heap.size:=hB
 have hx:(n == RowKit.wrap64 (RowKit.wrap32 n)) = false:=by
  simp only [beq_eq_false_iff_ne]
  intro e
  unfold RowKit.wrap64 RowKit.wrap32 at e
  omega
 have hmx:magN n ≤ 18446744073709551615:=by have:=magN_lt n;have e:(256:Nat) ^ 8 = 18446744073709551616:=rfl;omega
 clear e2 h
 by_cases c1:0 ≤ n
 ·have hab:((magN n:Nat):Int) = IntKind.u64.wrap n:=by rw [magN_eq];unfold magI;rw [if_neg (by omega)]
  have H00:Hid (DigI (magN n) w (magN n) (.int .u64 (IntKind.u64.wrap n)) (.slice none 0 0) w):=Lib.hid ⟨(magN n),[],by rw [hab],hmx,rfl,RecOwn.nil _ _ _,rfl,Below.refl _ _⟩
  have e3:(if n < 0 then (1:UInt8) else 0) = 0:=if_neg (by omega)
  rw [e3]
  clear e3 hab
  clear hmx
  generalize magN n = N at *
  go_enter Tryz.func99,Tryz.ntmps99
  go_wp2_with fail
  go_loopg [5,6] N (fun m uv lv wr=>Hid (DigI N w m uv lv wr))
  case atStart=>exact H00
  case round =>
   obtain ⟨u,l0,rfl,hu,hm,hown,hdig,hbw⟩:=hrel.out
   clear hrel H00
   obtain ⟨po,co,rfl,_,_⟩:=hown.shape
   have HM:=Lib.hid hm
   have HOw:=Lib.hid hown
   have HDg:=Lib.hid hdig
   have HBw:=Lib.hid hbw
   clear hm hown hdig
   have hll:l0.length ≤ 8:=by
    have:=congrArg List.length HDg.out
    rw [List.length_append] at this
    have:=HDl.out
    omega
   by_cases h0:0 < u
   ·have hz:w.heap.size ≤ (wr.alloc (.cells #[.int .u8 ((u:Int) % 256)] 5)).heap.size:=by rw [World.size_alloc];have:=hbw.size;omega
    have hrow:=row_new wr [byteOf u] 1 (Nat.le_refl _) (by decide)
    have e:([byteOf (u:Int)].flatMap encB).toArray = #[.int .u8 ((u:Int) % 256)]:=by rw [← byteOf_nat];rfl
    rw [e] at hrow
    have HRw:=Lib.hid hrow
    clear e hrow
    have HO2:=Lib.hid (HOw.out.below (belowA (Below.refl wr.heap.size wr) (.cells #[.int .u8 ((u:Int) % 256)] 5) (Nat.le_refl _)))
    go_wp2_with (first
     | (refine wpList_append_rec elB rfl (.tmp 17) (.tmp 20) rfl rfl HO2.out hz rfl HRw.out (encB_ok _) (by simp;omega) ?_;intro v' w8 hA;obtain ⟨ao',cap',hv,_,_⟩:=hA.own.shape;rw [List.length_append] at hv;subst hv;have HA:Hid (AppR encB 5 1 (wr.alloc (.cells #[.int .u8 ((u:Int) % 256)] 5)) w.heap.size (.slice po l0.length co) l0 [byteOf u] (.slice ao' (l0.length + 1) cap') w8):=Lib.hid hA;clear hA))
    go_wp2_with fail
    go_roundg (u / 256)
    case measure=>have:=HM.out;omega
    case rel =>
     refine Lib.hid ⟨u / 256,l0 ++ [byteOf u],by go_num,by omega,rfl,HA.out.own,by rw [HDg.out,digB_s (by omega)];simp,?_⟩
     exact HA.out.belowB (belowA HBw.out _ HBw.out.size) hz (fun k hk=>(HOw.out.lt hk).1)
   ·obtain rfl:u = 0:=by omega
    have hl:=HDg.out
    rw [digB_0,List.append_nil] at hl
    subst hl
    have h1:=H0.out.below hbw
    have hq:=bytesN h1 (Nat.le_trans hBw hbw.size) [110,byteOf (digB N).length,0] 3 rfl (by omega)
    have hla:((digB N).length:Int) % 256 = (digB N).length:=by omega
    have e:([110,byteOf (digB N).length,0].flatMap encB).toArray = #[.int .u8 110,.int .u8 ((digB N).length:Int),.int .u8 0]:=by
     rw [← hla,← byteOf_nat,byteOf_nat,hla]
     have e4:byteOf ((digB N).length:Int) = byteOf ((digB N).length:Int):=rfl
     simp only [List.flatMap_cons,List.flatMap_nil,encB,List.cons_append,List.nil_append,byteOf_nat,hla]
     rfl
    rw [e] at hq
    have HQ:=Lib.hid hq
    clear e hq hla h1
    go_wp2_with fail
    refine HQ.out.mono ?_
    rintro e w1 ⟨rfl,v1,hq,hs1⟩
    have hrow:RecOwn encB 5 1 w1 w.heap.size (.slice po (digB N).length co) (digB N):=HOw.out.same (fun k hk=>hs1.other (HOw.out.lt hk).2 (by have:=(HOw.out.lt hk).1;have:=H0.out.lt;omega) (fun e=>by have:=(HOw.out.lt hk).1;have:=(H0.out.row.lt e).2;omega))
    have HN:=Lib.hid (bytes77 hq (Nat.le_trans hBw (Nat.le_trans hbw.size hs1.touch.size)) (hrow.row (encB_ok _)) (fun e=>by have:=(HOw.out.lt e).1;have:=H0.out.lt;omega) (by simp;omega))
    have HS1:=Lib.hid hs1
    clear hq hs1 hrow
    go_wp2_with fail
    refine HN.out.mono ?_
    rintro e w2 ⟨rfl,v2,hq,hs2⟩
    have HQ2:=Lib.hid hq
    have HS2:=Lib.hid hs2
    clear hq hs2
    go_wp2_with fail
    go_end0
    exact ⟨rfl,v2,by have h5:=HQ2.out;rw [List.append_assoc] at h5;exact h5,(HS1.out.trans HS2.out).grow HBw.out⟩
 ·have hab:((magN n:Nat):Int) = IntKind.u64.wrap (-IntKind.u64.wrap n):=by rw [magN_eq];unfold magI;rw [if_pos (by omega)]
  have H00:Hid (DigI (magN n) w (magN n) (.int .u64 (IntKind.u64.wrap (-IntKind.u64.wrap n))) (.slice none 0 0) w):=Lib.hid ⟨(magN n),[],by rw [hab],hmx,rfl,RecOwn.nil _ _ _,rfl,Below.refl _ _⟩
  have e3:(if n < 0 then (1:UInt8) else 0) = 1:=if_pos (by omega)
  rw [e3]
  clear e3 hab
  clear hmx
  generalize magN n = N at *
  go_enter Tryz.func99,Tryz.ntmps99
  go_wp2_with fail
  go_loopg [5,6] N (fun m uv lv wr=>Hid (DigI N w m uv lv wr))
  case atStart=>exact H00
  case round =>
   obtain ⟨u,l0,rfl,hu,hm,hown,hdig,hbw⟩:=hrel.out
   clear hrel H00
   obtain ⟨po,co,rfl,_,_⟩:=hown.shape
   have HM:=Lib.hid hm
   have HOw:=Lib.hid hown
   have HDg:=Lib.hid hdig
   have HBw:=Lib.hid hbw
   clear hm hown hdig
   have hll:l0.length ≤ 8:=by
    have:=congrArg List.length HDg.out
    rw [List.length_append] at this
    have:=HDl.out
    omega
   by_cases h0:0 < u
   ·have hz:w.heap.size ≤ (wr.alloc (.cells #[.int .u8 ((u:Int) % 256)] 5)).heap.size:=by rw [World.size_alloc];have:=hbw.size;omega
    have hrow:=row_new wr [byteOf u] 1 (Nat.le_refl _) (by decide)
    have e:([byteOf (u:Int)].flatMap encB).toArray = #[.int .u8 ((u:Int) % 256)]:=by rw [← byteOf_nat];rfl
    rw [e] at hrow
    have HRw:=Lib.hid hrow
    clear e hrow
    have HO2:=Lib.hid (HOw.out.below (belowA (Below.refl wr.heap.size wr) (.cells #[.int .u8 ((u:Int) % 256)] 5) (Nat.le_refl _)))
    go_wp2_with (first
     | (refine wpList_append_rec elB rfl (.tmp 17) (.tmp 20) rfl rfl HO2.out hz rfl HRw.out (encB_ok _) (by simp;omega) ?_;intro v' w8 hA;obtain ⟨ao',cap',hv,_,_⟩:=hA.own.shape;rw [List.length_append] at hv;subst hv;have HA:Hid (AppR encB 5 1 (wr.alloc (.cells #[.int .u8 ((u:Int) % 256)] 5)) w.heap.size (.slice po l0.length co) l0 [byteOf u] (.slice ao' (l0.length + 1) cap') w8):=Lib.hid hA;clear hA))
    go_wp2_with fail
    go_roundg (u / 256)
    case measure=>have:=HM.out;omega
    case rel =>
     refine Lib.hid ⟨u / 256,l0 ++ [byteOf u],by go_num,by omega,rfl,HA.out.own,by rw [HDg.out,digB_s (by omega)];simp,?_⟩
     exact HA.out.belowB (belowA HBw.out _ HBw.out.size) hz (fun k hk=>(HOw.out.lt hk).1)
   ·obtain rfl:u = 0:=by omega
    have hl:=HDg.out
    rw [digB_0,List.append_nil] at hl
    subst hl
    have h1:=H0.out.below hbw
    have hq:=bytesN h1 (Nat.le_trans hBw hbw.size) [110,byteOf (digB N).length,1] 3 rfl (by omega)
    have hla:((digB N).length:Int) % 256 = (digB N).length:=by omega
    have e:([110,byteOf (digB N).length,1].flatMap encB).toArray = #[.int .u8 110,.int .u8 ((digB N).length:Int),.int .u8 1]:=by
     rw [← hla,← byteOf_nat,byteOf_nat,hla]
     have e4:byteOf ((digB N).length:Int) = byteOf ((digB N).length:Int):=rfl
     simp only [List.flatMap_cons,List.flatMap_nil,encB,List.cons_append,List.nil_append,byteOf_nat,hla]
     rfl
    rw [e] at hq
    have HQ:=Lib.hid hq
    clear e hq hla h1
    go_wp2_with fail
    refine HQ.out.mono ?_
    rintro e w1 ⟨rfl,v1,hq,hs1⟩
    have hrow:RecOwn encB 5 1 w1 w.heap.size (.slice po (digB N).length co) (digB N):=HOw.out.same (fun k hk=>hs1.other (HOw.out.lt hk).2 (by have:=(HOw.out.lt hk).1;have:=H0.out.lt;omega) (fun e=>by have:=(HOw.out.lt hk).1;have:=(H0.out.row.lt e).2;omega))
    have HN:=Lib.hid (bytes77 hq (Nat.le_trans hBw (Nat.le_trans hbw.size hs1.touch.size)) (hrow.row (encB_ok _)) (fun e=>by have:=(HOw.out.lt e).1;have:=H0.out.lt;omega) (by simp;omega))
    have HS1:=Lib.hid hs1
    clear hq hs1 hrow
    go_wp2_with fail
    refine HN.out.mono ?_
    rintro e w2 ⟨rfl,v2,hq,hs2⟩
    have HQ2:=Lib.hid hq
    have HS2:=Lib.hid hs2
    clear hq hs2
    go_wp2_with fail
    go_end0
    exact ⟨rfl,v2,by have h5:=HQ2.out;rw [List.append_assoc] at h5;exact h5,(HS1.out.trans HS2.out).grow HBw.out⟩
theorem integer99 {w:World} {B b:Nat} {v:Value} {l:List UInt8} (h:WrAt w B b v l) (hB:B ≤ w.heap.size) (n:Int) (hn:l.length + 11 ≤ 1000000000) :
 Calls Tryz.prog 99 #[.pointer (some ⟨b,0,none⟩),.int .i64 n] w fun e w'=>e = .returned (.tuple #[])∧WrQ B b v (l ++ intB n) w w':=by
 by_cases hs:0 ≤ n∧n < 256
 ·exact intSmall h hB n hs.1 hs.2 hn
 by_cases hm:-2147483648 ≤ n∧n ≤ 2147483647
 ·exact intMid h hB n hs hm.1 hm.2 hn
 ·exact intBig h hB n hs hm hn
end Go.Proofs.YtfbggmbmgohiiaaGreat.tb
