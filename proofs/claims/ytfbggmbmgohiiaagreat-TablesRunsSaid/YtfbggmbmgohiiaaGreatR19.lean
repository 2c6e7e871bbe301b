/- TbC,TbD. No condition beyond theirs. -/
import Derived.Test.YtfbggmbmgohiiaaGreatR17
set_option linter.unusedSimpArgs false
set_option linter.unusedVariables false
set_option maxHeartbeats 4000000
set_option maxRecDepth 100000
namespace Go.Proofs.YtfbggmbmgohiiaaGreat.tb
open Go.RowKit mem rec tm names
theorem Ex{w w1 w2:World}{B b:Nat}{v v':Value}{l xs:List UInt8}(h:jh w B b v l)(h1:w1.heap[b]?=some (.cells #[.pointer (some ⟨b,0,none⟩),v] 120))(ht:ax (fun k=>k=b) w w1)(hs:w1.heap.size=w.heap.size)(hA:dz bw 5 1 w1 B v l xs v' w2):wE B b v (l++xs) w (w2.setCell ⟨b,1,none⟩ v'):=by
 have hlt:=h.lt;have a_:w2.heap[b]?=some (.cells #[.pointer (some ⟨b,0,none⟩),v] 120):=(hA.other (by omega) h.ne).trans h1;have RY:v'.ownBlock≠some b:=hA.place (by omega) h.ne
 refine⟨v',⟨⟨_,.inr rfl,heap_setCell_same w2 b 1 _ 120 v' a_⟩,hA.own.same (fun k hk=>Below.heap_setCell _ _ _ _ (fun e=>RY (by rw[hk];exact congrArg some e))),RY,h.hb⟩,?_,?_⟩
 ·refine ax.setCell ?_ ⟨b,1,none⟩ _ (fun _=>.inl rfl);refine ax.trans (ht.mono (fun i _ e=>.inl e)) (hA.aX (ax.refl (fun k=>v.ownBlock=some k) w1) (fun k hk _=>hk)) (fun i _ e=>.inr e)
 ·intro k hk
  rcases hA.at_ with e|e
  ·exact .inl (e▸hk)
  ·rw[e]at hk;have:=Option.some.inj hk;exact .inr (by omega)
theorem K8{w:World}{B b:Nat}{v:Value}{l:List UInt8}(h:jh w B b v l)(hB:B≤w.heap.size){xs:List UInt8}{vx:Value}(hx:bq bw 1 w w.heap.size vx xs)(Ut:vx.ownBlock≠some b)(hn:l.length+xs.length≤1000000000) :
 Calls Tryz.prog 98 #[.pointer (some ⟨b,0,none⟩),vx] w fun e w'=>e=.returned (.tuple #[.int .i64 xs.length,.nilIface])∧wE B b v (l++xs) w w':=by
 have HC:=Qh (Ew h);have H0:=Qh h;have HX:=Qh (fun(w1:World) (h1:ax (fun k=>k=b) w w1)=>Ht hx h1 (Nat.le_refl _) (fun g hg e=>Ut (by rw[hg,e])));obtain⟨px,cx,rfl,_,_⟩:=hx.shape;obtain⟨pv,cv,rfl,_,_⟩:=h.row.shape;clear h hx;go_enter Tryz.func98,Tryz.ntmps98;go_wp2_with fail;refine HC.out.mono ?_;rintro e w1 ⟨rfl,h1,ht,hs⟩;obtain⟨c0,c1,cf⟩:=di h1;have HT:=Qh ht;have H1:=Qh h1;have HS:=Qh hs;have hrow:aA bw 5 1 w1 B (.slice pv l.length cv) l:=H0.out.row.same (fun k hk=>HT.out.block k (H0.out.row.lt hk).2 (fun e=>H0.out.ne (by rw[hk,e])));have HR:=Qh hrow
 have MP:B≤w1.heap.size:=by omega
 have HX1:=Qh (HX.out w1 ht);clear h1 ht hs hrow;go_wp2_with (first
  | (refine ay rW rfl (.tmp 12) (.tmp 13) rfl rfl HR.out MP rfl HX1.out (aU _) hn ?_;intro v' w2 hA;obtain⟨sF,cap',hv,_,_⟩:=hA.own.shape;rw[List.length_append]at hv;subst hv;have HA:Hid (dz bw 5 1 w1 B (.slice pv l.length cv) l xs (.slice sF (l.length+xs.length) cap') w2):=Qh hA;clear hA;obtain⟨d0,d1,df⟩:=di ((HA.out.other (by have:=H0.out.lt;have:=HS.out;omega) H0.out.ne).trans H1.out)))
 go_ret2
 exact⟨rfl,Ex H0.out H1.out HT.out HS.out HA.out⟩
theorem mD{w:World}{B b:Nat}{v:Value}{l:List UInt8}(h:jh w B b v l)(hB:B≤w.heap.size)(s:ByteArray)(hn:l.length+s.size≤1000000000) :
 Calls Tryz.prog 102 #[.pointer (some ⟨b,0,none⟩),.string s] w fun e w'=>e=.returned (.tuple #[.int .i64 s.size,.nilIface])∧wE B b v (l++kx s) w w':=by
 have HC:=Qh (Ew h);have H0:=Qh h;obtain⟨pv,cv,rfl,_,_⟩:=h.row.shape;clear h;go_enter Tryz.func102,Tryz.ntmps102;go_wp2_with fail;refine HC.out.mono ?_;rintro e w1 ⟨rfl,h1,ht,hs⟩;obtain⟨c0,c1,cf⟩:=di h1;have HT:=Qh ht;have H1:=Qh h1;have HS:=Qh hs;have hrow:aA bw 5 1 w1 B (.slice pv l.length cv) l:=H0.out.row.same (fun k hk=>HT.out.block k (H0.out.row.lt hk).2 (fun e=>H0.out.ne (by rw[hk,e])));have HR:=Qh hrow;have MP:B≤w1.heap.size:=by omega
 clear h1 ht hs hrow;go_wp2_with (first
  | (refine fX rfl (.tmp 12) (.tmp 13) rfl rfl HR.out MP rfl hn ?_;intro v' w2 hA;obtain⟨sF,cap',hv,_,_⟩:=hA.own.shape;rw[List.length_append,jd]at hv;subst hv;have HA:Hid (dz bw 5 1 w1 B (.slice pv l.length cv) l (kx s) (.slice sF (l.length+s.size) cap') w2):=Qh hA;clear hA;obtain⟨d0,d1,df⟩:=di ((HA.out.other (by have:=H0.out.lt;have:=HS.out;omega) H0.out.ne).trans H1.out)))
 go_ret2
 exact⟨rfl,Ex H0.out H1.out HT.out HS.out HA.out⟩
theorem yM{w:World}{B b:Nat}{v:Value}{l:List UInt8}(h:jh w B b v l)(hB:B≤w.heap.size){xs:List UInt8}{vx:Value}(hx:bq bw 1 w w.heap.size vx xs)(Ut:vx.ownBlock≠some b)(hn:l.length+xs.length≤1000000000) :
 Calls Tryz.prog 77 #[.pointer (some ⟨b,0,none⟩),vx] w fun e w'=>e=.returned (.tuple #[])∧wE B b v (l++xs) w w':=by
 have HC:=Qh (K8 h hB hx Ut hn);obtain⟨px,cx,rfl,_,_⟩:=hx.shape;clear h hx hB hn Ut;go_enter Tryz.func77,Tryz.ntmps77;go_wp2_with fail;refine HC.out.mono ?_;rintro e w1 ⟨rfl,hq⟩;have HQ:=Qh hq;clear hq;go_wp2_with fail;go_end0
 exact⟨rfl,HQ.out⟩
theorem lQ(w:World)(xs:List UInt8)(c:Nat)(h:xs.length≤c)(hc:c≤maxLen):bq bw 1 (w.alloc (.cells (xs.flatMap bw).toArray 5)) (w.alloc (.cells (xs.flatMap bw).toArray 5)).heap.size (.slice (some ⟨w.heap.size,0,none⟩) xs.length c) xs:=by
 have:=bq.fresh (aU xs) (by decide) (aF w (.cells (xs.flatMap bw).toArray 5)) h hc;rwa[World.size_alloc]
theorem fO{w:World}{B b:Nat}{v:Value}{l:List UInt8}(h:jh w B b v l)(hB:B≤w.heap.size)(xs:List UInt8)(k:Nat)(hk:xs.length=k)(hn:l.length+k≤1000000000) :
 Calls Tryz.prog 77 #[.pointer (some ⟨b,0,none⟩),.slice (some ⟨w.heap.size,0,none⟩) k k] (w.alloc (.cells (xs.flatMap bw).toArray 5)) fun e w'=>e=.returned (.tuple #[])∧wE B b v (l++xs) w w':=by
 subst hk;have hb:=aG (Below.refl w.heap.size w) (.cells (xs.flatMap bw).toArray 5) (Nat.le_refl _);refine(yM (h.below hb) (Nat.le_trans hB hb.size) (lQ w xs xs.length (Nat.le_refl _) (by unfold maxLen;omega)) (fun e=>by
  have e':w.heap.size=b:=Option.some.inj e
  have:=h.lt
  omega) hn).mono ?_
 rintro e w' ⟨rfl,v',h1,h2⟩;exact⟨rfl,v',h1,h2.grow hb⟩
theorem pJ{w:World}{B b:Nat}{v:Value}{l:List UInt8}(h:jh w B b v l)(hB:B≤w.heap.size)(s:ByteArray)(hn:l.length+(s.size+2)≤1000000000) :
 Calls Tryz.prog 100 #[.pointer (some ⟨b,0,none⟩),.string s] w fun e w'=>e=.returned (.tuple #[])∧wE B b v (l++cj s) w w':=by
 have hq:=fO h hB [119,byteOf s.size] 2 rfl (by omega);have e:([119,byteOf s.size].flatMap bw).toArray=#[.int .u8 119,.int .u8 (IntKind.u8.wrap s.size)]:=by rw[ML];rfl
 rw[e]at hq;have HQ:=Qh hq;clear e hq;go_enter Tryz.func100,Tryz.ntmps100;go_wp2_with fail;refine HQ.out.mono ?_;rintro e w1 ⟨rfl,v1,h1,hs1⟩;have HW:=Qh (mD h1 (Nat.le_trans hB hs1.aX.size) s (by simp;omega));have dl:=Qh hs1;clear hs1 h1;go_wp2_with fail;refine HW.out.mono ?_;rintro e w2 ⟨rfl,hq⟩;have Ey:=Qh hq;clear hq;go_wp2_with fail;go_end0
 obtain⟨v2,h2,iw⟩:=Ey.out;refine⟨rfl,v2,?_,dl.out.trans iw⟩;have:l++cj s=l++[119,byteOf s.size]++kx s:=by simp[cj]
 rw[this];exact h2
def RZ(B b:Nat)(v:Value)(l:List UInt8)(n:Int)(k:Nat)(w:World)(m:Nat)(iv:Value)(wr:World):Prop:=∃j:Nat,j≤k∧iv=.int .i64 ((j:Int)-1)∧m=j∧wE B b v (l++(bO n k).take (k-j)) w wr
theorem Hw(n:Int)(k j:Nat)(h0:0<j)(h:j≤k):(bO n k).take (k-(j-1))=(bO n k).take (k-j)++[byteOf (n/256^(j-1))]:=by
 have hl:k-j<(bO n k).length:=by rw[dm];omega
 rw[show k-(j-1)=k-j+1 by omega,←List.take_append_getElem hl];congr 2;simp only[bO,List.getElem_map,List.getElem_range];rw[show k-1-(k-j)=j-1 by omega]
theorem fj{w:World}{B b:Nat}{v:Value}{l:List UInt8}(h:jh w B b v l)(hB:B≤w.heap.size)(n:Int)(k:Nat)(hk:k≤8)(hn:l.length+k≤1000000000) :
 Calls Tryz.prog 101 #[.pointer (some ⟨b,0,none⟩),.int .i64 n,.int .i64 k] w fun e w'=>e=.returned (.tuple #[])∧wE B b v (l++bO n k) w w':=by
 have iL:Hid (RZ B b v l n k w k (.int .i64 ((k:Int)-1)) w):=Qh ⟨k,Nat.le_refl _,rfl,rfl,v,by rw[Nat.sub_self,List.take_zero,List.append_nil];exact h,jR.refl _ _ _⟩;have hw0:IntKind.i64.wrap ((k:Int)-1)=(k:Int)-1:=IntWalk.i64_in _ (by omega);clear h;go_enter Tryz.func101,Tryz.ntmps101;go_wp2_with fail;go_loopg [6] k (fun m iv wr=>Hid (RZ B b v l n k w m iv wr))
 case atStart=>exact iL
 case round=>
  obtain⟨j,hj,rfl,hm,v1,h1,hs1⟩:=hrel.out;clear hrel iL;have HM:=Qh hm;have H1:=Qh h1;have dl:=Qh hs1;clear hm
  by_cases h0:0<j
  ·have hge:(0:Int)≤(j:Int)-1:=by omega
   have hq:=fO h1 (Nat.le_trans hB hs1.aX.size) [byteOf (n/256^(j-1))] 1 rfl (by simp;omega);have e0:(256:Int)^(j-1)=2^(8*(j-1)):=by rw[Int.pow_mul];rfl
   have e:([byteOf (n/256^(j-1))].flatMap bw).toArray=#[.int .u8 (n/2^(8*(j-1))%256)]:=by
    rw[←e0,←bF];rfl
   rw[e]at hq;have HQ:=Qh hq;clear e hq;have HE:=Qh e0;clear e0 h1 hs1;go_wp2_with fail;refine HQ.out.mono ?_;rintro e w2 ⟨rfl,jO⟩;have Ey:=Qh jO;clear jO;have hw1:IntKind.i64.wrap ((j:Int)-1-1)=(j:Int)-1-1:=IntWalk.i64_in _ (by omega);go_wp2_with fail;go_roundg (j-1)
   case measure=>have:=HM.out;omega
   case rel=>
    refine Qh ⟨j-1,by omega,by congr 1;omega,rfl,?_⟩;obtain⟨v2,h2,iw⟩:=Ey.out;refine⟨v2,?_,dl.out.trans iw⟩;rw[Hw n k j h0 hj,←List.append_assoc];exact h2
  ·obtain rfl:j=0:=by omega
   go_wp2_with fail;go_end0
   refine⟨rfl,v1,?_,dl.out⟩;have h2:=H1.out;rw[Nat.sub_zero,show(bO n k).take k=bO n k from List.take_of_length_le (by rw[dm];exact Nat.le_refl _)]at h2;exact h2
end Go.Proofs.YtfbggmbmgohiiaaGreat.tb
