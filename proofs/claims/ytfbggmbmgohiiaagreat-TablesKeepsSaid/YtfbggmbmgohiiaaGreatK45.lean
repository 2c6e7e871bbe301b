/- Texts of this seat, one behind the other: TbK. No condition beyond theirs. -/
import Derived.Test.YtfbggmbmgohiiaaGreatK44
set_option linter.unusedSimpArgs false
set_option linter.unusedVariables false
set_option maxHeartbeats 4000000
set_option maxRecDepth 100000
namespace Go.Proofs.YtfbggmbmgohiiaaGreat.tb
open Go.RowKit mem rec tm names
def CodeS (n:Nat):Prop:=∀ (w:World) (B:Nat) (vt:Value) (t:Tm (n + 1)),B ≤ w.heap.size→ItemsAt w B n vt t.items→formedT t = true→3000 * nodesT t ≤ 400000000→Calls Tryz.prog 80 #[aggV t.f vt] w (OwnQ (encT t) w)
def CodeI {n:Nat} (l:List UInt8) (items:List (Tm n)) (W1:World) (m:Nat) (ov iv:Value) (wr:World):Prop:=∃ i:Nat,iv = .int .i64 (i:Int)∧i ≤ items.length∧m = items.length - i∧RecOwn encB 5 1 wr W1.heap.size ov (l ++ encL n (items.take i))∧Below W1.heap.size W1 wr
def HeadR (l:List UInt8) (W1:World) (v:Value) (wc:World):Prop:=RecOwn encB 5 1 wc W1.heap.size v l∧Below W1.heap.size W1 wc
theorem codeEl {n:Nat} (ih:∀ m,n = m + 1→CodeS m) {w:World} {B:Nat} {p:Option Addr} {len c:Nat} {items:List (Tm n)} (hB:B ≤ w.heap.size) (hI:ItemsAt w B n (.slice p len c) items) (hf:formedL n items = true) (i:Nat) (hi:i < items.length) (hs:3000 * nodesL n items ≤ 400000000) :
 ∃ g o x q m d bs,p = some ⟨g,o,none⟩∧g < B∧Cells w g (o + i * 9) x (.slice q m d)∧encL n (items.take (i + 1)) = encL n (items.take i) ++ bs∧bs.length ≤ 400000000∧Calls Tryz.prog 80 #[aggV x (.slice q m d)] w (OwnQ bs w):=by
 cases n with
 | zero=>rw [Tm.nil0 items] at hi;exact absurd hi (by simp)
 | succ n =>
  obtain ⟨g,o,d,e,_,_,hg,hx⟩:=hI.at_ (by intro e;subst e;simp at hi)
  obtain ⟨u,hC,hJ⟩:=hx i hi
  simp only [Value.slice.injEq] at e
  obtain ⟨q,c',rfl,_,_⟩:=hJ.shape
  have hn:=nodes_mem hi
  have hl:(encT items[i]).length ≤ 400000000:=by
   have h1:=encL_len n items[i].items (formed_items (formed_at hf i hi))
   have h2:=headB_len (formed_at hf i hi)
   have h3:nodesT items[i] = 1 + nodesL n items[i].items:=rfl
   unfold encT
   rw [List.length_append]
   omega
  exact ⟨g,o,items[i].f,q,_,c',encT items[i],e.1,hg,hC,encL_take items i hi,hl,ih n rfl w B _ items[i] hB hJ (formed_at hf i hi) (by omega)⟩
theorem nodes_take {n:Nat} (l:List (Tm n)) (k:Nat):nodesL n (l.take k) ≤ nodesL n l:=by
 cases n with
 | zero=>exact Nat.le_refl _
 | succ n =>
  have:=nodesL_append (l.take k) (l.drop k)
  rw [List.take_append_drop] at this
  omega
theorem codeStep {n:Nat} (ih:∀ m,n = m + 1→CodeS m):CodeS n:=by
 intro w B vt t hB hI hf hn
 have hnod:nodesT t = 1 + nodesL n t.items:=rfl
 have HHd:=Lib.hid (headB_len hf)
 have hft:=formed_items hf
 obtain ⟨k1,k2,_,k4⟩:=ft_ok hf
 have hk:=ft_kind hf
 have h2:t.f.kind = 9→2 ≤ t.items.length:=fun e=>(ft_list hf e).1
 obtain ⟨p,c,rfl,_,_⟩:=hI.shape
 have hen:encT t = headB t.f t.items.length ++ encL n t.items:=rfl
 rw [hen]
 clear hen hf k1 k2
 have hlen:=nodes_len n t.items
 have hel:=encL_len n t.items hft
 generalize hits:t.items = items at *
 generalize t.f = f at *
 obtain ⟨fk,fi,fg,fn,ff,fa,fb,fs⟩:=f
 unfold aggV
 dsimp only at hk h2 k4 HHd ⊢
 have hb0:=belowA (Below.refl w.heap.size w) (cells9 ⟨fk,fi,fg,fn,ff,fa,fb,fs⟩ (.slice p items.length c)) (Nat.le_refl _)
 have HZ:=Lib.hid (alloc_new w (cells9 ⟨fk,fi,fg,fn,ff,fa,fb,fs⟩ (.slice p items.length c)))
 have HBw:=Lib.hid hb0
 have HB1:Hid (B ≤ w.heap.size∧(w.alloc (cells9 ⟨fk,fi,fg,fn,ff,fa,fb,fs⟩ (.slice p items.length c))).heap.size = w.heap.size + 1):=Lib.hid ⟨hB,by rw [World.size_alloc]⟩
 have HNd:Hid (3000 * (1 + nodesL n items) ≤ 400000000):=Lib.hid (by omega)
 have HFt:=Lib.hid hft
 have HK4:=Lib.hid k4
 have HEl:=Lib.hid hel
 have HIt:=Lib.hid (hI.below hb0 hB)
 have HLen:Hid (items.length ≤ 1000000):=Lib.hid (by omega)
 unfold cells9 at HZ HBw HB1 HIt
 dsimp only at HZ HBw HB1 HIt
 clear hb0 hB hI hn hnod hlen h2 hft hits k4 hel
 go_enter Tryz.func80,Tryz.ntmps80
 go_upto_region 1 with (fail)
 generalize hW1:(w.alloc (.cells #[.int .i64 fk,.int .i64 fi,.int .i64 fg,.string fn,.string ff,.int .i64 fa,.slice p items.length c,.string fb,.int .i64 fs] 24)) = W1 at *
 clear hW1
 generalize hz:w.heap.size = z at *
 have HZs:=Lib.hid hz
 clear hz
 have HX:=Lib.hid (fun (W':World) (hs:Below W1.heap.size W1 W')=>(nine_of ((hs.block z (by have:=HB1.out.2;omega)).trans HZ.out):Nine W' z ⟨fk,fi,fg,fn,ff,fa,fb,fs⟩ (.slice p items.length c)))
 have HRt:=Lib.hid (fun (W':World) (u:Value) (l:List UInt8) (hl:l = headB ⟨fk,fi,fg,fn,ff,fa,fb,fs⟩ items.length) (h0:items = []) (hb:Below W1.heap.size W1 W') (ho:RecOwn encB 5 1 W' W1.heap.size u l)=>(by
  subst h0
  rw [encL_nil,List.append_nil,← hl]
  refine ⟨u,rfl,ho.base (fun k hk=>?_),?_⟩
  ·have:=(ho.lt hk).1
   have:=HB1.out.2
   have:=HZs.out
   omega
  ·have:=hb.mono (B':=w.heap.size) (by have:=HB1.out.2;have:=HZs.out;omega)
   rw [HZs.out] at this ⊢
   exact HBw.out.trans this:OwnQ (headB ⟨fk,fi,fg,fn,ff,fa,fb,fs⟩ items.length ++ encL n items) w (.returned u) W'))
 obtain ⟨x0,x1,x2,x3,x4,x5,x6,x7,x8,xf⟩:=HX.out W1 (Below.refl _ _)
 dsimp only at x0 x1 x2 x3 x4 x5 x6 x7 x8
 have HB0:=Lib.hid (Below.refl W1.heap.size W1)
 go_upto_block 0 with (fail)
 go_cut [3] from 5 (fun v wc=>Hid (HeadR (headB ⟨fk,fi,fg,fn,ff,fa,fb,fs⟩ items.length) W1 v wc))
 case first =>
  have hks:fk = 1∨fk = 2∨fk = 7∨fk = 8∨fk = 9∨fk = 10∨fk = 6∨fk = 3∨fk = 5∨fk = 4:=by omega
  clear hk
  rcases hks with rfl | rfl | rfl | rfl | rfl | rfl | rfl | rfl | rfl | rfl
  ·have hE:=headB_1 fi fg fn ff fa fb fs items.length
   have hL:=HHd.out
   rw [hE] at hL
   (try simp only [List.length_append,atomB_len,numB_len,strB_len,List.length_cons,List.length_nil] at hL)
   have HL:Hid _:=Lib.hid hL
   have HE:=Lib.hid hE
   clear hL hE
   have HC1:=Lib.hid (integer103 W1 fi)
   go_wp2_with fail
   refine HC1.out.mono ?_
   rintro e u1 ⟨v1,rfl,ho,hb⟩
   obtain ⟨p1,c1,hv,_,_⟩:=ho.shape
   generalize (intB fi).length = q1 at hv
   subst hv
   have HR1:=Lib.hid ho
   have HB1:=Lib.hid hb
   clear x0 x1 x2 x3 x4 x5 x6 x7 x8 xf ho hb
   go_wp2_with fail
   go_ret
   exact HRt.out _ (.slice p1 q1 c1) _ HE.out.symm (List.eq_nil_of_length_eq_zero (by simpa using HK4.out)) HB1.out (HR1.out)
  ·have hE:=headB_2 fi fg fn ff fa fb fs items.length
   have hL:=HHd.out
   rw [hE] at hL
   (try simp only [List.length_append,atomB_len,numB_len,strB_len,List.length_cons,List.length_nil] at hL)
   have HL:Hid _:=Lib.hid hL
   have HE:=Lib.hid hE
   clear hL hE
   have HC1:=Lib.hid (atom104 W1 fn (by have:=HL.out;omega))
   go_wp2_with fail
   refine HC1.out.mono ?_
   rintro e u1 ⟨v1,rfl,ho,hb⟩
   obtain ⟨p1,c1,hv,_,_⟩:=ho.shape
   generalize (atomB fn).length = q1 at hv
   subst hv
   have HR1:=Lib.hid ho
   have HB1:=Lib.hid hb
   clear x0 x1 x2 x3 x4 x5 x6 x7 x8 xf ho hb
   go_wp2_with fail
   go_ret
   exact HRt.out _ (.slice p1 q1 c1) _ HE.out.symm (List.eq_nil_of_length_eq_zero (by simpa using HK4.out)) HB1.out (HR1.out)
  ·have hE:=headB_7 fi fg fn ff fa fb fs items.length
   have hL:=HHd.out
   rw [hE] at hL
   (try simp only [List.length_append,atomB_len,numB_len,strB_len,List.length_cons,List.length_nil] at hL)
   have HL:Hid _:=Lib.hid hL
   have HE:=Lib.hid hE
   clear hL hE
   have hr:=own_new W1 [104,byteOf items.length] 2 W1.heap.size rfl HB0.out.size (by decide)
   have e:(([104,byteOf items.length]:List UInt8).flatMap encB).toArray = #[.int .u8 104,.int .u8 ((items.length:Int) % 256)]:=by rw [← byteOf_nat];rfl
   rw [e] at hr
   have HR1:=Lib.hid hr
   have HB1:=Lib.hid (belowA HB0.out (.cells #[.int .u8 104,.int .u8 ((items.length:Int) % 256)] 5) HB0.out.size)
   clear hr e
   go_wp2_with fail
   go_meet
   case rel =>
    refine Lib.hid ⟨?_,HB1.out⟩
    have h5:=HR1.out
    rw [HE.out]
    (try simp only [List.append_assoc] at h5)
    exact h5
  ·have hE:=headB_8 fi fg fn ff fa fb fs items.length
   have hL:=HHd.out
   rw [hE] at hL
   (try simp only [List.length_append,atomB_len,numB_len,strB_len,List.length_cons,List.length_nil] at hL)
   have HL:Hid _:=Lib.hid hL
   have HE:=Lib.hid hE
   clear hL hE
   have hr:=own_new W1 [106] 1 W1.heap.size rfl HB0.out.size (by decide)
   have e:(([106]:List UInt8).flatMap encB).toArray = #[.int .u8 106]:=by rfl
   rw [e] at hr
   have HR1:=Lib.hid hr
   have HB1:=Lib.hid (belowA HB0.out (.cells #[.int .u8 106] 5) HB0.out.size)
   clear hr e
   go_wp2_with fail
   go_ret
   exact HRt.out _ (.slice (some ⟨W1.heap.size,0,none⟩) 1 1) _ HE.out.symm (List.eq_nil_of_length_eq_zero (by simpa using HK4.out)) HB1.out (HR1.out)
  ·have hw9:IntKind.i64.wrap ((items.length:Int) - 1) = (items.length:Int) - 1:=IntWalk.i64_in _ (by have:=HLen.out;omega)
   have hE:=headB_9 fi fg fn ff fa fb fs items.length
   have hL:=HHd.out
   rw [hE] at hL
   (try simp only [List.length_append,atomB_len,numB_len,strB_len,List.length_cons,List.length_nil] at hL)
   have HL:Hid _:=Lib.hid hL
   have HE:=Lib.hid hE
   clear hL hE
   have hr:=own_new W1 [108] 1 W1.heap.size rfl HB0.out.size (by decide)
   have e:(([108]:List UInt8).flatMap encB).toArray = #[.int .u8 108]:=by rfl
   rw [e] at hr
   have HR1:=Lib.hid hr
   have HBa1:=Lib.hid (belowA HB0.out (.cells #[.int .u8 108] 5) HB0.out.size)
   clear hr e
   have HC1:=Lib.hid (number105 (W1.alloc (.cells #[.int .u8 108] 5)) ((items.length:Int) - 1) 4 (by decide))
   obtain ⟨y0,y1,y2,y3,y4,y5,y6,y7,y8,yf⟩:=HX.out _ HBa1.out
   dsimp only at y0 y1 y2 y3 y4 y5 y6 y7 y8
   go_wp2_with fail
   refine HC1.out.mono ?_
   rintro e u1 ⟨v1,rfl,ho,hb⟩
   obtain ⟨p1,c1,hv,_,_⟩:=ho.shape
   generalize (numB ((items.length:Int) - 1) 4).length = r1 at hv
   subst hv
   have HS1:=Lib.hid (ho.row (encB_ok _))
   have HRb1:=Lib.hid (HR1.out.below hb)
   have HBb1:=Lib.hid (HBa1.out.trans (hb.mono HBa1.out.size))
   have hz1:=HBb1.out.size
   clear x0 x1 x2 x3 x4 x5 x6 x7 x8 xf y0 y1 y2 y3 y4 y5 y6 y7 y8 yf ho hb
   go_wp2_with (first
    | (refine wpList_append_rec elB rfl (.tmp 29) (.tmp 34) rfl rfl HRb1.out hz1 rfl HS1.out (encB_ok _) (by have:=HL.out;(try simp only [List.length_append,atomB_len,numB_len,strB_len,List.length_cons,List.length_nil]);(try simp only [List.length_append,atomB_len,numB_len,strB_len,List.length_cons,List.length_nil] at this);omega) ?_;intro v' w1 hA;obtain ⟨ao1,cap1,hv,_,_⟩:=hA.own.shape;generalize (([108]) ++ (numB ((items.length:Int) - 1) 4)).length = q1 at hv;subst hv;have HA1:Hid (AppR encB 5 1 u1 W1.heap.size (.slice (some ⟨W1.heap.size,0,none⟩) 1 1) ([108]) (numB ((items.length:Int) - 1) 4) (.slice ao1 q1 cap1) w1):=Lib.hid hA;clear hA))
   have HB1:Hid (Below W1.heap.size W1 w1):=Lib.hid (HA1.out.belowB HBb1.out hz1 (fun k hk=>(HRb1.out.lt hk).1))
   obtain ⟨x0,x1,x2,x3,x4,x5,x6,x7,x8,xf⟩:=HX.out w1 HB1.out
   dsimp only at x0 x1 x2 x3 x4 x5 x6 x7 x8
   go_wp2_with fail
   go_meet
   case rel =>
    refine Lib.hid ⟨?_,HB1.out⟩
    have h5:=HA1.out.own
    rw [HE.out]
    (try simp only [List.append_assoc] at h5)
    exact h5
  ·by_cases h8:fs.tmod 8 = 0
   ·have hE:=headB_10 fi fg fn ff fa fb fs items.length h8
    have hL:=HHd.out
    rw [hE] at hL
    (try simp only [List.length_append,atomB_len,numB_len,strB_len,List.length_cons,List.length_nil] at hL)
    have HL:Hid _:=Lib.hid hL
    have HE:=Lib.hid hE
    clear hL hE
    have hr:=own_new W1 [109] 1 W1.heap.size rfl HB0.out.size (by decide)
    have e:(([109]:List UInt8).flatMap encB).toArray = #[.int .u8 109]:=by rfl
    rw [e] at hr
    have HR1:=Lib.hid hr
    have HBa1:=Lib.hid (belowA HB0.out (.cells #[.int .u8 109] 5) HB0.out.size)
    clear hr e
    have HC1:=Lib.hid (number105 (W1.alloc (.cells #[.int .u8 109] 5)) fb.size 4 (by decide))
    obtain ⟨y0,y1,y2,y3,y4,y5,y6,y7,y8,yf⟩:=HX.out _ HBa1.out
    dsimp only at y0 y1 y2 y3 y4 y5 y6 y7 y8
    go_wp2_with fail
    refine HC1.out.mono ?_
    rintro e u1 ⟨v1,rfl,ho,hb⟩
    obtain ⟨p1,c1,hv,_,_⟩:=ho.shape
    generalize (numB fb.size 4).length = r1 at hv
    subst hv
    have HS1:=Lib.hid (ho.row (encB_ok _))
    have HRb1:=Lib.hid (HR1.out.below hb)
    have HBb1:=Lib.hid (HBa1.out.trans (hb.mono HBa1.out.size))
    have hz1:=HBb1.out.size
    clear x0 x1 x2 x3 x4 x5 x6 x7 x8 xf y0 y1 y2 y3 y4 y5 y6 y7 y8 yf ho hb
    go_upto_region 18 with (first
     | (refine wpList_append_rec elB rfl (.tmp 42) (.tmp 46) rfl rfl HRb1.out hz1 rfl HS1.out (encB_ok _) (by have:=HL.out;(try simp only [List.length_append,atomB_len,numB_len,strB_len,List.length_cons,List.length_nil]);(try simp only [List.length_append,atomB_len,numB_len,strB_len,List.length_cons,List.length_nil] at this);omega) ?_;intro v' w1 hA;obtain ⟨ao1,cap1,hv,_,_⟩:=hA.own.shape;generalize (([109]) ++ (numB fb.size 4)).length = q1 at hv;subst hv;have HA1:Hid (AppR encB 5 1 u1 W1.heap.size (.slice (some ⟨W1.heap.size,0,none⟩) 1 1) ([109]) (numB fb.size 4) (.slice ao1 q1 cap1) w1):=Lib.hid hA;clear hA))
    have HB1:Hid (Below W1.heap.size W1 w1):=Lib.hid (HA1.out.belowB HBb1.out hz1 (fun k hk=>(HRb1.out.lt hk).1))
    obtain ⟨x0,x1,x2,x3,x4,x5,x6,x7,x8,xf⟩:=HX.out w1 HB1.out
    dsimp only at x0 x1 x2 x3 x4 x5 x6 x7 x8
    have HR2:=Lib.hid (HA1.out.own)
    have hz2:=HB1.out.size
    go_wp2_with (first
     | (refine wpList_append_str rfl (.tmp 61) (.tmp 63) rfl rfl HR2.out hz2 rfl (by have:=HL.out;(try simp only [List.length_append,atomB_len,numB_len,strB_len,List.length_cons,List.length_nil]);(try simp only [List.length_append,atomB_len,numB_len,strB_len,List.length_cons,List.length_nil] at this);omega) ?_;intro v' w2 hA;obtain ⟨ao2,cap2,hv,_,_⟩:=hA.own.shape;generalize (([109] ++ numB fb.size 4) ++ strB fb).length = q2 at hv;subst hv;have HA2:Hid (AppR encB 5 1 w1 W1.heap.size (.slice ao1 q1 cap1) ([109] ++ numB fb.size 4) (strB fb) (.slice ao2 q2 cap2) w2):=Lib.hid hA;clear hA))
    have HB2:Hid (Below W1.heap.size W1 w2):=Lib.hid (HA2.out.belowB HB1.out hz2 (fun k hk=>(HR2.out.lt hk).1))
    go_wp2_with fail
    go_ret
    exact HRt.out _ (.slice ao2 q2 cap2) _ (by rw [HE.out];simp only [List.append_assoc]) (List.eq_nil_of_length_eq_zero (by simpa using HK4.out)) HB2.out (HA2.out.own)
   ·have hE:=headB_10' fi fg fn ff fa fb fs items.length h8
    have hL:=HHd.out
    rw [hE] at hL
    (try simp only [List.length_append,atomB_len,numB_len,strB_len,List.length_cons,List.length_nil] at hL)
    have HL:Hid _:=Lib.hid hL
    have HE:=Lib.hid hE
    clear hL hE
    have hr:=own_new W1 [77] 1 W1.heap.size rfl HB0.out.size (by decide)
    have e:(([77]:List UInt8).flatMap encB).toArray = #[.int .u8 77]:=by rfl
    rw [e] at hr
    have HR1:=Lib.hid hr
    have HBa1:=Lib.hid (belowA HB0.out (.cells #[.int .u8 77] 5) HB0.out.size)
    clear hr e
    have HC1:=Lib.hid (number105 (W1.alloc (.cells #[.int .u8 77] 5)) fb.size 4 (by decide))
    obtain ⟨y0,y1,y2,y3,y4,y5,y6,y7,y8,yf⟩:=HX.out _ HBa1.out
    dsimp only at y0 y1 y2 y3 y4 y5 y6 y7 y8
    go_wp2_with fail
    refine HC1.out.mono ?_
    rintro e u1 ⟨v1,rfl,ho,hb⟩
    obtain ⟨p1,c1,hv,_,_⟩:=ho.shape
    generalize (numB fb.size 4).length = r1 at hv
    subst hv
    have HS1:=Lib.hid (ho.row (encB_ok _))
    have HRb1:=Lib.hid (HR1.out.below hb)
    have HBb1:=Lib.hid (HBa1.out.trans (hb.mono HBa1.out.size))
    have hz1:=HBb1.out.size
    clear x0 x1 x2 x3 x4 x5 x6 x7 x8 xf y0 y1 y2 y3 y4 y5 y6 y7 y8 yf ho hb
    go_upto_region 17 with (first
     | (refine wpList_append_rec elB rfl (.tmp 48) (.tmp 52) rfl rfl HRb1.out hz1 rfl HS1.out (encB_ok _) (by have:=HL.out;(try simp only [List.length_append,atomB_len,numB_len,strB_len,List.length_cons,List.length_nil]);(try simp only [List.length_append,atomB_len,numB_len,strB_len,List.length_cons,List.length_nil] at this);omega) ?_;intro v' w1 hA;obtain ⟨ao1,cap1,hv,_,_⟩:=hA.own.shape;generalize (([77]) ++ (numB fb.size 4)).length = q1 at hv;subst hv;have HA1:Hid (AppR encB 5 1 u1 W1.heap.size (.slice (some ⟨W1.heap.size,0,none⟩) 1 1) ([77]) (numB fb.size 4) (.slice ao1 q1 cap1) w1):=Lib.hid hA;clear hA))
    have HB1:Hid (Below W1.heap.size W1 w1):=Lib.hid (HA1.out.belowB HBb1.out hz1 (fun k hk=>(HRb1.out.lt hk).1))
    obtain ⟨x0,x1,x2,x3,x4,x5,x6,x7,x8,xf⟩:=HX.out w1 HB1.out
    dsimp only at x0 x1 x2 x3 x4 x5 x6 x7 x8
    have hrow:=row_new w1 [byteOf (fs.tmod 8)] 1 (Nat.le_refl _) (by decide)
    have e:(([byteOf (fs.tmod 8)]:List UInt8).flatMap encB).toArray = #[.int .u8 (fs.tmod 8 % 256)]:=by rw [← byteOf_nat];rfl
    rw [e] at hrow
    have HS2:=Lib.hid hrow
    have HRb2:=Lib.hid ((HA1.out.own).below (belowA (Below.refl w1.heap.size w1) (.cells #[.int .u8 (fs.tmod 8 % 256)] 5) (Nat.le_refl _)))
    have HBb2:=Lib.hid (belowA HB1.out (.cells #[.int .u8 (fs.tmod 8 % 256)] 5) HB1.out.size)
    have hz2:=HBb2.out.size
    clear hrow e
    go_upto_region 18 with (first
     | (refine wpList_append_rec elB rfl (.tmp 54) (.tmp 59) rfl rfl HRb2.out hz2 rfl HS2.out (encB_ok _) (by have:=HL.out;(try simp only [List.length_append,atomB_len,numB_len,strB_len,List.length_cons,List.length_nil]);(try simp only [List.length_append,atomB_len,numB_len,strB_len,List.length_cons,List.length_nil] at this);omega) ?_;intro v' w2 hA;obtain ⟨ao2,cap2,hv,_,_⟩:=hA.own.shape;generalize (([77] ++ numB fb.size 4) ++ ([byteOf (fs.tmod 8)])).length = q2 at hv;subst hv;have HA2:Hid (AppR encB 5 1 (w1.alloc (.cells #[.int .u8 (fs.tmod 8 % 256)] 5)) W1.heap.size (.slice ao1 q1 cap1) ([77] ++ numB fb.size 4) ([byteOf (fs.tmod 8)]) (.slice ao2 q2 cap2) w2):=Lib.hid hA;clear hA))
    have HB2:Hid (Below W1.heap.size W1 w2):=Lib.hid (HA2.out.belowB HBb2.out hz2 (fun k hk=>(HRb2.out.lt hk).1))
    clear x0 x1 x2 x3 x4 x5 x6 x7 x8 xf
    obtain ⟨x0,x1,x2,x3,x4,x5,x6,x7,x8,xf⟩:=HX.out w2 HB2.out
    dsimp only at x0 x1 x2 x3 x4 x5 x6 x7 x8
    have HR3:=Lib.hid (HA2.out.own)
    have hz3:=HB2.out.size
    go_wp2_with (first
     | (refine wpList_append_str rfl (.tmp 61) (.tmp 63) rfl rfl HR3.out hz3 rfl (by have:=HL.out;(try simp only [List.length_append,atomB_len,numB_len,strB_len,List.length_cons,List.length_nil]);(try simp only [List.length_append,atomB_len,numB_len,strB_len,List.length_cons,List.length_nil] at this);omega) ?_;intro v' w3 hA;obtain ⟨ao3,cap3,hv,_,_⟩:=hA.own.shape;generalize ((([77] ++ numB fb.size 4) ++ [byteOf (fs.tmod 8)]) ++ strB fb).length = q3 at hv;subst hv;have HA3:Hid (AppR encB 5 1 w2 W1.heap.size (.slice ao2 q2 cap2) (([77] ++ numB fb.size 4) ++ [byteOf (fs.tmod 8)]) (strB fb) (.slice ao3 q3 cap3) w3):=Lib.hid hA;clear hA))
    have HB3:Hid (Below W1.heap.size W1 w3):=Lib.hid (HA3.out.belowB HB2.out hz3 (fun k hk=>(HR3.out.lt hk).1))
    go_wp2_with fail
    go_ret
    exact HRt.out _ (.slice ao3 q3 cap3) _ (by rw [HE.out];simp only [List.append_assoc]) (List.eq_nil_of_length_eq_zero (by simpa using HK4.out)) HB3.out (HA3.out.own)
  ·have hE:=headB_6 fi fg fn ff fa fb fs items.length
   have hL:=HHd.out
   rw [hE] at hL
   (try simp only [List.length_append,atomB_len,numB_len,strB_len,List.length_cons,List.length_nil] at hL)
   have HL:Hid _:=Lib.hid hL
   have HE:=Lib.hid hE
   clear hL hE
   have hr:=own_new W1 [88] 1 W1.heap.size rfl HB0.out.size (by decide)
   have e:(([88]:List UInt8).flatMap encB).toArray = #[.int .u8 88]:=by rfl
   rw [e] at hr
   have HR1:=Lib.hid hr
   have HBa1:=Lib.hid (belowA HB0.out (.cells #[.int .u8 88] 5) HB0.out.size)
   clear hr e
   have HC1:=Lib.hid (atom104 (W1.alloc (.cells #[.int .u8 88] 5)) fn (by have:=HL.out;omega))
   obtain ⟨y0,y1,y2,y3,y4,y5,y6,y7,y8,yf⟩:=HX.out _ HBa1.out
   dsimp only at y0 y1 y2 y3 y4 y5 y6 y7 y8
   go_wp2_with fail
   refine HC1.out.mono ?_
   rintro e u1 ⟨v1,rfl,ho,hb⟩
   obtain ⟨p1,c1,hv,_,_⟩:=ho.shape
   generalize (atomB fn).length = r1 at hv
   subst hv
   have HS1:=Lib.hid (ho.row (encB_ok _))
   have HRb1:=Lib.hid (HR1.out.below hb)
   have HBb1:=Lib.hid (HBa1.out.trans (hb.mono HBa1.out.size))
   have hz1:=HBb1.out.size
   clear x0 x1 x2 x3 x4 x5 x6 x7 x8 xf y0 y1 y2 y3 y4 y5 y6 y7 y8 yf ho hb
   go_upto_region 21 with (first
    | (refine wpList_append_rec elB rfl (.tmp 67) (.tmp 70) rfl rfl HRb1.out hz1 rfl HS1.out (encB_ok _) (by have:=HL.out;(try simp only [List.length_append,atomB_len,numB_len,strB_len,List.length_cons,List.length_nil]);(try simp only [List.length_append,atomB_len,numB_len,strB_len,List.length_cons,List.length_nil] at this);omega) ?_;intro v' w1 hA;obtain ⟨ao1,cap1,hv,_,_⟩:=hA.own.shape;generalize (([88]) ++ (atomB fn)).length = q1 at hv;subst hv;have HA1:Hid (AppR encB 5 1 u1 W1.heap.size (.slice (some ⟨W1.heap.size,0,none⟩) 1 1) ([88]) (atomB fn) (.slice ao1 q1 cap1) w1):=Lib.hid hA;clear hA))
   have HB1:Hid (Below W1.heap.size W1 w1):=Lib.hid (HA1.out.belowB HBb1.out hz1 (fun k hk=>(HRb1.out.lt hk).1))
   obtain ⟨x0,x1,x2,x3,x4,x5,x6,x7,x8,xf⟩:=HX.out w1 HB1.out
   dsimp only at x0 x1 x2 x3 x4 x5 x6 x7 x8
   have HC2:=Lib.hid (number105 w1 fi 4 (by decide))
   have HR2:=Lib.hid (HA1.out.own)
   go_wp2_with fail
   refine HC2.out.mono ?_
   rintro e u2 ⟨v2,rfl,ho,hb⟩
   obtain ⟨p2,c2,hv,_,_⟩:=ho.shape
   generalize (numB fi 4).length = r2 at hv
   subst hv
   have HS2:=Lib.hid (ho.row (encB_ok _))
   have HRb2:=Lib.hid (HR2.out.below hb)
   have HBb2:=Lib.hid (HB1.out.trans (hb.mono HB1.out.size))
   have hz2:=HBb2.out.size
   clear x0 x1 x2 x3 x4 x5 x6 x7 x8 xf ho hb
   go_upto_region 22 with (first
    | (refine wpList_append_rec elB rfl (.tmp 72) (.tmp 75) rfl rfl HRb2.out hz2 rfl HS2.out (encB_ok _) (by have:=HL.out;(try simp only [List.length_append,atomB_len,numB_len,strB_len,List.length_cons,List.length_nil]);(try simp only [List.length_append,atomB_len,numB_len,strB_len,List.length_cons,List.length_nil] at this);omega) ?_;intro v' w2 hA;obtain ⟨ao2,cap2,hv,_,_⟩:=hA.own.shape;generalize (([88] ++ atomB fn) ++ (numB fi 4)).length = q2 at hv;subst hv;have HA2:Hid (AppR encB 5 1 u2 W1.heap.size (.slice ao1 q1 cap1) ([88] ++ atomB fn) (numB fi 4) (.slice ao2 q2 cap2) w2):=Lib.hid hA;clear hA))
   have HB2:Hid (Below W1.heap.size W1 w2):=Lib.hid (HA2.out.belowB HBb2.out hz2 (fun k hk=>(HRb2.out.lt hk).1))
   obtain ⟨x0,x1,x2,x3,x4,x5,x6,x7,x8,xf⟩:=HX.out w2 HB2.out
   dsimp only at x0 x1 x2 x3 x4 x5 x6 x7 x8
   have hrow:=row_new w2 (numB 0 4) 4 (Nat.le_refl _) (by decide)
   have e:(((numB 0 4):List UInt8).flatMap encB).toArray = #[.int .u8 0,.int .u8 0,.int .u8 0,.int .u8 0]:=by rfl
   rw [e] at hrow
   have HS3:=Lib.hid hrow
   have HRb3:=Lib.hid ((HA2.out.own).below (belowA (Below.refl w2.heap.size w2) (.cells #[.int .u8 0,.int .u8 0,.int .u8 0,.int .u8 0] 5) (Nat.le_refl _)))
   have HBb3:=Lib.hid (belowA HB2.out (.cells #[.int .u8 0,.int .u8 0,.int .u8 0,.int .u8 0] 5) HB2.out.size)
   have hz3:=HBb3.out.size
   clear hrow e
   go_upto_region 23 with (first
    | (refine wpList_append_rec elB rfl (.tmp 77) (.tmp 78) rfl rfl HRb3.out hz3 rfl HS3.out (encB_ok _) (by have:=HL.out;(try simp only [List.length_append,atomB_len,numB_len,strB_len,List.length_cons,List.length_nil]);(try simp only [List.length_append,atomB_len,numB_len,strB_len,List.length_cons,List.length_nil] at this);omega) ?_;intro v' w3 hA;obtain ⟨ao3,cap3,hv,_,_⟩:=hA.own.shape;generalize ((([88] ++ atomB fn) ++ numB fi 4) ++ ((numB 0 4))).length = q3 at hv;subst hv;have HA3:Hid (AppR encB 5 1 (w2.alloc (.cells #[.int .u8 0,.int .u8 0,.int .u8 0,.int .u8 0] 5)) W1.heap.size (.slice ao2 q2 cap2) (([88] ++ atomB fn) ++ numB fi 4) ((numB 0 4)) (.slice ao3 q3 cap3) w3):=Lib.hid hA;clear hA))
   have HB3:Hid (Below W1.heap.size W1 w3):=Lib.hid (HA3.out.belowB HBb3.out hz3 (fun k hk=>(HRb3.out.lt hk).1))
   clear x0 x1 x2 x3 x4 x5 x6 x7 x8 xf
   obtain ⟨x0,x1,x2,x3,x4,x5,x6,x7,x8,xf⟩:=HX.out w3 HB3.out
   dsimp only at x0 x1 x2 x3 x4 x5 x6 x7 x8
   have HC4:=Lib.hid (number105 w3 fg 4 (by decide))
   have HR4:=Lib.hid (HA3.out.own)
   go_wp2_with fail
   refine HC4.out.mono ?_
   rintro e u4 ⟨v4,rfl,ho,hb⟩
   obtain ⟨p4,c4,hv,_,_⟩:=ho.shape
   generalize (numB fg 4).length = r4 at hv
   subst hv
   have HS4:=Lib.hid (ho.row (encB_ok _))
   have HRb4:=Lib.hid (HR4.out.below hb)
   have HBb4:=Lib.hid (HB3.out.trans (hb.mono HB3.out.size))
   have hz4:=HBb4.out.size
   clear x0 x1 x2 x3 x4 x5 x6 x7 x8 xf ho hb
   go_wp2_with (first
    | (refine wpList_append_rec elB rfl (.tmp 80) (.tmp 83) rfl rfl HRb4.out hz4 rfl HS4.out (encB_ok _) (by have:=HL.out;(try simp only [List.length_append,atomB_len,numB_len,strB_len,List.length_cons,List.length_nil]);(try simp only [List.length_append,atomB_len,numB_len,strB_len,List.length_cons,List.length_nil] at this);omega) ?_;intro v' w4 hA;obtain ⟨ao4,cap4,hv,_,_⟩:=hA.own.shape;generalize (((([88] ++ atomB fn) ++ numB fi 4) ++ (numB 0 4)) ++ (numB fg 4)).length = q4 at hv;subst hv;have HA4:Hid (AppR encB 5 1 u4 W1.heap.size (.slice ao3 q3 cap3) ((([88] ++ atomB fn) ++ numB fi 4) ++ (numB 0 4)) (numB fg 4) (.slice ao4 q4 cap4) w4):=Lib.hid hA;clear hA))
   have HB4:Hid (Below W1.heap.size W1 w4):=Lib.hid (HA4.out.belowB HBb4.out hz4 (fun k hk=>(HRb4.out.lt hk).1))
   obtain ⟨x0,x1,x2,x3,x4,x5,x6,x7,x8,xf⟩:=HX.out w4 HB4.out
   dsimp only at x0 x1 x2 x3 x4 x5 x6 x7 x8
   go_wp2_with fail
   go_ret
   exact HRt.out _ (.slice ao4 q4 cap4) _ (by rw [HE.out];simp only [List.append_assoc]) (List.eq_nil_of_length_eq_zero (by simpa using HK4.out)) HB4.out (HA4.out.own)
  ·have hE:=headB_3 fi fg fn ff fa fb fs items.length
   have hL:=HHd.out
   rw [hE] at hL
   (try simp only [List.length_append,atomB_len,numB_len,strB_len,List.length_cons,List.length_nil] at hL)
   have HL:Hid _:=Lib.hid hL
   have HE:=Lib.hid hE
   clear hL hE
   have hr:=own_new W1 [90,0,1] 3 W1.heap.size rfl HB0.out.size (by decide)
   have e:(([90,0,1]:List UInt8).flatMap encB).toArray = #[.int .u8 90,.int .u8 0,.int .u8 1]:=by rfl
   rw [e] at hr
   have HR1:=Lib.hid hr
   have HBa1:=Lib.hid (belowA HB0.out (.cells #[.int .u8 90,.int .u8 0,.int .u8 1] 5) HB0.out.size)
   clear hr e
   have HC1:=Lib.hid (atom104 (W1.alloc (.cells #[.int .u8 90,.int .u8 0,.int .u8 1] 5)) fn (by have:=HL.out;omega))
   obtain ⟨y0,y1,y2,y3,y4,y5,y6,y7,y8,yf⟩:=HX.out _ HBa1.out
   dsimp only at y0 y1 y2 y3 y4 y5 y6 y7 y8
   go_wp2_with fail
   refine HC1.out.mono ?_
   rintro e u1 ⟨v1,rfl,ho,hb⟩
   obtain ⟨p1,c1,hv,_,_⟩:=ho.shape
   generalize (atomB fn).length = r1 at hv
   subst hv
   have HS1:=Lib.hid (ho.row (encB_ok _))
   have HRb1:=Lib.hid (HR1.out.below hb)
   have HBb1:=Lib.hid (HBa1.out.trans (hb.mono HBa1.out.size))
   have hz1:=HBb1.out.size
   clear x0 x1 x2 x3 x4 x5 x6 x7 x8 xf y0 y1 y2 y3 y4 y5 y6 y7 y8 yf ho hb
   go_upto_region 26 with (first
    | (refine wpList_append_rec elB rfl (.tmp 87) (.tmp 90) rfl rfl HRb1.out hz1 rfl HS1.out (encB_ok _) (by have:=HL.out;(try simp only [List.length_append,atomB_len,numB_len,strB_len,List.length_cons,List.length_nil]);(try simp only [List.length_append,atomB_len,numB_len,strB_len,List.length_cons,List.length_nil] at this);omega) ?_;intro v' w1 hA;obtain ⟨ao1,cap1,hv,_,_⟩:=hA.own.shape;generalize (([90,0,1]) ++ (atomB fn)).length = q1 at hv;subst hv;have HA1:Hid (AppR encB 5 1 u1 W1.heap.size (.slice (some ⟨W1.heap.size,0,none⟩) 3 3) ([90,0,1]) (atomB fn) (.slice ao1 q1 cap1) w1):=Lib.hid hA;clear hA))
   have HB1:Hid (Below W1.heap.size W1 w1):=Lib.hid (HA1.out.belowB HBb1.out hz1 (fun k hk=>(HRb1.out.lt hk).1))
   obtain ⟨x0,x1,x2,x3,x4,x5,x6,x7,x8,xf⟩:=HX.out w1 HB1.out
   dsimp only at x0 x1 x2 x3 x4 x5 x6 x7 x8
   have HC2:=Lib.hid (number105 w1 fg 4 (by decide))
   have HR2:=Lib.hid (HA1.out.own)
   go_wp2_with fail
   refine HC2.out.mono ?_
   rintro e u2 ⟨v2,rfl,ho,hb⟩
   obtain ⟨p2,c2,hv,_,_⟩:=ho.shape
   generalize (numB fg 4).length = r2 at hv
   subst hv
   have HS2:=Lib.hid (ho.row (encB_ok _))
   have HRb2:=Lib.hid (HR2.out.below hb)
   have HBb2:=Lib.hid (HB1.out.trans (hb.mono HB1.out.size))
   have hz2:=HBb2.out.size
   clear x0 x1 x2 x3 x4 x5 x6 x7 x8 xf ho hb
   go_upto_region 27 with (first
    | (refine wpList_append_rec elB rfl (.tmp 92) (.tmp 95) rfl rfl HRb2.out hz2 rfl HS2.out (encB_ok _) (by have:=HL.out;(try simp only [List.length_append,atomB_len,numB_len,strB_len,List.length_cons,List.length_nil]);(try simp only [List.length_append,atomB_len,numB_len,strB_len,List.length_cons,List.length_nil] at this);omega) ?_;intro v' w2 hA;obtain ⟨ao2,cap2,hv,_,_⟩:=hA.own.shape;generalize (([90,0,1] ++ atomB fn) ++ (numB fg 4)).length = q2 at hv;subst hv;have HA2:Hid (AppR encB 5 1 u2 W1.heap.size (.slice ao1 q1 cap1) ([90,0,1] ++ atomB fn) (numB fg 4) (.slice ao2 q2 cap2) w2):=Lib.hid hA;clear hA))
   have HB2:Hid (Below W1.heap.size W1 w2):=Lib.hid (HA2.out.belowB HBb2.out hz2 (fun k hk=>(HRb2.out.lt hk).1))
   obtain ⟨x0,x1,x2,x3,x4,x5,x6,x7,x8,xf⟩:=HX.out w2 HB2.out
   dsimp only at x0 x1 x2 x3 x4 x5 x6 x7 x8
   have HC3:=Lib.hid (number105 w2 fi 4 (by decide))
   have HR3:=Lib.hid (HA2.out.own)
   go_wp2_with fail
   refine HC3.out.mono ?_
   rintro e u3 ⟨v3,rfl,ho,hb⟩
   obtain ⟨p3,c3,hv,_,_⟩:=ho.shape
   generalize (numB fi 4).length = r3 at hv
   subst hv
   have HS3:=Lib.hid (ho.row (encB_ok _))
   have HRb3:=Lib.hid (HR3.out.below hb)
   have HBb3:=Lib.hid (HB2.out.trans (hb.mono HB2.out.size))
   have hz3:=HBb3.out.size
   clear x0 x1 x2 x3 x4 x5 x6 x7 x8 xf ho hb
   go_wp2_with (first
    | (refine wpList_append_rec elB rfl (.tmp 97) (.tmp 100) rfl rfl HRb3.out hz3 rfl HS3.out (encB_ok _) (by have:=HL.out;(try simp only [List.length_append,atomB_len,numB_len,strB_len,List.length_cons,List.length_nil]);(try simp only [List.length_append,atomB_len,numB_len,strB_len,List.length_cons,List.length_nil] at this);omega) ?_;intro v' w3 hA;obtain ⟨ao3,cap3,hv,_,_⟩:=hA.own.shape;generalize ((([90,0,1] ++ atomB fn) ++ numB fg 4) ++ (numB fi 4)).length = q3 at hv;subst hv;have HA3:Hid (AppR encB 5 1 u3 W1.heap.size (.slice ao2 q2 cap2) (([90,0,1] ++ atomB fn) ++ numB fg 4) (numB fi 4) (.slice ao3 q3 cap3) w3):=Lib.hid hA;clear hA))
   have HB3:Hid (Below W1.heap.size W1 w3):=Lib.hid (HA3.out.belowB HBb3.out hz3 (fun k hk=>(HRb3.out.lt hk).1))
   obtain ⟨x0,x1,x2,x3,x4,x5,x6,x7,x8,xf⟩:=HX.out w3 HB3.out
   dsimp only at x0 x1 x2 x3 x4 x5 x6 x7 x8
   go_wp2_with fail
   go_ret
   exact HRt.out _ (.slice ao3 q3 cap3) _ (by rw [HE.out];simp only [List.append_assoc]) (List.eq_nil_of_length_eq_zero (by simpa using HK4.out)) HB3.out (HA3.out.own)
  ·have hE:=headB_5 fi fg fn ff fa fb fs items.length
   have hL:=HHd.out
   rw [hE] at hL
   (try simp only [List.length_append,atomB_len,numB_len,strB_len,List.length_cons,List.length_nil] at hL)
   have HL:Hid _:=Lib.hid hL
   have HE:=Lib.hid hE
   clear hL hE
   have hr:=own_new W1 [113] 1 W1.heap.size rfl HB0.out.size (by decide)
   have e:(([113]:List UInt8).flatMap encB).toArray = #[.int .u8 113]:=by rfl
   rw [e] at hr
   have HR1:=Lib.hid hr
   have HBa1:=Lib.hid (belowA HB0.out (.cells #[.int .u8 113] 5) HB0.out.size)
   clear hr e
   have HC1:=Lib.hid (atom104 (W1.alloc (.cells #[.int .u8 113] 5)) fn (by have:=HL.out;omega))
   obtain ⟨y0,y1,y2,y3,y4,y5,y6,y7,y8,yf⟩:=HX.out _ HBa1.out
   dsimp only at y0 y1 y2 y3 y4 y5 y6 y7 y8
   go_wp2_with fail
   refine HC1.out.mono ?_
   rintro e u1 ⟨v1,rfl,ho,hb⟩
   obtain ⟨p1,c1,hv,_,_⟩:=ho.shape
   generalize (atomB fn).length = r1 at hv
   subst hv
   have HS1:=Lib.hid (ho.row (encB_ok _))
   have HRb1:=Lib.hid (HR1.out.below hb)
   have HBb1:=Lib.hid (HBa1.out.trans (hb.mono HBa1.out.size))
   have hz1:=HBb1.out.size
   clear x0 x1 x2 x3 x4 x5 x6 x7 x8 xf y0 y1 y2 y3 y4 y5 y6 y7 y8 yf ho hb
   go_upto_region 30 with (first
    | (refine wpList_append_rec elB rfl (.tmp 104) (.tmp 107) rfl rfl HRb1.out hz1 rfl HS1.out (encB_ok _) (by have:=HL.out;(try simp only [List.length_append,atomB_len,numB_len,strB_len,List.length_cons,List.length_nil]);(try simp only [List.length_append,atomB_len,numB_len,strB_len,List.length_cons,List.length_nil] at this);omega) ?_;intro v' w1 hA;obtain ⟨ao1,cap1,hv,_,_⟩:=hA.own.shape;generalize (([113]) ++ (atomB fn)).length = q1 at hv;subst hv;have HA1:Hid (AppR encB 5 1 u1 W1.heap.size (.slice (some ⟨W1.heap.size,0,none⟩) 1 1) ([113]) (atomB fn) (.slice ao1 q1 cap1) w1):=Lib.hid hA;clear hA))
   have HB1:Hid (Below W1.heap.size W1 w1):=Lib.hid (HA1.out.belowB HBb1.out hz1 (fun k hk=>(HRb1.out.lt hk).1))
   obtain ⟨x0,x1,x2,x3,x4,x5,x6,x7,x8,xf⟩:=HX.out w1 HB1.out
   dsimp only at x0 x1 x2 x3 x4 x5 x6 x7 x8
   have HC2:=Lib.hid (atom104 w1 ff (by have:=HL.out;omega))
   have HR2:=Lib.hid (HA1.out.own)
   go_wp2_with fail
   refine HC2.out.mono ?_
   rintro e u2 ⟨v2,rfl,ho,hb⟩
   obtain ⟨p2,c2,hv,_,_⟩:=ho.shape
   generalize (atomB ff).length = r2 at hv
   subst hv
   have HS2:=Lib.hid (ho.row (encB_ok _))
   have HRb2:=Lib.hid (HR2.out.below hb)
   have HBb2:=Lib.hid (HB1.out.trans (hb.mono HB1.out.size))
   have hz2:=HBb2.out.size
   clear x0 x1 x2 x3 x4 x5 x6 x7 x8 xf ho hb
   go_upto_region 31 with (first
    | (refine wpList_append_rec elB rfl (.tmp 109) (.tmp 112) rfl rfl HRb2.out hz2 rfl HS2.out (encB_ok _) (by have:=HL.out;(try simp only [List.length_append,atomB_len,numB_len,strB_len,List.length_cons,List.length_nil]);(try simp only [List.length_append,atomB_len,numB_len,strB_len,List.length_cons,List.length_nil] at this);omega) ?_;intro v' w2 hA;obtain ⟨ao2,cap2,hv,_,_⟩:=hA.own.shape;generalize (([113] ++ atomB fn) ++ (atomB ff)).length = q2 at hv;subst hv;have HA2:Hid (AppR encB 5 1 u2 W1.heap.size (.slice ao1 q1 cap1) ([113] ++ atomB fn) (atomB ff) (.slice ao2 q2 cap2) w2):=Lib.hid hA;clear hA))
   have HB2:Hid (Below W1.heap.size W1 w2):=Lib.hid (HA2.out.belowB HBb2.out hz2 (fun k hk=>(HRb2.out.lt hk).1))
   obtain ⟨x0,x1,x2,x3,x4,x5,x6,x7,x8,xf⟩:=HX.out w2 HB2.out
   dsimp only at x0 x1 x2 x3 x4 x5 x6 x7 x8
   have HC3:=Lib.hid (integer103 w2 fa)
   have HR3:=Lib.hid (HA2.out.own)
   go_wp2_with fail
   refine HC3.out.mono ?_
   rintro e u3 ⟨v3,rfl,ho,hb⟩
   obtain ⟨p3,c3,hv,_,_⟩:=ho.shape
   generalize (intB fa).length = r3 at hv
   subst hv
   have HS3:=Lib.hid (ho.row (encB_ok _))
   have HRb3:=Lib.hid (HR3.out.below hb)
   have HBb3:=Lib.hid (HB2.out.trans (hb.mono HB2.out.size))
   have hz3:=HBb3.out.size
   clear x0 x1 x2 x3 x4 x5 x6 x7 x8 xf ho hb
   go_wp2_with (first
    | (refine wpList_append_rec elB rfl (.tmp 114) (.tmp 117) rfl rfl HRb3.out hz3 rfl HS3.out (encB_ok _) (by have:=HL.out;(try simp only [List.length_append,atomB_len,numB_len,strB_len,List.length_cons,List.length_nil]);(try simp only [List.length_append,atomB_len,numB_len,strB_len,List.length_cons,List.length_nil] at this);omega) ?_;intro v' w3 hA;obtain ⟨ao3,cap3,hv,_,_⟩:=hA.own.shape;generalize ((([113] ++ atomB fn) ++ atomB ff) ++ (intB fa)).length = q3 at hv;subst hv;have HA3:Hid (AppR encB 5 1 u3 W1.heap.size (.slice ao2 q2 cap2) (([113] ++ atomB fn) ++ atomB ff) (intB fa) (.slice ao3 q3 cap3) w3):=Lib.hid hA;clear hA))
   have HB3:Hid (Below W1.heap.size W1 w3):=Lib.hid (HA3.out.belowB HBb3.out hz3 (fun k hk=>(HRb3.out.lt hk).1))
   obtain ⟨x0,x1,x2,x3,x4,x5,x6,x7,x8,xf⟩:=HX.out w3 HB3.out
   dsimp only at x0 x1 x2 x3 x4 x5 x6 x7 x8
   go_wp2_with fail
   go_ret
   exact HRt.out _ (.slice ao3 q3 cap3) _ (by rw [HE.out];simp only [List.append_assoc]) (List.eq_nil_of_length_eq_zero (by simpa using HK4.out)) HB3.out (HA3.out.own)
  ·have hE:=headB_4 fi fg fn ff fa fb fs items.length
   have hL:=HHd.out
   rw [hE] at hL
   (try simp only [List.length_append,atomB_len,numB_len,strB_len,List.length_cons,List.length_nil] at hL)
   have HL:Hid _:=Lib.hid hL
   have HE:=Lib.hid hE
   clear hL hE
   go_upto_region 33 with (fail)
   go_cut [3] from 121 (fun v wc=>Hid (HeadR ([112,byteOf fa] ++ numB fi 2) W1 v wc))
   case first =>
    have HC:Hid (∀ W,Calls Tryz.prog 105 #[.int .i64 fi,.int .i64 2] W (OwnQ (numB fi 2) W)):=Lib.hid (fun W=>number105 W fi 2 (by decide))
    have e:([112,byteOf fa].flatMap encB).toArray = #[.int .u8 112,.int .u8 (IntKind.u8.wrap fa)]:=by rw [wrap8];rfl
    have hru:=fun (W:World) (hW:Below W1.heap.size W1 W)=>own_new W [112,byteOf fa] 2 W1.heap.size rfl hW.size (by decide)
    rw [e] at hru
    have HRu:=Lib.hid hru
    clear e hru
    have hbd:=belowD (Below.refl W1.heap.size W1)
    have HD:=Lib.hid hbd
    have HDA:Hid (Below W1.heap.size W1 (W1.alloc (.cells #[.int .u8 112,.int .u8 (IntKind.u8.wrap fa)] 5)).drew):=Lib.hid (belowD (belowA (Below.refl W1.heap.size W1) (.cells #[.int .u8 112,.int .u8 (IntKind.u8.wrap fa)] 5) (Nat.le_refl _)))
    have HRA:Hid (RecOwn encB 5 1 (W1.alloc (.cells #[.int .u8 112,.int .u8 (IntKind.u8.wrap fa)] 5)).drew W1.heap.size (.slice (some ⟨W1.heap.size,0,none⟩) 2 2) [112,byteOf fa]):=Lib.hid ((HRu.out W1 (Below.refl _ _)).below (belowD (Below.refl _ _)))
    obtain ⟨y0,y1,y2,y3,y4,y5,y6,y7,y8,yf⟩:=HX.out _ hbd
    dsimp only at y0 y1 y2 y3 y4 y5 y6 y7 y8
    go_region_held3 (fun w'=>w'.cell? ⟨z,5,none⟩ = some (.int .i64 fa)∧w'.cell? ⟨z,1,none⟩ = some (.int .i64 fi)) (go_keep)
     (first
       | (go_at_call 105;(with_reducible refine (HC.out (W1.alloc (.cells #[.int .u8 112,.int .u8 (IntKind.u8.wrap fa)] 5)).drew).mono ?_);rintro e u1 ⟨v1,rfl,ho,hb⟩;have hu:=HDA.out.trans (hb.mono HDA.out.size);have hown:=HRA.out.below hb;obtain ⟨x0,x1,x2,x3,x4,x5,x6,x7,x8,xf⟩:=HX.out u1 hu;dsimp only at x0 x1 x2 x3 x4 x5 x6 x7 x8;obtain ⟨p1,c1,hv,_,_⟩:=ho.shape;generalize (numB fi 2).length = r1 at hv;subst hv;have hsrc:=ho.row (encB_ok _))
       | (go_at_call 105;(with_reducible refine (HC.out W1.drew).mono ?_);rintro e u1 ⟨v1,rfl,ho,hb⟩;have hu0:=HD.out.trans (hb.mono HD.out.size);obtain ⟨x0,x1,x2,x3,x4,x5,x6,x7,x8,xf⟩:=HX.out u1 hu0;dsimp only at x0 x1 x2 x3 x4 x5 x6 x7 x8;obtain ⟨p1,c1,hv,_,_⟩:=ho.shape;generalize (numB fi 2).length = r1 at hv;subst hv;have hown:=HRu.out u1 hu0;have hu:=belowA hu0 (.cells #[.int .u8 112,.int .u8 (IntKind.u8.wrap fa)] 5) hu0.size;have hsrc:=(ho.below (belowA (Below.refl u1.heap.size u1) (.cells #[.int .u8 112,.int .u8 (IntKind.u8.wrap fa)] 5) (Nat.le_refl _))).row (encB_ok _))
       | (refine step_append_rec elB rfl (.tmp 124) (.tmp 127) rfl rfl hown hu.size rfl hsrc (encB_ok _) (by simp [numB_len]) ?_;intro v' w8 hA;have hb8:=hA.belowB hu hu.size (fun k hk=>(hown.lt hk).1);have ho8:=hA.own;obtain ⟨ao',cap',hv',_,_⟩:=hA.own.shape;generalize ([112,byteOf fa] ++ numB fi 2).length = r2 at hv';subst hv';obtain ⟨x0,x1,x2,x3,x4,x5,x6,x7,x8,xf⟩:=HX.out w8 hb8;dsimp only at x0 x1 x2 x3 x4 x5 x6 x7 x8)
       | fail)
    all_goals
     (try go_wp2_with fail)
     go_meet
     exact Lib.hid ⟨ho8,hb8⟩
   case rest =>
    obtain ⟨hr3,HB1q⟩:=hcut.out
    clear hcut x0 x1 x2 x3 x4 x5 x6 x7 x8 xf
    obtain ⟨ao1,cap1,hv,_,_⟩:=hr3.shape
    generalize ([112,byteOf fa] ++ numB fi 2).length = q1 at hv
    subst hv
    have HO1:=Lib.hid hr3
    have HBq:=Lib.hid HB1q
    clear hr3 HB1q
    generalize wc = w1 at *
    obtain ⟨x0,x1,x2,x3,x4,x5,x6,x7,x8,xf⟩:=HX.out w1 HBq.out
    dsimp only at x0 x1 x2 x3 x4 x5 x6 x7 x8
    have HB1:=Lib.hid HBq.out
    have hrow:=row_new w1 [byteOf items.length] 1 (Nat.le_refl _) (by decide)
    have e:(([byteOf items.length]:List UInt8).flatMap encB).toArray = #[.int .u8 ((items.length:Int) % 256)]:=by rw [← byteOf_nat];rfl
    rw [e] at hrow
    have HS2:=Lib.hid hrow
    have HRb2:=Lib.hid ((HO1.out).below (belowA (Below.refl w1.heap.size w1) (.cells #[.int .u8 ((items.length:Int) % 256)] 5) (Nat.le_refl _)))
    have HBb2:=Lib.hid (belowA HB1.out (.cells #[.int .u8 ((items.length:Int) % 256)] 5) HB1.out.size)
    have hz2:=HBb2.out.size
    clear hrow e
    go_upto_region 35 with (first
     | (refine wpList_append_rec elB rfl (.tmp 129) (.tmp 134) rfl rfl HRb2.out hz2 rfl HS2.out (encB_ok _) (by have:=HL.out;(try simp only [List.length_append,atomB_len,numB_len,strB_len,List.length_cons,List.length_nil]);(try simp only [List.length_append,atomB_len,numB_len,strB_len,List.length_cons,List.length_nil] at this);omega) ?_;intro v' w2 hA;obtain ⟨ao2,cap2,hv,_,_⟩:=hA.own.shape;generalize (([112,byteOf fa] ++ numB fi 2) ++ ([byteOf items.length])).length = q2 at hv;subst hv;have HA2:Hid (AppR encB 5 1 (w1.alloc (.cells #[.int .u8 ((items.length:Int) % 256)] 5)) W1.heap.size (.slice ao1 q1 cap1) ([112,byteOf fa] ++ numB fi 2) ([byteOf items.length]) (.slice ao2 q2 cap2) w2):=Lib.hid hA;clear hA))
    have HB2:Hid (Below W1.heap.size W1 w2):=Lib.hid (HA2.out.belowB HBb2.out hz2 (fun k hk=>(HRb2.out.lt hk).1))
    clear x0 x1 x2 x3 x4 x5 x6 x7 x8 xf
    obtain ⟨x0,x1,x2,x3,x4,x5,x6,x7,x8,xf⟩:=HX.out w2 HB2.out
    dsimp only at x0 x1 x2 x3 x4 x5 x6 x7 x8
    have HC3:=Lib.hid (atom104 w2 fn (by have:=HL.out;omega))
    have HR3:=Lib.hid (HA2.out.own)
    go_wp2_with fail
    refine HC3.out.mono ?_
    rintro e u3 ⟨v3,rfl,ho,hb⟩
    obtain ⟨p3,c3,hv,_,_⟩:=ho.shape
    generalize (atomB fn).length = r3 at hv
    subst hv
    have HS3:=Lib.hid (ho.row (encB_ok _))
    have HRb3:=Lib.hid (HR3.out.below hb)
    have HBb3:=Lib.hid (HB2.out.trans (hb.mono HB2.out.size))
    have hz3:=HBb3.out.size
    clear x0 x1 x2 x3 x4 x5 x6 x7 x8 xf ho hb
    go_upto_region 36 with (first
     | (refine wpList_append_rec elB rfl (.tmp 136) (.tmp 139) rfl rfl HRb3.out hz3 rfl HS3.out (encB_ok _) (by have:=HL.out;(try simp only [List.length_append,atomB_len,numB_len,strB_len,List.length_cons,List.length_nil]);(try simp only [List.length_append,atomB_len,numB_len,strB_len,List.length_cons,List.length_nil] at this);omega) ?_;intro v' w3 hA;obtain ⟨ao3,cap3,hv,_,_⟩:=hA.own.shape;generalize ((([112,byteOf fa] ++ numB fi 2) ++ [byteOf items.length]) ++ (atomB fn)).length = q3 at hv;subst hv;have HA3:Hid (AppR encB 5 1 u3 W1.heap.size (.slice ao2 q2 cap2) (([112,byteOf fa] ++ numB fi 2) ++ [byteOf items.length]) (atomB fn) (.slice ao3 q3 cap3) w3):=Lib.hid hA;clear hA))
    have HB3:Hid (Below W1.heap.size W1 w3):=Lib.hid (HA3.out.belowB HBb3.out hz3 (fun k hk=>(HRb3.out.lt hk).1))
    obtain ⟨x0,x1,x2,x3,x4,x5,x6,x7,x8,xf⟩:=HX.out w3 HB3.out
    dsimp only at x0 x1 x2 x3 x4 x5 x6 x7 x8
    have HC4:=Lib.hid (number105 w3 fg 4 (by decide))
    have HR4:=Lib.hid (HA3.out.own)
    go_wp2_with fail
    refine HC4.out.mono ?_
    rintro e u4 ⟨v4,rfl,ho,hb⟩
    obtain ⟨p4,c4,hv,_,_⟩:=ho.shape
    generalize (numB fg 4).length = r4 at hv
    subst hv
    have HS4:=Lib.hid (ho.row (encB_ok _))
    have HRb4:=Lib.hid (HR4.out.below hb)
    have HBb4:=Lib.hid (HB3.out.trans (hb.mono HB3.out.size))
    have hz4:=HBb4.out.size
    clear x0 x1 x2 x3 x4 x5 x6 x7 x8 xf ho hb
    go_wp2_with (first
     | (refine wpList_append_rec elB rfl (.tmp 141) (.tmp 144) rfl rfl HRb4.out hz4 rfl HS4.out (encB_ok _) (by have:=HL.out;(try simp only [List.length_append,atomB_len,numB_len,strB_len,List.length_cons,List.length_nil]);(try simp only [List.length_append,atomB_len,numB_len,strB_len,List.length_cons,List.length_nil] at this);omega) ?_;intro v' w4 hA;obtain ⟨ao4,cap4,hv,_,_⟩:=hA.own.shape;generalize (((([112,byteOf fa] ++ numB fi 2) ++ [byteOf items.length]) ++ atomB fn) ++ (numB fg 4)).length = q4 at hv;subst hv;have HA4:Hid (AppR encB 5 1 u4 W1.heap.size (.slice ao3 q3 cap3) ((([112,byteOf fa] ++ numB fi 2) ++ [byteOf items.length]) ++ atomB fn) (numB fg 4) (.slice ao4 q4 cap4) w4):=Lib.hid hA;clear hA))
    have HB4:Hid (Below W1.heap.size W1 w4):=Lib.hid (HA4.out.belowB HBb4.out hz4 (fun k hk=>(HRb4.out.lt hk).1))
    obtain ⟨x0,x1,x2,x3,x4,x5,x6,x7,x8,xf⟩:=HX.out w4 HB4.out
    dsimp only at x0 x1 x2 x3 x4 x5 x6 x7 x8
    go_wp2_with fail
    go_meet
    case rel =>
     refine Lib.hid ⟨?_,HB4.out⟩
     have h5:=HA4.out.own
     rw [HE.out]
     (try simp only [List.append_assoc] at h5)
     exact h5
 case rest =>
  obtain ⟨hr1,hb1⟩:=hcut.out
  clear hcut x0 x1 x2 x3 x4 x5 x6 x7 x8 xf hk HB0
  have HFin:Hid (∀ W' u,RecOwn encB 5 1 W' W1.heap.size u (headB ⟨fk,fi,fg,fn,ff,fa,fb,fs⟩ items.length ++ encL n items)→Below W1.heap.size W1 W'→OwnQ (headB ⟨fk,fi,fg,fn,ff,fa,fb,fs⟩ items.length ++ encL n items) w (.returned u) W'):=Lib.hid (fun W' u ho hb=>by
   refine ⟨u,rfl,ho.base (fun k hk=>?_),?_⟩
   ·have:=(ho.lt hk).1
    have:=HB1.out.2
    have:=HZs.out
    omega
   ·have:=hb.mono (B':=w.heap.size) (by have:=HB1.out.2;have:=HZs.out;omega)
    rw [HZs.out] at this ⊢
    exact HBw.out.trans this)
  have HLh:Hid ((headB ⟨fk,fi,fg,fn,ff,fa,fb,fs⟩ items.length).length + (encL n items).length ≤ 400000000):=Lib.hid (by have:=HHd.out;have:=HEl.out;have:=HNd.out;omega)
  have H00:Hid (CodeI (headB ⟨fk,fi,fg,fn,ff,fa,fb,fs⟩ items.length) items W1 items.length u3 (.int .i64 0) wc):=Lib.hid ⟨0,rfl,Nat.zero_le _,rfl,by rw [List.take_zero,encL_nil,List.append_nil];exact hr1,hb1⟩
  obtain ⟨x0,x1,x2,x3,x4,x5,x6,x7,x8,xf⟩:=HX.out wc hb1
  dsimp only at x0 x1 x2 x3 x4 x5 x6 x7 x8
  generalize headB ⟨fk,fi,fg,fn,ff,fa,fb,fs⟩ items.length = hd at *
  clear hr1 hb1 HRt HHd
  go_wp2_with fail
  clear x0 x1 x2 x3 x4 x5 x6 x7 x8 xf
  go_loopg [3,4] items.length (fun m ov iv wr=>Hid (CodeI hd items W1 m ov iv wr))
  case atStart=>exact H00
  case round =>
   obtain ⟨i,rfl,hi,hm,hown,hbw⟩:=hrel.out
   clear hrel H00
   obtain ⟨po,co,hv,_,_⟩:=hown.shape
   generalize hql:(hd ++ encL n (items.take i)).length = q at hv
   subst hv
   have HM:=Lib.hid hm
   have HOw:=Lib.hid hown
   have HBr:=Lib.hid hbw
   have HQl:=Lib.hid hql
   clear hm hown hql
   obtain ⟨x0,x1,x2,x3,x4,x5,x6,x7,x8,xf⟩:=HX.out wr hbw
   dsimp only at x0 x1 x2 x3 x4 x5 x6 x7 x8
   have hll:=HLen.out
   by_cases hlt:i < items.length
   ·obtain ⟨g,o,x,qq,mm,d,bs,hp,hg,hC,hnx,hbl,hCall⟩:=codeEl (w:=wr) ih (B:=B) (by have:=HB1.out;have:=hbw.size;omega) (HIt.out.below hbw (by have:=HB1.out;omega)) HFt.out i hlt (by have:=HNd.out;omega)
    subst hp
    have HCall:=Lib.hid hCall
    have HNx:=Lib.hid hnx
    have HBl:Hid ((hd ++ encL n (items.take i)).length + bs.length ≤ 1000000000):=Lib.hid (by
     have h1:=encL_len n (items.take (i + 1)) (formed_take HFt.out (i + 1))
     rw [hnx,List.length_append] at h1
     rw [List.length_append]
     have h2:=nodes_take items (i + 1)
     have:=HLh.out
     have:=HNd.out
     omega)
    clear hCall hnx hg hbl
    obtain ⟨c0,c1,c2,c3,c4,c5,c6,c7,c8⟩:=hC
    obtain ⟨y0,y1,y2,y3,y4,y5,y6,y7⟩:=x
    dsimp only at c0 c1 c2 c3 c4 c5 c6 c7 c8
    unfold aggV at HCall
    dsimp only at HCall
    go_wp2_with fail
    refine HCall.out.mono ?_
    rintro e u1 ⟨v1,rfl,ho,hb⟩
    obtain ⟨p1,c1',hv,_,_⟩:=ho.shape
    generalize bs.length = r1 at hv
    subst hv
    have HS1:=Lib.hid (ho.row (encB_ok _))
    have HR1:=Lib.hid (HOw.out.below hb)
    have HBu:=Lib.hid (HBr.out.trans (hb.mono HBr.out.size))
    have hzu:=HBu.out.size
    clear ho hb c0 c1 c2 c3 c4 c5 c6 c7 c8 x0 x1 x2 x3 x4 x5 x6 x7 x8 xf
    go_wp2_with (first
     | (refine wpList_append_rec elB rfl (.tmp 153) (.tmp 159) rfl rfl HR1.out hzu rfl HS1.out (encB_ok _) HBl.out ?_;intro v' w8 hA;obtain ⟨ao',cap',hv,_,_⟩:=hA.own.shape;generalize hq2:((hd ++ encL n (items.take i)) ++ bs).length = q2 at hv;subst hv;have HA:Hid (AppR encB 5 1 u1 W1.heap.size (.slice po q co) (hd ++ encL n (items.take i)) bs (.slice ao' q2 cap') w8):=Lib.hid hA;clear hA))
    go_roundg (items.length - (i + 1))
    case measure=>have:=HM.out;omega
    case rel =>
     refine Lib.hid ⟨i + 1,by go_num,by omega,rfl,?_,HA.out.belowB HBu.out hzu (fun k hk=>(HR1.out.lt hk).1)⟩
     rw [HNx.out,← List.append_assoc]
     exact HA.out.own
   ·obtain rfl:i = items.length:=by omega
    go_wp2_with fail
    go_ret
    have ho:=HOw.out
    rw [List.take_length] at ho
    exact HFin.out _ (.slice po q co) ho HBr.out
theorem codeAll:∀ n,CodeS n:=by
 intro n
 induction n with
 | zero=>exact codeStep (fun m h=>by omega)
 | succ n ih => exact codeStep (fun m h => by obtain rfl : n = m := by omega
                                              exact ih)
end Go.Proofs.YtfbggmbmgohiiaaGreat.tb
