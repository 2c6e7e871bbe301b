/- Texts of this seat, one behind the other: TbF. No condition beyond theirs. -/
import Derived.Test.YtfbggmbmgohiiaaGreatK12
import Derived.Test.YtfbggmbmgohiiaaGreatK22
import Derived.Test.YtfbggmbmgohiiaaGreatK21
import Derived.Test.YtfbggmbmgohiiaaGreatK24
set_option linter.unusedSimpArgs false
set_option linter.unusedVariables false
set_option maxHeartbeats 4000000
set_option maxRecDepth 100000
namespace Go.Proofs.YtfbggmbmgohiiaaGreat.tb
open Go.RowKit mem rec tm names
theorem Nine.same {w w':World} {z:Nat} {f:TF} {v:Value} (h:w.heap[z]? = some (cells9 f v)) (hs:w'.heap[z]? = w.heap[z]?):Nine w' z f v:=nine_of (hs.trans h)
theorem headB_1 (fi fg:Int) (fn ff:ByteArray) (fa:Int) (fb:ByteArray) (fs:Int) (m:Nat):headB ⟨1,fi,fg,fn,ff,fa,fb,fs⟩ m = intB fi:=rfl
theorem headB_2 (fi fg:Int) (fn ff:ByteArray) (fa:Int) (fb:ByteArray) (fs:Int) (m:Nat):headB ⟨2,fi,fg,fn,ff,fa,fb,fs⟩ m = atomB fn:=rfl
theorem headB_7 (fi fg:Int) (fn ff:ByteArray) (fa:Int) (fb:ByteArray) (fs:Int) (m:Nat):headB ⟨7,fi,fg,fn,ff,fa,fb,fs⟩ m = [104,byteOf m]:=rfl
theorem headB_8 (fi fg:Int) (fn ff:ByteArray) (fa:Int) (fb:ByteArray) (fs:Int) (m:Nat):headB ⟨8,fi,fg,fn,ff,fa,fb,fs⟩ m = [106]:=rfl
theorem headB_9 (fi fg:Int) (fn ff:ByteArray) (fa:Int) (fb:ByteArray) (fs:Int) (m:Nat):headB ⟨9,fi,fg,fn,ff,fa,fb,fs⟩ m = [108] ++ numB ((m:Int) - 1) 4:=rfl
theorem headB_10 (fi fg:Int) (fn ff:ByteArray) (fa:Int) (fb:ByteArray) (fs:Int) (m:Nat) (h:fs.tmod 8 = 0):headB ⟨10,fi,fg,fn,ff,fa,fb,fs⟩ m = [109] ++ (numB fb.size 4 ++ strB fb):=by
 show bitsB _ = _
 unfold bitsB
 rw [if_pos h]
 rfl
theorem headB_10' (fi fg:Int) (fn ff:ByteArray) (fa:Int) (fb:ByteArray) (fs:Int) (m:Nat) (h:¬ fs.tmod 8 = 0):headB ⟨10,fi,fg,fn,ff,fa,fb,fs⟩ m = [77] ++ (numB fb.size 4 ++ ([byteOf (fs.tmod 8)] ++ strB fb)):=by
 show bitsB _ = _
 unfold bitsB
 rw [if_neg h]
 rfl
theorem headB_6 (fi fg:Int) (fn ff:ByteArray) (fa:Int) (fb:ByteArray) (fs:Int) (m:Nat):headB ⟨6,fi,fg,fn,ff,fa,fb,fs⟩ m = [88] ++ (atomB fn ++ (numB fi 4 ++ (numB 0 4 ++ numB fg 4))):=rfl
theorem headB_3 (fi fg:Int) (fn ff:ByteArray) (fa:Int) (fb:ByteArray) (fs:Int) (m:Nat):headB ⟨3,fi,fg,fn,ff,fa,fb,fs⟩ m = [90,0,1] ++ (atomB fn ++ (numB fg 4 ++ numB fi 4)):=rfl
theorem headB_5 (fi fg:Int) (fn ff:ByteArray) (fa:Int) (fb:ByteArray) (fs:Int) (m:Nat):headB ⟨5,fi,fg,fn,ff,fa,fb,fs⟩ m = [113] ++ (atomB fn ++ (atomB ff ++ intB fa)):=rfl
theorem headB_4 (fi fg:Int) (fn ff:ByteArray) (fa:Int) (fb:ByteArray) (fs:Int) (m:Nat):headB ⟨4,fi,fg,fn,ff,fa,fb,fs⟩ m = [112,byteOf fa] ++ (numB fi 2 ++ ([byteOf m] ++ (atomB fn ++ numB fg 4))):=rfl
def HeadQ (B b:Nat) (v:Value) (l:List UInt8) (f:TF) (vt:Value) (m z:Nat) (W1 wc:World):Prop:=WrQ B b v (l ++ headB f m) W1 wc∧wc.heap[z]? = some (cells9 f vt)
def TermS (n:Nat):Prop:=∀ (w:World) (B b:Nat) (v:Value) (l:List UInt8) (vt:Value) (t:Tm (n + 1)),WrAt w B b v l→B ≤ w.heap.size→ItemsAt w B n vt t.items→formedT t = true→l.length + 3000 * nodesT t ≤ 900000000 →
 Calls Tryz.prog 78 #[.pointer (some ⟨b,0,none⟩),aggV t.f vt] w fun e w'=>e = .returned (.tuple #[])∧WrQ B b v (l ++ encT t) w w'
def LoopI {n:Nat} (B b:Nat) (v:Value) (l:List UInt8) (items:List (Tm n)) (W1:World) (m:Nat) (iv:Value) (wr:World):Prop:=∃ i:Nat,iv = .int .i64 (i:Int)∧i ≤ items.length∧m = items.length - i∧WrQ B b v (l ++ encL n (items.take i)) W1 wr
theorem encL_len:∀ (n:Nat) (l:List (Tm n)),formedL n l = true→(encL n l).length ≤ 3000 * nodesL n l:=by
 intro n
 induction n with
 | zero=>intro l _;rw [Tm.nil0 l];simp [encL]
 | succ n ih =>
  intro l hf
  induction l with
  | nil=>simp [encL]
  | cons t l ih2 =>
   rw [formedL_cons,Bool.and_eq_true] at hf
   rw [encL_cons,nodesL_cons,List.length_append]
   have h1:=ih2 hf.2
   have h2:=headB_len hf.1
   have h3:=ih t.items (formed_items hf.1)
   unfold encT nodesT
   rw [List.length_append]
   omega
theorem formed_take {n:Nat} {l:List (Tm n)} (h:formedL n l = true) (k:Nat):formedL n (l.take k) = true:=by
 cases n with
 | zero=>rfl
 | succ n =>
  unfold formedL at h ⊢
  rw [List.all_eq_true] at h ⊢
  exact fun x hx=>h x (List.mem_of_mem_take hx)
theorem termEl {n:Nat} (ih:∀ m,n = m + 1→TermS m) {w:World} {B b:Nat} {v:Value} {l:List UInt8} {p:Option Addr} {len c:Nat} {items:List (Tm n)} (hw:WrAt w B b v l) (hB:B ≤ w.heap.size) (hI:ItemsAt w B n (.slice p len c) items) (hf:formedL n items = true) (i:Nat) (hi:i < items.length) (hs:l.length + 3000 * nodesL n items ≤ 900000000 + 3000 * nodesL n (items.take i)) :
 ∃ g o x q m d bs,p = some ⟨g,o,none⟩∧g < B∧Cells w g (o + i * 9) x (.slice q m d)∧encL n (items.take (i + 1)) = encL n (items.take i) ++ bs∧∀ W,Below w.heap.size w W→Calls Tryz.prog 78 #[.pointer (some ⟨b,0,none⟩),aggV x (.slice q m d)] W fun e w'=>e = .returned (.tuple #[])∧WrQ B b v (l ++ bs) W w':=by
 cases n with
 | zero=>rw [Tm.nil0 items] at hi;exact absurd hi (by simp)
 | succ n =>
  obtain ⟨g,o,d,e,_,_,hg,hx⟩:=hI.at_ (by intro e;subst e;simp at hi)
  obtain ⟨u,hC,hJ⟩:=hx i hi
  simp only [Value.slice.injEq] at e
  obtain ⟨q,c',rfl,_,_⟩:=hJ.shape
  have hn:=nodes_mem hi
  refine ⟨g,o,items[i].f,q,_,c',encT items[i],e.1,hg,hC,encL_take items i hi,fun W hb=>?_⟩
  exact ih n rfl W B b v l _ items[i] (hw.below hb) (Nat.le_trans hB hb.size) (hJ.below hb hB) (formed_at hf i hi) (by omega)
theorem termStep {n:Nat} (ih:∀ m,n = m + 1→TermS m):TermS n:=by
 intro w B b v l vt t h hB hI hf hn
 have hnod:nodesT t = 1 + nodesL n t.items:=rfl
 have HHd:=Lib.hid (headB_len hf)
 have hft:=formed_items hf
 obtain ⟨k1,k2,_,_⟩:=ft_ok hf
 have hk:=ft_kind hf
 have h2:t.f.kind = 9→2 ≤ t.items.length:=fun e=>(ft_list hf e).1
 obtain ⟨p,c,rfl,_,_⟩:=hI.shape
 have hen:encT t = headB t.f t.items.length ++ encL n t.items:=rfl
 rw [hen]
 clear hen hf k1 k2
 have HItems:=Lib.hid (fun W (hW:Below B w W)=>hI.below hW (Nat.le_refl _))
 have hlen:=nodes_len n t.items
 generalize hits:t.items = items at *
 generalize t.f = f at *
 obtain ⟨fk,fi,fg,fn,ff,fa,fb,fs⟩:=f
 unfold aggV
 dsimp only at hk h2 HHd ⊢
 have hb0:=belowA (Below.refl w.heap.size w) (cells9 ⟨fk,fi,fg,fn,ff,fa,fb,fs⟩ (.slice p items.length c)) (Nat.le_refl _)
 have HZ:=Lib.hid (alloc_new w (cells9 ⟨fk,fi,fg,fn,ff,fa,fb,fs⟩ (.slice p items.length c)))
 have H1:=Lib.hid (h.below hb0)
 have HBw:=Lib.hid hb0
 have HB1:Hid (B ≤ w.heap.size∧(w.alloc (cells9 ⟨fk,fi,fg,fn,ff,fa,fb,fs⟩ (.slice p items.length c))).heap.size = w.heap.size + 1):=Lib.hid ⟨hB,by rw [World.size_alloc]⟩
 have HZb:Hid (w.heap.size ≠ b∧v.ownBlock ≠ some w.heap.size∧∀ k,v.ownBlock = some k→B ≤ k):=Lib.hid ⟨by have:=h.lt;omega,fun e=>by have:=(h.row.lt e).2;omega,fun k hk=>(h.row.lt hk).1⟩
 have HNd:Hid (l.length + 3000 * (1 + nodesL n items) ≤ 900000000):=Lib.hid (by omega)
 have HFt:=Lib.hid hft
 have HK2:=Lib.hid h2
 have HIt:=Lib.hid hI
 have HLen:Hid (items.length ≤ 1000000):=Lib.hid (by omega)
 unfold cells9 at HZ HBw H1 HB1
 dsimp only at HZ HBw H1 HB1
 clear hb0 h hB hI hn hnod hlen h2 hft hits
 go_enter Tryz.func78,Tryz.ntmps78
 go_upto_region 1 with (fail)
 generalize hW1:(w.alloc (.cells #[.int .i64 fk,.int .i64 fi,.int .i64 fg,.string fn,.string ff,.int .i64 fa,.slice p items.length c,.string fb,.int .i64 fs] 24)) = W1 at *
 clear hW1
 generalize hz:w.heap.size = z at *
 have HZs:=Lib.hid hz
 clear hz
 have HX:=Lib.hid (fun (W':World) (v':Value) (hs:WrS b v v' W1 W')=>(nine_of ((hs.other (by have:=HB1.out.2;omega) HZb.out.1 HZb.out.2.1).trans HZ.out):Nine W' z ⟨fk,fi,fg,fn,ff,fa,fb,fs⟩ (.slice p items.length c)))
 have HXo:=Lib.hid (fun (W':World) (v':Value) (hs:WrS b v v' W1 W')=>((hs.other (by have:=HB1.out.2;omega) HZb.out.1 HZb.out.2.1).trans HZ.out))
 obtain ⟨x0,x1,x2,x3,x4,x5,x6,x7,x8,xf⟩:=HX.out W1 v (WrS.refl _ _ _)
 dsimp only at x0 x1 x2 x3 x4 x5 x6 x7 x8
 go_upto_block 0 with (fail)
 go_cut [] from 6 (fun wc=>Hid (HeadQ B b v l ⟨fk,fi,fg,fn,ff,fa,fb,fs⟩ (.slice p items.length c) items.length z W1 wc))
 case first =>
  have hks:fk = 1∨fk = 2∨fk = 7∨fk = 8∨fk = 9∨fk = 10∨fk = 6∨fk = 3∨fk = 5∨fk = 4:=by omega
  clear hk
  have HB1':Hid (B ≤ W1.heap.size):=Lib.hid (by have:=HB1.out;omega)
  rcases hks with rfl | rfl | rfl | rfl | rfl | rfl | rfl | rfl | rfl | rfl
  ·have hE:=headB_1 fi fg fn ff fa fb fs items.length
   have hL:=HHd.out
   rw [hE] at hL
   (try simp only [List.length_append,atomB_len,numB_len,strB_len,List.length_cons,List.length_nil] at hL)
   have HL:Hid _:=Lib.hid hL
   have HE:=Lib.hid hE
   clear hL hE
   have hq:=integer99 H1.out HB1'.out fi (by have:=HL.out;have:=HNd.out;(try simp only [List.length_append,atomB_len,numB_len,strB_len,List.length_cons,List.length_nil]);omega)
   have HQ:=Lib.hid hq
   clear hq
   go_wp2_with fail
   refine HQ.out.mono ?_
   rintro e w1 ⟨rfl,v1,h1,hs1⟩
   clear x0 x1 x2 x3 x4 x5 x6 x7 x8 xf HQ
   have HW1:=Lib.hid h1
   have HS1:Hid (WrS b v v1 W1 w1):=Lib.hid hs1
   clear h1 hs1
   obtain ⟨x0,x1,x2,x3,x4,x5,x6,x7,x8,xf⟩:=HX.out w1 v1 HS1.out
   dsimp only at x0 x1 x2 x3 x4 x5 x6 x7 x8
   go_wp2_with fail
   go_meet
   case rel =>
    refine Lib.hid ⟨⟨v1,?_,HS1.out⟩,HXo.out _ _ HS1.out⟩
    rw [HE.out]
    have h5:=HW1.out
    (try simp only [List.append_assoc] at h5)
    exact h5
  ·have hE:=headB_2 fi fg fn ff fa fb fs items.length
   have hL:=HHd.out
   rw [hE] at hL
   (try simp only [List.length_append,atomB_len,numB_len,strB_len,List.length_cons,List.length_nil] at hL)
   have HL:Hid _:=Lib.hid hL
   have HE:=Lib.hid hE
   clear hL hE
   have hq:=atom100 H1.out HB1'.out fn (by have:=HL.out;have:=HNd.out;(try simp only [List.length_append,atomB_len,numB_len,strB_len,List.length_cons,List.length_nil]);omega)
   have HQ:=Lib.hid hq
   clear hq
   go_wp2_with fail
   refine HQ.out.mono ?_
   rintro e w1 ⟨rfl,v1,h1,hs1⟩
   clear x0 x1 x2 x3 x4 x5 x6 x7 x8 xf HQ
   have HW1:=Lib.hid h1
   have HS1:Hid (WrS b v v1 W1 w1):=Lib.hid hs1
   clear h1 hs1
   obtain ⟨x0,x1,x2,x3,x4,x5,x6,x7,x8,xf⟩:=HX.out w1 v1 HS1.out
   dsimp only at x0 x1 x2 x3 x4 x5 x6 x7 x8
   go_wp2_with fail
   go_meet
   case rel =>
    refine Lib.hid ⟨⟨v1,?_,HS1.out⟩,HXo.out _ _ HS1.out⟩
    rw [HE.out]
    have h5:=HW1.out
    (try simp only [List.append_assoc] at h5)
    exact h5
  ·have hE:=headB_7 fi fg fn ff fa fb fs items.length
   have hL:=HHd.out
   rw [hE] at hL
   (try simp only [List.length_append,atomB_len,numB_len,strB_len,List.length_cons,List.length_nil] at hL)
   have HL:Hid _:=Lib.hid hL
   have HE:=Lib.hid hE
   clear hL hE
   have hq:=bytesN H1.out HB1'.out [104,byteOf items.length] 2 rfl (by have:=HL.out;have:=HNd.out;(try simp only [List.length_append,atomB_len,numB_len,strB_len,List.length_cons,List.length_nil]);omega)
   have e:(([104,byteOf items.length]:List UInt8).flatMap encB).toArray = #[.int .u8 104,.int .u8 ((items.length:Int) % 256)]:=by rw [← byteOf_nat];rfl
   rw [e] at hq
   clear e
   have HQ:=Lib.hid hq
   clear hq
   go_wp2_with fail
   refine HQ.out.mono ?_
   rintro e w1 ⟨rfl,v1,h1,hs1⟩
   clear x0 x1 x2 x3 x4 x5 x6 x7 x8 xf HQ
   have HW1:=Lib.hid h1
   have HS1:Hid (WrS b v v1 W1 w1):=Lib.hid hs1
   clear h1 hs1
   obtain ⟨x0,x1,x2,x3,x4,x5,x6,x7,x8,xf⟩:=HX.out w1 v1 HS1.out
   dsimp only at x0 x1 x2 x3 x4 x5 x6 x7 x8
   go_wp2_with fail
   go_meet
   case rel =>
    refine Lib.hid ⟨⟨v1,?_,HS1.out⟩,HXo.out _ _ HS1.out⟩
    rw [HE.out]
    have h5:=HW1.out
    (try simp only [List.append_assoc] at h5)
    exact h5
  ·have hE:=headB_8 fi fg fn ff fa fb fs items.length
   have hL:=HHd.out
   rw [hE] at hL
   (try simp only [List.length_append,atomB_len,numB_len,strB_len,List.length_cons,List.length_nil] at hL)
   have HL:Hid _:=Lib.hid hL
   have HE:=Lib.hid hE
   clear hL hE
   have hq:=bytesN H1.out HB1'.out [106] 1 rfl (by have:=HL.out;have:=HNd.out;(try simp only [List.length_append,atomB_len,numB_len,strB_len,List.length_cons,List.length_nil]);omega)
   have e:(([106]:List UInt8).flatMap encB).toArray = #[.int .u8 106]:=by rfl
   rw [e] at hq
   clear e
   have HQ:=Lib.hid hq
   clear hq
   go_wp2_with fail
   refine HQ.out.mono ?_
   rintro e w1 ⟨rfl,v1,h1,hs1⟩
   clear x0 x1 x2 x3 x4 x5 x6 x7 x8 xf HQ
   have HW1:=Lib.hid h1
   have HS1:Hid (WrS b v v1 W1 w1):=Lib.hid hs1
   clear h1 hs1
   obtain ⟨x0,x1,x2,x3,x4,x5,x6,x7,x8,xf⟩:=HX.out w1 v1 HS1.out
   dsimp only at x0 x1 x2 x3 x4 x5 x6 x7 x8
   go_wp2_with fail
   go_meet
   case rel =>
    refine Lib.hid ⟨⟨v1,?_,HS1.out⟩,HXo.out _ _ HS1.out⟩
    rw [HE.out]
    have h5:=HW1.out
    (try simp only [List.append_assoc] at h5)
    exact h5
  ·have hw9:IntKind.i64.wrap ((items.length:Int) - 1) = (items.length:Int) - 1:=IntWalk.i64_in _ (by have:=HLen.out;omega)
   have hE:=headB_9 fi fg fn ff fa fb fs items.length
   have hL:=HHd.out
   rw [hE] at hL
   (try simp only [List.length_append,atomB_len,numB_len,strB_len,List.length_cons,List.length_nil] at hL)
   have HL:Hid _:=Lib.hid hL
   have HE:=Lib.hid hE
   clear hL hE
   have hq:=bytesN H1.out HB1'.out [108] 1 rfl (by have:=HL.out;have:=HNd.out;(try simp only [List.length_append,atomB_len,numB_len,strB_len,List.length_cons,List.length_nil]);omega)
   have e:(([108]:List UInt8).flatMap encB).toArray = #[.int .u8 108]:=by rfl
   rw [e] at hq
   clear e
   have HQ:=Lib.hid hq
   clear hq
   go_wp2_with fail
   refine HQ.out.mono ?_
   rintro e w1 ⟨rfl,v1,h1,hs1⟩
   clear x0 x1 x2 x3 x4 x5 x6 x7 x8 xf HQ
   have HW1:=Lib.hid h1
   have HS1:Hid (WrS b v v1 W1 w1):=Lib.hid hs1
   clear h1 hs1
   obtain ⟨x0,x1,x2,x3,x4,x5,x6,x7,x8,xf⟩:=HX.out w1 v1 HS1.out
   dsimp only at x0 x1 x2 x3 x4 x5 x6 x7 x8
   have hq:=number101 HW1.out (Nat.le_trans HB1'.out HS1.out.touch.size) ((items.length:Int) - 1) 4 (by decide) (by have:=HL.out;have:=HNd.out;(try simp only [List.length_append,atomB_len,numB_len,strB_len,List.length_cons,List.length_nil]);omega)
   have HQ:=Lib.hid hq
   clear hq
   go_wp2_with fail
   refine HQ.out.mono ?_
   rintro e w2 ⟨rfl,v2,h2,hs2⟩
   clear x0 x1 x2 x3 x4 x5 x6 x7 x8 xf HQ
   have HW2:=Lib.hid h2
   have HS2:Hid (WrS b v v2 W1 w2):=Lib.hid (HS1.out.trans hs2)
   clear h2 hs2
   obtain ⟨x0,x1,x2,x3,x4,x5,x6,x7,x8,xf⟩:=HX.out w2 v2 HS2.out
   dsimp only at x0 x1 x2 x3 x4 x5 x6 x7 x8
   go_wp2_with fail
   go_meet
   case rel =>
    refine Lib.hid ⟨⟨v2,?_,HS2.out⟩,HXo.out _ _ HS2.out⟩
    rw [HE.out]
    have h5:=HW2.out
    (try simp only [List.append_assoc] at h5)
    exact h5
  ·by_cases h8:fs.tmod 8 = 0
   ·have hE:=headB_10 fi fg fn ff fa fb fs items.length h8
    have hL:=HHd.out
    rw [hE] at hL
    (try simp only [List.length_append,atomB_len,numB_len,strB_len,List.length_cons,List.length_nil] at hL)
    have HL:Hid _:=Lib.hid hL
    have HE:=Lib.hid hE
    clear hL hE
    have hq:=bytesN H1.out HB1'.out [109] 1 rfl (by have:=HL.out;have:=HNd.out;(try simp only [List.length_append,atomB_len,numB_len,strB_len,List.length_cons,List.length_nil]);omega)
    have e:(([109]:List UInt8).flatMap encB).toArray = #[.int .u8 109]:=by rfl
    rw [e] at hq
    clear e
    have HQ:=Lib.hid hq
    clear hq
    go_wp2_with fail
    refine HQ.out.mono ?_
    rintro e w1 ⟨rfl,v1,h1,hs1⟩
    clear x0 x1 x2 x3 x4 x5 x6 x7 x8 xf HQ
    have HW1:=Lib.hid h1
    have HS1:Hid (WrS b v v1 W1 w1):=Lib.hid hs1
    clear h1 hs1
    obtain ⟨x0,x1,x2,x3,x4,x5,x6,x7,x8,xf⟩:=HX.out w1 v1 HS1.out
    dsimp only at x0 x1 x2 x3 x4 x5 x6 x7 x8
    have hq:=number101 HW1.out (Nat.le_trans HB1'.out HS1.out.touch.size) fb.size 4 (by decide) (by have:=HL.out;have:=HNd.out;(try simp only [List.length_append,atomB_len,numB_len,strB_len,List.length_cons,List.length_nil]);omega)
    have HQ:=Lib.hid hq
    clear hq
    go_wp2_with fail
    refine HQ.out.mono ?_
    rintro e w2 ⟨rfl,v2,h2,hs2⟩
    clear x0 x1 x2 x3 x4 x5 x6 x7 x8 xf HQ
    have HW2:=Lib.hid h2
    have HS2:Hid (WrS b v v2 W1 w2):=Lib.hid (HS1.out.trans hs2)
    clear h2 hs2
    obtain ⟨x0,x1,x2,x3,x4,x5,x6,x7,x8,xf⟩:=HX.out w2 v2 HS2.out
    dsimp only at x0 x1 x2 x3 x4 x5 x6 x7 x8
    have hq:=writeS102 HW2.out (Nat.le_trans HB1'.out HS2.out.touch.size) fb (by have:=HL.out;have:=HNd.out;(try simp only [List.length_append,atomB_len,numB_len,strB_len,List.length_cons,List.length_nil]);omega)
    have HQ:=Lib.hid hq
    clear hq
    have HQd:=Lib.hid (writeS102 (WrAt.same HW2.out (w':=w2.drew) rfl (fun _ _=>rfl)) (Nat.le_trans HB1'.out HS2.out.touch.size) fb (by have:=HL.out;have:=HNd.out;(try simp only [List.length_append,atomB_len,numB_len,strB_len,List.length_cons,List.length_nil]);omega))
    go_wp2_with fail
    go_region_held3 (fun w'=>w'.cell? ⟨z,7,none⟩ = some (.string fb)) (go_keep)
     (first | (go_at_call 102;refine HQd.out.mono ?_;rintro e w3 ⟨rfl,v3,h3,hs3⟩;obtain ⟨x0,x1,x2,x3,x4,x5,x6,x7,x8,xf⟩:=HX.out w3 v3 (HS2.out.trans (hs3.grow (belowD (Below.refl w2.heap.size w2))));dsimp only at x0 x1 x2 x3 x4 x5 x6 x7 x8))
    all_goals
     go_wp2_with fail
     go_meet
     case rel =>
      refine Lib.hid ⟨⟨v3,?_,HS2.out.trans (hs3.grow (belowD (Below.refl w2.heap.size w2)))⟩,HXo.out _ _ (HS2.out.trans (hs3.grow (belowD (Below.refl w2.heap.size w2))))⟩
      rw [HE.out]
      have h5:=h3
      simp only [List.append_assoc] at h5
      exact h5
   ·have hE:=headB_10' fi fg fn ff fa fb fs items.length h8
    have hL:=HHd.out
    rw [hE] at hL
    (try simp only [List.length_append,atomB_len,numB_len,strB_len,List.length_cons,List.length_nil] at hL)
    have HL:Hid _:=Lib.hid hL
    have HE:=Lib.hid hE
    clear hL hE
    have hq:=bytesN H1.out HB1'.out [77] 1 rfl (by have:=HL.out;have:=HNd.out;(try simp only [List.length_append,atomB_len,numB_len,strB_len,List.length_cons,List.length_nil]);omega)
    have e:(([77]:List UInt8).flatMap encB).toArray = #[.int .u8 77]:=by rfl
    rw [e] at hq
    clear e
    have HQ:=Lib.hid hq
    clear hq
    go_wp2_with fail
    refine HQ.out.mono ?_
    rintro e w1 ⟨rfl,v1,h1,hs1⟩
    clear x0 x1 x2 x3 x4 x5 x6 x7 x8 xf HQ
    have HW1:=Lib.hid h1
    have HS1:Hid (WrS b v v1 W1 w1):=Lib.hid hs1
    clear h1 hs1
    obtain ⟨x0,x1,x2,x3,x4,x5,x6,x7,x8,xf⟩:=HX.out w1 v1 HS1.out
    dsimp only at x0 x1 x2 x3 x4 x5 x6 x7 x8
    have hq:=number101 HW1.out (Nat.le_trans HB1'.out HS1.out.touch.size) fb.size 4 (by decide) (by have:=HL.out;have:=HNd.out;(try simp only [List.length_append,atomB_len,numB_len,strB_len,List.length_cons,List.length_nil]);omega)
    have HQ:=Lib.hid hq
    clear hq
    go_wp2_with fail
    refine HQ.out.mono ?_
    rintro e w2 ⟨rfl,v2,h2,hs2⟩
    clear x0 x1 x2 x3 x4 x5 x6 x7 x8 xf HQ
    have HW2:=Lib.hid h2
    have HS2:Hid (WrS b v v2 W1 w2):=Lib.hid (HS1.out.trans hs2)
    clear h2 hs2
    obtain ⟨x0,x1,x2,x3,x4,x5,x6,x7,x8,xf⟩:=HX.out w2 v2 HS2.out
    dsimp only at x0 x1 x2 x3 x4 x5 x6 x7 x8
    have hq:=bytesN HW2.out (Nat.le_trans HB1'.out HS2.out.touch.size) [byteOf (fs.tmod 8)] 1 rfl (by have:=HL.out;have:=HNd.out;(try simp only [List.length_append,atomB_len,numB_len,strB_len,List.length_cons,List.length_nil]);omega)
    have e:(([byteOf (fs.tmod 8)]:List UInt8).flatMap encB).toArray = #[.int .u8 (fs.tmod 8 % 256)]:=by rw [← byteOf_nat];rfl
    rw [e] at hq
    clear e
    have HQ:=Lib.hid hq
    clear hq
    go_wp2_with fail
    refine HQ.out.mono ?_
    rintro e w3 ⟨rfl,v3,h3,hs3⟩
    clear x0 x1 x2 x3 x4 x5 x6 x7 x8 xf HQ
    have HW3:=Lib.hid h3
    have HS3:Hid (WrS b v v3 W1 w3):=Lib.hid (HS2.out.trans hs3)
    clear h3 hs3
    obtain ⟨x0,x1,x2,x3,x4,x5,x6,x7,x8,xf⟩:=HX.out w3 v3 HS3.out
    dsimp only at x0 x1 x2 x3 x4 x5 x6 x7 x8
    have hq:=writeS102 HW3.out (Nat.le_trans HB1'.out HS3.out.touch.size) fb (by have:=HL.out;have:=HNd.out;(try simp only [List.length_append,atomB_len,numB_len,strB_len,List.length_cons,List.length_nil]);omega)
    have HQ:=Lib.hid hq
    clear hq
    have HQd:=Lib.hid (writeS102 (WrAt.same HW3.out (w':=w3.drew) rfl (fun _ _=>rfl)) (Nat.le_trans HB1'.out HS3.out.touch.size) fb (by have:=HL.out;have:=HNd.out;(try simp only [List.length_append,atomB_len,numB_len,strB_len,List.length_cons,List.length_nil]);omega))
    go_wp2_with fail
    go_region_held3 (fun w'=>w'.cell? ⟨z,7,none⟩ = some (.string fb)) (go_keep)
     (first | (go_at_call 102;refine HQd.out.mono ?_;rintro e w4 ⟨rfl,v4,h4,hs4⟩;obtain ⟨x0,x1,x2,x3,x4,x5,x6,x7,x8,xf⟩:=HX.out w4 v4 (HS3.out.trans (hs4.grow (belowD (Below.refl w3.heap.size w3))));dsimp only at x0 x1 x2 x3 x4 x5 x6 x7 x8))
    all_goals
     go_wp2_with fail
     go_meet
     case rel =>
      refine Lib.hid ⟨⟨v4,?_,HS3.out.trans (hs4.grow (belowD (Below.refl w3.heap.size w3)))⟩,HXo.out _ _ (HS3.out.trans (hs4.grow (belowD (Below.refl w3.heap.size w3))))⟩
      rw [HE.out]
      have h5:=h4
      simp only [List.append_assoc] at h5
      exact h5
  ·have hE:=headB_6 fi fg fn ff fa fb fs items.length
   have hL:=HHd.out
   rw [hE] at hL
   (try simp only [List.length_append,atomB_len,numB_len,strB_len,List.length_cons,List.length_nil] at hL)
   have HL:Hid _:=Lib.hid hL
   have HE:=Lib.hid hE
   clear hL hE
   have hq:=bytesN H1.out HB1'.out [88] 1 rfl (by have:=HL.out;have:=HNd.out;(try simp only [List.length_append,atomB_len,numB_len,strB_len,List.length_cons,List.length_nil]);omega)
   have e:(([88]:List UInt8).flatMap encB).toArray = #[.int .u8 88]:=by rfl
   rw [e] at hq
   clear e
   have HQ:=Lib.hid hq
   clear hq
   go_wp2_with fail
   refine HQ.out.mono ?_
   rintro e w1 ⟨rfl,v1,h1,hs1⟩
   clear x0 x1 x2 x3 x4 x5 x6 x7 x8 xf HQ
   have HW1:=Lib.hid h1
   have HS1:Hid (WrS b v v1 W1 w1):=Lib.hid hs1
   clear h1 hs1
   obtain ⟨x0,x1,x2,x3,x4,x5,x6,x7,x8,xf⟩:=HX.out w1 v1 HS1.out
   dsimp only at x0 x1 x2 x3 x4 x5 x6 x7 x8
   have hq:=atom100 HW1.out (Nat.le_trans HB1'.out HS1.out.touch.size) fn (by have:=HL.out;have:=HNd.out;(try simp only [List.length_append,atomB_len,numB_len,strB_len,List.length_cons,List.length_nil]);omega)
   have HQ:=Lib.hid hq
   clear hq
   go_wp2_with fail
   refine HQ.out.mono ?_
   rintro e w2 ⟨rfl,v2,h2,hs2⟩
   clear x0 x1 x2 x3 x4 x5 x6 x7 x8 xf HQ
   have HW2:=Lib.hid h2
   have HS2:Hid (WrS b v v2 W1 w2):=Lib.hid (HS1.out.trans hs2)
   clear h2 hs2
   obtain ⟨x0,x1,x2,x3,x4,x5,x6,x7,x8,xf⟩:=HX.out w2 v2 HS2.out
   dsimp only at x0 x1 x2 x3 x4 x5 x6 x7 x8
   have hq:=number101 HW2.out (Nat.le_trans HB1'.out HS2.out.touch.size) fi 4 (by decide) (by have:=HL.out;have:=HNd.out;(try simp only [List.length_append,atomB_len,numB_len,strB_len,List.length_cons,List.length_nil]);omega)
   have HQ:=Lib.hid hq
   clear hq
   go_wp2_with fail
   refine HQ.out.mono ?_
   rintro e w3 ⟨rfl,v3,h3,hs3⟩
   clear x0 x1 x2 x3 x4 x5 x6 x7 x8 xf HQ
   have HW3:=Lib.hid h3
   have HS3:Hid (WrS b v v3 W1 w3):=Lib.hid (HS2.out.trans hs3)
   clear h3 hs3
   obtain ⟨x0,x1,x2,x3,x4,x5,x6,x7,x8,xf⟩:=HX.out w3 v3 HS3.out
   dsimp only at x0 x1 x2 x3 x4 x5 x6 x7 x8
   have hq:=number101 HW3.out (Nat.le_trans HB1'.out HS3.out.touch.size) 0 4 (by decide) (by have:=HL.out;have:=HNd.out;(try simp only [List.length_append,atomB_len,numB_len,strB_len,List.length_cons,List.length_nil]);omega)
   have HQ:=Lib.hid hq
   clear hq
   go_wp2_with fail
   refine HQ.out.mono ?_
   rintro e w4 ⟨rfl,v4,h4,hs4⟩
   clear x0 x1 x2 x3 x4 x5 x6 x7 x8 xf HQ
   have HW4:=Lib.hid h4
   have HS4:Hid (WrS b v v4 W1 w4):=Lib.hid (HS3.out.trans hs4)
   clear h4 hs4
   obtain ⟨x0,x1,x2,x3,x4,x5,x6,x7,x8,xf⟩:=HX.out w4 v4 HS4.out
   dsimp only at x0 x1 x2 x3 x4 x5 x6 x7 x8
   have hq:=number101 HW4.out (Nat.le_trans HB1'.out HS4.out.touch.size) fg 4 (by decide) (by have:=HL.out;have:=HNd.out;(try simp only [List.length_append,atomB_len,numB_len,strB_len,List.length_cons,List.length_nil]);omega)
   have HQ:=Lib.hid hq
   clear hq
   go_wp2_with fail
   refine HQ.out.mono ?_
   rintro e w5 ⟨rfl,v5,h5,hs5⟩
   clear x0 x1 x2 x3 x4 x5 x6 x7 x8 xf HQ
   have HW5:=Lib.hid h5
   have HS5:Hid (WrS b v v5 W1 w5):=Lib.hid (HS4.out.trans hs5)
   clear h5 hs5
   obtain ⟨x0,x1,x2,x3,x4,x5,x6,x7,x8,xf⟩:=HX.out w5 v5 HS5.out
   dsimp only at x0 x1 x2 x3 x4 x5 x6 x7 x8
   go_wp2_with fail
   go_meet
   case rel =>
    refine Lib.hid ⟨⟨v5,?_,HS5.out⟩,HXo.out _ _ HS5.out⟩
    rw [HE.out]
    have h5:=HW5.out
    (try simp only [List.append_assoc] at h5)
    exact h5
  ·have hE:=headB_3 fi fg fn ff fa fb fs items.length
   have hL:=HHd.out
   rw [hE] at hL
   (try simp only [List.length_append,atomB_len,numB_len,strB_len,List.length_cons,List.length_nil] at hL)
   have HL:Hid _:=Lib.hid hL
   have HE:=Lib.hid hE
   clear hL hE
   have hq:=bytesN H1.out HB1'.out [90,0,1] 3 rfl (by have:=HL.out;have:=HNd.out;(try simp only [List.length_append,atomB_len,numB_len,strB_len,List.length_cons,List.length_nil]);omega)
   have e:(([90,0,1]:List UInt8).flatMap encB).toArray = #[.int .u8 90,.int .u8 0,.int .u8 1]:=by rfl
   rw [e] at hq
   clear e
   have HQ:=Lib.hid hq
   clear hq
   go_wp2_with fail
   refine HQ.out.mono ?_
   rintro e w1 ⟨rfl,v1,h1,hs1⟩
   clear x0 x1 x2 x3 x4 x5 x6 x7 x8 xf HQ
   have HW1:=Lib.hid h1
   have HS1:Hid (WrS b v v1 W1 w1):=Lib.hid hs1
   clear h1 hs1
   obtain ⟨x0,x1,x2,x3,x4,x5,x6,x7,x8,xf⟩:=HX.out w1 v1 HS1.out
   dsimp only at x0 x1 x2 x3 x4 x5 x6 x7 x8
   have hq:=atom100 HW1.out (Nat.le_trans HB1'.out HS1.out.touch.size) fn (by have:=HL.out;have:=HNd.out;(try simp only [List.length_append,atomB_len,numB_len,strB_len,List.length_cons,List.length_nil]);omega)
   have HQ:=Lib.hid hq
   clear hq
   go_wp2_with fail
   refine HQ.out.mono ?_
   rintro e w2 ⟨rfl,v2,h2,hs2⟩
   clear x0 x1 x2 x3 x4 x5 x6 x7 x8 xf HQ
   have HW2:=Lib.hid h2
   have HS2:Hid (WrS b v v2 W1 w2):=Lib.hid (HS1.out.trans hs2)
   clear h2 hs2
   obtain ⟨x0,x1,x2,x3,x4,x5,x6,x7,x8,xf⟩:=HX.out w2 v2 HS2.out
   dsimp only at x0 x1 x2 x3 x4 x5 x6 x7 x8
   have hq:=number101 HW2.out (Nat.le_trans HB1'.out HS2.out.touch.size) fg 4 (by decide) (by have:=HL.out;have:=HNd.out;(try simp only [List.length_append,atomB_len,numB_len,strB_len,List.length_cons,List.length_nil]);omega)
   have HQ:=Lib.hid hq
   clear hq
   go_wp2_with fail
   refine HQ.out.mono ?_
   rintro e w3 ⟨rfl,v3,h3,hs3⟩
   clear x0 x1 x2 x3 x4 x5 x6 x7 x8 xf HQ
   have HW3:=Lib.hid h3
   have HS3:Hid (WrS b v v3 W1 w3):=Lib.hid (HS2.out.trans hs3)
   clear h3 hs3
   obtain ⟨x0,x1,x2,x3,x4,x5,x6,x7,x8,xf⟩:=HX.out w3 v3 HS3.out
   dsimp only at x0 x1 x2 x3 x4 x5 x6 x7 x8
   have hq:=number101 HW3.out (Nat.le_trans HB1'.out HS3.out.touch.size) fi 4 (by decide) (by have:=HL.out;have:=HNd.out;(try simp only [List.length_append,atomB_len,numB_len,strB_len,List.length_cons,List.length_nil]);omega)
   have HQ:=Lib.hid hq
   clear hq
   go_wp2_with fail
   refine HQ.out.mono ?_
   rintro e w4 ⟨rfl,v4,h4,hs4⟩
   clear x0 x1 x2 x3 x4 x5 x6 x7 x8 xf HQ
   have HW4:=Lib.hid h4
   have HS4:Hid (WrS b v v4 W1 w4):=Lib.hid (HS3.out.trans hs4)
   clear h4 hs4
   obtain ⟨x0,x1,x2,x3,x4,x5,x6,x7,x8,xf⟩:=HX.out w4 v4 HS4.out
   dsimp only at x0 x1 x2 x3 x4 x5 x6 x7 x8
   go_wp2_with fail
   go_meet
   case rel =>
    refine Lib.hid ⟨⟨v4,?_,HS4.out⟩,HXo.out _ _ HS4.out⟩
    rw [HE.out]
    have h5:=HW4.out
    (try simp only [List.append_assoc] at h5)
    exact h5
  ·have hE:=headB_5 fi fg fn ff fa fb fs items.length
   have hL:=HHd.out
   rw [hE] at hL
   (try simp only [List.length_append,atomB_len,numB_len,strB_len,List.length_cons,List.length_nil] at hL)
   have HL:Hid _:=Lib.hid hL
   have HE:=Lib.hid hE
   clear hL hE
   have hq:=bytesN H1.out HB1'.out [113] 1 rfl (by have:=HL.out;have:=HNd.out;(try simp only [List.length_append,atomB_len,numB_len,strB_len,List.length_cons,List.length_nil]);omega)
   have e:(([113]:List UInt8).flatMap encB).toArray = #[.int .u8 113]:=by rfl
   rw [e] at hq
   clear e
   have HQ:=Lib.hid hq
   clear hq
   go_wp2_with fail
   refine HQ.out.mono ?_
   rintro e w1 ⟨rfl,v1,h1,hs1⟩
   clear x0 x1 x2 x3 x4 x5 x6 x7 x8 xf HQ
   have HW1:=Lib.hid h1
   have HS1:Hid (WrS b v v1 W1 w1):=Lib.hid hs1
   clear h1 hs1
   obtain ⟨x0,x1,x2,x3,x4,x5,x6,x7,x8,xf⟩:=HX.out w1 v1 HS1.out
   dsimp only at x0 x1 x2 x3 x4 x5 x6 x7 x8
   have hq:=atom100 HW1.out (Nat.le_trans HB1'.out HS1.out.touch.size) fn (by have:=HL.out;have:=HNd.out;(try simp only [List.length_append,atomB_len,numB_len,strB_len,List.length_cons,List.length_nil]);omega)
   have HQ:=Lib.hid hq
   clear hq
   go_wp2_with fail
   refine HQ.out.mono ?_
   rintro e w2 ⟨rfl,v2,h2,hs2⟩
   clear x0 x1 x2 x3 x4 x5 x6 x7 x8 xf HQ
   have HW2:=Lib.hid h2
   have HS2:Hid (WrS b v v2 W1 w2):=Lib.hid (HS1.out.trans hs2)
   clear h2 hs2
   obtain ⟨x0,x1,x2,x3,x4,x5,x6,x7,x8,xf⟩:=HX.out w2 v2 HS2.out
   dsimp only at x0 x1 x2 x3 x4 x5 x6 x7 x8
   have hq:=atom100 HW2.out (Nat.le_trans HB1'.out HS2.out.touch.size) ff (by have:=HL.out;have:=HNd.out;(try simp only [List.length_append,atomB_len,numB_len,strB_len,List.length_cons,List.length_nil]);omega)
   have HQ:=Lib.hid hq
   clear hq
   go_wp2_with fail
   refine HQ.out.mono ?_
   rintro e w3 ⟨rfl,v3,h3,hs3⟩
   clear x0 x1 x2 x3 x4 x5 x6 x7 x8 xf HQ
   have HW3:=Lib.hid h3
   have HS3:Hid (WrS b v v3 W1 w3):=Lib.hid (HS2.out.trans hs3)
   clear h3 hs3
   obtain ⟨x0,x1,x2,x3,x4,x5,x6,x7,x8,xf⟩:=HX.out w3 v3 HS3.out
   dsimp only at x0 x1 x2 x3 x4 x5 x6 x7 x8
   have hq:=integer99 HW3.out (Nat.le_trans HB1'.out HS3.out.touch.size) fa (by have:=HL.out;have:=HNd.out;(try simp only [List.length_append,atomB_len,numB_len,strB_len,List.length_cons,List.length_nil]);omega)
   have HQ:=Lib.hid hq
   clear hq
   go_wp2_with fail
   refine HQ.out.mono ?_
   rintro e w4 ⟨rfl,v4,h4,hs4⟩
   clear x0 x1 x2 x3 x4 x5 x6 x7 x8 xf HQ
   have HW4:=Lib.hid h4
   have HS4:Hid (WrS b v v4 W1 w4):=Lib.hid (HS3.out.trans hs4)
   clear h4 hs4
   obtain ⟨x0,x1,x2,x3,x4,x5,x6,x7,x8,xf⟩:=HX.out w4 v4 HS4.out
   dsimp only at x0 x1 x2 x3 x4 x5 x6 x7 x8
   go_wp2_with fail
   go_meet
   case rel =>
    refine Lib.hid ⟨⟨v4,?_,HS4.out⟩,HXo.out _ _ HS4.out⟩
    rw [HE.out]
    have h5:=HW4.out
    (try simp only [List.append_assoc] at h5)
    exact h5
  ·have hE:=headB_4 fi fg fn ff fa fb fs items.length
   have hL:=HHd.out
   rw [hE] at hL
   (try simp only [List.length_append,atomB_len,numB_len,strB_len,List.length_cons,List.length_nil] at hL)
   have HL:Hid _:=Lib.hid hL
   have HE:=Lib.hid hE
   clear hL hE
   have hq:=bytesN H1.out HB1'.out [112,byteOf fa] 2 rfl (by have:=HL.out;have:=HNd.out;(try simp only [List.length_append,atomB_len,numB_len,strB_len,List.length_cons,List.length_nil]);omega)
   have e:(([112,byteOf fa]:List UInt8).flatMap encB).toArray = #[.int .u8 112,.int .u8 (fa % 256)]:=by rw [← byteOf_nat];rfl
   rw [e] at hq
   clear e
   have HQ:=Lib.hid hq
   clear hq
   go_wp2_with fail
   refine HQ.out.mono ?_
   rintro e w1 ⟨rfl,v1,h1,hs1⟩
   clear x0 x1 x2 x3 x4 x5 x6 x7 x8 xf HQ
   have HW1:=Lib.hid h1
   have HS1:Hid (WrS b v v1 W1 w1):=Lib.hid hs1
   clear h1 hs1
   obtain ⟨x0,x1,x2,x3,x4,x5,x6,x7,x8,xf⟩:=HX.out w1 v1 HS1.out
   dsimp only at x0 x1 x2 x3 x4 x5 x6 x7 x8
   have hq:=number101 HW1.out (Nat.le_trans HB1'.out HS1.out.touch.size) fi 2 (by decide) (by have:=HL.out;have:=HNd.out;(try simp only [List.length_append,atomB_len,numB_len,strB_len,List.length_cons,List.length_nil]);omega)
   have HQ:=Lib.hid hq
   clear hq
   go_wp2_with fail
   refine HQ.out.mono ?_
   rintro e w2 ⟨rfl,v2,h2,hs2⟩
   clear x0 x1 x2 x3 x4 x5 x6 x7 x8 xf HQ
   have HW2:=Lib.hid h2
   have HS2:Hid (WrS b v v2 W1 w2):=Lib.hid (HS1.out.trans hs2)
   clear h2 hs2
   obtain ⟨x0,x1,x2,x3,x4,x5,x6,x7,x8,xf⟩:=HX.out w2 v2 HS2.out
   dsimp only at x0 x1 x2 x3 x4 x5 x6 x7 x8
   have hq:=bytesN HW2.out (Nat.le_trans HB1'.out HS2.out.touch.size) [byteOf items.length] 1 rfl (by have:=HL.out;have:=HNd.out;(try simp only [List.length_append,atomB_len,numB_len,strB_len,List.length_cons,List.length_nil]);omega)
   have e:(([byteOf items.length]:List UInt8).flatMap encB).toArray = #[.int .u8 ((items.length:Int) % 256)]:=by rw [← byteOf_nat];rfl
   rw [e] at hq
   clear e
   have HQ:=Lib.hid hq
   clear hq
   go_wp2_with fail
   refine HQ.out.mono ?_
   rintro e w3 ⟨rfl,v3,h3,hs3⟩
   clear x0 x1 x2 x3 x4 x5 x6 x7 x8 xf HQ
   have HW3:=Lib.hid h3
   have HS3:Hid (WrS b v v3 W1 w3):=Lib.hid (HS2.out.trans hs3)
   clear h3 hs3
   obtain ⟨x0,x1,x2,x3,x4,x5,x6,x7,x8,xf⟩:=HX.out w3 v3 HS3.out
   dsimp only at x0 x1 x2 x3 x4 x5 x6 x7 x8
   have hq:=atom100 HW3.out (Nat.le_trans HB1'.out HS3.out.touch.size) fn (by have:=HL.out;have:=HNd.out;(try simp only [List.length_append,atomB_len,numB_len,strB_len,List.length_cons,List.length_nil]);omega)
   have HQ:=Lib.hid hq
   clear hq
   go_wp2_with fail
   refine HQ.out.mono ?_
   rintro e w4 ⟨rfl,v4,h4,hs4⟩
   clear x0 x1 x2 x3 x4 x5 x6 x7 x8 xf HQ
   have HW4:=Lib.hid h4
   have HS4:Hid (WrS b v v4 W1 w4):=Lib.hid (HS3.out.trans hs4)
   clear h4 hs4
   obtain ⟨x0,x1,x2,x3,x4,x5,x6,x7,x8,xf⟩:=HX.out w4 v4 HS4.out
   dsimp only at x0 x1 x2 x3 x4 x5 x6 x7 x8
   have hq:=number101 HW4.out (Nat.le_trans HB1'.out HS4.out.touch.size) fg 4 (by decide) (by have:=HL.out;have:=HNd.out;(try simp only [List.length_append,atomB_len,numB_len,strB_len,List.length_cons,List.length_nil]);omega)
   have HQ:=Lib.hid hq
   clear hq
   go_wp2_with fail
   refine HQ.out.mono ?_
   rintro e w5 ⟨rfl,v5,h5,hs5⟩
   clear x0 x1 x2 x3 x4 x5 x6 x7 x8 xf HQ
   have HW5:=Lib.hid h5
   have HS5:Hid (WrS b v v5 W1 w5):=Lib.hid (HS4.out.trans hs5)
   clear h5 hs5
   obtain ⟨x0,x1,x2,x3,x4,x5,x6,x7,x8,xf⟩:=HX.out w5 v5 HS5.out
   dsimp only at x0 x1 x2 x3 x4 x5 x6 x7 x8
   go_wp2_with fail
   go_meet
   case rel =>
    refine Lib.hid ⟨⟨v5,?_,HS5.out⟩,HXo.out _ _ HS5.out⟩
    rw [HE.out]
    have h5:=HW5.out
    (try simp only [List.append_assoc] at h5)
    exact h5
 case rest =>
  obtain ⟨⟨v1,h1,hs1⟩,hz1⟩:=hcut.out
  clear hcut x0 x1 x2 x3 x4 x5 x6 x7 x8 xf hk HX HXo HK2
  have HS1:=Lib.hid hs1
  obtain ⟨x0,x1,x2,x3,x4,x5,x6,x7,x8,xf⟩:=nine_of hz1
  dsimp only at x0 x1 x2 x3 x4 x5 x6 x7 x8
  have HLh:Hid ((l ++ headB ⟨fk,fi,fg,fn,ff,fa,fb,fs⟩ items.length).length + 3000 * nodesL n items ≤ 900000000):=Lib.hid (by rw [List.length_append];have:=HNd.out;have:=HHd.out;omega)
  have HItc:Hid (ItemsAt wc B n (.slice p items.length c) items):=Lib.hid (HItems.out _ ((HBw.out.mono HB1.out.1).trans (hs1.low h1.hb (fun k hk=>HZb.out.2.2 k hk) (by have:=HB1.out;omega))))
  clear hs1 hz1 HHd HNd HItems HIt HZb
  have hbz:B ≤ wc.heap.size:=Nat.le_trans HB1.out.1 (by have:=HS1.out.touch.size;have:=HB1.out.2;omega)
  have HQe:Hid (∀ W',WrQ B b v1 (l ++ headB ⟨fk,fi,fg,fn,ff,fa,fb,fs⟩ items.length ++ encL n items) wc W'→WrQ B b v (l ++ (headB ⟨fk,fi,fg,fn,ff,fa,fb,fs⟩ items.length ++ encL n items)) w W'):=Lib.hid (fun W' ⟨v2,h2,hs2⟩=>⟨v2,by rw [← List.append_assoc];exact h2,(HS1.out.trans hs2).grow (by rw [HZs.out];exact HBw.out)⟩)
  generalize l ++ headB ⟨fk,fi,fg,fn,ff,fa,fb,fs⟩ items.length = l1 at *
  have H1c:=Lib.hid h1
  have H00:Hid (LoopI B b v1 l1 items wc items.length (.int .i64 0) wc):=Lib.hid ⟨0,rfl,Nat.zero_le _,rfl,v1,by rw [List.take_zero,encL_nil,List.append_nil];exact h1,WrS.refl _ _ _⟩
  clear h1 HS1
  go_wp2_with fail
  go_loopg [163] items.length (fun m iv wr=>Hid (LoopI B b v1 l1 items wc m iv wr))
  case atStart=>exact H00
  case round =>
   obtain ⟨i,rfl,hi,hm,v2,h2,hs2⟩:=hrel.out
   clear hrel H00
   have HM:=Lib.hid hm
   have HS2:=Lib.hid hs2
   clear hm
   by_cases hlt:i < items.length
   ·have hlo:Below B wc wr:=hs2.low H1c.out.hb (fun k hk=>(H1c.out.row.lt hk).1) hbz
    have hz2:B ≤ wr.heap.size:=Nat.le_trans hbz hs2.touch.size
    have hfl:formedL n (items.take i) = true:=formed_take HFt.out i
    have hen:=encL_len n (items.take i) hfl
    obtain ⟨g,o,x,q,mm,d,bs,rfl,hg,hC,hnx,hCall⟩:=termEl ih h2 hz2 (HItc.out.below hlo (Nat.le_refl _)) HFt.out i hlt (by have:=HLh.out;rw [List.length_append];omega)
    have HCall:=Lib.hid hCall
    have HNx:=Lib.hid hnx
    have HHz:=Lib.hid (Nat.lt_of_lt_of_le hg hz2)
    clear hCall hnx hen hfl hz2 hg hlo h2
    obtain ⟨x0,x1,x2,x3,x4,x5,x6,x7,x8⟩:=hC
    obtain ⟨y0,y1,y2,y3,y4,y5,y6,y7⟩:=x
    dsimp only at x0 x1 x2 x3 x4 x5 x6 x7 x8
    unfold aggV at HCall
    dsimp only at HCall
    go_wp2_with fail
    have hb1:Below wr.heap.size wr (wr.alloc (.cells #[.int .i64 y0,.int .i64 y1,.int .i64 y2,.string y3,.string y4,.int .i64 y5,.slice q mm d,.string y6,.int .i64 y7] 24)):=belowA (Below.refl _ _) _ (Nat.le_refl _)
    refine (HCall.out _ hb1).mono ?_
    rintro e w3 ⟨rfl,v3,h3,hs3⟩
    have HS3:Hid (WrS b v2 v3 wr w3):=Lib.hid (hs3.grow hb1)
    have HW3:=Lib.hid h3
    clear hb1 hs3 h3 x0 x1 x2 x3 x4 x5 x6 x7 x8
    have hll:=HLen.out
    go_wp2_with fail
    go_roundg (items.length - (i + 1))
    case measure=>have:=HM.out;omega
    case rel =>
     refine Lib.hid ⟨i + 1,by go_num,by omega,rfl,v3,?_,HS2.out.trans HS3.out⟩
     rw [HNx.out,← List.append_assoc]
     exact HW3.out
   ·obtain rfl:i = items.length:=by omega
    go_wp2_with fail
    go_end0
    rw [List.take_length] at h2
    exact ⟨rfl,HQe.out _ ⟨v2,h2,HS2.out⟩⟩
theorem termAll:∀ n,TermS n:=by
 intro n
 induction n with
 | zero=>exact termStep (fun m h=>by omega)
 | succ n ih => exact termStep (fun m h => by obtain rfl : n = m := by omega
                                              exact ih)
end Go.Proofs.YtfbggmbmgohiiaaGreat.tb
