/- Texts of this seat, one behind the other: TbG, TbH, TbN, TbI. No condition beyond theirs. -/
import Derived.Lib.ConvBytes
import Derived.Test.YtfbggmbmgohiiaaGreatK25
import Derived.Test.YtfbggmbmgohiiaaGreatK11
import Derived.Test.YtfbggmbmgohiiaaGreatK26
set_option linter.unusedSectionVars false
set_option linter.unusedSimpArgs false
set_option linter.unusedVariables false
set_option maxHeartbeats 4000000
set_option maxRecDepth 100000
namespace Go.Proofs.YtfbggmbmgohiiaaGreat.tb
open Go.RowKit mem rec tm names
theorem cells5:Tryz.prog.cellsOf 5 = 1:=by kernel_rfl
theorem string79 {w:World} {B b:Nat} {v:Value} {l:List UInt8} (h:WrAt w B b v l) (h0:l ≠ []):Calls Tryz.prog 79 #[.pointer (some ⟨b,0,none⟩)] w fun e w'=>e = .returned (.string ⟨l.toArray⟩)∧Below B w w':=by
 obtain ⟨⟨p,_,hbk⟩,hown,_,_⟩:=h
 have hl0:l.length ≠ 0:=by simpa using h0
 obtain ⟨g,cap,cur,rfl,hbg,hg,hnc,hcm,hcs,htake⟩:∃ g cap cur,v = .slice (some ⟨g,0,none⟩) l.length cap∧B ≤ g∧w.heap[g]? = some (.cells cur 5 (0,0))∧l.length ≤ cap∧cap ≤ maxLen∧cur.size = cap * 1∧cur.toList.take (l.length * 1) = l.flatMap encB:=by
  rcases hown.2 with ⟨_,hz⟩ | ⟨g,cap,cur,hv,r⟩
  ·exact absurd hz hl0
  ·exact ⟨g,cap,cur,hv,r⟩
 have c1:w.drew.cell? ⟨b,1,none⟩ = some (.slice (some ⟨g,0,none⟩) l.length cap):=(two_cells (w:=w.drew) hbk).2.1
 have hSD:(Builtin.unsafeSliceData_ #[86] 141 #[.slice (some ⟨g,0,none⟩) l.length cap]).run Tryz.prog w.drew = .ok (.pointer (some ⟨g,0,none⟩)) w.drew :=
  Lib.run_unsafeSliceData_row _ _ _ _ _ _ (by omega)
 have hUS:(Builtin.unsafeString_ #[141,3] 9 #[.pointer (some ⟨g,0,none⟩),.int .i64 l.length]).run Tryz.prog w.drew = .ok (.string ⟨l.toArray⟩) (w.drew.freeze ⟨g,0,none⟩ l.length):=by
  refine Lib.run_unsafeString_row w.drew 141 3 9 5 Tryz.underlying141 cells5 g cur.size (by have hg':w.drew.heap[g]? = some (.cells cur 5 (0,0)):=hg;simp [World.shape?,hg']) l h0 (by omega) (by unfold maxLen at hcm;omega) ?_
  intro j x hx
  have:=World.ownsRow.cells (g:=g) hown rfl j (.int .u8 x.toNat) (by rw [encB_flat];simp [Lib.byteCells,hx])
  exact this
 clear hbk hown hcs htake hg
 go_enter Tryz.func79,Tryz.ntmps79
 go_wp2
 go_region
 all_goals (go_wp2;go_ret;exact ⟨rfl,Lib.below_freeze (Below.drew (Below.refl B w)) (p:=⟨g,0,none⟩) hbg _⟩)
theorem nodes_whole:∀ (n:Nat) (l:List (Tm n)),formedL n l = true→(nodesL n l:Int) ≤ wholeL n l:=by
 intro n
 induction n with
 | zero=>intro l _;rw [Tm.nil0 l];simp [nodesL,wholeL]
 | succ n ih =>
  intro l hf
  induction l with
  | nil=>simp [nodesL,wholeL]
  | cons t l ih2 =>
   rw [formedL_cons,Bool.and_eq_true] at hf
   rw [nodesL_cons,wholeL_cons]
   have h1:=ih2 hf.2
   have h3:=ih t.items (formed_items hf.1)
   have h2:1 ≤ sizeF t.f t.items.length:=(okT_size t (by unfold formedT at hf;rw [Bool.and_eq_true] at hf;exact hf.1.1)).1
   unfold nodesT wholeT
   omega
theorem nodes_valid {n:Nat} {t:Tm (n + 1)} (h:validT t = true):nodesT t ≤ 2000:=by
 unfold validT at h
 rw [Bool.and_eq_true,decide_eq_true_eq] at h
 have h1:=nodes_whole n t.items (formed_items h.1)
 have h2:1 ≤ sizeF t.f t.items.length:=(okT_size t (by have h3:=h.1;unfold formedT at h3;rw [Bool.and_eq_true] at h3;exact h3.1)).1
 have h3:=h.2
 unfold wholeT at h3
 unfold nodesT
 omega
theorem put46y {n:Nat} (w:World) (B:Nat) (v:Value) (t:Tm (n + 1)) (hB:B ≤ w.heap.size) (hI:ItemsAt w B n v t.items) (hv:validT t = true) :
 Calls Tryz.prog 46 #[aggV t.f v] w fun e w'=>e = .returned (.tuple #[.string ⟨(131 :: encT t).toArray⟩,.int .i64 0])∧Below w.heap.size w w':=by
 have hnod:=nodes_valid hv
 have HV:=Lib.hid (fun W (hb:Below w.heap.size w W)=>ValidTm (ofAll n) W B v t (Nat.le_trans hB hb.size) (hI.below hb hB) (by omega))
 rw [hv] at HV
 have HT:=Lib.hid (fun W b u l (hb:Below w.heap.size w W) (hl:l.length ≤ 100) (hW:WrAt W w.heap.size b u l)=>termAll n W w.heap.size b u l v t hW hb.size ((hI.below hb hB).more hB) (valid_formed hv) (by omega))
 generalize encT t = bs at *
 obtain ⟨p,c,rfl,_,_⟩:=hI.shape
 generalize t.items.length = m at *
 generalize t.f = f at *
 clear hI hv hnod hB
 obtain ⟨fk,fi,fg,fn,ff,fa,fb,fs⟩:=f
 unfold aggV at *
 dsimp only at HV HT ⊢
 have hb0:=belowA (Below.refl w.heap.size w) (cells9 ⟨fk,fi,fg,fn,ff,fa,fb,fs⟩ (.slice p m c)) (Nat.le_refl _)
 have HZ:=Lib.hid (alloc_new w (cells9 ⟨fk,fi,fg,fn,ff,fa,fb,fs⟩ (.slice p m c)))
 have hz1:=(Array.getElem?_eq_some_iff.1 HZ.out).1
 have HB0:=Lib.hid hb0
 have HX:=Lib.hid (fun (W':World) (hs:W'.heap[w.heap.size]? = (w.alloc (cells9 ⟨fk,fi,fg,fn,ff,fa,fb,fs⟩ (.slice p m c))).heap[w.heap.size]?)=>(nine_of (hs.trans HZ.out):Nine W' w.heap.size ⟨fk,fi,fg,fn,ff,fa,fb,fs⟩ (.slice p m c)))
 have HZ1:=Lib.hid hz1
 unfold cells9 at HX HB0 HZ HZ1
 dsimp only at HX HB0 HZ HZ1
 clear hb0 hz1
 go_enter Tryz.func46,Tryz.ntmps46
 go_upto_region 1 with (fail)
 generalize (w.alloc (.cells #[.int .i64 fk,.int .i64 fi,.int .i64 fg,.string fn,.string ff,.int .i64 fa,.slice p m c,.string fb,.int .i64 fs] 24)) = W1 at *
 obtain ⟨x0,x1,x2,x3,x4,x5,x6,x7,x8,xf⟩:=HX.out W1 rfl
 dsimp only at x0 x1 x2 x3 x4 x5 x6 x7 x8
 go_wp2_with fail
 refine (HV.out _ HB0.out).mono ?_
 rintro e w2 ⟨rfl,hb2⟩
 have HB2:=Lib.hid (hb2)
 have HBw2:=Lib.hid (HB0.out.trans (hb2.mono HB0.out.size))
 clear hb2 x0 x1 x2 x3 x4 x5 x6 x7 x8 xf
 go_upto_region 4 with (fail)
 have hw2:WrAt (w2.alloc (.cells #[.pointer none,.slice none 0 0] 120)) w.heap.size w2.heap.size (.slice none 0 0) []:=⟨⟨_,.inl rfl,alloc_new _ _⟩,RecOwn.nil _ _ _,by simp [Value.ownBlock],HBw2.out.size⟩
 have hb3:=belowA HBw2.out (.cells #[.pointer none,.slice none 0 0] 120) HBw2.out.size
 have hz3:(w2.alloc (.cells #[.pointer none,.slice none 0 0] 120)).heap[w.heap.size]? = W1.heap[w.heap.size]?:=(Below.heap_alloc _ _ _ (Nat.lt_of_lt_of_le HZ1.out HB2.out.size)).trans (HB2.out.block _ HZ1.out)
 have hzl:w.heap.size < (w2.alloc (.cells #[.pointer none,.slice none 0 0] 120)).heap.size∧w.heap.size ≠ w2.heap.size:=by rw [World.size_alloc];have:=HB2.out.size;have:=HZ1.out;exact ⟨by omega,by omega⟩
 generalize (w2.alloc (.cells #[.pointer none,.slice none 0 0] 120)) = w3 at *
 generalize w2.heap.size = b at *
 have hq:=bytesN hw2 hb3.size [131] 1 rfl (by simp)
 have e:(([131]:List UInt8).flatMap encB).toArray = #[.int .u8 131]:=rfl
 rw [e] at hq
 have HQ:=Lib.hid hq
 have HB3:=Lib.hid hb3
 have HZ3:=Lib.hid hz3
 have HZl:=Lib.hid hzl
 clear e hq hb3 hz3 hzl hw2
 go_wp2_with fail
 refine HQ.out.mono ?_
 rintro e w4 ⟨rfl,v4,h4,hs4⟩
 obtain ⟨x0,x1,x2,x3,x4,x5,x6,x7,x8,xf⟩:=HX.out w4 ((hs4.other HZl.out.1 HZl.out.2 (by simp [Value.ownBlock])).trans HZ3.out)
 dsimp only at x0 x1 x2 x3 x4 x5 x6 x7 x8
 have hb4:Below w.heap.size w w4:=HB3.out.trans (hs4.low h4.hb (fun k hk=>by simp [Value.ownBlock] at hk) HB3.out.size)
 have HC:=Lib.hid (HT.out w4 b v4 _ hb4 (by simp) h4)
 have HB4:=Lib.hid hb4
 have HR4:=Lib.hid (fun k (hk:v4.ownBlock = some k)=>(h4.row.lt hk).1)
 clear hb4 h4 hs4
 go_wp2_with fail
 refine HC.out.mono ?_
 rintro e w5 ⟨rfl,v5,h5,hs5⟩
 have HS:=Lib.hid (string79 h5 (by simp))
 have HB5:Hid (Below w.heap.size w w5):=Lib.hid (HB4.out.trans (hs5.low h5.hb HR4.out HB4.out.size))
 clear h5 hs5 x0 x1 x2 x3 x4 x5 x6 x7 x8 xf
 go_wp2_with fail
 refine HS.out.mono ?_
 rintro e w6 ⟨rfl,hb6⟩
 have HB6:Hid (Below w.heap.size w w6):=Lib.hid (HB5.out.trans hb6)
 clear hb6
 go_wp2_with fail
 go_ret2
 exact ⟨rfl,HB6.out⟩
theorem put46n {n:Nat} (w:World) (B:Nat) (v:Value) (t:Tm (n + 1)) (hB:B ≤ w.heap.size) (hI:ItemsAt w B n v t.items) (hss:300 * (nodesT t:Int) ≤ 1000000000000) (hv:validT t = false) :
 Calls Tryz.prog 46 #[aggV t.f v] w fun e w'=>e = .returned (.tuple #[.string ⟨#[]⟩,.int .i64 2])∧Below w.heap.size w w':=by
 have HV:=Lib.hid (fun W (hb:Below w.heap.size w W)=>ValidTm (ofAll n) W B v t (Nat.le_trans hB hb.size) (hI.below hb hB) hss)
 rw [hv] at HV
 obtain ⟨p,c,rfl,_,_⟩:=hI.shape
 generalize t.items.length = m at *
 generalize t.f = f at *
 clear hI hv hB hss
 obtain ⟨fk,fi,fg,fn,ff,fa,fb,fs⟩:=f
 unfold aggV at *
 dsimp only at HV ⊢
 have HB0:=Lib.hid (belowA (Below.refl w.heap.size w) (cells9 ⟨fk,fi,fg,fn,ff,fa,fb,fs⟩ (.slice p m c)) (Nat.le_refl _))
 have hx:=nine_of (alloc_new w (cells9 ⟨fk,fi,fg,fn,ff,fa,fb,fs⟩ (.slice p m c)))
 unfold cells9 at hx HB0
 dsimp only at hx HB0
 obtain ⟨x0,x1,x2,x3,x4,x5,x6,x7,x8,xf⟩:=hx
 dsimp only at x0 x1 x2 x3 x4 x5 x6 x7 x8
 go_enter Tryz.func46,Tryz.ntmps46
 go_wp2_with fail
 refine (HV.out _ HB0.out).mono ?_
 rintro e w2 ⟨rfl,hb2⟩
 have HBw2:=Lib.hid (HB0.out.trans (hb2.mono HB0.out.size))
 clear hb2 x0 x1 x2 x3 x4 x5 x6 x7 x8 xf
 go_wp2_with fail
 go_ret2
 exact ⟨rfl,HBw2.out⟩
noncomputable def hashT {n:Nat} (t:Tm (n + 1)):Int:=if validT t then hashB (131 :: encT t) else 0
def HashI (l:List UInt8) (w:World) (m:Nat) (sv iv:Value) (wr:World):Prop:=∃ i:Nat,iv = .int .i64 (i:Int)∧i ≤ l.length∧m = l.length - i∧sv = .int .u32 (crcL (l.take i))∧wr = w
def BitI (s:Int) (w:World) (m:Nat) (sv iv:Value) (wr:World):Prop:=∃ i:Nat,iv = .int .i64 (i:Int)∧i ≤ 8∧m = 8 - i∧sv = .int .u32 (crcN i s)∧wr = w
theorem hash12y {n:Nat} (w:World) (B:Nat) (v:Value) (t:Tm (n + 1)) (hB:B ≤ w.heap.size) (hI:ItemsAt w B n v t.items) (hv:validT t = true) :
 Calls Tryz.prog 12 #[aggV t.f v] w fun e w'=>e = .returned (.int .u32 (hashB (131 :: encT t)))∧Below w.heap.size w w':=by
 have HP:=Lib.hid (fun W (hb:Below w.heap.size w W)=>put46y W B v t (Nat.le_trans hB hb.size) (hI.below hb hB) hv)
 have hlen:(131 :: encT t).length ≤ 10000000:=by
  have h1:=encL_len n t.items (formed_items (valid_formed hv))
  have h2:=headB_len (valid_formed hv)
  have h3:=nodes_valid hv
  have h4:nodesT t = 1 + nodesL n t.items:=rfl
  unfold encT
  simp
  omega
 generalize 131 :: encT t = l at *
 obtain ⟨p,c,rfl,_,_⟩:=hI.shape
 generalize t.items.length = m at *
 generalize t.f = f at *
 clear hI hv hB
 obtain ⟨fk,fi,fg,fn,ff,fa,fb,fs⟩:=f
 unfold aggV at *
 dsimp only at HP ⊢
 have HB0:=Lib.hid (belowA (Below.refl w.heap.size w) (cells9 ⟨fk,fi,fg,fn,ff,fa,fb,fs⟩ (.slice p m c)) (Nat.le_refl _))
 have hx:=nine_of (alloc_new w (cells9 ⟨fk,fi,fg,fn,ff,fa,fb,fs⟩ (.slice p m c)))
 unfold cells9 at hx HB0
 dsimp only at hx HB0
 obtain ⟨x0,x1,x2,x3,x4,x5,x6,x7,x8,xf⟩:=hx
 dsimp only at x0 x1 x2 x3 x4 x5 x6 x7 x8
 go_enter Tryz.func12,Tryz.ntmps12
 go_wp2_with fail
 refine (HP.out _ HB0.out).mono ?_
 rintro e w2 ⟨rfl,hb2⟩
 have HBw2:=Lib.hid (HB0.out.trans (hb2.mono HB0.out.size))
 clear hb2 x0 x1 x2 x3 x4 x5 x6 x7 x8 xf
 have hcv:=Lib.run_convert_string_bytes w2 9 86 5 ⟨l.toArray⟩ Tryz.underlying9 Tryz.underlying86 Tryz.underlying5
 go_wp2_with fail
 have hc3:∀ j,(h:j < l.length)→(Lib.bytesWorld w2 5 ⟨l.toArray⟩).cell? ⟨w2.heap.size,j,none⟩ = some (.int .u8 l[j].toNat):=fun j hj=>by
  rw [Lib.bytesWorld_cell w2 5 ⟨l.toArray⟩ j (by show j < l.toArray.size;simpa using hj)]
  simp [List.getD,hj]
 have hb3:Below w2.heap.size w2 (Lib.bytesWorld w2 5 ⟨l.toArray⟩):=Lib.below_freeze (belowA (belowD (Below.refl w2.heap.size w2)) _ (Nat.le_refl _)) (Nat.le_refl _) _
 have HB3:=Lib.hid (belowCC HBw2.out hb3)
 have HC3:=Lib.hid hc3
 clear hc3 hb3 hcv
 generalize Lib.bytesWorld w2 5 ⟨l.toArray⟩ = w3 at *
 generalize w2.heap.size = z at *
 generalize grownCap w2 l.length 0 5 = cp at *
 have HLen:=Lib.hid hlen
 have H00:Hid (HashI l w3 l.length (.int .u32 4294967295) (.int .i64 0) w3):=Lib.hid ⟨0,rfl,Nat.zero_le _,rfl,rfl,rfl⟩
 go_loopg [5,18] l.length (fun m sv iv wr=>Hid (HashI l w3 m sv iv wr))
 case atStart=>exact H00
 case round =>
  obtain ⟨i,rfl,hi,hm,rfl,rfl⟩:=hrel.out
  clear hrel H00
  have HM:=Lib.hid hm
  clear hm
  by_cases hlt:i < l.length
  ·have c0:=HC3.out i hlt
   have HTk:=Lib.hid (crcL_take l i hlt)
   have hrg:=crcL_rng (l.take i)
   generalize crcL (l.take i) = S at *
   generalize l[i] = ch at *
   have hch:(ch.toNat:Int) % 4294967296 = ch.toNat:=by have:=ch.toNat_lt;omega
   have hxr:=xor_rng S ch.toNat
   have H01:Hid (BitI (bits .xor .u32 S ch.toNat) wr 8 (.int .u32 (bits .xor .u32 S ch.toNat)) (.int .i64 0) wr):=Lib.hid ⟨0,rfl,by decide,rfl,rfl,rfl⟩
   go_wp2_with fail
   obtain ⟨s,hs⟩:∃ s,bits .xor .u32 S ch.toNat = s:=⟨_,rfl⟩
   rw [hs] at hxr H01 ⊢
   have HS:=Lib.hid hs
   clear hs hch hrg c0
   go_loopg [5,26] 8 (fun m sv iv wq=>Hid (BitI s wr m sv iv wq))
   case atStart=>exact H01
   case round =>
    obtain ⟨j,rfl,hj,hm,rfl,rfl⟩:=hrel.out
    clear hrel H01
    have HMj:=Lib.hid hm
    clear hm
    by_cases hlj:j < 8
    ·obtain ⟨r0,r1⟩:=crcN_rng j hxr.1 hxr.2
     have HSn:=Lib.hid (crcN_snoc j s)
     generalize crcN j s = q at *
     have ha:=and_one q r0 r1
     by_cases hq:q % 2 = 1
     ·rw [hq] at ha
      have HO:=Lib.hid (crc_odd hq)
      have hn:IntKind.u32.wrap (-1) = 4294967295:=rfl
      have hp:bits .and .u32 3988292384 4294967295 = 3988292384:=rfl
      go_wp2_with fail
      go_roundg (8 - (j + 1))
      case measure=>have:=HMj.out;omega
      case rel=>exact Lib.hid ⟨j + 1,by go_num,by omega,rfl,by rw [HSn.out,← HO.out],rfl⟩
     ·have hq0:q % 2 = 0:=by omega
      rw [hq0] at ha
      have HO:=Lib.hid (crc_even r0 r1 hq0)
      have hp:bits .and .u32 3988292384 0 = 0:=rfl
      go_wp2_with fail
      go_roundg (8 - (j + 1))
      case measure=>have:=HMj.out;omega
      case rel=>exact Lib.hid ⟨j + 1,by go_num,by omega,rfl,by rw [HSn.out,← HO.out],rfl⟩
    ·obtain rfl:j = 8:=by omega
     go_wp2_with fail
     go_roundg (l.length - (i + 1))
     case measure=>have:=HM.out;omega
     case rel=>exact Lib.hid ⟨i + 1,by go_num,by omega,rfl,by rw [HTk.out];unfold crcB;rw [HS.out],rfl⟩
  ·obtain rfl:i = l.length:=by omega
   rw [List.take_length]
   go_wp2_with fail
   go_ret
   refine ⟨?_,HB3.out⟩
   unfold hashB
   rw [xor_comm]
   rfl
theorem hash12n {n:Nat} (w:World) (B:Nat) (v:Value) (t:Tm (n + 1)) (hB:B ≤ w.heap.size) (hI:ItemsAt w B n v t.items) (hss:300 * (nodesT t:Int) ≤ 1000000000000) (hv:validT t = false) :
 Calls Tryz.prog 12 #[aggV t.f v] w fun e w'=>e = .returned (.int .u32 0)∧Below w.heap.size w w':=by
 have HP:=Lib.hid (fun W (hb:Below w.heap.size w W)=>put46n W B v t (Nat.le_trans hB hb.size) (hI.below hb hB) hss hv)
 obtain ⟨p,c,rfl,_,_⟩:=hI.shape
 generalize t.items.length = m at *
 generalize t.f = f at *
 clear hI hv hB hss
 obtain ⟨fk,fi,fg,fn,ff,fa,fb,fs⟩:=f
 unfold aggV at *
 dsimp only at HP ⊢
 have HB0:=Lib.hid (belowA (Below.refl w.heap.size w) (cells9 ⟨fk,fi,fg,fn,ff,fa,fb,fs⟩ (.slice p m c)) (Nat.le_refl _))
 have hx:=nine_of (alloc_new w (cells9 ⟨fk,fi,fg,fn,ff,fa,fb,fs⟩ (.slice p m c)))
 unfold cells9 at hx HB0
 dsimp only at hx HB0
 obtain ⟨x0,x1,x2,x3,x4,x5,x6,x7,x8,xf⟩:=hx
 dsimp only at x0 x1 x2 x3 x4 x5 x6 x7 x8
 go_enter Tryz.func12,Tryz.ntmps12
 go_wp2_with fail
 refine (HP.out _ HB0.out).mono ?_
 rintro e w2 ⟨rfl,hb2⟩
 have HBw2:=Lib.hid (HB0.out.trans (hb2.mono HB0.out.size))
 clear hb2 x0 x1 x2 x3 x4 x5 x6 x7 x8 xf
 go_wp2_with fail
 go_ret
 exact ⟨rfl,HBw2.out⟩
theorem Hash12 {n:Nat} (w:World) (B:Nat) (v:Value) (t:Tm (n + 1)) (hB:B ≤ w.heap.size) (hI:ItemsAt w B n v t.items) (hss:300 * (nodesT t:Int) ≤ 1000000000000) :
 Calls Tryz.prog 12 #[aggV t.f v] w fun e w'=>e = .returned (.int .u32 (hashT t))∧Below w.heap.size w w':=by
 cases hv:validT t with
 | false=>unfold hashT;rw [hv];exact hash12n w B v t hB hI hss hv
 | true=>unfold hashT;rw [hv];exact hash12y w B v t hB hI hv
def tyOf (w:World) (k:Nat):Option TypeId:=match w.heap[k]? with
 | some (.cells _ t _)=>some t
 | _=>none
theorem tyOf_of {w:World} {k:Nat} {c:Array Value} {t:TypeId} {f:Nat × Nat} (h:w.heap[k]? = some (.cells c t f)):tyOf w k = some t:=by unfold tyOf;rw [h]
theorem tyOf_same {w w':World} {k:Nat} (h:w'.heap[k]? = w.heap[k]?):tyOf w' k = tyOf w k:=by unfold tyOf;rw [h]
def TyS (T:TypeId→Prop) (B:Nat) (w:World) (k:Nat):Prop:=B ≤ k∧∃ t,tyOf w k = some t∧T t
def TT (T:TypeId→Prop) (B:Nat) (w w':World):Prop:=TouchB (TyS T B w) w w'
section
variable {T:TypeId→Prop} {B:Nat} {a b c:World}
theorem TT.refl:TT T B a a:=TouchB.refl _ _
theorem TT.back (h:TT T B a b) {i:Nat} (hi:i < a.heap.size) (hs:TyS T B b i):TyS T B a i:=by
 by_cases hn:TyS T B a i
 ·exact hn
 ·obtain ⟨hB,t,ht,hT⟩:=hs
  exact ⟨hB,t,(tyOf_same (h.block i hi hn)).symm.trans ht,hT⟩
theorem TT.trans (h:TT T B a b) (k:TT T B b c):TT T B a c:=TouchB.trans h k (fun i hi hs=>h.back hi hs)
theorem TT.ofBelow (h:TT T B a b) (hb:Below b.heap.size b c):TT T B a c:=TouchB.ofBelow h hb h.size
theorem TT.new (hb:Below a.heap.size a b):TT T B a b:=(TouchB.refl _ a).ofBelow hb (Nat.le_refl _)
theorem TT.below (h:TT T B a b) (hB:B ≤ a.heap.size):Below B a b:=TouchB.below h (fun k hk=>hk.1) hB
theorem TT.keep (h:TT T B a b) {k:Nat} (hk:k < a.heap.size) (hn:∀ t,tyOf a k = some t→¬ T t):b.heap[k]? = a.heap[k]?:=h.block k hk (fun ⟨_,t,ht,hT⟩=>hn t ht hT)
theorem TT.keepC (h:TT T B a b) {k:Nat} {x:Array Value} {t:TypeId} {f:Nat × Nat} (hk:a.heap[k]? = some (.cells x t f)) (hn:¬ T t):b.heap[k]? = some (.cells x t f) :=
 (h.keep (Array.getElem?_eq_some_iff.1 hk).1 (fun t' ht=>by rw [tyOf_of hk] at ht;obtain rfl:=Option.some.inj ht;exact hn)).trans hk
theorem TT.setCell (h:TT T B a b) {p:Addr} {x:Array Value} {t:TypeId} {f:Nat × Nat} (hp:b.heap[p.block]? = some (.cells x t f)) (hT:T t) (hB:B ≤ p.block) (u:Value):TT T B a (b.setCell p u) :=
 TouchB.setCell h p u (fun hi=>h.back hi ⟨hB,t,tyOf_of hp,hT⟩)
theorem TT.alloc (h:TT T B a b) (o:Obj):TT T B a (b.alloc o):=TouchB.alloc h o
theorem TT.drew (h:TT T B a b):TT T B a b.drew:=TouchB.drew h
theorem TT.drewN (h:TT T B a b) (n:Nat):TT T B a (b.drewN n):=TouchB.drewN h n
end
theorem ownTy {α:Type} {enc:α→List Value} {e s:Nat} {w:World} {base:Nat} {v:Value} {l:List α} (h:RecOwn enc e s w base v l) {k:Nat} (hk:v.ownBlock = some k):tyOf w k = some e:=by
 rcases h.2 with ⟨h1,_⟩ | ⟨g,cap,cur,h1,_,hh,_⟩
 ·subst h1;simp [Value.ownBlock] at hk
 ·subst h1
  obtain rfl:g = k:=by simpa [Value.ownBlock] using hk
  exact tyOf_of hh
structure RowE (N:Nat) where
 k:Tm (N + 1)
 v:Tm (N + 1)
 h:Int
 uk:Value
 uv:Value
def rowL {N:Nat} (r:RowE N):List Value:=nineL r.k.f r.uk ++ (nineL r.v.f r.uv ++ [.int .u32 r.h])
structure TabE (N:Nat) where
 ref:Tm (N + 1)
 own:Tm (N + 1)
 ur:Value
 uo:Value
 hs:Bool
 vr:Value
 rows:List (RowE N)
 b:Nat
def kindV (hs:Bool):Value:=if hs then .iface 99 (.agg #[]) else .iface 93 (.agg #[])
def tabL {N:Nat} (t:TabE N):List Value:=nineL t.ref.f t.ur ++ (nineL t.own.f t.uo ++ [kindV t.hs,t.vr])
def ptrL (b:Nat):List Value:=[.pointer (some ⟨b,0,none⟩)]
structure TabAt {N:Nat} (w:World) (B:Nat) (F:Nat→Prop) (t:TabE N):Prop where
 blk:w.heap[t.b]? = some (.cells (tabL t).toArray 98)
 rows:RecOwn rowL 108 19 w B t.vr t.rows
 iref:ItemsIn w F N t.ur t.ref.items
 iown:ItemsIn w F N t.uo t.own.items
 irow:∀ r ∈ t.rows,ItemsIn w F N r.uk r.k.items∧ItemsIn w F N r.uv r.v.items
 low:B ≤ t.b
structure TbSt (N:Nat) where
 z:Nat
 vl:Value
 tabs:List (TabE N)
structure TbAt {N:Nat} (w:World) (B:Nat) (F:Nat→Prop) (s:TbSt N):Prop where
 obj:w.heap[s.z]? = some (.cells #[.bool true,s.vl] 74)
 l:RecOwn ptrL 89 1 w B s.vl (s.tabs.map (·.b))
 tabs:∀ t ∈ s.tabs,TabAt w B F t
 nd:(s.tabs.map (·.b)).Nodup
 rnd:∀ (i j:Nat) (ti tj:TabE N),s.tabs[i]? = some ti→s.tabs[j]? = some tj→i ≠ j→∀ k,ti.vr.ownBlock = some k→tj.vr.ownBlock ≠ some k
 low:B ≤ s.z
 ty:Typed w F
 fl:∀ g,F g→g < w.heap.size
def progT (t:TypeId):Prop:=t = 74∨t = 89∨t = 98∨t = 108
section
variable {N:Nat} {w w':World} {B:Nat} {F:Nat→Prop}
theorem ItemsIn.shape {n:Nat} {v:Value} {l:List (Tm n)} (h:ItemsIn w F n v l):∃ p c,v = .slice p l.length c∧l.length ≤ c∧c ≤ maxLen:=by
 cases n with
 | zero =>
  obtain ⟨p,c,rfl,hc⟩:=h
  have:=Tm.nil0 l
  subst this
  exact ⟨p,c,rfl,Nat.zero_le _,hc⟩
 | succ n=>obtain ⟨p,c,e,h1,h2,_⟩:=h;exact ⟨p,c,e,h1,h2⟩
theorem nineL_one {f:TF} {u:Value} (h:u.oneCell' = true):∀ x ∈ nineL f u,x.oneCell' = true:=by
 intro x hx
 simp only [nineL,List.mem_cons,List.mem_nil_iff,or_false] at hx
 rcases hx with rfl | rfl | rfl | rfl | rfl | rfl | rfl | rfl | rfl
 all_goals first | rfl | exact h
theorem in_one {n:Nat} {v:Value} {l:List (Tm n)} (h:ItemsIn w F n v l):v.oneCell' = true:=by
 obtain ⟨p,c,rfl,_,_⟩:=ItemsIn.shape h
 rfl
theorem rowL_len (r:RowE N):(rowL r).length = 19:=rfl
theorem TabAt.enc {t:TabE N} (h:TabAt w B F t):EncOK rowL 19 t.rows:=fun r hr=>⟨rowL_len r,fun u hu=>by
 obtain ⟨h1,h2⟩:=h.irow r hr
 unfold rowL at hu
 rcases List.mem_append.1 hu with hu | hu
 ·exact nineL_one (in_one h1) u hu
 rcases List.mem_append.1 hu with hu | hu
 ·exact nineL_one (in_one h2) u hu
 ·simp at hu;subst hu;rfl⟩
theorem ptrL_ok (l:List Nat):EncOK ptrL 1 l:=fun a _=>⟨rfl,fun u hu=>by simp [ptrL] at hu;subst hu;rfl⟩
theorem TabAt.lt {t:TabE N} (h:TabAt w B F t):t.b < w.heap.size:=(Array.getElem?_eq_some_iff.1 h.blk).1
theorem TabAt.same {F':Nat→Prop} {t:TabE N} (h:TabAt w B F t) (h1:w'.heap[t.b]? = w.heap[t.b]?) (h2:∀ k,t.vr.ownBlock = some k→w'.heap[k]? = w.heap[k]?) (h3:∀ g,F g→w'.heap[g]? = w.heap[g]?) (h4:∀ g,F g→F' g):TabAt w' B F' t :=
 ⟨h1.trans h.blk,h.rows.same h2,h.iref.mono h3 h4,h.iown.mono h3 h4,fun r hr=>⟨(h.irow r hr).1.mono h3 h4,(h.irow r hr).2.mono h3 h4⟩,h.low⟩
theorem TbAt.zlt {s:TbSt N} (h:TbAt w B F s):s.z < w.heap.size:=(Array.getElem?_eq_some_iff.1 h.obj).1
theorem TbAt.same {s:TbSt N} (h:TbAt w B F s) (hs:∀ k,k < w.heap.size→(F k∨∃ t,tyOf w k = some t∧progT t)→w'.heap[k]? = w.heap[k]?) (hz:w.heap.size ≤ w'.heap.size):TbAt w' B F s:=by
 have hF:∀ g,F g→w'.heap[g]? = w.heap[g]?:=fun g hg=>hs g (h.fl g hg) (.inl hg)
 refine ⟨(hs _ h.zlt (.inr ⟨_,tyOf_of h.obj,.inl rfl⟩)).trans h.obj,h.l.same (fun k hk=>hs k (h.l.lt hk).2 (.inr ⟨_,ownTy h.l hk,.inr (.inl rfl)⟩)),fun t ht=>?_,h.nd,h.rnd,h.low,h.ty.same hF,fun g hg=>Nat.lt_of_lt_of_le (h.fl g hg) hz⟩
 have h1:=h.tabs t ht
 exact h1.same (hs _ h1.lt (.inr ⟨_,tyOf_of h1.blk,.inr (.inr (.inl rfl))⟩)) (fun k hk=>hs k (h1.rows.lt hk).2 (.inr ⟨_,ownTy h1.rows hk,.inr (.inr (.inr rfl))⟩)) hF (fun _ hg=>hg)
theorem TbAt.below {s:TbSt N} (h:TbAt w B F s) (hb:Below w.heap.size w w'):TbAt w' B F s:=h.same (fun k hk _=>hb.block k hk) hb.size
end
def OwnQ (l:List UInt8) (w:World) (e:Ending) (w':World):Prop:=∃ v,e = .returned v∧RecOwn encB 5 1 w' w.heap.size v l∧Below w.heap.size w w'
theorem make86 (W:World) (k:Nat) (hc:k ≤ 1000):(Instr.makeSlice 86 (.int .i64 k) (.int .i64 k)).run Tryz.prog W = .ok (.slice (some ⟨W.heap.size,0,none⟩) k k) (W.alloc (.cells ((List.replicate k (0:UInt8)).flatMap encB).toArray 5)):=by
 obtain ⟨i0,hi,hz,hs,hb⟩:=info_parts info5
 have:=run_make (P:=Tryz.prog) W 86 5 i0 _ Tryz.underlying86 hi hz .i64 .i64 (k:Int) (k:Int) (by omega) (by omega) (by rw [hb];omega) (by omega)
 rw [hs] at this
 simp only [Int.toNat_natCast] at this
 rw [this]
 congr 3
 apply Array.ext
 ·rw [size_madeCells]
  simp [flat_len (encB_ok _)]
 ·intro i h1 h2
  have e:(madeCells (Value.int .u8 0).cells (k * 1))[i] = .int .u8 0:=by
   simp [madeCells]
   show (#[Value.int .u8 0]:Array Value)[i % 1]! = _
   rw [Nat.mod_one]
   rfl
  have h0:∀ (q:List UInt8) (j:Nat) (hj:j < (q.flatMap encB).length) (hq:∀ b ∈ q,b = 0),(q.flatMap encB)[j] = .int .u8 0:=by
   intro q j hj hq
   have:=List.getElem_mem hj
   obtain ⟨b,hb,hu⟩:=List.mem_flatMap.1 this
   rw [hq b hb] at hu
   simpa [encB] using hu
  refine e.trans ?_
  rw [List.getElem_toArray]
  exact (h0 _ _ _ (fun b hb=>(List.mem_replicate.1 hb).2)).symm
def numJ (n:Int) (k j:Nat):List UInt8:=List.replicate j 0 ++ (numB n k).drop j
theorem numJ_step (n:Int) (k j:Nat) (h0:0 < j) (h:j ≤ k):(numJ n k j).set (j - 1) (byteOf (n / 256 ^ (k - j))) = numJ n k (j - 1):=by
 obtain ⟨i,rfl⟩:∃ i,j = i + 1:=⟨j - 1,by omega⟩
 have hl:i < (numB n k).length:=by rw [numB_len];omega
 unfold numJ
 rw [Nat.add_sub_cancel,List.replicate_succ',List.append_assoc,List.set_append_right _ _ (by simp),List.length_replicate,Nat.sub_self]
 rw [List.drop_eq_getElem_cons hl]
 simp only [List.singleton_append,List.set_cons_zero]
 congr 2
 simp only [numB,List.getElem_map,List.getElem_range]
 rw [show k - 1 - i = k - (i + 1) by omega]
def Num2 (n:Int) (k:Nat) (w:World) (m:Nat) (nv iv:Value) (wr:World):Prop:=∃ j:Nat,j ≤ k∧iv = .int .i64 ((j:Int) - 1)∧m = j∧nv = .int .i64 (n / 256 ^ (k - j))∧wr.heap[w.heap.size]? = some (.cells ((numJ n k j).flatMap encB).toArray 5)∧Below w.heap.size w wr
theorem flat_set (l:List UInt8) (i:Nat) (c:UInt8):((l.flatMap encB).toArray.setIfInBounds i (.int .u8 c.toNat)) = ((l.set i c).flatMap encB).toArray:=by
 rw [encB_flat,encB_flat]
 unfold Lib.byteCells
 simp [List.map_set]
theorem div_step (n:Int) (k j:Nat) (h0:0 < j) (h:j ≤ k):n / 256 ^ (k - j) / 256 = n / 256 ^ (k - (j - 1)):=by
 rw [show k - (j - 1) = k - j + 1 by omega,Int.pow_succ,Int.ediv_ediv_of_nonneg (Int.pow_nonneg (by decide))]
theorem number105 (w:World) (n:Int) (k:Nat) (hk:k ≤ 8):Calls Tryz.prog 105 #[.int .i64 n,.int .i64 k] w (OwnQ (numB n k) w):=by
 have hmk:=fun W=>make86 W k (by omega)
 have hw0:IntKind.i64.wrap ((k:Int) - 1) = (k:Int) - 1:=IntWalk.i64_in _ (by omega)
 have H00:Hid (Num2 n k w k (.int .i64 n) (.int .i64 ((k:Int) - 1)) (w.alloc (.cells ((List.replicate k (0:UInt8)).flatMap encB).toArray 5))):=Lib.hid ⟨k,Nat.le_refl _,rfl,rfl,by simp,by
  rw [alloc_new]
  unfold numJ
  rw [List.drop_of_length_le (by rw [numB_len];exact Nat.le_refl _),List.append_nil],belowA (Below.refl _ _) _ (Nat.le_refl _)⟩
 go_enter Tryz.func105,Tryz.ntmps105
 go_wp2_with fail
 go_loopg [0,6] k (fun m nv iv wr=>Hid (Num2 n k w m nv iv wr))
 case atStart=>exact H00
 case round =>
  obtain ⟨j,hj,rfl,hm,rfl,hz,hb⟩:=hrel.out
  clear hrel H00 hmk
  have HM:=Lib.hid hm
  have HB:=Lib.hid hb
  have HZ:=Lib.hid hz
  clear hm
  by_cases h0:0 < j
  ·have hge:(0:Int) ≤ (j:Int) - 1:=by omega
   have hsm:(j:Int) ≤ 8:=by omega
   have hjk:(j:Int) - 1 < (k:Int):=by omega
   have hlen:(numJ n k j).length = k:=by unfold numJ;simp [numB_len];omega
   have hc:∃ u,wr.cell? ⟨w.heap.size,j - 1,none⟩ = some u:=by
    have:j - 1 < ((numJ n k j).flatMap encB).length:=by rw [flat_len (encB_ok _),hlen];omega
    refine ⟨((numJ n k j).flatMap encB)[j - 1],?_⟩
    simp only [World.cell?,hz]
    simp
   obtain ⟨u,hc⟩:=hc
   have hf:wr.frozen? ⟨w.heap.size,j - 1,none⟩ = false:=by simp only [World.frozen?,hz];simp
   have HBy:=Lib.hid (byteOf_nat (n / 256 ^ (k - j)))
   have HDv:=Lib.hid (div_step n k j h0 hj)
   clear hz hb hlen
   go_wp2_with fail
   go_roundg (j - 1)
   case measure=>have:=HM.out;omega
   case rel =>
    refine Lib.hid ⟨j - 1,by omega,by congr 1;omega,rfl,by rw [HDv.out],?_,HB.out.setCell (p:=⟨w.heap.size,j - 1,none⟩) (Nat.le_refl _) _⟩
    rw [heap_setCell_same wr w.heap.size (j - 1) _ 5 _ HZ.out,← HBy.out,flat_set,numJ_step n k j h0 hj]
  ·obtain rfl:j = 0:=by omega
   go_wp2_with fail
   go_ret
   refine ⟨.slice (some ⟨w.heap.size,0,none⟩) k k,rfl,?_,HB.out⟩
   have hz0:=HZ.out
   unfold numJ at hz0
   simp only [List.replicate_zero,List.drop_zero,List.nil_append] at hz0
   refine ⟨?_,.inr ⟨w.heap.size,k,_,by rw [numB_len],Nat.le_refl _,hz0,by rw [numB_len];exact Nat.le_refl _,by unfold maxLen;omega,?_,?_⟩⟩
   ·rw [flat_len (encB_ok _)]
   ·rw [List.size_toArray,flat_len (encB_ok _),numB_len]
   ·rw [List.take_of_length_le]
    rw [flat_len (encB_ok _)]
    exact Nat.le_refl _
theorem own_new (w:World) (l:List UInt8) (k base:Nat) (hk:l.length = k) (hb:base ≤ w.heap.size) (hl:k ≤ 1000000):RecOwn encB 5 1 (w.alloc (.cells (l.flatMap encB).toArray 5)) base (.slice (some ⟨w.heap.size,0,none⟩) k k) l:=by
 subst hk
 refine ⟨flat_len (encB_ok _),.inr ⟨w.heap.size,_,_,rfl,hb,alloc_new _ _,Nat.le_refl _,by unfold maxLen;omega,?_,?_⟩⟩
 ·rw [List.size_toArray,flat_len (encB_ok _)]
 ·exact List.take_of_length_le (by rw [flat_len (encB_ok _)];exact Nat.le_refl _)
theorem atom104 (w:World) (s:ByteArray) (hs:s.size ≤ 1000000):Calls Tryz.prog 104 #[.string s] w (OwnQ (atomB s) w):=by
 have hr:=own_new w [119,byteOf s.size] 2 w.heap.size rfl (Nat.le_refl _) (by decide)
 have e:([119,byteOf s.size].flatMap encB).toArray = #[.int .u8 119,.int .u8 ((s.size:Int) % 256)]:=by rw [← byteOf_nat];rfl
 rw [e] at hr
 have HR:=Lib.hid hr
 have hb:=belowA (Below.refl w.heap.size w) (.cells #[.int .u8 119,.int .u8 ((s.size:Int) % 256)] 5) (Nat.le_refl _)
 have HB:=Lib.hid hb
 have hz:=hb.size
 clear e hr hb
 go_enter Tryz.func104,Tryz.ntmps104
 go_wp2_with (first
  | (refine wpList_append_str rfl (.tmp 6) (.tmp 7) rfl rfl HR.out hz rfl (by simp;omega) ?_;intro v' w2 hA;obtain ⟨ao',cap',hv,_,_⟩:=hA.own.shape;subst hv;have HA:Hid (AppR encB 5 1 (w.alloc (.cells #[.int .u8 119,.int .u8 ((s.size:Int) % 256)] 5)) w.heap.size (.slice (some ⟨w.heap.size,0,none⟩) 2 2) [119,byteOf s.size] (strB s) (.slice ao' ([119,byteOf s.size] ++ strB s).length cap') w2):=Lib.hid hA;clear hA))
 go_ret
 exact ⟨_,rfl,HA.out.own,HA.out.belowB HB.out HB.out.size (fun k hk=>by have e:w.heap.size = k:=Option.some.inj hk;omega)⟩
end Go.Proofs.YtfbggmbmgohiiaaGreat.tb
