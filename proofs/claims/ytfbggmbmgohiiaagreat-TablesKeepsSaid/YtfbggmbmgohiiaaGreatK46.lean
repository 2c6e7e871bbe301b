/- Texts of this seat, one behind the other: TbL, TcH, TcI, TcJ. No condition beyond theirs. -/
import Derived.Laws.BytesString
import Derived.Laws.Cells
import Derived.Test.YtfbggmbmgohiiaaGreatK45
import Derived.Test.YtfbggmbmgohiiaaGreatK41
import Derived.Test.YtfbggmbmgohiiaaGreatK01
set_option linter.unusedSimpArgs false
set_option linter.unusedVariables false
set_option maxHeartbeats 4000000
set_option maxRecDepth 100000
namespace Go.Proofs.YtfbggmbmgohiiaaGreat.tb
open Go.RowKit mem rec tm names
theorem fold_push:∀ (l:List UInt8) (r:ByteArray),(l.map (fun b=>(b.toNat:Int))).foldl (fun (r:ByteArray) (n:Int)=>r.push (UInt8.ofNat n.toNat)) r = ⟨r.data ++ l.toArray⟩:=by
 intro l
 induction l with
 | nil=>intro r;simp
 | cons a l ih =>
  intro r
  rw [List.map_cons,List.foldl_cons,ih]
  simp [ByteArray.push]
theorem bytes_to {l:List UInt8} {w:World} {B:Nat} {v:Value} (h:RecAt encB 1 w B v l):(convert 86 9 v).run Tryz.prog w = .ok (.string ⟨l.toArray⟩) w:=by
 obtain ⟨p,c,rfl,_,_,h3⟩:=h
 rw [run_convert_bytes_string w 86 9 5 p l.length c Tryz.underlying86 Tryz.underlying5 Tryz.underlying9]
 cases p with
 | none =>
  cases l with
  | nil=>rfl
  | cons a l=>obtain ⟨g,o,e,_⟩:=h3 (by simp);cases e
 | some a =>
  have h4:(loadCells a l.length).run Tryz.prog w = .ok ((l.map (fun b=>(b.toNat:Int))).map (Value.int .u8)).toArray w:=by
   have:=run_loadCells_list (P:=Tryz.prog) (w:=w) a ((l.map (fun b=>(b.toNat:Int))).map (Value.int .u8)) (fun j u hj=>by
    simp only [List.map_map,List.getElem?_map,Option.map_eq_some_iff] at hj
    obtain ⟨x,hx,rfl⟩:=hj
    obtain ⟨g,o,e,_,hc⟩:=h3 (by intro e;subst e;simp at hx)
    obtain rfl:=Option.some.inj e
    have:=hc j x hx 0 _ rfl
    rw [Addr.add_lit]
    simpa using this)
   simpa using this
  rw [run_bytesToString w a l.length c _ h4,fold_push]
  simp [ByteArray.empty,ByteArray.emptyWithCapacity]
  rfl
theorem cat131 (l:List UInt8):(⟨#[131]⟩:ByteArray) ++ ⟨l.toArray⟩ = ⟨(131 :: l).toArray⟩:=by
 apply ByteArray.ext
 rw [ByteArray.data_append]
 simp
theorem put47y {n:Nat} (w:World) (B:Nat) (v:Value) (t:Tm (n + 1)) (hB:B ≤ w.heap.size) (hI:ItemsAt w B n v t.items) (hv:validT t = true) :
 Calls Tryz.prog 47 #[aggV t.f v] w fun e w'=>e = .returned (.tuple #[.string ⟨(131 :: encT t).toArray⟩,.int .i64 0])∧Below w.heap.size w w':=by
 have hnod:=nodes_valid hv
 have HV:=Lib.hid (fun W (hb:Below w.heap.size w W)=>RValid W B v t (Nat.le_trans hB hb.size) (hI.below hb hB) (by omega))
 rw [hv] at HV
 have hlen:(encT t).length ≤ 10000000:=by
  have h1:=encL_len n t.items (formed_items (valid_formed hv))
  have h2:=headB_len (valid_formed hv)
  have h4:nodesT t = 1 + nodesL n t.items:=rfl
  unfold encT
  rw [List.length_append]
  omega
 have HC:=Lib.hid (fun W (hb:Below w.heap.size w W)=>codeAll n W B v t (Nat.le_trans hB hb.size) (hI.below hb hB) (valid_formed hv) (by omega))
 generalize encT t = l at *
 obtain ⟨p,c,rfl,_,_⟩:=hI.shape
 generalize t.items.length = m at *
 generalize t.f = f at *
 clear hI hv hnod hB
 obtain ⟨fk,fi,fg,fn,ff,fa,fb,fs⟩:=f
 unfold aggV at *
 unfold BPost at HV
 dsimp only at HV HC ⊢
 have hb0:=belowA (Below.refl w.heap.size w) (cells9 ⟨fk,fi,fg,fn,ff,fa,fb,fs⟩ (.slice p m c)) (Nat.le_refl _)
 have HZ:=Lib.hid (alloc_new w (cells9 ⟨fk,fi,fg,fn,ff,fa,fb,fs⟩ (.slice p m c)))
 have hz1:=(Array.getElem?_eq_some_iff.1 HZ.out).1
 have HB0:=Lib.hid hb0
 have HX:=Lib.hid (fun (W':World) (hs:W'.heap[w.heap.size]? = (w.alloc (cells9 ⟨fk,fi,fg,fn,ff,fa,fb,fs⟩ (.slice p m c))).heap[w.heap.size]?)=>(nine_of (hs.trans HZ.out):Nine W' w.heap.size ⟨fk,fi,fg,fn,ff,fa,fb,fs⟩ (.slice p m c)))
 have HZ1:=Lib.hid hz1
 unfold cells9 at HX HB0 HZ HZ1
 dsimp only at HX HB0 HZ HZ1
 clear hb0 hz1
 go_enter Tryz.func47,Tryz.ntmps47
 go_upto_region 1 with (fail)
 generalize (w.alloc (.cells #[.int .i64 fk,.int .i64 fi,.int .i64 fg,.string fn,.string ff,.int .i64 fa,.slice p m c,.string fb,.int .i64 fs] 24)) = W1 at *
 obtain ⟨x0,x1,x2,x3,x4,x5,x6,x7,x8,xf⟩:=HX.out W1 rfl
 dsimp only at x0 x1 x2 x3 x4 x5 x6 x7 x8
 go_wp2_with fail
 refine (HV.out _ HB0.out).mono ?_
 rintro e w2 ⟨rfl,hb2⟩
 obtain ⟨x0,x1,x2,x3,x4,x5,x6,x7,x8,xf⟩:=HX.out w2 (hb2.block _ HZ1.out)
 dsimp only at x0 x1 x2 x3 x4 x5 x6 x7 x8
 have HBw2:=Lib.hid (HB0.out.trans (hb2.mono HB0.out.size))
 clear hb2
 go_wp2_with fail
 refine (HC.out _ HBw2.out).mono ?_
 rintro e w3 ⟨v3,rfl,ho,hb⟩
 have hcv:=bytes_to (ho.row (encB_ok _))
 obtain ⟨p3,c3,hv,_,_⟩:=ho.shape
 have hs2:(⟨l.toArray⟩:ByteArray).size = l.length:=by show l.toArray.size = _;simp
 generalize l.length = q at hv hlen hs2
 subst hv
 have HB3:=Lib.hid (HBw2.out.trans (hb.mono HBw2.out.size))
 clear ho hb x0 x1 x2 x3 x4 x5 x6 x7 x8 xf
 go_wp2_with fail
 go_ret2
 exact ⟨by rw [cat131];rfl,HB3.out⟩
theorem put47n {n:Nat} (w:World) (B:Nat) (v:Value) (t:Tm (n + 1)) (hB:B ≤ w.heap.size) (hI:ItemsAt w B n v t.items) (hss:300 * (nodesT t:Int) ≤ 1000000000000) (hv:validT t = false) :
 Calls Tryz.prog 47 #[aggV t.f v] w fun e w'=>e = .returned (.tuple #[.string ⟨#[]⟩,.int .i64 2])∧Below w.heap.size w w':=by
 have HV:=Lib.hid (fun W (hb:Below w.heap.size w W)=>RValid W B v t (Nat.le_trans hB hb.size) (hI.below hb hB) hss)
 rw [hv] at HV
 obtain ⟨p,c,rfl,_,_⟩:=hI.shape
 generalize t.items.length = m at *
 generalize t.f = f at *
 clear hI hv hB hss
 obtain ⟨fk,fi,fg,fn,ff,fa,fb,fs⟩:=f
 unfold aggV at *
 unfold BPost at HV
 dsimp only at HV ⊢
 have HB0:=Lib.hid (belowA (Below.refl w.heap.size w) (cells9 ⟨fk,fi,fg,fn,ff,fa,fb,fs⟩ (.slice p m c)) (Nat.le_refl _))
 have hx:=nine_of (alloc_new w (cells9 ⟨fk,fi,fg,fn,ff,fa,fb,fs⟩ (.slice p m c)))
 unfold cells9 at hx HB0
 dsimp only at hx HB0
 obtain ⟨x0,x1,x2,x3,x4,x5,x6,x7,x8,xf⟩:=hx
 dsimp only at x0 x1 x2 x3 x4 x5 x6 x7 x8
 go_enter Tryz.func47,Tryz.ntmps47
 go_wp2_with fail
 refine (HV.out _ HB0.out).mono ?_
 rintro e w2 ⟨rfl,hb2⟩
 have HBw2:=Lib.hid (HB0.out.trans (hb2.mono HB0.out.size))
 clear hb2 x0 x1 x2 x3 x4 x5 x6 x7 x8 xf
 go_wp2_with fail
 go_ret2
 exact ⟨rfl,HBw2.out⟩
theorem rhash13y {n:Nat} (w:World) (B:Nat) (v:Value) (t:Tm (n + 1)) (hB:B ≤ w.heap.size) (hI:ItemsAt w B n v t.items) (hv:validT t = true) :
 Calls Tryz.prog 13 #[aggV t.f v] w fun e w'=>e = .returned (.int .u32 (hashB (131 :: encT t)))∧Below w.heap.size w w':=by
 have HP:=Lib.hid (fun W (hb:Below w.heap.size w W)=>put47y W B v t (Nat.le_trans hB hb.size) (hI.below hb hB) hv)
 have hlen:(131 :: encT t).length ≤ 10000000:=by
  have h1:=encL_len n t.items (formed_items (valid_formed hv))
  have h2:=headB_len (valid_formed hv)
  have h3:=nodes_valid hv
  have h4:nodesT t = 1 + nodesL n t.items:=rfl
  unfold encT
  simp
  omega
 generalize 131 :: encT t = l at *
 obtain ⟨p,c,rfl,_,_⟩:=hI.shape
 generalize t.items.length = m at *
 generalize t.f = f at *
 clear hI hv hB
 obtain ⟨fk,fi,fg,fn,ff,fa,fb,fs⟩:=f
 unfold aggV at *
 dsimp only at HP ⊢
 have HB0:=Lib.hid (belowA (Below.refl w.heap.size w) (cells9 ⟨fk,fi,fg,fn,ff,fa,fb,fs⟩ (.slice p m c)) (Nat.le_refl _))
 have hx:=nine_of (alloc_new w (cells9 ⟨fk,fi,fg,fn,ff,fa,fb,fs⟩ (.slice p m c)))
 unfold cells9 at hx HB0
 dsimp only at hx HB0
 obtain ⟨x0,x1,x2,x3,x4,x5,x6,x7,x8,xf⟩:=hx
 dsimp only at x0 x1 x2 x3 x4 x5 x6 x7 x8
 go_enter Tryz.func13,Tryz.ntmps13
 go_wp2_with fail
 refine (HP.out _ HB0.out).mono ?_
 rintro e w3 ⟨rfl,hb2⟩
 have HB3:=Lib.hid (HB0.out.trans (hb2.mono HB0.out.size))
 clear hb2 x0 x1 x2 x3 x4 x5 x6 x7 x8 xf
 have HLen:=Lib.hid hlen
 have hsz:(⟨l.toArray⟩:ByteArray).size = l.length:=by show l.toArray.size = _;simp
 have H00:Hid (HashI l w3 l.length (.int .u32 4294967295) (.int .i64 0) w3):=Lib.hid ⟨0,rfl,Nat.zero_le _,rfl,rfl,rfl⟩
 go_wp2_with fail
 go_loopg [5,6] l.length (fun m sv iv wr=>Hid (HashI l w3 m sv iv wr))
 case atStart=>exact H00
 case round =>
  obtain ⟨i,rfl,hi,hm,rfl,rfl⟩:=hrel.out
  clear hrel H00
  have HM:=Lib.hid hm
  clear hm
  by_cases hlt:i < l.length
  ·have HTk:=Lib.hid (crcL_take l i hlt)
   have hrg:=crcL_rng (l.take i)
   generalize crcL (l.take i) = S at *
   have he:((⟨l.toArray⟩:ByteArray)[i]'(by rw [hsz];exact hlt)) = l[i]:=rfl
   go_wp2_with fail
   (try rw [he])
   clear he
   generalize l[i] = ch at *
   have hch:(ch.toNat:Int) % 4294967296 = ch.toNat:=by have:=ch.toNat_lt;omega
   have hxr:=xor_rng S ch.toNat
   have H01:Hid (BitI (bits .xor .u32 S ch.toNat) wr 8 (.int .u32 (bits .xor .u32 S ch.toNat)) (.int .i64 0) wr):=Lib.hid ⟨0,rfl,by decide,rfl,rfl,rfl⟩
   rw [hch]
   obtain ⟨s,hs⟩:∃ s,bits .xor .u32 S ch.toNat = s:=⟨_,rfl⟩
   rw [hs] at hxr H01 ⊢
   have HS:=Lib.hid hs
   clear hs hch hrg
   go_loopg [5,7] 8 (fun m sv iv wq=>Hid (BitI s wr m sv iv wq))
   case atStart=>exact H01
   case round =>
    obtain ⟨j,rfl,hj,hm,rfl,rfl⟩:=hrel.out
    clear hrel H01
    have HMj:=Lib.hid hm
    clear hm
    by_cases hlj:j < 8
    ·obtain ⟨r0,r1⟩:=crcN_rng j hxr.1 hxr.2
     have HSn:=Lib.hid (crcN_snoc j s)
     generalize crcN j s = q at *
     have htm:q.tmod 2 = q % 2:=Int.tmod_eq_emod_of_nonneg r0
     have htd:q.tdiv 2 = q / 2:=Int.tdiv_eq_ediv_of_nonneg r0
     by_cases hq:q % 2 = 1
     ·have HO:=Lib.hid (crc_odd hq)
      rw [hq] at htm
      go_wp2_with fail
      go_roundg (8 - (j + 1))
      case measure=>have:=HMj.out;omega
      case rel=>exact Lib.hid ⟨j + 1,by go_num,by omega,rfl,by rw [HSn.out,← HO.out],rfl⟩
     ·have hq0:q % 2 = 0:=by omega
      have HO:=Lib.hid (crc_even r0 r1 hq0)
      have HX:=Lib.hid (xor_zero (q / 2) (by omega) (by omega))
      rw [hq0] at htm
      go_wp2_with fail
      go_roundg (8 - (j + 1))
      case measure=>have:=HMj.out;omega
      case rel=>exact Lib.hid ⟨j + 1,by go_num,by omega,rfl,by rw [HSn.out,← HO.out,HX.out],rfl⟩
    ·obtain rfl:j = 8:=by omega
     go_wp2_with fail
     go_roundg (l.length - (i + 1))
     case measure=>have:=HM.out;omega
     case rel=>exact Lib.hid ⟨i + 1,by go_num,by omega,rfl,by rw [HTk.out];unfold crcB;rw [HS.out],rfl⟩
  ·obtain rfl:i = l.length:=by omega
   rw [List.take_length]
   go_wp2_with fail
   go_ret
   exact ⟨rfl,HB3.out⟩
theorem rhash13n {n:Nat} (w:World) (B:Nat) (v:Value) (t:Tm (n + 1)) (hB:B ≤ w.heap.size) (hI:ItemsAt w B n v t.items) (hss:300 * (nodesT t:Int) ≤ 1000000000000) (hv:validT t = false) :
 Calls Tryz.prog 13 #[aggV t.f v] w fun e w'=>e = .returned (.int .u32 0)∧Below w.heap.size w w':=by
 have HP:=Lib.hid (fun W (hb:Below w.heap.size w W)=>put47n W B v t (Nat.le_trans hB hb.size) (hI.below hb hB) hss hv)
 obtain ⟨p,c,rfl,_,_⟩:=hI.shape
 generalize t.items.length = m at *
 generalize t.f = f at *
 clear hI hv hB hss
 obtain ⟨fk,fi,fg,fn,ff,fa,fb,fs⟩:=f
 unfold aggV at *
 dsimp only at HP ⊢
 have HB0:=Lib.hid (belowA (Below.refl w.heap.size w) (cells9 ⟨fk,fi,fg,fn,ff,fa,fb,fs⟩ (.slice p m c)) (Nat.le_refl _))
 have hx:=nine_of (alloc_new w (cells9 ⟨fk,fi,fg,fn,ff,fa,fb,fs⟩ (.slice p m c)))
 unfold cells9 at hx HB0
 dsimp only at hx HB0
 obtain ⟨x0,x1,x2,x3,x4,x5,x6,x7,x8,xf⟩:=hx
 dsimp only at x0 x1 x2 x3 x4 x5 x6 x7 x8
 go_enter Tryz.func13,Tryz.ntmps13
 go_wp2_with fail
 refine (HP.out _ HB0.out).mono ?_
 rintro e w2 ⟨rfl,hb2⟩
 have HBw2:=Lib.hid (HB0.out.trans (hb2.mono HB0.out.size))
 clear hb2 x0 x1 x2 x3 x4 x5 x6 x7 x8 xf
 go_wp2_with fail
 go_ret
 exact ⟨rfl,HBw2.out⟩
theorem RHash13 {n:Nat} (w:World) (B:Nat) (v:Value) (t:Tm (n + 1)) (hB:B ≤ w.heap.size) (hI:ItemsAt w B n v t.items) (hss:300 * (nodesT t:Int) ≤ 1000000000000) :
 Calls Tryz.prog 13 #[aggV t.f v] w fun e w'=>e = .returned (.int .u32 (hashT t))∧Below w.heap.size w w':=by
 cases hv:validT t with
 | false=>unfold hashT;rw [hv];exact rhash13n w B v t hB hI hss hv
 | true=>unfold hashT;rw [hv];exact rhash13y w B v t hB hI hv
theorem valid_flat {f:TF} (h1:inB f.kind 0 10 = true) (h2:okF f 0 (lastK 0 ([]:List (Tm 0))) = true) (h3:{ bareF f with kind:=0 } = zeroF) (h4:sizeF f 0 ≤ 2000):validT (Tm.mk (n:=0) f []) = true:=by
 have e1:(Tm.mk (n:=0) f []).f = f:=rfl
 have e2:(Tm.mk (n:=0) f []).items = []:=rfl
 have h3':bareOK f 0 = true:=by
  unfold bareOK
  rw [eqB_t h3]
  simp
 unfold validT formedT okT wholeT formedL wholeL
 rw [e1,e2]
 simp only [List.length_nil,h1,h2,h3',Bool.and_self,Bool.true_and,decide_eq_true_eq]
 omega
def aN:ByteArray:=⟨#[97]⟩
theorem ref_valid:validT (refT (N:=0) 1) = true:=valid_flat (by kernel_rfl) (by kernel_rfl) rfl (by show (1:Int) ≤ 2000;decide)
theorem pid_valid:validT (pidT (N:=0) 1) = true:=valid_flat (by kernel_rfl) (by kernel_rfl) rfl (by show (1:Int) ≤ 2000;decide)
theorem int_valid (k:Int):validT (intT (N:=0) k) = true:=valid_flat (by kernel_rfl) (by kernel_rfl) rfl (by show (1:Int) ≤ 2000;decide)
theorem atom_valid:validT (atomT (N:=0) aN) = true:=valid_flat (by kernel_rfl) (by kernel_rfl) rfl (by show (1:Int) ≤ 2000;decide)
theorem cmp_a3:cmpV (atomT (N:=0) aN) (intT 3) = 1:=by
 unfold cmpV
 rw [atom_valid,int_valid]
 kernel_rfl
theorem ne_a3:atomT (N:=0) aN ≠ intT 3:=fun e=>by
 have:=congrArg (fun t=>t.f.kind) e
 exact absurd this (by decide)
abbrev R1:Tm (0 + 1):=refT 1
abbrev P1:Tm (0 + 1):=pidT 1
abbrev A1:Tm (0 + 1):=atomT aN
abbrev I1:Tm (0 + 1):=intT 1
abbrev I3:Tm (0 + 1):=intT 3
def StR (B z:Nat) (l:List (Tm (0 + 1) × Tm (0 + 1))) (W:World):Prop:=∃ F vl t,TbAt W B F ⟨z,vl,[t]⟩∧t.ref = R1∧t.hs = false∧t.rows.map (fun r=>(r.k,r.v)) = l
section
variable {B z:Nat} {l:List (Tm (0 + 1) × Tm (0 + 1))} {W W':World}
theorem StR.below (h:StR B z l W) (hb:Below W.heap.size W W'):StR B z l W':=by
 obtain ⟨F,vl,t,h1,h2⟩:=h
 exact ⟨F,vl,t,h1.below hb,h2⟩
theorem ref_one {t:TabE 0} (h:t.ref = R1):refAt [t] R1 = some 0:=by
 unfold refAt
 rw [List.findIdx?_cons,eqB_t h]
 rfl
theorem c_make {F:Nat→Prop} (h:TbAt W B F ⟨z,nilV,([]:List (TabE 0))⟩) (hB:B ≤ W.heap.size):Calls Tryz.prog 17 #[.pointer (some ⟨z,0,none⟩),aggV R1.f nilV,aggV P1.f nilV,.bool false] W fun e w'=>e = .returned (.int .i64 0)∧StR B z [] w'∧TT progT B W w':=by
 refine (make17y h hB (by simp) (Nat.zero_le B) (flat_items W 0) (flat_items W 0) (by decide) (by decide) ref_valid pid_valid rfl rfl false (by simp) rfl).mono ?_
 rintro e w' ⟨rfl,F1,ur,uo,vl,b,h1,h2,_⟩
 exact ⟨rfl,⟨F1,vl,_,h1,rfl,rfl,rfl⟩,h2⟩
theorem c_twice (h:StR B z l W) (hB:B ≤ W.heap.size) (hs:Bool):Calls Tryz.prog 17 #[.pointer (some ⟨z,0,none⟩),aggV R1.f nilV,aggV P1.f nilV,.bool hs] W fun e w'=>e = .returned (.int .i64 8)∧Below W.heap.size W w':=by
 obtain ⟨F,vl,t,h1,h2,_,_⟩:=h
 exact make17t h1 hB (by simp) (Nat.zero_le B) (flat_items W 0) (flat_items W 0) (by decide) (by decide) ref_valid pid_valid rfl rfl hs (i:=0) (by simp) (ref_one h2)
theorem c_put (h:StR B z l W) (hB:B ≤ W.heap.size) {k v:Tm (0 + 1)} (hk:nodesT k ≤ 100000000) (hv:nodesT v ≤ 100000000) (hki:k.items = []) (hvi:v.items = []) (h1:validT k = true) (h2:validT v = true) (hno:∀ x ∈ l,x.1 ≠ k∧¬ cmpV x.1 k < 0∧nodesT x.1 ≤ 100000000) (hl:l.length ≤ 1) :
 Calls Tryz.prog 24 #[.pointer (some ⟨z,0,none⟩),aggV R1.f nilV,aggV k.f nilV,aggV v.f nilV] W fun e w'=>e = .returned (.int .i64 0)∧StR B z ((k,v) :: l) w'∧TT progT B W w':=by
 obtain ⟨F,vl,t,hT,hr,hs,hrows⟩:=h
 have hlen:t.rows.length = l.length:=by rw [← hrows,List.length_map]
 have hmem:∀ x ∈ t.rows,x.k ≠ k∧¬ cmpV x.k k < 0∧nodesT x.k ≤ 100000000:=fun x hx=>hno (x.k,x.v) (by rw [← hrows];exact List.mem_map.2 ⟨x,hx,rfl⟩)
 have hok:FindOK t k:=⟨fun x hx=>by have:=(hmem x hx).2.2;omega,by omega,fun i j hj hi=>by omega⟩
 have hpos:posK t k = 0:=by
  unfold posK keyAt
  cases hq:t.rows with
  | nil=>rfl
  | cons x xs =>
   have hx:=hmem x (by rw [hq];exact List.mem_cons_self)
   have:befB t.hs x.k k x.h (hK t.hs k) = false:=by
    unfold befB
    rw [hs,if_neg (by decide),decide_eq_false hx.2.1]
   rw [List.findIdx_cons,this]
   rfl
 have hhas:hasK t k = false:=by
  unfold hasK
  rw [hpos]
  cases hq:t.rows with
  | nil=>rfl
  | cons x xs =>
   have hx:=hmem x (by rw [hq];exact List.mem_cons_self)
   exact eqB_f hx.1
 have hIk:ItemsAt W 0 0 nilV k.items:=by rw [hki];exact flat_items W 0
 have hIv:ItemsAt W 0 0 nilV v.items:=by rw [hvi];exact flat_items W 0
 refine (put24y hT hB (by simp) (Nat.zero_le B) (flat_items W 0:ItemsAt W 0 0 nilV R1.items) hIk hIv hk hv h1 h2 (i:=0) (by simp) (ref_one hr) hok).mono ?_
 rintro e w' ⟨rfl,F1,uk,uv,vr,hq⟩
 obtain ⟨h3,h4⟩:=hq.upd hT (i:=0) (by simp)
 refine ⟨rfl,⟨F1,vl,_,h3,hr,hs,?_⟩,h4⟩
 show (setV (midRows t k uk) (posK t k) v uv).map (fun r=>(r.k,r.v)) = (k,v) :: l
 unfold midRows
 rw [hhas,if_neg (by decide),hpos]
 unfold insK setV
 simp only [List.take_zero,List.nil_append,List.singleton_append,List.drop_zero,List.getElem?_cons_zero,List.set_cons_zero,List.map_cons,hrows,newRow]
theorem c_first {k v:Tm (0 + 1)} (h:StR B z ((k,v) :: l) W) (hk:nodesT k ≤ 100000000) (hv:nodesT v ≤ 100000000):Calls Tryz.prog 39 #[.pointer (some ⟨z,0,none⟩),aggV R1.f nilV] W (RowP k v W):=by
 obtain ⟨F,vl,t,hT,hr,hs,hrows⟩:=h
 have h0:0 < t.rows.length:=by
  have:=congrArg List.length hrows
  simp at this
  omega
 have hrow:((t.rows[0]).k,(t.rows[0]).v) = (k,v):=by
  have:=congrArg (fun x=>x[0]?) hrows
  simp only [List.getElem?_map,List.getElem?_cons_zero,List.getElem?_eq_getElem h0,Option.map_some] at this
  exact Option.some.inj this
 simp only [Prod.mk.injEq] at hrow
 obtain ⟨e1,e2⟩:=hrow
 have:=first39y hT (by simp) (Nat.zero_le W.heap.size) (flat_items W 0:ItemsAt W 0 0 nilV R1.items) (i:=0) (by simp) (ref_one hr) h0 (e1.symm ▸ hk:nodesT (t.rows[0]).k ≤ 100000000) (e2.symm ▸ hv:nodesT (t.rows[0]).v ≤ 100000000)
 simp only [List.getElem_cons_zero,e1,e2] at this
 exact this
theorem c_size (h:StR B z l W):Calls Tryz.prog 31 #[.pointer (some ⟨z,0,none⟩),aggV R1.f nilV] W fun e w'=>e = .returned (.tuple #[.int .i64 l.length,.int .i64 0])∧Below W.heap.size W w':=by
 obtain ⟨F,vl,t,hT,hr,hs,hrows⟩:=h
 have hlen:t.rows.length = l.length:=by rw [← hrows,List.length_map]
 refine size31 hT (by simp) (Nat.zero_le W.heap.size) (flat_items W 0:ItemsAt W 0 0 nilV R1.items) (n:=l.length) (er:=0) (.inr ⟨0,by simp,ref_one hr,?_,rfl⟩)
 show (l.length:Int) = (t.rows.length:Int)
 rw [hlen]
end
theorem ld2 (w:World) (a:Addr) (v:Value) (h:w.cell? a = some v):(loadVar 2 a).run Tryz.prog w = .ok v w:=by
 go_simp
theorem ld9 (w:World) (a:Addr) (v:Value) (h:w.cell? a = some v):(loadVar 9 a).run Tryz.prog w = .ok v w:=by
 go_simp
theorem shown9 (w:World):Calls Tryz.prog 9 #[] w (BPost true w):=by
 have HRf:=Lib.hid (fun W=>ref18 (N:=0) 1 W)
 have HPd:=Lib.hid (fun W=>pid19 (N:=0) 1 W)
 have HI1:=Lib.hid (fun W=>int29 (N:=0) 1 W)
 have HI3:=Lib.hid (fun W=>int29 (N:=0) 3 W)
 have HAt:=Lib.hid (fun W=>atom43 (N:=0) ⟨#[97]⟩ W)
 have HNew:=Lib.hid (new16 (N:=0) w w.heap.size (Nat.le_refl _))
 have HMk:=Lib.hid (fun W F (h:TbAt W w.heap.size F ⟨w.heap.size,nilV,([]:List (TabE 0))⟩) hB=>c_make h hB)
 have HTw:=Lib.hid (fun W (h:StR w.heap.size w.heap.size [] W) hB=>c_twice h hB true)
 have HP1:=Lib.hid (fun W (h:StR w.heap.size w.heap.size [] W) hB=>c_put h hB (k:=A1) (v:=I1) (by decide) (by decide) rfl rfl atom_valid (int_valid 1) (fun x hx=>by cases hx) (by decide))
 have HP2:=Lib.hid (fun W (h:StR w.heap.size w.heap.size [(A1,I1)] W) hB=>c_put h hB (k:=I3) (v:=A1) (by decide) (by decide) rfl rfl (int_valid 3) atom_valid (fun x hx=>by
  obtain rfl:x = (A1,I1):=by simpa using hx
  exact ⟨ne_a3,by rw [cmp_a3];decide,by decide⟩) (by decide))
 have HFs:=Lib.hid (fun W (h:StR w.heap.size w.heap.size [(I3,A1),(A1,I1)] W)=>c_first h (by decide) (by decide))
 have HSz:=Lib.hid (fun W (h:StR w.heap.size w.heap.size [(I3,A1),(A1,I1)] W)=>c_size h)
 have HH:=Lib.hid (fun W=>Hash12 (n:=0) W 0 nilV A1 (Nat.zero_le _) (flat_items W 0) (by decide))
 have HR:=Lib.hid (fun W=>RHash13 (n:=0) W 0 nilV A1 (Nat.zero_le _) (flat_items W 0) (by decide))
 have HOne:Hid (∀ (W W':World) G u (k:Tm (0 + 1)),NewI W W' G 0 u k.items→u.oneCell' = true):=Lib.hid (fun W W' G u k hN=>in_one hN.items)
 obtain ⟨RV,hRV⟩:∃ x,aggV (refT (N:=0) 1).f nilV = x:=⟨_,rfl⟩
 obtain ⟨PV,hPV⟩:∃ x,aggV (pidT (N:=0) 1).f nilV = x:=⟨_,rfl⟩
 obtain ⟨V1,hV1⟩:∃ x,aggV (intT (N:=0) 1).f nilV = x:=⟨_,rfl⟩
 obtain ⟨V3,hV3⟩:∃ x,aggV (intT (N:=0) 3).f nilV = x:=⟨_,rfl⟩
 have hAV:aggV (atomT (N:=0) aN).f nilV = .agg #[.int .i64 2,.int .i64 0,.int .i64 0,.string ⟨#[97]⟩,.string ⟨#[]⟩,.int .i64 0,.slice none 0 0,.string ⟨#[]⟩,.int .i64 0]:=rfl
 have hAV2:aggV (atomT (N:=0) ⟨#[97]⟩).f nilV = .agg #[.int .i64 2,.int .i64 0,.int .i64 0,.string ⟨#[97]⟩,.string ⟨#[]⟩,.int .i64 0,.slice none 0 0,.string ⟨#[]⟩,.int .i64 0]:=rfl
 have hA3:∀ u,aggV I3.f u = .agg #[.int .i64 1,.int .i64 3,.int .i64 0,.string ⟨#[]⟩,.string ⟨#[]⟩,.int .i64 0,u,.string ⟨#[]⟩,.int .i64 0]:=fun _=>rfl
 have hAA:∀ u,aggV A1.f u = .agg #[.int .i64 2,.int .i64 0,.int .i64 0,.string ⟨#[97]⟩,.string ⟨#[]⟩,.int .i64 0,u,.string ⟨#[]⟩,.int .i64 0]:=fun _=>rfl
 have hq:hashT A1 = hashT A1:=rfl
 generalize hashT A1 = hA at HH HR hq
 clear hq
 unfold VQ at HRf HPd HI1 HI3 HAt
 rw [hRV] at HRf HMk HTw HP1 HP2 HFs HSz
 rw [hPV] at HPd HMk HTw
 rw [hV1] at HI1 HP1
 rw [hV3] at HI3 HP2
 rw [hAV] at HP1 HP2 HH HR
 rw [hAV2] at HAt
 unfold RowP at HFs
 simp only [hA3,hAA] at HFs
 obtain ⟨St0,hSt0⟩:∃ x:World→Prop,x = StR w.heap.size w.heap.size []:=⟨_,rfl⟩
 obtain ⟨St1,hSt1⟩:∃ x:World→Prop,x = StR w.heap.size w.heap.size [(A1,I1)]:=⟨_,rfl⟩
 obtain ⟨St2,hSt2⟩:∃ x:World→Prop,x = StR w.heap.size w.heap.size [(I3,A1),(A1,I1)]:=⟨_,rfl⟩
 have HB0:Hid (∀ W W',St0 W→Below W.heap.size W W'→St0 W'):=Lib.hid (by rw [hSt0];exact fun W W' h hb=>h.below hb)
 have HB1:Hid (∀ W W',St1 W→Below W.heap.size W W'→St1 W'):=Lib.hid (by rw [hSt1];exact fun W W' h hb=>h.below hb)
 have HB2:Hid (∀ W W',St2 W→Below W.heap.size W W'→St2 W'):=Lib.hid (by rw [hSt2];exact fun W W' h hb=>h.below hb)
 rw [← hSt0] at HMk HTw HP1
 rw [← hSt1] at HP1 HP2
 rw [← hSt2] at HP2 HFs HSz
 clear hSt0 hSt1 hSt2 hRV hPV hV1 hV3 hAV hAV2 hA3 hAA
 have hsz9:(Tryz.prog.info? 24).map (·.size) = some 9:=by kernel_rfl
 have hoA:(#[.int .i64 2,.int .i64 0,.int .i64 0,.string ⟨#[97]⟩,.string ⟨#[]⟩,.int .i64 0,.slice none 0 0,.string ⟨#[]⟩,.int .i64 0]:Array Value).all (·.oneCell') = true:=all_oneCell_toArray (nineL_one (f:=A1.f) (u:=nilV) rfl)
 go_enter Tryz.func9,Tryz.ntmps9
 go_wp2_with fail
 refine HNew.out.mono ?_
 rintro e w1 ⟨rfl,hT0,hb1⟩
 go_wp2_with fail
 refine (HRf.out _).mono ?_
 rintro e w2 ⟨rfl,hb2⟩
 have hT2:=hT0.below hb2
 have hbd:=hb1.trans (hb2.mono hb1.size)
 clear hT0 hb1 hb2
 go_wp2_with fail
 refine (HPd.out _).mono ?_
 rintro e w3 ⟨rfl,hb3⟩
 have hT3:=hT2.below hb3
 replace hbd:=hbd.trans (hb3.mono hbd.size)
 clear hT2 hb3
 go_wp2_with fail
 refine (HMk.out _ _ hT3 hbd.size).mono ?_
 rintro e w4 ⟨rfl,hS4,hTT⟩
 replace hbd:=hbd.trans (hTT.below hbd.size)
 clear hT3 hTT
 go_wp2_with fail
 refine (HRf.out _).mono ?_
 rintro e w5 ⟨rfl,hb5⟩
 have hS5:=HB0.out _ _ hS4 hb5
 replace hbd:=hbd.trans (hb5.mono hbd.size)
 clear hS4 hb5
 go_wp2_with fail
 refine (HPd.out _).mono ?_
 rintro e w6 ⟨rfl,hb6⟩
 have hS6:=HB0.out _ _ hS5 hb6
 replace hbd:=hbd.trans (hb6.mono hbd.size)
 clear hS5 hb6
 go_wp2_with fail
 refine (HTw.out _ hS6 hbd.size).mono ?_
 rintro e w7 ⟨rfl,hb7⟩
 have hS7:=HB0.out _ _ hS6 hb7
 replace hbd:=hbd.trans (hb7.mono hbd.size)
 clear hS6 hb7
 go_wp2_with fail
 refine (HAt.out _).mono ?_
 rintro e w8 ⟨rfl,hb8⟩
 have hS8:=HB0.out _ _ hS7 hb8
 replace hbd:=hbd.trans (hb8.mono hbd.size)
 clear hS7 hb8
 have hba:=belowA (Below.refl w8.heap.size w8) (.cells #[.int .i64 0,.int .i64 0,.int .i64 0,.string ⟨#[]⟩,.string ⟨#[]⟩,.int .i64 0,.slice none 0 0,.string ⟨#[]⟩,.int .i64 0] 24) (Nat.le_refl _)
 have hza:=alloc_new w8 (.cells #[.int .i64 0,.int .i64 0,.int .i64 0,.string ⟨#[]⟩,.string ⟨#[]⟩,.int .i64 0,.slice none 0 0,.string ⟨#[]⟩,.int .i64 0] 24)
 have hbs:=hba.trans ((touch_setRow (w8.alloc (.cells #[.int .i64 0,.int .i64 0,.int .i64 0,.string ⟨#[]⟩,.string ⟨#[]⟩,.int .i64 0,.slice none 0 0,.string ⟨#[]⟩,.int .i64 0] 24)) w8.heap.size #[.int .i64 2,.int .i64 0,.int .i64 0,.string ⟨#[97]⟩,.string ⟨#[]⟩,.int .i64 0,.slice none 0 0,.string ⟨#[]⟩,.int .i64 0]).below (fun q e=>Nat.le_of_eq e.symm) hba.size)
 have hz2:=setRow_heap _ w8.heap.size _ #[.int .i64 2,.int .i64 0,.int .i64 0,.string ⟨#[97]⟩,.string ⟨#[]⟩,.int .i64 0,.slice none 0 0,.string ⟨#[]⟩,.int .i64 0] _ _ hza
 have HZa:=Lib.hid hza
 have hS9:=HB0.out _ _ hS8 hbs
 have hw8:=hbd.size
 replace hbd:=hbd.trans (hbs.mono hbd.size)
 clear hba hza hbs hS8
 go_upto_region 5 with (first
  | (refine wpList_store_row rfl 24 (.tmp 2) (.tmp 28) rfl w8.heap.size #[.int .i64 2,.int .i64 0,.int .i64 0,.string ⟨#[97]⟩,.string ⟨#[]⟩,.int .i64 0,.slice none 0 0,.string ⟨#[]⟩,.int .i64 0] rfl rfl 24 _ HZa.out hsz9 rfl hoA ?_))
 generalize (w8.alloc (.cells #[.int .i64 0,.int .i64 0,.int .i64 0,.string ⟨#[]⟩,.string ⟨#[]⟩,.int .i64 0,.slice none 0 0,.string ⟨#[]⟩,.int .i64 0] 24)).setRow w8.heap.size #[.int .i64 2,.int .i64 0,.int .i64 0,.string ⟨#[97]⟩,.string ⟨#[]⟩,.int .i64 0,.slice none 0 0,.string ⟨#[]⟩,.int .i64 0] = w9 at *
 generalize w8.heap.size = z2 at *
 clear HZa
 have hd:=belowD (Below.refl w9.heap.size w9)
 have hSc:=HB0.out _ _ hS9 hd
 replace hz2:=(hd.block z2 (Array.getElem?_eq_some_iff.1 hz2).1).trans hz2
 replace hbd:=hbd.trans (hd.mono hbd.size)
 clear hS9 hd
 refine wp_region_held_drew (S:=(fun w'=>w'.rangeAt z2 0 [.int .i64 2,.int .i64 0,.int .i64 0,.string ⟨#[97]⟩,.string ⟨#[]⟩,.int .i64 0,.slice none 0 0,.string ⟨#[]⟩,.int .i64 0])) (by kernel_rfl) ?_ (fun hHeld=>?_)
 ·exact row_rng hz2
 refine run_in [0,2,5,8] ?_
 (refine run_e rfl (by kernel_rfl) (by rfl) (fun _ _ _ _ h=>h) (by assumption) ?_;apply Exists.intro;refine And.intro (fun w hSw=>?_) ?_;(focus (try dsimp only at hSw);go_simp;(try with_reducible rfl));(try simp only [Act.put,pA,pB,pC]))
 refine run_r rfl (by kernel_rfl) (fun _ _ _ _ h=>h) (by assumption) (yieldsIf_load_mid (by rfl) 24 (.tmp 2) rfl z2 0 rfl [.int .i64 2,.int .i64 0,.int .i64 0,.string ⟨#[97]⟩,.string ⟨#[]⟩,.int .i64 0,.slice none 0 0,.string ⟨#[]⟩,.int .i64 0] _ (fun w hs=>hs) Tryz.underlying24 rfl hsz9) ?_
 (try simp only [Act.put,pA,pB,pC])
 (refine run_e rfl (by kernel_rfl) (by rfl) (fun _ _ _ _ h=>h) (by assumption) ?_;apply Exists.intro;refine And.intro (fun w hSw=>?_) ?_;(focus (try dsimp only at hSw);go_simp;(try with_reducible rfl));(try simp only [Act.put,pA,pB,pC]))
 refine run_r rfl (by kernel_rfl) (fun _ _ _ _ h=>h) (by assumption) (yieldsIf_load_mid (by rfl) 24 (.tmp 2) rfl z2 0 rfl [.int .i64 2,.int .i64 0,.int .i64 0,.string ⟨#[97]⟩,.string ⟨#[]⟩,.int .i64 0,.slice none 0 0,.string ⟨#[]⟩,.int .i64 0] _ (fun w hs=>hs) Tryz.underlying24 rfl hsz9) ?_
 (try simp only [Act.put,pA,pB,pC])
 refine run_out ?_
 refine wpAnyH_ready (rs:=[1]) (by kernel_rfl) (by simp) ?_
 refine readyR rfl (fun K hK=>?_) AllReadyH.nil
 go_simp
 refine (HRf.out _).mono ?_
 rintro e v1 ⟨rfl,hb⟩
 replace hSc:=HB0.out _ _ hSc hb
 replace hz2:=(hb.block z2 (Array.getElem?_eq_some_iff.1 hz2).1).trans hz2
 replace hbd:=hbd.trans (hb.mono hbd.size)
 clear hb
 go_wp2_with fail
 refine hK.out _ _ ?_ (fun hHeld=>?_)
 ·exact row_rng hz2
 clear hK K
 (try simp only [Act.put,pA,pB,pC])
 refine wpAnyH_ready (rs:=[3]) (by kernel_rfl) (by simp) ?_
 refine readyR rfl (fun K hK=>?_) AllReadyH.nil
 go_simp
 refine (HI1.out _).mono ?_
 rintro e v3 ⟨rfl,hb⟩
 replace hSc:=HB0.out _ _ hSc hb
 replace hz2:=(hb.block z2 (Array.getElem?_eq_some_iff.1 hz2).1).trans hz2
 replace hbd:=hbd.trans (hb.mono hbd.size)
 clear hb
 go_wp2_with fail
 refine hK.out _ _ ?_ (fun hHeld=>?_)
 ·exact row_rng hz2
 clear hK K
 (try simp only [Act.put,pA,pB,pC])
 refine wpAnyH_ready (rs:=[4]) (by kernel_rfl) (by simp) ?_
 refine readyR rfl (fun K hK=>?_) AllReadyH.nil
 go_simp
 refine (HP1.out _ hSc hbd.size).mono ?_
 rintro e v4 ⟨rfl,hSn,hTT⟩
 clear hSc
 have hSc:=hSn
 replace hz2:=hTT.keepC hz2 (by unfold progT;decide)
 replace hbd:=hbd.trans (hTT.below hbd.size)
 clear hSn hTT
 go_wp2_with fail
 refine hK.out _ _ ?_ (fun hHeld=>?_)
 ·exact row_rng hz2
 clear hK K
 (try simp only [Act.put,pA,pB,pC])
 refine wpAnyH_ready (rs:=[6]) (by kernel_rfl) (by simp) ?_
 refine readyR rfl (fun K hK=>?_) AllReadyH.nil
 go_simp
 refine (HRf.out _).mono ?_
 rintro e v6 ⟨rfl,hb⟩
 replace hSc:=HB1.out _ _ hSc hb
 replace hz2:=(hb.block z2 (Array.getElem?_eq_some_iff.1 hz2).1).trans hz2
 replace hbd:=hbd.trans (hb.mono hbd.size)
 clear hb
 go_wp2_with fail
 refine hK.out _ _ ?_ (fun hHeld=>?_)
 ·exact row_rng hz2
 clear hK K
 (try simp only [Act.put,pA,pB,pC])
 refine wpAnyH_ready (rs:=[7]) (by kernel_rfl) (by simp) ?_
 refine readyR rfl (fun K hK=>?_) AllReadyH.nil
 go_simp
 refine (HI3.out _).mono ?_
 rintro e v7 ⟨rfl,hb⟩
 replace hSc:=HB1.out _ _ hSc hb
 replace hz2:=(hb.block z2 (Array.getElem?_eq_some_iff.1 hz2).1).trans hz2
 replace hbd:=hbd.trans (hb.mono hbd.size)
 clear hb
 go_wp2_with fail
 refine hK.out _ _ ?_ (fun hHeld=>?_)
 ·exact row_rng hz2
 clear hK K
 (try simp only [Act.put,pA,pB,pC])
 refine wpAnyH_ready (rs:=[9]) (by kernel_rfl) (by simp) ?_
 refine readyR rfl (fun K hK=>?_) AllReadyH.nil
 go_simp
 refine (HP2.out _ hSc hbd.size).mono ?_
 rintro e v9 ⟨rfl,hSn,hTT⟩
 clear hSc
 have hSc:=hSn
 replace hz2:=hTT.keepC hz2 (by unfold progT;decide)
 replace hbd:=hbd.trans (hTT.below hbd.size)
 clear hSn hTT
 go_wp2_with fail
 refine hK.out _ _ ?_ (fun hHeld=>?_)
 ·exact row_rng hz2
 clear hK K
 (try simp only [Act.put,pA,pB,pC])
 refine run_in [10,11] ?_
 iterate 2 (refine run_e rfl (by kernel_rfl) (by rfl) (fun _ _ _ _ h=>h) (by assumption) ?_;apply Exists.intro;refine And.intro (fun w hSw=>?_) ?_;(focus (try dsimp only at hSw);go_simp;(try with_reducible rfl));(try simp only [Act.put,pA,pB,pC]))
 refine run_out ?_
 refine wpAnyH_done (by kernel_rfl) ?_ _
 go_wp2_with fail
 refine (HRf.out _).mono ?_
 rintro e x1 ⟨rfl,hb⟩
 replace hSc:=HB2.out _ _ hSc hb
 replace hz2:=(hb.block z2 (Array.getElem?_eq_some_iff.1 hz2).1).trans hz2
 replace hbd:=hbd.trans (hb.mono hbd.size)
 clear hb
 go_wp2_with fail
 refine (HFs.out _ hSc).mono ?_
 rintro e x2 ⟨F1,F2,u1,u2,rfl,hb,hN1,hN2⟩
 replace hSc:=HB2.out _ _ hSc hb
 replace hz2:=(hb.block z2 (Array.getElem?_eq_some_iff.1 hz2).1).trans hz2
 replace hbd:=hbd.trans (hb.mono hbd.size)
 have ho1:(#[.int .i64 1,.int .i64 3,.int .i64 0,.string ⟨#[]⟩,.string ⟨#[]⟩,.int .i64 0,u1,.string ⟨#[]⟩,.int .i64 0]:Array Value).all (·.oneCell') = true:=all_oneCell_toArray (nineL_one (f:=I3.f) (u:=u1) (HOne.out _ _ _ _ _ hN1))
 have ho2:(#[.int .i64 2,.int .i64 0,.int .i64 0,.string ⟨#[97]⟩,.string ⟨#[]⟩,.int .i64 0,u2,.string ⟨#[]⟩,.int .i64 0]:Array Value).all (·.oneCell') = true:=all_oneCell_toArray (nineL_one (f:=A1.f) (u:=u2) (HOne.out _ _ _ _ _ hN2))
 clear hN1 hN2 hb
 obtain ⟨hb0,hza,hzb⟩:=two_boxes x2 (.cells #[.int .i64 0,.int .i64 0,.int .i64 0,.string ⟨#[]⟩,.string ⟨#[]⟩,.int .i64 0,.slice none 0 0,.string ⟨#[]⟩,.int .i64 0] 24) (.cells #[.int .i64 0,.int .i64 0,.int .i64 0,.string ⟨#[]⟩,.string ⟨#[]⟩,.int .i64 0,.slice none 0 0,.string ⟨#[]⟩,.int .i64 0] 24)
 have hs1:((x2.alloc (.cells #[.int .i64 0,.int .i64 0,.int .i64 0,.string ⟨#[]⟩,.string ⟨#[]⟩,.int .i64 0,.slice none 0 0,.string ⟨#[]⟩,.int .i64 0] 24)).alloc (.cells #[.int .i64 0,.int .i64 0,.int .i64 0,.string ⟨#[]⟩,.string ⟨#[]⟩,.int .i64 0,.slice none 0 0,.string ⟨#[]⟩,.int .i64 0] 24)).heap.size = x2.heap.size + 2:=by rw [World.size_alloc,World.size_alloc]
 have HZa:=Lib.hid hza
 have hq4:=setRow_heap _ x2.heap.size _ #[.int .i64 1,.int .i64 3,.int .i64 0,.string ⟨#[]⟩,.string ⟨#[]⟩,.int .i64 0,u1,.string ⟨#[]⟩,.int .i64 0] _ _ hza
 have hq5:=(setRow_other ((x2.alloc (.cells #[.int .i64 0,.int .i64 0,.int .i64 0,.string ⟨#[]⟩,.string ⟨#[]⟩,.int .i64 0,.slice none 0 0,.string ⟨#[]⟩,.int .i64 0] 24)).alloc (.cells #[.int .i64 0,.int .i64 0,.int .i64 0,.string ⟨#[]⟩,.string ⟨#[]⟩,.int .i64 0,.slice none 0 0,.string ⟨#[]⟩,.int .i64 0] 24)) x2.heap.size (x2.heap.size + 1) #[.int .i64 1,.int .i64 3,.int .i64 0,.string ⟨#[]⟩,.string ⟨#[]⟩,.int .i64 0,u1,.string ⟨#[]⟩,.int .i64 0] (by omega)).trans hzb
 have hbq:=hb0.trans ((touch_setRow ((x2.alloc (.cells #[.int .i64 0,.int .i64 0,.int .i64 0,.string ⟨#[]⟩,.string ⟨#[]⟩,.int .i64 0,.slice none 0 0,.string ⟨#[]⟩,.int .i64 0] 24)).alloc (.cells #[.int .i64 0,.int .i64 0,.int .i64 0,.string ⟨#[]⟩,.string ⟨#[]⟩,.int .i64 0,.slice none 0 0,.string ⟨#[]⟩,.int .i64 0] 24)) x2.heap.size #[.int .i64 1,.int .i64 3,.int .i64 0,.string ⟨#[]⟩,.string ⟨#[]⟩,.int .i64 0,u1,.string ⟨#[]⟩,.int .i64 0]).below (fun q e=>by omega) hb0.size)
 have HQ5:=Lib.hid hq5
 have hp5:=setRow_heap _ (x2.heap.size + 1) _ #[.int .i64 2,.int .i64 0,.int .i64 0,.string ⟨#[97]⟩,.string ⟨#[]⟩,.int .i64 0,u2,.string ⟨#[]⟩,.int .i64 0] _ _ hq5
 have hp4:=(setRow_other (((x2.alloc (.cells #[.int .i64 0,.int .i64 0,.int .i64 0,.string ⟨#[]⟩,.string ⟨#[]⟩,.int .i64 0,.slice none 0 0,.string ⟨#[]⟩,.int .i64 0] 24)).alloc (.cells #[.int .i64 0,.int .i64 0,.int .i64 0,.string ⟨#[]⟩,.string ⟨#[]⟩,.int .i64 0,.slice none 0 0,.string ⟨#[]⟩,.int .i64 0] 24)).setRow x2.heap.size #[.int .i64 1,.int .i64 3,.int .i64 0,.string ⟨#[]⟩,.string ⟨#[]⟩,.int .i64 0,u1,.string ⟨#[]⟩,.int .i64 0]) (x2.heap.size + 1) x2.heap.size #[.int .i64 2,.int .i64 0,.int .i64 0,.string ⟨#[97]⟩,.string ⟨#[]⟩,.int .i64 0,u2,.string ⟨#[]⟩,.int .i64 0] (by omega)).trans hq4
 have hbp:=hbq.trans ((touch_setRow (((x2.alloc (.cells #[.int .i64 0,.int .i64 0,.int .i64 0,.string ⟨#[]⟩,.string ⟨#[]⟩,.int .i64 0,.slice none 0 0,.string ⟨#[]⟩,.int .i64 0] 24)).alloc (.cells #[.int .i64 0,.int .i64 0,.int .i64 0,.string ⟨#[]⟩,.string ⟨#[]⟩,.int .i64 0,.slice none 0 0,.string ⟨#[]⟩,.int .i64 0] 24)).setRow x2.heap.size #[.int .i64 1,.int .i64 3,.int .i64 0,.string ⟨#[]⟩,.string ⟨#[]⟩,.int .i64 0,u1,.string ⟨#[]⟩,.int .i64 0]) (x2.heap.size + 1) #[.int .i64 2,.int .i64 0,.int .i64 0,.string ⟨#[97]⟩,.string ⟨#[]⟩,.int .i64 0,u2,.string ⟨#[]⟩,.int .i64 0]).below (fun q e=>by omega) hbq.size)
 replace hSc:=HB2.out _ _ hSc hbp
 replace hz2:=(hbp.block z2 (Array.getElem?_eq_some_iff.1 hz2).1).trans hz2
 replace hbd:=hbd.trans (hbp.mono hbd.size)
 clear hza hzb hq4 hq5 hbq hbp hb0 hs1
 go_upto_region 7 with (first
  | (refine wpList_store_row rfl 24 (.tmp 5) (.tmp 43) rfl x2.heap.size #[.int .i64 1,.int .i64 3,.int .i64 0,.string ⟨#[]⟩,.string ⟨#[]⟩,.int .i64 0,u1,.string ⟨#[]⟩,.int .i64 0] rfl rfl 24 _ HZa.out hsz9 rfl ho1 ?_)
  | (refine wpList_store_row rfl 24 (.tmp 6) (.tmp 44) rfl (x2.heap.size + 1) #[.int .i64 2,.int .i64 0,.int .i64 0,.string ⟨#[97]⟩,.string ⟨#[]⟩,.int .i64 0,u2,.string ⟨#[]⟩,.int .i64 0] rfl rfl 24 _ HQ5.out hsz9 rfl ho2 ?_))
 clear HZa HQ5
 generalize (((x2.alloc (.cells #[.int .i64 0,.int .i64 0,.int .i64 0,.string ⟨#[]⟩,.string ⟨#[]⟩,.int .i64 0,.slice none 0 0,.string ⟨#[]⟩,.int .i64 0] 24)).alloc (.cells #[.int .i64 0,.int .i64 0,.int .i64 0,.string ⟨#[]⟩,.string ⟨#[]⟩,.int .i64 0,.slice none 0 0,.string ⟨#[]⟩,.int .i64 0] 24)).setRow x2.heap.size #[.int .i64 1,.int .i64 3,.int .i64 0,.string ⟨#[]⟩,.string ⟨#[]⟩,.int .i64 0,u1,.string ⟨#[]⟩,.int .i64 0]).setRow (x2.heap.size + 1) #[.int .i64 2,.int .i64 0,.int .i64 0,.string ⟨#[97]⟩,.string ⟨#[]⟩,.int .i64 0,u2,.string ⟨#[]⟩,.int .i64 0] = x3 at *
 generalize x2.heap.size + 1 = z6 at *
 generalize x2.heap.size = z5 at *
 go_wp2_with fail
 refine (HRf.out _).mono ?_
 rintro e x4 ⟨rfl,hb⟩
 replace hSc:=HB2.out _ _ hSc hb
 replace hz2:=(hb.block _ (Array.getElem?_eq_some_iff.1 hz2).1).trans hz2
 replace hp4:=(hb.block _ (Array.getElem?_eq_some_iff.1 hp4).1).trans hp4
 replace hp5:=(hb.block _ (Array.getElem?_eq_some_iff.1 hp5).1).trans hp5
 replace hbd:=hbd.trans (hb.mono hbd.size)
 clear hb
 go_wp2_with fail
 refine (HSz.out _ hSc).mono ?_
 rintro e x5 ⟨rfl,hb⟩
 replace hSc:=HB2.out _ _ hSc hb
 replace hz2:=(hb.block _ (Array.getElem?_eq_some_iff.1 hz2).1).trans hz2
 replace hp4:=(hb.block _ (Array.getElem?_eq_some_iff.1 hp4).1).trans hp4
 replace hp5:=(hb.block _ (Array.getElem?_eq_some_iff.1 hp5).1).trans hp5
 replace hbd:=hbd.trans (hb.mono hbd.size)
 clear hb
 go_upto_region 8 with (fail)
 have hb:=belowD (Below.refl x5.heap.size x5)
 replace hSc:=HB2.out _ _ hSc hb
 replace hz2:=(hb.block _ (Array.getElem?_eq_some_iff.1 hz2).1).trans hz2
 replace hp4:=(hb.block _ (Array.getElem?_eq_some_iff.1 hp4).1).trans hp4
 replace hp5:=(hb.block _ (Array.getElem?_eq_some_iff.1 hp5).1).trans hp5
 replace hbd:=hbd.trans (hb.mono hbd.size)
 clear hb
 have k5:=row_rng hp4 1 _ rfl
 have k6:=row_rng hp5 3 _ rfl
 simp only [Nat.reduceAdd] at k5 k6
 refine wp_region_held_drew (S:=(fun w'=>w'.rangeAt z2 0 [.int .i64 2,.int .i64 0,.int .i64 0,.string ⟨#[97]⟩,.string ⟨#[]⟩,.int .i64 0,.slice none 0 0,.string ⟨#[]⟩,.int .i64 0]∧w'.cell? ⟨z5,1,none⟩ = some (.int .i64 3)∧w'.cell? ⟨z6,3,none⟩ = some (.string ⟨#[97]⟩))) (by kernel_rfl) ?_ (fun hHeld=>?_)
 ·exact ⟨row_rng hz2,k5,k6⟩
 refine run_in [0,1,2,3,4,5,6,7,8,9,10,11,12,13,14,15,16,17,18,19,20,21,22,23,24,25,26,27,28,29,30,31,32,34] ?_
 iterate 8 (refine run_e rfl (by kernel_rfl) (by rfl) (fun _ _ _ _ h=>h) (by assumption) ?_;apply Exists.intro;refine And.intro (fun w hSw=>?_) ?_;(focus (try dsimp only at hSw);go_simp;(try with_reducible rfl));(try simp only [Act.put,pA,pB,pC]))
 refine run_r rfl (by kernel_rfl) (fun _ _ _ _ h=>h) (by assumption) (yieldsB_cell (by rfl) 2 (.tmp 60) rfl z5 1 rfl _ ld2 (fun w hs=>hs.2.1)) ?_
 (try simp only [Act.put,pA,pB,pC])
 iterate 4 (refine run_e rfl (by kernel_rfl) (by rfl) (fun _ _ _ _ h=>h) (by assumption) ?_;apply Exists.intro;refine And.intro (fun w hSw=>?_) ?_;(focus (try dsimp only at hSw);go_simp;(try with_reducible rfl));(try simp only [Act.put,pA,pB,pC]))
 refine run_r rfl (by kernel_rfl) (fun _ _ _ _ h=>h) (by assumption) (yieldsB_cell (by rfl) 9 (.tmp 65) rfl z6 3 rfl _ ld9 (fun w hs=>hs.2.2)) ?_
 (try simp only [Act.put,pA,pB,pC])
 iterate 18 (refine run_e rfl (by kernel_rfl) (by rfl) (fun _ _ _ _ h=>h) (by assumption) ?_;apply Exists.intro;refine And.intro (fun w hSw=>?_) ?_;(focus (try dsimp only at hSw);go_simp;(try with_reducible rfl));(try simp only [Act.put,pA,pB,pC]))
 refine run_r rfl (by kernel_rfl) (fun _ _ _ _ h=>h) (by assumption) (yieldsIf_load_mid (by rfl) 24 (.tmp 2) rfl z2 0 rfl [.int .i64 2,.int .i64 0,.int .i64 0,.string ⟨#[97]⟩,.string ⟨#[]⟩,.int .i64 0,.slice none 0 0,.string ⟨#[]⟩,.int .i64 0] _ (fun w hs=>hs.1) Tryz.underlying24 rfl hsz9) ?_
 (try simp only [Act.put,pA,pB,pC])
 refine run_r rfl (by kernel_rfl) (fun _ _ _ _ h=>h) (by assumption) (yieldsIf_load_mid (by rfl) 24 (.tmp 2) rfl z2 0 rfl [.int .i64 2,.int .i64 0,.int .i64 0,.string ⟨#[97]⟩,.string ⟨#[]⟩,.int .i64 0,.slice none 0 0,.string ⟨#[]⟩,.int .i64 0] _ (fun w hs=>hs.1) Tryz.underlying24 rfl hsz9) ?_
 (try simp only [Act.put,pA,pB,pC])
 refine run_out ?_
 refine wpAnyH_ready (rs:=[33]) (by kernel_rfl) (by simp) ?_
 refine readyR rfl (fun K hK=>?_) AllReadyH.nil
 go_simp
 refine (HH.out _).mono ?_
 rintro e x6 ⟨rfl,hb⟩
 replace hSc:=HB2.out _ _ hSc hb
 replace hz2:=(hb.block _ (Array.getElem?_eq_some_iff.1 hz2).1).trans hz2
 replace hp4:=(hb.block _ (Array.getElem?_eq_some_iff.1 hp4).1).trans hp4
 replace hp5:=(hb.block _ (Array.getElem?_eq_some_iff.1 hp5).1).trans hp5
 replace hbd:=hbd.trans (hb.mono hbd.size)
 clear hb
 clear k5 k6
 have k5:=row_rng hp4 1 _ rfl
 have k6:=row_rng hp5 3 _ rfl
 simp only [Nat.reduceAdd] at k5 k6
 go_wp2_with fail
 refine hK.out _ _ ?_ (fun hHeld=>?_)
 ·exact ⟨row_rng hz2,k5,k6⟩
 clear hK K
 (try simp only [Act.put,pA,pB,pC])
 refine wpAnyH_ready (rs:=[35]) (by kernel_rfl) (by simp) ?_
 refine readyR rfl (fun K hK=>?_) AllReadyH.nil
 go_simp
 refine (HR.out _).mono ?_
 rintro e x7 ⟨rfl,hb⟩
 replace hSc:=HB2.out _ _ hSc hb
 replace hz2:=(hb.block _ (Array.getElem?_eq_some_iff.1 hz2).1).trans hz2
 replace hp4:=(hb.block _ (Array.getElem?_eq_some_iff.1 hp4).1).trans hp4
 replace hp5:=(hb.block _ (Array.getElem?_eq_some_iff.1 hp5).1).trans hp5
 replace hbd:=hbd.trans (hb.mono hbd.size)
 clear hb
 clear k5 k6
 have k5:=row_rng hp4 1 _ rfl
 have k6:=row_rng hp5 3 _ rfl
 simp only [Nat.reduceAdd] at k5 k6
 go_wp2_with fail
 refine hK.out _ _ ?_ (fun hHeld=>?_)
 ·exact ⟨row_rng hz2,k5,k6⟩
 clear hK K
 (try simp only [Act.put,pA,pB,pC])
 refine run_in [36,37,38] ?_
 iterate 3 (refine run_e rfl (by kernel_rfl) (by rfl) (fun _ _ _ _ h=>h) (by assumption) ?_;apply Exists.intro;refine And.intro (fun w hSw=>?_) ?_;(focus (try dsimp only at hSw);go_simp;(try with_reducible rfl));(try simp only [Act.put,pA,pB,pC]))
 refine run_out ?_
 refine wpAnyH_done (by kernel_rfl) ?_ _
 go_wp2_with fail
 go_ret
 exact ⟨rfl,hbd⟩
end Go.Proofs.YtfbggmbmgohiiaaGreat.tb
