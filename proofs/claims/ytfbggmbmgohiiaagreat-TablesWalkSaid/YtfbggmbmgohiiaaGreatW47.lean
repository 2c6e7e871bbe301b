/- Texts of this seat, one behind the other: TbL, TeC. No condition beyond theirs. -/
import Derived.Laws.BytesString
import Derived.Laws.Cells
import Derived.Test.YtfbggmbmgohiiaaGreatW46
import Derived.Test.YtfbggmbmgohiiaaGreatW35
import Derived.Test.YtfbggmbmgohiiaaGreatW44
import Derived.Test.YtfbggmbmgohiiaaGreatW23
import Derived.Test.YtfbggmbmgohiiaaGreatW18
set_option linter.unusedSimpArgs false
set_option linter.unusedVariables false
set_option maxHeartbeats 4000000
set_option maxRecDepth 100000
namespace Go.Proofs.YtfbggmbmgohiiaaGreat.tb
open Go.RowKit mem rec tm names
theorem fold_push:∀ (l:List UInt8) (r:ByteArray),(l.map (fun b=>(b.toNat:Int))).foldl (fun (r:ByteArray) (n:Int)=>r.push (UInt8.ofNat n.toNat)) r = ⟨r.data ++ l.toArray⟩:=by
 intro l
 induction l with
 | nil=>intro r;simp
 | cons a l ih =>
  intro r
  rw [List.map_cons,List.foldl_cons,ih]
  simp [ByteArray.push]
theorem bytes_to {l:List UInt8} {w:World} {B:Nat} {v:Value} (h:RecAt encB 1 w B v l):(convert 86 9 v).run Tryz.prog w = .ok (.string ⟨l.toArray⟩) w:=by
 obtain ⟨p,c,rfl,_,_,h3⟩:=h
 rw [run_convert_bytes_string w 86 9 5 p l.length c Tryz.underlying86 Tryz.underlying5 Tryz.underlying9]
 cases p with
 | none =>
  cases l with
  | nil=>rfl
  | cons a l=>obtain ⟨g,o,e,_⟩:=h3 (by simp);cases e
 | some a =>
  have h4:(loadCells a l.length).run Tryz.prog w = .ok ((l.map (fun b=>(b.toNat:Int))).map (Value.int .u8)).toArray w:=by
   have:=run_loadCells_list (P:=Tryz.prog) (w:=w) a ((l.map (fun b=>(b.toNat:Int))).map (Value.int .u8)) (fun j u hj=>by
    simp only [List.map_map,List.getElem?_map,Option.map_eq_some_iff] at hj
    obtain ⟨x,hx,rfl⟩:=hj
    obtain ⟨g,o,e,_,hc⟩:=h3 (by intro e;subst e;simp at hx)
    obtain rfl:=Option.some.inj e
    have:=hc j x hx 0 _ rfl
    rw [Addr.add_lit]
    simpa using this)
   simpa using this
  rw [run_bytesToString w a l.length c _ h4,fold_push]
  simp [ByteArray.empty,ByteArray.emptyWithCapacity]
  rfl
theorem cat131 (l:List UInt8):(⟨#[131]⟩:ByteArray) ++ ⟨l.toArray⟩ = ⟨(131 :: l).toArray⟩:=by
 apply ByteArray.ext
 rw [ByteArray.data_append]
 simp
theorem put47y {n:Nat} (w:World) (B:Nat) (v:Value) (t:Tm (n + 1)) (hB:B ≤ w.heap.size) (hI:ItemsAt w B n v t.items) (hv:validT t = true) :
 Calls Tryz.prog 47 #[aggV t.f v] w fun e w'=>e = .returned (.tuple #[.string ⟨(131 :: encT t).toArray⟩,.int .i64 0])∧Below w.heap.size w w':=by
 have hnod:=nodes_valid hv
 have HV:=Lib.hid (fun W (hb:Below w.heap.size w W)=>RValid W B v t (Nat.le_trans hB hb.size) (hI.below hb hB) (by omega))
 rw [hv] at HV
 have hlen:(encT t).length ≤ 10000000:=by
  have h1:=encL_len n t.items (formed_items (valid_formed hv))
  have h2:=headB_len (valid_formed hv)
  have h4:nodesT t = 1 + nodesL n t.items:=rfl
  unfold encT
  rw [List.length_append]
  omega
 have HC:=Lib.hid (fun W (hb:Below w.heap.size w W)=>codeAll n W B v t (Nat.le_trans hB hb.size) (hI.below hb hB) (valid_formed hv) (by omega))
 generalize encT t = l at *
 obtain ⟨p,c,rfl,_,_⟩:=hI.shape
 generalize t.items.length = m at *
 generalize t.f = f at *
 clear hI hv hnod hB
 obtain ⟨fk,fi,fg,fn,ff,fa,fb,fs⟩:=f
 unfold aggV at *
 unfold BPost at HV
 dsimp only at HV HC ⊢
 have hb0:=belowA (Below.refl w.heap.size w) (cells9 ⟨fk,fi,fg,fn,ff,fa,fb,fs⟩ (.slice p m c)) (Nat.le_refl _)
 have HZ:=Lib.hid (alloc_new w (cells9 ⟨fk,fi,fg,fn,ff,fa,fb,fs⟩ (.slice p m c)))
 have hz1:=(Array.getElem?_eq_some_iff.1 HZ.out).1
 have HB0:=Lib.hid hb0
 have HX:=Lib.hid (fun (W':World) (hs:W'.heap[w.heap.size]? = (w.alloc (cells9 ⟨fk,fi,fg,fn,ff,fa,fb,fs⟩ (.slice p m c))).heap[w.heap.size]?)=>(nine_of (hs.trans HZ.out):Nine W' w.heap.size ⟨fk,fi,fg,fn,ff,fa,fb,fs⟩ (.slice p m c)))
 have HZ1:=Lib.hid hz1
 unfold cells9 at HX HB0 HZ HZ1
 dsimp only at HX HB0 HZ HZ1
 clear hb0 hz1
 go_enter Tryz.func47,Tryz.ntmps47
 go_upto_region 1 with (fail)
 generalize (w.alloc (.cells #[.int .i64 fk,.int .i64 fi,.int .i64 fg,.string fn,.string ff,.int .i64 fa,.slice p m c,.string fb,.int .i64 fs] 24)) = W1 at *
 obtain ⟨x0,x1,x2,x3,x4,x5,x6,x7,x8,xf⟩:=HX.out W1 rfl
 dsimp only at x0 x1 x2 x3 x4 x5 x6 x7 x8
 go_wp2_with fail
 refine (HV.out _ HB0.out).mono ?_
 rintro e w2 ⟨rfl,hb2⟩
 obtain ⟨x0,x1,x2,x3,x4,x5,x6,x7,x8,xf⟩:=HX.out w2 (hb2.block _ HZ1.out)
 dsimp only at x0 x1 x2 x3 x4 x5 x6 x7 x8
 have HBw2:=Lib.hid (HB0.out.trans (hb2.mono HB0.out.size))
 clear hb2
 go_wp2_with fail
 refine (HC.out _ HBw2.out).mono ?_
 rintro e w3 ⟨v3,rfl,ho,hb⟩
 have hcv:=bytes_to (ho.row (encB_ok _))
 obtain ⟨p3,c3,hv,_,_⟩:=ho.shape
 have hs2:(⟨l.toArray⟩:ByteArray).size = l.length:=by show l.toArray.size = _;simp
 generalize l.length = q at hv hlen hs2
 subst hv
 have HB3:=Lib.hid (HBw2.out.trans (hb.mono HBw2.out.size))
 clear ho hb x0 x1 x2 x3 x4 x5 x6 x7 x8 xf
 go_wp2_with fail
 go_ret2
 exact ⟨by rw [cat131];rfl,HB3.out⟩
theorem put47n {n:Nat} (w:World) (B:Nat) (v:Value) (t:Tm (n + 1)) (hB:B ≤ w.heap.size) (hI:ItemsAt w B n v t.items) (hss:300 * (nodesT t:Int) ≤ 1000000000000) (hv:validT t = false) :
 Calls Tryz.prog 47 #[aggV t.f v] w fun e w'=>e = .returned (.tuple #[.string ⟨#[]⟩,.int .i64 2])∧Below w.heap.size w w':=by
 have HV:=Lib.hid (fun W (hb:Below w.heap.size w W)=>RValid W B v t (Nat.le_trans hB hb.size) (hI.below hb hB) hss)
 rw [hv] at HV
 obtain ⟨p,c,rfl,_,_⟩:=hI.shape
 generalize t.items.length = m at *
 generalize t.f = f at *
 clear hI hv hB hss
 obtain ⟨fk,fi,fg,fn,ff,fa,fb,fs⟩:=f
 unfold aggV at *
 unfold BPost at HV
 dsimp only at HV ⊢
 have HB0:=Lib.hid (belowA (Below.refl w.heap.size w) (cells9 ⟨fk,fi,fg,fn,ff,fa,fb,fs⟩ (.slice p m c)) (Nat.le_refl _))
 have hx:=nine_of (alloc_new w (cells9 ⟨fk,fi,fg,fn,ff,fa,fb,fs⟩ (.slice p m c)))
 unfold cells9 at hx HB0
 dsimp only at hx HB0
 obtain ⟨x0,x1,x2,x3,x4,x5,x6,x7,x8,xf⟩:=hx
 dsimp only at x0 x1 x2 x3 x4 x5 x6 x7 x8
 go_enter Tryz.func47,Tryz.ntmps47
 go_wp2_with fail
 refine (HV.out _ HB0.out).mono ?_
 rintro e w2 ⟨rfl,hb2⟩
 have HBw2:=Lib.hid (HB0.out.trans (hb2.mono HB0.out.size))
 clear hb2 x0 x1 x2 x3 x4 x5 x6 x7 x8 xf
 go_wp2_with fail
 go_ret2
 exact ⟨rfl,HBw2.out⟩
theorem rhash13y {n:Nat} (w:World) (B:Nat) (v:Value) (t:Tm (n + 1)) (hB:B ≤ w.heap.size) (hI:ItemsAt w B n v t.items) (hv:validT t = true) :
 Calls Tryz.prog 13 #[aggV t.f v] w fun e w'=>e = .returned (.int .u32 (hashB (131 :: encT t)))∧Below w.heap.size w w':=by
 have HP:=Lib.hid (fun W (hb:Below w.heap.size w W)=>put47y W B v t (Nat.le_trans hB hb.size) (hI.below hb hB) hv)
 have hlen:(131 :: encT t).length ≤ 10000000:=by
  have h1:=encL_len n t.items (formed_items (valid_formed hv))
  have h2:=headB_len (valid_formed hv)
  have h3:=nodes_valid hv
  have h4:nodesT t = 1 + nodesL n t.items:=rfl
  unfold encT
  simp
  omega
 generalize 131 :: encT t = l at *
 obtain ⟨p,c,rfl,_,_⟩:=hI.shape
 generalize t.items.length = m at *
 generalize t.f = f at *
 clear hI hv hB
 obtain ⟨fk,fi,fg,fn,ff,fa,fb,fs⟩:=f
 unfold aggV at *
 dsimp only at HP ⊢
 have HB0:=Lib.hid (belowA (Below.refl w.heap.size w) (cells9 ⟨fk,fi,fg,fn,ff,fa,fb,fs⟩ (.slice p m c)) (Nat.le_refl _))
 have hx:=nine_of (alloc_new w (cells9 ⟨fk,fi,fg,fn,ff,fa,fb,fs⟩ (.slice p m c)))
 unfold cells9 at hx HB0
 dsimp only at hx HB0
 obtain ⟨x0,x1,x2,x3,x4,x5,x6,x7,x8,xf⟩:=hx
 dsimp only at x0 x1 x2 x3 x4 x5 x6 x7 x8
 go_enter Tryz.func13,Tryz.ntmps13
 go_wp2_with fail
 refine (HP.out _ HB0.out).mono ?_
 rintro e w3 ⟨rfl,hb2⟩
 have HB3:=Lib.hid (HB0.out.trans (hb2.mono HB0.out.size))
 clear hb2 x0 x1 x2 x3 x4 x5 x6 x7 x8 xf
 have HLen:=Lib.hid hlen
 have hsz:(⟨l.toArray⟩:ByteArray).size = l.length:=by show l.toArray.size = _;simp
 have H00:Hid (HashI l w3 l.length (.int .u32 4294967295) (.int .i64 0) w3):=Lib.hid ⟨0,rfl,Nat.zero_le _,rfl,rfl,rfl⟩
 go_wp2_with fail
 go_loopg [5,6] l.length (fun m sv iv wr=>Hid (HashI l w3 m sv iv wr))
 case atStart=>exact H00
 case round =>
  obtain ⟨i,rfl,hi,hm,rfl,rfl⟩:=hrel.out
  clear hrel H00
  have HM:=Lib.hid hm
  clear hm
  by_cases hlt:i < l.length
  ·have HTk:=Lib.hid (crcL_take l i hlt)
   have hrg:=crcL_rng (l.take i)
   generalize crcL (l.take i) = S at *
   have he:((⟨l.toArray⟩:ByteArray)[i]'(by rw [hsz];exact hlt)) = l[i]:=rfl
   go_wp2_with fail
   (try rw [he])
   clear he
   generalize l[i] = ch at *
   have hch:(ch.toNat:Int) % 4294967296 = ch.toNat:=by have:=ch.toNat_lt;omega
   have hxr:=xor_rng S ch.toNat
   have H01:Hid (BitI (bits .xor .u32 S ch.toNat) wr 8 (.int .u32 (bits .xor .u32 S ch.toNat)) (.int .i64 0) wr):=Lib.hid ⟨0,rfl,by decide,rfl,rfl,rfl⟩
   rw [hch]
   obtain ⟨s,hs⟩:∃ s,bits .xor .u32 S ch.toNat = s:=⟨_,rfl⟩
   rw [hs] at hxr H01 ⊢
   have HS:=Lib.hid hs
   clear hs hch hrg
   go_loopg [5,7] 8 (fun m sv iv wq=>Hid (BitI s wr m sv iv wq))
   case atStart=>exact H01
   case round =>
    obtain ⟨j,rfl,hj,hm,rfl,rfl⟩:=hrel.out
    clear hrel H01
    have HMj:=Lib.hid hm
    clear hm
    by_cases hlj:j < 8
    ·obtain ⟨r0,r1⟩:=crcN_rng j hxr.1 hxr.2
     have HSn:=Lib.hid (crcN_snoc j s)
     generalize crcN j s = q at *
     have htm:q.tmod 2 = q % 2:=Int.tmod_eq_emod_of_nonneg r0
     have htd:q.tdiv 2 = q / 2:=Int.tdiv_eq_ediv_of_nonneg r0
     by_cases hq:q % 2 = 1
     ·have HO:=Lib.hid (crc_odd hq)
      rw [hq] at htm
      go_wp2_with fail
      go_roundg (8 - (j + 1))
      case measure=>have:=HMj.out;omega
      case rel=>exact Lib.hid ⟨j + 1,by go_num,by omega,rfl,by rw [HSn.out,← HO.out],rfl⟩
     ·have hq0:q % 2 = 0:=by omega
      have HO:=Lib.hid (crc_even r0 r1 hq0)
      have HX:=Lib.hid (xor_zero (q / 2) (by omega) (by omega))
      rw [hq0] at htm
      go_wp2_with fail
      go_roundg (8 - (j + 1))
      case measure=>have:=HMj.out;omega
      case rel=>exact Lib.hid ⟨j + 1,by go_num,by omega,rfl,by rw [HSn.out,← HO.out,HX.out],rfl⟩
    ·obtain rfl:j = 8:=by omega
     go_wp2_with fail
     go_roundg (l.length - (i + 1))
     case measure=>have:=HM.out;omega
     case rel=>exact Lib.hid ⟨i + 1,by go_num,by omega,rfl,by rw [HTk.out];unfold crcB;rw [HS.out],rfl⟩
  ·obtain rfl:i = l.length:=by omega
   rw [List.take_length]
   go_wp2_with fail
   go_ret
   exact ⟨rfl,HB3.out⟩
theorem rhash13n {n:Nat} (w:World) (B:Nat) (v:Value) (t:Tm (n + 1)) (hB:B ≤ w.heap.size) (hI:ItemsAt w B n v t.items) (hss:300 * (nodesT t:Int) ≤ 1000000000000) (hv:validT t = false) :
 Calls Tryz.prog 13 #[aggV t.f v] w fun e w'=>e = .returned (.int .u32 0)∧Below w.heap.size w w':=by
 have HP:=Lib.hid (fun W (hb:Below w.heap.size w W)=>put47n W B v t (Nat.le_trans hB hb.size) (hI.below hb hB) hss hv)
 obtain ⟨p,c,rfl,_,_⟩:=hI.shape
 generalize t.items.length = m at *
 generalize t.f = f at *
 clear hI hv hB hss
 obtain ⟨fk,fi,fg,fn,ff,fa,fb,fs⟩:=f
 unfold aggV at *
 dsimp only at HP ⊢
 have HB0:=Lib.hid (belowA (Below.refl w.heap.size w) (cells9 ⟨fk,fi,fg,fn,ff,fa,fb,fs⟩ (.slice p m c)) (Nat.le_refl _))
 have hx:=nine_of (alloc_new w (cells9 ⟨fk,fi,fg,fn,ff,fa,fb,fs⟩ (.slice p m c)))
 unfold cells9 at hx HB0
 dsimp only at hx HB0
 obtain ⟨x0,x1,x2,x3,x4,x5,x6,x7,x8,xf⟩:=hx
 dsimp only at x0 x1 x2 x3 x4 x5 x6 x7 x8
 go_enter Tryz.func13,Tryz.ntmps13
 go_wp2_with fail
 refine (HP.out _ HB0.out).mono ?_
 rintro e w2 ⟨rfl,hb2⟩
 have HBw2:=Lib.hid (HB0.out.trans (hb2.mono HB0.out.size))
 clear hb2 x0 x1 x2 x3 x4 x5 x6 x7 x8 xf
 go_wp2_with fail
 go_ret
 exact ⟨rfl,HBw2.out⟩
theorem RHash13 {n:Nat} (w:World) (B:Nat) (v:Value) (t:Tm (n + 1)) (hB:B ≤ w.heap.size) (hI:ItemsAt w B n v t.items) (hss:300 * (nodesT t:Int) ≤ 1000000000000) :
 Calls Tryz.prog 13 #[aggV t.f v] w fun e w'=>e = .returned (.int .u32 (hashT t))∧Below w.heap.size w w':=by
 cases hv:validT t with
 | false=>unfold hashT;rw [hv];exact rhash13n w B v t hB hI hss hv
 | true=>unfold hashT;rw [hv];exact rhash13y w B v t hB hI hv
theorem ld37 (w:World) (a:Addr) (v:Value) (h:w.cell? a = some v):(loadVar 37 a).run Tryz.prog w = .ok v w:=by
 go_simp
theorem ld4 (w:World) (a:Addr) (v:Value) (h:w.cell? a = some v):(loadVar 4 a).run Tryz.prog w = .ok v w:=by
 go_simp
theorem ld49 (w:World) (a:Addr) (v:Value) (h:w.cell? a = some v):(loadVar 49 a).run Tryz.prog w = .ok v w:=by
 go_simp
theorem rng_pre {w:World} {g o:Nat} {a b:List Value} (h:w.rangeAt g o (a ++ b)):w.rangeAt g o a:=fun j u hu=>h j u (by rw [List.getElem?_append_left (List.getElem?_eq_some_iff.1 hu).1];exact hu)
theorem rng_suf {w:World} {g o n:Nat} {a b:List Value} (h:w.rangeAt g o (a ++ b)) (hn:a.length = n):w.rangeAt g (o + n) b:=fun j u hu=>by
 have:=h (n + j) u (by rw [List.getElem?_append_right (by omega)];rw [show n + j - a.length = j by omega];exact hu)
 rwa [← Nat.add_assoc] at this
theorem cells_row {w:World} {b:Nat} {x:List Value} {t:TypeId} (h:w.heap[b]? = some (.cells x.toArray t)) (k:Nat) (u:Value) (hu:x[k]? = some u):w.cell? ⟨b,k,none⟩ = some u:=by
 have:=row_rng h k u hu
 rwa [Nat.zero_add] at this
section
variable {N:Nat} {w w':World} {B y:Nat} {lv:Value} {T:List (RTb N)} {t:RTb N}
theorem RfAt.rng {p:Option Addr} {c:Nat} (h:RfAt w B y (.slice p T.length c) T) {i:Nat} (hi:i < T.length):∃ g o,p = some ⟨g,o,none⟩∧g < w.heap.size∧w.rangeAt g (o + i * 20) (rtL T[i]):=by
 obtain ⟨g,o,e,hg,hr⟩:=rec_rng (h.l.row h.enc) hi
 exact ⟨g,o,e,hg,hr⟩
def AtI (T:List (RTb N)) (r:Tm (N + 1)) (w:World) (m:Nat) (iv:Value) (wr:World):Prop:=∃ i:Nat,iv = .int .i64 (i:Int)∧i ≤ T.length∧m = T.length - i∧(∀ j,(hj:j < i)→(hl:j < T.length)→eqB (T[j]).ref r = false)∧Below w.heap.size w wr
theorem at53 (h:RfAt w B y lv T) (hT:T.length ≤ 1000) {r:Tm (N + 1)} {u:Value} {B2:Nat} (hB:B2 ≤ w.heap.size) (hI:ItemsAt w B2 N u r.items) :
 Calls Tryz.prog 53 #[.pointer (some ⟨y,0,none⟩),aggV r.f u] w fun e w'=>e = .returned (.int .i64 (optI (refR T r)))∧Below w.heap.size w w':=by
 obtain ⟨qi,hqi⟩:∃ q,optI (refR T r) = q:=⟨_,rfl⟩
 rw [hqi]
 have HQ:=Lib.hid hqi
 clear hqi
 obtain ⟨p,c,rfl,_,_⟩:=h.l.shape
 have hb1:=belowA (Below.refl w.heap.size w) (cells9 r.f u) (Nat.le_refl _)
 have hz1:=alloc_new w (cells9 r.f u)
 have HO:=Lib.hid (fun (W:World) (hW:Below w.heap.size w W)=>(h.below hW).obj)
 have HEl:=Lib.hid (fun (i:Nat) (hi:i < T.length)=>h.rng hi)
 have HSm:=Lib.hid (fun (W:World) (hW:Below w.heap.size w W) (i:Nat) (hi:i < T.length)=>rSameOne W W.heap.size (T[i]).ur u (T[i]).ref r (Nat.le_refl _) (((h.below hW).tabs _ (List.getElem_mem hi)).iref.more (h.below hW).blt) ((hI.below hW hB).more (Nat.le_trans hB hW.size)))
 have HSh:=Lib.hid (fun (i:Nat) (hi:i < T.length)=>(h.tabs _ (List.getElem_mem hi)).iref.shape)
 obtain ⟨pr,cr,eu,_,_⟩:=hI.shape
 rw [eu] at hb1 hz1 HSm ⊢
 clear h hB hI eu
 generalize r.items.length = nr at *
 generalize hrf:r.f = f at *
 obtain ⟨rk,ri,rg,rn,rf,ra,rb,rz⟩:=f
 unfold aggV cells9 at *
 dsimp only at *
 have hsz9:(Tryz.prog.info? 24).map (·.size) = some 9:=by kernel_rfl
 have HB1:=Lib.hid hb1
 have HZ1:=Lib.hid hz1
 have hl1:=(Array.getElem?_eq_some_iff.1 hz1).1
 go_enter Tryz.func53,Tryz.ntmps53
 go_upto_region 1 with (fail)
 generalize w.alloc (.cells #[.int .i64 rk,.int .i64 ri,.int .i64 rg,.string rn,.string rf,.int .i64 ra,.slice pr nr cr,.string rb,.int .i64 rz] 24) = W1 at *
 have H00:Hid (AtI T r W1 T.length (.int .i64 0) W1):=Lib.hid ⟨0,rfl,Nat.zero_le _,rfl,fun j hj=>by omega,Below.refl _ _⟩
 obtain ⟨o0,of⟩:=one_cell (HO.out _ HB1.out)
 clear hb1 hz1 hrf
 go_wp2_with fail
 go_loopg [5] T.length (fun m iv wr=>Hid (AtI T r W1 m iv wr))
 case atStart=>exact H00
 case round =>
  obtain ⟨i,rfl,hi,hm,hno,hb⟩:=hrel.out
  clear hrel H00 o0 of
  have hbw:=HB1.out.trans (hb.mono HB1.out.size)
  obtain ⟨o0,of⟩:=one_cell (HO.out _ hbw)
  by_cases hlt:i < T.length
  ·have r1:(i:Int) < (T.length:Int):=by omega
   obtain ⟨g,o,rfl,hg,hR⟩:=HEl.out i hlt
   obtain ⟨pe,ce,ee,_,_⟩:=HSh.out i hlt
   have HS:=Lib.hid (fun W hW=>HSm.out W hW i hlt)
   have hno2:∀ (b:Bool),eqB (T[i]).ref r = b→b = false→∀ j,(hj:j < i + 1)→(hl:j < T.length)→eqB (T[j]).ref r = false:=fun b e1 e2 j hj hl=>by
    by_cases e:j = i
    ·subst e;rw [e1,e2]
    ·exact hno j (by omega) hl
   have hyes:∀ (b:Bool),eqB (T[i]).ref r = b→b = true→refR T r = some i:=fun b e1 e2=>find_some hlt (fun j hj=>hno j hj (by omega)) (by rw [e1,e2])
   obtain ⟨qb,hqb⟩:∃ b,eqB (T[i]).ref r = b:=⟨_,rfl⟩
   have HNo:=Lib.hid (hno2 qb hqb)
   have HYes:=Lib.hid (hyes qb hqb)
   rw [hqb] at HS
   have hR9:=rng_pre hR
   rw [ee] at HS hR9
   clear hno hno2 hyes hqb hR ee
   generalize (T[i]).ref.items.length = ne at *
   generalize (T[i]).ref.f = ef at *
   obtain ⟨ek,ei,eg,en,ef,ea,eb,ez⟩:=ef
   unfold nineL at hR9
   dsimp only at HS hR9
   have HR:=Lib.hid (fun W (hW:Below w.heap.size w W)=>rng_same hR9 (hW.block g hg))
   have HBx:=Lib.hid (fun W (hW:Below W1.heap.size W1 W)=>row_rng (x:=[.int .i64 rk,.int .i64 ri,.int .i64 rg,.string rn,.string rf,.int .i64 ra,.slice pr nr cr,.string rb,.int .i64 rz]) ((hW.block _ hl1).trans HZ1.out))
   have HM:=Lib.hid hm
   clear hm hR9
   unfold BPost at HS
   go_upto_region 4 with (fail)
   replace hb:=hb.trans ((belowD (Below.refl wr.heap.size wr)).mono hb.size)
   replace hbw:=hbw.trans ((belowD (Below.refl wr.heap.size wr)).mono hbw.size)
   have hO:=cells_row (x:=[.slice (some ⟨g,o,none⟩) T.length c]) (HO.out _ hbw) 0 _ rfl
   refine wp_region_held_drew (S:=(fun w'=>w'.cell? ⟨y,0,none⟩ = some (.slice (some ⟨g,o,none⟩) T.length c)∧w'.rangeAt g (o + i * 20) [.int .i64 ek,.int .i64 ei,.int .i64 eg,.string en,.string ef,.int .i64 ea,.slice pe ne ce,.string eb,.int .i64 ez]∧w'.rangeAt w.heap.size 0 [.int .i64 rk,.int .i64 ri,.int .i64 rg,.string rn,.string rf,.int .i64 ra,.slice pr nr cr,.string rb,.int .i64 rz])) (by kernel_rfl) ?_ (fun hHeld=>?_)
   ·exact ⟨hO,HR.out _ hbw,HBx.out _ hb⟩
   refine run_in [0,1,2,3,4,5,6,7,8] ?_
   iterate 3 (refine run_e rfl (by kernel_rfl) (by rfl) (fun _ _ _ _ h=>h) (by assumption) ?_;apply Exists.intro;refine And.intro (fun w hSw=>?_) ?_;(focus (try dsimp only at hSw);go_simp;(try with_reducible rfl));(try simp only [Act.put,pA,pB,pC]))
   refine run_r rfl (by kernel_rfl) (fun _ _ _ _ h=>h) (by assumption) (yieldsB_cell (by rfl) 37 (.tmp 17) rfl y 0 rfl _ ld37 (fun w hs=>hs.1)) ?_
   (try simp only [Act.put,pA,pB,pC])
   iterate 3 (refine run_e rfl (by kernel_rfl) (by rfl) (fun _ _ _ _ h=>h) (by assumption) ?_;apply Exists.intro;refine And.intro (fun w hSw=>?_) ?_;(focus (try dsimp only at hSw);go_simp;(try with_reducible rfl));(try simp only [Act.put,pA,pB,pC]))
   refine run_r rfl (by kernel_rfl) (fun _ _ _ _ h=>h) (by assumption) (yieldsIf_load_mid (by rfl) 24 (.tmp 21) rfl g (o + i * 20) rfl [.int .i64 ek,.int .i64 ei,.int .i64 eg,.string en,.string ef,.int .i64 ea,.slice pe ne ce,.string eb,.int .i64 ez] _ (fun w hs=>hs.2.1) Tryz.underlying24 rfl hsz9) ?_
   (try simp only [Act.put,pA,pB,pC])
   refine run_r rfl (by kernel_rfl) (fun _ _ _ _ h=>h) (by assumption) (yieldsIf_load_mid (by rfl) 24 (.tmp 3) rfl w.heap.size 0 rfl [.int .i64 rk,.int .i64 ri,.int .i64 rg,.string rn,.string rf,.int .i64 ra,.slice pr nr cr,.string rb,.int .i64 rz] _ (fun w hs=>hs.2.2) Tryz.underlying24 rfl hsz9) ?_
   (try simp only [Act.put,pA,pB,pC])
   refine run_out ?_
   refine wpAnyH_ready (rs:=[9]) (by kernel_rfl) (by simp) ?_
   refine readyR rfl (fun K hK=>?_) AllReadyH.nil
   go_simp
   refine (HS.out _ hbw).mono ?_
   rintro e v1 ⟨rfl,hb1⟩
   replace hb:=hb.trans (hb1.mono hb.size)
   replace hbw:=hbw.trans (hb1.mono hbw.size)
   have hO:=cells_row (x:=[.slice (some ⟨g,o,none⟩) T.length c]) (HO.out _ hbw) 0 _ rfl
   clear hb1
   go_wp2_with fail
   refine hK.out _ _ ?_ (fun hHeld=>?_)
   ·exact ⟨hO,HR.out _ hbw,HBx.out _ hb⟩
   clear hK K
   (try simp only [Act.put,pA,pB,pC])
   refine wpAnyH_done (by kernel_rfl) ?_ _
   cases qb
   ·go_wp2_with fail
    go_roundg (T.length - (i + 1))
    case measure=>have:=HM.out;omega
    case rel=>exact Lib.hid ⟨i + 1,by go_num,by omega,rfl,HNo.out (by first | rfl | trivial),hb⟩
   ·have hqe:qi = (i:Int):=by rw [← HQ.out,HYes.out (by first | rfl | trivial)];rfl
    subst hqe
    go_wp2_with fail
    go_ret
    exact ⟨rfl,hbw⟩
  ·obtain rfl:i = T.length:=by omega
   have hnone:refR T r = none:=find_none (fun j hj=>hno j hj hj)
   have hqe:qi = -1:=by rw [← HQ.out,hnone];rfl
   subst hqe
   have HBw:=Lib.hid hbw
   clear hm hno hnone hbw hb HQ
   go_wp2_with fail
   go_ret
   exact ⟨rfl,HBw.out⟩
theorem valid52 {t:Tm (N + 1)} {u:Value} {B2:Nat} (k:Int) (hB:B2 ≤ w.heap.size) (hI:ItemsAt w B2 N u t.items) (hn:nodesT t ≤ 100000000) :
 Calls Tryz.prog 52 #[aggV t.f u,.int .i64 k] w (BPost (decide (t.f.kind = k) && validT t) w):=by
 obtain ⟨qi,hqi⟩:∃ q,(decide (t.f.kind = k) && validT t) = q:=⟨_,rfl⟩
 rw [hqi]
 have hb1:=belowA (Below.refl w.heap.size w) (cells9 t.f u) (Nat.le_refl _)
 have hz1:=alloc_new w (cells9 t.f u)
 have HV:=Lib.hid (fun (W:World) (hW:Below w.heap.size w W)=>RValid W B2 u t (Nat.le_trans hB hW.size) (hI.below hW hB) (by omega))
 obtain ⟨pa,ca,eu,_,_⟩:=hI.shape
 rw [eu] at hb1 hz1 HV ⊢
 clear hB hI eu hn
 generalize t.items.length = na at *
 generalize validT t = vt at *
 generalize t.f = f at *
 obtain ⟨ak,ai,ag,an,af,aa,ab,az⟩:=f
 unfold aggV cells9 BPost at *
 dsimp only at *
 have HB1:=Lib.hid hb1
 have HZ1:=Lib.hid hz1
 have HQ:=Lib.hid hqi
 go_enter Tryz.func52,Tryz.ntmps52
 go_upto_region 1 with (fail)
 generalize w.alloc (.cells #[.int .i64 ak,.int .i64 ai,.int .i64 ag,.string an,.string af,.int .i64 aa,.slice pa na ca,.string ab,.int .i64 az] 24) = W1 at *
 obtain ⟨x0,x1,x2,x3,x4,x5,x6,x7,x8,xf⟩:=nine_of (f:=⟨ak,ai,ag,an,af,aa,ab,az⟩) (v:=.slice pa na ca) HZ1.out
 dsimp only at x0 x1 x2 x3 x4 x5 x6 x7 x8
 clear hb1 hz1 hqi
 by_cases hk:ak = k
 ·have hqe:qi = vt:=by rw [← HQ.out,decide_eq_true hk,Bool.true_and]
  subst hk
  subst hqe
  clear HQ
  go_wp2_with fail
  refine (HV.out _ HB1.out).mono ?_
  rintro e v1 ⟨rfl,hb⟩
  have HB2:=Lib.hid (HB1.out.trans (hb.mono HB1.out.size))
  clear hb
  go_wp2_with fail
  go_ret
  exact ⟨rfl,HB2.out⟩
 ·have q1:(ak == k) = false:=by simpa using hk
  have q2:decide (ak = k) = false:=decide_eq_false hk
  have hqe:qi = false:=by rw [← HQ.out,decide_eq_false hk,Bool.false_and]
  subst hqe
  clear HQ
  go_wp2_with fail
  go_ret
  exact ⟨rfl,HB1.out⟩
theorem befH_t (a b:Tm (N + 1)):decide (cmpH true a b < 0) = if hashT a = hashT b then decide (cmpV a b < 0) else decide (hashT a < hashT b):=by
 show decide (thenC (fun x y=>cmpI (hashT x) (hashT y)) cmpV a b < 0) = _
 unfold thenC
 by_cases h:hashT a = hashT b
 ·rw [if_pos (cmpI_z.2 h),if_pos h]
 ·rw [if_neg (fun e=>h (cmpI_z.1 e)),if_neg h]
  by_cases h2:hashT a < hashT b
  ·rw [decide_eq_true (cmpI_lt.2 h2),decide_eq_true h2]
  ·rw [decide_eq_false (fun e=>h2 (cmpI_lt.1 e)),decide_eq_false h2]
theorem before89 (t:RTb N) {a b:Tm (N + 1)} {ua ub:Value} {B2:Nat} (hB:B2 ≤ w.heap.size) (hv:t.ur.oneCell' = true∧t.uo.oneCell' = true∧t.vr.oneCell' = true) (hI:ItemsAt w B2 N ua a.items) (hJ:ItemsAt w B2 N ub b.items) (ha:nodesT a ≤ 100000000) (hb:nodesT b ≤ 100000000) :
 Calls Tryz.prog 89 #[.agg (rtL t).toArray,aggV a.f ua,aggV b.f ub] w (BPost (decide (cmpH t.hs a b < 0)) w):=by
 have HHa:=Lib.hid (fun (W:World) (hW:Below w.heap.size w W)=>RHash13 W B2 ua a (Nat.le_trans hB hW.size) (hI.below hW hB) (by omega))
 have HHb:=Lib.hid (fun (W:World) (hW:Below w.heap.size w W)=>RHash13 W B2 ub b (Nat.le_trans hB hW.size) (hJ.below hW hB) (by omega))
 have HC:=Lib.hid (fun (W:World) (hW:Below w.heap.size w W)=>RCompare W B2 ua ub a b (Nat.le_trans hB hW.size) (hI.below hW hB) (hJ.below hW hB) (by omega) (by omega))
 obtain ⟨qi,hqi⟩:∃ q,decide (cmpH t.hs a b < 0) = q:=⟨_,rfl⟩
 have ht:=befH_t a b
 rw [hqi]
 obtain ⟨pa,ca,ea,_,_⟩:=hI.shape
 obtain ⟨pb,cb,eb,_,_⟩:=hJ.shape
 rw [ea] at HHa HC ⊢
 rw [eb] at HHb HC ⊢
 clear hB hI hJ ha hb ea eb
 obtain ⟨tref,town,ur,uo,hs,vr,rows⟩:=t
 unfold rtL nineL
 dsimp only at hqi hv ⊢
 simp only [List.cons_append,List.nil_append]
 have hqf:hs = false→decide (cmpV a b < 0) = qi:=fun e=>by subst e;exact hqi
 have hqt:hs = true→(if hashT a = hashT b then decide (cmpV a b < 0) else decide (hashT a < hashT b)) = qi:=fun e=>by subst e;rw [← ht];exact hqi
 clear ht hqi
 generalize hashT a = hha at *
 generalize hashT b = hhb at *
 generalize cmpV a b = cv at *
 generalize a.items.length = na at *
 generalize b.items.length = nb at *
 generalize a.f = fa at *
 generalize b.f = fb at *
 generalize tref.f = fr at *
 generalize town.f = fo at *
 obtain ⟨ak,ai,ag,an,af,aa,ab,az⟩:=fa
 obtain ⟨bk,bi,bg,bn,bf,ba,bb,bz⟩:=fb
 obtain ⟨rk,ri,rg,rn,rf,ra,rb,rz⟩:=fr
 obtain ⟨ok,oi,og,on,of,oa,ob,oz⟩:=fo
 unfold aggV BPost IPostC at *
 dsimp only at *
 have hsz9:(Tryz.prog.info? 24).map (·.size) = some 9:=by kernel_rfl
 obtain ⟨hb0,_,hz3,hz4,hz5⟩:=three_heap w (.cells #[.int .i64 rk,.int .i64 ri,.int .i64 rg,.string rn,.string rf,.int .i64 ra,ur,.string rb,.int .i64 rz,.int .i64 ok,.int .i64 oi,.int .i64 og,.string on,.string of,.int .i64 oa,uo,.string ob,.int .i64 oz,.bool hs,vr] 53) (.cells #[.int .i64 ak,.int .i64 ai,.int .i64 ag,.string an,.string af,.int .i64 aa,.slice pa na ca,.string ab,.int .i64 az] 24) (.cells #[.int .i64 bk,.int .i64 bi,.int .i64 bg,.string bn,.string bf,.int .i64 ba,.slice pb nb cb,.string bb,.int .i64 bz] 24)
 have hl3:=(Array.getElem?_eq_some_iff.1 hz3).1
 have hl4:=(Array.getElem?_eq_some_iff.1 hz4).1
 have hl5:=(Array.getElem?_eq_some_iff.1 hz5).1
 have HQf:=Lib.hid hqf
 have HQt:=Lib.hid hqt
 clear hqf hqt
 go_enter Tryz.func89,Tryz.ntmps89
 go_upto_region 1 with (fail)
 generalize (((w.alloc (.cells #[.int .i64 rk,.int .i64 ri,.int .i64 rg,.string rn,.string rf,.int .i64 ra,ur,.string rb,.int .i64 rz,.int .i64 ok,.int .i64 oi,.int .i64 og,.string on,.string of,.int .i64 oa,uo,.string ob,.int .i64 oz,.bool hs,vr] 53)).alloc (.cells #[.int .i64 ak,.int .i64 ai,.int .i64 ag,.string an,.string af,.int .i64 aa,.slice pa na ca,.string ab,.int .i64 az] 24)).alloc (.cells #[.int .i64 bk,.int .i64 bi,.int .i64 bg,.string bn,.string bf,.int .i64 ba,.slice pb nb cb,.string bb,.int .i64 bz] 24)) = W1 at *
 have HX:=Lib.hid (fun W (hW:Below W1.heap.size W1 W)=>(And.intro (cells_row (x:=[.int .i64 rk,.int .i64 ri,.int .i64 rg,.string rn,.string rf,.int .i64 ra,ur,.string rb,.int .i64 rz,.int .i64 ok,.int .i64 oi,.int .i64 og,.string on,.string of,.int .i64 oa,uo,.string ob,.int .i64 oz,.bool hs,vr]) ((hW.block _ hl3).trans hz3) 18 _ rfl) (And.intro (row_rng (x:=[.int .i64 ak,.int .i64 ai,.int .i64 ag,.string an,.string af,.int .i64 aa,.slice pa na ca,.string ab,.int .i64 az]) ((hW.block _ hl4).trans hz4)) (row_rng (x:=[.int .i64 bk,.int .i64 bi,.int .i64 bg,.string bn,.string bf,.int .i64 ba,.slice pb nb cb,.string bb,.int .i64 bz]) ((hW.block _ hl5).trans hz5)))))
 have HB0:=Lib.hid hb0
 have hb:=belowD (Below.refl W1.heap.size W1)
 have hbw:=hb0.trans (hb.mono hb0.size)
 clear hz3 hz4 hz5 hl3 hl4 hl5 hb0
 refine wp_region_held_drew (S:=(fun w'=>w'.cell? ⟨w.heap.size,18,none⟩ = some (.bool hs)∧w'.rangeAt (w.heap.size + 1) 0 [.int .i64 ak,.int .i64 ai,.int .i64 ag,.string an,.string af,.int .i64 aa,.slice pa na ca,.string ab,.int .i64 az]∧w'.rangeAt (w.heap.size + 2) 0 [.int .i64 bk,.int .i64 bi,.int .i64 bg,.string bn,.string bf,.int .i64 ba,.slice pb nb cb,.string bb,.int .i64 bz])) (by kernel_rfl) ?_ (fun hHeld=>?_)
 ·exact HX.out _ hb
 generalize W1.drew = wd at *
 cases hs
 ·have hqe:=HQf.out rfl
  clear HQf HQt
  subst hqe
  refine run_in [0,1,2,3,4,5,6,7,8] ?_
  (refine run_e rfl (by kernel_rfl) (by rfl) (fun _ _ _ _ h=>h) (by assumption) ?_;apply Exists.intro;refine And.intro (fun w hSw=>?_) ?_;(focus (try dsimp only at hSw);go_simp;(try with_reducible rfl));(try simp only [Act.put,pA,pB,pC]))
  refine run_r rfl (by kernel_rfl) (fun _ _ _ _ h=>h) (by assumption) (yieldsB_cell (by rfl) 4 (.tmp 7) rfl w.heap.size 18 rfl _ ld4 (fun w hs=>hs.1)) ?_
  (try simp only [Act.put,pA,pB,pC])
  (refine run_e rfl (by kernel_rfl) (by rfl) (fun _ _ _ _ h=>h) (by assumption) ?_;apply Exists.intro;refine And.intro (fun w hSw=>?_) ?_;(focus (try dsimp only at hSw);go_simp;(try with_reducible rfl));(try simp only [Act.put,pA,pB,pC]))
  refine run_u rfl (by kernel_rfl) (fun _ _ _ _ h=>h) (by assumption) (by rfl) ?_
  (try simp only [Act.put,pA,pB,pC])
  refine run_u rfl (by kernel_rfl) (fun _ _ _ _ h=>h) (by assumption) (by rfl) ?_
  (try simp only [Act.put,pA,pB,pC])
  refine run_u rfl (by kernel_rfl) (fun _ _ _ _ h=>h) (by assumption) (by rfl) ?_
  (try simp only [Act.put,pA,pB,pC])
  refine run_u rfl (by kernel_rfl) (fun _ _ _ _ h=>h) (by assumption) (by rfl) ?_
  (try simp only [Act.put,pA,pB,pC])
  refine run_u rfl (by kernel_rfl) (fun _ _ _ _ h=>h) (by assumption) (by rfl) ?_
  (try simp only [Act.put,pA,pB,pC])
  (refine run_e rfl (by kernel_rfl) (by rfl) (fun _ _ _ _ h=>h) (by assumption) ?_;apply Exists.intro;refine And.intro (fun w hSw=>?_) ?_;(focus (try dsimp only at hSw);go_simp;(try with_reducible rfl));(try simp only [Act.put,pA,pB,pC]))
  refine run_out ?_
  refine wpAnyH_done (by kernel_rfl) ?_ _
  go_wp2_with (first
   | (refine wpList_load_mid rfl 24 (.tmp 4) rfl (w.heap.size + 1) 0 rfl [.int .i64 ak,.int .i64 ai,.int .i64 ag,.string an,.string af,.int .i64 aa,.slice pa na ca,.string ab,.int .i64 az] _ (HX.out _ hb).2.1 Tryz.underlying24 rfl hsz9 ?_)
   | (refine wpList_load_mid rfl 24 (.tmp 5) rfl (w.heap.size + 2) 0 rfl [.int .i64 bk,.int .i64 bi,.int .i64 bg,.string bn,.string bf,.int .i64 ba,.slice pb nb cb,.string bb,.int .i64 bz] _ (HX.out _ hb).2.2 Tryz.underlying24 rfl hsz9 ?_))
  refine (HC.out _ hbw).mono ?_
  rintro e v9 ⟨rfl,hb1⟩
  replace hbw:=hbw.trans (hb1.mono hbw.size)
  clear hb1
  go_wp2_with fail
  go_ret
  exact ⟨rfl,hbw⟩
 ·have hqe:=HQt.out rfl
  clear HQf HQt
  refine run_in [0,1,2,3,5] ?_
  (refine run_e rfl (by kernel_rfl) (by rfl) (fun _ _ _ _ h=>h) (by assumption) ?_;apply Exists.intro;refine And.intro (fun w hSw=>?_) ?_;(focus (try dsimp only at hSw);go_simp;(try with_reducible rfl));(try simp only [Act.put,pA,pB,pC]))
  refine run_r rfl (by kernel_rfl) (fun _ _ _ _ h=>h) (by assumption) (yieldsB_cell (by rfl) 4 (.tmp 7) rfl w.heap.size 18 rfl _ ld4 (fun w hs=>hs.1)) ?_
  (try simp only [Act.put,pA,pB,pC])
  (refine run_e rfl (by kernel_rfl) (by rfl) (fun _ _ _ _ h=>h) (by assumption) ?_;apply Exists.intro;refine And.intro (fun w hSw=>?_) ?_;(focus (try dsimp only at hSw);go_simp;(try with_reducible rfl));(try simp only [Act.put,pA,pB,pC]))
  refine run_r rfl (by kernel_rfl) (fun _ _ _ _ h=>h) (by assumption) (yieldsIf_load_mid (by rfl) 24 (.tmp 4) rfl (w.heap.size + 1) 0 rfl [.int .i64 ak,.int .i64 ai,.int .i64 ag,.string an,.string af,.int .i64 aa,.slice pa na ca,.string ab,.int .i64 az] _ (fun w hs=>hs.2.1) Tryz.underlying24 rfl hsz9) ?_
  (try simp only [Act.put,pA,pB,pC])
  refine run_r rfl (by kernel_rfl) (fun _ _ _ _ h=>h) (by assumption) (yieldsIf_load_mid (by rfl) 24 (.tmp 5) rfl (w.heap.size + 2) 0 rfl [.int .i64 bk,.int .i64 bi,.int .i64 bg,.string bn,.string bf,.int .i64 ba,.slice pb nb cb,.string bb,.int .i64 bz] _ (fun w hs=>hs.2.2) Tryz.underlying24 rfl hsz9) ?_
  (try simp only [Act.put,pA,pB,pC])
  refine run_out ?_
  refine wpAnyH_ready (rs:=[4]) (by kernel_rfl) (by simp) ?_
  refine (readyR rfl (fun K hK=>?_) AllReadyH.nil)
  go_simp
  refine (HHa.out _ hbw).mono ?_
  rintro e u1 ⟨rfl,hb1⟩
  replace hb:=hb.trans (hb1.mono hb.size)
  replace hbw:=hbw.trans (hb1.mono hbw.size)
  clear hb1
  go_wp2_with fail
  refine hK.out _ _ ?_ (fun hHeld=>?_)
  ·exact HX.out _ hb
  clear hK K
  (try simp only [Act.put,pA,pB,pC])
  refine wpAnyH_ready (rs:=[6]) (by kernel_rfl) (by simp) ?_
  refine (readyR rfl (fun K hK=>?_) AllReadyH.nil)
  go_simp
  refine (HHb.out _ hbw).mono ?_
  rintro e u2 ⟨rfl,hb1⟩
  replace hb:=hb.trans (hb1.mono hb.size)
  replace hbw:=hbw.trans (hb1.mono hbw.size)
  clear hb1
  go_wp2_with fail
  refine hK.out _ _ ?_ (fun hHeld=>?_)
  ·exact HX.out _ hb
  clear hK K
  (try simp only [Act.put,pA,pB,pC])
  refine run_in [7,8] ?_
  iterate 2 (refine run_e rfl (by kernel_rfl) (by rfl) (fun _ _ _ _ h=>h) (by assumption) ?_;apply Exists.intro;refine And.intro (fun w hSw=>?_) ?_;(focus (try dsimp only at hSw);go_simp;(try with_reducible rfl));(try simp only [Act.put,pA,pB,pC]))
  refine run_out ?_
  refine wpAnyH_done (by kernel_rfl) ?_ _
  by_cases hne:hha = hhb
  ·rw [if_pos hne] at hqe
   subst hqe
   have q1:(hha == hhb) = true:=by simpa using hne
   have q2:decide (hha = hhb) = true:=decide_eq_true hne
   go_wp2_with (first
    | (refine wpList_load_mid rfl 24 (.tmp 4) rfl (w.heap.size + 1) 0 rfl [.int .i64 ak,.int .i64 ai,.int .i64 ag,.string an,.string af,.int .i64 aa,.slice pa na ca,.string ab,.int .i64 az] _ (HX.out _ hb).2.1 Tryz.underlying24 rfl hsz9 ?_)
    | (refine wpList_load_mid rfl 24 (.tmp 5) rfl (w.heap.size + 2) 0 rfl [.int .i64 bk,.int .i64 bi,.int .i64 bg,.string bn,.string bf,.int .i64 ba,.slice pb nb cb,.string bb,.int .i64 bz] _ (HX.out _ hb).2.2 Tryz.underlying24 rfl hsz9 ?_))
   refine (HC.out _ hbw).mono ?_
   rintro e v9 ⟨rfl,hb1⟩
   replace hbw:=hbw.trans (hb1.mono hbw.size)
   clear hb1
   go_wp2_with fail
   go_ret
   exact ⟨rfl,hbw⟩
  ·rw [if_neg hne] at hqe
   subst hqe
   have q1:(hha == hhb) = false:=by simpa using hne
   have q2:decide (hha = hhb) = false:=decide_eq_false hne
   go_upto_region 2 with (fail)
   replace hbw:=hbw.trans ((belowD (Below.refl u2.heap.size u2)).mono hbw.size)
   replace hb:=hb.trans ((belowD (Below.refl u2.heap.size u2)).mono hb.size)
   refine wp_region_held_drew (S:=(fun w'=>w'.rangeAt (w.heap.size + 1) 0 [.int .i64 ak,.int .i64 ai,.int .i64 ag,.string an,.string af,.int .i64 aa,.slice pa na ca,.string ab,.int .i64 az]∧w'.rangeAt (w.heap.size + 2) 0 [.int .i64 bk,.int .i64 bi,.int .i64 bg,.string bn,.string bf,.int .i64 ba,.slice pb nb cb,.string bb,.int .i64 bz])) (by kernel_rfl) ?_ (fun hHeld=>?_)
   ·exact (HX.out _ hb).2
   refine run_in [0,2] ?_
   refine run_r rfl (by kernel_rfl) (fun _ _ _ _ h=>h) (by assumption) (yieldsIf_load_mid (by rfl) 24 (.tmp 4) rfl (w.heap.size + 1) 0 rfl [.int .i64 ak,.int .i64 ai,.int .i64 ag,.string an,.string af,.int .i64 aa,.slice pa na ca,.string ab,.int .i64 az] _ (fun w hs=>hs.1) Tryz.underlying24 rfl hsz9) ?_
   (try simp only [Act.put,pA,pB,pC])
   refine run_r rfl (by kernel_rfl) (fun _ _ _ _ h=>h) (by assumption) (yieldsIf_load_mid (by rfl) 24 (.tmp 5) rfl (w.heap.size + 2) 0 rfl [.int .i64 bk,.int .i64 bi,.int .i64 bg,.string bn,.string bf,.int .i64 ba,.slice pb nb cb,.string bb,.int .i64 bz] _ (fun w hs=>hs.2) Tryz.underlying24 rfl hsz9) ?_
   (try simp only [Act.put,pA,pB,pC])
   refine run_out ?_
   refine wpAnyH_ready (rs:=[1]) (by kernel_rfl) (by simp) ?_
   refine (readyR rfl (fun K hK=>?_) AllReadyH.nil)
   go_simp
   refine (HHa.out _ hbw).mono ?_
   rintro e u3 ⟨rfl,hb1⟩
   replace hb:=hb.trans (hb1.mono hb.size)
   replace hbw:=hbw.trans (hb1.mono hbw.size)
   clear hb1
   go_wp2_with fail
   refine hK.out _ _ ?_ (fun hHeld=>?_)
   ·exact (HX.out _ hb).2
   clear hK K
   (try simp only [Act.put,pA,pB,pC])
   refine wpAnyH_ready (rs:=[3]) (by kernel_rfl) (by simp) ?_
   refine (readyR rfl (fun K hK=>?_) AllReadyH.nil)
   go_simp
   refine (HHb.out _ hbw).mono ?_
   rintro e u4 ⟨rfl,hb1⟩
   replace hb:=hb.trans (hb1.mono hb.size)
   replace hbw:=hbw.trans (hb1.mono hbw.size)
   clear hb1
   go_wp2_with fail
   refine hK.out _ _ ?_ (fun hHeld=>?_)
   ·exact (HX.out _ hb).2
   clear hK K
   (try simp only [Act.put,pA,pB,pC])
   refine run_in [4,5] ?_
   iterate 2 (refine run_e rfl (by kernel_rfl) (by rfl) (fun _ _ _ _ h=>h) (by assumption) ?_;apply Exists.intro;refine And.intro (fun w hSw=>?_) ?_;(focus (try dsimp only at hSw);go_simp;(try with_reducible rfl));(try simp only [Act.put,pA,pB,pC]))
   refine run_out ?_
   refine wpAnyH_done (by kernel_rfl) ?_ _
   go_wp2_with fail
   go_ret
   exact ⟨rfl,hbw⟩
end
end Go.Proofs.YtfbggmbmgohiiaaGreat.tb
