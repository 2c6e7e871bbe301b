/- CoF,CoG. No condition beyond theirs. -/
import Derived.Test.YtpnlnbolhkcnjaaGreatK05
set_option linter.unusedSimpArgs false
set_option linter.unusedVariables false
set_option maxHeartbeats 1000000
set_option maxRecDepth 100000
namespace Go.Proofs.YtpnlnbolhkcnjaaGreat.cl
open Go.RowKit mem words
def ScanPost (v:Value) (l:List Int) (w:World) (e:Ending) (w':World):Prop :=
 Below w.heap.size w w'∧((∃ a g,Objs l a∧e = .returned (.tuple #[.agg #[v,.slice (some ⟨g,0,none⟩) l.length l.length],.bool true])∧FAt w' w'.heap.size (.slice (some ⟨g,0,none⟩) l.length l.length) (marks a)) ∨
  ((¬ ∃ a,Objs l a)∧e = .returned (.tuple #[.agg #[.slice none 0 0,.slice none 0 0],.bool false])))
theorem two_cells {w:World} {z:Nat} {a b:Value} {t:TypeId} (h:w.heap[z]? = some (.cells #[a,b] t)):w.cell? ⟨z,0,none⟩ = some a∧w.cell? ⟨z,1,none⟩ = some b∧∀ o,w.frozen? ⟨z,o,none⟩ = false:=by
 refine ⟨?_,?_,fun o=>?_⟩
 ·simp only [World.cell?,h];rfl
 ·simp only [World.cell?,h];rfl
 ·simp only [World.frozen?,h];simp
theorem scan111 (w:World) (B:Nat) (v:Value) (l:List Int) (hB:B ≤ w.heap.size) (h:WAt w B v l) (hw:Wds l) (hl:l.length ≤ 100000):Calls Tryz.prog 129 #[v] w (ScanPost v l w):=by
 obtain ⟨p,c,rfl,hc1,hc2,hp⟩:=h;obtain ⟨i0,hi0,hz0,hz1,hz2⟩:=info_parts info4;have HP:=Lib.hid hp;have HW:=Lib.hid hw;clear hp hw;have hz:=(MapKept.heap_alloc w (.cells #[.slice none 0 0,.slice none 0 0] 108)).1;have hbz:Below w.heap.size w (w.alloc (.cells #[.slice none 0 0,.slice none 0 0] 108)):=(Below.refl _ _).alloc (Nat.le_refl _) _;have hsz:w.heap.size < (w.alloc (.cells #[.slice none 0 0,.slice none 0 0] 108)).heap.size:=by simp
 go_enter Tryz.func129,Tryz.ntmps129;have HZ:=Lib.hid hz;have HBZ:=Lib.hid hbz;have HSZ:=Lib.hid hsz;clear hz hbz hsz;go_wp2_with (at_make;refine wpList_make_full _ rfl _ _ 99 rfl w.heap.size 4 i0 (.bool false) 1 Tryz.underlying99 hi0 hz0 hz1 .i64 .i64 _ _ l.length rfl rfl rfl rfl (by rw [hz2];omega) (by unfold maxLen;omega) (by simp) ?_;intro w1 hown hgrow)
 simp only [World.size_alloc] at hown;have hg1:w.heap.size + 1 < w1.heap.size:=row_lt hown;have hz1:w1.heap[w.heap.size]? = some (.cells #[.slice none 0 0,.slice none 0 0] 108):=(hgrow.block _ HSZ.out (by simp)).trans HZ.out;have hb1:Below w.heap.size w w1:=HBZ.out.grown hgrow HBZ.out.size (fun k e=>by simp at e);have hb2:=(Below.refl w1.heap.size w1).alloc (Nat.le_refl _) (.cells #[.slice p l.length c,.slice (some ⟨w.heap.size + 1,0,none⟩) l.length l.length] 108)
 have HZ4:=Lib.hid (MapKept.heap_alloc w1 (.cells #[.slice p l.length c,.slice (some ⟨w.heap.size + 1,0,none⟩) l.length l.length] 108)).1;have HZ2:=Lib.hid ((hb2.block _ (show w.heap.size < w1.heap.size by omega)).trans hz1)
 have HO:Hid ((w1.alloc (.cells #[.slice p l.length c,.slice (some ⟨w.heap.size + 1,0,none⟩) l.length l.length] 108)).ownsRow w.heap.size 4 1 (.slice (some ⟨w.heap.size + 1,0,none⟩) l.length l.length) l.length ((List.replicate l.length false).map Value.bool)):=Lib.hid (row_same (by simpa [toList_madeCells_one,Value.cells] using hown) (fun k hk=>by simp [Value.ownBlock] at hk;subst hk;exact hb2.block _ hg1));have HB1:=Lib.hid (hb1.trans (hb2.mono hb1.size));have HN1:Hid (w.heap.size + 1 < w1.heap.size):=Lib.hid hg1;clear hown hgrow hg1 hz1 hb1 hb2 HZ HBZ HSZ
 generalize (w1.alloc (.cells #[.slice p l.length c,.slice (some ⟨w.heap.size + 1,0,none⟩) l.length l.length] 108)) = W2 at *;generalize w1.heap.size = z4 at *
 go_loopw [5,6,7,8,9] (fun a _ _ _ _ wr=>∃ (i:Nat) (out:List Bool),a = .int .i64 i∧i ≤ l.length∧Hid (Scn l i out)∧Hid (wr.ownsRow w.heap.size 4 1 (.slice (some ⟨w.heap.size + 1,0,none⟩) l.length l.length) l.length (out.map Value.bool))∧Hid (Below w.heap.size w wr)∧Hid (wr.heap[w.heap.size]? = some (.cells #[.slice none 0 0,.slice none 0 0] 108))∧Hid (wr.heap[z4]? = some (.cells #[.slice p l.length c,.slice (some ⟨w.heap.size + 1,0,none⟩) l.length l.length] 108))) (fun a _ _ _ _ _=>l.length - (intOf a).toNat)
 case atStart=>exact ⟨0,_,by go_num,Nat.zero_le _,Lib.hid (Scn.zero l),HO,HB1,HZ2,HZ4⟩
 case round =>
  obtain ⟨i,out,rfl,hil,HS,HOw,HBw,HY2,HY4⟩:=hrel;clear HO HB1 HZ2 HZ4;obtain ⟨y20,y21,y2f⟩:=two_cells HY2.out;obtain ⟨y40,y41,y4f⟩:=two_cells HY4.out
  by_cases hlt:i < l.length
  ·obtain ⟨g,o,rfl,hg,hc⟩:=HP.out (by intro e;subst e;simp at hlt);have hx:=(HBw.out.cell (p:=⟨g,o + i,none⟩) (show g < w.heap.size by omega)).trans (hc i hlt);have hxr:=HW.out _ (List.getElem_mem hlt);have hxe:l[i]? = some l[i]:=List.getElem?_eq_getElem hlt;generalize l[i] = x at hx hxr hxe;have HX:=Lib.hid hxe;have hol:out.length = l.length:=HS.out.len;have hcb:wr.cell? ⟨w.heap.size + 1,i,none⟩ = some (.bool (out[i]'(by omega))):=by
    rw [HOw.out.cellAt i (by omega),List.getElem?_map,List.getElem?_eq_getElem (by omega)];rfl
   generalize out[i]'(by omega) = b0 at hcb;have hfz:=HOw.out.frozenAt i;obtain ⟨hst,hgr⟩:=HOw.out.stored i (.bool true);have HOw2:Hid ((wr.setCell ⟨w.heap.size + 1,i,none⟩ (.bool true)).ownsRow w.heap.size 4 1 (.slice (some ⟨w.heap.size + 1,0,none⟩) l.length l.length) l.length ((out.set i true).map Value.bool)):=Lib.hid (by rw [List.map_set];exact hst);have HBw2:Hid (Below w.heap.size w (wr.setCell ⟨w.heap.size + 1,i,none⟩ (.bool true))):=Lib.hid (HBw.out.setCell (Nat.le_succ _) _)
   have hx2:(wr.setCell ⟨w.heap.size + 1,i,none⟩ (.bool true)).cell? ⟨g,o + i,none⟩ = some (.int .u64 x):=(World.cell?_of_block (w:=wr) (a:=⟨g,o + i,none⟩) (Below.heap_setCell _ _ _ _ (show g ≠ w.heap.size + 1 by omega))).trans hx;have HY22:Hid ((wr.setCell ⟨w.heap.size + 1,i,none⟩ (.bool true)).heap[w.heap.size]? = some _):=Lib.hid ((Below.heap_setCell _ _ _ _ (show w.heap.size ≠ w.heap.size + 1 by omega)).trans HY2.out)
   have HY42:Hid ((wr.setCell ⟨w.heap.size + 1,i,none⟩ (.bool true)).heap[z4]? = some _):=Lib.hid ((Below.heap_setCell _ _ _ _ (show z4 ≠ w.heap.size + 1 by have:=HN1.out;omega)).trans HY4.out);clear hst hgr hxe hc;have hN:=hoN_rng x hxr.1;have HT:=Lib.hid (fun W=>Tag x hxr.1 hxr.2 W);have HH:=Lib.hid (fun W=>HeaderOf x hxr.1 hxr.2 W);have ri:(0:Int) ≤ (i:Int):=by omega
   rcases hok_cases x with ⟨h4,hk,hs⟩ | ⟨h4,ho,hk,hs⟩ | ⟨h4,ho,hk⟩
   ·have q4:(x % 4 == 0) = false:=by simpa using h4
    have HK:=Lib.hid hk;have HSz:=Lib.hid hs;clear hk hs h4
    by_cases hf:2 ≤ l.length - i
    ·have q5:decide ((l.length:Int) - (i:Int) < 2) = false:=decide_eq_false (by omega);have HSn:=Lib.hid (HS.out.step HX.out HK.out (by rw [HSz.out];exact hf));go_wp2_with (go_at_call 145;refine (HT.out _).mono ?_;rintro e w' ⟨rfl,rfl⟩)
     go_roundw
     case rel=>exact ⟨i + 2,out.set i true,by go_num,by omega,Lib.hid (by have:=HSn.out;rwa [HSz.out] at this),HOw2,HBw2,HY22,HY42⟩
     case measure=>simp [intOf];omega
    ·have q5:decide ((l.length:Int) - (i:Int) < 2) = true:=decide_eq_true (by omega);have HNo:=Lib.hid (HS.out.fail HX.out (.inr (by rw [HSz.out];omega)));go_wp2_with (go_at_call 145;refine (HT.out _).mono ?_;rintro e w' ⟨rfl,rfl⟩)
     have hb9:Below w.heap.size w _:=(HBw2.out.setCell (p:=⟨w.heap.size,0,none⟩) (Nat.le_refl _) (.slice none 0 0)).setCell (p:=⟨w.heap.size,1,none⟩) (Nat.le_refl _) (.slice none 0 0);exact bodyPost_ret (v:=.tuple #[.agg #[.slice none 0 0,.slice none 0 0],.bool false]) (by simp [results,Tryz.results129,go_sem, *]) rfl ⟨hb9,.inr ⟨HNo.out,rfl⟩⟩
   ·have q4:(x % 4 == 0) = true:=by simpa using h4
    have HK:=Lib.hid hk;have HSz:=Lib.hid hs;have HHo:=Lib.hid ho;rw [ho] at HH;clear hk hs h4 ho
    by_cases hf:1 + (hoN x).toNat ≤ l.length - i
    ·have q5:decide ((l.length:Int) - (i:Int) < 1 + hoN x) = false:=decide_eq_false (by omega);have HSn:=Lib.hid (HS.out.step HX.out HK.out (by rw [HSz.out];exact hf));have HNN:=Lib.hid hN;go_wp2_with (first | (go_at_call 145;refine (HT.out _).mono ?_;rintro e w' ⟨rfl,rfl⟩) | (go_at_call 184;refine (HH.out _).mono ?_;rintro e w' ⟨rfl,rfl⟩))
     go_roundw
     case rel=>exact ⟨i + (1 + (hoN x).toNat),out.set i true,by rw [show ((i + (1 + (hoN x).toNat):Nat):Int) = (i:Int) + (1 + hoN x) by have:=HNN.out;omega],by omega,Lib.hid (by have:=HSn.out;rwa [HSz.out] at this),HOw2,HBw2,HY22,HY42⟩
     case measure=>simp [intOf];omega
    ·have q5:decide ((l.length:Int) - (i:Int) < 1 + hoN x) = true:=decide_eq_true (by omega);have HNo:=Lib.hid (HS.out.fail HX.out (.inr (by rw [HSz.out];omega)));go_wp2_with (first | (go_at_call 145;refine (HT.out _).mono ?_;rintro e w' ⟨rfl,rfl⟩) | (go_at_call 184;refine (HH.out _).mono ?_;rintro e w' ⟨rfl,rfl⟩))
     have hb9:Below w.heap.size w _:=(HBw2.out.setCell (p:=⟨w.heap.size,0,none⟩) (Nat.le_refl _) (.slice none 0 0)).setCell (p:=⟨w.heap.size,1,none⟩) (Nat.le_refl _) (.slice none 0 0);exact bodyPost_ret (v:=.tuple #[.agg #[.slice none 0 0,.slice none 0 0],.bool false]) (by simp [results,Tryz.results129,go_sem, *]) rfl ⟨hb9,.inr ⟨HNo.out,rfl⟩⟩
   ·have q4:(x % 4 == 0) = true:=by simpa using h4
    have HNo:=Lib.hid (HS.out.fail HX.out (.inl hk));rw [ho] at HH;clear hk h4 ho;go_wp2_with (first | (go_at_call 145;refine (HT.out _).mono ?_;rintro e w' ⟨rfl,rfl⟩) | (go_at_call 184;refine (HH.out _).mono ?_;rintro e w' ⟨rfl,rfl⟩))
    have hb9:Below w.heap.size w _:=(HBw2.out.setCell (p:=⟨w.heap.size,0,none⟩) (Nat.le_refl _) (.slice none 0 0)).setCell (p:=⟨w.heap.size,1,none⟩) (Nat.le_refl _) (.slice none 0 0);exact bodyPost_ret (v:=.tuple #[.agg #[.slice none 0 0,.slice none 0 0],.bool false]) (by simp [results,Tryz.results129,go_sem, *]) rfl ⟨hb9,.inr ⟨HNo.out,rfl⟩⟩
  ·obtain ⟨a,ha,rfl⟩:=HS.out.done hlt;have HA:=Lib.hid ha;have hml:(marks a).length = l.length:=HS.out.len;have HML:=Lib.hid hml;clear ha hml;go_wp2_with fail;have hb9:Below w.heap.size w _:=(HBw.out.setCell (p:=⟨w.heap.size,0,none⟩) (Nat.le_refl _) (.slice p l.length c)).setCell (p:=⟨w.heap.size,1,none⟩) (Nat.le_refl _) (.slice (some ⟨w.heap.size + 1,0,none⟩) l.length l.length)
   have HO9:((wr.setCell ⟨w.heap.size,0,none⟩ (.slice p l.length c)).setCell ⟨w.heap.size,1,none⟩ (.slice (some ⟨w.heap.size + 1,0,none⟩) l.length l.length)).ownsRow w.heap.size 4 1 (.slice (some ⟨w.heap.size + 1,0,none⟩) l.length l.length) l.length ((marks a).map Value.bool):=row_same HOw.out (fun k hk=>by
    simp [Value.ownBlock] at hk
    subst hk
    exact (Below.heap_setCell _ _ _ _ (by simp)).trans (Below.heap_setCell _ _ _ _ (by simp)))
   exact bodyPost_ret (v:=.tuple #[.agg #[.slice p l.length c,(.slice (some ⟨w.heap.size + 1,0,none⟩) l.length l.length)],.bool true]) (by simp [results,Tryz.results129,go_sem, *]) rfl ⟨hb9,.inl ⟨a,_,HA.out,rfl,(own_flags HO9 HML.out hl).more (row_lt HO9)⟩⟩
structure AreaIn (w:World) (B z o:Nat) (l:List Int) (a:List (List Int)):Prop where
 ex:∃ v1 v2,w.cell? ⟨z,o,none⟩ = some v1∧w.cell? ⟨z,o + 1,none⟩ = some v2∧WAt w B v1 l∧FAt w B v2 (marks a)
 objs:Objs l a
 wds:Wds l
 len:l.length ≤ 100000
def QPost (R:Ending→Prop) (w:World) (e:Ending) (w':World):Prop:=∃ n,w' = w.drewN n∧R e
theorem RowAt.cut {α:Type} {enc:α→Value} {w:World} {B g o c:Nat} {l:List α} (h:RowAt enc w B (.slice (some ⟨g,o,none⟩) l.length c) l) (k n:Nat) (hk:k + n ≤ l.length):RowAt enc w B (.slice (if c = k then some ⟨g,o,none⟩ else some ⟨g,o + k,none⟩) n (c - k)) ((l.drop k).take n):=by
 obtain ⟨p,c',e,h1,h2,h3⟩:=h;simp only [Value.slice.injEq,true_and] at e;obtain ⟨rfl,rfl⟩:=e;have hl:((l.drop k).take n).length = n:=by rw [List.length_take,List.length_drop];omega
 refine ⟨_,_,by rw [hl],by rw [hl];omega,by omega,fun hn=>?_⟩;have hn0:0 < n:=by rw [← hl];exact List.length_pos_iff.2 hn
 obtain ⟨g',o',e,hg,hc⟩:=h3 (by intro e;subst e;simp at hk;omega);simp only [Option.some.injEq,Addr.mk.injEq,and_true] at e;obtain ⟨rfl,rfl⟩:=e;refine ⟨g,o + k,by rw [if_neg (by omega)],hg,fun j hj=>?_⟩;have:=hc (k + j) (by omega);rw [Nat.add_assoc,this];simp
theorem RowAt.drewN {α:Type} {enc:α→Value} {w:World} {B:Nat} {v:Value} {l:List α} (h:RowAt enc w B v l) (n:Nat):RowAt enc (w.drewN n) B v l:=h
theorem at_part {l:List Int} {a:List (List Int)} (ho:Objs l a) {i:Nat} {x:List Int} (h:At a i x) (k n:Nat) (hk:k + n = x.length):(l.drop (i + k)).take n = x.drop k:=by
 have hb:=h.bound;rw [ho.1] at hb;refine List.ext_getElem? fun j=>?_
 by_cases hj:j < n
 ·rw [List.getElem?_take_of_lt hj,List.getElem?_drop,List.getElem?_drop,← h.get (k + j) (by omega),ho.1,Nat.add_assoc]
 ·rw [List.getElem?_eq_none (by rw [List.length_take,List.length_drop];omega),List.getElem?_eq_none (by rw [List.length_drop];omega)]
def AtPost (B:Nat) (x:List Int) (w:World) (e:Ending):Prop:=∃ v,e = .returned (.tuple #[.int .i64 (knd x),v])∧WAt w B v (wds x)
theorem at124 (w:World) (B z oo:Nat) (l:List Int) (a:List (List Int)) (h:AreaIn w B z oo l a) (i:Nat) (x:List Int) (hx:At a i x) :
 Calls Tryz.prog 144 #[.pointer (some ⟨z,oo,none⟩),.int .i64 i] w (QPost (AtPost B x w) w):=by
 obtain ⟨v1,v2,hc1,hc2,hv1,hv2⟩:=h.ex;obtain ⟨y,r,rfl,hok,hlen⟩:=h.objs.2 x hx.mem;have hb:=hx.bound;rw [h.objs.1] at hb;have hi:i < l.length:=by simp at hb;omega
 have hy:l[i]? = some y:=by
  have:=hx.get 0 (by simp);rw [h.objs.1] at this;simpa using this
 obtain ⟨p,c,rfl,hlc,hcm,hp⟩:=hv1;obtain ⟨g,o,rfl,hg,hcl⟩:=hp (by intro e;subst e;simp at hi);have hly:=hcl i hi;obtain ⟨_,hye⟩:=List.getElem?_eq_some_iff.1 hy;rw [hye] at hly;have hyr:=h.wds y (by rw [← hye];exact List.getElem_mem hi);have hN:=hoN_rng y hyr.1;have HH:=Lib.hid (fun W=>HeaderOf y hyr.1 hyr.2 W);have HCut:=Lib.hid (fun k n (hk:k + n ≤ l.length)=>RowAt.cut (enc:=Value.int .u64) (w:=w) (B:=B) (g:=g) (o:=o) (c:=c) (l:=l) ⟨_,_,rfl,hlc,hcm,fun hn=>⟨g,o,rfl,hg,hcl⟩⟩ k n hk);have HPart:=Lib.hid (fun k n (hk:k + n = (y :: r).length)=>at_part h.objs hx k n hk);have hll:=h.len
 unfold maxLen at hcm;clear hv2 hp hcl hye hy hx h;have ri:(0:Int) ≤ (i:Int):=by omega
 have rl:(i:Int) < (l.length:Int):=by omega
 rcases hok_cases y with ⟨h4,hk,hs⟩ | ⟨h4,ho,hk,hs⟩ | ⟨h4,ho,hk⟩
 ·rw [hs] at hlen;have HE:Hid (knd (y :: r) = 0∧wds (y :: r) = y :: r):=Lib.hid (by unfold knd wds;simp [h4]);simp at hb;have ho:hoOk y = false:=by unfold hoOk;simp [h4]
  have e1:IntKind.i64.wrap ((i:Int) + 2) = (i:Int) + 2:=IntWalk.i64_in _ (by omega);have e5:(i:Int) ≤ (i:Int) + 2:=by omega
  have e6:(i:Int) + 2 ≤ (c:Int):=by simp at hlen;omega
  have e7:((i:Int) + 2).toNat = i + 2:=by omega
  have HCC:=Lib.hid (HCut.out i 2 (by simp at hlen;omega));have HPP:Hid (List.take 2 (List.drop i l) = y :: r):=Lib.hid (HPart.out 0 2 (by rw [hlen]));have HNk:Hid (hoK y = hoK y):=Lib.hid rfl;have hci:¬ c = i:=by omega
  rw [ho] at HH;clear hlen hb hs h4 ho;go_enter Tryz.func144,Tryz.ntmps144;go_wp2_with (go_at_call 184;refine (HH.out _).mono ?_;rintro e w' ⟨rfl,rfl⟩)
  go_quiet (fail)
  go_wp2_with fail;go_ret2
  refine ⟨_,rfl,_,(by rw [HE.out.1];rfl),?_⟩;have:=HCC.out;rw [if_neg hci,HPP.out] at this;rw [HE.out.2];exact this
 ·rw [hs] at hlen;have HE:Hid (knd (y :: r) = hoK y∧wds (y :: r) = r):=Lib.hid (by unfold knd wds;simp [h4]);have HL:=Lib.hid hlen;simp at hlen hb;have e1:IntKind.i64.wrap ((i:Int) + 1) = (i:Int) + 1:=IntWalk.i64_in _ (by omega);have e2:IntKind.i64.wrap ((i:Int) + 1 + hoN y) = (i:Int) + 1 + hoN y:=IntWalk.i64_in _ (by omega);have e3:(0:Int) ≤ (i:Int) + 1:=by omega
  have e4:((i:Int) + 1).toNat = i + 1:=by omega
  have e5:(i:Int) + 1 ≤ (i:Int) + 1 + hoN y:=by omega
  have e6:(i:Int) + 1 + hoN y ≤ (c:Int):=by omega
  have e7:((i:Int) + 1 + hoN y).toNat = i + 1 + r.length:=by omega
  rw [ho] at HH;have HLE:=Lib.hid hlen;have HIB:=Lib.hid hb;clear hlen hb hs h4 ho;go_enter Tryz.func144,Tryz.ntmps144;go_wp2_with (go_at_call 184;refine (HH.out _).mono ?_;rintro e w' ⟨rfl,rfl⟩)
  go_quiet (fail)
  go_wp2_with fail
  all_goals
   go_ret2
   refine ⟨_,rfl,_,(by rw [HE.out.1];rfl),?_⟩;rw [HE.out.2];have hcut:=HCut.out (i + 1) r.length (by have:=HIB.out;omega);rw [HPart.out 1 r.length (by simp;omega)] at hcut
   first
    | (have hne:¬ c = i + 1:=by assumption
       rw [if_neg hne] at hcut
       exact hcut)
    | (have hne:c = i + 1:=by assumption
       subst hne
       rw [if_pos rfl,Nat.sub_self] at hcut
       exact hcut)
 ·rw [hk] at hok;exact Bool.noConfusion hok
theorem of123 (w:World) (z:Nat) (b:Bool):Calls Tryz.prog 143 #[.pointer (some ⟨z,0,none⟩),.bool b] w fun e w'=>e = .returned (.pointer (some ⟨z,if b then 2 else 0,none⟩))∧w = w':=by
 cases b
 ·go_enter Tryz.func143,Tryz.ntmps143;go_wp2_with fail;go_ret;exact ⟨rfl,rfl⟩
 ·go_enter Tryz.func143,Tryz.ntmps143;go_wp2_with fail;go_ret;exact ⟨rfl,rfl⟩
structure HeapIn (w:World) (B z:Nat) (m:Mm) (K:Bk):Prop where
 y:AreaIn w B z 0 m.y K.y
 o:AreaIn w B z 2 m.o K.o
theorem HeapIn.s {w:World} {B z:Nat} {m:Mm} {K:Bk} (h:HeapIn w B z m K) (b:Bool):AreaIn w B z (if b then 2 else 0) (m.s b) (K.s b):=by
 cases b
 ·exact h.y
 ·exact h.o
theorem HeapIn.pos {w:World} {B z:Nat} {m:Mm} {K:Bk} (h:HeapIn w B z m K):K.pos:=⟨h.y.objs.pos,h.o.objs.pos⟩
def ObjR (K:Bk) (B:Nat) (w:World) (v:Int) (e:Ending):Prop :=
 (∃ x u,Pt K v x∧e = .returned (.tuple #[.int .i64 (knd x),u,.bool true])∧WAt w B u (wds x))∨((¬ ∃ x,Pt K v x)∧e = .returned (.tuple #[.int .i64 0,.slice none 0 0,.bool false]))
theorem knd_zero {o:List Int} (h:IsObj o):knd o = 0↔¬ o.headD 0 % 4 = 0:=by
 obtain ⟨y,r,rfl,hk,hl⟩:=h;show (if y % 4 = 0 then hoK y else 0) = 0↔¬ y % 4 = 0
 by_cases h4:y % 4 = 0
 ·rw [if_pos h4];unfold hok at hk;have ho:hoOk y = true:=by simpa [h4] using hk
  constructor
  ·intro h0;unfold hoK at h0;rw [if_pos ho] at h0;unfold hoOk at ho;have:=of_decide_eq_true ho;omega
  ·intro h;exact absurd h4 h
 ·rw [if_neg h4];simp [h4]
theorem object96 (w:World) (B z:Nat) (m:Mm) (K:Bk) (h:HeapIn w B z m K) (v:Int) (v0:0 ≤ v) (v1:v ≤ 18446744073709551615) :
 Calls Tryz.prog 75 #[.pointer (some ⟨z,0,none⟩),.int .u64 v] w (QPost (ObjR K B w v) w):=by
 have HP:=Lib.hid (fun W=>Pointer v v0 v1 W);have HT:=Lib.hid (fun W=>Tag v v0 v1 W);have HOf:=Lib.hid (fun W b=>of123 W z b)
 by_cases hp:pOk v = true
 ·have hA:=h.s (pOld v);have hiff:=(pOk_iff v).1 hp;have hix:pIx v = ((pIx v).toNat:Int):=by rw [pIx_eq hp];omega
  have HPt:Hid (∀ x,Pt K v x↔At (K.s (pOld v)) (pIx v).toNat x∧(x.headD 0 % 4 = 0↔v % 4 = 2)):=Lib.hid (fun x=>⟨fun h=>h.2,fun h=>⟨hp,h⟩⟩);have hat:=at124 w B z (if pOld v then 2 else 0) (m.s (pOld v)) (K.s (pOld v)) hA;rw [hp,hix] at HP;generalize (pIx v).toNat = i at *;generalize pOld v = b at *;obtain ⟨u1,u2,hc1,hc2,hu1,hu2⟩:=hA.ex;obtain ⟨p1,c1,rfl,hl1,hm1,hq1⟩:=hu1;obtain ⟨p2,c2,rfl,hl2,hm2,hq2⟩:=hu2;have hml:(marks (K.s b)).length = (m.s b).length:=by rw [marks_len hA.objs.pos,hA.objs.1]
  by_cases hi:i < (m.s b).length
  ·obtain ⟨g2,o2,rfl,hg2,hcl2⟩:=hq2 (by intro e;rw [e] at hml;simp at hml;omega);have hmk:=hcl2 i (by omega);have hbeg:=marks_iff hA.objs.pos (i:=i);rw [List.getElem?_eq_getElem (by omega)] at hbeg;generalize (marks (K.s b))[i]'(by omega) = f at hmk hbeg;have ri:(0:Int) ≤ (i:Int):=by omega
   have q1:decide ((m.s b).length ≤ i) = false:=decide_eq_false (by omega);have q1':decide (((m.s b).length:Int) ≤ (i:Int)) = false:=decide_eq_false (by omega);have q2:(i:Int) < ((m.s b).length:Int):=by omega
   cases f
   ·have HNo:Hid (¬ ∃ x,Pt K v x):=Lib.hid (by
     rintro ⟨x,hx⟩
     have:=hbeg.2 ⟨x,((HPt.out x).1 hx).1⟩
     simp at this)
    clear hbeg hat hA h hq1 hq2 hcl2
    cases b
    ·simp only [Bool.false_eq_true,↓reduceIte,Nat.reduceAdd] at hc1 hc2;go_enter Tryz.func75,Tryz.ntmps75;go_wp2_with (first | (go_at_call 131;refine (HP.out _).mono ?_;rintro e w' ⟨rfl,rfl⟩) | (go_at_call 143;refine (HOf.out _ _).mono ?_;rintro e w' ⟨rfl,rfl⟩) | (go_at_call 145;refine (HT.out _).mono ?_;rintro e w' ⟨rfl,rfl⟩))
     exact bodyPost_ret (v:=.tuple #[.int .i64 0,.slice none 0 0,.bool false]) (by simp [results,Tryz.results75,go_sem, *]) rfl ⟨0,rfl,.inr ⟨HNo.out,rfl⟩⟩
    ·simp only [Bool.false_eq_true,↓reduceIte,Nat.reduceAdd] at hc1 hc2;go_enter Tryz.func75,Tryz.ntmps75;go_wp2_with (first | (go_at_call 131;refine (HP.out _).mono ?_;rintro e w' ⟨rfl,rfl⟩) | (go_at_call 143;refine (HOf.out _ _).mono ?_;rintro e w' ⟨rfl,rfl⟩) | (go_at_call 145;refine (HT.out _).mono ?_;rintro e w' ⟨rfl,rfl⟩))
     exact bodyPost_ret (v:=.tuple #[.int .i64 0,.slice none 0 0,.bool false]) (by simp [results,Tryz.results75,go_sem, *]) rfl ⟨0,rfl,.inr ⟨HNo.out,rfl⟩⟩
   ·obtain ⟨x,hx⟩:=hbeg.1 rfl;have HAt:=Lib.hid (hat i x hx);have hkz:=knd_zero (hA.objs.2 x hx.mem);have HX:=Lib.hid hx;have HU:=Lib.hid (fun y=>At.uniq hA.objs.pos (i:=i) (x:=x) (y:=y));clear hbeg hat hA h hx hq1 hq2 hcl2;have ht:v % 4 = 1∨v % 4 = 2:=hiff.1
    by_cases hm:(x.headD 0 % 4 = 0↔v % 4 = 2)
    ·have HYes:Hid (Pt K v x):=Lib.hid ((HPt.out x).2 ⟨HX.out,hm⟩);have q3:((knd x == 0) == (v % 4 == 1)) = true:=by
      by_cases h0:x.headD 0 % 4 = 0
      ·have h2:=hm.1 h0;have hk0:¬ knd x = 0:=fun e=>(hkz.1 e) h0;simp [hk0,h2]
      ·have h1:v % 4 = 1:=by
        rcases ht with h | h
        ·exact h
        ·exact absurd (hm.2 h) h0
       have hk0:=hkz.2 h0;simp [hk0,h1]
     clear hkz hm HPt HU hiff;generalize hkn:knd x = kx at *;have HKn:=Lib.hid hkn;clear hkn
     cases b
     ·simp only [Bool.false_eq_true,↓reduceIte,Nat.reduceAdd] at hc1 hc2 HAt;go_enter Tryz.func75,Tryz.ntmps75;go_wp2_with (first | (go_at_call 131;refine (HP.out _).mono ?_;rintro e w' ⟨rfl,rfl⟩) | (go_at_call 143;refine (HOf.out _ _).mono ?_;rintro e w' ⟨rfl,rfl⟩) | (go_at_call 145;refine (HT.out _).mono ?_;rintro e w' ⟨rfl,rfl⟩))
      refine HAt.out.mono ?_;rintro e w' ⟨n,rfl,u,rfl,hu⟩;have HWU:=Lib.hid hu;clear hu;rw [HKn.out];go_wp2_with (first | (go_at_call 131;refine (HP.out _).mono ?_;rintro e w' ⟨rfl,rfl⟩) | (go_at_call 143;refine (HOf.out _ _).mono ?_;rintro e w' ⟨rfl,rfl⟩) | (go_at_call 145;refine (HT.out _).mono ?_;rintro e w' ⟨rfl,rfl⟩))
      go_ret3
      exact ⟨n,rfl,.inl ⟨x,u,HYes.out,(by rw [HKn.out];rfl),HWU.out⟩⟩
     ·simp only [Bool.false_eq_true,↓reduceIte,Nat.reduceAdd] at hc1 hc2 HAt;go_enter Tryz.func75,Tryz.ntmps75;go_wp2_with (first | (go_at_call 131;refine (HP.out _).mono ?_;rintro e w' ⟨rfl,rfl⟩) | (go_at_call 143;refine (HOf.out _ _).mono ?_;rintro e w' ⟨rfl,rfl⟩) | (go_at_call 145;refine (HT.out _).mono ?_;rintro e w' ⟨rfl,rfl⟩))
      refine HAt.out.mono ?_;rintro e w' ⟨n,rfl,u,rfl,hu⟩;have HWU:=Lib.hid hu;clear hu;rw [HKn.out];go_wp2_with (first | (go_at_call 131;refine (HP.out _).mono ?_;rintro e w' ⟨rfl,rfl⟩) | (go_at_call 143;refine (HOf.out _ _).mono ?_;rintro e w' ⟨rfl,rfl⟩) | (go_at_call 145;refine (HT.out _).mono ?_;rintro e w' ⟨rfl,rfl⟩))
      go_ret3
      exact ⟨n,rfl,.inl ⟨x,u,HYes.out,(by rw [HKn.out];rfl),HWU.out⟩⟩
    ·have HNo:Hid (¬ ∃ x,Pt K v x):=Lib.hid (by
      rintro ⟨x',hx'⟩
      obtain ⟨h1,h2⟩:=(HPt.out x').1 hx'
      obtain rfl:=HU.out _ HX.out h1
      exact hm h2)
     have q3:((knd x == 0) == (v % 4 == 1)) = false:=by
      by_cases h0:x.headD 0 % 4 = 0
      ·have h1:v % 4 = 1:=by
        rcases ht with h | h
        ·exact h
        ·exact absurd ⟨fun _=>h,fun _=>h0⟩ hm
       have hk0:¬ knd x = 0:=fun e=>(hkz.1 e) h0;simp [hk0,h1]
      ·have h2:v % 4 = 2:=by
        rcases ht with h | h
        ·exact absurd ⟨fun h'=>absurd h' h0,fun h'=>by omega⟩ hm
        ·exact h
       have hk0:=hkz.2 h0;simp [hk0,h2]
     clear hkz hm HPt HU hiff;generalize hkn:knd x = kx at *;have HKn:=Lib.hid hkn;clear hkn
     cases b
     ·simp only [Bool.false_eq_true,↓reduceIte,Nat.reduceAdd] at hc1 hc2 HAt;go_enter Tryz.func75,Tryz.ntmps75;go_wp2_with (first | (go_at_call 131;refine (HP.out _).mono ?_;rintro e w' ⟨rfl,rfl⟩) | (go_at_call 143;refine (HOf.out _ _).mono ?_;rintro e w' ⟨rfl,rfl⟩) | (go_at_call 145;refine (HT.out _).mono ?_;rintro e w' ⟨rfl,rfl⟩))
      refine HAt.out.mono ?_;rintro e w' ⟨n,rfl,u,rfl,hu⟩;clear hu;rw [HKn.out];go_wp2_with (first | (go_at_call 131;refine (HP.out _).mono ?_;rintro e w' ⟨rfl,rfl⟩) | (go_at_call 143;refine (HOf.out _ _).mono ?_;rintro e w' ⟨rfl,rfl⟩) | (go_at_call 145;refine (HT.out _).mono ?_;rintro e w' ⟨rfl,rfl⟩))
      exact bodyPost_ret (v:=.tuple #[.int .i64 0,.slice none 0 0,.bool false]) (by simp [results,Tryz.results75,go_sem, *]) rfl ⟨n,rfl,.inr ⟨HNo.out,rfl⟩⟩
     ·simp only [Bool.false_eq_true,↓reduceIte,Nat.reduceAdd] at hc1 hc2 HAt;go_enter Tryz.func75,Tryz.ntmps75;go_wp2_with (first | (go_at_call 131;refine (HP.out _).mono ?_;rintro e w' ⟨rfl,rfl⟩) | (go_at_call 143;refine (HOf.out _ _).mono ?_;rintro e w' ⟨rfl,rfl⟩) | (go_at_call 145;refine (HT.out _).mono ?_;rintro e w' ⟨rfl,rfl⟩))
      refine HAt.out.mono ?_;rintro e w' ⟨n,rfl,u,rfl,hu⟩;clear hu;rw [HKn.out];go_wp2_with (first | (go_at_call 131;refine (HP.out _).mono ?_;rintro e w' ⟨rfl,rfl⟩) | (go_at_call 143;refine (HOf.out _ _).mono ?_;rintro e w' ⟨rfl,rfl⟩) | (go_at_call 145;refine (HT.out _).mono ?_;rintro e w' ⟨rfl,rfl⟩))
      exact bodyPost_ret (v:=.tuple #[.int .i64 0,.slice none 0 0,.bool false]) (by simp [results,Tryz.results75,go_sem, *]) rfl ⟨n,rfl,.inr ⟨HNo.out,rfl⟩⟩
  ·have q1:decide ((m.s b).length ≤ i) = true:=decide_eq_true (by omega);have q1':decide (((m.s b).length:Int) ≤ (i:Int)) = true:=decide_eq_true (by omega);have HNo:Hid (¬ ∃ x,Pt K v x):=Lib.hid (by
    rintro ⟨x,hx⟩
    have h1:=((HPt.out x).1 hx).1
    have h2:=h1.bound
    rw [hA.objs.1] at h2
    have h3:=hA.objs.pos x h1.mem
    omega)
   clear hat hA h hq1 hq2
   cases b
   ·simp only [Bool.false_eq_true,↓reduceIte,Nat.reduceAdd] at hc1 hc2;go_enter Tryz.func75,Tryz.ntmps75;go_wp2_with (first | (go_at_call 131;refine (HP.out _).mono ?_;rintro e w' ⟨rfl,rfl⟩) | (go_at_call 143;refine (HOf.out _ _).mono ?_;rintro e w' ⟨rfl,rfl⟩) | (go_at_call 145;refine (HT.out _).mono ?_;rintro e w' ⟨rfl,rfl⟩))
    exact bodyPost_ret (v:=.tuple #[.int .i64 0,.slice none 0 0,.bool false]) (by simp [results,Tryz.results75,go_sem, *]) rfl ⟨0,rfl,.inr ⟨HNo.out,rfl⟩⟩
   ·simp only [Bool.false_eq_true,↓reduceIte,Nat.reduceAdd] at hc1 hc2;go_enter Tryz.func75,Tryz.ntmps75;go_wp2_with (first | (go_at_call 131;refine (HP.out _).mono ?_;rintro e w' ⟨rfl,rfl⟩) | (go_at_call 143;refine (HOf.out _ _).mono ?_;rintro e w' ⟨rfl,rfl⟩) | (go_at_call 145;refine (HT.out _).mono ?_;rintro e w' ⟨rfl,rfl⟩))
    exact bodyPost_ret (v:=.tuple #[.int .i64 0,.slice none 0 0,.bool false]) (by simp [results,Tryz.results75,go_sem, *]) rfl ⟨0,rfl,.inr ⟨HNo.out,rfl⟩⟩
 ·have hp:pOk v = false:=by simpa using hp
  have HNo:Hid (¬ ∃ x,Pt K v x):=Lib.hid (by rintro ⟨x,hx⟩;rw [hx.1] at hp;exact Bool.noConfusion hp);have eo:pOld v = false:=by unfold pOld;rw [hp];rfl
  have ei:pIx v = 0:=by unfold pIx;rw [hp];rfl
  rw [hp,eo,ei] at HP;clear hp h eo ei;go_enter Tryz.func75,Tryz.ntmps75;go_wp2_with (first | (go_at_call 131;refine (HP.out _).mono ?_;rintro e w' ⟨rfl,rfl⟩) | (go_at_call 143;refine (HOf.out _ _).mono ?_;rintro e w' ⟨rfl,rfl⟩))
  exact bodyPost_ret (v:=.tuple #[.int .i64 0,.slice none 0 0,.bool false]) (by simp [results,Tryz.results75,go_sem, *]) rfl ⟨0,rfl,.inr ⟨HNo.out,rfl⟩⟩
theorem vOk_imm {K:Bk} {v:Int} (h:v % 4 = 3):vOk v = true↔Tm K v:=by
 have h1:pOk v = false:=by rw [Bool.eq_false_iff,Ne,pOk_iff];omega
 have h2:hoOk v = false:=by unfold hoOk;rw [decide_eq_false_iff_not];omega
 unfold vOk Tm;rw [h1,h2]
 constructor
 ·intro h;simp at h
  rcases h with (h | h) | h
  ·exact .inl h
  ·exact .inr (.inl h)
  ·exact .inr (.inr (.inl h))
 ·rintro (h | h | h | ⟨x,hx⟩)
  ·simp [h]
  ·simp [h]
  ·simp [h]
  ·rw [hx.1] at h1;exact Bool.noConfusion h1
def TermR (K:Bk) (v:Int) (e:Ending):Prop:=∃ b,e = .returned (.bool b)∧(b = true↔Tm K v)
theorem term115 (w:World) (B z:Nat) (m:Mm) (K:Bk) (h:HeapIn w B z m K) (v:Int) (v0:0 ≤ v) (v1:v ≤ 18446744073709551615) :
 Calls Tryz.prog 134 #[.pointer (some ⟨z,0,none⟩),.int .u64 v] w (QPost (TermR K v) w):=by
 have HT:=Lib.hid (fun W=>Tag v v0 v1 W);have HV:=Lib.hid (fun W=>Valid v v0 v1 W);have HO:=Lib.hid (object96 w B z m K h v v0 v1)
 by_cases h0:v % 4 = 0
 ·have HNo:Hid (¬ Tm K v):=Lib.hid (fun h=>tm_tag h h0);have q0:(v % 4 == 0) = true:=by simpa using h0
  clear h0 HO;go_enter Tryz.func134,Tryz.ntmps134;go_wp2_with (go_at_call 145;refine (HT.out _).mono ?_;rintro e w' ⟨rfl,rfl⟩)
  go_ret;exact ⟨0,rfl,false,rfl,by simp [HNo.out]⟩
 ·have q0:(v % 4 == 0) = false:=by simpa using h0
  by_cases h3:v % 4 = 3
  ·have q3:(v % 4 == 3) = true:=by simpa using h3
   have HI:=Lib.hid (vOk_imm (K:=K) h3);clear h0 h3 HO;go_enter Tryz.func134,Tryz.ntmps134;go_wp2_with (first | (go_at_call 145;refine (HT.out _).mono ?_;rintro e w' ⟨rfl,rfl⟩) | (go_at_call 188;refine (HV.out _).mono ?_;rintro e w' ⟨rfl,rfl⟩))
   go_ret;exact ⟨0,rfl,_,rfl,HI.out⟩
  ·have q3:(v % 4 == 3) = false:=by simpa using h3
   have HI:Hid (Tm K v↔∃ x,Pt K v x):=Lib.hid (by
    constructor
    ·rintro (h | h | h | h)
     ·unfold soOk at h;have:=of_decide_eq_true h;omega
     ·unfold aoOk at h;have:=of_decide_eq_true h;omega
     ·omega
     ·exact h
    ·intro h;exact .inr (.inr (.inr h)))
   clear h0 h3;go_enter Tryz.func134,Tryz.ntmps134;go_wp2_with (go_at_call 145;refine (HT.out _).mono ?_;rintro e w' ⟨rfl,rfl⟩)
   refine HO.out.mono ?_
   rintro e w' ⟨n,rfl,⟨x,u,hx,rfl,hu⟩ | ⟨hn,rfl⟩⟩
   ·have HX:=Lib.hid hx;clear hx hu;go_wp2_with fail;go_ret;exact ⟨n,rfl,true,rfl,by simp [HI.out];exact ⟨x,HX.out⟩⟩
   ·have HX:=Lib.hid hn;clear hn;go_wp2_with fail;go_ret;exact ⟨n,rfl,false,rfl,by simp [HI.out];exact fun y hy=>HX.out ⟨y,hy⟩⟩
end Go.Proofs.YtpnlnbolhkcnjaaGreat.cl
