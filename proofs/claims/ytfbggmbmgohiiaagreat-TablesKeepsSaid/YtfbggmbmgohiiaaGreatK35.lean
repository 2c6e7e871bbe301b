/- Texts of this seat, one behind the other: TbX. No condition beyond theirs. -/
import Derived.Test.YtfbggmbmgohiiaaGreatK34
set_option linter.unusedSimpArgs false
set_option linter.unusedVariables false
set_option maxHeartbeats 4000000
set_option maxRecDepth 100000
namespace Go.Proofs.YtfbggmbmgohiiaaGreat.tb
open Go.RowKit mem rec tm names
section
variable {N:Nat} {w:World} {B:Nat} {vr:Value} {l:List (RowE N)} {row:RowE N} {zv:Nat}
theorem insert60g (hown:RecOwn rowL 108 19 w B vr l) (hB:B ≤ w.heap.size) (hlen:l.length ≤ 1000000) (hEl:EncOK rowL 19 l) (hE:EncOK rowL 19 [row]) (hz:w.heap[zv]? = some (.cells (rowL row).toArray 108)) {i:Nat} (hi:i < l.length) {p:Option Addr} {n c:Nat} (hvr:vr = .slice p n c) (hroom:c < l.length + 1) :
 Calls Tryz.prog 60 #[vr,.int .i64 i,.slice (some ⟨zv,0,none⟩) 1 1] w (InsQ B vr (l.take i ++ [row] ++ l.drop i) w):=by
 obtain ⟨g,cap,cur,rfl,hbg,hg,hnc,hcm,hcs,htk⟩:=own_parts hown (by omega)
 simp only [Value.slice.injEq] at hvr
 obtain ⟨rfl,rfl,rfl⟩:=hvr
 obtain ⟨i0,hi0,hz0,hs0,hb0⟩:=info_parts info108
 have hfl:=flat_len hEl
 have hcapz:(cap:Int) ≤ 9223372036854775807:=by unfold maxLen at hcm;omega
 have hw1:IntKind.i64.wrap ((l.length:Int) + 1) = (l.length:Int) + 1:=IntWalk.i64_in _ (by omega)
 have hw2:IntKind.i64.wrap ((i:Int) + 1) = (i:Int) + 1:=IntWalk.i64_in _ (by omega)
 have hw3:IntKind.i64.wrap ((l.length:Int) + 1 - (i:Int)) = (l.length:Int) + 1 - (i:Int):=IntWalk.i64_in _ (by omega)
 have hne2:¬ ((i:Int) = (l.length:Int)):=by omega
 have hb4:¬ (cap = i):=by omega
 have hb1:(0:Int) ≤ (i:Int) + 1:=by omega
 have htn:((i:Int) + 1).toNat = i + 1:=by omega
 have hb3:(i:Int) ≤ (l.length:Int) + 1:=by omega
 have hin:i ≤ l.length:=by omega
 have hin2:(i:Int) ≤ (l.length:Int):=by omega
 have hic:(i:Int) ≤ (cap:Int):=by omega
 have hX:(rowL row).length = 19:=rfl
 have hDl:((l.drop i).flatMap rowL).length = (l.length - i) * 19:=by rw [flat_len (hEl.sub (fun a ha=>List.mem_of_mem_drop ha)),List.length_drop]
 have hTl:((l.take i).flatMap rowL).length = i * 19:=by rw [flat_len (hEl.sub (fun a ha=>List.mem_of_mem_take ha)),List.length_take,Nat.min_eq_left hin]
 have hcell:=World.ownsRow.cells (g:=g) hown rfl
 have hc0:∀ j u,((l.take i).flatMap rowL)[j]? = some u→w.cell? ⟨g,j,none⟩ = some u:=fun j u hj=>by
  have h2:(l.flatMap rowL)[j]? = some u:=by
   have hlt:=(List.getElem?_eq_some_iff.1 hj).1
   rw [← flat_take hEl i hin,List.getElem?_take] at hj
   rw [hTl] at hlt
   rwa [if_pos hlt] at hj
  have:=hcell j u h2
  rwa [Addr.add_lit,Nat.zero_add] at this
 have hk:((l.length + 1 - i:Nat):Int) = (l.length:Int) + 1 - (i:Int):=by omega
 have hr0:=fun ty=>run_append_make (sl:=96) (e:=108) (s:=19) Tryz.underlying96 hi0 hz0 hs0 rfl (by decide) hb0 ty w g i cap (l.length + 1 - i) _ hTl hc0 (by omega) (by omega) (by omega) (by omega) (by omega)
 rw [hk,show i + (l.length + 1 - i) = l.length + 1 by omega] at hr0
 have hge:=grownCap_ge w (l.length + 1) cap 108
 have hcpm:grownCap w (l.length + 1) cap 108 ≤ maxLen:=grownCap_le_maxLen w (l.length + 1) cap 108 (by unfold maxLen;omega)
 generalize grownCap w (l.length + 1) cap 108 = cp at *
 obtain ⟨Z,hZ⟩:∃ Z:Array Value,Builtin.zeroCells (Value.agg #[.int .i64 0,.int .i64 0,.int .i64 0,.string ⟨#[]⟩,.string ⟨#[]⟩,.int .i64 0,.slice none 0 0,.string ⟨#[]⟩,.int .i64 0,.int .i64 0,.int .i64 0,.int .i64 0,.string ⟨#[]⟩,.string ⟨#[]⟩,.int .i64 0,.slice none 0 0,.string ⟨#[]⟩,.int .i64 0,.int .u32 0]).cells (l.length + 1 - i) ++ Builtin.zeroCells (Value.agg #[.int .i64 0,.int .i64 0,.int .i64 0,.string ⟨#[]⟩,.string ⟨#[]⟩,.int .i64 0,.slice none 0 0,.string ⟨#[]⟩,.int .i64 0,.int .i64 0,.int .i64 0,.int .i64 0,.string ⟨#[]⟩,.string ⟨#[]⟩,.int .i64 0,.slice none 0 0,.string ⟨#[]⟩,.int .i64 0,.int .u32 0]).cells (cp - (l.length + 1)) = Z:=⟨_,rfl⟩
 have hZs:Z.size = (l.length + 1 - i) * 19 + (cp - (l.length + 1)) * 19:=by
  rw [← hZ,Array.size_append,size_zeroCells,size_zeroCells]
  rfl
 simp only [Array.append_assoc] at hr0
 rw [hZ] at hr0
 have hpre:((l.take i).flatMap rowL).toArray ++ Z = ((l.take i).flatMap rowL ++ Z.toList).toArray:=by simp
 rw [hpre] at hr0
 clear hpre hZ
 generalize hC0:(l.take i).flatMap rowL ++ Z.toList = C0 at *
 have hC0l:C0.length = cp * 19:=by rw [← hC0,List.length_append,hTl,Array.length_toList,hZs];omega
 have hZl:Z.toList.length = (l.length + 1 - i) * 19 + (cp - (l.length + 1)) * 19:=by rw [Array.length_toList,hZs]
 obtain ⟨W1,hW1⟩:∃ W1,w.drew.alloc (.cells C0.toArray 108) = W1:=⟨_,rfl⟩
 have hg1:W1.heap[w.heap.size]? = some (.cells C0.toArray 108):=by rw [← hW1];exact alloc_new w.drew _
 have hold:∀ k,k < w.heap.size→W1.heap[k]? = w.heap[k]?:=fun k hk=>by rw [← hW1];exact Below.heap_alloc w.drew _ k hk
 have hW1p:W1.os = w.os∧W1.tape = w.tape∧W1.output = w.output∧W1.heap.size = w.heap.size + 1:=by rw [← hW1];exact ⟨rfl,rfl,rfl,World.size_alloc _ _⟩
 rw [hW1] at hr0
 have hzl:=(Array.getElem?_eq_some_iff.1 hz).1
 have hgl:=(Array.getElem?_eq_some_iff.1 hg).1
 have hz1:=(hold zv hzl).trans hz
 have hm2:Nat.min 1 (l.length + 1 - i) = 1:=by simp only [Nat.min_def];split <;> omega
 have hr1:=fun ty dc sc=>run_copy_rec (sl:=96) (e:=108) (s:=19) Tryz.underlying96 hi0 hs0 ty W1 w.heap.size (i * 19) C0.toArray hg1 (l.length + 1 - i) dc ⟨zv,0,none⟩ 1 sc (rowL row) (by rw [hm2,hX]) (fun j u hj=>by
  rw [Addr.add_lit,Nat.zero_add]
  simp only [World.cell?,hz1]
  simpa using hj) (fun u hu=>(hE row (List.mem_singleton.2 rfl)).2 u hu) (by rw [hX,List.size_toArray,hC0l];omega)
 rw [hm2] at hr1
 have hg2:=setRow_heap W1 w.heap.size C0.toArray (put C0 (i * 19) (rowL row)).toArray 108 (0,0) hg1
 have hC1l:(put C0 (i * 19) (rowL row)).length = cp * 19:=by rw [put_len (by rw [hX,hC0l];omega),hC0l]
 obtain ⟨C1,hC1⟩:∃ C1,put C0 (i * 19) (rowL row) = C1:=⟨_,rfl⟩
 rw [hC1] at hr1 hg2 hC1l
 obtain ⟨W2,hW2⟩:∃ W2,W1.setRow w.heap.size C1.toArray = W2:=⟨_,rfl⟩
 rw [hW2] at hg2 hr1
 have hold2:∀ k,k < w.heap.size→W2.heap[k]? = w.heap[k]?:=fun k hk=>by rw [← hW2];exact (setRow_other W1 w.heap.size k _ (by omega)).trans (hold k hk)
 have hW2p:W2.os = w.os∧W2.tape = w.tape∧W2.output = w.output∧W2.heap.size = w.heap.size + 1:=by rw [← hW2];exact ⟨hW1p.1,hW1p.2.1,hW1p.2.2.1,by simp [World.setRow,hW1p.2.2.2]⟩
 have hc2:∀ j u,((l.drop i).flatMap rowL)[j]? = some u→W2.drew.cell? ((⟨g,i * 19,none⟩:Addr).add j) = some u:=fun j u hj=>by
  rw [Addr.add_lit]
  have h2:(l.flatMap rowL)[i * 19 + j]? = some u:=by rw [← List.getElem?_drop,flat_drop hEl i hin];exact hj
  have:=hcell (i * 19 + j) u h2
  rw [Addr.add_lit,Nat.zero_add] at this
  exact (World.cell?_of_block (w:=w) (w':=W2.drew) (a:=⟨g,i * 19 + j,none⟩) (hold2 g hgl)).trans this
 have h1D:∀ u ∈ (l.drop i).flatMap rowL,u.oneCell' = true:=fun u hu=>by
  obtain ⟨a,ha,hu⟩:=List.mem_flatMap.1 hu
  exact (hEl a (List.mem_of_mem_drop ha)).2 u hu
 have hm3:Nat.min (l.length - i) (l.length - i) = l.length - i:=by simp only [Nat.min_def];split <;> omega
 have hr2:=fun ty dc sc=>run_copy_rec (sl:=96) (e:=108) (s:=19) Tryz.underlying96 hi0 hs0 ty W2.drew w.heap.size ((i + 1) * 19) C1.toArray hg2 (l.length - i) dc ⟨g,i * 19,none⟩ (l.length - i) sc ((l.drop i).flatMap rowL) (by rw [hm3];exact hDl) hc2 h1D (by rw [hDl,List.size_toArray,hC1l];omega)
 rw [hm3] at hr2
 have hg3:=setRow_heap W2.drew w.heap.size C1.toArray (put C1 ((i + 1) * 19) ((l.drop i).flatMap rowL)).toArray 108 (0,0) hg2
 have HFin:Hid (InsQ B (.slice (some ⟨g,0,none⟩) l.length cap) (l.take i ++ [row] ++ l.drop i) w (.returned (.slice (some ⟨w.heap.size,0,none⟩) (l.length + 1) cp)) (W2.drew.setRow w.heap.size (put C1 ((i + 1) * 19) ((l.drop i).flatMap rowL)).toArray)):=Lib.hid (by
  have hln:(l.take i ++ [row] ++ l.drop i).length = l.length + 1:=by simp;omega
  have hins:=ins_new (R:=l.flatMap rowL) (X:=rowL row) (Z:=Z.toList) (p:=i * 19) (s:=19) (by omega) hX (by omega)
  rw [flat_take hEl i hin,flat_drop hEl i hin,hC0,show i * 19 + 19 = (i + 1) * 19 by omega,hC1,hfl] at hins
  refine ⟨_,rfl,⟨?_,.inr ⟨w.heap.size,cp,_,by rw [hln],hB,hg3,by rw [hln];exact hge,hcpm,?_,?_⟩⟩,⟨hW2p.1,hW2p.2.1,hW2p.2.2.1,by simp [World.setRow,hW2p.2.2.2],fun k hk hn=>?_⟩,fun k hk=>.inr (Nat.le_of_eq (by simpa [Value.ownBlock] using hk))⟩
  ·rw [flat_len ((EncOK.append (EncOK.append (hEl.sub (fun a ha=>List.mem_of_mem_take ha)) hE) (hEl.sub (fun a ha=>List.mem_of_mem_drop ha))))]
  ·rw [List.size_toArray,put_len (by rw [hDl,hC1l];omega),hC1l]
  ·rw [hln,show (l.length + 1) * 19 = l.length * 19 + 19 by omega,hins,List.flatMap_append,List.flatMap_append]
   simp
  ·exact (setRow_other _ w.heap.size k _ (by omega)).trans (hold2 k hk))
 have HR0:=Lib.hid hr0
 have HR1:=Lib.hid hr1
 have HR2:=Lib.hid hr2
 have hcpi:¬ (cp = i):=by omega
 have hcpi1:¬ (cp = i + 1):=by omega
 have hcpz:(cp:Int) ≤ 9223372036854775807:=by unfold maxLen at hcpm;omega
 clear hown hB hbg hg hcm hcs htk hfl hX hDl hTl hcell hc0 hk hr0 hcpm hZs hC0 hC0l hZl hW1 hg1 hold hW1p hzl hgl hz1 hm2 hr1 hg2 hC1l hC1 hW2 hold2 hW2p hc2 h1D hm3 hr2 hg3 hz hE hEl hi0 hz0 hs0 hb0
 go_enter Tryz.func60,Tryz.ntmps60
 go_upto_region 9 with (fail)
 clear hw1 hcapz
 go_upto_region 10 with (at_builtin;refine wpList_appmake_run (t:=96) (t':=3) (w':=W1) rfl (.tmp 34) (.tmp 39) rfl rfl rfl (HR0.out _) ?_)
 go_upto_region 11 with (refine wpList_copy_run (t:=96) (t':=96) (w':=W2) rfl (.tmp 43) (.tmp 44) rfl rfl rfl (HR1.out _ _ _) ?_)
 go_simp
 clear HR0 HR1 hw3 hroom hge hic
 go_still_tail 8,(by kernel_rfl)
 change wpList _ _ _ _ _ W2.drew
 go_wp2_with (refine wpList_copy_run rfl (.tmp 50) (.tmp 53) rfl rfl rfl (HR2.out _ _ _) ?_)
 go_ret
 have h5:=HFin.out
 rw [List.append_assoc] at h5
 exact h5
theorem insert60 (hown:RecOwn rowL 108 19 w B vr l) (hB:B ≤ w.heap.size) (hlen:l.length ≤ 1000000) (hEl:EncOK rowL 19 l) (hE:EncOK rowL 19 [row]) (hz:w.heap[zv]? = some (.cells (rowL row).toArray 108)) (hne:vr.ownBlock ≠ some zv) {i:Nat} (hi:i ≤ l.length) :
 Calls Tryz.prog 60 #[vr,.int .i64 i,.slice (some ⟨zv,0,none⟩) 1 1] w (InsQ B vr (l.take i ++ [row] ++ l.drop i) w):=by
 by_cases h:i < l.length
 ·obtain ⟨p,c,hv,_,_⟩:=hown.shape
  by_cases hr:l.length + 1 ≤ c
  ·exact insert60m hown hB hlen hEl hE hz hne h hv hr
  ·exact insert60g hown hB hlen hEl hE hz h hv (by omega)
 ·obtain rfl:i = l.length:=by omega
  rw [List.take_length,List.drop_length,List.append_nil]
  exact insert60e hown hB hlen hE hz
end
end Go.Proofs.YtfbggmbmgohiiaaGreat.tb
