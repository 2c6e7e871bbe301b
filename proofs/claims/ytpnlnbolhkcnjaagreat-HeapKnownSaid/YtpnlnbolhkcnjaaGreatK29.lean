/- HrE,HrF. No condition beyond theirs. -/
import Derived.Test.YtpnlnbolhkcnjaaGreatK28
set_option linter.unusedSimpArgs false
set_option linter.unusedVariables false
set_option maxHeartbeats 4000000
set_option maxRecDepth 100000
namespace Go.Proofs.YtpnlnbolhkcnjaaGreat.hp
open Go.RowKit mem words rec tm
section
variable {w:World} {B z a b:Nat} {c:Int} {σ:St} {S:Nat→Prop}
abbrev C9 (k i gg:Int) (nm fn:ByteArray) (ar:Int) (v:Value) (by_:ByteArray) (bt:Int):Array Value:=#[.int .i64 k,.int .i64 i,.int .i64 gg,.string nm,.string fn,.int .i64 ar,v,.string by_,.int .i64 bt]
abbrev Box9 (x:Nat) (k i gg:Int) (nm fn:ByteArray) (ar:Int) (v:Value) (by_:ByteArray) (bt:Int) (W:World):Prop:=W.cell? ⟨x,0,none⟩ = some (.int .i64 k)∧W.cell? ⟨x,1,none⟩ = some (.int .i64 i)∧W.cell? ⟨x,2,none⟩ = some (.int .i64 gg)∧W.cell? ⟨x,3,none⟩ = some (.string nm)∧W.cell? ⟨x,4,none⟩ = some (.string fn)∧W.cell? ⟨x,5,none⟩ = some (.int .i64 ar)∧W.cell? ⟨x,6,none⟩ = some v∧W.cell? ⟨x,7,none⟩ = some (.string by_)∧W.cell? ⟨x,8,none⟩ = some (.int .i64 bt)
theorem box9 {W:World} {x:Nat} {k i gg:Int} {nm fn:ByteArray} {ar:Int} {v:Value} {by_:ByteArray} {bt:Int} (h:W.heap[x]? = some (.cells (C9 k i gg nm fn ar v by_ bt) 38)):Box9 x k i gg nm fn ar v by_ bt W :=
 ⟨(cell_of_blk h).trans rfl,(cell_of_blk h).trans rfl,(cell_of_blk h).trans rfl,(cell_of_blk h).trans rfl,(cell_of_blk h).trans rfl,(cell_of_blk h).trans rfl,(cell_of_blk h).trans rfl,(cell_of_blk h).trans rfl,(cell_of_blk h).trans rfl⟩
theorem own_list (w:World) (xs:List Int) (hx:xs.length ≤ 1000000):RecOwn encW 40 1 (w.alloc (.cells (xs.map (Value.int .u64)).toArray 40)) w.heap.size (.slice (some ⟨w.heap.size,0,none⟩) xs.length xs.length) xs :=
 ⟨by rw [flat_words];simp,.inr ⟨w.heap.size,xs.length,_,rfl,Nat.le_refl _,heap_alloc_new w _,Nat.le_refl _,by unfold maxLen;omega,by simp,by rw [flat_words,Nat.mul_one];exact List.take_of_length_le (by simp)⟩⟩
theorem clos_app {W0 wr W2:World} {S1 S2:Nat→Prop} {σ1 σ2:St} {v:Value} {l:List Int} (hL:LoopI W0 B z a b c S S1 σ1 wr v l) (h2:HQ W2 B z a b c σ2 S2) (t2:TouchB S1 wr W2) (c2:∀ k,S2 k→k < wr.heap.size→S1 k)
 (xs:List Int) (hw:cl.Wds (xs ++ l)) (hx0:xs ≠ []) (hl:σ2.Y.length + 1 + (xs ++ l).length ≤ 1000000∧(xs ++ l).length ≤ 65535) :
 ∃ v' w',(Builtin.append_ #[22,22] 22 #[.slice (some ⟨W2.heap.size,0,none⟩) xs.length xs.length,v]).run Tryz.prog (W2.alloc (.cells (xs.map (Value.int .u64)).toArray 40)) = .ok v' w'∧TouchB S1 wr w' ∧
  Calls Tryz.prog 78 #[.pointer (some ⟨z,0,none⟩),.int .i64 2,v'] w' (RQ B z a b c S2 (boxO 2 (xs ++ l) σ2) W2):=by
 have hsz:(W2.alloc (.cells (xs.map (Value.int .u64)).toArray 40)).heap.size = W2.heap.size + 1:=World.size_alloc _ _;have hb1:Below W2.heap.size W2 (W2.alloc (.cells (xs.map (Value.int .u64)).toArray 40)):=belowA (Below.refl _ W2) _;have hlen:(xs ++ l).length = xs.length + l.length:=List.length_append;have hrow:=((row_step hL.row hL.ap t2).below hb1).row (encW_ok _);obtain ⟨v',w',hr,hA⟩:=run_append_rec elW (own_list W2 xs (by omega)) (by rw [hsz];omega) 22 hrow (encW_ok _) (by omega)
 have hb2:Below W2.heap.size W2 w':=hA.belowB hb1 (by rw [hsz];omega) (fun q hq=>by have e1:W2.heap.size = q:=Option.some.inj hq;rw [← e1];exact Nat.le_refl _);refine ⟨v',w',hr,t2.ofBelow hb2 t2.size,?_⟩;exact (boxQ (h2.below hb2) (k:=2) (by omega) (by omega) (hA.own.row (encW_ok _)) (Nat.le_refl _) hl.2 hw hl.1).mono fun e w' hh=>hh.of_below hb2
theorem put_k1 (h:HQ w B z a b c σ S) (i gg:Int) (nm fn:ByteArray) (ar:Int) (by_:ByteArray) (bt:Int) (p:Option Addr) (len cp:Nat) (hcp:len ≤ cp) (hcm:cp ≤ 9223372036854775807) (hlb:len ≤ 100000)
 {ws:Nat→List Int} {σs:Nat→St} {xs:Nat→Int} (hE:PutEl w B z a b c σ S p len ws σs xs) (hr0:-9223372036854775808 ≤ i) (hr1:i ≤ 9223372036854775807) (hc:Cap (σs len) 1 (needF ⟨1,i,gg,nm,fn,ar,by_,bt⟩ len)) :
 Calls Tryz.prog 69 #[.pointer (some ⟨z,0,none⟩),.agg (C9 1 i gg nm fn ar (.slice p len cp) by_ bt)] w (RQ B z a b c S (kindO ⟨1,i,gg,nm,fn,ar,by_,bt⟩ (ws len) (σs len)) w):=by
 have eK:kindO ⟨1,i,gg,nm,fn,ar,by_,bt⟩ (ws len) (σs len) = intO i (σs len):=by
  unfold kindO;simp
 rw [eK];clear eK;have hb0:Below w.heap.size w (w.alloc (.cells (C9 1 i gg nm fn ar (.slice p len cp) by_ bt) 38)):=belowA (Below.refl _ w) _;have hx:=heap_alloc_new w (.cells (C9 1 i gg nm fn ar (.slice p len cp) by_ bt) 38);have hsz:(w.alloc (.cells (C9 1 i gg nm fn ar (.slice p len cp) by_ bt) 38)).heap.size = w.heap.size + 1:=World.size_alloc _ _;generalize hw0:w.alloc (.cells (C9 1 i gg nm fn ar (.slice p len cp) by_ bt) 38) = W0 at *
 have hmk:∀ W:World,(Instr.makeSlice 22 (.int .i64 0) (.int .i64 len)).run Tryz.prog W = .ok (.slice (some ⟨W.heap.size,0,none⟩) 0 len) (W.alloc (.cells (mkc len) 40)):=fun W=>mk22 W len hlb;have hb1:Below W0.heap.size W0 (W0.alloc (.cells (mkc len) 40)):=belowA (Below.refl _ W0) _;have hq1:=(h.below hb0).below hb1
 have hrow:RecOwn encW 40 1 (W0.alloc (.cells (mkc len) 40)) W0.heap.size (.slice (some ⟨W0.heap.size,0,none⟩) 0 len) [] :=
  World.ownsRow_made (e:=40) (size:=1) (base:=W0.heap.size) W0 (mkc len) len (Nat.le_refl _) (by unfold maxLen;omega) (by rw [mkc_size];omega)
 have hLI:LoopI W0 B z a b c S S σ (W0.alloc (.cells (mkc len) 40)) (.slice (some ⟨W0.heap.size,0,none⟩) 0 len) [] :=
  ⟨hq1,(TouchB.refl _ W0).ofBelow hb1 (Nat.le_refl _),fun _ hk _=>hk,hrow,fun k hk h'=>by
   have e1:=h.lt k h'
   have e2:W0.heap.size = k:=Option.some.inj hk
   omega⟩
 have HLT:=Lib.hid h.lt;have HB0:=Lib.hid hb0;have HX:=Lib.hid hx;have HSZ:=Lib.hid hsz;have HLI:=Lib.hid hLI;have HE:=Lib.hid hE;have HC:=Lib.hid hc;have HKeep:Hid (∀ (S1:Nat→Prop) (σ1:St) (wr:World) (v:Value) (l:List Int),LoopI W0 B z a b c S S1 σ1 wr v l→∀ W,TouchB S1 wr W→Box9 w.heap.size 1 i gg nm fn ar (.slice p len cp) by_ bt W):=Lib.hid (fun S1 σ1 wr v l hl W ht=>by
  obtain ⟨k1,k2,k3⟩:=hl.keep (g:=w.heap.size) (by have:=HSZ.out;omega) (fun e=>absurd (HLT.out _ e) (Nat.lt_irrefl _))
  exact box9 ((ht.block _ k3 k2).trans (k1.trans HX.out)))
 obtain ⟨x0,x1,x2,x3,x4,x5,x6,x7,x8⟩:=box9 hx;clear h hb0 hx hsz hb1 hq1 hrow hLI hE hc;go_enter Tryz.func69,Tryz.ntmps69;go_upto_region 1 with (fail);clear hw0;go_upto_region 2 with (fail);generalize W0.alloc (.cells (mkc len) 40) = WA at *;obtain ⟨y0,y1,y2,y3,y4,y5,y6,y7,y8⟩:=HKeep.out _ _ _ _ _ HLI.out WA (TouchB.refl _ _);clear x0 x1 x2 x3 x4 x5 x6 x7 x8 hmk;go_wp2_with fail;clear y0 y1 y2 y3 y4 y5 y6 y7 y8;go_loopw [5,17] (fun s5 s17 wr=>∃ (j:Nat) (S1:Nat→Prop),s17 = .int .i64 j∧j ≤ len∧Hid (LoopI W0 B z a b c S S1 (σs j) wr s5 (ws j))) (fun _ s17 _=>len - (intOf s17).toNat)
 case atStart=>exact ⟨0,S,rfl,by omega,Lib.hid (by rw [HE.out.w0,HE.out.s0];exact HLI.out)⟩
 case round =>
  obtain ⟨j,S1,rfl,hj,HL⟩:=hrel
  by_cases hlt:j < len
  ·obtain ⟨g0,o0,f',q,m,c',hp,hg0,hgS,hC,hCall⟩:=HE.out.el j hlt;subst hp;have hgb:=HL.out.keep (g:=g0) (by have:=HSZ.out;omega) hgS;have hC2:=(hC.same (HB0.out.block g0 hg0)).same hgb.1;obtain ⟨y0,y1,y2,y3,y4,y5,y6,y7,y8⟩:=hC2;have hb1:Below wr.heap.size wr (wr.alloc (.cells (C9 f'.kind f'.int f'.gen f'.name f'.func f'.arity (.slice q m c') f'.bytes f'.bits) 38)):=belowA (Below.refl _ _) _;have HCA:=Lib.hid (hCall (wr.alloc (.cells (C9 f'.kind f'.int f'.gen f'.name f'.func f'.arity (.slice q m c') f'.bytes f'.bits) 38)) S1 (HL.out.hq.below hb1) (fun g hg1 hg2=>by
    obtain ⟨k1,k2,k3⟩:=HL.out.keep (g:=g) (by have:=HSZ.out;omega) hg1
    exact (hb1.block g k3).trans (k1.trans (HB0.out.block g hg2))) (fun k hk hkl=>HL.out.c1 k hk (by have:=HSZ.out;omega)) (by have:=HL.out.t.size;have:=hb1.size;have:=HSZ.out;omega))
   unfold aggV at HCA;have HB1:=Lib.hid hb1;have hwl:=HE.out.wl j hj;have HWL:=Lib.hid hwl;clear hb1 hC hCall hgb hwl hgS;go_wp2_with fail;refine HCA.out.mono ?_;rintro e w2 hq;have hq1:=hq.1;subst hq1;have hr2:=HL.out.row2 HB1.out hq.2 (.cells #[.int .u64 (xs j)] 40);have HSz:=Lib.hid (HL.out.size HB1.out hq.2 (.cells #[.int .u64 (xs j)] 40));have HR2:=Lib.hid hr2
   have RA:Hid (RecAt encW 1 (w2.alloc (.cells #[.int .u64 (xs j)] 40)) (w2.heap.size + 1) (.slice (some ⟨w2.heap.size,0,none⟩) 1 1) [xs j]):=Lib.hid (RecAt.fresh (encW_ok [xs j]) (by decide) (heap_alloc_new w2 _) (Nat.le_refl 1) (by unfold maxLen;omega));have HQ2:=Lib.hid hq.2;have HLN:Hid ((ws j).length + [xs j].length ≤ 1000000000):=Lib.hid (by rw [HWL.out];show j + 1 ≤ _;omega);clear hq hr2 y0 y1 y2 y3 y4 y5 y6 y7 y8
   go_wp2_with (refine wpList_append_rec (enc:=encW) elW rfl (.tmp 21) (.tmp 25) rfl rfl (base:=W0.heap.size) (l:=ws j) HR2.out HSz.out (B:=w2.heap.size + 1) (xs:=[xs j]) rfl RA.out (encW_ok _) HLN.out ?_)
   intro v2 w3 hA;obtain ⟨S2,hL2⟩:=HL.out.next HB1.out HQ2.out hA;rw [← HE.out.w1 j hlt] at hL2;have HL2:=Lib.hid hL2;clear hA hL2;go_wp2_with fail;go_roundw
   case rel=>exact ⟨j + 1,S2,by go_num,by omega,HL2⟩
   case measure=>simp [intOf];omega
  ·obtain rfl:j = len:=by omega
   obtain ⟨pv,cv,ev,hv1,hv2⟩:=HL.out.row.shape;rw [HE.out.wl j hj] at ev hv1;subst ev;obtain ⟨y0,y1,y2,y3,y4,y5,y6,y7,y8⟩:=HKeep.out _ _ _ _ _ HL.out wr (TouchB.refl _ _);have hcy:=HC.out.y;have hz0:(0:Int) ≤ needF ⟨1,i,gg,nm,fn,ar,by_,bt⟩ j:=by unfold needF;rw [if_pos rfl];split <;> omega
   have HI:=Lib.hid (intQ HL.out.hq i hr0 hr1 (by omega));go_wp2_with fail;refine HI.out.mono ?_;rintro e W4 hq;have hq1:=hq.1;subst hq1;have HQ:=Lib.hid hq.2;clear hq y0 y1 y2 y3 y4 y5 y6 y7 y8;go_wp2_with fail;go_ret;exact ⟨rfl,HL.out.fin HB0.out HQ.out⟩
theorem put_k2 (h:HQ w B z a b c σ S) (i gg:Int) (nm fn:ByteArray) (ar:Int) (by_:ByteArray) (bt:Int) (p:Option Addr) (len cp:Nat) (hcp:len ≤ cp) (hcm:cp ≤ 9223372036854775807) (hlb:len ≤ 100000)
 {ws:Nat→List Int} {σs:Nat→St} {xs:Nat→Int} (hE:PutEl w B z a b c σ S p len ws σs xs) (hc:Cap (σs len) 1 (needF ⟨2,i,gg,nm,fn,ar,by_,bt⟩ len)) :
 Calls Tryz.prog 69 #[.pointer (some ⟨z,0,none⟩),.agg (C9 2 i gg nm fn ar (.slice p len cp) by_ bt)] w (RQ B z a b c S (kindO ⟨2,i,gg,nm,fn,ar,by_,bt⟩ (ws len) (σs len)) w):=by
 have eK:kindO ⟨2,i,gg,nm,fn,ar,by_,bt⟩ (ws len) (σs len) = atomO nm (σs len):=by
  unfold kindO;simp
 rw [eK];clear eK;have hb0:Below w.heap.size w (w.alloc (.cells (C9 2 i gg nm fn ar (.slice p len cp) by_ bt) 38)):=belowA (Below.refl _ w) _;have hx:=heap_alloc_new w (.cells (C9 2 i gg nm fn ar (.slice p len cp) by_ bt) 38);have hsz:(w.alloc (.cells (C9 2 i gg nm fn ar (.slice p len cp) by_ bt) 38)).heap.size = w.heap.size + 1:=World.size_alloc _ _;generalize hw0:w.alloc (.cells (C9 2 i gg nm fn ar (.slice p len cp) by_ bt) 38) = W0 at *
 have hmk:∀ W:World,(Instr.makeSlice 22 (.int .i64 0) (.int .i64 len)).run Tryz.prog W = .ok (.slice (some ⟨W.heap.size,0,none⟩) 0 len) (W.alloc (.cells (mkc len) 40)):=fun W=>mk22 W len hlb;have hb1:Below W0.heap.size W0 (W0.alloc (.cells (mkc len) 40)):=belowA (Below.refl _ W0) _;have hq1:=(h.below hb0).below hb1
 have hrow:RecOwn encW 40 1 (W0.alloc (.cells (mkc len) 40)) W0.heap.size (.slice (some ⟨W0.heap.size,0,none⟩) 0 len) [] :=
  World.ownsRow_made (e:=40) (size:=1) (base:=W0.heap.size) W0 (mkc len) len (Nat.le_refl _) (by unfold maxLen;omega) (by rw [mkc_size];omega)
 have hLI:LoopI W0 B z a b c S S σ (W0.alloc (.cells (mkc len) 40)) (.slice (some ⟨W0.heap.size,0,none⟩) 0 len) [] :=
  ⟨hq1,(TouchB.refl _ W0).ofBelow hb1 (Nat.le_refl _),fun _ hk _=>hk,hrow,fun k hk h'=>by
   have e1:=h.lt k h'
   have e2:W0.heap.size = k:=Option.some.inj hk
   omega⟩
 have HLT:=Lib.hid h.lt;have HB0:=Lib.hid hb0;have HX:=Lib.hid hx;have HSZ:=Lib.hid hsz;have HLI:=Lib.hid hLI;have HE:=Lib.hid hE;have HC:=Lib.hid hc;have HKeep:Hid (∀ (S1:Nat→Prop) (σ1:St) (wr:World) (v:Value) (l:List Int),LoopI W0 B z a b c S S1 σ1 wr v l→∀ W,TouchB S1 wr W→Box9 w.heap.size 2 i gg nm fn ar (.slice p len cp) by_ bt W):=Lib.hid (fun S1 σ1 wr v l hl W ht=>by
  obtain ⟨k1,k2,k3⟩:=hl.keep (g:=w.heap.size) (by have:=HSZ.out;omega) (fun e=>absurd (HLT.out _ e) (Nat.lt_irrefl _))
  exact box9 ((ht.block _ k3 k2).trans (k1.trans HX.out)))
 obtain ⟨x0,x1,x2,x3,x4,x5,x6,x7,x8⟩:=box9 hx;clear h hb0 hx hsz hb1 hq1 hrow hLI hE hc;go_enter Tryz.func69,Tryz.ntmps69;go_upto_region 1 with (fail);clear hw0;go_upto_region 2 with (fail);generalize W0.alloc (.cells (mkc len) 40) = WA at *;obtain ⟨y0,y1,y2,y3,y4,y5,y6,y7,y8⟩:=HKeep.out _ _ _ _ _ HLI.out WA (TouchB.refl _ _);clear x0 x1 x2 x3 x4 x5 x6 x7 x8 hmk;go_wp2_with fail;clear y0 y1 y2 y3 y4 y5 y6 y7 y8;go_loopw [5,17] (fun s5 s17 wr=>∃ (j:Nat) (S1:Nat→Prop),s17 = .int .i64 j∧j ≤ len∧Hid (LoopI W0 B z a b c S S1 (σs j) wr s5 (ws j))) (fun _ s17 _=>len - (intOf s17).toNat)
 case atStart=>exact ⟨0,S,rfl,by omega,Lib.hid (by rw [HE.out.w0,HE.out.s0];exact HLI.out)⟩
 case round =>
  obtain ⟨j,S1,rfl,hj,HL⟩:=hrel
  by_cases hlt:j < len
  ·obtain ⟨g0,o0,f',q,m,c',hp,hg0,hgS,hC,hCall⟩:=HE.out.el j hlt;subst hp;have hgb:=HL.out.keep (g:=g0) (by have:=HSZ.out;omega) hgS;have hC2:=(hC.same (HB0.out.block g0 hg0)).same hgb.1;obtain ⟨y0,y1,y2,y3,y4,y5,y6,y7,y8⟩:=hC2;have hb1:Below wr.heap.size wr (wr.alloc (.cells (C9 f'.kind f'.int f'.gen f'.name f'.func f'.arity (.slice q m c') f'.bytes f'.bits) 38)):=belowA (Below.refl _ _) _;have HCA:=Lib.hid (hCall (wr.alloc (.cells (C9 f'.kind f'.int f'.gen f'.name f'.func f'.arity (.slice q m c') f'.bytes f'.bits) 38)) S1 (HL.out.hq.below hb1) (fun g hg1 hg2=>by
    obtain ⟨k1,k2,k3⟩:=HL.out.keep (g:=g) (by have:=HSZ.out;omega) hg1
    exact (hb1.block g k3).trans (k1.trans (HB0.out.block g hg2))) (fun k hk hkl=>HL.out.c1 k hk (by have:=HSZ.out;omega)) (by have:=HL.out.t.size;have:=hb1.size;have:=HSZ.out;omega))
   unfold aggV at HCA;have HB1:=Lib.hid hb1;have hwl:=HE.out.wl j hj;have HWL:=Lib.hid hwl;clear hb1 hC hCall hgb hwl hgS;go_wp2_with fail;refine HCA.out.mono ?_;rintro e w2 hq;have hq1:=hq.1;subst hq1;have hr2:=HL.out.row2 HB1.out hq.2 (.cells #[.int .u64 (xs j)] 40);have HSz:=Lib.hid (HL.out.size HB1.out hq.2 (.cells #[.int .u64 (xs j)] 40));have HR2:=Lib.hid hr2
   have RA:Hid (RecAt encW 1 (w2.alloc (.cells #[.int .u64 (xs j)] 40)) (w2.heap.size + 1) (.slice (some ⟨w2.heap.size,0,none⟩) 1 1) [xs j]):=Lib.hid (RecAt.fresh (encW_ok [xs j]) (by decide) (heap_alloc_new w2 _) (Nat.le_refl 1) (by unfold maxLen;omega));have HQ2:=Lib.hid hq.2;have HLN:Hid ((ws j).length + [xs j].length ≤ 1000000000):=Lib.hid (by rw [HWL.out];show j + 1 ≤ _;omega);clear hq hr2 y0 y1 y2 y3 y4 y5 y6 y7 y8
   go_wp2_with (refine wpList_append_rec (enc:=encW) elW rfl (.tmp 21) (.tmp 25) rfl rfl (base:=W0.heap.size) (l:=ws j) HR2.out HSz.out (B:=w2.heap.size + 1) (xs:=[xs j]) rfl RA.out (encW_ok _) HLN.out ?_)
   intro v2 w3 hA;obtain ⟨S2,hL2⟩:=HL.out.next HB1.out HQ2.out hA;rw [← HE.out.w1 j hlt] at hL2;have HL2:=Lib.hid hL2;clear hA hL2;go_wp2_with fail;go_roundw
   case rel=>exact ⟨j + 1,S2,by go_num,by omega,HL2⟩
   case measure=>simp [intOf];omega
  ·obtain rfl:j = len:=by omega
   obtain ⟨pv,cv,ev,hv1,hv2⟩:=HL.out.row.shape;rw [HE.out.wl j hj] at ev hv1;subst ev;obtain ⟨y0,y1,y2,y3,y4,y5,y6,y7,y8⟩:=HKeep.out _ _ _ _ _ HL.out wr (TouchB.refl _ _);have hcn:=HC.out.n;have HI:=Lib.hid (atomQ HL.out.hq nm (by omega));go_wp2_with fail;refine HI.out.mono ?_;rintro e W4 hq;have hq1:=hq.1;subst hq1;have HQ:=Lib.hid hq.2;clear hq y0 y1 y2 y3 y4 y5 y6 y7 y8;go_wp2_with fail;go_ret;exact ⟨rfl,HL.out.fin HB0.out HQ.out⟩
theorem put_k8 (h:HQ w B z a b c σ S) (i gg:Int) (nm fn:ByteArray) (ar:Int) (by_:ByteArray) (bt:Int) (p:Option Addr) (len cp:Nat) (hcp:len ≤ cp) (hcm:cp ≤ 9223372036854775807) (hlb:len ≤ 100000)
 {ws:Nat→List Int} {σs:Nat→St} {xs:Nat→Int} (hE:PutEl w B z a b c σ S p len ws σs xs) (hc:Cap (σs len) 1 (needF ⟨8,i,gg,nm,fn,ar,by_,bt⟩ len)) :
 Calls Tryz.prog 69 #[.pointer (some ⟨z,0,none⟩),.agg (C9 8 i gg nm fn ar (.slice p len cp) by_ bt)] w (RQ B z a b c S (kindO ⟨8,i,gg,nm,fn,ar,by_,bt⟩ (ws len) (σs len)) w):=by
 have eK:kindO ⟨8,i,gg,nm,fn,ar,by_,bt⟩ (ws len) (σs len) = (11,σs len):=by
  unfold kindO;simp
 rw [eK];clear eK;have hb0:Below w.heap.size w (w.alloc (.cells (C9 8 i gg nm fn ar (.slice p len cp) by_ bt) 38)):=belowA (Below.refl _ w) _;have hx:=heap_alloc_new w (.cells (C9 8 i gg nm fn ar (.slice p len cp) by_ bt) 38);have hsz:(w.alloc (.cells (C9 8 i gg nm fn ar (.slice p len cp) by_ bt) 38)).heap.size = w.heap.size + 1:=World.size_alloc _ _;generalize hw0:w.alloc (.cells (C9 8 i gg nm fn ar (.slice p len cp) by_ bt) 38) = W0 at *
 have hmk:∀ W:World,(Instr.makeSlice 22 (.int .i64 0) (.int .i64 len)).run Tryz.prog W = .ok (.slice (some ⟨W.heap.size,0,none⟩) 0 len) (W.alloc (.cells (mkc len) 40)):=fun W=>mk22 W len hlb;have hb1:Below W0.heap.size W0 (W0.alloc (.cells (mkc len) 40)):=belowA (Below.refl _ W0) _;have hq1:=(h.below hb0).below hb1
 have hrow:RecOwn encW 40 1 (W0.alloc (.cells (mkc len) 40)) W0.heap.size (.slice (some ⟨W0.heap.size,0,none⟩) 0 len) [] :=
  World.ownsRow_made (e:=40) (size:=1) (base:=W0.heap.size) W0 (mkc len) len (Nat.le_refl _) (by unfold maxLen;omega) (by rw [mkc_size];omega)
 have hLI:LoopI W0 B z a b c S S σ (W0.alloc (.cells (mkc len) 40)) (.slice (some ⟨W0.heap.size,0,none⟩) 0 len) [] :=
  ⟨hq1,(TouchB.refl _ W0).ofBelow hb1 (Nat.le_refl _),fun _ hk _=>hk,hrow,fun k hk h'=>by
   have e1:=h.lt k h'
   have e2:W0.heap.size = k:=Option.some.inj hk
   omega⟩
 have HLT:=Lib.hid h.lt;have HB0:=Lib.hid hb0;have HX:=Lib.hid hx;have HSZ:=Lib.hid hsz;have HLI:=Lib.hid hLI;have HE:=Lib.hid hE;have HC:=Lib.hid hc;have HKeep:Hid (∀ (S1:Nat→Prop) (σ1:St) (wr:World) (v:Value) (l:List Int),LoopI W0 B z a b c S S1 σ1 wr v l→∀ W,TouchB S1 wr W→Box9 w.heap.size 8 i gg nm fn ar (.slice p len cp) by_ bt W):=Lib.hid (fun S1 σ1 wr v l hl W ht=>by
  obtain ⟨k1,k2,k3⟩:=hl.keep (g:=w.heap.size) (by have:=HSZ.out;omega) (fun e=>absurd (HLT.out _ e) (Nat.lt_irrefl _))
  exact box9 ((ht.block _ k3 k2).trans (k1.trans HX.out)))
 obtain ⟨x0,x1,x2,x3,x4,x5,x6,x7,x8⟩:=box9 hx;clear h hb0 hx hsz hb1 hq1 hrow hLI hE hc;go_enter Tryz.func69,Tryz.ntmps69;go_upto_region 1 with (fail);clear hw0;go_upto_region 2 with (fail);generalize W0.alloc (.cells (mkc len) 40) = WA at *;obtain ⟨y0,y1,y2,y3,y4,y5,y6,y7,y8⟩:=HKeep.out _ _ _ _ _ HLI.out WA (TouchB.refl _ _);clear x0 x1 x2 x3 x4 x5 x6 x7 x8 hmk;go_wp2_with fail;clear y0 y1 y2 y3 y4 y5 y6 y7 y8;go_loopw [5,17] (fun s5 s17 wr=>∃ (j:Nat) (S1:Nat→Prop),s17 = .int .i64 j∧j ≤ len∧Hid (LoopI W0 B z a b c S S1 (σs j) wr s5 (ws j))) (fun _ s17 _=>len - (intOf s17).toNat)
 case atStart=>exact ⟨0,S,rfl,by omega,Lib.hid (by rw [HE.out.w0,HE.out.s0];exact HLI.out)⟩
 case round =>
  obtain ⟨j,S1,rfl,hj,HL⟩:=hrel
  by_cases hlt:j < len
  ·obtain ⟨g0,o0,f',q,m,c',hp,hg0,hgS,hC,hCall⟩:=HE.out.el j hlt;subst hp;have hgb:=HL.out.keep (g:=g0) (by have:=HSZ.out;omega) hgS;have hC2:=(hC.same (HB0.out.block g0 hg0)).same hgb.1;obtain ⟨y0,y1,y2,y3,y4,y5,y6,y7,y8⟩:=hC2;have hb1:Below wr.heap.size wr (wr.alloc (.cells (C9 f'.kind f'.int f'.gen f'.name f'.func f'.arity (.slice q m c') f'.bytes f'.bits) 38)):=belowA (Below.refl _ _) _;have HCA:=Lib.hid (hCall (wr.alloc (.cells (C9 f'.kind f'.int f'.gen f'.name f'.func f'.arity (.slice q m c') f'.bytes f'.bits) 38)) S1 (HL.out.hq.below hb1) (fun g hg1 hg2=>by
    obtain ⟨k1,k2,k3⟩:=HL.out.keep (g:=g) (by have:=HSZ.out;omega) hg1
    exact (hb1.block g k3).trans (k1.trans (HB0.out.block g hg2))) (fun k hk hkl=>HL.out.c1 k hk (by have:=HSZ.out;omega)) (by have:=HL.out.t.size;have:=hb1.size;have:=HSZ.out;omega))
   unfold aggV at HCA;have HB1:=Lib.hid hb1;have hwl:=HE.out.wl j hj;have HWL:=Lib.hid hwl;clear hb1 hC hCall hgb hwl hgS;go_wp2_with fail;refine HCA.out.mono ?_;rintro e w2 hq;have hq1:=hq.1;subst hq1;have hr2:=HL.out.row2 HB1.out hq.2 (.cells #[.int .u64 (xs j)] 40);have HSz:=Lib.hid (HL.out.size HB1.out hq.2 (.cells #[.int .u64 (xs j)] 40));have HR2:=Lib.hid hr2
   have RA:Hid (RecAt encW 1 (w2.alloc (.cells #[.int .u64 (xs j)] 40)) (w2.heap.size + 1) (.slice (some ⟨w2.heap.size,0,none⟩) 1 1) [xs j]):=Lib.hid (RecAt.fresh (encW_ok [xs j]) (by decide) (heap_alloc_new w2 _) (Nat.le_refl 1) (by unfold maxLen;omega));have HQ2:=Lib.hid hq.2;have HLN:Hid ((ws j).length + [xs j].length ≤ 1000000000):=Lib.hid (by rw [HWL.out];show j + 1 ≤ _;omega);clear hq hr2 y0 y1 y2 y3 y4 y5 y6 y7 y8
   go_wp2_with (refine wpList_append_rec (enc:=encW) elW rfl (.tmp 21) (.tmp 25) rfl rfl (base:=W0.heap.size) (l:=ws j) HR2.out HSz.out (B:=w2.heap.size + 1) (xs:=[xs j]) rfl RA.out (encW_ok _) HLN.out ?_)
   intro v2 w3 hA;obtain ⟨S2,hL2⟩:=HL.out.next HB1.out HQ2.out hA;rw [← HE.out.w1 j hlt] at hL2;have HL2:=Lib.hid hL2;clear hA hL2;go_wp2_with fail;go_roundw
   case rel=>exact ⟨j + 1,S2,by go_num,by omega,HL2⟩
   case measure=>simp [intOf];omega
  ·obtain rfl:j = len:=by omega
   obtain ⟨pv,cv,ev,hv1,hv2⟩:=HL.out.row.shape;rw [HE.out.wl j hj] at ev hv1;subst ev;obtain ⟨y0,y1,y2,y3,y4,y5,y6,y7,y8⟩:=HKeep.out _ _ _ _ _ HL.out wr (TouchB.refl _ _);have HI:=Lib.hid (fun W=>words.Nil W);have HR:=Lib.hid (HL.out.fin HB0.out (StepQ.refl HL.out.hq));go_wp2_with fail;refine (HI.out _).mono ?_;rintro e w' ⟨rfl,rfl⟩;clear y0 y1 y2 y3 y4 y5 y6 y7 y8;go_wp2_with fail;go_ret;exact ⟨rfl,HR.out⟩
theorem put_k7 (h:HQ w B z a b c σ S) (i gg:Int) (nm fn:ByteArray) (ar:Int) (by_:ByteArray) (bt:Int) (p:Option Addr) (len cp:Nat) (hcp:len ≤ cp) (hcm:cp ≤ 9223372036854775807) (hlb:len ≤ 100000)
 {ws:Nat→List Int} {σs:Nat→St} {xs:Nat→Int} (hE:PutEl w B z a b c σ S p len ws σs xs) (hn:len ≤ 255) (hc:Cap (σs len) 1 (needF ⟨7,i,gg,nm,fn,ar,by_,bt⟩ len)) :
 Calls Tryz.prog 69 #[.pointer (some ⟨z,0,none⟩),.agg (C9 7 i gg nm fn ar (.slice p len cp) by_ bt)] w (RQ B z a b c S (kindO ⟨7,i,gg,nm,fn,ar,by_,bt⟩ (ws len) (σs len)) w):=by
 have eK:kindO ⟨7,i,gg,nm,fn,ar,by_,bt⟩ (ws len) (σs len) = boxO 1 (ws len) (σs len):=by
  unfold kindO;simp
 rw [eK];clear eK;have hb0:Below w.heap.size w (w.alloc (.cells (C9 7 i gg nm fn ar (.slice p len cp) by_ bt) 38)):=belowA (Below.refl _ w) _;have hx:=heap_alloc_new w (.cells (C9 7 i gg nm fn ar (.slice p len cp) by_ bt) 38);have hsz:(w.alloc (.cells (C9 7 i gg nm fn ar (.slice p len cp) by_ bt) 38)).heap.size = w.heap.size + 1:=World.size_alloc _ _;generalize hw0:w.alloc (.cells (C9 7 i gg nm fn ar (.slice p len cp) by_ bt) 38) = W0 at *
 have hmk:∀ W:World,(Instr.makeSlice 22 (.int .i64 0) (.int .i64 len)).run Tryz.prog W = .ok (.slice (some ⟨W.heap.size,0,none⟩) 0 len) (W.alloc (.cells (mkc len) 40)):=fun W=>mk22 W len hlb;have hb1:Below W0.heap.size W0 (W0.alloc (.cells (mkc len) 40)):=belowA (Below.refl _ W0) _;have hq1:=(h.below hb0).below hb1
 have hrow:RecOwn encW 40 1 (W0.alloc (.cells (mkc len) 40)) W0.heap.size (.slice (some ⟨W0.heap.size,0,none⟩) 0 len) [] :=
  World.ownsRow_made (e:=40) (size:=1) (base:=W0.heap.size) W0 (mkc len) len (Nat.le_refl _) (by unfold maxLen;omega) (by rw [mkc_size];omega)
 have hLI:LoopI W0 B z a b c S S σ (W0.alloc (.cells (mkc len) 40)) (.slice (some ⟨W0.heap.size,0,none⟩) 0 len) [] :=
  ⟨hq1,(TouchB.refl _ W0).ofBelow hb1 (Nat.le_refl _),fun _ hk _=>hk,hrow,fun k hk h'=>by
   have e1:=h.lt k h'
   have e2:W0.heap.size = k:=Option.some.inj hk
   omega⟩
 have HLT:=Lib.hid h.lt;have HB0:=Lib.hid hb0;have HX:=Lib.hid hx;have HSZ:=Lib.hid hsz;have HLI:=Lib.hid hLI;have HE:=Lib.hid hE;have HC:=Lib.hid hc;have HKeep:Hid (∀ (S1:Nat→Prop) (σ1:St) (wr:World) (v:Value) (l:List Int),LoopI W0 B z a b c S S1 σ1 wr v l→∀ W,TouchB S1 wr W→Box9 w.heap.size 7 i gg nm fn ar (.slice p len cp) by_ bt W):=Lib.hid (fun S1 σ1 wr v l hl W ht=>by
  obtain ⟨k1,k2,k3⟩:=hl.keep (g:=w.heap.size) (by have:=HSZ.out;omega) (fun e=>absurd (HLT.out _ e) (Nat.lt_irrefl _))
  exact box9 ((ht.block _ k3 k2).trans (k1.trans HX.out)))
 obtain ⟨x0,x1,x2,x3,x4,x5,x6,x7,x8⟩:=box9 hx;clear h hb0 hx hsz hb1 hq1 hrow hLI hE hc;go_enter Tryz.func69,Tryz.ntmps69;go_upto_region 1 with (fail);clear hw0;go_upto_region 2 with (fail);generalize W0.alloc (.cells (mkc len) 40) = WA at *;obtain ⟨y0,y1,y2,y3,y4,y5,y6,y7,y8⟩:=HKeep.out _ _ _ _ _ HLI.out WA (TouchB.refl _ _);clear x0 x1 x2 x3 x4 x5 x6 x7 x8 hmk;go_wp2_with fail;clear y0 y1 y2 y3 y4 y5 y6 y7 y8;go_loopw [5,17] (fun s5 s17 wr=>∃ (j:Nat) (S1:Nat→Prop),s17 = .int .i64 j∧j ≤ len∧Hid (LoopI W0 B z a b c S S1 (σs j) wr s5 (ws j))) (fun _ s17 _=>len - (intOf s17).toNat)
 case atStart=>exact ⟨0,S,rfl,by omega,Lib.hid (by rw [HE.out.w0,HE.out.s0];exact HLI.out)⟩
 case round =>
  obtain ⟨j,S1,rfl,hj,HL⟩:=hrel
  by_cases hlt:j < len
  ·obtain ⟨g0,o0,f',q,m,c',hp,hg0,hgS,hC,hCall⟩:=HE.out.el j hlt;subst hp;have hgb:=HL.out.keep (g:=g0) (by have:=HSZ.out;omega) hgS;have hC2:=(hC.same (HB0.out.block g0 hg0)).same hgb.1;obtain ⟨y0,y1,y2,y3,y4,y5,y6,y7,y8⟩:=hC2;have hb1:Below wr.heap.size wr (wr.alloc (.cells (C9 f'.kind f'.int f'.gen f'.name f'.func f'.arity (.slice q m c') f'.bytes f'.bits) 38)):=belowA (Below.refl _ _) _;have HCA:=Lib.hid (hCall (wr.alloc (.cells (C9 f'.kind f'.int f'.gen f'.name f'.func f'.arity (.slice q m c') f'.bytes f'.bits) 38)) S1 (HL.out.hq.below hb1) (fun g hg1 hg2=>by
    obtain ⟨k1,k2,k3⟩:=HL.out.keep (g:=g) (by have:=HSZ.out;omega) hg1
    exact (hb1.block g k3).trans (k1.trans (HB0.out.block g hg2))) (fun k hk hkl=>HL.out.c1 k hk (by have:=HSZ.out;omega)) (by have:=HL.out.t.size;have:=hb1.size;have:=HSZ.out;omega))
   unfold aggV at HCA;have HB1:=Lib.hid hb1;have hwl:=HE.out.wl j hj;have HWL:=Lib.hid hwl;clear hb1 hC hCall hgb hwl hgS;go_wp2_with fail;refine HCA.out.mono ?_;rintro e w2 hq;have hq1:=hq.1;subst hq1;have hr2:=HL.out.row2 HB1.out hq.2 (.cells #[.int .u64 (xs j)] 40);have HSz:=Lib.hid (HL.out.size HB1.out hq.2 (.cells #[.int .u64 (xs j)] 40));have HR2:=Lib.hid hr2
   have RA:Hid (RecAt encW 1 (w2.alloc (.cells #[.int .u64 (xs j)] 40)) (w2.heap.size + 1) (.slice (some ⟨w2.heap.size,0,none⟩) 1 1) [xs j]):=Lib.hid (RecAt.fresh (encW_ok [xs j]) (by decide) (heap_alloc_new w2 _) (Nat.le_refl 1) (by unfold maxLen;omega));have HQ2:=Lib.hid hq.2;have HLN:Hid ((ws j).length + [xs j].length ≤ 1000000000):=Lib.hid (by rw [HWL.out];show j + 1 ≤ _;omega);clear hq hr2 y0 y1 y2 y3 y4 y5 y6 y7 y8
   go_wp2_with (refine wpList_append_rec (enc:=encW) elW rfl (.tmp 21) (.tmp 25) rfl rfl (base:=W0.heap.size) (l:=ws j) HR2.out HSz.out (B:=w2.heap.size + 1) (xs:=[xs j]) rfl RA.out (encW_ok _) HLN.out ?_)
   intro v2 w3 hA;obtain ⟨S2,hL2⟩:=HL.out.next HB1.out HQ2.out hA;rw [← HE.out.w1 j hlt] at hL2;have HL2:=Lib.hid hL2;clear hA hL2;go_wp2_with fail;go_roundw
   case rel=>exact ⟨j + 1,S2,by go_num,by omega,HL2⟩
   case measure=>simp [intOf];omega
  ·obtain rfl:j = len:=by omega
   obtain ⟨pv,cv,ev,hv1,hv2⟩:=HL.out.row.shape;rw [HE.out.wl j hj] at ev hv1;subst ev;obtain ⟨y0,y1,y2,y3,y4,y5,y6,y7,y8⟩:=HKeep.out _ _ _ _ _ HL.out wr (TouchB.refl _ _);have hcy:=HC.out.y;have hz0:needF ⟨7,i,gg,nm,fn,ar,by_,bt⟩ j = 1 + (j:Int):=by simp [needF]
   have hwl:=HE.out.wl j hj;have HI:=Lib.hid (boxQ HL.out.hq (k:=1) (by omega) (by omega) (HL.out.row.row (encW_ok _)) (Nat.le_refl _) (by rw [hwl];omega) (fun x hx=>⟨(HE.out.ok j hj x hx).1,(HE.out.ok j hj x hx).2.1⟩) (by rw [hwl];omega));go_wp2_with fail;refine HI.out.mono ?_;rintro e W4 hq;have hq1:=hq.1;subst hq1;have HQ:=Lib.hid hq.2;clear hq y0 y1 y2 y3 y4 y5 y6 y7 y8;go_wp2_with fail;go_ret;exact ⟨rfl,HL.out.fin HB0.out HQ.out⟩
theorem put_k9 (h:HQ w B z a b c σ S) (i gg:Int) (nm fn:ByteArray) (ar:Int) (by_:ByteArray) (bt:Int) (p:Option Addr) (len cp:Nat) (hcp:len ≤ cp) (hcm:cp ≤ 9223372036854775807) (hlb:len ≤ 100000)
 {ws:Nat→List Int} {σs:Nat→St} {xs:Nat→Int} (hE:PutEl w B z a b c σ S p len ws σs xs) (hl2:2 ≤ len) (hc:Cap (σs len) 1 (needF ⟨9,i,gg,nm,fn,ar,by_,bt⟩ len)) :
 Calls Tryz.prog 69 #[.pointer (some ⟨z,0,none⟩),.agg (C9 9 i gg nm fn ar (.slice p len cp) by_ bt)] w (RQ B z a b c S (kindO ⟨9,i,gg,nm,fn,ar,by_,bt⟩ (ws len) (σs len)) w):=by
 have eK:kindO ⟨9,i,gg,nm,fn,ar,by_,bt⟩ (ws len) (σs len) = listO (ws len) (σs len):=by
  unfold kindO;simp
 rw [eK];clear eK;have hb0:Below w.heap.size w (w.alloc (.cells (C9 9 i gg nm fn ar (.slice p len cp) by_ bt) 38)):=belowA (Below.refl _ w) _;have hx:=heap_alloc_new w (.cells (C9 9 i gg nm fn ar (.slice p len cp) by_ bt) 38);have hsz:(w.alloc (.cells (C9 9 i gg nm fn ar (.slice p len cp) by_ bt) 38)).heap.size = w.heap.size + 1:=World.size_alloc _ _;generalize hw0:w.alloc (.cells (C9 9 i gg nm fn ar (.slice p len cp) by_ bt) 38) = W0 at *
 have hmk:∀ W:World,(Instr.makeSlice 22 (.int .i64 0) (.int .i64 len)).run Tryz.prog W = .ok (.slice (some ⟨W.heap.size,0,none⟩) 0 len) (W.alloc (.cells (mkc len) 40)):=fun W=>mk22 W len hlb;have hb1:Below W0.heap.size W0 (W0.alloc (.cells (mkc len) 40)):=belowA (Below.refl _ W0) _;have hq1:=(h.below hb0).below hb1
 have hrow:RecOwn encW 40 1 (W0.alloc (.cells (mkc len) 40)) W0.heap.size (.slice (some ⟨W0.heap.size,0,none⟩) 0 len) [] :=
  World.ownsRow_made (e:=40) (size:=1) (base:=W0.heap.size) W0 (mkc len) len (Nat.le_refl _) (by unfold maxLen;omega) (by rw [mkc_size];omega)
 have hLI:LoopI W0 B z a b c S S σ (W0.alloc (.cells (mkc len) 40)) (.slice (some ⟨W0.heap.size,0,none⟩) 0 len) [] :=
  ⟨hq1,(TouchB.refl _ W0).ofBelow hb1 (Nat.le_refl _),fun _ hk _=>hk,hrow,fun k hk h'=>by
   have e1:=h.lt k h'
   have e2:W0.heap.size = k:=Option.some.inj hk
   omega⟩
 have HLT:=Lib.hid h.lt;have HB0:=Lib.hid hb0;have HX:=Lib.hid hx;have HSZ:=Lib.hid hsz;have HLI:=Lib.hid hLI;have HE:=Lib.hid hE;have HC:=Lib.hid hc;have HKeep:Hid (∀ (S1:Nat→Prop) (σ1:St) (wr:World) (v:Value) (l:List Int),LoopI W0 B z a b c S S1 σ1 wr v l→∀ W,TouchB S1 wr W→Box9 w.heap.size 9 i gg nm fn ar (.slice p len cp) by_ bt W):=Lib.hid (fun S1 σ1 wr v l hl W ht=>by
  obtain ⟨k1,k2,k3⟩:=hl.keep (g:=w.heap.size) (by have:=HSZ.out;omega) (fun e=>absurd (HLT.out _ e) (Nat.lt_irrefl _))
  exact box9 ((ht.block _ k3 k2).trans (k1.trans HX.out)))
 obtain ⟨x0,x1,x2,x3,x4,x5,x6,x7,x8⟩:=box9 hx;clear h hb0 hx hsz hb1 hq1 hrow hLI hE hc;go_enter Tryz.func69,Tryz.ntmps69;go_upto_region 1 with (fail);clear hw0;go_upto_region 2 with (fail);generalize W0.alloc (.cells (mkc len) 40) = WA at *;obtain ⟨y0,y1,y2,y3,y4,y5,y6,y7,y8⟩:=HKeep.out _ _ _ _ _ HLI.out WA (TouchB.refl _ _);clear x0 x1 x2 x3 x4 x5 x6 x7 x8 hmk;go_wp2_with fail;clear y0 y1 y2 y3 y4 y5 y6 y7 y8;go_loopw [5,17] (fun s5 s17 wr=>∃ (j:Nat) (S1:Nat→Prop),s17 = .int .i64 j∧j ≤ len∧Hid (LoopI W0 B z a b c S S1 (σs j) wr s5 (ws j))) (fun _ s17 _=>len - (intOf s17).toNat)
 case atStart=>exact ⟨0,S,rfl,by omega,Lib.hid (by rw [HE.out.w0,HE.out.s0];exact HLI.out)⟩
 case round =>
  obtain ⟨j,S1,rfl,hj,HL⟩:=hrel
  by_cases hlt:j < len
  ·obtain ⟨g0,o0,f',q,m,c',hp,hg0,hgS,hC,hCall⟩:=HE.out.el j hlt;subst hp;have hgb:=HL.out.keep (g:=g0) (by have:=HSZ.out;omega) hgS;have hC2:=(hC.same (HB0.out.block g0 hg0)).same hgb.1;obtain ⟨y0,y1,y2,y3,y4,y5,y6,y7,y8⟩:=hC2;have hb1:Below wr.heap.size wr (wr.alloc (.cells (C9 f'.kind f'.int f'.gen f'.name f'.func f'.arity (.slice q m c') f'.bytes f'.bits) 38)):=belowA (Below.refl _ _) _;have HCA:=Lib.hid (hCall (wr.alloc (.cells (C9 f'.kind f'.int f'.gen f'.name f'.func f'.arity (.slice q m c') f'.bytes f'.bits) 38)) S1 (HL.out.hq.below hb1) (fun g hg1 hg2=>by
    obtain ⟨k1,k2,k3⟩:=HL.out.keep (g:=g) (by have:=HSZ.out;omega) hg1
    exact (hb1.block g k3).trans (k1.trans (HB0.out.block g hg2))) (fun k hk hkl=>HL.out.c1 k hk (by have:=HSZ.out;omega)) (by have:=HL.out.t.size;have:=hb1.size;have:=HSZ.out;omega))
   unfold aggV at HCA;have HB1:=Lib.hid hb1;have hwl:=HE.out.wl j hj;have HWL:=Lib.hid hwl;clear hb1 hC hCall hgb hwl hgS;go_wp2_with fail;refine HCA.out.mono ?_;rintro e w2 hq;have hq1:=hq.1;subst hq1;have hr2:=HL.out.row2 HB1.out hq.2 (.cells #[.int .u64 (xs j)] 40);have HSz:=Lib.hid (HL.out.size HB1.out hq.2 (.cells #[.int .u64 (xs j)] 40));have HR2:=Lib.hid hr2
   have RA:Hid (RecAt encW 1 (w2.alloc (.cells #[.int .u64 (xs j)] 40)) (w2.heap.size + 1) (.slice (some ⟨w2.heap.size,0,none⟩) 1 1) [xs j]):=Lib.hid (RecAt.fresh (encW_ok [xs j]) (by decide) (heap_alloc_new w2 _) (Nat.le_refl 1) (by unfold maxLen;omega));have HQ2:=Lib.hid hq.2;have HLN:Hid ((ws j).length + [xs j].length ≤ 1000000000):=Lib.hid (by rw [HWL.out];show j + 1 ≤ _;omega);clear hq hr2 y0 y1 y2 y3 y4 y5 y6 y7 y8
   go_wp2_with (refine wpList_append_rec (enc:=encW) elW rfl (.tmp 21) (.tmp 25) rfl rfl (base:=W0.heap.size) (l:=ws j) HR2.out HSz.out (B:=w2.heap.size + 1) (xs:=[xs j]) rfl RA.out (encW_ok _) HLN.out ?_)
   intro v2 w3 hA;obtain ⟨S2,hL2⟩:=HL.out.next HB1.out HQ2.out hA;rw [← HE.out.w1 j hlt] at hL2;have HL2:=Lib.hid hL2;clear hA hL2;go_wp2_with fail;go_roundw
   case rel=>exact ⟨j + 1,S2,by go_num,by omega,HL2⟩
   case measure=>simp [intOf];omega
  ·obtain rfl:j = len:=by omega
   obtain ⟨pv,cv,ev,hv1,hv2⟩:=HL.out.row.shape;rw [HE.out.wl j hj] at ev hv1;subst ev;obtain ⟨y0,y1,y2,y3,y4,y5,y6,y7,y8⟩:=HKeep.out _ _ _ _ _ HL.out wr (TouchB.refl _ _);have hcy:=HC.out;have hz0:needF ⟨9,i,gg,nm,fn,ar,by_,bt⟩ j = 2 * ((j:Int) - 1):=by simp [needF]
   rw [hz0] at hcy;obtain ⟨q,hq1⟩:∃ q:Nat,q + 1 = j:=⟨j - 1,by omega⟩;obtain ⟨q2,hq2⟩:∃ q2:Nat,q2 + 2 = j:=⟨j - 2,by omega⟩;have hwl:=HE.out.wl j hj;have hws:=HE.out.ok j hj;obtain ⟨g,c',ev,hg1,hg2,hcell⟩:=words_at HL.out.row (by rw [hwl];omega);have hgn:¬ S1 g:=HL.out.ap g (by rw [ev];rfl);simp only [Value.slice.injEq] at ev;obtain ⟨rfl,e1,e2⟩:=ev;clear e1 e2;have hcap:∀ k,k < j→Cap (listO ((ws j).drop k) (σs j)).2 0 (2 * k)∧Wok (listO ((ws j).drop k) (σs j)).1:=fun k hk=>by
    have hln:((ws j).drop k).length = j - k:=by rw [List.length_drop,hwl]
    exact listO_cap _ _ 0 _ (by omega) (fun e=>by rw [e] at hln;simp at hln;omega) (fun x hx=>hws x (List.mem_of_mem_drop hx)) (hcy.less (by omega) (by rw [hln];omega))
   have hnx:∀ k,k + 1 < j→∃ x,(ws j)[k]? = some x∧Wok x∧listO ((ws j).drop k) (σs j) = cellO x (listO ((ws j).drop (k + 1)) (σs j)).1 (listO ((ws j).drop (k + 1)) (σs j)).2:=fun k hk=>by
    have h1:k < (ws j).length:=by omega
    have h2:k + 1 < (ws j).length:=by omega
    refine ⟨(ws j)[k],List.getElem?_eq_getElem h1,hws _ (List.getElem_mem h1),?_⟩;rw [List.drop_eq_getElem_cons h1,List.drop_eq_getElem_cons h2,listO_cons2]
   have hlast:∃ x,(ws j)[q]? = some x∧listO ((ws j).drop q) (σs j) = (x,σs j):=by
    have h1:q < (ws j).length:=by omega
    refine ⟨(ws j)[q],List.getElem?_eq_getElem h1,?_⟩;rw [List.drop_eq_getElem_cons h1,List.drop_eq_nil_of_le (by omega)];rfl
   obtain ⟨lv,hlv,hll⟩:=hlast;have k1:=hcell q lv hlv;have hw1:IntKind.i64.wrap ((j:Int) - 1) = (q:Int):=by rw [IntWalk.i64_in _ (by omega)];omega
   have hw2:IntKind.i64.wrap ((j:Int) - 2) = (q2:Int):=by rw [IntWalk.i64_in _ (by omega)];omega
   have hb1:(0:Int) ≤ (q:Int):=by omega
   have hb2:(q:Int) < (j:Int):=by omega
   have HQq:=Lib.hid (⟨hq1,hq2⟩:q + 1 = j∧q2 + 2 = j);have HCap:=Lib.hid hcap;have HNx:=Lib.hid hnx;have HLl:=Lib.hid hll;have HCell:=Lib.hid hcell;have HG:=Lib.hid (⟨hg2,hgn⟩:g < wr.heap.size∧¬ S1 g);clear hcy hz0 hwl hws hcap hnx hll hcell hgn hg1 hg2 hlv hq1 hq2;go_wp2_with fail;clear k1 hw1 hw2 hb1 hb2 y0 y1 y2 y3 y4 y5 y6 y7 y8;obtain ⟨wq,hwq⟩:∃ x,x = wr:=⟨_,rfl⟩;subst hwq
   go_loopw [8,9] (fun s8 s9 wr=>∃ (k:Nat) (S2:Nat→Prop),((k = 0∧s9 = .int .i64 (-1))∨∃ k',k = k' + 1∧s9 = .int .i64 (k':Nat))∧k ≤ q∧s8 = .int .u64 (listO ((ws j).drop k) (σs j)).1∧Hid (HQ wr B z a b c (listO ((ws j).drop k) (σs j)).2 S2)∧Hid (TouchB S1 wq wr)∧Hid (∀ k,S2 k→k < wq.heap.size→S1 k)) (fun _ s9 _=>(intOf s9 + 1).toNat)
   case atStart =>
    refine ⟨q,S1,.inr ⟨q2,by have:=HQq.out;omega,rfl⟩,Nat.le_refl _,by rw [HLl.out],Lib.hid (by rw [HLl.out];exact HL.out.hq),Lib.hid (TouchB.refl _ _),Lib.hid (fun _ hk _=>hk)⟩
   case round =>
    obtain ⟨k,S2,hk9,hkq,rfl,H2,T2,C2⟩:=hrel
    rcases hk9 with ⟨rfl,rfl⟩ | ⟨k',rfl,rfl⟩
    ·have HF:=Lib.hid (HL.out.fin HB0.out (σ2:=(listO ((ws j).drop 0) (σs j)).2) ⟨S2,H2.out,T2.out,C2.out⟩);go_wp2_with fail;go_ret;exact ⟨rfl,HF.out⟩
    ·obtain ⟨x,hx,hxo,hxl⟩:=HNx.out k' (by have:=HQq.out;omega);have hcp1:=HCap.out (k' + 1) (by have:=HQq.out;omega);have k1:wr.cell? ⟨g,k',none⟩ = some (.int .u64 x):=(T2.out.cell (p:=⟨g,k',none⟩) HG.out.1 HG.out.2).trans (HCell.out k' x hx);have HCl:=Lib.hid (cellQ H2.out hxo hcp1.2 (by have:=hcp1.1.y;omega));rw [← hxl] at HCl;have hb1:(0:Int) ≤ (k':Int):=by omega
     have hb2:(k':Int) < (j:Int):=by have:=HQq.out;omega
     obtain ⟨r,hr⟩:∃ r:Int,r = (k':Int) - 1:=⟨_,rfl⟩;have hw1:IntKind.i64.wrap ((k':Int) - 1) = r:=by rw [IntWalk.i64_in _ (by have:=HQq.out;omega),hr]
     have HR:=Lib.hid hr;clear hx hxo hxl hcp1 hr;go_wp2_with fail;refine HCl.out.mono ?_;rintro e W4 hq;have hq1:=hq.1;subst hq1;obtain ⟨S3,h3,t3,c3⟩:=hq.2;have H3:=Lib.hid h3;have T3:=Lib.hid (T2.out.trans t3 (fun k hk h=>C2.out k h hk));have C3:Hid (∀ k,S3 k→k < wq.heap.size→S1 k):=Lib.hid (fun k hk hl=>C2.out k (c3 k hk (Nat.lt_of_lt_of_le hl T2.out.size)) hl);clear hq h3 t3 c3 k1;go_wp2_with fail;go_roundw
     case rel =>
      refine ⟨k',S3,?_,by omega,rfl,H3,T3,C3⟩
      by_cases e0:k' = 0
      ·exact .inl ⟨e0,by rw [HR.out,e0];rfl⟩
      ·exact .inr ⟨k' - 1,by omega,by rw [HR.out];congr 1;omega⟩
     case measure =>
      have:=HR.out;simp [intOf];omega
theorem put_k10 (h:HQ w B z a b c σ S) (i gg:Int) (nm fn:ByteArray) (ar:Int) (by_:ByteArray) (bt:Int) (p:Option Addr) (len cp:Nat) (hcp:len ≤ cp) (hcm:cp ≤ 9223372036854775807) (hlb:len ≤ 100000)
 {ws:Nat→List Int} {σs:Nat→St} {xs:Nat→Int} (hE:PutEl w B z a b c σ S p len ws σs xs) (h0:0 ≤ bt) (h1:bt ≤ 16384) (hs:(by_.size:Int) = (bt + 7) / 8) (hc:Cap (σs len) 1 (needF ⟨10,i,gg,nm,fn,ar,by_,bt⟩ len)) :
 Calls Tryz.prog 69 #[.pointer (some ⟨z,0,none⟩),.agg (C9 10 i gg nm fn ar (.slice p len cp) by_ bt)] w (RQ B z a b c S (kindO ⟨10,i,gg,nm,fn,ar,by_,bt⟩ (ws len) (σs len)) w):=by
 have eK:kindO ⟨10,i,gg,nm,fn,ar,by_,bt⟩ (ws len) (σs len) = bitsO by_ bt (σs len):=by
  unfold kindO;simp
 rw [eK];clear eK;have hb0:Below w.heap.size w (w.alloc (.cells (C9 10 i gg nm fn ar (.slice p len cp) by_ bt) 38)):=belowA (Below.refl _ w) _;have hx:=heap_alloc_new w (.cells (C9 10 i gg nm fn ar (.slice p len cp) by_ bt) 38);have hsz:(w.alloc (.cells (C9 10 i gg nm fn ar (.slice p len cp) by_ bt) 38)).heap.size = w.heap.size + 1:=World.size_alloc _ _;generalize hw0:w.alloc (.cells (C9 10 i gg nm fn ar (.slice p len cp) by_ bt) 38) = W0 at *
 have hmk:∀ W:World,(Instr.makeSlice 22 (.int .i64 0) (.int .i64 len)).run Tryz.prog W = .ok (.slice (some ⟨W.heap.size,0,none⟩) 0 len) (W.alloc (.cells (mkc len) 40)):=fun W=>mk22 W len hlb;have hb1:Below W0.heap.size W0 (W0.alloc (.cells (mkc len) 40)):=belowA (Below.refl _ W0) _;have hq1:=(h.below hb0).below hb1
 have hrow:RecOwn encW 40 1 (W0.alloc (.cells (mkc len) 40)) W0.heap.size (.slice (some ⟨W0.heap.size,0,none⟩) 0 len) [] :=
  World.ownsRow_made (e:=40) (size:=1) (base:=W0.heap.size) W0 (mkc len) len (Nat.le_refl _) (by unfold maxLen;omega) (by rw [mkc_size];omega)
 have hLI:LoopI W0 B z a b c S S σ (W0.alloc (.cells (mkc len) 40)) (.slice (some ⟨W0.heap.size,0,none⟩) 0 len) [] :=
  ⟨hq1,(TouchB.refl _ W0).ofBelow hb1 (Nat.le_refl _),fun _ hk _=>hk,hrow,fun k hk h'=>by
   have e1:=h.lt k h'
   have e2:W0.heap.size = k:=Option.some.inj hk
   omega⟩
 have HLT:=Lib.hid h.lt;have HB0:=Lib.hid hb0;have HX:=Lib.hid hx;have HSZ:=Lib.hid hsz;have HLI:=Lib.hid hLI;have HE:=Lib.hid hE;have HC:=Lib.hid hc;have HKeep:Hid (∀ (S1:Nat→Prop) (σ1:St) (wr:World) (v:Value) (l:List Int),LoopI W0 B z a b c S S1 σ1 wr v l→∀ W,TouchB S1 wr W→Box9 w.heap.size 10 i gg nm fn ar (.slice p len cp) by_ bt W):=Lib.hid (fun S1 σ1 wr v l hl W ht=>by
  obtain ⟨k1,k2,k3⟩:=hl.keep (g:=w.heap.size) (by have:=HSZ.out;omega) (fun e=>absurd (HLT.out _ e) (Nat.lt_irrefl _))
  exact box9 ((ht.block _ k3 k2).trans (k1.trans HX.out)))
 obtain ⟨x0,x1,x2,x3,x4,x5,x6,x7,x8⟩:=box9 hx;clear h hb0 hx hsz hb1 hq1 hrow hLI hE hc;go_enter Tryz.func69,Tryz.ntmps69;go_upto_region 1 with (fail);clear hw0;go_upto_region 2 with (fail);generalize W0.alloc (.cells (mkc len) 40) = WA at *;obtain ⟨y0,y1,y2,y3,y4,y5,y6,y7,y8⟩:=HKeep.out _ _ _ _ _ HLI.out WA (TouchB.refl _ _);clear x0 x1 x2 x3 x4 x5 x6 x7 x8 hmk;go_wp2_with fail;clear y0 y1 y2 y3 y4 y5 y6 y7 y8;go_loopw [5,17] (fun s5 s17 wr=>∃ (j:Nat) (S1:Nat→Prop),s17 = .int .i64 j∧j ≤ len∧Hid (LoopI W0 B z a b c S S1 (σs j) wr s5 (ws j))) (fun _ s17 _=>len - (intOf s17).toNat)
 case atStart=>exact ⟨0,S,rfl,by omega,Lib.hid (by rw [HE.out.w0,HE.out.s0];exact HLI.out)⟩
 case round =>
  obtain ⟨j,S1,rfl,hj,HL⟩:=hrel
  by_cases hlt:j < len
  ·obtain ⟨g0,o0,f',q,m,c',hp,hg0,hgS,hC,hCall⟩:=HE.out.el j hlt;subst hp;have hgb:=HL.out.keep (g:=g0) (by have:=HSZ.out;omega) hgS;have hC2:=(hC.same (HB0.out.block g0 hg0)).same hgb.1;obtain ⟨y0,y1,y2,y3,y4,y5,y6,y7,y8⟩:=hC2;have hb1:Below wr.heap.size wr (wr.alloc (.cells (C9 f'.kind f'.int f'.gen f'.name f'.func f'.arity (.slice q m c') f'.bytes f'.bits) 38)):=belowA (Below.refl _ _) _;have HCA:=Lib.hid (hCall (wr.alloc (.cells (C9 f'.kind f'.int f'.gen f'.name f'.func f'.arity (.slice q m c') f'.bytes f'.bits) 38)) S1 (HL.out.hq.below hb1) (fun g hg1 hg2=>by
    obtain ⟨k1,k2,k3⟩:=HL.out.keep (g:=g) (by have:=HSZ.out;omega) hg1
    exact (hb1.block g k3).trans (k1.trans (HB0.out.block g hg2))) (fun k hk hkl=>HL.out.c1 k hk (by have:=HSZ.out;omega)) (by have:=HL.out.t.size;have:=hb1.size;have:=HSZ.out;omega))
   unfold aggV at HCA;have HB1:=Lib.hid hb1;have hwl:=HE.out.wl j hj;have HWL:=Lib.hid hwl;clear hb1 hC hCall hgb hwl hgS;go_wp2_with fail;refine HCA.out.mono ?_;rintro e w2 hq;have hq1:=hq.1;subst hq1;have hr2:=HL.out.row2 HB1.out hq.2 (.cells #[.int .u64 (xs j)] 40);have HSz:=Lib.hid (HL.out.size HB1.out hq.2 (.cells #[.int .u64 (xs j)] 40));have HR2:=Lib.hid hr2
   have RA:Hid (RecAt encW 1 (w2.alloc (.cells #[.int .u64 (xs j)] 40)) (w2.heap.size + 1) (.slice (some ⟨w2.heap.size,0,none⟩) 1 1) [xs j]):=Lib.hid (RecAt.fresh (encW_ok [xs j]) (by decide) (heap_alloc_new w2 _) (Nat.le_refl 1) (by unfold maxLen;omega));have HQ2:=Lib.hid hq.2;have HLN:Hid ((ws j).length + [xs j].length ≤ 1000000000):=Lib.hid (by rw [HWL.out];show j + 1 ≤ _;omega);clear hq hr2 y0 y1 y2 y3 y4 y5 y6 y7 y8
   go_wp2_with (refine wpList_append_rec (enc:=encW) elW rfl (.tmp 21) (.tmp 25) rfl rfl (base:=W0.heap.size) (l:=ws j) HR2.out HSz.out (B:=w2.heap.size + 1) (xs:=[xs j]) rfl RA.out (encW_ok _) HLN.out ?_)
   intro v2 w3 hA;obtain ⟨S2,hL2⟩:=HL.out.next HB1.out HQ2.out hA;rw [← HE.out.w1 j hlt] at hL2;have HL2:=Lib.hid hL2;clear hA hL2;go_wp2_with fail;go_roundw
   case rel=>exact ⟨j + 1,S2,by go_num,by omega,HL2⟩
   case measure=>simp [intOf];omega
  ·obtain rfl:j = len:=by omega
   obtain ⟨pv,cv,ev,hv1,hv2⟩:=HL.out.row.shape;rw [HE.out.wl j hj] at ev hv1;subst ev;obtain ⟨y0,y1,y2,y3,y4,y5,y6,y7,y8⟩:=HKeep.out _ _ _ _ _ HL.out wr (TouchB.refl _ _);have hcc:=HC.out;have hz0:needF ⟨10,i,gg,nm,fn,ar,by_,bt⟩ j = (if 512 < bt then (4:Int) else 2 + (bt + 63) / 64):=by simp [needF]
   rw [hz0] at hcc;have HI:=Lib.hid (bitsQ HL.out.hq by_ bt h0 h1 hs hcc);go_wp2_with fail;refine HI.out.mono ?_;rintro e W4 hq;have hq1:=hq.1;subst hq1;have HQ:=Lib.hid hq.2;clear hq y0 y1 y2 y3 y4 y5 y6 y7 y8;go_wp2_with fail;go_ret;exact ⟨rfl,HL.out.fin HB0.out HQ.out⟩
theorem put_k4 (h:HQ w B z a b c σ S) (i gg:Int) (nm fn:ByteArray) (ar:Int) (by_:ByteArray) (bt:Int) (p:Option Addr) (len cp:Nat) (hcp:len ≤ cp) (hcm:cp ≤ 9223372036854775807) (hlb:len ≤ 100000)
 {ws:Nat→List Int} {σs:Nat→St} {xs:Nat→Int} (hE:PutEl w B z a b c σ S p len ws σs xs) (hi0:0 ≤ i) (hi1:i ≤ 999) (hg0:1 ≤ gg) (hg1:gg ≤ 2147483647) (ha0:0 ≤ ar) (ha1:ar ≤ 16) (hn:len ≤ 200) (hc:Cap (σs len) 1 (needF ⟨4,i,gg,nm,fn,ar,by_,bt⟩ len)) :
 Calls Tryz.prog 69 #[.pointer (some ⟨z,0,none⟩),.agg (C9 4 i gg nm fn ar (.slice p len cp) by_ bt)] w (RQ B z a b c S (kindO ⟨4,i,gg,nm,fn,ar,by_,bt⟩ (ws len) (σs len)) w):=by
 have eK:kindO ⟨4,i,gg,nm,fn,ar,by_,bt⟩ (ws len) (σs len) = boxO 2 ([(atomO nm (σs len)).1,smallW gg,smallW i,smallW ar] ++ ws len) (atomO nm (σs len)).2:=by
  unfold kindO;simp
 rw [eK];clear eK;have hb0:Below w.heap.size w (w.alloc (.cells (C9 4 i gg nm fn ar (.slice p len cp) by_ bt) 38)):=belowA (Below.refl _ w) _;have hx:=heap_alloc_new w (.cells (C9 4 i gg nm fn ar (.slice p len cp) by_ bt) 38);have hsz:(w.alloc (.cells (C9 4 i gg nm fn ar (.slice p len cp) by_ bt) 38)).heap.size = w.heap.size + 1:=World.size_alloc _ _;generalize hw0:w.alloc (.cells (C9 4 i gg nm fn ar (.slice p len cp) by_ bt) 38) = W0 at *
 have hmk:∀ W:World,(Instr.makeSlice 22 (.int .i64 0) (.int .i64 len)).run Tryz.prog W = .ok (.slice (some ⟨W.heap.size,0,none⟩) 0 len) (W.alloc (.cells (mkc len) 40)):=fun W=>mk22 W len hlb;have hb1:Below W0.heap.size W0 (W0.alloc (.cells (mkc len) 40)):=belowA (Below.refl _ W0) _;have hq1:=(h.below hb0).below hb1
 have hrow:RecOwn encW 40 1 (W0.alloc (.cells (mkc len) 40)) W0.heap.size (.slice (some ⟨W0.heap.size,0,none⟩) 0 len) [] :=
  World.ownsRow_made (e:=40) (size:=1) (base:=W0.heap.size) W0 (mkc len) len (Nat.le_refl _) (by unfold maxLen;omega) (by rw [mkc_size];omega)
 have hLI:LoopI W0 B z a b c S S σ (W0.alloc (.cells (mkc len) 40)) (.slice (some ⟨W0.heap.size,0,none⟩) 0 len) [] :=
  ⟨hq1,(TouchB.refl _ W0).ofBelow hb1 (Nat.le_refl _),fun _ hk _=>hk,hrow,fun k hk h'=>by
   have e1:=h.lt k h'
   have e2:W0.heap.size = k:=Option.some.inj hk
   omega⟩
 have HLT:=Lib.hid h.lt;have HB0:=Lib.hid hb0;have HX:=Lib.hid hx;have HSZ:=Lib.hid hsz;have HLI:=Lib.hid hLI;have HE:=Lib.hid hE;have HC:=Lib.hid hc;have HKeep:Hid (∀ (S1:Nat→Prop) (σ1:St) (wr:World) (v:Value) (l:List Int),LoopI W0 B z a b c S S1 σ1 wr v l→∀ W,TouchB S1 wr W→Box9 w.heap.size 4 i gg nm fn ar (.slice p len cp) by_ bt W):=Lib.hid (fun S1 σ1 wr v l hl W ht=>by
  obtain ⟨k1,k2,k3⟩:=hl.keep (g:=w.heap.size) (by have:=HSZ.out;omega) (fun e=>absurd (HLT.out _ e) (Nat.lt_irrefl _))
  exact box9 ((ht.block _ k3 k2).trans (k1.trans HX.out)))
 obtain ⟨x0,x1,x2,x3,x4,x5,x6,x7,x8⟩:=box9 hx;clear h hb0 hx hsz hb1 hq1 hrow hLI hE hc;go_enter Tryz.func69,Tryz.ntmps69;go_upto_region 1 with (fail);clear hw0;go_upto_region 2 with (fail);generalize W0.alloc (.cells (mkc len) 40) = WA at *;obtain ⟨y0,y1,y2,y3,y4,y5,y6,y7,y8⟩:=HKeep.out _ _ _ _ _ HLI.out WA (TouchB.refl _ _);clear x0 x1 x2 x3 x4 x5 x6 x7 x8 hmk;go_wp2_with fail;clear y0 y1 y2 y3 y4 y5 y6 y7 y8;go_loopw [5,17] (fun s5 s17 wr=>∃ (j:Nat) (S1:Nat→Prop),s17 = .int .i64 j∧j ≤ len∧Hid (LoopI W0 B z a b c S S1 (σs j) wr s5 (ws j))) (fun _ s17 _=>len - (intOf s17).toNat)
 case atStart=>exact ⟨0,S,rfl,by omega,Lib.hid (by rw [HE.out.w0,HE.out.s0];exact HLI.out)⟩
 case round =>
  obtain ⟨j,S1,rfl,hj,HL⟩:=hrel
  by_cases hlt:j < len
  ·obtain ⟨g0,o0,f',q,m,c',hp,hg0,hgS,hC,hCall⟩:=HE.out.el j hlt;subst hp;have hgb:=HL.out.keep (g:=g0) (by have:=HSZ.out;omega) hgS;have hC2:=(hC.same (HB0.out.block g0 hg0)).same hgb.1;obtain ⟨y0,y1,y2,y3,y4,y5,y6,y7,y8⟩:=hC2;have hb1:Below wr.heap.size wr (wr.alloc (.cells (C9 f'.kind f'.int f'.gen f'.name f'.func f'.arity (.slice q m c') f'.bytes f'.bits) 38)):=belowA (Below.refl _ _) _;have HCA:=Lib.hid (hCall (wr.alloc (.cells (C9 f'.kind f'.int f'.gen f'.name f'.func f'.arity (.slice q m c') f'.bytes f'.bits) 38)) S1 (HL.out.hq.below hb1) (fun g hg1 hg2=>by
    obtain ⟨k1,k2,k3⟩:=HL.out.keep (g:=g) (by have:=HSZ.out;omega) hg1
    exact (hb1.block g k3).trans (k1.trans (HB0.out.block g hg2))) (fun k hk hkl=>HL.out.c1 k hk (by have:=HSZ.out;omega)) (by have:=HL.out.t.size;have:=hb1.size;have:=HSZ.out;omega))
   unfold aggV at HCA;have HB1:=Lib.hid hb1;have hwl:=HE.out.wl j hj;have HWL:=Lib.hid hwl;clear hb1 hC hCall hgb hwl hgS;go_wp2_with fail;refine HCA.out.mono ?_;rintro e w2 hq;have hq1:=hq.1;subst hq1;have hr2:=HL.out.row2 HB1.out hq.2 (.cells #[.int .u64 (xs j)] 40);have HSz:=Lib.hid (HL.out.size HB1.out hq.2 (.cells #[.int .u64 (xs j)] 40));have HR2:=Lib.hid hr2
   have RA:Hid (RecAt encW 1 (w2.alloc (.cells #[.int .u64 (xs j)] 40)) (w2.heap.size + 1) (.slice (some ⟨w2.heap.size,0,none⟩) 1 1) [xs j]):=Lib.hid (RecAt.fresh (encW_ok [xs j]) (by decide) (heap_alloc_new w2 _) (Nat.le_refl 1) (by unfold maxLen;omega));have HQ2:=Lib.hid hq.2;have HLN:Hid ((ws j).length + [xs j].length ≤ 1000000000):=Lib.hid (by rw [HWL.out];show j + 1 ≤ _;omega);clear hq hr2 y0 y1 y2 y3 y4 y5 y6 y7 y8
   go_wp2_with (refine wpList_append_rec (enc:=encW) elW rfl (.tmp 21) (.tmp 25) rfl rfl (base:=W0.heap.size) (l:=ws j) HR2.out HSz.out (B:=w2.heap.size + 1) (xs:=[xs j]) rfl RA.out (encW_ok _) HLN.out ?_)
   intro v2 w3 hA;obtain ⟨S2,hL2⟩:=HL.out.next HB1.out HQ2.out hA;rw [← HE.out.w1 j hlt] at hL2;have HL2:=Lib.hid hL2;clear hA hL2;go_wp2_with fail;go_roundw
   case rel=>exact ⟨j + 1,S2,by go_num,by omega,HL2⟩
   case measure=>simp [intOf];omega
  ·obtain rfl:j = len:=by omega
   obtain ⟨pv,cv,ev,hv1,hv2⟩:=HL.out.row.shape;rw [HE.out.wl j hj] at ev hv1;subst ev;obtain ⟨y0,y1,y2,y3,y4,y5,y6,y7,y8⟩:=HKeep.out _ _ _ _ _ HL.out wr (TouchB.refl _ _);have hcn:=HC.out.n;have hcy:=HC.out.y;have hz0:needF ⟨4,i,gg,nm,fn,ar,by_,bt⟩ j = 5 + (j:Int):=by simp [needF]
   have hwl:=HE.out.wl j hj;have HAt:=Lib.hid ((atomQ (HL.out.hq.below (belowD (Below.refl _ wr))) nm (by omega)).mono fun e w' hh=>hh.of_below (belowD (Below.refl _ wr)));have HWd0:Hid (cl.Wds [(atomO nm (σs j)).1,smallW gg,smallW i,smallW ar]):=Lib.hid (fun x hx=>by
    simp only [List.mem_cons,List.not_mem_nil,or_false] at hx
    rcases hx with rfl | rfl | rfl | rfl
    ·have:=atomO_ok (σ:=σs j) nm (by omega)
     exact ⟨this.1,this.2.1⟩
    ·have:=smallW_ok (n:=gg) (by simp [smallOk];omega)
     exact ⟨this.1,this.2.1⟩
    ·have:=smallW_ok (n:=i) (by simp [smallOk];omega)
     exact ⟨this.1,this.2.1⟩
    ·have:=smallW_ok (n:=ar) (by simp [smallOk];omega)
     exact ⟨this.1,this.2.1⟩
    )
   have HWd:Hid (cl.Wds ([(atomO nm (σs j)).1,smallW gg,smallW i,smallW ar] ++ ws j)):=Lib.hid (fun x hx=>by
    rcases List.mem_append.1 hx with hx | hx
    ·exact HWd0.out x hx
    ·exact ⟨(HE.out.ok j hj x hx).1,(HE.out.ok j hj x hx).2.1⟩)
   have HYl:Hid ((atomO nm (σs j)).2.Y.length + 1 + ([(atomO nm (σs j)).1,smallW gg,smallW i,smallW ar] ++ ws j).length ≤ 1000000∧([(atomO nm (σs j)).1,smallW gg,smallW i,smallW ar] ++ ws j).length ≤ 65535):=Lib.hid (by rw [atomO_Y,List.length_append,hwl];simp;omega);have HAp:=Lib.hid (fun W2 S2 h2 t2 c2=>clos_app HL.out (W2:=W2) (S2:=S2) h2 t2 c2 [(atomO nm (σs j)).1,smallW gg,smallW i,smallW ar] HWd.out (by simp) HYl.out);clear hcn hcy hz0 hwl;go_wp2_with fail
   go_region_held3 (fun W=>W.cell? ⟨w.heap.size,3,none⟩ = some (.string nm)∧W.cell? ⟨w.heap.size,2,none⟩ = some (.int .i64 gg)∧W.cell? ⟨w.heap.size,1,none⟩ = some (.int .i64 i)∧W.cell? ⟨w.heap.size,5,none⟩ = some (.int .i64 ar)) (go_keep)
    (first
      | (rw [if_pos (by rfl)];refine oper_append (.tmp 89) (.tmp 90) 22 rfl rfl rfl hr ?_)
      | (go_at_call 101;refine HAt.out.mono ?_;rintro e W2 hq;have hq1:=hq.1;subst hq1;obtain ⟨S2,h2,t2,c2⟩:=hq.2;clear y0 y1 y2 y3 y4 y5 y6 y7 y8;obtain ⟨y0,y1,y2,y3,y4,y5,y6,y7,y8⟩:=HKeep.out _ _ _ _ _ HL.out W2 t2;obtain ⟨v',w',hr,tw,hbx⟩:=HAp.out W2 S2 h2 t2 c2;have HBX:=Lib.hid hbx;obtain ⟨z0,z1,z2,z3,z4,z5,z6,z7,z8⟩:=HKeep.out _ _ _ _ _ HL.out w' tw;have HT2:=Lib.hid t2;have HC2:=Lib.hid c2;clear hq h2 t2 c2 tw hbx)
      | (go_at_call 79;refine (small79 _ (by omega) (by omega) _).mono ?_;rintro e w' ⟨rfl,rfl⟩)
      | (go_at_call 78;refine HBX.out.mono ?_;rintro e W4 hq;have hq1:=hq.1;subst hq1;have HQ:=Lib.hid hq.2;obtain ⟨S3,h3,t3,c3⟩:=hq.2;clear y0 y1 y2 y3 y4 y5 y6 y7 y8;obtain ⟨y0,y1,y2,y3,y4,y5,y6,y7,y8⟩:=HKeep.out _ _ _ _ _ HL.out W4 (HT2.out.trans t3 (fun k hk h=>HC2.out k h hk));clear hq h3 t3 c3))
   all_goals
    go_wp2_with fail;go_ret;exact ⟨rfl,HL.out.fin HB0.out (StepQ.trans HT2.out HC2.out HQ.out)⟩
theorem put_k5 (h:HQ w B z a b c σ S) (i gg:Int) (nm fn:ByteArray) (ar:Int) (by_:ByteArray) (bt:Int) (p:Option Addr) (len cp:Nat) (hcp:len ≤ cp) (hcm:cp ≤ 9223372036854775807) (hlb:len ≤ 100000)
 {ws:Nat→List Int} {σs:Nat→St} {xs:Nat→Int} (hE:PutEl w B z a b c σ S p len ws σs xs) (ha0:0 ≤ ar) (ha1:ar ≤ 16) (hc:Cap (σs len) 1 (needF ⟨5,i,gg,nm,fn,ar,by_,bt⟩ len)) :
 Calls Tryz.prog 69 #[.pointer (some ⟨z,0,none⟩),.agg (C9 5 i gg nm fn ar (.slice p len cp) by_ bt)] w (RQ B z a b c S (kindO ⟨5,i,gg,nm,fn,ar,by_,bt⟩ (ws len) (σs len)) w):=by
 have eK:kindO ⟨5,i,gg,nm,fn,ar,by_,bt⟩ (ws len) (σs len) = boxO 3 [(atomO nm (σs len)).1,(atomO fn (atomO nm (σs len)).2).1,smallW ar] (atomO fn (atomO nm (σs len)).2).2:=by
  unfold kindO;simp
 rw [eK];clear eK;have hb0:Below w.heap.size w (w.alloc (.cells (C9 5 i gg nm fn ar (.slice p len cp) by_ bt) 38)):=belowA (Below.refl _ w) _;have hx:=heap_alloc_new w (.cells (C9 5 i gg nm fn ar (.slice p len cp) by_ bt) 38);have hsz:(w.alloc (.cells (C9 5 i gg nm fn ar (.slice p len cp) by_ bt) 38)).heap.size = w.heap.size + 1:=World.size_alloc _ _;generalize hw0:w.alloc (.cells (C9 5 i gg nm fn ar (.slice p len cp) by_ bt) 38) = W0 at *
 have hmk:∀ W:World,(Instr.makeSlice 22 (.int .i64 0) (.int .i64 len)).run Tryz.prog W = .ok (.slice (some ⟨W.heap.size,0,none⟩) 0 len) (W.alloc (.cells (mkc len) 40)):=fun W=>mk22 W len hlb;have hb1:Below W0.heap.size W0 (W0.alloc (.cells (mkc len) 40)):=belowA (Below.refl _ W0) _;have hq1:=(h.below hb0).below hb1
 have hrow:RecOwn encW 40 1 (W0.alloc (.cells (mkc len) 40)) W0.heap.size (.slice (some ⟨W0.heap.size,0,none⟩) 0 len) [] :=
  World.ownsRow_made (e:=40) (size:=1) (base:=W0.heap.size) W0 (mkc len) len (Nat.le_refl _) (by unfold maxLen;omega) (by rw [mkc_size];omega)
 have hLI:LoopI W0 B z a b c S S σ (W0.alloc (.cells (mkc len) 40)) (.slice (some ⟨W0.heap.size,0,none⟩) 0 len) [] :=
  ⟨hq1,(TouchB.refl _ W0).ofBelow hb1 (Nat.le_refl _),fun _ hk _=>hk,hrow,fun k hk h'=>by
   have e1:=h.lt k h'
   have e2:W0.heap.size = k:=Option.some.inj hk
   omega⟩
 have HLT:=Lib.hid h.lt;have HB0:=Lib.hid hb0;have HX:=Lib.hid hx;have HSZ:=Lib.hid hsz;have HLI:=Lib.hid hLI;have HE:=Lib.hid hE;have HC:=Lib.hid hc;have HKeep:Hid (∀ (S1:Nat→Prop) (σ1:St) (wr:World) (v:Value) (l:List Int),LoopI W0 B z a b c S S1 σ1 wr v l→∀ W,TouchB S1 wr W→Box9 w.heap.size 5 i gg nm fn ar (.slice p len cp) by_ bt W):=Lib.hid (fun S1 σ1 wr v l hl W ht=>by
  obtain ⟨k1,k2,k3⟩:=hl.keep (g:=w.heap.size) (by have:=HSZ.out;omega) (fun e=>absurd (HLT.out _ e) (Nat.lt_irrefl _))
  exact box9 ((ht.block _ k3 k2).trans (k1.trans HX.out)))
 obtain ⟨x0,x1,x2,x3,x4,x5,x6,x7,x8⟩:=box9 hx;clear h hb0 hx hsz hb1 hq1 hrow hLI hE hc;go_enter Tryz.func69,Tryz.ntmps69;go_upto_region 1 with (fail);clear hw0;go_upto_region 2 with (fail);generalize W0.alloc (.cells (mkc len) 40) = WA at *;obtain ⟨y0,y1,y2,y3,y4,y5,y6,y7,y8⟩:=HKeep.out _ _ _ _ _ HLI.out WA (TouchB.refl _ _);clear x0 x1 x2 x3 x4 x5 x6 x7 x8 hmk;go_wp2_with fail;clear y0 y1 y2 y3 y4 y5 y6 y7 y8;go_loopw [5,17] (fun s5 s17 wr=>∃ (j:Nat) (S1:Nat→Prop),s17 = .int .i64 j∧j ≤ len∧Hid (LoopI W0 B z a b c S S1 (σs j) wr s5 (ws j))) (fun _ s17 _=>len - (intOf s17).toNat)
 case atStart=>exact ⟨0,S,rfl,by omega,Lib.hid (by rw [HE.out.w0,HE.out.s0];exact HLI.out)⟩
 case round =>
  obtain ⟨j,S1,rfl,hj,HL⟩:=hrel
  by_cases hlt:j < len
  ·obtain ⟨g0,o0,f',q,m,c',hp,hg0,hgS,hC,hCall⟩:=HE.out.el j hlt;subst hp;have hgb:=HL.out.keep (g:=g0) (by have:=HSZ.out;omega) hgS;have hC2:=(hC.same (HB0.out.block g0 hg0)).same hgb.1;obtain ⟨y0,y1,y2,y3,y4,y5,y6,y7,y8⟩:=hC2;have hb1:Below wr.heap.size wr (wr.alloc (.cells (C9 f'.kind f'.int f'.gen f'.name f'.func f'.arity (.slice q m c') f'.bytes f'.bits) 38)):=belowA (Below.refl _ _) _;have HCA:=Lib.hid (hCall (wr.alloc (.cells (C9 f'.kind f'.int f'.gen f'.name f'.func f'.arity (.slice q m c') f'.bytes f'.bits) 38)) S1 (HL.out.hq.below hb1) (fun g hg1 hg2=>by
    obtain ⟨k1,k2,k3⟩:=HL.out.keep (g:=g) (by have:=HSZ.out;omega) hg1
    exact (hb1.block g k3).trans (k1.trans (HB0.out.block g hg2))) (fun k hk hkl=>HL.out.c1 k hk (by have:=HSZ.out;omega)) (by have:=HL.out.t.size;have:=hb1.size;have:=HSZ.out;omega))
   unfold aggV at HCA;have HB1:=Lib.hid hb1;have hwl:=HE.out.wl j hj;have HWL:=Lib.hid hwl;clear hb1 hC hCall hgb hwl hgS;go_wp2_with fail;refine HCA.out.mono ?_;rintro e w2 hq;have hq1:=hq.1;subst hq1;have hr2:=HL.out.row2 HB1.out hq.2 (.cells #[.int .u64 (xs j)] 40);have HSz:=Lib.hid (HL.out.size HB1.out hq.2 (.cells #[.int .u64 (xs j)] 40));have HR2:=Lib.hid hr2
   have RA:Hid (RecAt encW 1 (w2.alloc (.cells #[.int .u64 (xs j)] 40)) (w2.heap.size + 1) (.slice (some ⟨w2.heap.size,0,none⟩) 1 1) [xs j]):=Lib.hid (RecAt.fresh (encW_ok [xs j]) (by decide) (heap_alloc_new w2 _) (Nat.le_refl 1) (by unfold maxLen;omega));have HQ2:=Lib.hid hq.2;have HLN:Hid ((ws j).length + [xs j].length ≤ 1000000000):=Lib.hid (by rw [HWL.out];show j + 1 ≤ _;omega);clear hq hr2 y0 y1 y2 y3 y4 y5 y6 y7 y8
   go_wp2_with (refine wpList_append_rec (enc:=encW) elW rfl (.tmp 21) (.tmp 25) rfl rfl (base:=W0.heap.size) (l:=ws j) HR2.out HSz.out (B:=w2.heap.size + 1) (xs:=[xs j]) rfl RA.out (encW_ok _) HLN.out ?_)
   intro v2 w3 hA;obtain ⟨S2,hL2⟩:=HL.out.next HB1.out HQ2.out hA;rw [← HE.out.w1 j hlt] at hL2;have HL2:=Lib.hid hL2;clear hA hL2;go_wp2_with fail;go_roundw
   case rel=>exact ⟨j + 1,S2,by go_num,by omega,HL2⟩
   case measure=>simp [intOf];omega
  ·obtain rfl:j = len:=by omega
   obtain ⟨pv,cv,ev,hv1,hv2⟩:=HL.out.row.shape;rw [HE.out.wl j hj] at ev hv1;subst ev;obtain ⟨y0,y1,y2,y3,y4,y5,y6,y7,y8⟩:=HKeep.out _ _ _ _ _ HL.out wr (TouchB.refl _ _);have hcn:=HC.out.n;have hcy:=HC.out.y;have hz0:needF ⟨5,i,gg,nm,fn,ar,by_,bt⟩ j = 4:=by simp [needF]
   have hpl:=putL_len (σs j).N nm;have HAt:=Lib.hid ((atomQ (HL.out.hq.below (belowD (Below.refl _ wr))) nm (by omega)).mono fun e w' hh=>hh.of_below (belowD (Below.refl _ wr)));have HNl:Hid ((atomO nm (σs j)).2.N.length < 1000000):=Lib.hid (by show (names.putL (σs j).N nm).length < 1000000;omega);have HWd:Hid (cl.Wds [(atomO nm (σs j)).1,(atomO fn (atomO nm (σs j)).2).1,smallW ar]):=Lib.hid (fun x hx=>by
    simp only [List.mem_cons,List.not_mem_nil,or_false] at hx
    rcases hx with rfl | rfl | rfl
    ·have:=atomO_ok (σ:=σs j) nm (by omega)
     exact ⟨this.1,this.2.1⟩
    ·have:=atomO_ok (σ:=(atomO nm (σs j)).2) fn (by show (names.putL (σs j).N nm).length ≤ 500000;omega)
     exact ⟨this.1,this.2.1⟩
    ·have:=smallW_ok (n:=ar) (by simp [smallOk];omega)
     exact ⟨this.1,this.2.1⟩
    )
   have HYl:Hid ((atomO fn (atomO nm (σs j)).2).2.Y.length + 1 + 3 ≤ 1000000):=Lib.hid (by rw [atomO_Y,atomO_Y];omega);clear hcn hcy hz0 hpl;go_wp2_with fail
   go_region_held3 (fun W=>W.cell? ⟨w.heap.size,3,none⟩ = some (.string nm)∧W.cell? ⟨w.heap.size,4,none⟩ = some (.string fn)∧W.cell? ⟨w.heap.size,5,none⟩ = some (.int .i64 ar)) (go_keep)
    (first
      | (go_at_call 101;refine HAt2.out.mono ?_;rintro e W3 hq;have hq1:=hq.1;subst hq1;obtain ⟨S3,h3,t3,c3⟩:=hq.2;clear y0 y1 y2 y3 y4 y5 y6 y7 y8;obtain ⟨y0,y1,y2,y3,y4,y5,y6,y7,y8⟩:=HKeep.out _ _ _ _ _ HL.out W3 (HT2.out.trans t3 (fun k hk h=>HC2.out k h hk));have HT3:=Lib.hid (HT2.out.trans t3 (fun k hk h=>HC2.out k h hk));have HC3:Hid (∀ k,S3 k→k < wr.heap.size→S1 k):=Lib.hid (fun k hk hl=>HC2.out k (c3 k hk (Nat.lt_of_lt_of_le hl HT2.out.size)) hl);have HBX:=Lib.hid (boxLit h3 (k:=3) (by omega) (by omega) _ HWd.out (by simp) HYl.out);clear hq h3 t3 c3)
      | (go_at_call 101;refine HAt.out.mono ?_;rintro e W2 hq;have hq1:=hq.1;subst hq1;obtain ⟨S2,h2,t2,c2⟩:=hq.2;clear y0 y1 y2 y3 y4 y5 y6 y7 y8;obtain ⟨y0,y1,y2,y3,y4,y5,y6,y7,y8⟩:=HKeep.out _ _ _ _ _ HL.out W2 t2;have HT2:=Lib.hid t2;have HC2:=Lib.hid c2;have HAt2:=Lib.hid (atomQ h2 fn HNl.out);clear hq h2 t2 c2)
      | (go_at_call 79;refine (small79 _ (by omega) (by omega) _).mono ?_;rintro e w' ⟨rfl,rfl⟩)
      | (go_at_call 78;refine HBX.out.mono ?_;rintro e W4 hq;have hq1:=hq.1;subst hq1;have HQ:=Lib.hid hq.2;obtain ⟨S4,h4,t4,c4⟩:=hq.2;clear y0 y1 y2 y3 y4 y5 y6 y7 y8;obtain ⟨y0,y1,y2,y3,y4,y5,y6,y7,y8⟩:=HKeep.out _ _ _ _ _ HL.out W4 (HT3.out.trans t4 (fun k hk h=>HC3.out k h hk));clear hq h4 t4 c4))
   all_goals
    go_wp2_with fail;go_ret;exact ⟨rfl,HL.out.fin HB0.out (StepQ.trans HT3.out HC3.out HQ.out)⟩
theorem put_k6 (h:HQ w B z a b c σ S) (i gg:Int) (nm fn:ByteArray) (ar:Int) (by_:ByteArray) (bt:Int) (p:Option Addr) (len cp:Nat) (hcp:len ≤ cp) (hcm:cp ≤ 9223372036854775807) (hlb:len ≤ 100000)
 {ws:Nat→List Int} {σs:Nat→St} {xs:Nat→Int} (hE:PutEl w B z a b c σ S p len ws σs xs) (hi0:1 ≤ i) (hi1:i ≤ 2147483647) (hg0:1 ≤ gg) (hg1:gg ≤ 2147483647) (hc:Cap (σs len) 1 (needF ⟨6,i,gg,nm,fn,ar,by_,bt⟩ len)) :
 Calls Tryz.prog 69 #[.pointer (some ⟨z,0,none⟩),.agg (C9 6 i gg nm fn ar (.slice p len cp) by_ bt)] w (RQ B z a b c S (kindO ⟨6,i,gg,nm,fn,ar,by_,bt⟩ (ws len) (σs len)) w):=by
 have eK:kindO ⟨6,i,gg,nm,fn,ar,by_,bt⟩ (ws len) (σs len) = boxO 4 [(atomO nm (σs len)).1,smallW gg,smallW i] (atomO nm (σs len)).2:=by
  unfold kindO;simp
 rw [eK];clear eK;have hb0:Below w.heap.size w (w.alloc (.cells (C9 6 i gg nm fn ar (.slice p len cp) by_ bt) 38)):=belowA (Below.refl _ w) _;have hx:=heap_alloc_new w (.cells (C9 6 i gg nm fn ar (.slice p len cp) by_ bt) 38);have hsz:(w.alloc (.cells (C9 6 i gg nm fn ar (.slice p len cp) by_ bt) 38)).heap.size = w.heap.size + 1:=World.size_alloc _ _;generalize hw0:w.alloc (.cells (C9 6 i gg nm fn ar (.slice p len cp) by_ bt) 38) = W0 at *
 have hmk:∀ W:World,(Instr.makeSlice 22 (.int .i64 0) (.int .i64 len)).run Tryz.prog W = .ok (.slice (some ⟨W.heap.size,0,none⟩) 0 len) (W.alloc (.cells (mkc len) 40)):=fun W=>mk22 W len hlb;have hb1:Below W0.heap.size W0 (W0.alloc (.cells (mkc len) 40)):=belowA (Below.refl _ W0) _;have hq1:=(h.below hb0).below hb1
 have hrow:RecOwn encW 40 1 (W0.alloc (.cells (mkc len) 40)) W0.heap.size (.slice (some ⟨W0.heap.size,0,none⟩) 0 len) [] :=
  World.ownsRow_made (e:=40) (size:=1) (base:=W0.heap.size) W0 (mkc len) len (Nat.le_refl _) (by unfold maxLen;omega) (by rw [mkc_size];omega)
 have hLI:LoopI W0 B z a b c S S σ (W0.alloc (.cells (mkc len) 40)) (.slice (some ⟨W0.heap.size,0,none⟩) 0 len) [] :=
  ⟨hq1,(TouchB.refl _ W0).ofBelow hb1 (Nat.le_refl _),fun _ hk _=>hk,hrow,fun k hk h'=>by
   have e1:=h.lt k h'
   have e2:W0.heap.size = k:=Option.some.inj hk
   omega⟩
 have HLT:=Lib.hid h.lt;have HB0:=Lib.hid hb0;have HX:=Lib.hid hx;have HSZ:=Lib.hid hsz;have HLI:=Lib.hid hLI;have HE:=Lib.hid hE;have HC:=Lib.hid hc;have HKeep:Hid (∀ (S1:Nat→Prop) (σ1:St) (wr:World) (v:Value) (l:List Int),LoopI W0 B z a b c S S1 σ1 wr v l→∀ W,TouchB S1 wr W→Box9 w.heap.size 6 i gg nm fn ar (.slice p len cp) by_ bt W):=Lib.hid (fun S1 σ1 wr v l hl W ht=>by
  obtain ⟨k1,k2,k3⟩:=hl.keep (g:=w.heap.size) (by have:=HSZ.out;omega) (fun e=>absurd (HLT.out _ e) (Nat.lt_irrefl _))
  exact box9 ((ht.block _ k3 k2).trans (k1.trans HX.out)))
 obtain ⟨x0,x1,x2,x3,x4,x5,x6,x7,x8⟩:=box9 hx;clear h hb0 hx hsz hb1 hq1 hrow hLI hE hc;go_enter Tryz.func69,Tryz.ntmps69;go_upto_region 1 with (fail);clear hw0;go_upto_region 2 with (fail);generalize W0.alloc (.cells (mkc len) 40) = WA at *;obtain ⟨y0,y1,y2,y3,y4,y5,y6,y7,y8⟩:=HKeep.out _ _ _ _ _ HLI.out WA (TouchB.refl _ _);clear x0 x1 x2 x3 x4 x5 x6 x7 x8 hmk;go_wp2_with fail;clear y0 y1 y2 y3 y4 y5 y6 y7 y8;go_loopw [5,17] (fun s5 s17 wr=>∃ (j:Nat) (S1:Nat→Prop),s17 = .int .i64 j∧j ≤ len∧Hid (LoopI W0 B z a b c S S1 (σs j) wr s5 (ws j))) (fun _ s17 _=>len - (intOf s17).toNat)
 case atStart=>exact ⟨0,S,rfl,by omega,Lib.hid (by rw [HE.out.w0,HE.out.s0];exact HLI.out)⟩
 case round =>
  obtain ⟨j,S1,rfl,hj,HL⟩:=hrel
  by_cases hlt:j < len
  ·obtain ⟨g0,o0,f',q,m,c',hp,hg0,hgS,hC,hCall⟩:=HE.out.el j hlt;subst hp;have hgb:=HL.out.keep (g:=g0) (by have:=HSZ.out;omega) hgS;have hC2:=(hC.same (HB0.out.block g0 hg0)).same hgb.1;obtain ⟨y0,y1,y2,y3,y4,y5,y6,y7,y8⟩:=hC2;have hb1:Below wr.heap.size wr (wr.alloc (.cells (C9 f'.kind f'.int f'.gen f'.name f'.func f'.arity (.slice q m c') f'.bytes f'.bits) 38)):=belowA (Below.refl _ _) _;have HCA:=Lib.hid (hCall (wr.alloc (.cells (C9 f'.kind f'.int f'.gen f'.name f'.func f'.arity (.slice q m c') f'.bytes f'.bits) 38)) S1 (HL.out.hq.below hb1) (fun g hg1 hg2=>by
    obtain ⟨k1,k2,k3⟩:=HL.out.keep (g:=g) (by have:=HSZ.out;omega) hg1
    exact (hb1.block g k3).trans (k1.trans (HB0.out.block g hg2))) (fun k hk hkl=>HL.out.c1 k hk (by have:=HSZ.out;omega)) (by have:=HL.out.t.size;have:=hb1.size;have:=HSZ.out;omega))
   unfold aggV at HCA;have HB1:=Lib.hid hb1;have hwl:=HE.out.wl j hj;have HWL:=Lib.hid hwl;clear hb1 hC hCall hgb hwl hgS;go_wp2_with fail;refine HCA.out.mono ?_;rintro e w2 hq;have hq1:=hq.1;subst hq1;have hr2:=HL.out.row2 HB1.out hq.2 (.cells #[.int .u64 (xs j)] 40);have HSz:=Lib.hid (HL.out.size HB1.out hq.2 (.cells #[.int .u64 (xs j)] 40));have HR2:=Lib.hid hr2
   have RA:Hid (RecAt encW 1 (w2.alloc (.cells #[.int .u64 (xs j)] 40)) (w2.heap.size + 1) (.slice (some ⟨w2.heap.size,0,none⟩) 1 1) [xs j]):=Lib.hid (RecAt.fresh (encW_ok [xs j]) (by decide) (heap_alloc_new w2 _) (Nat.le_refl 1) (by unfold maxLen;omega));have HQ2:=Lib.hid hq.2;have HLN:Hid ((ws j).length + [xs j].length ≤ 1000000000):=Lib.hid (by rw [HWL.out];show j + 1 ≤ _;omega);clear hq hr2 y0 y1 y2 y3 y4 y5 y6 y7 y8
   go_wp2_with (refine wpList_append_rec (enc:=encW) elW rfl (.tmp 21) (.tmp 25) rfl rfl (base:=W0.heap.size) (l:=ws j) HR2.out HSz.out (B:=w2.heap.size + 1) (xs:=[xs j]) rfl RA.out (encW_ok _) HLN.out ?_)
   intro v2 w3 hA;obtain ⟨S2,hL2⟩:=HL.out.next HB1.out HQ2.out hA;rw [← HE.out.w1 j hlt] at hL2;have HL2:=Lib.hid hL2;clear hA hL2;go_wp2_with fail;go_roundw
   case rel=>exact ⟨j + 1,S2,by go_num,by omega,HL2⟩
   case measure=>simp [intOf];omega
  ·obtain rfl:j = len:=by omega
   obtain ⟨pv,cv,ev,hv1,hv2⟩:=HL.out.row.shape;rw [HE.out.wl j hj] at ev hv1;subst ev;obtain ⟨y0,y1,y2,y3,y4,y5,y6,y7,y8⟩:=HKeep.out _ _ _ _ _ HL.out wr (TouchB.refl _ _);have hcn:=HC.out.n;have hcy:=HC.out.y;have hz0:needF ⟨6,i,gg,nm,fn,ar,by_,bt⟩ j = 4:=by simp [needF]
   have HAt:=Lib.hid ((atomQ (HL.out.hq.below (belowD (Below.refl _ wr))) nm (by omega)).mono fun e w' hh=>hh.of_below (belowD (Below.refl _ wr)));have HWd:Hid (cl.Wds [(atomO nm (σs j)).1,smallW gg,smallW i]):=Lib.hid (fun x hx=>by
    simp only [List.mem_cons,List.not_mem_nil,or_false] at hx
    rcases hx with rfl | rfl | rfl
    ·have:=atomO_ok (σ:=σs j) nm (by omega)
     exact ⟨this.1,this.2.1⟩
    ·have:=smallW_ok (n:=gg) (by simp [smallOk];omega)
     exact ⟨this.1,this.2.1⟩
    ·have:=smallW_ok (n:=i) (by simp [smallOk];omega)
     exact ⟨this.1,this.2.1⟩
    )
   have HYl:Hid ((atomO nm (σs j)).2.Y.length + 1 + 3 ≤ 1000000):=Lib.hid (by rw [atomO_Y];omega);clear hcn hcy hz0;go_wp2_with fail
   go_region_held3 (fun W=>W.cell? ⟨w.heap.size,3,none⟩ = some (.string nm)∧W.cell? ⟨w.heap.size,2,none⟩ = some (.int .i64 gg)∧W.cell? ⟨w.heap.size,1,none⟩ = some (.int .i64 i)) (go_keep)
    (first
      | (go_at_call 101;refine HAt.out.mono ?_;rintro e W2 hq;have hq1:=hq.1;subst hq1;obtain ⟨S2,h2,t2,c2⟩:=hq.2;clear y0 y1 y2 y3 y4 y5 y6 y7 y8;obtain ⟨y0,y1,y2,y3,y4,y5,y6,y7,y8⟩:=HKeep.out _ _ _ _ _ HL.out W2 t2;have H2:=Lib.hid h2;have HT2:=Lib.hid t2;have HC2:=Lib.hid c2;have HBX:=Lib.hid (boxLit h2 (k:=4) (by omega) (by omega) _ HWd.out (by simp) HYl.out);clear hq h2 t2 c2)
      | (go_at_call 79;refine (small79 _ (by omega) (by omega) _).mono ?_;rintro e w' ⟨rfl,rfl⟩)
      | (go_at_call 78;refine HBX.out.mono ?_;rintro e W4 hq;have hq1:=hq.1;subst hq1;have HQ:=Lib.hid hq.2;obtain ⟨S3,h3,t3,c3⟩:=hq.2;clear y0 y1 y2 y3 y4 y5 y6 y7 y8;obtain ⟨y0,y1,y2,y3,y4,y5,y6,y7,y8⟩:=HKeep.out _ _ _ _ _ HL.out W4 (HT2.out.trans t3 (fun k hk h=>HC2.out k h hk));clear hq h3 t3 c3))
   all_goals
    go_wp2_with fail;go_ret;exact ⟨rfl,HL.out.fin HB0.out (StepQ.trans HT2.out HC2.out HQ.out)⟩
theorem put_k3 (h:HQ w B z a b c σ S) (i gg:Int) (nm fn:ByteArray) (ar:Int) (by_:ByteArray) (bt:Int) (p:Option Addr) (len cp:Nat) (hcp:len ≤ cp) (hcm:cp ≤ 9223372036854775807) (hlb:len ≤ 100000)
 {ws:Nat→List Int} {σs:Nat→St} {xs:Nat→Int} (hE:PutEl w B z a b c σ S p len ws σs xs) (hi0:1 ≤ i) (hi1:i ≤ 2147483647) (hg0:1 ≤ gg) (hg1:gg ≤ 2147483647) (hc:Cap (σs len) 1 (needF ⟨3,i,gg,nm,fn,ar,by_,bt⟩ len)) :
 Calls Tryz.prog 69 #[.pointer (some ⟨z,0,none⟩),.agg (C9 3 i gg nm fn ar (.slice p len cp) by_ bt)] w (RQ B z a b c S (kindO ⟨3,i,gg,nm,fn,ar,by_,bt⟩ (ws len) (σs len)) w):=by
 have eK:kindO ⟨3,i,gg,nm,fn,ar,by_,bt⟩ (ws len) (σs len) = boxO 5 [(atomO nm (σs len)).1,smallW gg,smallW i] (atomO nm (σs len)).2:=by
  unfold kindO;simp
 rw [eK];clear eK;have hb0:Below w.heap.size w (w.alloc (.cells (C9 3 i gg nm fn ar (.slice p len cp) by_ bt) 38)):=belowA (Below.refl _ w) _;have hx:=heap_alloc_new w (.cells (C9 3 i gg nm fn ar (.slice p len cp) by_ bt) 38);have hsz:(w.alloc (.cells (C9 3 i gg nm fn ar (.slice p len cp) by_ bt) 38)).heap.size = w.heap.size + 1:=World.size_alloc _ _;generalize hw0:w.alloc (.cells (C9 3 i gg nm fn ar (.slice p len cp) by_ bt) 38) = W0 at *
 have hmk:∀ W:World,(Instr.makeSlice 22 (.int .i64 0) (.int .i64 len)).run Tryz.prog W = .ok (.slice (some ⟨W.heap.size,0,none⟩) 0 len) (W.alloc (.cells (mkc len) 40)):=fun W=>mk22 W len hlb;have hb1:Below W0.heap.size W0 (W0.alloc (.cells (mkc len) 40)):=belowA (Below.refl _ W0) _;have hq1:=(h.below hb0).below hb1
 have hrow:RecOwn encW 40 1 (W0.alloc (.cells (mkc len) 40)) W0.heap.size (.slice (some ⟨W0.heap.size,0,none⟩) 0 len) [] :=
  World.ownsRow_made (e:=40) (size:=1) (base:=W0.heap.size) W0 (mkc len) len (Nat.le_refl _) (by unfold maxLen;omega) (by rw [mkc_size];omega)
 have hLI:LoopI W0 B z a b c S S σ (W0.alloc (.cells (mkc len) 40)) (.slice (some ⟨W0.heap.size,0,none⟩) 0 len) [] :=
  ⟨hq1,(TouchB.refl _ W0).ofBelow hb1 (Nat.le_refl _),fun _ hk _=>hk,hrow,fun k hk h'=>by
   have e1:=h.lt k h'
   have e2:W0.heap.size = k:=Option.some.inj hk
   omega⟩
 have HLT:=Lib.hid h.lt;have HB0:=Lib.hid hb0;have HX:=Lib.hid hx;have HSZ:=Lib.hid hsz;have HLI:=Lib.hid hLI;have HE:=Lib.hid hE;have HC:=Lib.hid hc;have HKeep:Hid (∀ (S1:Nat→Prop) (σ1:St) (wr:World) (v:Value) (l:List Int),LoopI W0 B z a b c S S1 σ1 wr v l→∀ W,TouchB S1 wr W→Box9 w.heap.size 3 i gg nm fn ar (.slice p len cp) by_ bt W):=Lib.hid (fun S1 σ1 wr v l hl W ht=>by
  obtain ⟨k1,k2,k3⟩:=hl.keep (g:=w.heap.size) (by have:=HSZ.out;omega) (fun e=>absurd (HLT.out _ e) (Nat.lt_irrefl _))
  exact box9 ((ht.block _ k3 k2).trans (k1.trans HX.out)))
 obtain ⟨x0,x1,x2,x3,x4,x5,x6,x7,x8⟩:=box9 hx;clear h hb0 hx hsz hb1 hq1 hrow hLI hE hc;go_enter Tryz.func69,Tryz.ntmps69;go_upto_region 1 with (fail);clear hw0;go_upto_region 2 with (fail);generalize W0.alloc (.cells (mkc len) 40) = WA at *;obtain ⟨y0,y1,y2,y3,y4,y5,y6,y7,y8⟩:=HKeep.out _ _ _ _ _ HLI.out WA (TouchB.refl _ _);clear x0 x1 x2 x3 x4 x5 x6 x7 x8 hmk;go_wp2_with fail;clear y0 y1 y2 y3 y4 y5 y6 y7 y8;go_loopw [5,17] (fun s5 s17 wr=>∃ (j:Nat) (S1:Nat→Prop),s17 = .int .i64 j∧j ≤ len∧Hid (LoopI W0 B z a b c S S1 (σs j) wr s5 (ws j))) (fun _ s17 _=>len - (intOf s17).toNat)
 case atStart=>exact ⟨0,S,rfl,by omega,Lib.hid (by rw [HE.out.w0,HE.out.s0];exact HLI.out)⟩
 case round =>
  obtain ⟨j,S1,rfl,hj,HL⟩:=hrel
  by_cases hlt:j < len
  ·obtain ⟨g0,o0,f',q,m,c',hp,hg0,hgS,hC,hCall⟩:=HE.out.el j hlt;subst hp;have hgb:=HL.out.keep (g:=g0) (by have:=HSZ.out;omega) hgS;have hC2:=(hC.same (HB0.out.block g0 hg0)).same hgb.1;obtain ⟨y0,y1,y2,y3,y4,y5,y6,y7,y8⟩:=hC2;have hb1:Below wr.heap.size wr (wr.alloc (.cells (C9 f'.kind f'.int f'.gen f'.name f'.func f'.arity (.slice q m c') f'.bytes f'.bits) 38)):=belowA (Below.refl _ _) _;have HCA:=Lib.hid (hCall (wr.alloc (.cells (C9 f'.kind f'.int f'.gen f'.name f'.func f'.arity (.slice q m c') f'.bytes f'.bits) 38)) S1 (HL.out.hq.below hb1) (fun g hg1 hg2=>by
    obtain ⟨k1,k2,k3⟩:=HL.out.keep (g:=g) (by have:=HSZ.out;omega) hg1
    exact (hb1.block g k3).trans (k1.trans (HB0.out.block g hg2))) (fun k hk hkl=>HL.out.c1 k hk (by have:=HSZ.out;omega)) (by have:=HL.out.t.size;have:=hb1.size;have:=HSZ.out;omega))
   unfold aggV at HCA;have HB1:=Lib.hid hb1;have hwl:=HE.out.wl j hj;have HWL:=Lib.hid hwl;clear hb1 hC hCall hgb hwl hgS;go_wp2_with fail;refine HCA.out.mono ?_;rintro e w2 hq;have hq1:=hq.1;subst hq1;have hr2:=HL.out.row2 HB1.out hq.2 (.cells #[.int .u64 (xs j)] 40);have HSz:=Lib.hid (HL.out.size HB1.out hq.2 (.cells #[.int .u64 (xs j)] 40));have HR2:=Lib.hid hr2
   have RA:Hid (RecAt encW 1 (w2.alloc (.cells #[.int .u64 (xs j)] 40)) (w2.heap.size + 1) (.slice (some ⟨w2.heap.size,0,none⟩) 1 1) [xs j]):=Lib.hid (RecAt.fresh (encW_ok [xs j]) (by decide) (heap_alloc_new w2 _) (Nat.le_refl 1) (by unfold maxLen;omega));have HQ2:=Lib.hid hq.2;have HLN:Hid ((ws j).length + [xs j].length ≤ 1000000000):=Lib.hid (by rw [HWL.out];show j + 1 ≤ _;omega);clear hq hr2 y0 y1 y2 y3 y4 y5 y6 y7 y8
   go_wp2_with (refine wpList_append_rec (enc:=encW) elW rfl (.tmp 21) (.tmp 25) rfl rfl (base:=W0.heap.size) (l:=ws j) HR2.out HSz.out (B:=w2.heap.size + 1) (xs:=[xs j]) rfl RA.out (encW_ok _) HLN.out ?_)
   intro v2 w3 hA;obtain ⟨S2,hL2⟩:=HL.out.next HB1.out HQ2.out hA;rw [← HE.out.w1 j hlt] at hL2;have HL2:=Lib.hid hL2;clear hA hL2;go_wp2_with fail;go_roundw
   case rel=>exact ⟨j + 1,S2,by go_num,by omega,HL2⟩
   case measure=>simp [intOf];omega
  ·obtain rfl:j = len:=by omega
   obtain ⟨pv,cv,ev,hv1,hv2⟩:=HL.out.row.shape;rw [HE.out.wl j hj] at ev hv1;subst ev;obtain ⟨y0,y1,y2,y3,y4,y5,y6,y7,y8⟩:=HKeep.out _ _ _ _ _ HL.out wr (TouchB.refl _ _);have hcn:=HC.out.n;have hcy:=HC.out.y;have hz0:needF ⟨3,i,gg,nm,fn,ar,by_,bt⟩ j = 4:=by simp [needF]
   have HAt:=Lib.hid ((atomQ (HL.out.hq.below (belowD (Below.refl _ wr))) nm (by omega)).mono fun e w' hh=>hh.of_below (belowD (Below.refl _ wr)));have HWd:Hid (cl.Wds [(atomO nm (σs j)).1,smallW gg,smallW i]):=Lib.hid (fun x hx=>by
    simp only [List.mem_cons,List.not_mem_nil,or_false] at hx
    rcases hx with rfl | rfl | rfl
    ·have:=atomO_ok (σ:=σs j) nm (by omega)
     exact ⟨this.1,this.2.1⟩
    ·have:=smallW_ok (n:=gg) (by simp [smallOk];omega)
     exact ⟨this.1,this.2.1⟩
    ·have:=smallW_ok (n:=i) (by simp [smallOk];omega)
     exact ⟨this.1,this.2.1⟩
    )
   have HYl:Hid ((atomO nm (σs j)).2.Y.length + 1 + 3 ≤ 1000000):=Lib.hid (by rw [atomO_Y];omega);clear hcn hcy hz0;go_wp2_with fail
   go_region_held3 (fun W=>W.cell? ⟨w.heap.size,3,none⟩ = some (.string nm)∧W.cell? ⟨w.heap.size,2,none⟩ = some (.int .i64 gg)∧W.cell? ⟨w.heap.size,1,none⟩ = some (.int .i64 i)) (go_keep)
    (first
      | (go_at_call 101;refine HAt.out.mono ?_;rintro e W2 hq;have hq1:=hq.1;subst hq1;obtain ⟨S2,h2,t2,c2⟩:=hq.2;clear y0 y1 y2 y3 y4 y5 y6 y7 y8;obtain ⟨y0,y1,y2,y3,y4,y5,y6,y7,y8⟩:=HKeep.out _ _ _ _ _ HL.out W2 t2;have H2:=Lib.hid h2;have HT2:=Lib.hid t2;have HC2:=Lib.hid c2;have HBX:=Lib.hid (boxLit h2 (k:=5) (by omega) (by omega) _ HWd.out (by simp) HYl.out);clear hq h2 t2 c2)
      | (go_at_call 79;refine (small79 _ (by omega) (by omega) _).mono ?_;rintro e w' ⟨rfl,rfl⟩)
      | (go_at_call 78;refine HBX.out.mono ?_;rintro e W4 hq;have hq1:=hq.1;subst hq1;have HQ:=Lib.hid hq.2;obtain ⟨S3,h3,t3,c3⟩:=hq.2;clear y0 y1 y2 y3 y4 y5 y6 y7 y8;obtain ⟨y0,y1,y2,y3,y4,y5,y6,y7,y8⟩:=HKeep.out _ _ _ _ _ HL.out W4 (HT2.out.trans t3 (fun k hk h=>HC2.out k h hk));clear hq h3 t3 c3))
   all_goals
    go_wp2_with fail;go_ret;exact ⟨rfl,HL.out.fin HB0.out (StepQ.trans HT2.out HC2.out HQ.out)⟩
end
theorem putStep {n:Nat} (ih:∀ m,n = m + 1→PutS m):PutS n:=by
 intro w B z a b c σ S v t h hI hf hr hc;obtain ⟨p,cp,rfl,hcp,hcm⟩:=itemsIn_shape hI;unfold maxLen at hcm;unfold formedT at hf;rw [Bool.and_eq_true] at hf;have hok:=hf.1;obtain ⟨hk,h9,h10⟩:=okF_kind hok;obtain ⟨hz,_⟩:=needF_bd t hok;unfold okT at hok;rw [Bool.and_eq_true,Bool.and_eq_true] at hok;have hokF:=hok.2.1;have en:nodesT t = 1 + nodesL n t.items:=by unfold nodesT;omega
 have hnl:=nodes_len n t.items;have hcn:=hc.n;rw [en] at hcn;rw [need_eq] at hc;obtain ⟨ws,σs,xs,hE,hEnd,hCap⟩:=putEl ih (B:=B) (z:=z) (a:=a) (b:=b) (c:=c) (S:=S) p t.items.length cp t.items rfl hI hf.2 hr.2 (k:=1) (m:=needF t.f t.items.length) hz (hc.less (by omega) (by omega));have e:putO (n + 1) t σ = kindO t.f (ws t.items.length) (σs t.items.length):=by
  show kindO t.f (itemsO (putO n) t.items σ).1 (itemsO (putO n) t.items σ).2 = _;rw [← hEnd]
 rw [e];have hri:=hr.1;clear e hEnd hI hf hr hc hok hz ih;generalize lastK n t.items = last at *;generalize t.items.length = len at *;generalize t.f = f at *;obtain ⟨k,i,gg,nm,fn,ar,by_,bt⟩:=f;unfold rngF at hri;unfold aggV;dsimp only at *;have hlb:len ≤ 100000:=by omega
 clear hcn hnl en;unfold okF at hokF;dsimp only at hokF
 rcases hk with rfl | rfl | rfl | rfl | rfl | rfl | rfl | rfl | rfl | rfl
 ·exact put_k1 h i gg nm fn ar by_ bt p len cp hcp hcm hlb hE hri.1 hri.2 hCap
 ·exact put_k2 h i gg nm fn ar by_ bt p len cp hcp hcm hlb hE hCap
 ·exact put_k8 h i gg nm fn ar by_ bt p len cp hcp hcm hlb hE hCap
 ·exact put_k9 h i gg nm fn ar by_ bt p len cp hcp hcm hlb hE (h9 rfl) hCap
 ·simp at hokF;exact put_k7 h i gg nm fn ar by_ bt p len cp hcp hcm hlb hE hokF hCap
 ·simp [inB] at hokF;exact put_k4 h i gg nm fn ar by_ bt p len cp hcp hcm hlb hE hokF.1.1 hokF.1.2 hokF.2.1.1 hokF.2.1.2 hokF.2.2.2.1.1 hokF.2.2.2.1.2 hokF.2.2.2.2 hCap
 ·simp [inB] at hokF;exact put_k5 h i gg nm fn ar by_ bt p len cp hcp hcm hlb hE hokF.2.2.1 hokF.2.2.2 hCap
 ·simp [inB] at hokF;exact put_k6 h i gg nm fn ar by_ bt p len cp hcp hcm hlb hE hokF.1.1 hokF.1.2 hokF.2.1.1 hokF.2.1.2 hCap
 ·simp [inB] at hokF;exact put_k3 h i gg nm fn ar by_ bt p len cp hcp hcm hlb hE hokF.1.1 hokF.1.2 hokF.2.1.1 hokF.2.1.2 hCap
 ·obtain ⟨b0,b1,b2⟩:=h10 rfl;exact put_k10 h i gg nm fn ar by_ bt p len cp hcp hcm hlb hE b0 b1 b2 hCap
theorem putAll:∀ n,PutS n
 | 0=>putStep (fun m h=>by omega)
 | n + 1=>putStep (fun m h=>by (obtain rfl:n = m:=(by omega));exact putAll n)
end Go.Proofs.YtpnlnbolhkcnjaaGreat.hp
