/- HpF,HpQ. No condition beyond theirs. -/
import Derived.Test.YtpnlnbolhkcnjaaGreatP05
import Derived.Test.YtpnlnbolhkcnjaaGreatP07
import Derived.Laws.AppendOwnNone
set_option linter.unusedSimpArgs false
set_option linter.unusedVariables false
set_option maxHeartbeats 4000000
set_option maxRecDepth 100000
namespace Go.Proofs.YtpnlnbolhkcnjaaGreat
namespace hp
open Go.RowKit mem words rec
theorem Step.then {B z a b:Nat} {c:Int} {vY vF vY1 vF1:Value} {w w1 w2:World} {Y2:List Int} {F2:List Bool} (t1:TouchB (HB z vY vF) w w1) (c1:∀ k,HB z vY1 vF1 k→k < w.heap.size→HB z vY vF k) (h2:Step B z a b c vY1 vF1 w1 Y2 F2 w2):Step B z a b c vY vF w Y2 F2 w2:=by
 obtain ⟨vY2,vF2,h3,t2,c2⟩:=h2;exact ⟨vY2,vF2,h3,t1.trans t2 (fun i hi h=>c1 i h hi),fun k hk hl=>c1 k (c2 k hk (Nat.lt_of_lt_of_le hl t1.size)) hl⟩
theorem words_at {w:World} {base:Nat} {v:Value} {l:List Int} (h:RecOwn encW 40 1 w base v l) (h0:0 < l.length):∃ g c,v = .slice (some ⟨g,0,none⟩) l.length c∧base ≤ g∧g < w.heap.size∧∀ j x,l[j]? = some x→w.cell? ⟨g,j,none⟩ = some (.int .u64 x):=by
 obtain ⟨p,c,rfl,_,_⟩:=h.shape;have hr:=h.row (encW_ok l);obtain ⟨g,o,rfl,_,_,hc⟩:=hr.nth h0;have ho:o = 0:=by
  rcases h.2 with ⟨e,_⟩ | ⟨g',cap,cur,e,_⟩
  ·simp at e
  ·simp only [Value.slice.injEq,Option.some.injEq,Addr.mk.injEq,and_true] at e;exact e.1.2
 subst ho;obtain ⟨hb1,hb2⟩:=h.lt (k:=g) rfl;refine ⟨g,c,rfl,hb1,hb2,fun j x hj=>?_⟩;have:=hc j x hj 0 (.int .u64 x) rfl;simpa using this
abbrev flatC9 (g:Nat):Array Value:=#[.int .i64 9,.int .i64 0,.int .i64 0,.string ⟨#[]⟩,.string ⟨#[]⟩,.int .i64 0,.slice (some ⟨g,0,none⟩) 3 3,.string ⟨#[]⟩,.int .i64 0]
theorem putL {w:World} {B z a b g:Nat} {c:Int} {vY vF:Value} (h:HA w B z a b c vY vF [] []) (hg:w.heap[g]? = some (.cells aw3 38)) :
 Calls Tryz.prog 69 #[.pointer (some ⟨z,0,none⟩),listT g] w fun e w'=>e = .returned (.int .u64 17)∧Step B z a b c vY vF w [19,11,19,1] [true,false,true,false] w':=by
 have HR:=Lib.hid (fun W (hb:Below w.heap.size w W)=>aw3_range (w:=W) ((hb.block g (Array.getElem?_eq_some_iff.1 hg).1).trans hg));have HI:=Lib.hid (fun W=>(show smallW 1 = 19 by decide) ▸ putInt W (some ⟨z,0,none⟩) 1 (by omega) (by omega) (by decide));have HN:=Lib.hid (fun W=>putNil W (some ⟨z,0,none⟩) 0);have HH:=Lib.hid h;have hmk:∀ W:World,(Instr.makeSlice 22 (.int .i64 0) (.int .i64 3)).run Tryz.prog W = .ok (.slice (some ⟨W.heap.size,0,none⟩) 0 3) (W.alloc (.cells (mkc 3) 40)):=fun W=>mk22 W 3 (by omega);clear hg h;go_enter Tryz.func69,Tryz.ntmps69;go_wp2_with fail
 have hbx:=heap_alloc_new w (.cells (flatC9 g) 38);have hbw:Below w.heap.size w (w.alloc (.cells (flatC9 g) 38)):=belowA (Below.refl _ w) _;have hsw:(w.alloc (.cells (flatC9 g) 38)).heap.size = w.heap.size + 1:=World.size_alloc _ _;have O0:Hid (RecOwn encW 40 1 ((w.alloc (.cells (flatC9 g) 38)).alloc (.cells (mkc 3) 40)) (w.alloc (.cells (flatC9 g) 38)).heap.size (.slice (some ⟨w.heap.size + 1,0,none⟩) 0 3) []):=Lib.hid (by
  have:=World.ownsRow_made (e:=40) (size:=1) (base:=(w.alloc (.cells (flatC9 g) 38)).heap.size) (w.alloc (.cells (flatC9 g) 38)) (mkc 3) 3 (Nat.le_refl _) (by unfold maxLen;omega) (by rw [mkc_size])
  rw [hsw] at this
  rw [hsw]
  exact this)
 generalize w.alloc (.cells (flatC9 g) 38) = w1 at *;have HB0:=Lib.hid (show Below w1.heap.size w1 (w1.alloc (.cells (mkc 3) 40)) from belowA (Below.refl _ w1) _);have HR:=Lib.hid (fun W (hb:Below w1.heap.size w1 W)=>HR.out W (hbw.trans (hb.mono hbw.size)));have HX:=Lib.hid (fun W (hb:Below w1.heap.size w1 W)=>(hb.block w.heap.size (by omega)).trans hbx);have HBW:=Lib.hid hbw;have HSW:=Lib.hid hsw;clear hbx hbw hsw;generalize w1.alloc (.cells (mkc 3) 40) = W0 at *;generalize (Value.slice (some ⟨w.heap.size + 1,0,none⟩) 0 3) = v0 at *;refine wp_loop_rounds 4 ?_;rw [rounds_succ]
 go_wp2_with (refine wpList_load_mid rfl 38 (.tmp 19) rfl g 0 rfl (flatL 1 1) _ (HR.out _ HB0.out).1 Tryz.underlying38 rfl (by kernel_rfl) ?_)
 refine (HI.out _).mono ?_;rintro e V0 ⟨rfl,hv⟩;have hbx:Below W0.heap.size W0 V0:=(belowA (Below.refl _ W0) _).trans (hv.mono (belowA (Below.refl _ W0) _).size);have hby:=belowA hbx (.cells #[.int .u64 19] 40);have hbw:=HB0.out.trans (hby.mono HB0.out.size);have OA:Hid (RecOwn encW 40 1 (V0.alloc (.cells #[.int .u64 19] 40)) w1.heap.size v0 []):=Lib.hid (O0.out.below hby)
 have RA:Hid (RecAt encW 1 (V0.alloc (.cells #[.int .u64 19] 40)) (V0.heap.size + 1) (.slice (some ⟨V0.heap.size,0,none⟩) 1 1) [19]):=Lib.hid (RecAt.fresh (encW_ok [19]) (by decide) (heap_alloc_new V0 _) (Nat.le_refl 1) (by unfold maxLen;omega));have hsz:=hbw.size;have HBn:=Lib.hid hbw;have HBb:=Lib.hid hsz;clear hv hbx hby hbw hsz;go_wp2_with (refine wpList_append_rec (enc:=encW) elW rfl (.tmp 21) (.tmp 25) rfl rfl (base:=w1.heap.size) (l:=[]) OA.out HBb.out (B:=V0.heap.size + 1) (xs:=[19]) rfl RA.out (encW_ok _) (by decide) ?_)
 intro v1 W1 hA;have O1:Hid (RecOwn encW 40 1 W1 w1.heap.size v1 [19]):=Lib.hid hA.own;have HB1:=Lib.hid (hA.belowB HBn.out HBb.out (fun k hk=>(OA.out.lt hk).1));clear hA OA RA HBn HBb O0 HB0;go_wp2_with fail;rw [rounds_succ];go_wp2_with (refine wpList_load_mid rfl 38 (.tmp 19) rfl g 9 rfl (flatL 1 1) _ (HR.out _ HB1.out).2.1 Tryz.underlying38 rfl (by kernel_rfl) ?_)
 refine (HI.out _).mono ?_;rintro e V1 ⟨rfl,hv⟩;have hbx:Below W1.heap.size W1 V1:=(belowA (Below.refl _ W1) _).trans (hv.mono (belowA (Below.refl _ W1) _).size);have hby:=belowA hbx (.cells #[.int .u64 19] 40);have hbw:=HB1.out.trans (hby.mono HB1.out.size);have OA:Hid (RecOwn encW 40 1 (V1.alloc (.cells #[.int .u64 19] 40)) w1.heap.size v1 [19]):=Lib.hid (O1.out.below hby)
 have RA:Hid (RecAt encW 1 (V1.alloc (.cells #[.int .u64 19] 40)) (V1.heap.size + 1) (.slice (some ⟨V1.heap.size,0,none⟩) 1 1) [19]):=Lib.hid (RecAt.fresh (encW_ok [19]) (by decide) (heap_alloc_new V1 _) (Nat.le_refl 1) (by unfold maxLen;omega));have hsz:=hbw.size;have HBn:=Lib.hid hbw;have HBb:=Lib.hid hsz;clear hv hbx hby hbw hsz;go_wp2_with (refine wpList_append_rec (enc:=encW) elW rfl (.tmp 21) (.tmp 25) rfl rfl (base:=w1.heap.size) (l:=[19]) OA.out HBb.out (B:=V1.heap.size + 1) (xs:=[19]) rfl RA.out (encW_ok _) (by decide) ?_)
 intro v2 W2 hA;have O2:Hid (RecOwn encW 40 1 W2 w1.heap.size v2 [19,19]):=Lib.hid hA.own;have HB2:=Lib.hid (hA.belowB HBn.out HBb.out (fun k hk=>(OA.out.lt hk).1));clear hA OA RA HBn HBb O1 HB1;go_wp2_with fail;rw [rounds_succ];go_wp2_with (refine wpList_load_mid rfl 38 (.tmp 19) rfl g 18 rfl (flatL 8 0) _ (HR.out _ HB2.out).2.2 Tryz.underlying38 rfl (by kernel_rfl) ?_)
 refine (HN.out _).mono ?_;rintro e V2 ⟨rfl,hv⟩;have hbx:Below W2.heap.size W2 V2:=(belowA (Below.refl _ W2) _).trans (hv.mono (belowA (Below.refl _ W2) _).size);have hby:=belowA hbx (.cells #[.int .u64 11] 40);have hbw:=HB2.out.trans (hby.mono HB2.out.size);have OA:Hid (RecOwn encW 40 1 (V2.alloc (.cells #[.int .u64 11] 40)) w1.heap.size v2 [19,19]):=Lib.hid (O2.out.below hby)
 have RA:Hid (RecAt encW 1 (V2.alloc (.cells #[.int .u64 11] 40)) (V2.heap.size + 1) (.slice (some ⟨V2.heap.size,0,none⟩) 1 1) [11]):=Lib.hid (RecAt.fresh (encW_ok [11]) (by decide) (heap_alloc_new V2 _) (Nat.le_refl 1) (by unfold maxLen;omega));have hsz:=hbw.size;have HBn:=Lib.hid hbw;have HBb:=Lib.hid hsz;clear hv hbx hby hbw hsz;go_wp2_with (refine wpList_append_rec (enc:=encW) elW rfl (.tmp 21) (.tmp 25) rfl rfl (base:=w1.heap.size) (l:=[19,19]) OA.out HBb.out (B:=V2.heap.size + 1) (xs:=[11]) rfl RA.out (encW_ok _) (by decide) ?_)
 intro v3 W3 hA;have O3:Hid (RecOwn encW 40 1 W3 w1.heap.size v3 [19,19,11]):=Lib.hid hA.own;have HB3:=Lib.hid (hA.belowB HBn.out HBb.out (fun k hk=>(OA.out.lt hk).1));clear hA OA RA HBn HBb O2 HB2;go_wp2_with fail;have hb3:=HBW.out.trans (HB3.out.mono HBW.out.size);have hH3:=HH.out.below hb3;obtain ⟨gi,ci,ev,hi1,hi2,hic⟩:=words_at O3.out (by decide);have hng:Hid (¬ HB z vY vF gi):=Lib.hid (by
  have hzl:=(Array.getElem?_eq_some_iff.1 HH.out.blk).1
  have:=HSW.out
  rintro (e | e | e)
  ·omega
  ·have:=(HH.out.y.lt e).2;omega
  ·have:=(HH.out.f.lt e).2;omega)
 have ev':v3 = .slice (some ⟨gi,0,none⟩) 3 ci:=ev;clear ev;subst ev';have x0:W3.cell? ⟨gi,0,none⟩ = some (.int .u64 19):=hic 0 19 rfl;have x1:W3.cell? ⟨gi,1,none⟩ = some (.int .u64 19):=hic 1 19 rfl;have x2:W3.cell? ⟨gi,2,none⟩ = some (.int .u64 11):=hic 2 11 rfl
 have HC1:Hid (Calls Tryz.prog 100 #[.pointer (some ⟨z,0,none⟩),.int .u64 19,.int .u64 11] W3 fun e w'=>e = .returned (.int .u64 1)∧Step B z a b c vY vF W3 [19,11] [true,false] w') :=
  Lib.hid ((cell100 hH3 rfl 19 11 (by decide)).mono fun e w' h=>⟨h.1.trans (congrArg (fun q=>Ending.returned (.int .u64 q)) (show ptrW 1 false ((0:Nat):Int) = 1 by decide)),h.2⟩)
 have HG:=Lib.hid hi2;have HB4:=Lib.hid hb3;have b0:W3.cell? ⟨w.heap.size,0,none⟩ = some (.int .i64 9):=(cell_of_blk (HX.out _ HB3.out)).trans rfl;clear O3 hH3 hic hi1 hi2 hb3;rw [rounds_succ];go_wp2_with fail;refine wp_loop_rounds 3 ?_;rw [rounds_succ];go_wp2_with fail;refine HC1.out.mono ?_;rintro e W4 ⟨rfl,hS⟩;obtain ⟨vY1,vF1,hA4,t4,c4⟩:=hS;have y0:W4.cell? ⟨gi,0,none⟩ = some (.int .u64 19):=(t4.cell (p:=⟨gi,0,none⟩) HG.out hng.out).trans x0
 have HC2:Hid (Calls Tryz.prog 100 #[.pointer (some ⟨z,0,none⟩),.int .u64 19,.int .u64 1] W4 fun e w'=>e = .returned (.int .u64 17)∧Step B z a b c vY1 vF1 W4 [19,11,19,1] [true,false,true,false] w') :=
  Lib.hid ((cell100 hA4 rfl 19 1 (by decide)).mono fun e w' h=>⟨h.1.trans (congrArg (fun q=>Ending.returned (.int .u64 q)) (show ptrW 1 false ((2:Nat):Int) = 17 by decide)),h.2⟩)
 have HT:=Lib.hid t4;have HK:=Lib.hid c4;clear hA4 t4 c4 x0 x1 x2 HC1;go_wp2_with fail;rw [rounds_succ];go_wp2_with fail;refine HC2.out.mono ?_;rintro e W5 ⟨rfl,hS⟩;have HS:=Lib.hid (Step.of_below HB4.out (Step.then HT.out HK.out hS));clear hS HC2 y0;go_wp2_with fail;rw [rounds_succ];go_wp2_with fail;go_ret;exact ⟨rfl,HS.out⟩
end hp
namespace names
open Go.RowKit mem
def kvOf (L:List ByteArray):List (ByteArray × Value):=L.zipIdx.map (fun p=>(p.1,.int .i64 (p.2:Int)))
def ix (L:List ByteArray) (s:ByteArray):Option Nat:=L.findIdx? (fun x=>decide (s = x))
def putL (L:List ByteArray) (s:ByteArray):List ByteArray:=if vName s then (match ix L s with | some _=>L | none=>L ++ [s]) else L
def putI (L:List ByteArray) (s:ByteArray):Int:=if vName s then (((ix L s).getD L.length:Nat):Int) else 0
def putE (s:ByteArray):Int:=if vName s then 0 else 2
theorem kv_idx (L:List ByteArray) (s:ByteArray) (k:Nat):((L.zipIdx k).map (fun p=>(p.1,Value.int .i64 (p.2:Int)))).findIdx? (fun p=>decide (s = p.1)) = ix L s:=by
 unfold ix
 induction L generalizing k with
 | nil=>rfl
 | cons a L ih =>
  simp only [List.zipIdx_cons,List.map_cons,List.findIdx?_cons];rw [ih (k + 1)]
theorem kv_get (L:List ByteArray) (i:Nat):(kvOf L)[i]? = (L[i]?).map (fun x=>(x,Value.int .i64 (i:Int))):=by
 unfold kvOf;rw [List.getElem?_map,List.getElem?_zipIdx];cases L[i]? <;> simp
theorem alIdx_kv (L:List ByteArray) (s:ByteArray):alIdx (kvOf L) s = ix L s:=kv_idx L s 0
theorem ix_lt {L:List ByteArray} {s:ByteArray} {i:Nat} (h:ix L s = some i):i < L.length∧L[i]? = some s:=by
 unfold ix at h;rw [List.findIdx?_eq_some_iff_getElem] at h;obtain ⟨hl,hk,_⟩:=h;have:=of_decide_eq_true hk;exact ⟨hl,by rw [List.getElem?_eq_getElem hl,← this]⟩
theorem alFind_kv (L:List ByteArray) (s:ByteArray):alFind (kvOf L) s = (ix L s).map (fun i=>Value.int .i64 (i:Int)):=by
 rw [← alFind_idx,alIdx_kv];cases h:ix L s with
 | none=>rfl
 | some i=>simp [kv_get,(ix_lt h).2]
theorem kv_snoc (L:List ByteArray) (s:ByteArray):kvOf (L ++ [s]) = kvOf L ++ [(s,.int .i64 (L.length:Int))]:=by
 unfold kvOf;rw [List.zipIdx_append];simp
structure Tab (w:World) (b:Nat) (L:List ByteArray) (m:Nat) (p:Option Addr) (c:Nat):Prop where
 blk:w.heap[b]? = some (.cells #[.map (some m),.slice p L.length c] 117 (0,0))
 map:MapIs Value.string w m (kvOf L)
 row:w.ownsRow 0 9 1 (.slice p L.length c) L.length (L.map Value.string)
 ne1:b ≠ m
 ne2:(Value.slice p L.length c).ownBlock ≠ some b
 ne3:(Value.slice p L.length c).ownBlock ≠ some m
def foot (b m:Nat) (p:Option Addr) (k:Nat):Prop:=k = b∨k = m∨∃ a,p = some a∧k = a.block
theorem own_slice {p:Option Addr} {n c:Nat} {k:Nat} (h:(Value.slice p n c).ownBlock = some k):∃ a,p = some a∧k = a.block:=by
 cases p with
 | none=>simp [Value.ownBlock] at h
 | some a=>simp [Value.ownBlock] at h;exact ⟨a,rfl,h.symm⟩
theorem Tab.lt {w:World} {b:Nat} {L:List ByteArray} {m:Nat} {p:Option Addr} {c:Nat} (h:Tab w b L m p c):∀ k,foot b m p k→k < w.heap.size:=by
 rintro k (rfl | rfl | ⟨a,rfl,rfl⟩)
 ·exact (Array.getElem?_eq_some_iff.1 h.blk).1
 ·exact h.map.lt
 ·exact (h.row.lt a.block rfl).2
theorem Tab.same {w w':World} {b:Nat} {L:List ByteArray} {m:Nat} {p:Option Addr} {c:Nat} (h:Tab w b L m p c) (hs:∀ k,foot b m p k→w'.heap[k]? = w.heap[k]?):Tab w' b L m p c where
 blk:=(hs b (.inl rfl)).trans h.blk
 map:=h.map.same (hs m (.inr (.inl rfl)))
 row:=row_same h.row (fun k hk=>hs k (.inr (.inr (own_slice hk))))
 ne1:=h.ne1
 ne2:=h.ne2
 ne3:=h.ne3
theorem Tab.touch {w w':World} {b:Nat} {L:List ByteArray} {m:Nat} {p:Option Addr} {c:Nat} (h:Tab w b L m p c) {S:Nat→Prop} (ht:TouchB S w w') (hS:∀ k,foot b m p k→¬ S k):Tab w' b L m p c :=
 h.same fun k hk=>ht.block k (h.lt k hk) (hS k hk)
theorem Tab.c0 {w:World} {b:Nat} {L:List ByteArray} {m:Nat} {p:Option Addr} {c:Nat} (h:Tab w b L m p c):w.cell? ⟨b,0,none⟩ = some (.map (some m)):=by
 simp [World.cell?,h.blk]
theorem Tab.c1 {w:World} {b:Nat} {L:List ByteArray} {m:Nat} {p:Option Addr} {c:Nat} (h:Tab w b L m p c):w.cell? ⟨b,1,none⟩ = some (.slice p L.length c):=by
 simp [World.cell?,h.blk]
theorem New (w:World):Calls Tryz.prog 14 #[] w fun e w'=>e = .returned (.pointer (some ⟨w.heap.size + 1,0,none⟩))∧Tab w' (w.heap.size + 1) [] w.heap.size none 0∧TouchB (fun _=>False) w w'∧w'.heap.size = w.heap.size + 2:=by
 have hmm:=@run_makeMap Tryz.prog;go_enter Tryz.func14,Tryz.ntmps14;go_wp2
 go_ret
 refine ⟨by simp,⟨?_,?_,?_,by omega,by simp [Value.ownBlock],by simp [Value.ownBlock]⟩,((TouchB.refl _ _).alloc _).alloc _,by simp⟩
 ·have:=(MapKept.heap_alloc (w.alloc (.map #[] 0)) (.cells #[.map (some w.heap.size),.slice none 0 0] 117)).1;simpa using this
 ·refine (MapIs.made Value.string w).same ?_;exact Below.heap_alloc _ _ _ (by simp)
 ·exact World.ownsRow_nil _ _ _ _
theorem made (b m:Nat) (w:World) (hc:w.cell? ⟨b,0,none⟩ = some (.map (some m))):Calls Tryz.prog 64 #[.pointer (some ⟨b,0,none⟩)] w fun e w'=>e = .returned (.bool true)∧w = w':=by
 have hn:=fun w=>run_neq_map_nil (P:=Tryz.prog) w 115 9 3 (some m) Tryz.underlying115;go_enter Tryz.func64,Tryz.ntmps64;go_wp2
 go_ret;exact ⟨rfl,rfl⟩
theorem zero3 (w:World):(zeroValue 3).run Tryz.prog w = .ok (.int .i64 0) w:=by kernel_rfl
theorem key9:KeyKind Tryz.prog 9 Value.string:=string_key Tryz.underlying9
theorem info9:(Tryz.prog.info? 9).map (fun i=>(i.zero,i.size,i.bytes)) = some (some (.string .empty),1,16):=by kernel_rfl
theorem add0 (g j:Nat):(⟨g,0,none⟩:Addr).add j = ⟨g,j,none⟩:=by
 unfold Addr.add;by_cases h:j = 0 <;> simp [h]
def findI (L:List ByteArray) (s:ByteArray):Int:=(((ix L s).getD 0:Nat):Int)
def findB (L:List ByteArray) (s:ByteArray):Bool:=(ix L s).isSome
theorem find_val (L:List ByteArray) (s:ByteArray):(alFind (kvOf L) s).getD (.int .i64 0) = .int .i64 (findI L s)∧(alFind (kvOf L) s).isSome = findB L s:=by
 rw [alFind_kv];unfold findI findB;cases ix L s <;> simp
theorem ret2i {k1 k2:IntKind} {x1 x2 y1 y2:Int} (h1:x1 = x2) (h2:y1 = y2) :
 Ending.returned (.tuple #[.int k1 x1,.int k2 y1]) = .returned (.tuple #[.int k1 x2,.int k2 y2]):=by rw [h1,h2]
section
variable (w:World) (b:Nat) (L:List ByteArray) (m:Nat) (p:Option Addr) (c:Nat) (hT:Tab w b L m p c)
include hT
theorem Len:Calls Tryz.prog 36 #[.pointer (some ⟨b,0,none⟩)] w fun e w'=>e = .returned (.int .i64 L.length)∧w = w':=by
 have h0:=hT.c0;have h1:=hT.c1;go_enter Tryz.func36,Tryz.ntmps36;go_wp2_with (go_at_call 64;refine (made b m _ h0).mono ?_;rintro e w' ⟨rfl,rfl⟩)
 go_ret;exact ⟨rfl,rfl⟩
def nameS (L:List ByteArray) (i:Int):ByteArray:=if 0 ≤ i then (L[i.toNat]?).getD .empty else .empty
def nameB (L:List ByteArray) (i:Int):Bool:=decide (0 ≤ i∧i < L.length)
omit hT in
theorem ret2s {s1 s2:ByteArray} {b1 b2:Bool} (h1:s1 = s2) (h2:b1 = b2) :
 Ending.returned (.tuple #[.string s1,.bool b1]) = .returned (.tuple #[.string s2,.bool b2]):=by rw [h1,h2]
theorem Name (i:Int) (h63:L.length ≤ maxLen):Calls Tryz.prog 196 #[.pointer (some ⟨b,0,none⟩),.int .i64 i] w fun e w'=>e = .returned (.tuple #[.string (nameS L i),.bool (nameB L i)])∧w = w':=by
 unfold maxLen at h63;have h0:=hT.c0;have h1:=hT.c1
 by_cases hi:i < 0
 ·go_enter Tryz.func196,Tryz.ntmps196;go_wp2_with (go_at_call 64;refine (made b m _ h0).mono ?_;rintro e w' ⟨rfl,rfl⟩)
  go_ret2
  exact ⟨ret2s (by unfold nameS;rw [if_neg (by omega)];rfl) (by unfold nameB;symm;rw [decide_eq_false_iff_not];omega),rfl⟩
 by_cases hj:(L.length:Int) ≤ i
 ·go_enter Tryz.func196,Tryz.ntmps196;go_wp2_with (go_at_call 64;refine (made b m _ h0).mono ?_;rintro e w' ⟨rfl,rfl⟩)
  go_ret2
  exact ⟨ret2s (by unfold nameS;rw [if_pos (by omega),List.getElem?_eq_none (by omega)];rfl) (by unfold nameB;symm;rw [decide_eq_false_iff_not];omega),rfl⟩
 obtain ⟨n,rfl⟩:=Int.eq_ofNat_of_zero_le (Int.not_lt.1 hi);have hn:n < L.length:=by omega
 obtain ⟨hl,h | ⟨g,cap,cur,hv,hb,hh,r⟩⟩:=hT.row
 ·exfalso;omega
 obtain ⟨rfl,rfl⟩:p = some ⟨g,0,none⟩∧c = cap:=by simpa using hv
 have hc:=hT.row.cells (g:=g) rfl n (.string L[n]) (by simp [hn]);rw [add0] at hc;go_enter Tryz.func196,Tryz.ntmps196;go_wp2_with (go_at_call 64;refine (made b m _ h0).mono ?_;rintro e w' ⟨rfl,rfl⟩)
 go_ret2
 exact ⟨ret2s (by unfold nameS;rw [if_pos (by omega)];simp [hn]) (by unfold nameB;symm;rw [decide_eq_true_eq];omega),rfl⟩
end
theorem Tab.below {w w':World} {b:Nat} {L:List ByteArray} {m:Nat} {p:Option Addr} {c:Nat} (h:Tab w b L m p c) (hb:Below w.heap.size w w'):Tab w' b L m p c :=
 h.same fun k hk=>hb.block k (h.lt k hk)
theorem TouchB.ofB {S:Nat→Prop} {w w':World} (hb:Below w.heap.size w w'):TouchB S w w':=(TouchB.refl S w).ofBelow hb (Nat.le_refl _)
theorem one_new (w:World) (x:Value) (t:TypeId):∀ (j:Nat) (u:Value),[x][j]? = some u→(w.alloc (.cells #[x] t)).cell? ((⟨w.heap.size,0,none⟩:Addr).add j) = some u:=by
 intro j u hju;cases j with
 | zero=>simp at hju;subst hju;rw [add0];simp [World.cell?_alloc_new]
 | succ j=>simp at hju
theorem one_cell (s:ByteArray):∀ u ∈ [Value.string s],u.oneCell' = true:=by
 intro u hu;simp at hu;subst hu;rfl
theorem row_shape {w:World} {base:Nat} {e:TypeId} {size:Nat} {v:Value} {n:Nat} {xs:List Value} (h:w.ownsRow base e size v n xs):∃ p c,v = .slice p n c:=by
 obtain ⟨_,⟨rfl,rfl⟩ | ⟨g,cap,cur,rfl,_⟩⟩:=h
 ·exact ⟨_,_,rfl⟩
 ·exact ⟨_,_,rfl⟩
theorem block_setCell (w:World) (b:Nat) (c:Array Value) (t:TypeId) (f:Nat × Nat) (o:Nat) (v:Value) (h:w.heap[b]? = some (.cells c t f)) :
 (w.setCell ⟨b,o,none⟩ v).heap[b]? = some (.cells (c.setIfInBounds o v) t f):=by
 simp [World.setCell,Array.getElem?_modify,h]
theorem look {w:World} {b:Nat} {L:List ByteArray} {m:Nat} {p:Option Addr} {c:Nat} (hT:Tab w b L m p c) (s:ByteArray) :
 (Instr.lookup 115 (.map (some m)) (.string s) true).run Tryz.prog w = .ok (.tuple #[.int .i64 (findI L s),.bool (findB L s)]) w:=by
 have hl:=run_lookup_ok key9 Tryz.underlying115 hT.map s (zero3 w);rw [(find_val L s).1,(find_val L s).2] at hl;exact hl
theorem grown_blk {w1 w2 w3:World} {b:Nat} {L:List ByteArray} {m:Nat} {p:Option Addr} {c:Nat} {x:Obj} (hT1:Tab w1 b L m p c) (ht2:TouchB (fun i=>i = m) w1 w2) (hg:(w2.alloc x).grownBy w3 (Value.slice p L.length c).ownBlock) :
 w3.heap[b]? = some (.cells #[.map (some m),.slice p L.length c] 117 (0,0)):=by
 have hb:=hT1.lt b (.inl rfl);have h2:=(ht2.block b hb hT1.ne1).trans hT1.blk;have hb2:b < w2.heap.size:=Nat.lt_of_lt_of_le hb ht2.size;rw [hg.block b (by simp;omega) (fun e=>hT1.ne2 e.symm),Below.heap_alloc _ _ _ hb2];exact h2
theorem grown_cells {w3:World} {b:Nat} {L:List ByteArray} {m:Nat} {p:Option Addr} {c:Nat} (h:w3.heap[b]? = some (.cells #[.map (some m),.slice p L.length c] 117 (0,0))) :
 w3.cell? ⟨b,1,none⟩ = some (.slice p L.length c)∧w3.frozen? ⟨b,1,none⟩ = false:=by
 simp [World.cell?,World.frozen?,h]
theorem put_end {w w1 w2 w3:World} {b:Nat} {L:List ByteArray} {m:Nat} {p:Option Addr} {c:Nat} {s:ByteArray} {x:Obj} {v3:Value} (hT:Tab w b L m p c) (hb:Below w.heap.size w w1) (hT1:Tab w1 b L m p c) (hx:ix L s = none)
 (hm2:MapIs Value.string w2 m (alPut (kvOf L) s (.int .i64 (L.length:Int)))) (ht2:TouchB (fun i=>i = m) w1 w2) (hz:w2.heap.size = w1.heap.size)
 (hg:(w2.alloc x).grownBy w3 (Value.slice p L.length c).ownBlock) (hown:w3.ownsRow 0 9 1 v3 (L.length + 1) (L.map Value.string ++ [.string s])) (hat:v3.ownBlock = (Value.slice p L.length c).ownBlock∨v3.ownBlock = some (w2.alloc x).heap.size) :
 ∃ p' c',Tab (w3.setCell ⟨b,1,none⟩ v3) b (L ++ [s]) m p' c'∧TouchB (foot b m p) w (w3.setCell ⟨b,1,none⟩ v3)∧∀ k,foot b m p' k→foot b m p k∨w.heap.size ≤ k:=by
 obtain ⟨p3,c3,rfl⟩:=row_shape hown;have hlen:(L ++ [s]).length = L.length + 1:=by simp
 have hblk:=grown_blk hT1 ht2 hg;have hbs:=hT.lt b (.inl rfl);have hms:=hT.lt m (.inr (.inl rfl));have s1:=hb.size;have hg':∀ k,k < w.heap.size→k ≠ m→(Value.slice p L.length c).ownBlock ≠ some k→w3.heap[k]? = w.heap[k]?:=by
  intro k hk h1 h2;rw [hg.block k (by simp;omega) (fun e=>h2 e.symm),Below.heap_alloc _ _ _ (by omega),ht2.block k (by omega) h1,hb.block k hk]
 have hown':∀ k,(Value.slice p3 (L.length + 1) c3).ownBlock = some k→(Value.slice p L.length c).ownBlock = some k∨w.heap.size ≤ k:=by
  intro k hk
  rcases hat with h | h
  ·exact .inl (h ▸ hk)
  ·rw [h] at hk;simp at hk;exact .inr (by omega)
 have hne2:(Value.slice p3 (L.length + 1) c3).ownBlock ≠ some b:=fun e=>by
  rcases hown' b e with h | h
  ·exact hT.ne2 h
  ·omega
 have hne3:(Value.slice p3 (L.length + 1) c3).ownBlock ≠ some m:=fun e=>by
  rcases hown' m e with h | h
  ·exact hT.ne3 h
  ·omega
 refine ⟨p3,c3,⟨?_,?_,?_,hT.ne1,by rw [hlen];exact hne2,by rw [hlen];exact hne3⟩,?_,?_⟩
 ·rw [block_setCell _ _ _ _ _ _ _ hblk,hlen];rfl
 ·have e1:alPut (kvOf L) s (.int .i64 (L.length:Int)) = kvOf (L ++ [s]):=by
   unfold alPut;rw [alIdx_kv,hx,kv_snoc]
  rw [← e1];refine hm2.same ?_;rw [Below.heap_setCell _ _ _ _ (fun e=>hT.ne1 e.symm),hg.block m (by simp;omega) (fun e=>hT.ne3 e.symm),Below.heap_alloc _ _ _ (by omega)]
 ·rw [hlen,List.map_append];refine row_same hown (fun k hk=>?_);rw [Below.heap_setCell _ _ _ _ (fun e=>hne2 (by rw [hk,e]))]
 ·refine ⟨hg.os.trans (ht2.os.trans hb.os),hg.tape.trans (ht2.tape.trans hb.tape),hg.output.trans (ht2.output.trans hb.output),?_,?_⟩
  ·have:=hg.size;simp at this ⊢;omega
  ·intro k hk hn;rw [Below.heap_setCell _ _ _ _ (fun e=>hn (.inl e))];refine hg' k hk (fun e=>hn (.inr (.inl e))) (fun e=>hn (.inr (.inr (own_slice e))))
 ·rintro k (rfl | rfl | ⟨a,rfl,rfl⟩)
  ·exact .inl (.inl rfl)
  ·exact .inl (.inr (.inl rfl))
  ·rcases hown' a.block rfl with h | h
   ·exact .inl (.inr (.inr (own_slice h)))
   ·exact .inr h
section
variable (w:World) (b:Nat) (L:List ByteArray) (m:Nat) (p:Option Addr) (c:Nat) (hT:Tab w b L m p c)
include hT
theorem Put (s:ByteArray) (hL:L.length < 1000000):Calls Tryz.prog 16 #[.pointer (some ⟨b,0,none⟩),.string s] w fun e w'=>e = .returned (.tuple #[.int .i64 (putI L s),.int .i64 (putE s)]) ∧
 ∃ p' c',Tab w' b (putL L s) m p' c'∧TouchB (foot b m p) w w'∧∀ k,foot b m p' k→foot b m p k∨w.heap.size ≤ k:=by
 have h0:=hT.c0
 cases hv:vName s
 ·go_enter Tryz.func16,Tryz.ntmps16;go_wp2_with (first | (go_at_call 64;refine (made b m _ h0).mono ?_;rintro e w' ⟨rfl,rfl⟩) | (go_at_call 65;refine (Valid s _).mono ?_;rintro e w1 ⟨rfl,hb⟩))
  go_ret2
  refine ⟨ret2i (by unfold putI;rw [hv];rfl) (by unfold putE;rw [hv];rfl),p,c,?_,TouchB.ofB hb,fun k hk=>.inl hk⟩;unfold putL;rw [hv];exact hT.below hb
 cases hx:ix L s with
 | some i =>
  have hfi:findI L s = i:=by unfold findI;rw [hx];rfl
  have hfb:findB L s = true:=by unfold findB;rw [hx];rfl
  have Hx:=Lib.hid hx;clear hx;have Hi:=Lib.hid hfi;clear hfi;go_enter Tryz.func16,Tryz.ntmps16;go_wp2_with (first | (go_at_call 64;refine (made b m _ h0).mono ?_;rintro e w' ⟨rfl,rfl⟩) | (go_at_call 65;refine (Valid s _).mono ?_;rintro e w1 ⟨rfl,hb⟩;have hT1:=hT.below hb;have h01:=hT1.c0;have h11:=hT1.c1;have hl:=look hT1 s))
  go_ret2
  refine ⟨ret2i (by unfold putI;rw [if_pos hv,Hx.out,Hi.out];rfl) (by unfold putE;rw [hv];rfl),p,c,?_,TouchB.ofB hb,fun k hk=>.inl hk⟩;unfold putL;rw [if_pos hv,Hx.out];exact hT1
 | none =>
  have hfi:findI L s = 0:=by unfold findI;rw [hx];rfl
  have hfb:findB L s = false:=by unfold findB;rw [hx];rfl
  have Hx:=Lib.hid hx;clear hx;obtain ⟨i0,hi,hz0,hz1,hz2⟩:=info_parts info9;have hcap:0 < c∨c = 0:=by omega
  go_enter Tryz.func16,Tryz.ntmps16
  go_wp2_with (first | (go_at_call 64;refine (made b m _ h0).mono ?_;rintro e w' ⟨rfl,rfl⟩) | (go_at_call 65;refine (Valid s _).mono ?_;rintro e w1 ⟨rfl,hb⟩;have hT1:=hT.below hb;have h01:=hT1.c0;have h11:=hT1.c1;have hl:=look hT1 s) | (at_mapUpdate;refine wpList_mapUpdate_al _ rfl _ _ _ 115 rfl key9 Tryz.underlying115 m (kvOf L) hT1.map s (.int .i64 (L.length:Int)) rfl rfl rfl ?_;intro w2 hm2 ht2 hz2';have HZ:=Lib.hid hz2';clear hz2';have h02:=(ht2.cell (p:=⟨b,0,none⟩) (hT1.lt b (.inl rfl)) hT1.ne1).trans h01;have h12:=(ht2.cell (p:=⟨b,1,none⟩) (hT1.lt b (.inl rfl)) hT1.ne1).trans h11;have hr2:=row_same (w':=w2) hT1.row (fun k hk=>ht2.block k (hT1.row.lt k hk).2 (fun e=>hT1.ne3 (e ▸ hk)))) | (at_builtin;refine wpList_append_own_at _ rfl _ _ 83 rfl 0 9 i0 (.string .empty) 1 16 Tryz.underlying83 hi hz0 hz1 hz2 rfl (by decide) (.slice p L.length c) L.length (L.map Value.string) rfl (hr2.alloc _) ⟨w2.heap.size,0,none⟩ 1 1 [.string s] rfl rfl (one_new _ _ _) (one_cell s) (by unfold maxLen;omega) (by omega) (Nat.zero_le _) ?_;intro v3 w3 hown3 hg3 _ hat3;obtain ⟨p3,c3,rfl⟩:=row_shape hown3;have h13:=grown_blk hT1 ht2 hg3;obtain ⟨h13c,h13f⟩:=grown_cells h13;have H13:=Lib.hid h13;clear h13))
  go_ret2
  refine ⟨ret2i (by unfold putI;rw [if_pos hv,Hx.out];rfl) (by unfold putE;rw [hv];rfl),?_⟩;have hL':putL L s = L ++ [s]:=by unfold putL;rw [if_pos hv,Hx.out]
  rw [hL'];exact put_end hT hb hT1 Hx.out hm2 ht2 HZ.out hg3 hown3 hat3
end
end names
end Go.Proofs.YtpnlnbolhkcnjaaGreat
