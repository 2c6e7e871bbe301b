/- HpF,HpG,HpH. No condition beyond theirs. -/
import Derived.Test.YtpnlnbolhkcnjaaGreatK13
import Derived.Test.YtpnlnbolhkcnjaaGreatK06
set_option linter.unusedSimpArgs false
set_option linter.unusedVariables false
set_option maxHeartbeats 4000000
set_option maxRecDepth 100000
namespace Go.Proofs.YtpnlnbolhkcnjaaGreat.hp
open Go.RowKit mem words rec
theorem Step.then {B z a b:Nat} {c:Int} {vY vF vY1 vF1:Value} {w w1 w2:World} {Y2:List Int} {F2:List Bool} (t1:TouchB (HB z vY vF) w w1) (c1:∀ k,HB z vY1 vF1 k→k < w.heap.size→HB z vY vF k) (h2:Step B z a b c vY1 vF1 w1 Y2 F2 w2):Step B z a b c vY vF w Y2 F2 w2:=by
 obtain ⟨vY2,vF2,h3,t2,c2⟩:=h2;exact ⟨vY2,vF2,h3,t1.trans t2 (fun i hi h=>c1 i h hi),fun k hk hl=>c1 k (c2 k hk (Nat.lt_of_lt_of_le hl t1.size)) hl⟩
theorem words_at {w:World} {base:Nat} {v:Value} {l:List Int} (h:RecOwn encW 40 1 w base v l) (h0:0 < l.length):∃ g c,v = .slice (some ⟨g,0,none⟩) l.length c∧base ≤ g∧g < w.heap.size∧∀ j x,l[j]? = some x→w.cell? ⟨g,j,none⟩ = some (.int .u64 x):=by
 obtain ⟨p,c,rfl,_,_⟩:=h.shape;have hr:=h.row (encW_ok l);obtain ⟨g,o,rfl,_,_,hc⟩:=hr.nth h0;have ho:o = 0:=by
  rcases h.2 with ⟨e,_⟩ | ⟨g',cap,cur,e,_⟩
  ·simp at e
  ·simp only [Value.slice.injEq,Option.some.injEq,Addr.mk.injEq,and_true] at e;exact e.1.2
 subst ho;obtain ⟨hb1,hb2⟩:=h.lt (k:=g) rfl;refine ⟨g,c,rfl,hb1,hb2,fun j x hj=>?_⟩;have:=hc j x hj 0 (.int .u64 x) rfl;simpa using this
abbrev flatC9 (g:Nat):Array Value:=#[.int .i64 9,.int .i64 0,.int .i64 0,.string ⟨#[]⟩,.string ⟨#[]⟩,.int .i64 0,.slice (some ⟨g,0,none⟩) 3 3,.string ⟨#[]⟩,.int .i64 0]
theorem putL {w:World} {B z a b g:Nat} {c:Int} {vY vF:Value} (h:HA w B z a b c vY vF [] []) (hg:w.heap[g]? = some (.cells aw3 38)) :
 Calls Tryz.prog 69 #[.pointer (some ⟨z,0,none⟩),listT g] w fun e w'=>e = .returned (.int .u64 17)∧Step B z a b c vY vF w [19,11,19,1] [true,false,true,false] w':=by
 have HR:=Lib.hid (fun W (hb:Below w.heap.size w W)=>aw3_range (w:=W) ((hb.block g (Array.getElem?_eq_some_iff.1 hg).1).trans hg));have HI:=Lib.hid (fun W=>(show smallW 1 = 19 by decide) ▸ putInt W (some ⟨z,0,none⟩) 1 (by omega) (by omega) (by decide));have HN:=Lib.hid (fun W=>putNil W (some ⟨z,0,none⟩) 0);have HH:=Lib.hid h;have hmk:∀ W:World,(Instr.makeSlice 22 (.int .i64 0) (.int .i64 3)).run Tryz.prog W = .ok (.slice (some ⟨W.heap.size,0,none⟩) 0 3) (W.alloc (.cells (mkc 3) 40)):=fun W=>mk22 W 3 (by omega);clear hg h;go_enter Tryz.func69,Tryz.ntmps69;go_wp2_with fail
 have hbx:=heap_alloc_new w (.cells (flatC9 g) 38);have hbw:Below w.heap.size w (w.alloc (.cells (flatC9 g) 38)):=belowA (Below.refl _ w) _;have hsw:(w.alloc (.cells (flatC9 g) 38)).heap.size = w.heap.size + 1:=World.size_alloc _ _;have O0:Hid (RecOwn encW 40 1 ((w.alloc (.cells (flatC9 g) 38)).alloc (.cells (mkc 3) 40)) (w.alloc (.cells (flatC9 g) 38)).heap.size (.slice (some ⟨w.heap.size + 1,0,none⟩) 0 3) []):=Lib.hid (by
  have:=World.ownsRow_made (e:=40) (size:=1) (base:=(w.alloc (.cells (flatC9 g) 38)).heap.size) (w.alloc (.cells (flatC9 g) 38)) (mkc 3) 3 (Nat.le_refl _) (by unfold maxLen;omega) (by rw [mkc_size])
  rw [hsw] at this
  rw [hsw]
  exact this)
 generalize w.alloc (.cells (flatC9 g) 38) = w1 at *;have HB0:=Lib.hid (show Below w1.heap.size w1 (w1.alloc (.cells (mkc 3) 40)) from belowA (Below.refl _ w1) _);have HR:=Lib.hid (fun W (hb:Below w1.heap.size w1 W)=>HR.out W (hbw.trans (hb.mono hbw.size)));have HX:=Lib.hid (fun W (hb:Below w1.heap.size w1 W)=>(hb.block w.heap.size (by omega)).trans hbx);have HBW:=Lib.hid hbw;have HSW:=Lib.hid hsw;clear hbx hbw hsw;generalize w1.alloc (.cells (mkc 3) 40) = W0 at *;generalize (Value.slice (some ⟨w.heap.size + 1,0,none⟩) 0 3) = v0 at *;refine wp_loop_rounds 4 ?_;rw [rounds_succ]
 go_wp2_with (refine wpList_load_mid rfl 38 (.tmp 19) rfl g 0 rfl (flatL 1 1) _ (HR.out _ HB0.out).1 Tryz.underlying38 rfl (by kernel_rfl) ?_)
 refine (HI.out _).mono ?_;rintro e V0 ⟨rfl,hv⟩;have hbx:Below W0.heap.size W0 V0:=(belowA (Below.refl _ W0) _).trans (hv.mono (belowA (Below.refl _ W0) _).size);have hby:=belowA hbx (.cells #[.int .u64 19] 40);have hbw:=HB0.out.trans (hby.mono HB0.out.size);have OA:Hid (RecOwn encW 40 1 (V0.alloc (.cells #[.int .u64 19] 40)) w1.heap.size v0 []):=Lib.hid (O0.out.below hby)
 have RA:Hid (RecAt encW 1 (V0.alloc (.cells #[.int .u64 19] 40)) (V0.heap.size + 1) (.slice (some ⟨V0.heap.size,0,none⟩) 1 1) [19]):=Lib.hid (RecAt.fresh (encW_ok [19]) (by decide) (heap_alloc_new V0 _) (Nat.le_refl 1) (by unfold maxLen;omega));have hsz:=hbw.size;have HBn:=Lib.hid hbw;have HBb:=Lib.hid hsz;clear hv hbx hby hbw hsz;go_wp2_with (refine wpList_append_rec (enc:=encW) elW rfl (.tmp 21) (.tmp 25) rfl rfl (base:=w1.heap.size) (l:=[]) OA.out HBb.out (B:=V0.heap.size + 1) (xs:=[19]) rfl RA.out (encW_ok _) (by decide) ?_)
 intro v1 W1 hA;have O1:Hid (RecOwn encW 40 1 W1 w1.heap.size v1 [19]):=Lib.hid hA.own;have HB1:=Lib.hid (hA.belowB HBn.out HBb.out (fun k hk=>(OA.out.lt hk).1));clear hA OA RA HBn HBb O0 HB0;go_wp2_with fail;rw [rounds_succ];go_wp2_with (refine wpList_load_mid rfl 38 (.tmp 19) rfl g 9 rfl (flatL 1 1) _ (HR.out _ HB1.out).2.1 Tryz.underlying38 rfl (by kernel_rfl) ?_)
 refine (HI.out _).mono ?_;rintro e V1 ⟨rfl,hv⟩;have hbx:Below W1.heap.size W1 V1:=(belowA (Below.refl _ W1) _).trans (hv.mono (belowA (Below.refl _ W1) _).size);have hby:=belowA hbx (.cells #[.int .u64 19] 40);have hbw:=HB1.out.trans (hby.mono HB1.out.size);have OA:Hid (RecOwn encW 40 1 (V1.alloc (.cells #[.int .u64 19] 40)) w1.heap.size v1 [19]):=Lib.hid (O1.out.below hby)
 have RA:Hid (RecAt encW 1 (V1.alloc (.cells #[.int .u64 19] 40)) (V1.heap.size + 1) (.slice (some ⟨V1.heap.size,0,none⟩) 1 1) [19]):=Lib.hid (RecAt.fresh (encW_ok [19]) (by decide) (heap_alloc_new V1 _) (Nat.le_refl 1) (by unfold maxLen;omega));have hsz:=hbw.size;have HBn:=Lib.hid hbw;have HBb:=Lib.hid hsz;clear hv hbx hby hbw hsz;go_wp2_with (refine wpList_append_rec (enc:=encW) elW rfl (.tmp 21) (.tmp 25) rfl rfl (base:=w1.heap.size) (l:=[19]) OA.out HBb.out (B:=V1.heap.size + 1) (xs:=[19]) rfl RA.out (encW_ok _) (by decide) ?_)
 intro v2 W2 hA;have O2:Hid (RecOwn encW 40 1 W2 w1.heap.size v2 [19,19]):=Lib.hid hA.own;have HB2:=Lib.hid (hA.belowB HBn.out HBb.out (fun k hk=>(OA.out.lt hk).1));clear hA OA RA HBn HBb O1 HB1;go_wp2_with fail;rw [rounds_succ];go_wp2_with (refine wpList_load_mid rfl 38 (.tmp 19) rfl g 18 rfl (flatL 8 0) _ (HR.out _ HB2.out).2.2 Tryz.underlying38 rfl (by kernel_rfl) ?_)
 refine (HN.out _).mono ?_;rintro e V2 ⟨rfl,hv⟩;have hbx:Below W2.heap.size W2 V2:=(belowA (Below.refl _ W2) _).trans (hv.mono (belowA (Below.refl _ W2) _).size);have hby:=belowA hbx (.cells #[.int .u64 11] 40);have hbw:=HB2.out.trans (hby.mono HB2.out.size);have OA:Hid (RecOwn encW 40 1 (V2.alloc (.cells #[.int .u64 11] 40)) w1.heap.size v2 [19,19]):=Lib.hid (O2.out.below hby)
 have RA:Hid (RecAt encW 1 (V2.alloc (.cells #[.int .u64 11] 40)) (V2.heap.size + 1) (.slice (some ⟨V2.heap.size,0,none⟩) 1 1) [11]):=Lib.hid (RecAt.fresh (encW_ok [11]) (by decide) (heap_alloc_new V2 _) (Nat.le_refl 1) (by unfold maxLen;omega));have hsz:=hbw.size;have HBn:=Lib.hid hbw;have HBb:=Lib.hid hsz;clear hv hbx hby hbw hsz;go_wp2_with (refine wpList_append_rec (enc:=encW) elW rfl (.tmp 21) (.tmp 25) rfl rfl (base:=w1.heap.size) (l:=[19,19]) OA.out HBb.out (B:=V2.heap.size + 1) (xs:=[11]) rfl RA.out (encW_ok _) (by decide) ?_)
 intro v3 W3 hA;have O3:Hid (RecOwn encW 40 1 W3 w1.heap.size v3 [19,19,11]):=Lib.hid hA.own;have HB3:=Lib.hid (hA.belowB HBn.out HBb.out (fun k hk=>(OA.out.lt hk).1));clear hA OA RA HBn HBb O2 HB2;go_wp2_with fail;have hb3:=HBW.out.trans (HB3.out.mono HBW.out.size);have hH3:=HH.out.below hb3;obtain ⟨gi,ci,ev,hi1,hi2,hic⟩:=words_at O3.out (by decide);have hng:Hid (¬ HB z vY vF gi):=Lib.hid (by
  have hzl:=(Array.getElem?_eq_some_iff.1 HH.out.blk).1
  have:=HSW.out
  rintro (e | e | e)
  ·omega
  ·have:=(HH.out.y.lt e).2;omega
  ·have:=(HH.out.f.lt e).2;omega)
 have ev':v3 = .slice (some ⟨gi,0,none⟩) 3 ci:=ev;clear ev;subst ev';have x0:W3.cell? ⟨gi,0,none⟩ = some (.int .u64 19):=hic 0 19 rfl;have x1:W3.cell? ⟨gi,1,none⟩ = some (.int .u64 19):=hic 1 19 rfl;have x2:W3.cell? ⟨gi,2,none⟩ = some (.int .u64 11):=hic 2 11 rfl
 have HC1:Hid (Calls Tryz.prog 100 #[.pointer (some ⟨z,0,none⟩),.int .u64 19,.int .u64 11] W3 fun e w'=>e = .returned (.int .u64 1)∧Step B z a b c vY vF W3 [19,11] [true,false] w') :=
  Lib.hid ((cell100 hH3 rfl 19 11 (by decide)).mono fun e w' h=>⟨h.1.trans (congrArg (fun q=>Ending.returned (.int .u64 q)) (show ptrW 1 false ((0:Nat):Int) = 1 by decide)),h.2⟩)
 have HG:=Lib.hid hi2;have HB4:=Lib.hid hb3;have b0:W3.cell? ⟨w.heap.size,0,none⟩ = some (.int .i64 9):=(cell_of_blk (HX.out _ HB3.out)).trans rfl;clear O3 hH3 hic hi1 hi2 hb3;rw [rounds_succ];go_wp2_with fail;refine wp_loop_rounds 3 ?_;rw [rounds_succ];go_wp2_with fail;refine HC1.out.mono ?_;rintro e W4 ⟨rfl,hS⟩;obtain ⟨vY1,vF1,hA4,t4,c4⟩:=hS;have y0:W4.cell? ⟨gi,0,none⟩ = some (.int .u64 19):=(t4.cell (p:=⟨gi,0,none⟩) HG.out hng.out).trans x0
 have HC2:Hid (Calls Tryz.prog 100 #[.pointer (some ⟨z,0,none⟩),.int .u64 19,.int .u64 1] W4 fun e w'=>e = .returned (.int .u64 17)∧Step B z a b c vY1 vF1 W4 [19,11,19,1] [true,false,true,false] w') :=
  Lib.hid ((cell100 hA4 rfl 19 1 (by decide)).mono fun e w' h=>⟨h.1.trans (congrArg (fun q=>Ending.returned (.int .u64 q)) (show ptrW 1 false ((2:Nat):Int) = 17 by decide)),h.2⟩)
 have HT:=Lib.hid t4;have HK:=Lib.hid c4;clear hA4 t4 c4 x0 x1 x2 HC1;go_wp2_with fail;rw [rounds_succ];go_wp2_with fail;refine HC2.out.mono ?_;rintro e W5 ⟨rfl,hS⟩;have HS:=Lib.hid (Step.of_below HB4.out (Step.then HT.out HK.out hS));clear hS HC2 y0;go_wp2_with fail;rw [rounds_succ];go_wp2_with fail;go_ret;exact ⟨rfl,HS.out⟩
theorem row_words {w:World} {B:Nat} {v:Value} {l:List Int} (h:RecAt encW 1 w B v l):cl.WAt w B v l:=by
 obtain ⟨p,c,e,h1,h2,h3⟩:=h;refine ⟨p,c,e,h1,h2,fun hn=>?_⟩;obtain ⟨g,o,e',hg,hc⟩:=h3 hn;exact ⟨g,o,e',hg,fun j hj=>by simpa using hc j _ (List.getElem?_eq_getElem hj) 0 _ rfl⟩
theorem row_flags {w:World} {B:Nat} {v:Value} {l:List Bool} (h:RecAt encF 1 w B v l):cl.FAt w B v l:=by
 obtain ⟨p,c,e,h1,h2,h3⟩:=h;refine ⟨p,c,e,h1,h2,fun hn=>?_⟩;obtain ⟨g,o,e',hg,hc⟩:=h3 hn;exact ⟨g,o,e',hg,fun j hj=>by simpa using hc j _ (List.getElem?_eq_getElem hj) 0 _ rfl⟩
def m1:cl.Mm:=⟨[19,11,19,1],[],0⟩
def K1:cl.Bk:=⟨[[19,11],[19,1]],[]⟩
abbrev F1:List Bool:=[true,false,true,false]
theorem heap_in {w:World} {B z a b:Nat} {c:Int} {vY vF:Value} (h:HA w B z a b c vY vF [19,11,19,1] F1):cl.HeapIn w w.heap.size z m1 K1:=by
 refine ⟨⟨⟨vY,vF,(cell_of_blk h.blk).trans rfl,(cell_of_blk h.blk).trans rfl,row_words (h.y.row (encW_ok _)),?_⟩,?_,?_,by decide⟩,⟨⟨.slice none 0 0,.slice none 0 0,(cell_of_blk h.blk).trans rfl,(cell_of_blk h.blk).trans rfl,?_,?_⟩,?_,?_,by decide⟩⟩
 ·have:=row_flags (h.f.row (encF_ok _));exact this
 ·refine ⟨rfl,?_⟩;intro o ho;simp only [K1,List.mem_cons,List.not_mem_nil,or_false] at ho
  rcases ho with rfl | rfl
  ·exact ⟨19,[11],rfl,by decide,by decide⟩
  ·exact ⟨19,[1],rfl,by decide,by decide⟩
 ·intro x hx;simp only [m1,List.mem_cons,List.not_mem_nil,or_false] at hx;rcases hx with rfl | rfl | rfl | rfl <;> decide
 ·exact ⟨none,0,rfl,Nat.le_refl _,by unfold maxLen;omega,fun h=>absurd rfl h⟩
 ·exact ⟨none,0,rfl,Nat.le_refl _,by unfold maxLen;omega,fun h=>absurd rfl h⟩
 ·exact ⟨rfl,fun o ho=>by simp [K1] at ho⟩
 ·intro x hx;simp [m1] at hx
theorem pt17:cl.Pt K1 17 [19,1]:=⟨by decide,.inr ⟨by decide,.inl ⟨by decide,rfl⟩⟩,by decide⟩
theorem pt1:cl.Pt K1 1 [19,11]:=⟨by decide,.inl ⟨by decide,rfl⟩,by decide⟩
theorem no11:¬ ∃ x,cl.Pt K1 11 x:=by
 rintro ⟨x,h,_⟩;revert h;decide
theorem is17 {w:World} {B z a b:Nat} {c:Int} {vY vF:Value} (h:HA w B z a b c vY vF [19,11,19,1] F1) :
 Calls Tryz.prog 85 #[.pointer (some ⟨z,0,none⟩),.int .u64 17] w fun e w'=>e = .returned (.bool true)∧Below w.heap.size w w':=by
 have HM:=Lib.hid (made66 h)
 have HT:Hid (Calls Tryz.prog 134 #[.pointer (some ⟨z,0,none⟩),.int .u64 17] w fun e w'=>e = .returned (.bool true)∧Below w.heap.size w w') :=
  Lib.hid ((cl.term115 w w.heap.size z m1 K1 (heap_in h) 17 (by omega) (by omega)).mono fun e w' h=>by
   obtain ⟨n,rfl,b,rfl,hb⟩:=h
   exact ⟨by rw [hb.2 (.inr (.inr (.inr ⟨_,pt17⟩)))],⟨rfl,rfl,rfl,Nat.le_refl _,fun _ _=>rfl⟩⟩)
 have HA':=Lib.hid (fun W=>words.AtomOf 17 (by omega) (by omega) W);have e1:aoOk 17 = false:=by decide
 have e2:aoN 17 = 0:=by decide
 rw [e1,e2] at HA';clear h e1 e2;go_enter Tryz.func85,Tryz.ntmps85;go_wp2_with fail;refine HM.out.mono ?_;rintro e w1 ⟨rfl,rfl⟩;go_wp2_with fail;refine HT.out.mono ?_;rintro e w1 ⟨rfl,hb⟩;have HB:=Lib.hid hb;clear hb;go_wp2_with fail;refine (HA'.out _).mono ?_;rintro e w2 ⟨rfl,rfl⟩;go_wp2_with fail;go_ret;exact ⟨rfl,HB.out⟩
theorem int153 (w:World) (n:Int):Calls Tryz.prog 153 #[.int .i64 n] w fun e w'=>e = .returned (flatT 1 n)∧Below w.heap.size w w':=by
 have HB:=Lib.hid (fun o=>belowA (Below.refl _ w) o);go_enter Tryz.func153,Tryz.ntmps153;go_wp2_with fail;exact bodyPost_ret (v:=flatT 1 n) (by simp [results,Tryz.results153,go_sem, *]) rfl ⟨rfl,HB.out _⟩
theorem nil155 (w:World):Calls Tryz.prog 155 #[] w fun e w'=>e = .returned (flatT 8 0)∧Below w.heap.size w w':=by
 have HB:=Lib.hid (fun o=>belowA (Below.refl _ w) o);go_enter Tryz.func155,Tryz.ntmps155;go_wp2_with fail;exact bodyPost_ret (v:=flatT 8 0) (by simp [results,Tryz.results155,go_sem, *]) rfl ⟨rfl,HB.out _⟩
section
variable {w:World} {B z a b:Nat} {c:Int} {vY vF:Value}
def ObY (l:List Int) (w:World) (e:Ending) (w':World):Prop:=∃ u,e = .returned (.tuple #[.int .i64 0,u,.bool true])∧cl.WAt w' w.heap.size u l∧Below w.heap.size w w'
theorem obj_at (h:HA w B z a b c vY vF [19,11,19,1] F1) {v:Int} {x:List Int} (v0:0 ≤ v) (v1:v ≤ 18446744073709551615) (hp:cl.Pt K1 v x) (hk:cl.knd x = 0) (hw:cl.wds x = x) :
 Calls Tryz.prog 75 #[.pointer (some ⟨z,0,none⟩),.int .u64 v] w (ObY x w) :=
 (cl.object96 w w.heap.size z m1 K1 (heap_in h) v v0 v1).mono fun e w' hh=>by
   obtain ⟨n,rfl,⟨y,u,hy,rfl,hu⟩ | ⟨hn,_⟩⟩:=hh
   ·obtain rfl:=cl.Pt.uniq (heap_in h).pos hy hp;rw [hw] at hu;exact ⟨u,by rw [hk],hu.drewN n,⟨rfl,rfl,rfl,Nat.le_refl _,fun _ _=>rfl⟩⟩
   ·exact absurd ⟨x,hp⟩ hn
theorem obj_no (h:HA w B z a b c vY vF [19,11,19,1] F1) :
 Calls Tryz.prog 75 #[.pointer (some ⟨z,0,none⟩),.int .u64 11] w fun e w'=>e = .returned (.tuple #[.int .i64 0,.slice none 0 0,.bool false])∧Below w.heap.size w w' :=
 (cl.object96 w w.heap.size z m1 K1 (heap_in h) 11 (by omega) (by omega)).mono fun e w' hh=>by
   obtain ⟨n,rfl,⟨y,u,hy,rfl,hu⟩ | ⟨hn,rfl⟩⟩:=hh
   ·exact absurd ⟨y,hy⟩ no11
   ·exact ⟨rfl,⟨rfl,rfl,rfl,Nat.le_refl _,fun _ _=>rfl⟩⟩
abbrev kinds:Array Value:=#[.int .i64 9,.int .i64 7,.int .i64 4,.int .i64 5,.int .i64 6,.int .i64 3,.int .i64 1,.int .i64 10,.int .i64 10]
theorem index163 (W:World):(Instr.index 163 (.agg kinds) (.int .i64 0)).run Tryz.prog W = .ok (.int .i64 9) W:=by
 have h3:(Tryz.prog.info? 3).map (·.size) = some 1:=by kernel_rfl
 cases hi:Tryz.prog.info? 3 with
 | none=>rw [hi] at h3;simp at h3
 | some i =>
  rw [hi] at h3;have hs:i.size = 1:=by simpa using h3
  simp [Instr.index,run_underlying Tryz.underlying163,sizeOf,typeInfo,hi,hs,asInt,asIntOf,go_sem,kinds]
theorem kind46 (h:HA w B z a b c vY vF [19,11,19,1] F1) :
 Calls Tryz.prog 46 #[.pointer (some ⟨z,0,none⟩),.int .u64 17] w fun e w'=>e = .returned (.int .i64 9)∧Below w.heap.size w w':=by
 have HI:=Lib.hid (is17 h);have HH:=Lib.hid h;have HS:=Lib.hid (fun W=>words.SmallOf 17 (by omega) (by omega) W);have HA':=Lib.hid (fun W=>words.AtomOf 17 (by omega) (by omega) W);have e1:aoOk 17 = false:=by decide
 have e2:aoN 17 = 0:=by decide
 have e3:soOk 17 = false:=by decide
 have e4:soN 17 = 0:=by decide
 rw [e1,e2] at HA';rw [e3,e4] at HS;have hix:=index163;clear h e1 e2 e3 e4;go_enter Tryz.func46,Tryz.ntmps46;go_wp2_with fail;refine HI.out.mono ?_;rintro e w1 ⟨rfl,hb⟩;have HO:=Lib.hid (obj_at (HH.out.below hb) (by omega) (by omega) pt17 (by decide) (by decide));have HB:=Lib.hid hb;clear hb;go_wp2_with fail;refine (HS.out _).mono ?_;rintro e w2 ⟨rfl,rfl⟩;go_wp2_with fail;refine (HA'.out _).mono ?_;rintro e w2 ⟨rfl,rfl⟩;go_wp2_with fail;refine HO.out.mono ?_;rintro e w3 ⟨u,rfl,_,hb3⟩;have HB3:=Lib.hid (HB.out.trans (hb3.mono HB.out.size));clear hb3;go_wp2_with fail;go_ret;exact ⟨rfl,HB3.out⟩
end
end Go.Proofs.YtpnlnbolhkcnjaaGreat.hp
