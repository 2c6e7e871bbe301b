/- Texts of this seat, one behind the other: TeI, TeM, TeN, TeO, TcY, TdA, TeP, TcH, TcI, TcJ, TeQ. No condition beyond theirs. -/
import Derived.Test.YtfbggmbmgohiiaaGreatW35
import Derived.Test.YtfbggmbmgohiiaaGreatW49
import Derived.Test.YtfbggmbmgohiiaaGreatW44
import Derived.Test.YtfbggmbmgohiiaaGreatW50
import Derived.Test.YtfbggmbmgohiiaaGreatW42
import Derived.Test.YtfbggmbmgohiiaaGreatW47
import Derived.Test.YtfbggmbmgohiiaaGreatW48
set_option linter.unusedSimpArgs false
set_option linter.unusedVariables false
set_option maxHeartbeats 4000000
set_option maxRecDepth 100000
namespace Go.Proofs.YtfbggmbmgohiiaaGreat.tb
open Go.RowKit mem rec tm names
noncomputable def insP {N:Nat} (T:List (RTb N)) (r:Tm (N + 1)):Nat:=T.findIdx (fun t=>!decide (cmpV t.ref r < 0))
def MkI {N:Nat} (T:List (RTb N)) (r:Tm (N + 1)) (w:World) (m:Nat) (iv:Value) (wr:World):Prop:=∃ i:Nat,iv = .int .i64 (i:Int)∧i ≤ T.length∧m = T.length - i∧(∀ j x,j < i→T[j]? = some x→cmpV x.ref r < 0)∧Below w.heap.size w wr
def MkV {N:Nat} (B y:Nat) (T:List (RTb N)) (n:RTb N) (r:Tm (N + 1)) (w:World) (w':World):Prop:=∃ lv',RfAt w' B y lv' (([] ++ T.take (insP T r)) ++ [n] ++ T.drop (insP T r))∧TT refT3 B w w'
theorem insP_eq {N:Nat} {T:List (RTb N)} {r:Tm (N + 1)} {i:Nat} (hi:i ≤ T.length) (h:∀ j x,j < i→T[j]? = some x→cmpV x.ref r < 0) (hn:∀ x,T[i]? = some x→¬ cmpV x.ref r < 0):insP T r = i:=by
 unfold insP
 by_cases hlt:i < T.length
 ·rw [List.findIdx_eq hlt]
  refine ⟨?_,fun j hj=>?_⟩
  ·have:=hn _ (List.getElem?_eq_getElem hlt)
   simpa using this
  ·have:=h j _ hj (List.getElem?_eq_getElem (by omega))
   simpa using this
 ·obtain rfl:i = T.length:=by omega
  exact List.findIdx_eq_length.2 (fun x hx=>by
   obtain ⟨j,hj⟩:=List.mem_iff_getElem?.1 hx
   have:=h j x (List.getElem?_eq_some_iff.1 hj).1 hj
   simpa using this)
section
variable {N:Nat} {w w' W:World} {B y:Nat} {lv:Value} {T:List (RTb N)} {r o:Tm (N + 1)} {ur0 uo0:Value}
theorem RfAt.repl (h:RfAt w B y lv T) (hb:Below w.heap.size w W) {lv':Value} {T':List (RTb N)} (hown:RecOwn rtL 53 20 W w.heap.size lv' T') (ht:∀ t ∈ T',RTbAt W B t) :
 RfAt (W.setCell ⟨y,0,none⟩ lv') B y lv' T'∧TT refT3 B w (W.setCell ⟨y,0,none⟩ lv'):=by
 have hBw:=h.blt
 have hyw:=h.ylt
 have hset:∀ q,q ≠ y→(W.setCell ⟨y,0,none⟩ lv').heap[q]? = W.heap[q]?:=fun q hq=>Below.heap_setCell _ _ _ _ hq
 have hyW:=(h.below hb).obj
 have hlow:=h.low
 have hty:tyOf W y = some 39:=tyOf_of hyW
 refine ⟨⟨set_block hyW lv',(hown.base (base':=B) (fun k hk=>Nat.le_trans hBw (hown.lt hk).1)).same (fun q hq=>hset q (by have:=(hown.lt hq).1;omega)),fun t htm=>(ht t htm).keep (fun g hg=>hset g (by omega)) (fun g hg=>hset g (ty_ne (ownTy (ht t htm).rows hg) hty (by decide))),h.low⟩,TouchB.setCell ((TouchB.refl _ _).ofBelow hb (Nat.le_refl _)) _ _ (fun _=>⟨h.low,39,tyOf_of h.obj,.inl rfl⟩)⟩
structure MArg (w:World) (B:Nat) (r o:Tm (N + 1)) (ur0 uo0:Value):Prop where
 ir:ItemsAt w B N ur0 r.items
 io:ItemsAt w B N uo0 o.items
 nr:nodesT r ≤ 100000000
 no:nodesT o ≤ 100000000
theorem rmake_r (h:RfAt w B y lv T) (hT:T.length ≤ 1000) (a:MArg w B r o ur0 uo0) (hs:Bool) (hk:(decide (r.f.kind = 3) && validT r) = false) :
 Calls Tryz.prog 20 #[.pointer (some ⟨y,0,none⟩),aggV r.f ur0,aggV o.f uo0,.bool hs] w fun e w'=>e = .returned (.int .i64 2)∧Below w.heap.size w w':=by
 have hB:=h.blt
 have HVr:=Lib.hid (fun (W:World) (hW:Below w.heap.size w W)=>valid52 (w:=W) (t:=r) (u:=ur0) 3 (Nat.le_trans hB hW.size) (a.ir.below hW hB) a.nr)
 have HVo:=Lib.hid (fun (W:World) (hW:Below w.heap.size w W)=>valid52 (w:=W) (t:=o) (u:=uo0) 6 (Nat.le_trans hB hW.size) (a.io.below hW hB) a.no)
 have HAt:=Lib.hid (fun (W:World) (hW:Below w.heap.size w W)=>at53 (h.below hW) hT (Nat.le_trans hB hW.size) (a.ir.below hW hB))
 obtain ⟨pr,cr,e1,_,_⟩:=a.ir.shape
 obtain ⟨po,co,e2,_,_⟩:=a.io.shape
 rw [hk] at HVr
 rw [e1] at HVr HAt ⊢
 rw [e2] at HVo ⊢
 clear h hT a hB e1 e2
 generalize r.items.length = nr at *
 generalize o.items.length = no at *
 generalize hrf:r.f = fr at *
 generalize hof:o.f = fo at *
 obtain ⟨rk,ri,rg,rn,rf,ra,rb,rz⟩:=fr
 obtain ⟨ok,oi,og,on,of,oa,ob,oz⟩:=fo
 unfold aggV BPost at *
 dsimp only at *
 have hsz9:(Tryz.prog.info? 24).map (·.size) = some 9:=by kernel_rfl
 obtain ⟨hb0,hz5,hz6⟩:=two_boxes w (.cells #[.int .i64 rk,.int .i64 ri,.int .i64 rg,.string rn,.string rf,.int .i64 ra,.slice pr nr cr,.string rb,.int .i64 rz] 24) (.cells #[.int .i64 ok,.int .i64 oi,.int .i64 og,.string on,.string of,.int .i64 oa,.slice po no co,.string ob,.int .i64 oz] 24)
 have hl5:=(Array.getElem?_eq_some_iff.1 hz5).1
 have hl6:=(Array.getElem?_eq_some_iff.1 hz6).1
 go_enter Tryz.func20,Tryz.ntmps20
 go_upto_region 1 with (fail)
 generalize ((w.alloc (.cells #[.int .i64 rk,.int .i64 ri,.int .i64 rg,.string rn,.string rf,.int .i64 ra,.slice pr nr cr,.string rb,.int .i64 rz] 24)).alloc (.cells #[.int .i64 ok,.int .i64 oi,.int .i64 og,.string on,.string of,.int .i64 oa,.slice po no co,.string ob,.int .i64 oz] 24)) = W1 at *
 have HX:=Lib.hid (fun W (hW:Below W1.heap.size W1 W)=>(And.intro (row_rng (x:=[.int .i64 rk,.int .i64 ri,.int .i64 rg,.string rn,.string rf,.int .i64 ra,.slice pr nr cr,.string rb,.int .i64 rz]) ((hW.block _ hl5).trans hz5)) (row_rng (x:=[.int .i64 ok,.int .i64 oi,.int .i64 og,.string on,.string of,.int .i64 oa,.slice po no co,.string ob,.int .i64 oz]) ((hW.block _ hl6).trans hz6))))
 have HX6:=Lib.hid (fun W (hW:Below W1.heap.size W1 W)=>(hW.block _ hl6).trans hz6)
 have hb:=Below.refl W1.heap.size W1
 have HB0:=Lib.hid hb0
 have hbw:=hb0
 clear hz5 hz6 hl5 hl6 hb0
 have HR0:=Lib.hid (HX.out _ hb).1
 go_wp2_with (first
  | (refine wpList_load_mid rfl 24 (.tmp 5) rfl w.heap.size 0 rfl [.int .i64 rk,.int .i64 ri,.int .i64 rg,.string rn,.string rf,.int .i64 ra,.slice pr nr cr,.string rb,.int .i64 rz] _ HR0.out Tryz.underlying24 rfl hsz9 ?_))
 refine (HVr.out _ hbw).mono ?_
 rintro e w2 ⟨rfl,hb1⟩
 replace hb:=hb.trans (hb1.mono hb.size)
 replace hbw:=hbw.trans (hb1.mono hbw.size)
 clear hb1 HVr HR0
 go_wp2_with fail
 go_ret
 exact ⟨rfl,hbw⟩
theorem rmake_o (h:RfAt w B y lv T) (hT:T.length ≤ 1000) (a:MArg w B r o ur0 uo0) (hs:Bool) (hk:(decide (r.f.kind = 3) && validT r) = true) (hv:(decide (o.f.kind = 6) && validT o) = false) :
 Calls Tryz.prog 20 #[.pointer (some ⟨y,0,none⟩),aggV r.f ur0,aggV o.f uo0,.bool hs] w fun e w'=>e = .returned (.int .i64 2)∧Below w.heap.size w w':=by
 have hB:=h.blt
 have HVr:=Lib.hid (fun (W:World) (hW:Below w.heap.size w W)=>valid52 (w:=W) (t:=r) (u:=ur0) 3 (Nat.le_trans hB hW.size) (a.ir.below hW hB) a.nr)
 have HVo:=Lib.hid (fun (W:World) (hW:Below w.heap.size w W)=>valid52 (w:=W) (t:=o) (u:=uo0) 6 (Nat.le_trans hB hW.size) (a.io.below hW hB) a.no)
 have HAt:=Lib.hid (fun (W:World) (hW:Below w.heap.size w W)=>at53 (h.below hW) hT (Nat.le_trans hB hW.size) (a.ir.below hW hB))
 obtain ⟨pr,cr,e1,_,_⟩:=a.ir.shape
 obtain ⟨po,co,e2,_,_⟩:=a.io.shape
 rw [hk] at HVr
 rw [hv] at HVo
 rw [e1] at HVr HAt ⊢
 rw [e2] at HVo ⊢
 clear h hT a hB e1 e2
 generalize r.items.length = nr at *
 generalize o.items.length = no at *
 generalize hrf:r.f = fr at *
 generalize hof:o.f = fo at *
 obtain ⟨rk,ri,rg,rn,rf,ra,rb,rz⟩:=fr
 obtain ⟨ok,oi,og,on,of,oa,ob,oz⟩:=fo
 unfold aggV BPost at *
 dsimp only at *
 have hsz9:(Tryz.prog.info? 24).map (·.size) = some 9:=by kernel_rfl
 obtain ⟨hb0,hz5,hz6⟩:=two_boxes w (.cells #[.int .i64 rk,.int .i64 ri,.int .i64 rg,.string rn,.string rf,.int .i64 ra,.slice pr nr cr,.string rb,.int .i64 rz] 24) (.cells #[.int .i64 ok,.int .i64 oi,.int .i64 og,.string on,.string of,.int .i64 oa,.slice po no co,.string ob,.int .i64 oz] 24)
 have hl5:=(Array.getElem?_eq_some_iff.1 hz5).1
 have hl6:=(Array.getElem?_eq_some_iff.1 hz6).1
 go_enter Tryz.func20,Tryz.ntmps20
 go_upto_region 1 with (fail)
 generalize ((w.alloc (.cells #[.int .i64 rk,.int .i64 ri,.int .i64 rg,.string rn,.string rf,.int .i64 ra,.slice pr nr cr,.string rb,.int .i64 rz] 24)).alloc (.cells #[.int .i64 ok,.int .i64 oi,.int .i64 og,.string on,.string of,.int .i64 oa,.slice po no co,.string ob,.int .i64 oz] 24)) = W1 at *
 have HX:=Lib.hid (fun W (hW:Below W1.heap.size W1 W)=>(And.intro (row_rng (x:=[.int .i64 rk,.int .i64 ri,.int .i64 rg,.string rn,.string rf,.int .i64 ra,.slice pr nr cr,.string rb,.int .i64 rz]) ((hW.block _ hl5).trans hz5)) (row_rng (x:=[.int .i64 ok,.int .i64 oi,.int .i64 og,.string on,.string of,.int .i64 oa,.slice po no co,.string ob,.int .i64 oz]) ((hW.block _ hl6).trans hz6))))
 have HX6:=Lib.hid (fun W (hW:Below W1.heap.size W1 W)=>(hW.block _ hl6).trans hz6)
 have hb:=Below.refl W1.heap.size W1
 have HB0:=Lib.hid hb0
 have hbw:=hb0
 clear hz5 hz6 hl5 hl6 hb0
 have HR0:=Lib.hid (HX.out _ hb).1
 go_wp2_with (first
  | (refine wpList_load_mid rfl 24 (.tmp 5) rfl w.heap.size 0 rfl [.int .i64 rk,.int .i64 ri,.int .i64 rg,.string rn,.string rf,.int .i64 ra,.slice pr nr cr,.string rb,.int .i64 rz] _ HR0.out Tryz.underlying24 rfl hsz9 ?_))
 refine (HVr.out _ hbw).mono ?_
 rintro e w2 ⟨rfl,hb1⟩
 replace hb:=hb.trans (hb1.mono hb.size)
 replace hbw:=hbw.trans (hb1.mono hbw.size)
 clear hb1 HVr HR0
 obtain ⟨x0,x1,x2,x3,x4,x5,x6,x7,x8,xf⟩:=nine_of (f:=⟨ok,oi,og,on,of,oa,ob,oz⟩) (v:=.slice po no co) (HX6.out _ hb)
 dsimp only at x0 x1 x2 x3 x4 x5 x6 x7 x8
 go_wp2_with fail
 refine (HVo.out _ hbw).mono ?_
 rintro e w3 ⟨rfl,hb1⟩
 replace hb:=hb.trans (hb1.mono hb.size)
 replace hbw:=hbw.trans (hb1.mono hbw.size)
 clear hb1 HVo x0 x1 x2 x3 x4 x5 x6 x7 x8 xf
 go_wp2_with fail
 go_ret
 exact ⟨rfl,hbw⟩
theorem rmake_t (h:RfAt w B y lv T) (hT:T.length ≤ 1000) (a:MArg w B r o ur0 uo0) (hs:Bool) (hk:(decide (r.f.kind = 3) && validT r) = true) (hv:(decide (o.f.kind = 6) && validT o) = true) {i:Nat} (hr:refR T r = some i) :
 Calls Tryz.prog 20 #[.pointer (some ⟨y,0,none⟩),aggV r.f ur0,aggV o.f uo0,.bool hs] w fun e w'=>e = .returned (.int .i64 8)∧Below w.heap.size w w':=by
 have hB:=h.blt
 have HVr:=Lib.hid (fun (W:World) (hW:Below w.heap.size w W)=>valid52 (w:=W) (t:=r) (u:=ur0) 3 (Nat.le_trans hB hW.size) (a.ir.below hW hB) a.nr)
 have HVo:=Lib.hid (fun (W:World) (hW:Below w.heap.size w W)=>valid52 (w:=W) (t:=o) (u:=uo0) 6 (Nat.le_trans hB hW.size) (a.io.below hW hB) a.no)
 have HAt:=Lib.hid (fun (W:World) (hW:Below w.heap.size w W)=>at53 (h.below hW) hT (Nat.le_trans hB hW.size) (a.ir.below hW hB))
 obtain ⟨pr,cr,e1,_,_⟩:=a.ir.shape
 obtain ⟨po,co,e2,_,_⟩:=a.io.shape
 rw [hk] at HVr
 rw [hv] at HVo
 rw [hr] at HAt
 unfold optI at HAt
 dsimp only at HAt
 rw [e1] at HVr HAt ⊢
 rw [e2] at HVo ⊢
 clear h hT a hB e1 e2
 generalize r.items.length = nr at *
 generalize o.items.length = no at *
 generalize hrf:r.f = fr at *
 generalize hof:o.f = fo at *
 obtain ⟨rk,ri,rg,rn,rf,ra,rb,rz⟩:=fr
 obtain ⟨ok,oi,og,on,of,oa,ob,oz⟩:=fo
 unfold aggV BPost at *
 dsimp only at *
 have hsz9:(Tryz.prog.info? 24).map (·.size) = some 9:=by kernel_rfl
 obtain ⟨hb0,hz5,hz6⟩:=two_boxes w (.cells #[.int .i64 rk,.int .i64 ri,.int .i64 rg,.string rn,.string rf,.int .i64 ra,.slice pr nr cr,.string rb,.int .i64 rz] 24) (.cells #[.int .i64 ok,.int .i64 oi,.int .i64 og,.string on,.string of,.int .i64 oa,.slice po no co,.string ob,.int .i64 oz] 24)
 have hl5:=(Array.getElem?_eq_some_iff.1 hz5).1
 have hl6:=(Array.getElem?_eq_some_iff.1 hz6).1
 go_enter Tryz.func20,Tryz.ntmps20
 go_upto_region 1 with (fail)
 generalize ((w.alloc (.cells #[.int .i64 rk,.int .i64 ri,.int .i64 rg,.string rn,.string rf,.int .i64 ra,.slice pr nr cr,.string rb,.int .i64 rz] 24)).alloc (.cells #[.int .i64 ok,.int .i64 oi,.int .i64 og,.string on,.string of,.int .i64 oa,.slice po no co,.string ob,.int .i64 oz] 24)) = W1 at *
 have HX:=Lib.hid (fun W (hW:Below W1.heap.size W1 W)=>(And.intro (row_rng (x:=[.int .i64 rk,.int .i64 ri,.int .i64 rg,.string rn,.string rf,.int .i64 ra,.slice pr nr cr,.string rb,.int .i64 rz]) ((hW.block _ hl5).trans hz5)) (row_rng (x:=[.int .i64 ok,.int .i64 oi,.int .i64 og,.string on,.string of,.int .i64 oa,.slice po no co,.string ob,.int .i64 oz]) ((hW.block _ hl6).trans hz6))))
 have HX6:=Lib.hid (fun W (hW:Below W1.heap.size W1 W)=>(hW.block _ hl6).trans hz6)
 have hb:=Below.refl W1.heap.size W1
 have HB0:=Lib.hid hb0
 have hbw:=hb0
 clear hz5 hz6 hl5 hl6 hb0
 have HR0:=Lib.hid (HX.out _ hb).1
 go_wp2_with (first
  | (refine wpList_load_mid rfl 24 (.tmp 5) rfl w.heap.size 0 rfl [.int .i64 rk,.int .i64 ri,.int .i64 rg,.string rn,.string rf,.int .i64 ra,.slice pr nr cr,.string rb,.int .i64 rz] _ HR0.out Tryz.underlying24 rfl hsz9 ?_))
 refine (HVr.out _ hbw).mono ?_
 rintro e w2 ⟨rfl,hb1⟩
 replace hb:=hb.trans (hb1.mono hb.size)
 replace hbw:=hbw.trans (hb1.mono hbw.size)
 clear hb1 HVr HR0
 obtain ⟨x0,x1,x2,x3,x4,x5,x6,x7,x8,xf⟩:=nine_of (f:=⟨ok,oi,og,on,of,oa,ob,oz⟩) (v:=.slice po no co) (HX6.out _ hb)
 dsimp only at x0 x1 x2 x3 x4 x5 x6 x7 x8
 go_wp2_with fail
 refine (HVo.out _ hbw).mono ?_
 rintro e w3 ⟨rfl,hb1⟩
 replace hb:=hb.trans (hb1.mono hb.size)
 replace hbw:=hbw.trans (hb1.mono hbw.size)
 clear hb1 HVo x0 x1 x2 x3 x4 x5 x6 x7 x8 xf
 have HR1:=Lib.hid (HX.out _ hb).1
 go_wp2_with (first
  | (refine wpList_load_mid rfl 24 (.tmp 5) rfl w.heap.size 0 rfl [.int .i64 rk,.int .i64 ri,.int .i64 rg,.string rn,.string rf,.int .i64 ra,.slice pr nr cr,.string rb,.int .i64 rz] _ HR1.out Tryz.underlying24 rfl hsz9 ?_))
 refine (HAt.out _ hbw).mono ?_
 rintro e w4 ⟨rfl,hb1⟩
 replace hb:=hb.trans (hb1.mono hb.size)
 replace hbw:=hbw.trans (hb1.mono hbw.size)
 clear hb1 HAt HR1
 have r2:(0:Int) ≤ (i:Int):=by omega
 have r3:decide ((0:Int) ≤ (i:Int)) = true:=decide_eq_true r2
 go_wp2_with fail
 go_ret
 exact ⟨rfl,hbw⟩
theorem rmake_f (h:RfAt w B y lv T) (hT:T.length ≤ 1000) (a:MArg w B r o ur0 uo0) (hs:Bool) (hk:(decide (r.f.kind = 3) && validT r) = true) (hv:(decide (o.f.kind = 6) && validT o) = true) (hr:refR T r = none) (hfull:64 ≤ T.length) :
 Calls Tryz.prog 20 #[.pointer (some ⟨y,0,none⟩),aggV r.f ur0,aggV o.f uo0,.bool hs] w fun e w'=>e = .returned (.int .i64 5)∧Below w.heap.size w w':=by
 have hB:=h.blt
 have HVr:=Lib.hid (fun (W:World) (hW:Below w.heap.size w W)=>valid52 (w:=W) (t:=r) (u:=ur0) 3 (Nat.le_trans hB hW.size) (a.ir.below hW hB) a.nr)
 have HVo:=Lib.hid (fun (W:World) (hW:Below w.heap.size w W)=>valid52 (w:=W) (t:=o) (u:=uo0) 6 (Nat.le_trans hB hW.size) (a.io.below hW hB) a.no)
 have HAt:=Lib.hid (fun (W:World) (hW:Below w.heap.size w W)=>at53 (h.below hW) hT (Nat.le_trans hB hW.size) (a.ir.below hW hB))
 obtain ⟨pl,cl,hlv,_,_⟩:=h.l.shape
 have HObj:=Lib.hid (fun (W:World) (hW:Below w.heap.size w W)=>cells_row (x:=[lv]) (h.below hW).obj 0 _ rfl)
 rw [hlv] at HObj
 obtain ⟨pr,cr,e1,_,_⟩:=a.ir.shape
 obtain ⟨po,co,e2,_,_⟩:=a.io.shape
 rw [hk] at HVr
 rw [hv] at HVo
 rw [hr] at HAt
 unfold optI at HAt
 dsimp only at HAt
 rw [e1] at HVr HAt ⊢
 rw [e2] at HVo ⊢
 clear h hT a hB e1 e2
 generalize r.items.length = nr at *
 generalize o.items.length = no at *
 generalize hrf:r.f = fr at *
 generalize hof:o.f = fo at *
 obtain ⟨rk,ri,rg,rn,rf,ra,rb,rz⟩:=fr
 obtain ⟨ok,oi,og,on,of,oa,ob,oz⟩:=fo
 unfold aggV BPost at *
 dsimp only at *
 have hsz9:(Tryz.prog.info? 24).map (·.size) = some 9:=by kernel_rfl
 obtain ⟨hb0,hz5,hz6⟩:=two_boxes w (.cells #[.int .i64 rk,.int .i64 ri,.int .i64 rg,.string rn,.string rf,.int .i64 ra,.slice pr nr cr,.string rb,.int .i64 rz] 24) (.cells #[.int .i64 ok,.int .i64 oi,.int .i64 og,.string on,.string of,.int .i64 oa,.slice po no co,.string ob,.int .i64 oz] 24)
 have hl5:=(Array.getElem?_eq_some_iff.1 hz5).1
 have hl6:=(Array.getElem?_eq_some_iff.1 hz6).1
 go_enter Tryz.func20,Tryz.ntmps20
 go_upto_region 1 with (fail)
 generalize ((w.alloc (.cells #[.int .i64 rk,.int .i64 ri,.int .i64 rg,.string rn,.string rf,.int .i64 ra,.slice pr nr cr,.string rb,.int .i64 rz] 24)).alloc (.cells #[.int .i64 ok,.int .i64 oi,.int .i64 og,.string on,.string of,.int .i64 oa,.slice po no co,.string ob,.int .i64 oz] 24)) = W1 at *
 have HX:=Lib.hid (fun W (hW:Below W1.heap.size W1 W)=>(And.intro (row_rng (x:=[.int .i64 rk,.int .i64 ri,.int .i64 rg,.string rn,.string rf,.int .i64 ra,.slice pr nr cr,.string rb,.int .i64 rz]) ((hW.block _ hl5).trans hz5)) (row_rng (x:=[.int .i64 ok,.int .i64 oi,.int .i64 og,.string on,.string of,.int .i64 oa,.slice po no co,.string ob,.int .i64 oz]) ((hW.block _ hl6).trans hz6))))
 have HX6:=Lib.hid (fun W (hW:Below W1.heap.size W1 W)=>(hW.block _ hl6).trans hz6)
 have hb:=Below.refl W1.heap.size W1
 have HB0:=Lib.hid hb0
 have hbw:=hb0
 clear hz5 hz6 hl5 hl6 hb0
 have HR0:=Lib.hid (HX.out _ hb).1
 go_wp2_with (first
  | (refine wpList_load_mid rfl 24 (.tmp 5) rfl w.heap.size 0 rfl [.int .i64 rk,.int .i64 ri,.int .i64 rg,.string rn,.string rf,.int .i64 ra,.slice pr nr cr,.string rb,.int .i64 rz] _ HR0.out Tryz.underlying24 rfl hsz9 ?_))
 refine (HVr.out _ hbw).mono ?_
 rintro e w2 ⟨rfl,hb1⟩
 replace hb:=hb.trans (hb1.mono hb.size)
 replace hbw:=hbw.trans (hb1.mono hbw.size)
 clear hb1 HVr HR0
 obtain ⟨x0,x1,x2,x3,x4,x5,x6,x7,x8,xf⟩:=nine_of (f:=⟨ok,oi,og,on,of,oa,ob,oz⟩) (v:=.slice po no co) (HX6.out _ hb)
 dsimp only at x0 x1 x2 x3 x4 x5 x6 x7 x8
 go_wp2_with fail
 refine (HVo.out _ hbw).mono ?_
 rintro e w3 ⟨rfl,hb1⟩
 replace hb:=hb.trans (hb1.mono hb.size)
 replace hbw:=hbw.trans (hb1.mono hbw.size)
 clear hb1 HVo x0 x1 x2 x3 x4 x5 x6 x7 x8 xf
 have HR1:=Lib.hid (HX.out _ hb).1
 go_wp2_with (first
  | (refine wpList_load_mid rfl 24 (.tmp 5) rfl w.heap.size 0 rfl [.int .i64 rk,.int .i64 ri,.int .i64 rg,.string rn,.string rf,.int .i64 ra,.slice pr nr cr,.string rb,.int .i64 rz] _ HR1.out Tryz.underlying24 rfl hsz9 ?_))
 refine (HAt.out _ hbw).mono ?_
 rintro e w4 ⟨rfl,hb1⟩
 replace hb:=hb.trans (hb1.mono hb.size)
 replace hbw:=hbw.trans (hb1.mono hbw.size)
 clear hb1 HAt HR1
 have k0:=HObj.out _ hbw
 have r1:(64:Int) ≤ (T.length:Int):=by omega
 have r3:decide ((64:Int) ≤ (T.length:Int)) = true:=decide_eq_true r1
 go_wp2_with fail
 go_ret
 exact ⟨rfl,hbw⟩
theorem rmake_y (h:RfAt w B y lv T) (hT:T.length ≤ 1000) (a:MArg w B r o ur0 uo0) (hs:Bool) (hk:(decide (r.f.kind = 3) && validT r) = true) (hv:(decide (o.f.kind = 6) && validT o) = true) (hr:refR T r = none) (h64:T.length < 64) (hnd:∀ t ∈ T,nodesT t.ref ≤ 100000000) :
 Calls Tryz.prog 20 #[.pointer (some ⟨y,0,none⟩),aggV r.f ur0,aggV o.f uo0,.bool hs] w fun e w'=>e = .returned (.int .i64 0)∧MkV B y T ⟨r,o,ur0,uo0,hs,nilV,[]⟩ r w w':=by
 have hB:=h.blt
 have HVr:=Lib.hid (fun (W:World) (hW:Below w.heap.size w W)=>valid52 (w:=W) (t:=r) (u:=ur0) 3 (Nat.le_trans hB hW.size) (a.ir.below hW hB) a.nr)
 have HVo:=Lib.hid (fun (W:World) (hW:Below w.heap.size w W)=>valid52 (w:=W) (t:=o) (u:=uo0) 6 (Nat.le_trans hB hW.size) (a.io.below hW hB) a.no)
 have HAt:=Lib.hid (fun (W:World) (hW:Below w.heap.size w W)=>at53 (h.below hW) hT (Nat.le_trans hB hW.size) (a.ir.below hW hB))
 obtain ⟨pl,cl,hlv,_,_⟩:=h.l.shape
 have HObj:=Lib.hid (fun (W:World) (hW:Below w.heap.size w W)=>cells_row (x:=[lv]) (h.below hW).obj 0 _ rfl)
 have hfz:∀ W,Below w.heap.size w W→W.frozen? ⟨y,0,none⟩ = false:=fun W hW=>by simp only [World.frozen?,(h.below hW).obj];simp
 have HFz:=Lib.hid hfz
 have hrows:=h.l.row h.enc
 rw [hlv] at hrows
 have HEl:=Lib.hid (fun (i:Nat) (hi:i < T.length)=>rec_rng hrows hi)
 have HSh:=Lib.hid (fun (i:Nat) (hi:i < T.length)=>(h.tabs _ (List.getElem_mem hi)).iref.shape)
 have HCp:=Lib.hid (fun (W:World) (hW:Below w.heap.size w W) (i:Nat) (hi:i < T.length)=>RCompare W B (T[i]).ur ur0 (T[i]).ref r (Nat.le_trans hB hW.size) ((h.tabs _ (List.getElem_mem hi)).iref.below hW hB) (a.ir.below hW hB) (by have:=hnd _ (List.getElem_mem hi);omega) (by have:=a.nr;omega))
 have hE:=h.enc
 have hEn:EncOK rtL 20 [(⟨r,o,ur0,uo0,hs,nilV,[]⟩:RTb N)]:=fun x hx=>by
  obtain rfl:=List.mem_singleton.1 hx
  exact ⟨rfl,fun u hu=>by
   unfold rtL at hu
   rcases List.mem_append.1 hu with hu | hu
   ·exact nineL_one (it_one a.ir) u hu
   rcases List.mem_append.1 hu with hu | hu
   ·exact nineL_one (it_one a.io) u hu
   ·simp at hu
    rcases hu with rfl | rfl <;> rfl⟩
 have HFresh:=Lib.hid (fun (W:World) (O:Obj) (hO:O = .cells ([(⟨r,o,ur0,uo0,hs,nilV,[]⟩:RTb N)].flatMap rtL).toArray 53)=>RecAt.fresh (w:=W.alloc O) hEn (by decide) (by rw [← hO];exact alloc_new W O) (c:=1) (Nat.le_refl _) (by decide))
 have HUpd:=Lib.hid (fun (W:World) (hW:Below w.heap.size w W) (v':Value) (T':List (RTb N)) (ho:RecOwn rtL 53 20 W w.heap.size v' T') (he:T' = ([] ++ T.take (insP T r)) ++ [⟨r,o,ur0,uo0,hs,nilV,[]⟩] ++ T.drop (insP T r))=>(show MkV B y T ⟨r,o,ur0,uo0,hs,nilV,[]⟩ r w (W.setCell ⟨y,0,none⟩ v') from by
  obtain ⟨q1,q2⟩:=RfAt.repl h hW ho (fun t ht=>by
   rw [he,List.nil_append] at ht
   have hold:∀ t ∈ T,RTbAt W B t:=fun t ht=>(h.below hW).tabs t ht
   rcases List.mem_append.1 ht with ht | ht
   ·rcases List.mem_append.1 ht with ht | ht
    ·exact hold t (List.mem_of_mem_take ht)
    ·obtain rfl:=List.mem_singleton.1 ht
     exact ⟨RecOwn.nil _ _ _,a.ir.below hW hB,a.io.below hW hB,fun r hr=>(nomatch hr)⟩
   ·exact hold t (List.mem_of_mem_drop ht))
  exact ⟨v',he ▸ q1,q2⟩))
 have HLow:=Lib.hid (fun (j:Nat) (hj:j ≤ T.length) (W:World) (hW:Below w.heap.size w W)=>low_own37 hE (h.below hW).l hj)
 have HHigh:=Lib.hid (fun (j:Nat) (hj:j ≤ T.length) (W:World) (hW:Below w.heap.size w W)=>high_own37 hE (h.below hW).l hj)
 have HVlt:=Lib.hid (fun (q:Nat) (hq:lv.ownBlock = some q)=>(h.l.lt hq).2)
 have HET:=Lib.hid (fun (j:Nat)=>(hE.sub (fun x hx=>List.mem_of_mem_take hx):EncOK rtL 20 (T.take j)))
 have HED:=Lib.hid (fun (j:Nat)=>(hE.sub (fun x hx=>List.mem_of_mem_drop hx):EncOK rtL 20 (T.drop j)))
 have hd:∀ i x,i ≤ T.length→(∀ j x,j < i→T[j]? = some x→cmpV x.ref r < 0)→T[i]? = some x→¬ cmpV x.ref r < 0→insP T r = i:=fun i x hi h1 h2 h3=>insP_eq hi h1 (fun y hy=>by rw [h2] at hy;obtain rfl:=Option.some.inj hy;exact h3)
 have he:(∀ j x,j < T.length→T[j]? = some x→cmpV x.ref r < 0)→insP T r = T.length:=fun h1=>insP_eq (Nat.le_refl _) h1 (fun y hy=>by rw [List.getElem?_eq_none (Nat.le_refl _)] at hy;cases hy)
 have hil:insP T r ≤ T.length:=List.findIdx_le_length
 have HD:=Lib.hid hd
 have HE:=Lib.hid he
 have HEn:=Lib.hid hEn
 generalize hPV:MkV B y T ⟨r,o,ur0,uo0,hs,nilV,[]⟩ r w = PV at *
 generalize insP T r = px at *
 obtain ⟨pr,cr,e1,_,_⟩:=a.ir.shape
 obtain ⟨po,co,e2,_,_⟩:=a.io.shape
 rw [hk] at HVr
 rw [hv] at HVo
 rw [hr] at HAt
 unfold optI at HAt
 dsimp only at HAt
 rw [e1] at HVr HAt HCp HUpd HFresh HEn ⊢
 rw [e2] at HVo HUpd HFresh HEn ⊢
 have hcells:∀ (u1 u2:Value),([(⟨r,o,u1,u2,hs,nilV,[]⟩:RTb N)].flatMap rtL) = nineL r.f u1 ++ (nineL o.f u2 ++ [.bool hs,nilV]):=fun u1 u2=>by simp [rtL]
 rw [hcells] at HFresh
 obtain ⟨tnE,htnE⟩:∃ x:RTb N,x = ⟨r,o,.slice pr r.items.length cr,.slice po o.items.length co,hs,nilV,[]⟩:=⟨_,rfl⟩
 rw [← htnE] at HUpd HFresh HEn
 have hIr:=Lib.hid a.ir
 rw [hlv] at HObj HLow HHigh HVlt
 clear hcells htnE hd he hfz hrows hEn hE
 unfold nineL nilV at HFresh
 clear h hT a hB e1 e2 hnd hr hlv hk hv hPV hIr
 generalize r.items.length = nr at *
 generalize o.items.length = no at *
 generalize hrf:r.f = fr at *
 generalize hof:o.f = fo at *
 obtain ⟨rk,ri,rg,rn,rf,ra,rb,rz⟩:=fr
 obtain ⟨ok,oi,og,on,of,oa,ob,oz⟩:=fo
 unfold aggV BPost IPostC at *
 dsimp only at *
 simp only [List.cons_append,List.nil_append] at HFresh
 have hsz9:(Tryz.prog.info? 24).map (·.size) = some 9:=by kernel_rfl
 obtain ⟨hb0,hz5,hz6⟩:=two_boxes w (.cells #[.int .i64 rk,.int .i64 ri,.int .i64 rg,.string rn,.string rf,.int .i64 ra,.slice pr nr cr,.string rb,.int .i64 rz] 24) (.cells #[.int .i64 ok,.int .i64 oi,.int .i64 og,.string on,.string of,.int .i64 oa,.slice po no co,.string ob,.int .i64 oz] 24)
 have hl5:=(Array.getElem?_eq_some_iff.1 hz5).1
 have hl6:=(Array.getElem?_eq_some_iff.1 hz6).1
 go_enter Tryz.func20,Tryz.ntmps20
 go_upto_region 1 with (fail)
 generalize ((w.alloc (.cells #[.int .i64 rk,.int .i64 ri,.int .i64 rg,.string rn,.string rf,.int .i64 ra,.slice pr nr cr,.string rb,.int .i64 rz] 24)).alloc (.cells #[.int .i64 ok,.int .i64 oi,.int .i64 og,.string on,.string of,.int .i64 oa,.slice po no co,.string ob,.int .i64 oz] 24)) = W1 at *
 have HX:=Lib.hid (fun W (hW:Below W1.heap.size W1 W)=>(And.intro (row_rng (x:=[.int .i64 rk,.int .i64 ri,.int .i64 rg,.string rn,.string rf,.int .i64 ra,.slice pr nr cr,.string rb,.int .i64 rz]) ((hW.block _ hl5).trans hz5)) (row_rng (x:=[.int .i64 ok,.int .i64 oi,.int .i64 og,.string on,.string of,.int .i64 oa,.slice po no co,.string ob,.int .i64 oz]) ((hW.block _ hl6).trans hz6))))
 have HX6:=Lib.hid (fun W (hW:Below W1.heap.size W1 W)=>(hW.block _ hl6).trans hz6)
 have hb:=Below.refl W1.heap.size W1
 have HB0:=Lib.hid hb0
 have hbw:=hb0
 clear hz5 hz6 hl5 hl6 hb0
 have HR0:=Lib.hid (HX.out _ hb).1
 go_wp2_with (first
  | (refine wpList_load_mid rfl 24 (.tmp 5) rfl w.heap.size 0 rfl [.int .i64 rk,.int .i64 ri,.int .i64 rg,.string rn,.string rf,.int .i64 ra,.slice pr nr cr,.string rb,.int .i64 rz] _ HR0.out Tryz.underlying24 rfl hsz9 ?_))
 refine (HVr.out _ hbw).mono ?_
 rintro e w2 ⟨rfl,hb1⟩
 replace hb:=hb.trans (hb1.mono hb.size)
 replace hbw:=hbw.trans (hb1.mono hbw.size)
 clear hb1 HVr HR0
 obtain ⟨x0,x1,x2,x3,x4,x5,x6,x7,x8,xf⟩:=nine_of (f:=⟨ok,oi,og,on,of,oa,ob,oz⟩) (v:=.slice po no co) (HX6.out _ hb)
 dsimp only at x0 x1 x2 x3 x4 x5 x6 x7 x8
 go_wp2_with fail
 refine (HVo.out _ hbw).mono ?_
 rintro e w3 ⟨rfl,hb1⟩
 replace hb:=hb.trans (hb1.mono hb.size)
 replace hbw:=hbw.trans (hb1.mono hbw.size)
 clear hb1 HVo x0 x1 x2 x3 x4 x5 x6 x7 x8 xf
 have HR1:=Lib.hid (HX.out _ hb).1
 go_wp2_with (first
  | (refine wpList_load_mid rfl 24 (.tmp 5) rfl w.heap.size 0 rfl [.int .i64 rk,.int .i64 ri,.int .i64 rg,.string rn,.string rf,.int .i64 ra,.slice pr nr cr,.string rb,.int .i64 rz] _ HR1.out Tryz.underlying24 rfl hsz9 ?_))
 refine (HAt.out _ hbw).mono ?_
 rintro e w4 ⟨rfl,hb1⟩
 replace hb:=hb.trans (hb1.mono hb.size)
 replace hbw:=hbw.trans (hb1.mono hbw.size)
 clear hb1 HAt HR1
 have k0:=HObj.out _ hbw
 have r1:¬ ((64:Int) ≤ (T.length:Int)):=by omega
 have r3:decide ((64:Int) ≤ (T.length:Int)) = false:=decide_eq_false r1
 have H00:Hid (MkI T r w4 T.length (.int .i64 0) w4):=Lib.hid ⟨0,rfl,Nat.zero_le _,rfl,fun j x hj=>by omega,Below.refl _ _⟩
 have HB4:=Lib.hid (And.intro hb hbw)
 go_wp2_with fail
 clear k0 hb hbw
 go_loopg [9] T.length (fun m iv wr=>Hid (MkI T r w4 m iv wr))
 case atStart=>exact H00
 case round =>
  obtain ⟨i,rfl,hi,hm,hno,hb4⟩:=hrel.out
  clear hrel H00
  go_upto_region 8 with (fail)
  replace hb4:=hb4.trans ((belowD (Below.refl wr.heap.size wr)).mono hb4.size)
  have hb:=HB4.out.1.trans (hb4.mono HB4.out.1.size)
  have hbw:=HB4.out.2.trans (hb4.mono HB4.out.2.size)
  by_cases hlt:i < T.length
  ·have r1:(i:Int) < (T.length:Int):=by omega
   have r2:decide ((i:Int) < (T.length:Int)) = true:=decide_eq_true r1
   have r4:decide (i < T.length) = true:=decide_eq_true hlt
   obtain ⟨g,oo,rfl,hg,hR⟩:=HEl.out i hlt
   obtain ⟨pe,ce,ee,_,_⟩:=HSh.out i hlt
   have HC:=Lib.hid (fun W hW=>HCp.out W hW i hlt)
   have hat:=List.getElem?_eq_getElem hlt
   have HDi:=Lib.hid (fun (hn:¬ cmpV (T[i]).ref r < 0)=>HD.out i _ (by omega) hno hat (by omega))
   have HNo:Hid (cmpV (T[i]).ref r < 0→∀ j x,j < i + 1→T[j]? = some x→cmpV x.ref r < 0):=Lib.hid (fun h j x hj hx=>by
    by_cases e:j = i
    ·subst e;rw [hat] at hx;rw [← Option.some.inj hx];exact h
    ·exact hno j x (by omega) hx)
   have hR9:=rng_pre (a:=nineL (T[i]).ref.f (T[i]).ur) hR
   rw [ee] at HC hR9
   clear hno hat hR ee
   generalize cmpV (T[i]).ref r = cv0 at *
   generalize (T[i]).ref.items.length = ne at *
   generalize (T[i]).ref.f = ef at *
   obtain ⟨ek,ei,eg,en,ef,ea,eb,ez⟩:=ef
   unfold nineL at hR9
   dsimp only at HC hR9
   have HR:=Lib.hid (fun W (hW:Below w.heap.size w W)=>rng_same hR9 (hW.block g hg))
   have HM:=Lib.hid hm
   clear hm hR9
   refine wp_region_held_drew (S:=(fun w'=>w'.cell? ⟨y,0,none⟩ = some (.slice (some ⟨g,oo,none⟩) T.length cl)∧w'.rangeAt w.heap.size 0 [.int .i64 rk,.int .i64 ri,.int .i64 rg,.string rn,.string rf,.int .i64 ra,.slice pr nr cr,.string rb,.int .i64 rz]∧w'.rangeAt g (oo + i * 20) [.int .i64 ek,.int .i64 ei,.int .i64 eg,.string en,.string ef,.int .i64 ea,.slice pe ne ce,.string eb,.int .i64 ez])) (by kernel_rfl) ?_ (fun hHeld=>?_)
   ·exact ⟨HObj.out _ hbw,(HX.out _ hb).1,HR.out _ hbw⟩
   generalize wr.drew = wd at *
   refine run_in [0,1,2,3,4,5,6,7,8,9,10,11,12,13,14,15,16] ?_
   iterate 4 (refine run_e rfl (by kernel_rfl) (by rfl) (fun _ _ _ _ h=>h) (by assumption) ?_;apply Exists.intro;refine And.intro (fun w hSw=>?_) ?_;(focus (try dsimp only at hSw);go_simp;(try with_reducible rfl));(try simp only [Act.put,pA,pB,pC]))
   refine run_r rfl (by kernel_rfl) (fun _ _ _ _ h=>h) (by assumption) (yieldsB_cell (by rfl) 37 (.tmp 32) rfl y 0 rfl _ ld37 (fun w hs=>hs.1)) ?_
   (try simp only [Act.put,pA,pB,pC])
   iterate 6 (refine run_e rfl (by kernel_rfl) (by rfl) (fun _ _ _ _ h=>h) (by assumption) ?_;apply Exists.intro;refine And.intro (fun w hSw=>?_) ?_;(focus (try dsimp only at hSw);go_simp;(try with_reducible rfl));(try simp only [Act.put,pA,pB,pC]))
   refine run_r rfl (by kernel_rfl) (fun _ _ _ _ h=>h) (by assumption) (yieldsB_cell (by rfl) 37 (.tmp 39) rfl y 0 rfl _ ld37 (fun w hs=>hs.1)) ?_
   (try simp only [Act.put,pA,pB,pC])
   iterate 3 (refine run_e rfl (by kernel_rfl) (by rfl) (fun _ _ _ _ h=>h) (by assumption) ?_;apply Exists.intro;refine And.intro (fun w hSw=>?_) ?_;(focus (try dsimp only at hSw);go_simp;(try with_reducible rfl));(try simp only [Act.put,pA,pB,pC]))
   refine run_r rfl (by kernel_rfl) (fun _ _ _ _ h=>h) (by assumption) (yieldsIf_load_mid (by rfl) 24 (.tmp 43) rfl g (oo + i * 20) rfl [.int .i64 ek,.int .i64 ei,.int .i64 eg,.string en,.string ef,.int .i64 ea,.slice pe ne ce,.string eb,.int .i64 ez] _ (fun w hs=>hs.2.2) Tryz.underlying24 rfl hsz9) ?_
   (try simp only [Act.put,pA,pB,pC])
   refine run_r rfl (by kernel_rfl) (fun _ _ _ _ h=>h) (by assumption) (yieldsIf_load_mid (by rfl) 24 (.tmp 5) rfl w.heap.size 0 rfl [.int .i64 rk,.int .i64 ri,.int .i64 rg,.string rn,.string rf,.int .i64 ra,.slice pr nr cr,.string rb,.int .i64 rz] _ (fun w hs=>hs.2.1) Tryz.underlying24 rfl hsz9) ?_
   (try simp only [Act.put,pA,pB,pC])
   refine run_out ?_
   refine wpAnyH_ready (rs:=[17]) (by kernel_rfl) (by simp) ?_
   refine (readyR rfl (fun K hK=>?_) AllReadyH.nil)
   go_simp
   refine (HC.out _ hbw).mono ?_
   rintro e v1 ⟨rfl,hb1⟩
   replace hb:=hb.trans (hb1.mono hb.size)
   replace hbw:=hbw.trans (hb1.mono hbw.size)
   replace hb4:=hb4.trans (hb1.mono hb4.size)
   clear hb1
   go_wp2_with fail
   refine hK.out _ _ ?_ (fun hHeld=>?_)
   ·exact ⟨HObj.out _ hbw,(HX.out _ hb).1,HR.out _ hbw⟩
   clear hK K
   (try simp only [Act.put,pA,pB,pC])
   refine run_in [18,19] ?_
   iterate 2 (refine run_e rfl (by kernel_rfl) (by rfl) (fun _ _ _ _ h=>h) (by assumption) ?_;apply Exists.intro;refine And.intro (fun w hSw=>?_) ?_;(focus (try dsimp only at hSw);go_simp;(try with_reducible rfl));(try simp only [Act.put,pA,pB,pC]))
   refine run_out ?_
   refine wpAnyH_done (by kernel_rfl) ?_ _
   by_cases hlt0:cv0 < 0
   ·have q1:decide (cv0 < 0) = true:=decide_eq_true hlt0
    have HN:=Lib.hid (HNo.out hlt0)
    clear HDi HNo
    go_wp2_with fail
    go_roundg (T.length - (i + 1))
    case measure=>have:=HM.out;omega
    case rel=>exact Lib.hid ⟨i + 1,by go_num,by omega,rfl,HN.out,hb4⟩
   ·have q1:decide (cv0 < 0) = false:=decide_eq_false hlt0
    have hpx:=(HDi.out (by omega)).symm
    subst hpx
    clear HDi HNo HM HR HC
    go_upto_region 10 with (fail)
    have k0:=HObj.out _ hbw
    have hpc:(i:Int) ≤ (T.length:Int):=by omega
    obtain ⟨p1,c1,hrun1,hR1,hO1,_⟩:=HLow.out (i) (by omega) v1 hbw
    obtain ⟨RV,hRV⟩:∃ x,x = Value.slice p1 (T.length - (i)) c1:=⟨_,rfl⟩
    rw [← hRV] at hR1 hO1 hrun1
    obtain ⟨p3,c3,hrun3,hR3,hO3⟩:=HHigh.out (i) (by omega) v1 hbw
    obtain ⟨RH,hRH⟩:∃ x,x = Value.slice p3 (i) c3:=⟨_,rfl⟩
    rw [← hRH] at hR3 hO3 hrun3
    have HRest:=Lib.hid (fun W' (hW:Below v1.heap.size v1 W')=>hR1.block (w':=W') (fun q hq=>hW.block q (by have:=HVlt.out q (hO1 q hq);have:=hbw.size;omega)))
    have HTk:=Lib.hid hR3
    have HB6:=Lib.hid (And.intro hb hbw)
    clear hR1 hR3 hO1 hO3 HLow HHigh hRV hRH
    go_upto_region 11 with (first
     | (at_builtin;refine wpList_append_rec el53 rfl (.const (.slice none 0 0)) (.tmp 56) rfl rfl (RecOwn.nil 53 _ v1.heap.size) (Nat.le_refl _) rfl HTk.out (HET.out _) (by simp;omega) ?_;intro va1 W7 hA1)
     | fail)
    have hb7:Below v1.heap.size v1 W7:=hA1.belowB (Below.refl _ _) (Nat.le_refl _) (fun q hq=>by have h0:(Value.slice none 0 0).ownBlock = some q:=hq;simp [Value.ownBlock] at h0)
    have hX7:=HX.out _ (HB6.out.1.trans (hb7.mono HB6.out.1.size))
    have HK7:=Lib.hid hX7.1
    have HV7:=Lib.hid hX7.2
    clear hX7 k0
    have hb8:=hb7.trans ((belowA (Below.refl W7.heap.size W7) (.cells #[.int .i64 rk,.int .i64 ri,.int .i64 rg,.string rn,.string rf,.int .i64 ra,.slice pr nr cr,.string rb,.int .i64 rz,.int .i64 ok,.int .i64 oi,.int .i64 og,.string on,.string of,.int .i64 oa,.slice po no co,.string ob,.int .i64 oz,.bool hs,.slice none 0 0] 53) (Nat.le_refl _)).mono hb7.size)
    have hown8:=hA1.own.below (belowA (Below.refl W7.heap.size W7) (.cells #[.int .i64 rk,.int .i64 ri,.int .i64 rg,.string rn,.string rf,.int .i64 ra,.slice pr nr cr,.string rb,.int .i64 rz,.int .i64 ok,.int .i64 oi,.int .i64 og,.string on,.string of,.int .i64 oa,.slice po no co,.string ob,.int .i64 oz,.bool hs,.slice none 0 0] 53) (Nat.le_refl _))
    have hfr8:=HFresh.out W7 (.cells #[.int .i64 rk,.int .i64 ri,.int .i64 rg,.string rn,.string rf,.int .i64 ra,.slice pr nr cr,.string rb,.int .i64 rz,.int .i64 ok,.int .i64 oi,.int .i64 og,.string on,.string of,.int .i64 oa,.slice po no co,.string ob,.int .i64 oz,.bool hs,.slice none 0 0] 53) rfl
    have HO8:=Lib.hid hown8
    have HF8:=Lib.hid hfr8
    have HB8:=Lib.hid hb8
    clear hown8 hfr8 hb8 hA1 hb7
    go_upto_region 12 with (first
     | (refine wpList_load_mid rfl 24 (.tmp 5) rfl w.heap.size 0 rfl [.int .i64 rk,.int .i64 ri,.int .i64 rg,.string rn,.string rf,.int .i64 ra,.slice pr nr cr,.string rb,.int .i64 rz] _ HK7.out Tryz.underlying24 rfl hsz9 ?_)
     | (refine wpList_load_mid rfl 24 (.tmp 6) rfl (w.heap.size + 1) 0 rfl [.int .i64 ok,.int .i64 oi,.int .i64 og,.string on,.string of,.int .i64 oa,.slice po no co,.string ob,.int .i64 oz] _ HV7.out Tryz.underlying24 rfl hsz9 ?_)
     | (at_builtin;refine wpList_append_rec el53 rfl (.tmp 58) (.tmp 63) rfl rfl HO8.out HB8.out.size rfl HF8.out HEn.out (by simp;omega) ?_;intro v2 W9 hA2)
     | fail)
    have hb9:Below v1.heap.size v1 W9:=hA2.belowB HB8.out HB8.out.size (fun q hq=>by have h1:=(HO8.out.lt hq).1;exact h1)
    have hbw9:=HB6.out.2.trans (hb9.mono HB6.out.2.size)
    have k0:=HObj.out _ hbw9
    have HO9:=Lib.hid hA2.own
    have HB9:=Lib.hid hb9
    have HR9:=Lib.hid (HRest.out _ hb9)
    clear hA2 hb9 hbw9
    go_upto_region 13 with (first
     | (at_builtin;refine wpList_append_rec el53 rfl (.tmp 66) (.tmp 72) rfl rfl HO9.out HB9.out.size rfl HR9.out (HED.out _) (by simp;omega) ?_;intro v3 W10 hA3;have hb10:=hA3.belowB HB9.out HB9.out.size (fun q hq=>(HO9.out.lt hq).1);have hbw10:=HB6.out.2.trans (hb10.mono HB6.out.2.size);have k10:=HObj.out _ hbw10;have f10:=HFz.out _ hbw10;obtain ⟨p10,c10,e10,_,_⟩:=hA3.own.shape;rw [show (([] ++ T.take (i):List (RTb N)) ++ [tnE] ++ T.drop (i)).length = T.length + 1 from by (simp <;> omega)] at e10;have HP:=Lib.hid (HUpd.out W10 hbw10 v3 _ (hA3.own.base (base':=w.heap.size) (fun q hq=>by have h1:=(hA3.own.lt hq).1;have h2:=HB6.out.2.size;omega)) rfl);clear hA3 hb10 hbw10;subst e10)
     | fail)
    go_wp2_with fail
    go_ret
    exact ⟨rfl,HP.out⟩
  ·obtain rfl:i = T.length:=by omega
   have hpx:=HE.out hno
   subst hpx
   clear hno hm HCp HD HE
   refine wp_region_held_drew (S:=(fun w'=>w'.cell? ⟨y,0,none⟩ = some (.slice pl T.length cl))) (by kernel_rfl) ?_ (fun hHeld=>?_)
   ·exact HObj.out _ hbw
   generalize wr.drew = wd at *
   refine run_in [0,1,2,3,4,5,6,7,8,9,10,11,12,13,14,15,16,17,18,19] ?_
   iterate 4 (refine run_e rfl (by kernel_rfl) (by rfl) (fun _ _ _ _ h=>h) (by assumption) ?_;apply Exists.intro;refine And.intro (fun w hSw=>?_) ?_;(focus (try dsimp only at hSw);go_simp;(try with_reducible rfl));(try simp only [Act.put,pA,pB,pC]))
   refine run_r rfl (by kernel_rfl) (fun _ _ _ _ h=>h) (by assumption) (yieldsB_cell (by rfl) 37 (.tmp 32) rfl y 0 rfl _ ld37 (fun w hs=>hs)) ?_
   (try simp only [Act.put,pA,pB,pC])
   iterate 3 (refine run_e rfl (by kernel_rfl) (by rfl) (fun _ _ _ _ h=>h) (by assumption) ?_;apply Exists.intro;refine And.intro (fun w hSw=>?_) ?_;(focus (try dsimp only at hSw);go_simp;(try with_reducible rfl));(try simp only [Act.put,pA,pB,pC]))
   refine run_u rfl (by kernel_rfl) (fun _ _ _ _ h=>h) (by assumption) (by rfl) ?_
   (try simp only [Act.put,pA,pB,pC])
   refine run_u rfl (by kernel_rfl) (fun _ _ _ _ h=>h) (by assumption) (by rfl) ?_
   (try simp only [Act.put,pA,pB,pC])
   refine run_u rfl (by kernel_rfl) (fun _ _ _ _ h=>h) (by assumption) (by rfl) ?_
   (try simp only [Act.put,pA,pB,pC])
   refine run_u rfl (by kernel_rfl) (fun _ _ _ _ h=>h) (by assumption) (by rfl) ?_
   (try simp only [Act.put,pA,pB,pC])
   refine run_u rfl (by kernel_rfl) (fun _ _ _ _ h=>h) (by assumption) (by rfl) ?_
   (try simp only [Act.put,pA,pB,pC])
   refine run_u rfl (by kernel_rfl) (fun _ _ _ _ h=>h) (by assumption) (by rfl) ?_
   (try simp only [Act.put,pA,pB,pC])
   refine run_u rfl (by kernel_rfl) (fun _ _ _ _ h=>h) (by assumption) (by rfl) ?_
   (try simp only [Act.put,pA,pB,pC])
   refine run_u rfl (by kernel_rfl) (fun _ _ _ _ h=>h) (by assumption) (by rfl) ?_
   (try simp only [Act.put,pA,pB,pC])
   refine run_u rfl (by kernel_rfl) (fun _ _ _ _ h=>h) (by assumption) (by rfl) ?_
   (try simp only [Act.put,pA,pB,pC])
   refine run_u rfl (by kernel_rfl) (fun _ _ _ _ h=>h) (by assumption) (by rfl) ?_
   (try simp only [Act.put,pA,pB,pC])
   refine run_u rfl (by kernel_rfl) (fun _ _ _ _ h=>h) (by assumption) (by rfl) ?_
   (try simp only [Act.put,pA,pB,pC])
   (refine run_e rfl (by kernel_rfl) (by rfl) (fun _ _ _ _ h=>h) (by assumption) ?_;apply Exists.intro;refine And.intro (fun w hSw=>?_) ?_;(focus (try dsimp only at hSw);go_simp;(try with_reducible rfl));(try simp only [Act.put,pA,pB,pC]))
   refine run_out ?_
   refine wpAnyH_done (by kernel_rfl) ?_ _
   go_upto_region 10 with (fail)
   have k0:=HObj.out _ hbw
   have hpc:(T.length:Int) ≤ (T.length:Int):=by omega
   obtain ⟨p1,c1,hrun1,hR1,hO1,_⟩:=HLow.out (T.length) (by omega) wd hbw
   obtain ⟨RV,hRV⟩:∃ x,x = Value.slice p1 (T.length - (T.length)) c1:=⟨_,rfl⟩
   rw [← hRV] at hR1 hO1 hrun1
   obtain ⟨p3,c3,hrun3,hR3,hO3⟩:=HHigh.out (T.length) (by omega) wd hbw
   obtain ⟨RH,hRH⟩:∃ x,x = Value.slice p3 (T.length) c3:=⟨_,rfl⟩
   rw [← hRH] at hR3 hO3 hrun3
   have HRest:=Lib.hid (fun W' (hW:Below wd.heap.size wd W')=>hR1.block (w':=W') (fun q hq=>hW.block q (by have:=HVlt.out q (hO1 q hq);have:=hbw.size;omega)))
   have HTk:=Lib.hid hR3
   have HB6:=Lib.hid (And.intro hb hbw)
   clear hR1 hR3 hO1 hO3 HLow HHigh hRV hRH
   go_upto_region 11 with (first
    | (at_builtin;refine wpList_append_rec el53 rfl (.const (.slice none 0 0)) (.tmp 56) rfl rfl (RecOwn.nil 53 _ wd.heap.size) (Nat.le_refl _) rfl HTk.out (HET.out _) (by simp;omega) ?_;intro va1 W7 hA1)
    | fail)
   have hb7:Below wd.heap.size wd W7:=hA1.belowB (Below.refl _ _) (Nat.le_refl _) (fun q hq=>by have h0:(Value.slice none 0 0).ownBlock = some q:=hq;simp [Value.ownBlock] at h0)
   have hX7:=HX.out _ (HB6.out.1.trans (hb7.mono HB6.out.1.size))
   have HK7:=Lib.hid hX7.1
   have HV7:=Lib.hid hX7.2
   clear hX7 k0
   have hb8:=hb7.trans ((belowA (Below.refl W7.heap.size W7) (.cells #[.int .i64 rk,.int .i64 ri,.int .i64 rg,.string rn,.string rf,.int .i64 ra,.slice pr nr cr,.string rb,.int .i64 rz,.int .i64 ok,.int .i64 oi,.int .i64 og,.string on,.string of,.int .i64 oa,.slice po no co,.string ob,.int .i64 oz,.bool hs,.slice none 0 0] 53) (Nat.le_refl _)).mono hb7.size)
   have hown8:=hA1.own.below (belowA (Below.refl W7.heap.size W7) (.cells #[.int .i64 rk,.int .i64 ri,.int .i64 rg,.string rn,.string rf,.int .i64 ra,.slice pr nr cr,.string rb,.int .i64 rz,.int .i64 ok,.int .i64 oi,.int .i64 og,.string on,.string of,.int .i64 oa,.slice po no co,.string ob,.int .i64 oz,.bool hs,.slice none 0 0] 53) (Nat.le_refl _))
   have hfr8:=HFresh.out W7 (.cells #[.int .i64 rk,.int .i64 ri,.int .i64 rg,.string rn,.string rf,.int .i64 ra,.slice pr nr cr,.string rb,.int .i64 rz,.int .i64 ok,.int .i64 oi,.int .i64 og,.string on,.string of,.int .i64 oa,.slice po no co,.string ob,.int .i64 oz,.bool hs,.slice none 0 0] 53) rfl
   have HO8:=Lib.hid hown8
   have HF8:=Lib.hid hfr8
   have HB8:=Lib.hid hb8
   clear hown8 hfr8 hb8 hA1 hb7
   go_upto_region 12 with (first
    | (refine wpList_load_mid rfl 24 (.tmp 5) rfl w.heap.size 0 rfl [.int .i64 rk,.int .i64 ri,.int .i64 rg,.string rn,.string rf,.int .i64 ra,.slice pr nr cr,.string rb,.int .i64 rz] _ HK7.out Tryz.underlying24 rfl hsz9 ?_)
    | (refine wpList_load_mid rfl 24 (.tmp 6) rfl (w.heap.size + 1) 0 rfl [.int .i64 ok,.int .i64 oi,.int .i64 og,.string on,.string of,.int .i64 oa,.slice po no co,.string ob,.int .i64 oz] _ HV7.out Tryz.underlying24 rfl hsz9 ?_)
    | (at_builtin;refine wpList_append_rec el53 rfl (.tmp 58) (.tmp 63) rfl rfl HO8.out HB8.out.size rfl HF8.out HEn.out (by simp;omega) ?_;intro v2 W9 hA2)
    | fail)
   have hb9:Below wd.heap.size wd W9:=hA2.belowB HB8.out HB8.out.size (fun q hq=>by have h1:=(HO8.out.lt hq).1;exact h1)
   have hbw9:=HB6.out.2.trans (hb9.mono HB6.out.2.size)
   have k0:=HObj.out _ hbw9
   have HO9:=Lib.hid hA2.own
   have HB9:=Lib.hid hb9
   have HR9:=Lib.hid (HRest.out _ hb9)
   clear hA2 hb9 hbw9
   go_upto_region 13 with (first
    | (at_builtin;refine wpList_append_rec el53 rfl (.tmp 66) (.tmp 72) rfl rfl HO9.out HB9.out.size rfl HR9.out (HED.out _) (by simp;omega) ?_;intro v3 W10 hA3;have hb10:=hA3.belowB HB9.out HB9.out.size (fun q hq=>(HO9.out.lt hq).1);have hbw10:=HB6.out.2.trans (hb10.mono HB6.out.2.size);have k10:=HObj.out _ hbw10;have f10:=HFz.out _ hbw10;obtain ⟨p10,c10,e10,_,_⟩:=hA3.own.shape;rw [show (([] ++ T.take (T.length):List (RTb N)) ++ [tnE] ++ T.drop (T.length)).length = T.length + 1 from by (simp <;> omega)] at e10;have HP:=Lib.hid (HUpd.out W10 hbw10 v3 _ (hA3.own.base (base':=w.heap.size) (fun q hq=>by have h1:=(hA3.own.lt hq).1;have h2:=HB6.out.2.size;omega)) rfl);clear hA3 hb10 hbw10;subst e10)
    | fail)
   go_wp2_with fail
   go_ret
   exact ⟨rfl,HP.out⟩
end
def RfG {N:Nat} (B y:Nat) (A:List (TabA N)) (W:World):Prop:=∃ lv T,RfAt W B y lv T∧T.map absRT = A
structure BdA {N:Nat} (A:List (TabA N)):Prop where
 sm:SmA A
 nd:∀ a ∈ A,nodesT a.ref ≤ 100000000∧nodesT a.own ≤ 100000000∧∀ x ∈ a.rows,nodesT x.1 ≤ 100000000∧nodesT x.2 ≤ 100000000
noncomputable def insPA {N:Nat} (A:List (TabA N)) (r:Tm (N + 1)):Nat:=A.findIdx (fun a=>!decide (cmpV a.ref r < 0))
noncomputable def rmakeA {N:Nat} (A:List (TabA N)) (r o:Tm (N + 1)) (hs:Bool):List (TabA N):=if makeE A r o = 0 then A.take (insPA A r) ++ [⟨r,o,hs,[]⟩] ++ A.drop (insPA A r) else A
section
variable {N:Nat} {B y:Nat} {A:List (TabA N)} {W W':World} {r k v o:Tm (N + 1)} {ur uk uv uo:Value}
theorem RfG.below (h:RfG B y A W) (hb:Below W.heap.size W W'):RfG B y A W':=by
 obtain ⟨lv,T,h1,h2⟩:=h
 exact ⟨lv,T,h1.below hb,h2⟩
theorem RfG.prog (h:RfG B y A W) (ht:TT progT B W W'):RfG B y A W':=by
 obtain ⟨lv,T,h1,h2⟩:=h
 exact ⟨lv,T,h1.prog ht,h2⟩
theorem RfG.blt (h:RfG B y A W):B ≤ W.heap.size:=by
 obtain ⟨lv,T,h1,h2⟩:=h
 exact h1.blt
theorem absRR_abs (t:RTb N):(absRT t).rows = absRR t.rows:=rfl
theorem RfG.open (h:RfG B y A W) (hs:BdA A) (r:Tm (N + 1)):∃ lv T,RfAt W B y lv T∧T.map absRT = A∧T.length ≤ 1000∧(∀ t ∈ T,nodesT t.ref ≤ 100000000) ∧
 ((refA A r = none∧refR T r = none∧tabA A r = none)∨∃ i t,refA A r = some i∧refR T r = some i∧T[i]? = some t∧A[i]? = some (absRT t)∧tabA A r = some (absRT t)∧t.rows.length ≤ 1000000∧∀ r ∈ t.rows,nodesT r.k ≤ 100000000):=by
 obtain ⟨lv,T,h1,rfl⟩:=h
 refine ⟨lv,T,h1,rfl,by have:=hs.sm.len;rwa [List.length_map] at this,fun t ht=>(hs.nd _ (List.mem_map.2 ⟨t,ht,rfl⟩)).1,?_⟩
 cases hr:refR T r with
 | none =>
  have e:refA (T.map absRT) r = none:=by rw [refR_abs,hr]
  exact .inl ⟨e,rfl,by unfold tabA;rw [e];rfl⟩
 | some i =>
  have e:refA (T.map absRT) r = some i:=by rw [refR_abs,hr]
  obtain ⟨a,ha,_⟩:=refA_lt e
  rw [List.getElem?_map] at ha
  cases ht:T[i]? with
  | none=>rw [ht] at ha;cases ha
  | some t =>
   have ea:(T.map absRT)[i]? = some (absRT t):=by rw [List.getElem?_map,ht];rfl
   have hm:absRT t ∈ T.map absRT:=List.mem_of_getElem? ea
   refine .inr ⟨i,t,e,rfl,ht,ea,by unfold tabA;rw [e];exact ea,?_,fun r hr=>((hs.nd _ hm).2.2 (r.k,r.v) (List.mem_map.2 ⟨r,hr,rfl⟩)).1⟩
   have:=hs.sm.rows _ hm
   rw [absRR_abs] at this
   unfold absRR at this
   rwa [List.length_map] at this
theorem upd_at {i:Nat} {a:TabA N} {f:TabA N→List (Tm (N + 1) × Tm (N + 1))} (h1:refA A r = some i) (h2:A[i]? = some a):updA A r f = A.set i { a with rows:=f a }:=by
 unfold updA
 rw [h1]
 dsimp only
 rw [h2]
theorem PutV.out {lv:Value} {T:List (RTb N)} {i:Nat} {t:RTb N} {R:List (Tm (N + 1) × Tm (N + 1))} (h:PutV B y lv T i t R W W'):RfG B y ((T.map absRT).set i { absRT t with rows:=R }) W'∧TT refT3 B W W':=by
 obtain ⟨v',rows',e,h1,h2⟩:=h
 refine ⟨⟨lv,_,h1,?_⟩,h2⟩
 refine List.ext_getElem? fun j=>?_
 rw [List.getElem?_map,List.getElem?_set,List.getElem?_set,List.length_map,List.getElem?_map]
 split
 ·split
  ·rw [← e];rfl
  ·rfl
 ·rfl
theorem r_put (h:RfG B y A W) (hs:BdA A) (hI:ItemsAt W B N ur r.items) (hJ:ItemsAt W B N uk k.items) (hV:ItemsAt W B N uv v.items) (hnk:nodesT k ≤ 100000000) (hnv:nodesT v ≤ 100000000) :
 Calls Tryz.prog 25 #[.pointer (some ⟨y,0,none⟩),aggV r.f ur,aggV k.f uk,aggV v.f uv] W fun e w'=>e = .returned (.int .i64 (putE A r k v))∧RfG B y (putA A r k v) w'∧TT refT3 B W w':=by
 obtain ⟨lv,T,h1,h2,h3,_,hc⟩:=h.open hs r
 have a:PArg W B r k v ur uk uv:=⟨hI,hJ,hV,hnk,hnv⟩
 have old:∀ {n:Int},putE A r k v = n→putA A r k v = A→∀ {e:Ending} {w':World},e = .returned (.int .i64 n)∧Below W.heap.size W w'→e = .returned (.int .i64 (putE A r k v))∧RfG B y (putA A r k v) w'∧TT refT3 B W w':=fun e1 e2 e w' ⟨q,hb⟩=>by
  rw [e1,e2]
  exact ⟨q,h.below hb,TT.new hb⟩
 cases hk:validT k
 ·have e1:putE A r k v = 2:=by unfold putE;rw [hk];cases validT v <;> rfl
  have e2:putA A r k v = A:=by unfold putA;rw [hk];cases validT v <;> rfl
  exact (rput_k h1 h3 a hk).mono (fun e w' q=>old e1 e2 q)
 ·cases hv:validT v
  ·have e1:putE A r k v = 2:=by unfold putE;rw [hv];rfl
   have e2:putA A r k v = A:=by unfold putA;rw [hv];rfl
   exact (rput_v h1 h3 a hk hv).mono (fun e w' q=>old e1 e2 q)
  ·rcases hc with ⟨c1,c2,c3⟩ | ⟨i,t,c1,c2,c3,c4,c5,c6,c7⟩
   ·have e1:putE A r k v = 4:=by unfold putE;rw [hv,hk,if_pos rfl,if_pos rfl,c1]
    have e2:putA A r k v = A:=by unfold putA updA;rw [hv,hk,c1];rfl
    exact (rput_n h1 h3 a hk hv c2).mono (fun e w' q=>old e1 e2 q)
   ·have e1:putE A r k v = 0:=by unfold putE;rw [hv,hk,if_pos rfl,if_pos rfl,c1]
    have e2:putA A r k v = A.set i { absRT t with rows:=putR (cmpH t.hs) (absRR t.rows) k v }:=by
     unfold putA
     rw [hv,hk,upd_at c1 c4]
     rfl
    refine (rput_y h1 h3 a hk hv c2 c3 c6 c7).mono ?_
    rintro e w' ⟨rfl,hp⟩
    rw [e1,e2,← h2]
    exact ⟨rfl,hp.out⟩
theorem r_del (h:RfG B y A W) (hs:BdA A) (hI:ItemsAt W B N ur r.items) (hJ:ItemsAt W B N uk k.items) (hnk:nodesT k ≤ 100000000) :
 Calls Tryz.prog 23 #[.pointer (some ⟨y,0,none⟩),aggV r.f ur,aggV k.f uk] W fun e w'=>e = .returned (.tuple #[.bool (delX A r k).1,.int .i64 (delX A r k).2])∧RfG B y (delA A r k) w'∧TT refT3 B W w':=by
 obtain ⟨lv,T,h1,h2,h3,_,hc⟩:=h.open hs r
 have a:GArg W B r k ur uk:=⟨hI,hJ,hnk⟩
 have hB:=h.blt
 have aw:∀ W',Below W.heap.size W W'→GArg W' B r k ur uk:=fun W' hW=>⟨hI.below hW hB,hJ.below hW hB,hnk⟩
 have old:∀ {n:Int},delX A r k = (false,n)→delA A r k = A→∀ {e:Ending} {w':World},e = .returned (.tuple #[.bool false,.int .i64 n])∧Below W.heap.size W w'→e = .returned (.tuple #[.bool (delX A r k).1,.int .i64 (delX A r k).2])∧RfG B y (delA A r k) w'∧TT refT3 B W w':=fun e1 e2 e w' ⟨q,hb⟩=>by
  rw [e1,e2]
  exact ⟨q,h.below hb,TT.new hb⟩
 cases hk:validT k
 ·have e1:delX A r k = (false,2):=by unfold delX;rw [hk,if_neg (by decide)]
  have e2:delA A r k = A:=by unfold delA;rw [hk,if_neg (by decide)]
  exact (rdel_n a (fun W' hW=>rget_k (h1.below hW) h3 (aw W' hW) hk)).mono (fun e w' q=>old e1 e2 q)
 ·rcases hc with ⟨c1,c2,c3⟩ | ⟨i,t,c1,c2,c3,c4,c5,c6,c7⟩
  ·have e1:delX A r k = (false,4):=by unfold delX;rw [hk,if_pos rfl,c3]
   have e2:delA A r k = A:=by unfold delA updA;rw [hk,if_pos rfl,c1]
   exact (rdel_n a (fun W' hW=>rget_n (h1.below hW) h3 (aw W' hW) hk c2)).mono (fun e w' q=>old e1 e2 q)
  ·have e0:delX A r k = (hasR (cmpH t.hs) (absRR t.rows) k,0):=by unfold delX;rw [hk,if_pos rfl,c5];rfl
   have e3:delA A r k = A.set i { absRT t with rows:=delR (cmpH t.hs) (absRR t.rows) k }:=by
    unfold delA
    rw [hk,if_pos rfl,upd_at c1 c4]
    rfl
   cases hh:hasR (cmpH t.hs) (absRR t.rows) k
   ·have e2:delA A r k = A:=by
     rw [e3]
     have:delR (cmpH t.hs) (absRR t.rows) k = (absRT t).rows:=by unfold delR;rw [hh,if_neg (by decide)];rfl
     rw [this]
     refine List.ext_getElem? fun j=>?_
     rw [List.getElem?_set]
     split
     ·rename_i e;subst e;split
      ·exact c4.symm
      ·rename_i hn;rw [List.getElem?_eq_none (by omega)]
     ·rfl
    exact (rdel_n a (fun W' hW=>rget_f (h1.below hW) h3 (aw W' hW) hk c2 c3 c6 c7 hh)).mono (fun e w' q=>old (by rw [e0,hh]) e2 q)
   ·refine (rdel_y h1 h3 a hk c2 c3 c6 c7 hh).mono ?_
    rintro e w' ⟨rfl,hp⟩
    rw [e0,e3,hh,← h2]
    exact ⟨rfl,hp.out⟩
theorem insP_abs (T:List (RTb N)) (r:Tm (N + 1)):insPA (T.map absRT) r = insP T r:=by
 unfold insPA insP
 rw [findIdx_map']
 rfl
theorem r_make (h:RfG B y A W) (hs:BdA A) (hI:ItemsAt W B N ur r.items) (hJ:ItemsAt W B N uo o.items) (hnr:nodesT r ≤ 100000000) (hno:nodesT o ≤ 100000000) (hf:Bool) :
 Calls Tryz.prog 20 #[.pointer (some ⟨y,0,none⟩),aggV r.f ur,aggV o.f uo,.bool hf] W fun e w'=>e = .returned (.int .i64 (makeE A r o))∧RfG B y (rmakeA A r o hf) w'∧TT refT3 B W w':=by
 obtain ⟨lv,T,h1,h2,h3,h4,hc⟩:=h.open hs r
 have a:MArg W B r o ur uo:=⟨hI,hJ,hnr,hno⟩
 have old:makeE A r o ≠ 0→∀ {n:Int},makeE A r o = n→∀ {e:Ending} {w':World},e = .returned (.int .i64 n)∧Below W.heap.size W w'→e = .returned (.int .i64 (makeE A r o))∧RfG B y (rmakeA A r o hf) w'∧TT refT3 B W w':=fun hne n hn e w' ⟨he,hb⟩=>by
  have e2:rmakeA A r o hf = A:=by unfold rmakeA;rw [if_neg hne]
  rw [e2,hn]
  exact ⟨he,h.below hb,TT.new hb⟩
 have bad:(decide (r.f.kind = 3) && decide (o.f.kind = 6) && validT r && validT o) = false→makeE A r o = 2:=fun hq=>by unfold makeE;rw [hq,if_neg (by decide)]
 have good:(decide (r.f.kind = 3) && decide (o.f.kind = 6) && validT r && validT o) = true→makeE A r o = (match refA A r with | some _=>8 | none=>if 64 ≤ A.length then 5 else 0):=fun hq=>by unfold makeE;rw [hq,if_pos rfl];cases refA A r <;> rfl
 cases hk:(decide (r.f.kind = 3) && validT r)
 ·have hm:=bad (by
   cases q1:decide (r.f.kind = 3) <;> cases q2:validT r <;> simp [q1,q2] at hk ⊢)
  exact (rmake_r h1 h3 a hf hk).mono (fun e w' hp=>old (by omega) hm hp)
 ·cases hv:(decide (o.f.kind = 6) && validT o)
  ·have hm:=bad (by
    cases q1:decide (o.f.kind = 6) <;> cases q2:validT o <;> simp [q1,q2] at hv ⊢)
   exact (rmake_o h1 h3 a hf hk hv).mono (fun e w' hp=>old (by omega) hm hp)
  ·have hg:=good (by
    cases q1:decide (r.f.kind = 3) <;> cases q2:validT r <;> cases q3:decide (o.f.kind = 6) <;> cases q4:validT o <;> simp [q1,q2,q3,q4] at hk hv ⊢)
   rcases hc with ⟨c1,c2,c3⟩ | ⟨i,t,c1,c2,c3,c4,c5,c6,c7⟩
   ·rw [c1] at hg
    dsimp only at hg
    have hle:A.length = T.length:=by rw [← h2,List.length_map]
    by_cases hfull:64 ≤ A.length
    ·rw [if_pos hfull] at hg
     exact (rmake_f h1 h3 a hf hk hv c2 (by omega)).mono (fun e w' hp=>old (by omega) hg hp)
    ·rw [if_neg hfull] at hg
     have e2:rmakeA A r o hf = A.take (insPA A r) ++ [⟨r,o,hf,[]⟩] ++ A.drop (insPA A r):=by unfold rmakeA;rw [if_pos hg]
     rw [hg,e2]
     refine (rmake_y h1 h3 a hf hk hv c2 (by omega) h4).mono ?_
     rintro e w' ⟨rfl,lv',h5,h6⟩
     refine ⟨rfl,⟨lv',_,h5,?_⟩,h6⟩
     rw [← h2,insP_abs]
     simp only [List.nil_append,List.map_append,List.map_take,List.map_drop,List.map_cons,List.map_nil]
     rfl
   ·rw [c1] at hg
    dsimp only at hg
    exact (rmake_t h1 h3 a hf hk hv c2).mono (fun e w' hp=>old (by omega) hg hp)
end
noncomputable def nextR {K V:Type} (c:K→K→Int) (R:List (K × V)) (k:K):Nat:=if hasR c R k then posR c R k + 1 else posR c R k
theorem posR_at {K V:Type} {S:K→Prop} {c:K→K→Int} (h:Ord S c) {R:List (K × V)} (hs:SortR c R) {i:Nat} {x:K × V} (hi:R[i]? = some x):posR c R x.1 = i∧hasR c R x.1 = true:=by
 obtain ⟨hl,rfl⟩:=List.getElem?_eq_some_iff.1 hi
 have h0:posR c R (R[i]).1 = i:=by
  unfold posR
  rw [List.findIdx_eq hl]
  refine ⟨?_,fun j hj=>?_⟩
  ·have:=h.tp.refl (R[i]).1
   rw [decide_eq_false (by omega)]
   rfl
  ·rw [decide_eq_true (List.pairwise_iff_getElem.1 hs j i (by omega) hl hj)]
   rfl
 refine ⟨h0,?_⟩
 unfold hasR
 rw [h0,List.getElem?_eq_getElem hl]
 exact eqB_t rfl
theorem nextR_at {K V:Type} {S:K→Prop} {c:K→K→Int} (h:Ord S c) {R:List (K × V)} (hs:SortR c R) {i:Nat} {x:K × V} (hi:R[i]? = some x):nextR c R x.1 = i + 1:=by
 obtain ⟨h1,h2⟩:=posR_at h hs hi
 unfold nextR
 rw [h1,h2,if_pos rfl]
section
variable {N:Nat}
noncomputable def firstX (A:List (TabA N)) (r:Tm (N + 1)):Option (Tm (N + 1) × Tm (N + 1)) × Int:=match tabA A r with
 | none=>(none,4)
 | some a=>(a.rows[0]?,0)
noncomputable def nextX (A:List (TabA N)) (r k:Tm (N + 1)):Option (Tm (N + 1) × Tm (N + 1)) × Int:=if validT k then (match tabA A r with
 | none=>(none,4)
 | some a=>(a.rows[nextR (cmpH a.hs) a.rows k]?,0)) else (none,2)
def rowK (x:Option (Tm (N + 1) × Tm (N + 1))):Tm (N + 1):=x.elim zT (·.1)
def rowV (x:Option (Tm (N + 1) × Tm (N + 1))):Tm (N + 1):=x.elim zT (·.2)
def RowX (x:Option (Tm (N + 1) × Tm (N + 1)) × Int) (W:World) (e:Ending) (w':World):Prop:=∃ F1 F2 u1 u2,e = .returned (.tuple #[aggV (rowK x.1).f u1,aggV (rowV x.1).f u2,.bool x.1.isSome,.int .i64 x.2])∧Below W.heap.size W w'∧NewI W w' F1 N u1 (rowK x.1).items∧NewI W w' F2 N u2 (rowV x.1).items
variable {B z:Nat} {A:List (TabA N)} {W W':World} {r k v:Tm (N + 1)} {ur uk:Value} {B2:Nat}
theorem rowX_none {n:Int} {e:Ending} {w':World} (h:e = .returned (.tuple #[.agg #[.int .i64 0,.int .i64 0,.int .i64 0,.string ⟨#[]⟩,.string ⟨#[]⟩,.int .i64 0,.slice none 0 0,.string ⟨#[]⟩,.int .i64 0],.agg #[.int .i64 0,.int .i64 0,.int .i64 0,.string ⟨#[]⟩,.string ⟨#[]⟩,.int .i64 0,.slice none 0 0,.string ⟨#[]⟩,.int .i64 0],.bool false,.int .i64 n])∧Below W.heap.size W w'):RowX (N:=N) (none,n) W e w':=by
 obtain ⟨rfl,hb⟩:=h
 exact ⟨_,_,nilV,nilV,rfl,hb,NewI.nil W w',NewI.nil W w'⟩
theorem rowX_some {k v:Tm (N + 1)} {e:Ending} {w':World} (h:RowP k v W e w'):RowX (some (k,v),0) W e w':=h
theorem g_first (h:StG B z A W) (hs:SmA A) (hB2:B2 ≤ W.heap.size) (hI:ItemsAt W B2 N ur r.items) :
 Calls Tryz.prog 39 #[.pointer (some ⟨z,0,none⟩),aggV r.f ur] W (RowX (firstX A r) W):=by
 obtain ⟨F,vl,tabs,h1,h2,h3,hl,hc⟩:=h.open hs r
 rcases hc with ⟨c1,c2,c3⟩ | ⟨i,hi,c1,c2,c3,c4,c5,c6⟩
 ·have e1:firstX A r = (none,4):=by unfold firstX;rw [c3]
  rw [e1]
  exact (first39e h1 hl hB2 hI (er:=4) (by decide) (.inl ⟨c2,rfl,rfl⟩)).mono (fun e w' q=>rowX_none q)
 ·have e1:firstX A r = (((tabs[i]).rows[0]?).map (fun r=>(r.k,r.v)),0):=by
   unfold firstX
   rw [c4]
   show ((absR tabs[i])[0]?,(0:Int)) = _
   unfold absR
   rw [List.getElem?_map]
  rw [e1]
  by_cases h0:0 < (tabs[i]).rows.length
  ·rw [List.getElem?_eq_getElem h0]
   exact (first39y h1 hl hB2 hI hi c2 h0 (c5.nd _ (List.getElem_mem h0)).1 (c5.nd _ (List.getElem_mem h0)).2).mono (fun e w' q=>rowX_some q)
  ·rw [List.getElem?_eq_none (by omega)]
   exact (first39n h1 hl hB2 hI hi c2 (List.eq_nil_of_length_eq_zero (by show (tabs[i]).rows.length = 0;omega))).mono (fun e w' q=>rowX_none q)
theorem g_next (h:StG B z A W) (hs:SmA A) (hB2:B2 ≤ W.heap.size) (hI:ItemsAt W B2 N ur r.items) (hJ:ItemsAt W B2 N uk k.items) (hnk:nodesT k ≤ 100000000) :
 Calls Tryz.prog 40 #[.pointer (some ⟨z,0,none⟩),aggV r.f ur,aggV k.f uk] W (RowX (nextX A r k) W):=by
 obtain ⟨F,vl,tabs,h1,h2,h3,hl,hc⟩:=h.open hs r
 cases hk:validT k
 ·have e1:nextX A r k = (none,2):=by unfold nextX;rw [hk,if_neg (by decide)]
  rw [e1]
  exact (next40e h1 hl hB2 hI hJ hnk (er:=2) (by decide) (.inl ⟨hk,rfl,rfl⟩)).mono (fun e w' q=>rowX_none q)
 ·rcases hc with ⟨c1,c2,c3⟩ | ⟨i,hi,c1,c2,c3,c4,c5,c6⟩
  ·have e1:nextX A r k = (none,4):=by unfold nextX;rw [hk,if_pos rfl,c3]
   rw [e1]
   exact (next40e h1 hl hB2 hI hJ hnk (er:=4) (by decide) (.inr ⟨hk,.inl ⟨c2,rfl,rfl⟩⟩)).mono (fun e w' q=>rowX_none q)
  ·have en:nextR (cmpH (absT tabs[i]).hs) (absT tabs[i]).rows k = nextAt tabs[i] k:=by
    show nextR (cmpH (tabs[i]).hs) (absR tabs[i]) k = _
    unfold nextR nextAt
    rw [← c5.has,← c5.pos]
   have e1:nextX A r k = (((tabs[i]).rows[nextAt tabs[i] k]?).map (fun r=>(r.k,r.v)),0):=by
    unfold nextX
    rw [hk,if_pos rfl,c4]
    dsimp only
    rw [en]
    show ((absR tabs[i])[nextAt tabs[i] k]?,(0:Int)) = _
    unfold absR
    rw [List.getElem?_map]
   rw [e1]
   by_cases h0:nextAt tabs[i] k < (tabs[i]).rows.length
   ·rw [List.getElem?_eq_getElem h0]
    exact (next40y h1 hl hB2 hI hJ hnk hk hi c2 (c5.find c6 k) h0 (c5.nd _ (List.getElem_mem h0)).1 (c5.nd _ (List.getElem_mem h0)).2).mono (fun e w' q=>rowX_some q)
   ·rw [List.getElem?_eq_none (by omega)]
    exact (next40n h1 hl hB2 hI hJ hnk hk hi c2 (c5.find c6 k) (by show (tabs[i]).rows.length ≤ nextAt tabs[i] k;omega)).mono (fun e w' q=>rowX_none q)
theorem StG.good (h:StG B z A W):∀ a ∈ A,SortR (cmpH a.hs) a.rows∧∀ x ∈ a.rows,validT x.1 = true∧nodesT x.1 ≤ 100000000∧nodesT x.2 ≤ 100000000:=fun a ha=>by
 obtain ⟨F,vl,tabs,h1,rfl,h3⟩:=h
 obtain ⟨t,ht,rfl⟩:=List.mem_map.1 ha
 refine ⟨(h3 t ht).sd,fun x hx=>?_⟩
 obtain ⟨r,hr,rfl⟩:=List.mem_map.1 hx
 exact ⟨(h3 t ht).vd r hr,((h3 t ht).nd r hr).1,((h3 t ht).nd r hr).2⟩
def oneA (hs:Bool) (R:List (Tm (N + 1) × Tm (N + 1))):List (TabA N):=[⟨refT 1,pidT 1,hs,R⟩]
variable {hs:Bool} {R:List (Tm (N + 1) × Tm (N + 1))}
theorem one_ref:refA (oneA hs R) (refT 1) = some 0:=by
 unfold refA oneA
 rw [List.findIdx?_cons]
 rw [if_pos (eqB_t rfl)]
theorem one_tab:tabA (oneA hs R) (refT 1) = some ⟨refT 1,pidT 1,hs,R⟩:=by
 unfold tabA
 rw [one_ref]
 rfl
theorem one_sm (h:R.length ≤ 1000000):SmA (oneA hs R):=⟨by simp [oneA],fun a ha=>by
 obtain rfl:=List.mem_singleton.1 ha
 exact h⟩
theorem one_first:firstX (oneA hs R) (refT 1) = (R[0]?,0):=by
 unfold firstX
 rw [one_tab]
theorem one_next (hv:SortR (cmpH hs) R) {i:Nat} {x:Tm (N + 1) × Tm (N + 1)} (hx:R[i]? = some x) (hk:validT x.1 = true):nextX (oneA hs R) (refT 1) x.1 = (R[i + 1]?,0):=by
 unfold nextX
 rw [hk,if_pos rfl,one_tab]
 dsimp only
 rw [nextR_at (ordH hs) hv hx]
def ItQ (w0 W:World) (q:Nat) (u:Value) (l:List (Tm N)):Prop:=∃ F,NewI w0 W F N u l∧¬ F q∧¬ F (q + 1)
theorem ItQ.keep {w0:World} {q:Nat} {u:Value} {l:List (Tm N)} (h:ItQ w0 W q u l) (hs:∀ g,g < W.heap.size→g ≠ q→g ≠ q + 1→tyOf W g = some 24→W'.heap[g]? = W.heap[g]?) (hz:W.heap.size ≤ W'.heap.size):ItQ w0 W' q u l:=by
 obtain ⟨F,h1,h2,h3⟩:=h
 have hF:∀ g,F g→W'.heap[g]? = W.heap[g]?:=fun g hg=>by
  refine hs g (h1.inr g hg).2 (fun e=>h2 (e ▸ hg)) (fun e=>h3 (e ▸ hg)) ?_
  obtain ⟨cur,n,e,_⟩:=h1.typed g hg
  exact tyOf_of e
 exact ⟨F,⟨h1.items.mono hF (fun _ hg=>hg),h1.typed.same hF,fun g hg=>⟨(h1.inr g hg).1,Nat.lt_of_lt_of_le (h1.inr g hg).2 hz⟩⟩,h2,h3⟩
theorem ItQ.below {w0:World} {q:Nat} {u:Value} {l:List (Tm N)} (h:ItQ w0 W q u l) (hb:Below W.heap.size W W'):ItQ w0 W' q u l:=h.keep (fun g hg _ _ _=>hb.block g hg) hb.size
theorem ItQ.at_ {w0:World} {q:Nat} {u:Value} {l:List (Tm N)} (h:ItQ w0 W q u l):ItemsAt W W.heap.size N u l:=by
 obtain ⟨F,h1,_⟩:=h
 exact ItemsIn.toAt (fun g hg=>(h1.inr g hg).2) h1.items
theorem ItQ.new {w0 w1:World} {q:Nat} {F:Nat→Prop} {u:Value} {l:List (Tm N)} (h:NewI w1 W F N u l) (h0:w0.heap.size ≤ w1.heap.size) (hq:q + 1 < w1.heap.size∨W.heap.size ≤ q):ItQ w0 W q u l :=
 ⟨F,⟨h.items,h.typed,fun g hg=>⟨Nat.le_trans h0 (h.inr g hg).1,(h.inr g hg).2⟩⟩,fun hg=>by have:=h.inr q hg;omega,fun hg=>by have:=h.inr (q + 1) hg;omega⟩
def boxes (W:World) (q:Nat) (k v:Tm (N + 1)) (u1 u2:Value):World:=(W.setRow q (nineL k.f u1).toArray).setRow (q + 1) (nineL v.f u2).toArray
structure WkS (w0 W:World) (q:Nat) (R:List (Tm (N + 1) × Tm (N + 1))) (j:Nat) (vo:Value) (rows:List (RRw N)) (u1 u2:Value):Prop where
 hb:Below w0.heap.size w0 W
 hq:w0.heap.size ≤ q
 own:RecOwn rrL 55 18 W (q + 2) vo rows
 abs:absRR rows = R.take j
 it:∀ r ∈ rows,ItQ w0 W q r.uk r.k.items∧ItQ w0 W q r.uv r.v.items
 b1:W.heap[q]? = some (.cells (nineL (rowK R[j]?).f u1).toArray 24)
 b2:W.heap[q + 1]? = some (.cells (nineL (rowV R[j]?).f u2).toArray 24)
 i1:ItQ w0 W q u1 (rowK R[j]?).items
 i2:ItQ w0 W q u2 (rowV R[j]?).items
theorem WkS.below {w0:World} {q j:Nat} {vo u1 u2:Value} {rows:List (RRw N)} (h:WkS w0 W q R j vo rows u1 u2) (hb:Below W.heap.size W W'):WkS w0 W' q R j vo rows u1 u2 :=
 ⟨h.hb.trans (hb.mono h.hb.size),h.hq,h.own.below hb,h.abs,fun r hr=>⟨(h.it r hr).1.below hb,(h.it r hr).2.below hb⟩,(hb.block _ (Array.getElem?_eq_some_iff.1 h.b1).1).trans h.b1,(hb.block _ (Array.getElem?_eq_some_iff.1 h.b2).1).trans h.b2,h.i1.below hb,h.i2.below hb⟩
theorem boxes_touch (W:World) (q:Nat) (k v:Tm (N + 1)) (u1 u2:Value):(boxes W q k v u1 u2).heap.size = W.heap.size∧∀ g,g ≠ q→g ≠ q + 1→(boxes W q k v u1 u2).heap[g]? = W.heap[g]? :=
 ⟨by unfold boxes;simp,fun g h1 h2=>by
  unfold boxes
  rw [setRow_other _ _ _ _ h2,setRow_other _ _ _ _ h1]⟩
theorem boxes_at {W:World} {q:Nat} {k v:Tm (N + 1)} {u1 u2:Value} {c1 c2:Array Value} (h1:W.heap[q]? = some (.cells c1 24)) (h2:W.heap[q + 1]? = some (.cells c2 24)):(boxes W q k v u1 u2).heap[q]? = some (.cells (nineL k.f u1).toArray 24)∧(boxes W q k v u1 u2).heap[q + 1]? = some (.cells (nineL v.f u2).toArray 24):=by
 unfold boxes
 refine ⟨?_,setRow_heap _ _ _ _ _ _ ((setRow_other _ _ _ _ (by omega)).trans h2)⟩
 rw [setRow_other _ _ _ _ (by omega)]
 exact setRow_heap _ _ _ _ _ _ h1
theorem WkS.enc {w0:World} {q j:Nat} {vo u1 u2:Value} {rows:List (RRw N)} (h:WkS w0 W q R j vo rows u1 u2):EncOK rrL 18 rows:=fun r hr=>⟨rfl,fun u hu=>by
 obtain ⟨h1,h2⟩:=h.it r hr
 unfold rrL at hu
 rcases List.mem_append.1 hu with hu | hu
 ·exact nineL_one (it_one h1.at_) u hu
 ·exact nineL_one (it_one h2.at_) u hu⟩
theorem boxes_below {W:World} {q B:Nat} {k v:Tm (N + 1)} {u1 u2:Value} (hq:B ≤ q) (hB:B ≤ W.heap.size):Below B W (boxes W q k v u1 u2) :=
 ((touch_setRow W q (nineL k.f u1).toArray).below (fun g e=>by omega) hB).trans ((touch_setRow _ (q + 1) (nineL v.f u2).toArray).below (fun g e=>by omega) (by simp;exact hB))
theorem WkS.start {w1 w2:World} {F1 F2:Nat→Prop} {u1 u2:Value} (hb:Below w1.heap.size w1 w2) (h1:NewI w1 w2 F1 N u1 (rowK R[0]?).items) (h2:NewI w1 w2 F2 N u2 (rowV R[0]?).items) {c1 c2:Array Value} :
 WkS w1 (boxes ((w2.alloc (.cells c1 24)).alloc (.cells c2 24)) w2.heap.size (rowK R[0]?) (rowV R[0]?) u1 u2) w2.heap.size R 0 (.slice none 0 0) [] u1 u2:=by
 obtain ⟨hw,z1,z2⟩:=two_boxes w2 (.cells c1 24) (.cells c2 24)
 have hsz:((w2.alloc (.cells c1 24)).alloc (.cells c2 24)).heap.size = w2.heap.size + 2:=by rw [World.size_alloc,World.size_alloc]
 generalize (w2.alloc (.cells c1 24)).alloc (.cells c2 24) = w3 at *
 obtain ⟨t1,t2⟩:=boxes_touch w3 w2.heap.size (rowK R[0]?) (rowV R[0]?) u1 u2
 obtain ⟨t3,t4⟩:=boxes_at (k:=rowK R[0]?) (v:=rowV R[0]?) (u1:=u1) (u2:=u2) z1 z2
 have hs12:=hb.size
 have k2:∀ {u:Value} {l:List (Tm N)} {F:Nat→Prop},NewI w1 w2 F N u l→ItQ w1 (boxes w3 w2.heap.size (rowK R[0]?) (rowV R[0]?) u1 u2) w2.heap.size u l:=fun hn=>by
  have h3:ItQ w1 w3 w2.heap.size _ _:=(ItQ.new (w0:=w1) hn (Nat.le_refl _) (.inr (Nat.le_refl _))).below hw
  exact h3.keep (fun g hg a b _=>t2 g a b) (by omega)
 exact ⟨(hb.trans (hw.mono hb.size)).trans (boxes_below hs12 (by omega)),hs12,RecOwn.nil _ _ _,rfl,fun r hr=>(nomatch hr),t3,t4,k2 h1,k2 h2⟩
structure WkM (w0 W:World) (q:Nat) (R:List (Tm (N + 1) × Tm (N + 1))) (j:Nat) (vo:Value) (rows:List (RRw N)) (u1 u2:Value):Prop where
 hb:Below w0.heap.size w0 W
 hq:w0.heap.size ≤ q
 own:RecOwn rrL 55 18 W (q + 2) vo rows
 abs:absRR rows = R.take (j + 1)
 it:∀ r ∈ rows,ItQ w0 W q r.uk r.k.items∧ItQ w0 W q r.uv r.v.items
 b1:W.heap[q]? = some (.cells (nineL (rowK R[j]?).f u1).toArray 24)
 b2:W.heap[q + 1]? = some (.cells (nineL (rowV R[j]?).f u2).toArray 24)
 i1:ItQ w0 W q u1 (rowK R[j]?).items
theorem WkS.app {w0 W0 W2:World} {q j:Nat} {vo vo' u1 u2:Value} {rows:List (RRw N)} {k v:Tm (N + 1)} (h:WkS w0 W0 q R j vo rows u1 u2) (hx:R[j]? = some (k,v)) (hb:Below W0.heap.size W0 W) (hA:AppR rrL 55 18 W (q + 2) vo rows [⟨k,v,u1,u2⟩] vo' W2) :
 WkM w0 W2 q R j vo' (rows ++ [⟨k,v,u1,u2⟩]) u1 u2:=by
 have h:=h.below hb
 have hq1:=(Array.getElem?_eq_some_iff.1 h.b1).1
 have hq2:=(Array.getElem?_eq_some_iff.1 h.b2).1
 have hkeep:∀ g,g < W.heap.size→tyOf W g = some 24→W2.heap[g]? = W.heap[g]?:=fun g hg ht=>hA.other hg (fun e=>by
  rw [ownTy h.own e] at ht
  exact absurd (Option.some.inj ht) (by decide))
 have hlow:∀ g,vo.ownBlock = some g→q + 2 ≤ g:=fun g hg=>(h.own.lt hg).1
 have hz:W.heap.size ≤ W2.heap.size:=hA.grown.size
 have ki:∀ {u:Value} {l:List (Tm N)},ItQ w0 W q u l→ItQ w0 W2 q u l:=fun hi=>hi.keep (fun g hg _ _ ht=>hkeep g hg ht) hz
 refine ⟨hA.belowB h.hb h.hb.size (fun g hg=>by have:=hlow g hg;have:=h.hq;omega),h.hq,hA.own,?_,fun r hr=>?_,(hkeep q hq1 (tyOf_of h.b1)).trans h.b1,(hkeep (q + 1) hq2 (tyOf_of h.b2)).trans h.b2,ki h.i1⟩
 ·unfold absRR
  rw [List.map_append]
  have:=h.abs
  unfold absRR at this
  rw [this,List.take_add_one,hx]
  rfl
 ·rcases List.mem_append.1 hr with hr | hr
  ·exact ⟨ki (h.it r hr).1,ki (h.it r hr).2⟩
  ·obtain rfl:=List.mem_singleton.1 hr
   have e1:=h.i1
   have e2:=h.i2
   rw [hx] at e1 e2
   exact ⟨ki e1,ki e2⟩
theorem WkM.step {w0 W2 W3:World} {F1 F2:Nat→Prop} {q j:Nat} {vo u1 u2 x1 x2:Value} {rows:List (RRw N)} (h:WkM w0 W2 q R j vo rows u1 u2) (hb:Below W2.heap.size W2 W3) (h1:NewI W2 W3 F1 N x1 (rowK R[j + 1]?).items) (h2:NewI W2 W3 F2 N x2 (rowV R[j + 1]?).items) :
 WkS w0 (boxes W3 q (rowK R[j + 1]?) (rowV R[j + 1]?) x1 x2) q R (j + 1) vo rows x1 x2:=by
 have hq1:=(Array.getElem?_eq_some_iff.1 h.b1).1
 have hq2:=(Array.getElem?_eq_some_iff.1 h.b2).1
 obtain ⟨t1,t2⟩:=boxes_touch W3 q (rowK R[j + 1]?) (rowV R[j + 1]?) x1 x2
 obtain ⟨t3,t4⟩:=boxes_at (k:=rowK R[j + 1]?) (v:=rowV R[j + 1]?) (u1:=x1) (u2:=x2) ((hb.block _ hq1).trans h.b1) ((hb.block _ hq2).trans h.b2)
 have hs:=hb.size
 have ki:∀ {u:Value} {l:List (Tm N)},ItQ w0 W2 q u l→ItQ w0 (boxes W3 q (rowK R[j + 1]?) (rowV R[j + 1]?) x1 x2) q u l:=fun hi=>(hi.below hb).keep (fun g _ a b _=>t2 g a b) (by omega)
 have kn:∀ {u:Value} {l:List (Tm N)} {F:Nat→Prop},NewI W2 W3 F N u l→ItQ w0 (boxes W3 q (rowK R[j + 1]?) (rowV R[j + 1]?) x1 x2) q u l:=fun hn =>
  (ItQ.new (w0:=w0) hn h.hb.size (.inl hq2)).keep (fun g _ a b _=>t2 g a b) (by omega)
 exact ⟨(h.hb.trans (hb.mono h.hb.size)).trans (boxes_below h.hq (by have:=h.hb.size;omega)),h.hq,(h.own.below hb).same (fun g hg=>t2 g (by have:=(h.own.lt hg).1;omega) (by have:=(h.own.lt hg).1;omega)),h.abs,fun r hr=>⟨ki (h.it r hr).1,ki (h.it r hr).2⟩,t3,t4,kn h1,kn h2⟩
def WkP (R:List (Tm (N + 1) × Tm (N + 1))) (w:World) (e:Ending) (w':World):Prop:=∃ v rows,e = .returned (.tuple #[v,.bool true])∧Below w.heap.size w w'∧absRR rows = R∧RecAt rrL 18 w' w'.heap.size v rows∧∀ r ∈ rows,ItemsAt w' w'.heap.size N r.uk r.k.items∧ItemsAt w' w'.heap.size N r.uv r.v.items
theorem WkS.out {w0:World} {q:Nat} {vo u1 u2:Value} {rows:List (RRw N)} {j:Nat} (h:WkS w0 W q R j vo rows u1 u2) (hj:R.length ≤ j) {w:World} (hb:Below w.heap.size w w0):WkP R w (.returned (.tuple #[vo,.bool true])) W :=
 ⟨vo,rows,rfl,hb.trans (h.hb.mono hb.size),by rw [h.abs,List.take_of_length_le hj],h.own.row h.enc,fun r hr=>⟨(h.it r hr).1.at_,(h.it r hr).2.at_⟩⟩
end
section
variable {N:Nat} {w W W':World} {B z:Nat} {hs:Bool} {R:List (Tm (N + 1) × Tm (N + 1))}
def WkI (W1:World) (R:List (Tm (N + 1) × Tm (N + 1))) (q m:Nat) (ov kv ev:Value) (wr:World):Prop:=∃ j rows u1 u2,kv = .bool R[j]?.isSome∧ev = .int .i64 0∧j ≤ R.length∧m = R.length - j∧WkS W1 wr q R j ov rows u1 u2
theorem row_one {w0:World} {F:Nat→Prop} {u:Value} {t:Tm (N + 1)} (h:NewI w0 W F N u t.items):(nineL t.f u).toArray.all (·.oneCell') = true:=all_oneCell_toArray (nineL_one (in_one h.items))
theorem walk26 (h:StG B z (oneA hs R) w) (hR:R.length ≤ 1000000) {mx:Int} (hm:(R.length:Int) ≤ mx) :
 Calls Tryz.prog 26 #[.pointer (some ⟨z,0,none⟩),aggV (refT (N:=N) 1).f nilV,.int .i64 mx] w (WkP R w):=by
 obtain ⟨hsort,hgd⟩:=h.good _ (List.mem_singleton.2 rfl)
 dsimp only at hsort hgd
 have HFi:=Lib.hid (fun (W:World) (hW:Below w.heap.size w W)=>(show Calls Tryz.prog 39 #[.pointer (some ⟨z,0,none⟩),aggV (refT (N:=N) 1).f nilV] W (RowX (R[0]?,0) W) from by
  have:=g_first (h.below hW) (one_sm hR) (B2:=0) (Nat.zero_le _) (r:=refT 1) (flat_items W 0)
  rw [one_first] at this
  exact this))
 have HNx:=Lib.hid (fun (W:World) (hW:Below w.heap.size w W) (j:Nat) (x:Tm (N + 1) × Tm (N + 1)) (hx:R[j]? = some x) (u:Value) (hI:ItemsAt W W.heap.size N u x.1.items)=>(show Calls Tryz.prog 40 #[.pointer (some ⟨z,0,none⟩),aggV (refT (N:=N) 1).f nilV,aggV x.1.f u] W (RowX (R[j + 1]?,0) W) from by
  have hg:=hgd x (List.mem_of_getElem? hx)
  have:=g_next (h.below hW) (one_sm hR) (B2:=W.heap.size) (Nat.le_refl _) (r:=refT 1) (flat_items W _) hI hg.2.1
  rw [one_next hsort hx hg.1] at this
  exact this))
 clear h hsort hgd
 have hsz9:(Tryz.prog.info? 24).map (·.size) = some 9:=by kernel_rfl
 have HOut:=Lib.hid (fun (W0 W:World) (hb:Below w.heap.size w W0) (q j:Nat) (vo u1 u2:Value) (rows:List (RRw N)) (hS:WkS W0 W q R j vo rows u1 u2) (hj:R.length ≤ j)=>hS.out hj hb)
 generalize hPF:WkP R w = PF at *
 generalize (refT (N:=N) 1).f = fr at *
 obtain ⟨rk,ri,rg,rn,rf,ra,rb,rz⟩:=fr
 unfold aggV nilV at HFi HNx ⊢
 dsimp only at HFi HNx ⊢
 have hb1:=belowA (Below.refl w.heap.size w) (.cells #[.int .i64 rk,.int .i64 ri,.int .i64 rg,.string rn,.string rf,.int .i64 ra,.slice none 0 0,.string rb,.int .i64 rz] 24) (Nat.le_refl _)
 have hz1:=alloc_new w (.cells #[.int .i64 rk,.int .i64 ri,.int .i64 rg,.string rn,.string rf,.int .i64 ra,.slice none 0 0,.string rb,.int .i64 rz] 24)
 have HSz:=Lib.hid (Nat.lt_of_lt_of_le (Nat.lt_succ_self w.heap.size) (Nat.le_of_eq (World.size_alloc w (.cells #[.int .i64 rk,.int .i64 ri,.int .i64 rg,.string rn,.string rf,.int .i64 ra,.slice none 0 0,.string rb,.int .i64 rz] 24)).symm))
 go_enter Tryz.func26,Tryz.ntmps26
 go_upto_region 1 with (fail)
 generalize w.alloc (.cells #[.int .i64 rk,.int .i64 ri,.int .i64 rg,.string rn,.string rf,.int .i64 ra,.slice none 0 0,.string rb,.int .i64 rz] 24) = W1 at *
 have hl1:=(Array.getElem?_eq_some_iff.1 hz1).1
 have HB1:=Lib.hid hb1
 have HX:=Lib.hid (fun W (hW:Below W1.heap.size W1 W)=>row_rng (x:=[.int .i64 rk,.int .i64 ri,.int .i64 rg,.string rn,.string rf,.int .i64 ra,.slice none 0 0,.string rb,.int .i64 rz]) ((hW.block _ hl1).trans hz1))
 have HX1:=Lib.hid (HX.out _ (Below.refl _ _))
 clear hb1 hz1 hl1
 go_wp2_with (first
  | (refine wpList_load_mid rfl 24 (.tmp 4) rfl w.heap.size 0 rfl [.int .i64 rk,.int .i64 ri,.int .i64 rg,.string rn,.string rf,.int .i64 ra,.slice none 0 0,.string rb,.int .i64 rz] _ HX1.out Tryz.underlying24 rfl hsz9 ?_))
 refine (HFi.out _ HB1.out).mono ?_
 rintro e w2 ⟨F1,F2,x1,x2,rfl,hb2,hN1,hN2⟩
 have hone1:=row_one hN1
 have hone2:=row_one hN2
 have hS0:=WkS.start (R:=R) hb2 hN1 hN2 (c1:=#[.int .i64 0,.int .i64 0,.int .i64 0,.string ⟨#[]⟩,.string ⟨#[]⟩,.int .i64 0,.slice none 0 0,.string ⟨#[]⟩,.int .i64 0]) (c2:=#[.int .i64 0,.int .i64 0,.int .i64 0,.string ⟨#[]⟩,.string ⟨#[]⟩,.int .i64 0,.slice none 0 0,.string ⟨#[]⟩,.int .i64 0])
 obtain ⟨hw3,z1,z2⟩:=two_boxes w2 (.cells #[.int .i64 0,.int .i64 0,.int .i64 0,.string ⟨#[]⟩,.string ⟨#[]⟩,.int .i64 0,.slice none 0 0,.string ⟨#[]⟩,.int .i64 0] 24) (.cells #[.int .i64 0,.int .i64 0,.int .i64 0,.string ⟨#[]⟩,.string ⟨#[]⟩,.int .i64 0,.slice none 0 0,.string ⟨#[]⟩,.int .i64 0] 24)
 have z2':=(setRow_other ((w2.alloc (.cells #[.int .i64 0,.int .i64 0,.int .i64 0,.string ⟨#[]⟩,.string ⟨#[]⟩,.int .i64 0,.slice none 0 0,.string ⟨#[]⟩,.int .i64 0] 24)).alloc (.cells #[.int .i64 0,.int .i64 0,.int .i64 0,.string ⟨#[]⟩,.string ⟨#[]⟩,.int .i64 0,.slice none 0 0,.string ⟨#[]⟩,.int .i64 0] 24)) w2.heap.size (w2.heap.size + 1) (nineL (rowK R[0]?).f x1).toArray (by omega)).trans z2
 have HS0:=Lib.hid hS0
 have HZ1:=Lib.hid z1
 have HZ2:=Lib.hid z2'
 have H00:∀ W,WkS W1 W w2.heap.size R 0 (.slice none 0 0) [] x1 x2→Hid (WkI W1 R w2.heap.size R.length (.slice none 0 0) (.bool R[0]?.isSome) (.int .i64 0) W):=fun W hW=>Lib.hid ⟨0,[],x1,x2,rfl,rfl,Nat.zero_le _,rfl,hW⟩
 have H0:=Lib.hid (H00 _ hS0)
 clear H00 hS0 z1 z2 z2' hw3 hb2 hN1 hN2 HX1
 unfold boxes at H0
 generalize rowK R[0]? = tk at *
 generalize rowV R[0]? = tv at *
 clear HS0
 generalize tk.f = fa at *
 generalize tv.f = fb at *
 obtain ⟨ak,ai,ag,an,af,aa,ab,az⟩:=fa
 obtain ⟨bk,bi,bg,bn,bf,ba,bb,bz⟩:=fb
 unfold nineL at *
 dsimp only [List.size_toArray] at *
 generalize hq0:R[0]?.isSome = q0 at *
 go_wp2_with (first
  | (refine wpList_store_row rfl 24 (.tmp 9) (.tmp 17) rfl w2.heap.size #[.int .i64 ak,.int .i64 ai,.int .i64 ag,.string an,.string af,.int .i64 aa,x1,.string ab,.int .i64 az] rfl rfl 24 _ HZ1.out hsz9 rfl hone1 ?_)
  | (refine wpList_store_row rfl 24 (.tmp 10) (.tmp 18) rfl (w2.heap.size + 1) #[.int .i64 bk,.int .i64 bi,.int .i64 bg,.string bn,.string bf,.int .i64 ba,x2,.string bb,.int .i64 bz] rfl rfl 24 _ HZ2.out hsz9 rfl hone2 ?_))
 generalize w2.heap.size = q at *
 have H00:=H0.out
 clear H0 HZ1 HZ2 hone1 hone2
 go_loopg [8,11,12] R.length (fun m ov kv ev wr=>Hid (WkI W1 R q m ov kv ev wr))
 case atStart=>exact H00
 case round =>
  clear H00
  obtain ⟨j,rows,u1,u2,rfl,rfl,hj,hm2,hS⟩:=hrel.out
  clear hrel
  have HM:=Lib.hid hm2
  have hbw:=HB1.out.trans (hS.hb.mono HB1.out.size)
  cases hx:R[j]? with
  | none =>
   have hle:R.length ≤ j:=by
    rcases Nat.lt_or_ge j R.length with h | h
    ·rw [List.getElem?_eq_getElem h] at hx;cases hx
    ·exact h
   have HP:=Lib.hid (HOut.out _ _ HB1.out _ _ _ _ _ _ hS hle)
   clear hS hx hbw
   go_wp2_with fail
   exact HP.out
  | some x =>
   obtain ⟨k,v⟩:=x
   have hjl:j < R.length:=(List.getElem?_eq_some_iff.1 hx).1
   have hlen:rows.length = j:=by
    have h1:=congrArg List.length hS.abs
    unfold absRR at h1
    rw [List.length_map,List.length_take] at h1
    omega
   have hc1:¬ (mx < (j:Int)):=by omega
   obtain ⟨po,co,eo,_,_⟩:=hS.own.shape
   subst eo
   rw [hlen]
   have i1:=hS.i1
   have i2:=hS.i2
   have b1:=hS.b1
   have b2:=hS.b2
   rw [hx] at i1 i2 b1 b2
   have i1:ItQ W1 wr q u1 k.items:=i1
   have i2:ItQ W1 wr q u2 v.items:=i2
   have b1:wr.heap[q]? = some (.cells (nineL k.f u1).toArray 24):=b1
   have b2:wr.heap[q + 1]? = some (.cells (nineL v.f u2).toArray 24):=b2
   obtain ⟨p1,c1,e1,_,_⟩:=i1.at_.shape
   obtain ⟨p2,c2,e2,_,_⟩:=i2.at_.shape
   have hE:EncOK rrL 18 [(⟨k,v,u1,u2⟩:RRw N)]:=fun y hy=>by
    obtain rfl:=List.mem_singleton.1 hy
    exact ⟨rfl,fun u hu=>by
     unfold rrL at hu
     rcases List.mem_append.1 hu with hu | hu
     ·exact nineL_one (it_one i1.at_) u hu
     ·exact nineL_one (it_one i2.at_) u hu⟩
   have HE:=Lib.hid hE
   have HApp:=Lib.hid (fun (W W2:World) (vo':Value) (hb:Below wr.heap.size wr W) (hA:AppR rrL 55 18 W (q + 2) _ rows [⟨k,v,u1,u2⟩] vo' W2)=>hS.app hx hb hA)
   have HOwn:=Lib.hid (fun (W:World) (hb:Below wr.heap.size wr W)=>hS.own.below hb)
   have hqw:q + 2 ≤ wr.heap.size:=(Array.getElem?_eq_some_iff.1 b2).1
   have HQ:=Lib.hid hqw
   have HFresh:=Lib.hid (fun (W:World) (O:Obj) (hO:O = .cells ([(⟨k,v,u1,u2⟩:RRw N)].flatMap rrL).toArray 55)=>RecAt.fresh (w:=W.alloc O) hE (by decide) (by rw [← hO];exact alloc_new W O) (c:=1) (Nat.le_refl _) (by decide))
   have hcells:([(⟨k,v,u1,u2⟩:RRw N)].flatMap rrL) = nineL k.f u1 ++ nineL v.f u2:=by simp [rrL]
   rw [hcells] at HFresh
   have HNext:=Lib.hid (fun (W:World) (hW:Below w.heap.size w W) (hI:ItemsAt W W.heap.size N u1 k.items)=>HNx.out W hW j (k,v) hx u1 hI)
   have HStep:=Lib.hid (fun (W2 W3:World) (F1 F2:Nat→Prop) (vo x1 x2:Value) (rows:List (RRw N)) (h:WkM W1 W2 q R j vo rows u1 u2) (hb:Below W2.heap.size W2 W3) (h1:NewI W2 W3 F1 N x1 (rowK R[j + 1]?).items) (h2:NewI W2 W3 F2 N x2 (rowV R[j + 1]?).items)=>h.step hb h1 h2)
   have HMb:=Lib.hid (fun (W2:World) (vo:Value) (rows:List (RRw N)) (h:WkM W1 W2 q R j vo rows u1 u2)=>(show W2.heap[q]? = some (.cells (nineL k.f u1).toArray 24)∧W2.heap[q + 1]? = some (.cells (nineL v.f u2).toArray 24)∧ItemsAt W2 W2.heap.size N u1 k.items from by
    have h1:=h.b1
    have h2:=h.b2
    have h3:=h.i1
    rw [hx] at h1 h2 h3
    exact ⟨h1,h2,h3.at_⟩))
   clear hS hE hcells i1 i2 hx
   obtain ⟨rwE,hrwE⟩:∃ x:RRw N,x = ⟨k,v,u1,u2⟩:=⟨_,rfl⟩
   rw [← hrwE] at HApp HE HFresh
   clear hrwE
   rw [e1] at HFresh HNext HMb HApp HStep b1
   rw [e2] at HFresh HMb HApp HStep b2
   clear e1 e2
   dsimp only at HNext
   generalize k.items.length = n1 at *
   generalize v.items.length = n2 at *
   generalize hk0:k.f = fk at *
   generalize hv0:v.f = fv at *
   obtain ⟨kk,ki,kg,kn,kf,ka,kb,kz⟩:=fk
   obtain ⟨vk,vi,vg,vn,vf,va,vb,vz⟩:=fv
   unfold nineL at HFresh HMb b1 b2
   dsimp only at HFresh HMb b1 b2 HNext
   have HR1:=Lib.hid (row_rng b1)
   have HR2:=Lib.hid (row_rng b2)
   clear b1 b2 hbw
   have HOw:=Lib.hid (HOwn.out _ (belowA (Below.refl wr.heap.size wr) (.cells #[.int .i64 kk,.int .i64 ki,.int .i64 kg,.string kn,.string kf,.int .i64 ka,.slice p1 n1 c1,.string kb,.int .i64 kz,.int .i64 vk,.int .i64 vi,.int .i64 vg,.string vn,.string vf,.int .i64 va,.slice p2 n2 c2,.string vb,.int .i64 vz] 55) (Nat.le_refl _)))
   have HFr:=Lib.hid (HFresh.out wr (.cells #[.int .i64 kk,.int .i64 ki,.int .i64 kg,.string kn,.string kf,.int .i64 ka,.slice p1 n1 c1,.string kb,.int .i64 kz,.int .i64 vk,.int .i64 vi,.int .i64 vg,.string vn,.string vf,.int .i64 va,.slice p2 n2 c2,.string vb,.int .i64 vz] 55) rfl)
   have HLe:=Lib.hid hlen
   have hba:=belowA (Below.refl wr.heap.size wr) (.cells #[.int .i64 kk,.int .i64 ki,.int .i64 kg,.string kn,.string kf,.int .i64 ka,.slice p1 n1 c1,.string kb,.int .i64 kz,.int .i64 vk,.int .i64 vi,.int .i64 vg,.string vn,.string vf,.int .i64 va,.slice p2 n2 c2,.string vb,.int .i64 vz] 55) (Nat.le_refl _)
   have HBa:=Lib.hid hba
   have hqa:q + 2 ≤ (wr.alloc (.cells #[.int .i64 kk,.int .i64 ki,.int .i64 kg,.string kn,.string kf,.int .i64 ka,.slice p1 n1 c1,.string kb,.int .i64 kz,.int .i64 vk,.int .i64 vi,.int .i64 vg,.string vn,.string vf,.int .i64 va,.slice p2 n2 c2,.string vb,.int .i64 vz] 55)).heap.size:=Nat.le_trans hqw hba.size
   have HQa:=Lib.hid hqa
   clear hba hqa HOwn HFresh
   rw [hlen] at HOw HApp
   go_upto_region 6 with (fail)
   go_upto_region 7 with (first
    | (refine wpList_load_mid rfl 24 (.tmp 9) rfl q 0 rfl [.int .i64 kk,.int .i64 ki,.int .i64 kg,.string kn,.string kf,.int .i64 ka,.slice p1 n1 c1,.string kb,.int .i64 kz] _ HR1.out Tryz.underlying24 rfl hsz9 ?_)
    | (refine wpList_load_mid rfl 24 (.tmp 10) rfl (q + 1) 0 rfl [.int .i64 vk,.int .i64 vi,.int .i64 vg,.string vn,.string vf,.int .i64 va,.slice p2 n2 c2,.string vb,.int .i64 vz] _ HR2.out Tryz.underlying24 rfl hsz9 ?_)
    | (at_builtin;refine wpList_append_rec el55 rfl (.tmp 30) (.tmp 34) rfl rfl HOw.out HQa.out rfl HFr.out HE.out (by have:=HLe.out;simp;omega) ?_;intro vo' W5 hA))
   have hM:=HApp.out _ _ _ HBa.out hA
   have hbw5:=HB1.out.trans (hM.hb.mono HB1.out.size)
   obtain ⟨d1,d2,d3⟩:=HMb.out _ _ _ hM
   have HNc:=Lib.hid (HNext.out _ hbw5 d3)
   have HD1:=Lib.hid (row_rng d1)
   have HD12:=Lib.hid (And.intro d1 d2)
   have HX5:=Lib.hid (HX.out _ hM.hb)
   have HM5:=Lib.hid hM
   clear hA hM hbw5 d1 d2 d3 HApp HMb HNext HOw HFr HR1 HR2 HBa
   go_wp2_with (first
    | (refine wpList_load_mid rfl 24 (.tmp 9) rfl q 0 rfl [.int .i64 kk,.int .i64 ki,.int .i64 kg,.string kn,.string kf,.int .i64 ka,.slice p1 n1 c1,.string kb,.int .i64 kz] _ HD1.out Tryz.underlying24 rfl hsz9 ?_)
    | (refine wpList_load_mid rfl 24 (.tmp 4) rfl w.heap.size 0 rfl [.int .i64 rk,.int .i64 ri,.int .i64 rg,.string rn,.string rf,.int .i64 ra,.slice none 0 0,.string rb,.int .i64 rz] _ HX5.out Tryz.underlying24 rfl hsz9 ?_))
   refine HNc.out.mono ?_
   rintro e w6 ⟨F3,F4,y1,y2,rfl,hb6,hN1,hN2⟩
   have hone1:=row_one hN1
   have hone2:=row_one hN2
   have hS6:=HStep.out _ _ _ _ _ _ _ _ HM5.out hb6 hN1 hN2
   have hq1:=(Array.getElem?_eq_some_iff.1 HD12.out.1).1
   have hq2:=(Array.getElem?_eq_some_iff.1 HD12.out.2).1
   have z1:=(hb6.block _ hq1).trans HD12.out.1
   have z2:=(setRow_other w6 q (q + 1) (nineL (rowK R[j + 1]?).f y1).toArray (by omega)).trans ((hb6.block _ hq2).trans HD12.out.2)
   have HZ1:=Lib.hid z1
   have HZ2:=Lib.hid z2
   have H00:∀ W rows,WkS W1 W q R (j + 1) vo' rows y1 y2→Hid (WkI W1 R q (R.length - (j + 1)) vo' (.bool R[j + 1]?.isSome) (.int .i64 0) W):=fun W rows hW=>Lib.hid ⟨j + 1,rows,y1,y2,rfl,rfl,hjl,rfl,hW⟩
   have H0:=Lib.hid (H00 _ _ hS6)
   clear H00 hS6 z1 z2 hb6 hN1 hN2 HStep HM5 HNc HD1 HD12 hq1 hq2 HX5
   unfold boxes at H0
   generalize rowK R[j + 1]? = tk at *
   generalize rowV R[j + 1]? = tv at *
   generalize tk.f = fa at *
   generalize tv.f = fb at *
   obtain ⟨ak,ai,ag,an,af,aa,ab,az⟩:=fa
   obtain ⟨bk,bi,bg,bn,bf,ba,bb,bz⟩:=fb
   unfold nineL at H0 HZ1 HZ2 hone1 hone2
   dsimp only [List.size_toArray] at H0 HZ1 HZ2 hone1 hone2
   generalize hq0:R[j + 1]?.isSome = q1 at *
   go_wp2_with (first
    | (refine wpList_store_row rfl 24 (.tmp 9) (.tmp 41) rfl q #[.int .i64 ak,.int .i64 ai,.int .i64 ag,.string an,.string af,.int .i64 aa,y1,.string ab,.int .i64 az] rfl rfl 24 _ HZ1.out hsz9 rfl hone1 ?_)
    | (refine wpList_store_row rfl 24 (.tmp 10) (.tmp 42) rfl (q + 1) #[.int .i64 bk,.int .i64 bi,.int .i64 bg,.string bn,.string bf,.int .i64 ba,y2,.string bb,.int .i64 bz] rfl rfl 24 _ HZ2.out hsz9 rfl hone2 ?_))
   go_roundg (R.length - (j + 1))
   case measure=>omega
   case rel=>exact H0.out
end
theorem valid_flatN {N:Nat} {f:TF} (h1:inB f.kind 0 10 = true) (h2:okF f 0 (lastK N ([]:List (Tm N))) = true) (h3:{ bareF f with kind:=0 } = zeroF) (h4:sizeF f 0 ≤ 2000):validT (Tm.mk (n:=N) f []) = true:=by
 have e1:(Tm.mk (n:=N) f []).f = f:=rfl
 have e2:(Tm.mk (n:=N) f []).items = []:=rfl
 have h3':bareOK f 0 = true:=by
  unfold bareOK
  rw [eqB_t h3]
  simp
 have e3:formedL N [] = true:=by unfold formedL;cases N <;> rfl
 have e4:wholeL N [] = 0:=by unfold wholeL;cases N <;> rfl
 unfold validT formedT okT wholeT
 rw [e1,e2,e3,e4]
 simp only [List.length_nil,h1,h2,h3',Bool.and_self,Bool.true_and,decide_eq_true_eq]
 omega
theorem lastK_nil {N:Nat}:lastK N ([]:List (Tm N)) = lastK 0 ([]:List (Tm 0)):=by cases N <;> rfl
theorem ref_validN {N:Nat} (k:Int) (h:1 ≤ k∧k ≤ 1000):validT (refT (N:=N) k) = true:=by
 refine valid_flatN (by kernel_rfl) ?_ rfl (by show (1:Int) ≤ 2000;decide)
 rw [lastK_nil]
 have h1:inB k 1 1000 = true:=by unfold inB;simp;omega
 unfold okF
 simp only
 have hv:vName nmN = true:=by kernel_rfl
 have h2:∀ a b:Int,a ≤ 1→1000 ≤ b→inB k a b = true:=fun a b ha hb=>by unfold inB;simp;omega
 have h5:inB 1 1 2147483647 = true:=by kernel_rfl
 simp [h2,hv,h5]
 try (unfold inB;simp;omega)
theorem pid_validN {N:Nat} (k:Int) (h:1 ≤ k∧k ≤ 1000):validT (pidT (N:=N) k) = true:=by
 refine valid_flatN (by kernel_rfl) ?_ rfl (by show (1:Int) ≤ 2000;decide)
 rw [lastK_nil]
 unfold okF
 simp only
 have hv:vName nmN = true:=by kernel_rfl
 have h2:∀ a b:Int,a ≤ 1→1000 ≤ b→inB k a b = true:=fun a b ha hb=>by unfold inB;simp;omega
 have h5:inB 1 1 2147483647 = true:=by kernel_rfl
 simp [h2,hv,h5]
 try (unfold inB;simp;omega)
theorem flat_nodesN {N:Nat} (f:TF):nodesT (Tm.mk (n:=N) f []) ≤ 100000000:=by
 unfold nodesT
 have:(Tm.mk (n:=N) f []).items = []:=rfl
 rw [this]
 cases N <;> (unfold nodesL;simp)
section
variable {N:Nat}
def two {N:Nat} (hs:Bool) (R:List (Tm (N + 1) × Tm (N + 1))):List (TabA N):=[⟨refT 1,pidT 1,hs,R⟩,⟨refT 2,pidT 1,!hs,[]⟩]
variable {hs:Bool} {R:List (Tm (N + 1) × Tm (N + 1))} {k v:Tm (N + 1)}
theorem two_make1:makeE ([]:List (TabA N)) (refT 1) (pidT 1) = 0:=by
 unfold makeE refA
 rw [ref_validN 1 (by decide),pid_validN 1 (by decide)]
 rfl
theorem two_make1A (hs:Bool):makeA ([]:List (TabA N)) (refT 1) (pidT 1) hs = [⟨refT 1,pidT 1,hs,[]⟩]:=by unfold makeA;rw [if_pos two_make1];rfl
structure GoodR (hs:Bool) (R:List (Tm (N + 1) × Tm (N + 1))):Prop where
 sd:SortR (cmpH hs) R
 vd:∀ x ∈ R,Vd x.1
theorem GoodR.nil:GoodR (N:=N) hs []:=⟨List.Pairwise.nil,fun x hx=>(nomatch hx)⟩
theorem GoodR.put (h:GoodR hs R) (hk:validT k = true) (v:Tm (N + 1)):GoodR hs (putR (cmpH hs) R k v):=by
 refine ⟨putR_sort (ordH hs) h.sd hk h.vd v,fun x hx=>?_⟩
 obtain ⟨a,b⟩:=x
 rcases (putR_mem (ordH hs) h.sd hk h.vd v a b).1 hx with ⟨rfl,_⟩ | ⟨_,hx⟩
 ·exact hk
 ·exact h.vd _ hx
theorem GoodR.del (h:GoodR hs R):GoodR hs (delR (cmpH hs) R k):=by
 refine ⟨delR_sort h.sd,fun x hx=>?_⟩
 obtain ⟨a,b⟩:=x
 exact h.vd _ ((delR_mem (ordH hs) h.sd a b).1 hx).2
theorem GoodR.has (h:GoodR hs R):hasR (cmpH hs) R k = true↔∃ v,getR (cmpH hs) R k = some v:=by
 rw [hasR_iff (ordH hs) h.sd]
 exact ⟨fun ⟨v,hv⟩=>⟨v,(getR_iff (ordH hs) h.sd).2 hv⟩,fun ⟨v,hv⟩=>⟨v,(getR_iff (ordH hs) h.sd).1 hv⟩⟩
end
structure LSt {N:Nat} (w:World) (z:Nat) (A:List (TabA N)) (W:World):Prop where
 st:StG w.heap.size z A W
 tt:TT progT w.heap.size w W
section
variable {N:Nat} {w W W':World} {z:Nat} {A A':List (TabA N)}
theorem LSt.below (h:LSt w z A W) (hb:Below W.heap.size W W'):LSt w z A W':=⟨h.st.below hb,h.tt.ofBelow hb⟩
theorem LSt.base (h:LSt w z A W):Below w.heap.size w W:=h.tt.below (Nat.le_refl _)
theorem LSt.size (h:LSt w z A W):w.heap.size ≤ W.heap.size:=h.base.size
theorem l_new (hb:Below w.heap.size w W):Calls Tryz.prog 16 #[] W fun e w'=>∃ z,e = .returned (.pointer (some ⟨z,0,none⟩))∧LSt (N:=N) w z [] w':=by
 refine (new16 (N:=N) W w.heap.size hb.size).mono ?_
 rintro e w' ⟨rfl,h1,h2⟩
 exact ⟨_,rfl,⟨_,nilV,[],h1,rfl,fun t ht=>(nomatch ht)⟩,(TT.new hb).ofBelow h2⟩
variable {hs:Bool} {l:List (Tm (N + 1))} {R:List (Tm (N + 1) × Tm (N + 1))} {U:List (Tm (N + 1))}
end
structure WSt {N:Nat} (w:World) (z y:Nat) (A1 A2:List (TabA N)) (W:World):Prop where
 st:StG w.heap.size z A1 W
 rf:RfG w.heap.size y A2 W
 hb:Below w.heap.size w W
noncomputable def dR {N:Nat} (hs:Bool) (R:List (Tm (N + 1) × Tm (N + 1))) (k:Tm (N + 1)):List (Tm (N + 1) × Tm (N + 1)):=if validT k then delR (cmpH hs) R k else R
noncomputable def pR {N:Nat} (hs:Bool) (R:List (Tm (N + 1) × Tm (N + 1))) (k v:Tm (N + 1)):List (Tm (N + 1) × Tm (N + 1)):=if validT v && validT k then putR (cmpH hs) R k v else R
section
variable {N:Nat} {w W W':World} {z y:Nat} {A1 A2:List (TabA N)} {hs:Bool} {R:List (Tm (N + 1) × Tm (N + 1))} {k v:Tm (N + 1)} {uk uv:Value}
theorem WSt.below (h:WSt w z y A1 A2 W) (hb:Below W.heap.size W W'):WSt w z y A1 A2 W':=⟨h.st.below hb,h.rf.below hb,h.hb.trans (hb.mono h.hb.size)⟩
theorem WSt.size (h:WSt w z y A1 A2 W):w.heap.size ≤ W.heap.size:=h.hb.size
theorem one_upd (f:TabA N→List (Tm (N + 1) × Tm (N + 1))):updA (oneA hs R) (refT 1) f = oneA hs (f ⟨refT 1,pidT 1,hs,R⟩):=by
 unfold updA
 rw [one_ref]
 rfl
theorem one_putA:putA (oneA hs R) (refT 1) k v = oneA hs (pR hs R k v):=by
 unfold putA pR
 cases validT v && validT k
 ·rfl
 ·rw [if_pos rfl,if_pos rfl,one_upd]
theorem one_delA:delA (oneA hs R) (refT 1) k = oneA hs (dR hs R k):=by
 unfold delA dR
 cases validT k
 ·rfl
 ·rw [if_pos rfl,if_pos rfl,one_upd]
theorem dR_len:(dR hs R k).length ≤ R.length:=by
 unfold dR
 split
 ·rw [delR_len]
  split <;> omega
 ·exact Nat.le_refl _
theorem pR_len:(pR hs R k v).length ≤ R.length + 1:=by
 unfold pR
 split
 ·have h:=posR_le (c:=cmpH hs) R k
  unfold putR
  rw [List.length_append,List.length_cons,List.length_take,List.length_drop]
  split <;> omega
 ·exact Nat.le_succ _
theorem WSt.bd (h:WSt w z y (oneA hs R) A2 W) (hR:R.length ≤ 1000000):BdA (oneA hs R):=⟨one_sm hR,fun a ha=>by
 obtain rfl:=List.mem_singleton.1 ha
 exact ⟨flat_nodesN _,flat_nodesN _,fun x hx=>((h.st.good _ (List.mem_singleton.2 rfl)).2 x hx).2⟩⟩
theorem WSt.start (h:LSt (N:=N) w z [] W):WSt (N:=N) w z W.heap.size [] [] (W.alloc (.cells #[.slice none 0 0] 39)):=by
 have hb:=belowA (Below.refl W.heap.size W) (.cells #[.slice none 0 0] 39) (Nat.le_refl _)
 refine ⟨h.st.below hb,⟨.slice none 0 0,[],⟨alloc_new W _,RecOwn.nil _ _ _,fun t ht=>(nomatch ht),h.size⟩,rfl⟩,h.base.trans (hb.mono h.size)⟩
theorem w_make1 (h:WSt (N:=N) w z y [] [] W) (hs:Bool):Calls Tryz.prog 17 #[.pointer (some ⟨z,0,none⟩),aggV (refT (N:=N) 1).f nilV,aggV (pidT (N:=N) 1).f nilV,.bool hs] W fun e w'=>e = .returned (.int .i64 0)∧WSt (N:=N) w z y (oneA hs []) [] w':=by
 have e1:=two_make1 (N:=N)
 have e2:=two_make1A (N:=N) hs
 refine (g_make h.st ⟨by simp,fun a ha=>(nomatch ha)⟩ h.size (B2:=0) (Nat.zero_le _) (r:=refT 1) (o:=pidT 1) (flat_items W 0) (flat_items W 0) (flat_nodesN _) (flat_nodesN _) hs).mono ?_
 rintro e w' ⟨rfl,h3,h4⟩
 have h3:StG w.heap.size z (oneA hs []) w':=e2 ▸ h3
 exact ⟨by rw [show makeE (N:=N) [] (refT 1) (pidT 1) = 0 from e1],h3,h.rf.prog h4,h.hb.trans (h4.below h.size)⟩
theorem bd_nil:BdA (N:=N) []:=⟨⟨by simp,fun a ha=>(nomatch ha)⟩,fun a ha=>(nomatch ha)⟩
theorem w_make2 (h:WSt (N:=N) w z y (oneA hs []) [] W):Calls Tryz.prog 20 #[.pointer (some ⟨y,0,none⟩),aggV (refT (N:=N) 1).f nilV,aggV (pidT (N:=N) 1).f nilV,.bool hs] W fun e w'=>e = .returned (.int .i64 0)∧WSt (N:=N) w z y (oneA hs []) (oneA hs []) w':=by
 have e1:=two_make1 (N:=N)
 have e2:rmakeA (N:=N) [] (refT 1) (pidT 1) hs = oneA hs []:=by
  unfold rmakeA
  rw [if_pos (show makeE (N:=N) [] (refT 1) (pidT 1) = 0 from e1)]
  rfl
 refine (r_make h.rf bd_nil (r:=refT 1) (o:=pidT 1) (flat_items W _) (flat_items W _) (flat_nodesN _) (flat_nodesN _) hs).mono ?_
 rintro e w' ⟨rfl,h3,h4⟩
 rw [e2] at h3
 exact ⟨by rw [show makeE (N:=N) [] (refT 1) (pidT 1) = 0 from e1],h.st.ref h4,h3,h.hb.trans (h4.below h.size)⟩
theorem w_del1 (h:WSt w z y (oneA hs R) A2 W) (hR:R.length ≤ 1000000) (hI:ItemsAt W w.heap.size N uk k.items) (hn:nodesT k ≤ 100000000) :
 Calls Tryz.prog 22 #[.pointer (some ⟨z,0,none⟩),aggV (refT (N:=N) 1).f nilV,aggV k.f uk] W fun e w'=>(∃ b er,e = .returned (.tuple #[.bool b,.int .i64 er]))∧WSt w z y (oneA hs (dR hs R k)) A2 w'∧TT progT w.heap.size W w':=by
 refine (g_del h.st (one_sm hR) (B2:=w.heap.size) h.size (r:=refT 1) (flat_items W _) hI hn).mono ?_
 rintro e w' ⟨rfl,h3,h4⟩
 rw [one_delA] at h3
 exact ⟨⟨_,_,rfl⟩,⟨h3,h.rf.prog h4,h.hb.trans (h4.below h.size)⟩,h4⟩
theorem w_del2 (h:WSt w z y A1 (oneA hs R) W) (hBd:BdA (oneA hs R)) (hI:ItemsAt W w.heap.size N uk k.items) (hn:nodesT k ≤ 100000000) :
 Calls Tryz.prog 23 #[.pointer (some ⟨y,0,none⟩),aggV (refT (N:=N) 1).f nilV,aggV k.f uk] W fun e w'=>(∃ b er,e = .returned (.tuple #[.bool b,.int .i64 er]))∧WSt w z y A1 (oneA hs (dR hs R k)) w'∧TT refT3 w.heap.size W w':=by
 refine (r_del h.rf hBd (r:=refT 1) (flat_items W _) hI hn).mono ?_
 rintro e w' ⟨rfl,h3,h4⟩
 rw [one_delA] at h3
 exact ⟨⟨_,_,rfl⟩,⟨h.st.ref h4,h3,h.hb.trans (h4.below h.size)⟩,h4⟩
theorem one_putE:∃ n:Int,∀ R,putE (oneA hs R) (refT 1) k v = n:=by
 refine ⟨putE (oneA hs []) (refT 1) k v,fun R=>?_⟩
 unfold putE
 rw [one_ref,one_ref]
theorem w_put1 (h:WSt w z y (oneA hs R) A2 W) (hR:R.length ≤ 1000000) (hI:ItemsAt W w.heap.size N uk k.items) (hV:ItemsAt W w.heap.size N uv v.items) (hn:nodesT k ≤ 100000000) (hnv:nodesT v ≤ 100000000) {n:Int} (he:∀ R,putE (oneA hs R) (refT 1) k v = n) :
 Calls Tryz.prog 24 #[.pointer (some ⟨z,0,none⟩),aggV (refT (N:=N) 1).f nilV,aggV k.f uk,aggV v.f uv] W fun e w'=>e = .returned (.int .i64 n)∧WSt w z y (oneA hs (pR hs R k v)) A2 w'∧TT progT w.heap.size W w':=by
 refine (g_put h.st (one_sm hR) h.size (B2:=w.heap.size) (Nat.le_refl _) (r:=refT 1) (flat_items W _) hI hV hn hnv).mono ?_
 rintro e w' ⟨rfl,h3,h4⟩
 rw [one_putA] at h3
 exact ⟨by rw [he],⟨h3,h.rf.prog h4,h.hb.trans (h4.below h.size)⟩,h4⟩
theorem w_put2 (h:WSt w z y A1 (oneA hs R) W) (hBd:BdA (oneA hs R)) (hI:ItemsAt W w.heap.size N uk k.items) (hV:ItemsAt W w.heap.size N uv v.items) (hn:nodesT k ≤ 100000000) (hnv:nodesT v ≤ 100000000) {n:Int} (he:∀ R,putE (oneA hs R) (refT 1) k v = n) :
 Calls Tryz.prog 25 #[.pointer (some ⟨y,0,none⟩),aggV (refT (N:=N) 1).f nilV,aggV k.f uk,aggV v.f uv] W fun e w'=>e = .returned (.int .i64 n)∧WSt w z y A1 (oneA hs (pR hs R k v)) w'∧TT refT3 w.heap.size W w':=by
 refine (r_put h.rf hBd (r:=refT 1) (flat_items W _) hI hV hn hnv).mono ?_
 rintro e w' ⟨rfl,h3,h4⟩
 rw [one_putA] at h3
 exact ⟨by rw [he],⟨h.st.ref h4,h3,h.hb.trans (h4.below h.size)⟩,h4⟩
theorem WSt.rows (h:WSt w z y A1 (oneA hs R) W):∃ g o c vr rows,W.cell? ⟨y,0,none⟩ = some (.slice (some ⟨g,o,none⟩) 1 c)∧W.cell? ⟨g,o + 19,none⟩ = some vr∧absRR rows = R∧RecAt rrL 18 W W.heap.size vr rows∧∀ r ∈ rows,ItemsAt W W.heap.size N r.uk r.k.items∧ItemsAt W W.heap.size N r.uv r.v.items:=by
 obtain ⟨lv,T,h1,h2⟩:=h.rf
 have hT:∃ t,T = [t]∧absRT t = ⟨refT 1,pidT 1,hs,R⟩:=by
  cases T with
  | nil=>cases h2
  | cons t T' =>
   cases T' with
   | nil=>exact ⟨t,rfl,(List.cons.inj h2).1⟩
   | cons t2 T2=>cases (List.cons.inj h2).2
 obtain ⟨t,rfl,h3⟩:=hT
 have ht:=h1.tabs t (List.mem_singleton.2 rfl)
 have hrow:=h1.l.row h1.enc
 obtain ⟨p,c,e,_,_⟩:=h1.l.shape
 rw [e] at hrow
 have ho:=h1.obj
 rw [e] at ho
 obtain ⟨g,o,ep,_,hr⟩:=rec_rng hrow (i:=0) (by simp)
 rw [ep] at ho
 have h5:=congrArg TabA.rows h3
 refine ⟨g,o,c,t.vr,t.rows,cells_row ho 0 _ rfl,?_,h5,ht.rows.row ht.enc,fun r hr=>⟨(ht.irow r hr).1.more h1.blt,(ht.irow r hr).2.more h1.blt⟩⟩
 have hl:(rtL t)[19]? = some t.vr:=by
  unfold rtL
  rw [List.getElem?_append_right (by show 9 ≤ 19;decide),List.getElem?_append_right (by show 9 ≤ 19 - 9;decide)]
  rfl
 have:=hr 19 t.vr hl
 rwa [Nat.zero_mul,Nat.add_zero] at this
theorem w_walk (h:WSt w z y (oneA hs R) A2 W) (hR:R.length ≤ 1000000) {mx:Int} (hm:(R.length:Int) ≤ mx):Calls Tryz.prog 26 #[.pointer (some ⟨z,0,none⟩),aggV (refT (N:=N) 1).f nilV,.int .i64 mx] W (WkP R W):=walk26 h.st hR hm
end
theorem valid_flat {f:TF} (h1:inB f.kind 0 10 = true) (h2:okF f 0 (lastK 0 ([]:List (Tm 0))) = true) (h3:{ bareF f with kind:=0 } = zeroF) (h4:sizeF f 0 ≤ 2000):validT (Tm.mk (n:=0) f []) = true:=by
 have e1:(Tm.mk (n:=0) f []).f = f:=rfl
 have e2:(Tm.mk (n:=0) f []).items = []:=rfl
 have h3':bareOK f 0 = true:=by
  unfold bareOK
  rw [eqB_t h3]
  simp
 unfold validT formedT okT wholeT formedL wholeL
 rw [e1,e2]
 simp only [List.length_nil,h1,h2,h3',Bool.and_self,Bool.true_and,decide_eq_true_eq]
 omega
def aN:ByteArray:=⟨#[97]⟩
theorem ref_valid:validT (refT (N:=0) 1) = true:=valid_flat (by kernel_rfl) (by kernel_rfl) rfl (by show (1:Int) ≤ 2000;decide)
theorem pid_valid:validT (pidT (N:=0) 1) = true:=valid_flat (by kernel_rfl) (by kernel_rfl) rfl (by show (1:Int) ≤ 2000;decide)
theorem int_valid (k:Int):validT (intT (N:=0) k) = true:=valid_flat (by kernel_rfl) (by kernel_rfl) rfl (by show (1:Int) ≤ 2000;decide)
theorem atom_valid:validT (atomT (N:=0) aN) = true:=valid_flat (by kernel_rfl) (by kernel_rfl) rfl (by show (1:Int) ≤ 2000;decide)
theorem cmp_a3:cmpV (atomT (N:=0) aN) (intT 3) = 1:=by
 unfold cmpV
 rw [atom_valid,int_valid]
 kernel_rfl
theorem ne_a3:atomT (N:=0) aN ≠ intT 3:=fun e=>by
 have:=congrArg (fun t=>t.f.kind) e
 exact absurd this (by decide)
abbrev R1:Tm (0 + 1):=refT 1
abbrev P1:Tm (0 + 1):=pidT 1
abbrev A1:Tm (0 + 1):=atomT aN
abbrev I1:Tm (0 + 1):=intT 1
abbrev I3:Tm (0 + 1):=intT 3
def StR (B z:Nat) (l:List (Tm (0 + 1) × Tm (0 + 1))) (W:World):Prop:=∃ F vl t,TbAt W B F ⟨z,vl,[t]⟩∧t.ref = R1∧t.hs = false∧t.rows.map (fun r=>(r.k,r.v)) = l
section
variable {B z:Nat} {l:List (Tm (0 + 1) × Tm (0 + 1))} {W W':World}
theorem StR.below (h:StR B z l W) (hb:Below W.heap.size W W'):StR B z l W':=by
 obtain ⟨F,vl,t,h1,h2⟩:=h
 exact ⟨F,vl,t,h1.below hb,h2⟩
theorem ref_one {t:TabE 0} (h:t.ref = R1):refAt [t] R1 = some 0:=by
 unfold refAt
 rw [List.findIdx?_cons,eqB_t h]
 rfl
theorem c_make {F:Nat→Prop} (h:TbAt W B F ⟨z,nilV,([]:List (TabE 0))⟩) (hB:B ≤ W.heap.size):Calls Tryz.prog 17 #[.pointer (some ⟨z,0,none⟩),aggV R1.f nilV,aggV P1.f nilV,.bool false] W fun e w'=>e = .returned (.int .i64 0)∧StR B z [] w'∧TT progT B W w':=by
 refine (make17y h hB (by simp) (Nat.zero_le B) (flat_items W 0) (flat_items W 0) (by decide) (by decide) ref_valid pid_valid rfl rfl false (by simp) rfl).mono ?_
 rintro e w' ⟨rfl,F1,ur,uo,vl,b,h1,h2,_⟩
 exact ⟨rfl,⟨F1,vl,_,h1,rfl,rfl,rfl⟩,h2⟩
theorem c_twice (h:StR B z l W) (hB:B ≤ W.heap.size) (hs:Bool):Calls Tryz.prog 17 #[.pointer (some ⟨z,0,none⟩),aggV R1.f nilV,aggV P1.f nilV,.bool hs] W fun e w'=>e = .returned (.int .i64 8)∧Below W.heap.size W w':=by
 obtain ⟨F,vl,t,h1,h2,_,_⟩:=h
 exact make17t h1 hB (by simp) (Nat.zero_le B) (flat_items W 0) (flat_items W 0) (by decide) (by decide) ref_valid pid_valid rfl rfl hs (i:=0) (by simp) (ref_one h2)
theorem c_put (h:StR B z l W) (hB:B ≤ W.heap.size) {k v:Tm (0 + 1)} (hk:nodesT k ≤ 100000000) (hv:nodesT v ≤ 100000000) (hki:k.items = []) (hvi:v.items = []) (h1:validT k = true) (h2:validT v = true) (hno:∀ x ∈ l,x.1 ≠ k∧¬ cmpV x.1 k < 0∧nodesT x.1 ≤ 100000000) (hl:l.length ≤ 1) :
 Calls Tryz.prog 24 #[.pointer (some ⟨z,0,none⟩),aggV R1.f nilV,aggV k.f nilV,aggV v.f nilV] W fun e w'=>e = .returned (.int .i64 0)∧StR B z ((k,v) :: l) w'∧TT progT B W w':=by
 obtain ⟨F,vl,t,hT,hr,hs,hrows⟩:=h
 have hlen:t.rows.length = l.length:=by rw [← hrows,List.length_map]
 have hmem:∀ x ∈ t.rows,x.k ≠ k∧¬ cmpV x.k k < 0∧nodesT x.k ≤ 100000000:=fun x hx=>hno (x.k,x.v) (by rw [← hrows];exact List.mem_map.2 ⟨x,hx,rfl⟩)
 have hok:FindOK t k:=⟨fun x hx=>by have:=(hmem x hx).2.2;omega,by omega,fun i j hj hi=>by omega⟩
 have hpos:posK t k = 0:=by
  unfold posK keyAt
  cases hq:t.rows with
  | nil=>rfl
  | cons x xs =>
   have hx:=hmem x (by rw [hq];exact List.mem_cons_self)
   have:befB t.hs x.k k x.h (hK t.hs k) = false:=by
    unfold befB
    rw [hs,if_neg (by decide),decide_eq_false hx.2.1]
   rw [List.findIdx_cons,this]
   rfl
 have hhas:hasK t k = false:=by
  unfold hasK
  rw [hpos]
  cases hq:t.rows with
  | nil=>rfl
  | cons x xs =>
   have hx:=hmem x (by rw [hq];exact List.mem_cons_self)
   exact eqB_f hx.1
 have hIk:ItemsAt W 0 0 nilV k.items:=by rw [hki];exact flat_items W 0
 have hIv:ItemsAt W 0 0 nilV v.items:=by rw [hvi];exact flat_items W 0
 refine (put24y hT hB (by simp) (Nat.zero_le B) (flat_items W 0:ItemsAt W 0 0 nilV R1.items) hIk hIv hk hv h1 h2 (i:=0) (by simp) (ref_one hr) hok).mono ?_
 rintro e w' ⟨rfl,F1,uk,uv,vr,hq⟩
 obtain ⟨h3,h4⟩:=hq.upd hT (i:=0) (by simp)
 refine ⟨rfl,⟨F1,vl,_,h3,hr,hs,?_⟩,h4⟩
 show (setV (midRows t k uk) (posK t k) v uv).map (fun r=>(r.k,r.v)) = (k,v) :: l
 unfold midRows
 rw [hhas,if_neg (by decide),hpos]
 unfold insK setV
 simp only [List.take_zero,List.nil_append,List.singleton_append,List.drop_zero,List.getElem?_cons_zero,List.set_cons_zero,List.map_cons,hrows,newRow]
theorem c_first {k v:Tm (0 + 1)} (h:StR B z ((k,v) :: l) W) (hk:nodesT k ≤ 100000000) (hv:nodesT v ≤ 100000000):Calls Tryz.prog 39 #[.pointer (some ⟨z,0,none⟩),aggV R1.f nilV] W (RowP k v W):=by
 obtain ⟨F,vl,t,hT,hr,hs,hrows⟩:=h
 have h0:0 < t.rows.length:=by
  have:=congrArg List.length hrows
  simp at this
  omega
 have hrow:((t.rows[0]).k,(t.rows[0]).v) = (k,v):=by
  have:=congrArg (fun x=>x[0]?) hrows
  simp only [List.getElem?_map,List.getElem?_cons_zero,List.getElem?_eq_getElem h0,Option.map_some] at this
  exact Option.some.inj this
 simp only [Prod.mk.injEq] at hrow
 obtain ⟨e1,e2⟩:=hrow
 have:=first39y hT (by simp) (Nat.zero_le W.heap.size) (flat_items W 0:ItemsAt W 0 0 nilV R1.items) (i:=0) (by simp) (ref_one hr) h0 (e1.symm ▸ hk:nodesT (t.rows[0]).k ≤ 100000000) (e2.symm ▸ hv:nodesT (t.rows[0]).v ≤ 100000000)
 simp only [List.getElem_cons_zero,e1,e2] at this
 exact this
theorem c_size (h:StR B z l W):Calls Tryz.prog 31 #[.pointer (some ⟨z,0,none⟩),aggV R1.f nilV] W fun e w'=>e = .returned (.tuple #[.int .i64 l.length,.int .i64 0])∧Below W.heap.size W w':=by
 obtain ⟨F,vl,t,hT,hr,hs,hrows⟩:=h
 have hlen:t.rows.length = l.length:=by rw [← hrows,List.length_map]
 refine size31 hT (by simp) (Nat.zero_le W.heap.size) (flat_items W 0:ItemsAt W 0 0 nilV R1.items) (n:=l.length) (er:=0) (.inr ⟨0,by simp,ref_one hr,?_,rfl⟩)
 show (l.length:Int) = (t.rows.length:Int)
 rw [hlen]
end
theorem ld2 (w:World) (a:Addr) (v:Value) (h:w.cell? a = some v):(loadVar 2 a).run Tryz.prog w = .ok v w:=by
 go_simp
theorem ld9 (w:World) (a:Addr) (v:Value) (h:w.cell? a = some v):(loadVar 9 a).run Tryz.prog w = .ok v w:=by
 go_simp
theorem shown9 (w:World):Calls Tryz.prog 9 #[] w (BPost true w):=by
 have HRf:=Lib.hid (fun W=>ref18 (N:=0) 1 W)
 have HPd:=Lib.hid (fun W=>pid19 (N:=0) 1 W)
 have HI1:=Lib.hid (fun W=>int29 (N:=0) 1 W)
 have HI3:=Lib.hid (fun W=>int29 (N:=0) 3 W)
 have HAt:=Lib.hid (fun W=>atom43 (N:=0) ⟨#[97]⟩ W)
 have HNew:=Lib.hid (new16 (N:=0) w w.heap.size (Nat.le_refl _))
 have HMk:=Lib.hid (fun W F (h:TbAt W w.heap.size F ⟨w.heap.size,nilV,([]:List (TabE 0))⟩) hB=>c_make h hB)
 have HTw:=Lib.hid (fun W (h:StR w.heap.size w.heap.size [] W) hB=>c_twice h hB true)
 have HP1:=Lib.hid (fun W (h:StR w.heap.size w.heap.size [] W) hB=>c_put h hB (k:=A1) (v:=I1) (by decide) (by decide) rfl rfl atom_valid (int_valid 1) (fun x hx=>by cases hx) (by decide))
 have HP2:=Lib.hid (fun W (h:StR w.heap.size w.heap.size [(A1,I1)] W) hB=>c_put h hB (k:=I3) (v:=A1) (by decide) (by decide) rfl rfl (int_valid 3) atom_valid (fun x hx=>by
  obtain rfl:x = (A1,I1):=by simpa using hx
  exact ⟨ne_a3,by rw [cmp_a3];decide,by decide⟩) (by decide))
 have HFs:=Lib.hid (fun W (h:StR w.heap.size w.heap.size [(I3,A1),(A1,I1)] W)=>c_first h (by decide) (by decide))
 have HSz:=Lib.hid (fun W (h:StR w.heap.size w.heap.size [(I3,A1),(A1,I1)] W)=>c_size h)
 have HH:=Lib.hid (fun W=>Hash12 (n:=0) W 0 nilV A1 (Nat.zero_le _) (flat_items W 0) (by decide))
 have HR:=Lib.hid (fun W=>RHash13 (n:=0) W 0 nilV A1 (Nat.zero_le _) (flat_items W 0) (by decide))
 have HOne:Hid (∀ (W W':World) G u (k:Tm (0 + 1)),NewI W W' G 0 u k.items→u.oneCell' = true):=Lib.hid (fun W W' G u k hN=>in_one hN.items)
 obtain ⟨RV,hRV⟩:∃ x,aggV (refT (N:=0) 1).f nilV = x:=⟨_,rfl⟩
 obtain ⟨PV,hPV⟩:∃ x,aggV (pidT (N:=0) 1).f nilV = x:=⟨_,rfl⟩
 obtain ⟨V1,hV1⟩:∃ x,aggV (intT (N:=0) 1).f nilV = x:=⟨_,rfl⟩
 obtain ⟨V3,hV3⟩:∃ x,aggV (intT (N:=0) 3).f nilV = x:=⟨_,rfl⟩
 have hAV:aggV (atomT (N:=0) aN).f nilV = .agg #[.int .i64 2,.int .i64 0,.int .i64 0,.string ⟨#[97]⟩,.string ⟨#[]⟩,.int .i64 0,.slice none 0 0,.string ⟨#[]⟩,.int .i64 0]:=rfl
 have hAV2:aggV (atomT (N:=0) ⟨#[97]⟩).f nilV = .agg #[.int .i64 2,.int .i64 0,.int .i64 0,.string ⟨#[97]⟩,.string ⟨#[]⟩,.int .i64 0,.slice none 0 0,.string ⟨#[]⟩,.int .i64 0]:=rfl
 have hA3:∀ u,aggV I3.f u = .agg #[.int .i64 1,.int .i64 3,.int .i64 0,.string ⟨#[]⟩,.string ⟨#[]⟩,.int .i64 0,u,.string ⟨#[]⟩,.int .i64 0]:=fun _=>rfl
 have hAA:∀ u,aggV A1.f u = .agg #[.int .i64 2,.int .i64 0,.int .i64 0,.string ⟨#[97]⟩,.string ⟨#[]⟩,.int .i64 0,u,.string ⟨#[]⟩,.int .i64 0]:=fun _=>rfl
 have hq:hashT A1 = hashT A1:=rfl
 generalize hashT A1 = hA at HH HR hq
 clear hq
 unfold VQ at HRf HPd HI1 HI3 HAt
 rw [hRV] at HRf HMk HTw HP1 HP2 HFs HSz
 rw [hPV] at HPd HMk HTw
 rw [hV1] at HI1 HP1
 rw [hV3] at HI3 HP2
 rw [hAV] at HP1 HP2 HH HR
 rw [hAV2] at HAt
 unfold RowP at HFs
 simp only [hA3,hAA] at HFs
 obtain ⟨St0,hSt0⟩:∃ x:World→Prop,x = StR w.heap.size w.heap.size []:=⟨_,rfl⟩
 obtain ⟨St1,hSt1⟩:∃ x:World→Prop,x = StR w.heap.size w.heap.size [(A1,I1)]:=⟨_,rfl⟩
 obtain ⟨St2,hSt2⟩:∃ x:World→Prop,x = StR w.heap.size w.heap.size [(I3,A1),(A1,I1)]:=⟨_,rfl⟩
 have HB0:Hid (∀ W W',St0 W→Below W.heap.size W W'→St0 W'):=Lib.hid (by rw [hSt0];exact fun W W' h hb=>h.below hb)
 have HB1:Hid (∀ W W',St1 W→Below W.heap.size W W'→St1 W'):=Lib.hid (by rw [hSt1];exact fun W W' h hb=>h.below hb)
 have HB2:Hid (∀ W W',St2 W→Below W.heap.size W W'→St2 W'):=Lib.hid (by rw [hSt2];exact fun W W' h hb=>h.below hb)
 rw [← hSt0] at HMk HTw HP1
 rw [← hSt1] at HP1 HP2
 rw [← hSt2] at HP2 HFs HSz
 clear hSt0 hSt1 hSt2 hRV hPV hV1 hV3 hAV hAV2 hA3 hAA
 have hsz9:(Tryz.prog.info? 24).map (·.size) = some 9:=by kernel_rfl
 have hoA:(#[.int .i64 2,.int .i64 0,.int .i64 0,.string ⟨#[97]⟩,.string ⟨#[]⟩,.int .i64 0,.slice none 0 0,.string ⟨#[]⟩,.int .i64 0]:Array Value).all (·.oneCell') = true:=all_oneCell_toArray (nineL_one (f:=A1.f) (u:=nilV) rfl)
 go_enter Tryz.func9,Tryz.ntmps9
 go_wp2_with fail
 refine HNew.out.mono ?_
 rintro e w1 ⟨rfl,hT0,hb1⟩
 go_wp2_with fail
 refine (HRf.out _).mono ?_
 rintro e w2 ⟨rfl,hb2⟩
 have hT2:=hT0.below hb2
 have hbd:=hb1.trans (hb2.mono hb1.size)
 clear hT0 hb1 hb2
 go_wp2_with fail
 refine (HPd.out _).mono ?_
 rintro e w3 ⟨rfl,hb3⟩
 have hT3:=hT2.below hb3
 replace hbd:=hbd.trans (hb3.mono hbd.size)
 clear hT2 hb3
 go_wp2_with fail
 refine (HMk.out _ _ hT3 hbd.size).mono ?_
 rintro e w4 ⟨rfl,hS4,hTT⟩
 replace hbd:=hbd.trans (hTT.below hbd.size)
 clear hT3 hTT
 go_wp2_with fail
 refine (HRf.out _).mono ?_
 rintro e w5 ⟨rfl,hb5⟩
 have hS5:=HB0.out _ _ hS4 hb5
 replace hbd:=hbd.trans (hb5.mono hbd.size)
 clear hS4 hb5
 go_wp2_with fail
 refine (HPd.out _).mono ?_
 rintro e w6 ⟨rfl,hb6⟩
 have hS6:=HB0.out _ _ hS5 hb6
 replace hbd:=hbd.trans (hb6.mono hbd.size)
 clear hS5 hb6
 go_wp2_with fail
 refine (HTw.out _ hS6 hbd.size).mono ?_
 rintro e w7 ⟨rfl,hb7⟩
 have hS7:=HB0.out _ _ hS6 hb7
 replace hbd:=hbd.trans (hb7.mono hbd.size)
 clear hS6 hb7
 go_wp2_with fail
 refine (HAt.out _).mono ?_
 rintro e w8 ⟨rfl,hb8⟩
 have hS8:=HB0.out _ _ hS7 hb8
 replace hbd:=hbd.trans (hb8.mono hbd.size)
 clear hS7 hb8
 have hba:=belowA (Below.refl w8.heap.size w8) (.cells #[.int .i64 0,.int .i64 0,.int .i64 0,.string ⟨#[]⟩,.string ⟨#[]⟩,.int .i64 0,.slice none 0 0,.string ⟨#[]⟩,.int .i64 0] 24) (Nat.le_refl _)
 have hza:=alloc_new w8 (.cells #[.int .i64 0,.int .i64 0,.int .i64 0,.string ⟨#[]⟩,.string ⟨#[]⟩,.int .i64 0,.slice none 0 0,.string ⟨#[]⟩,.int .i64 0] 24)
 have hbs:=hba.trans ((touch_setRow (w8.alloc (.cells #[.int .i64 0,.int .i64 0,.int .i64 0,.string ⟨#[]⟩,.string ⟨#[]⟩,.int .i64 0,.slice none 0 0,.string ⟨#[]⟩,.int .i64 0] 24)) w8.heap.size #[.int .i64 2,.int .i64 0,.int .i64 0,.string ⟨#[97]⟩,.string ⟨#[]⟩,.int .i64 0,.slice none 0 0,.string ⟨#[]⟩,.int .i64 0]).below (fun q e=>Nat.le_of_eq e.symm) hba.size)
 have hz2:=setRow_heap _ w8.heap.size _ #[.int .i64 2,.int .i64 0,.int .i64 0,.string ⟨#[97]⟩,.string ⟨#[]⟩,.int .i64 0,.slice none 0 0,.string ⟨#[]⟩,.int .i64 0] _ _ hza
 have HZa:=Lib.hid hza
 have hS9:=HB0.out _ _ hS8 hbs
 have hw8:=hbd.size
 replace hbd:=hbd.trans (hbs.mono hbd.size)
 clear hba hza hbs hS8
 go_upto_region 5 with (first
  | (refine wpList_store_row rfl 24 (.tmp 2) (.tmp 28) rfl w8.heap.size #[.int .i64 2,.int .i64 0,.int .i64 0,.string ⟨#[97]⟩,.string ⟨#[]⟩,.int .i64 0,.slice none 0 0,.string ⟨#[]⟩,.int .i64 0] rfl rfl 24 _ HZa.out hsz9 rfl hoA ?_))
 generalize (w8.alloc (.cells #[.int .i64 0,.int .i64 0,.int .i64 0,.string ⟨#[]⟩,.string ⟨#[]⟩,.int .i64 0,.slice none 0 0,.string ⟨#[]⟩,.int .i64 0] 24)).setRow w8.heap.size #[.int .i64 2,.int .i64 0,.int .i64 0,.string ⟨#[97]⟩,.string ⟨#[]⟩,.int .i64 0,.slice none 0 0,.string ⟨#[]⟩,.int .i64 0] = w9 at *
 generalize w8.heap.size = z2 at *
 clear HZa
 have hd:=belowD (Below.refl w9.heap.size w9)
 have hSc:=HB0.out _ _ hS9 hd
 replace hz2:=(hd.block z2 (Array.getElem?_eq_some_iff.1 hz2).1).trans hz2
 replace hbd:=hbd.trans (hd.mono hbd.size)
 clear hS9 hd
 refine wp_region_held_drew (S:=(fun w'=>w'.rangeAt z2 0 [.int .i64 2,.int .i64 0,.int .i64 0,.string ⟨#[97]⟩,.string ⟨#[]⟩,.int .i64 0,.slice none 0 0,.string ⟨#[]⟩,.int .i64 0])) (by kernel_rfl) ?_ (fun hHeld=>?_)
 ·exact row_rng hz2
 refine run_in [0,2,5,8] ?_
 (refine run_e rfl (by kernel_rfl) (by rfl) (fun _ _ _ _ h=>h) (by assumption) ?_;apply Exists.intro;refine And.intro (fun w hSw=>?_) ?_;(focus (try dsimp only at hSw);go_simp;(try with_reducible rfl));(try simp only [Act.put,pA,pB,pC]))
 refine run_r rfl (by kernel_rfl) (fun _ _ _ _ h=>h) (by assumption) (yieldsIf_load_mid (by rfl) 24 (.tmp 2) rfl z2 0 rfl [.int .i64 2,.int .i64 0,.int .i64 0,.string ⟨#[97]⟩,.string ⟨#[]⟩,.int .i64 0,.slice none 0 0,.string ⟨#[]⟩,.int .i64 0] _ (fun w hs=>hs) Tryz.underlying24 rfl hsz9) ?_
 (try simp only [Act.put,pA,pB,pC])
 (refine run_e rfl (by kernel_rfl) (by rfl) (fun _ _ _ _ h=>h) (by assumption) ?_;apply Exists.intro;refine And.intro (fun w hSw=>?_) ?_;(focus (try dsimp only at hSw);go_simp;(try with_reducible rfl));(try simp only [Act.put,pA,pB,pC]))
 refine run_r rfl (by kernel_rfl) (fun _ _ _ _ h=>h) (by assumption) (yieldsIf_load_mid (by rfl) 24 (.tmp 2) rfl z2 0 rfl [.int .i64 2,.int .i64 0,.int .i64 0,.string ⟨#[97]⟩,.string ⟨#[]⟩,.int .i64 0,.slice none 0 0,.string ⟨#[]⟩,.int .i64 0] _ (fun w hs=>hs) Tryz.underlying24 rfl hsz9) ?_
 (try simp only [Act.put,pA,pB,pC])
 refine run_out ?_
 refine wpAnyH_ready (rs:=[1]) (by kernel_rfl) (by simp) ?_
 refine readyR rfl (fun K hK=>?_) AllReadyH.nil
 go_simp
 refine (HRf.out _).mono ?_
 rintro e v1 ⟨rfl,hb⟩
 replace hSc:=HB0.out _ _ hSc hb
 replace hz2:=(hb.block z2 (Array.getElem?_eq_some_iff.1 hz2).1).trans hz2
 replace hbd:=hbd.trans (hb.mono hbd.size)
 clear hb
 go_wp2_with fail
 refine hK.out _ _ ?_ (fun hHeld=>?_)
 ·exact row_rng hz2
 clear hK K
 (try simp only [Act.put,pA,pB,pC])
 refine wpAnyH_ready (rs:=[3]) (by kernel_rfl) (by simp) ?_
 refine readyR rfl (fun K hK=>?_) AllReadyH.nil
 go_simp
 refine (HI1.out _).mono ?_
 rintro e v3 ⟨rfl,hb⟩
 replace hSc:=HB0.out _ _ hSc hb
 replace hz2:=(hb.block z2 (Array.getElem?_eq_some_iff.1 hz2).1).trans hz2
 replace hbd:=hbd.trans (hb.mono hbd.size)
 clear hb
 go_wp2_with fail
 refine hK.out _ _ ?_ (fun hHeld=>?_)
 ·exact row_rng hz2
 clear hK K
 (try simp only [Act.put,pA,pB,pC])
 refine wpAnyH_ready (rs:=[4]) (by kernel_rfl) (by simp) ?_
 refine readyR rfl (fun K hK=>?_) AllReadyH.nil
 go_simp
 refine (HP1.out _ hSc hbd.size).mono ?_
 rintro e v4 ⟨rfl,hSn,hTT⟩
 clear hSc
 have hSc:=hSn
 replace hz2:=hTT.keepC hz2 (by unfold progT;decide)
 replace hbd:=hbd.trans (hTT.below hbd.size)
 clear hSn hTT
 go_wp2_with fail
 refine hK.out _ _ ?_ (fun hHeld=>?_)
 ·exact row_rng hz2
 clear hK K
 (try simp only [Act.put,pA,pB,pC])
 refine wpAnyH_ready (rs:=[6]) (by kernel_rfl) (by simp) ?_
 refine readyR rfl (fun K hK=>?_) AllReadyH.nil
 go_simp
 refine (HRf.out _).mono ?_
 rintro e v6 ⟨rfl,hb⟩
 replace hSc:=HB1.out _ _ hSc hb
 replace hz2:=(hb.block z2 (Array.getElem?_eq_some_iff.1 hz2).1).trans hz2
 replace hbd:=hbd.trans (hb.mono hbd.size)
 clear hb
 go_wp2_with fail
 refine hK.out _ _ ?_ (fun hHeld=>?_)
 ·exact row_rng hz2
 clear hK K
 (try simp only [Act.put,pA,pB,pC])
 refine wpAnyH_ready (rs:=[7]) (by kernel_rfl) (by simp) ?_
 refine readyR rfl (fun K hK=>?_) AllReadyH.nil
 go_simp
 refine (HI3.out _).mono ?_
 rintro e v7 ⟨rfl,hb⟩
 replace hSc:=HB1.out _ _ hSc hb
 replace hz2:=(hb.block z2 (Array.getElem?_eq_some_iff.1 hz2).1).trans hz2
 replace hbd:=hbd.trans (hb.mono hbd.size)
 clear hb
 go_wp2_with fail
 refine hK.out _ _ ?_ (fun hHeld=>?_)
 ·exact row_rng hz2
 clear hK K
 (try simp only [Act.put,pA,pB,pC])
 refine wpAnyH_ready (rs:=[9]) (by kernel_rfl) (by simp) ?_
 refine readyR rfl (fun K hK=>?_) AllReadyH.nil
 go_simp
 refine (HP2.out _ hSc hbd.size).mono ?_
 rintro e v9 ⟨rfl,hSn,hTT⟩
 clear hSc
 have hSc:=hSn
 replace hz2:=hTT.keepC hz2 (by unfold progT;decide)
 replace hbd:=hbd.trans (hTT.below hbd.size)
 clear hSn hTT
 go_wp2_with fail
 refine hK.out _ _ ?_ (fun hHeld=>?_)
 ·exact row_rng hz2
 clear hK K
 (try simp only [Act.put,pA,pB,pC])
 refine run_in [10,11] ?_
 iterate 2 (refine run_e rfl (by kernel_rfl) (by rfl) (fun _ _ _ _ h=>h) (by assumption) ?_;apply Exists.intro;refine And.intro (fun w hSw=>?_) ?_;(focus (try dsimp only at hSw);go_simp;(try with_reducible rfl));(try simp only [Act.put,pA,pB,pC]))
 refine run_out ?_
 refine wpAnyH_done (by kernel_rfl) ?_ _
 go_wp2_with fail
 refine (HRf.out _).mono ?_
 rintro e x1 ⟨rfl,hb⟩
 replace hSc:=HB2.out _ _ hSc hb
 replace hz2:=(hb.block z2 (Array.getElem?_eq_some_iff.1 hz2).1).trans hz2
 replace hbd:=hbd.trans (hb.mono hbd.size)
 clear hb
 go_wp2_with fail
 refine (HFs.out _ hSc).mono ?_
 rintro e x2 ⟨F1,F2,u1,u2,rfl,hb,hN1,hN2⟩
 replace hSc:=HB2.out _ _ hSc hb
 replace hz2:=(hb.block z2 (Array.getElem?_eq_some_iff.1 hz2).1).trans hz2
 replace hbd:=hbd.trans (hb.mono hbd.size)
 have ho1:(#[.int .i64 1,.int .i64 3,.int .i64 0,.string ⟨#[]⟩,.string ⟨#[]⟩,.int .i64 0,u1,.string ⟨#[]⟩,.int .i64 0]:Array Value).all (·.oneCell') = true:=all_oneCell_toArray (nineL_one (f:=I3.f) (u:=u1) (HOne.out _ _ _ _ _ hN1))
 have ho2:(#[.int .i64 2,.int .i64 0,.int .i64 0,.string ⟨#[97]⟩,.string ⟨#[]⟩,.int .i64 0,u2,.string ⟨#[]⟩,.int .i64 0]:Array Value).all (·.oneCell') = true:=all_oneCell_toArray (nineL_one (f:=A1.f) (u:=u2) (HOne.out _ _ _ _ _ hN2))
 clear hN1 hN2 hb
 obtain ⟨hb0,hza,hzb⟩:=two_boxes x2 (.cells #[.int .i64 0,.int .i64 0,.int .i64 0,.string ⟨#[]⟩,.string ⟨#[]⟩,.int .i64 0,.slice none 0 0,.string ⟨#[]⟩,.int .i64 0] 24) (.cells #[.int .i64 0,.int .i64 0,.int .i64 0,.string ⟨#[]⟩,.string ⟨#[]⟩,.int .i64 0,.slice none 0 0,.string ⟨#[]⟩,.int .i64 0] 24)
 have hs1:((x2.alloc (.cells #[.int .i64 0,.int .i64 0,.int .i64 0,.string ⟨#[]⟩,.string ⟨#[]⟩,.int .i64 0,.slice none 0 0,.string ⟨#[]⟩,.int .i64 0] 24)).alloc (.cells #[.int .i64 0,.int .i64 0,.int .i64 0,.string ⟨#[]⟩,.string ⟨#[]⟩,.int .i64 0,.slice none 0 0,.string ⟨#[]⟩,.int .i64 0] 24)).heap.size = x2.heap.size + 2:=by rw [World.size_alloc,World.size_alloc]
 have HZa:=Lib.hid hza
 have hq4:=setRow_heap _ x2.heap.size _ #[.int .i64 1,.int .i64 3,.int .i64 0,.string ⟨#[]⟩,.string ⟨#[]⟩,.int .i64 0,u1,.string ⟨#[]⟩,.int .i64 0] _ _ hza
 have hq5:=(setRow_other ((x2.alloc (.cells #[.int .i64 0,.int .i64 0,.int .i64 0,.string ⟨#[]⟩,.string ⟨#[]⟩,.int .i64 0,.slice none 0 0,.string ⟨#[]⟩,.int .i64 0] 24)).alloc (.cells #[.int .i64 0,.int .i64 0,.int .i64 0,.string ⟨#[]⟩,.string ⟨#[]⟩,.int .i64 0,.slice none 0 0,.string ⟨#[]⟩,.int .i64 0] 24)) x2.heap.size (x2.heap.size + 1) #[.int .i64 1,.int .i64 3,.int .i64 0,.string ⟨#[]⟩,.string ⟨#[]⟩,.int .i64 0,u1,.string ⟨#[]⟩,.int .i64 0] (by omega)).trans hzb
 have hbq:=hb0.trans ((touch_setRow ((x2.alloc (.cells #[.int .i64 0,.int .i64 0,.int .i64 0,.string ⟨#[]⟩,.string ⟨#[]⟩,.int .i64 0,.slice none 0 0,.string ⟨#[]⟩,.int .i64 0] 24)).alloc (.cells #[.int .i64 0,.int .i64 0,.int .i64 0,.string ⟨#[]⟩,.string ⟨#[]⟩,.int .i64 0,.slice none 0 0,.string ⟨#[]⟩,.int .i64 0] 24)) x2.heap.size #[.int .i64 1,.int .i64 3,.int .i64 0,.string ⟨#[]⟩,.string ⟨#[]⟩,.int .i64 0,u1,.string ⟨#[]⟩,.int .i64 0]).below (fun q e=>by omega) hb0.size)
 have HQ5:=Lib.hid hq5
 have hp5:=setRow_heap _ (x2.heap.size + 1) _ #[.int .i64 2,.int .i64 0,.int .i64 0,.string ⟨#[97]⟩,.string ⟨#[]⟩,.int .i64 0,u2,.string ⟨#[]⟩,.int .i64 0] _ _ hq5
 have hp4:=(setRow_other (((x2.alloc (.cells #[.int .i64 0,.int .i64 0,.int .i64 0,.string ⟨#[]⟩,.string ⟨#[]⟩,.int .i64 0,.slice none 0 0,.string ⟨#[]⟩,.int .i64 0] 24)).alloc (.cells #[.int .i64 0,.int .i64 0,.int .i64 0,.string ⟨#[]⟩,.string ⟨#[]⟩,.int .i64 0,.slice none 0 0,.string ⟨#[]⟩,.int .i64 0] 24)).setRow x2.heap.size #[.int .i64 1,.int .i64 3,.int .i64 0,.string ⟨#[]⟩,.string ⟨#[]⟩,.int .i64 0,u1,.string ⟨#[]⟩,.int .i64 0]) (x2.heap.size + 1) x2.heap.size #[.int .i64 2,.int .i64 0,.int .i64 0,.string ⟨#[97]⟩,.string ⟨#[]⟩,.int .i64 0,u2,.string ⟨#[]⟩,.int .i64 0] (by omega)).trans hq4
 have hbp:=hbq.trans ((touch_setRow (((x2.alloc (.cells #[.int .i64 0,.int .i64 0,.int .i64 0,.string ⟨#[]⟩,.string ⟨#[]⟩,.int .i64 0,.slice none 0 0,.string ⟨#[]⟩,.int .i64 0] 24)).alloc (.cells #[.int .i64 0,.int .i64 0,.int .i64 0,.string ⟨#[]⟩,.string ⟨#[]⟩,.int .i64 0,.slice none 0 0,.string ⟨#[]⟩,.int .i64 0] 24)).setRow x2.heap.size #[.int .i64 1,.int .i64 3,.int .i64 0,.string ⟨#[]⟩,.string ⟨#[]⟩,.int .i64 0,u1,.string ⟨#[]⟩,.int .i64 0]) (x2.heap.size + 1) #[.int .i64 2,.int .i64 0,.int .i64 0,.string ⟨#[97]⟩,.string ⟨#[]⟩,.int .i64 0,u2,.string ⟨#[]⟩,.int .i64 0]).below (fun q e=>by omega) hbq.size)
 replace hSc:=HB2.out _ _ hSc hbp
 replace hz2:=(hbp.block z2 (Array.getElem?_eq_some_iff.1 hz2).1).trans hz2
 replace hbd:=hbd.trans (hbp.mono hbd.size)
 clear hza hzb hq4 hq5 hbq hbp hb0 hs1
 go_upto_region 7 with (first
  | (refine wpList_store_row rfl 24 (.tmp 5) (.tmp 43) rfl x2.heap.size #[.int .i64 1,.int .i64 3,.int .i64 0,.string ⟨#[]⟩,.string ⟨#[]⟩,.int .i64 0,u1,.string ⟨#[]⟩,.int .i64 0] rfl rfl 24 _ HZa.out hsz9 rfl ho1 ?_)
  | (refine wpList_store_row rfl 24 (.tmp 6) (.tmp 44) rfl (x2.heap.size + 1) #[.int .i64 2,.int .i64 0,.int .i64 0,.string ⟨#[97]⟩,.string ⟨#[]⟩,.int .i64 0,u2,.string ⟨#[]⟩,.int .i64 0] rfl rfl 24 _ HQ5.out hsz9 rfl ho2 ?_))
 clear HZa HQ5
 generalize (((x2.alloc (.cells #[.int .i64 0,.int .i64 0,.int .i64 0,.string ⟨#[]⟩,.string ⟨#[]⟩,.int .i64 0,.slice none 0 0,.string ⟨#[]⟩,.int .i64 0] 24)).alloc (.cells #[.int .i64 0,.int .i64 0,.int .i64 0,.string ⟨#[]⟩,.string ⟨#[]⟩,.int .i64 0,.slice none 0 0,.string ⟨#[]⟩,.int .i64 0] 24)).setRow x2.heap.size #[.int .i64 1,.int .i64 3,.int .i64 0,.string ⟨#[]⟩,.string ⟨#[]⟩,.int .i64 0,u1,.string ⟨#[]⟩,.int .i64 0]).setRow (x2.heap.size + 1) #[.int .i64 2,.int .i64 0,.int .i64 0,.string ⟨#[97]⟩,.string ⟨#[]⟩,.int .i64 0,u2,.string ⟨#[]⟩,.int .i64 0] = x3 at *
 generalize x2.heap.size + 1 = z6 at *
 generalize x2.heap.size = z5 at *
 go_wp2_with fail
 refine (HRf.out _).mono ?_
 rintro e x4 ⟨rfl,hb⟩
 replace hSc:=HB2.out _ _ hSc hb
 replace hz2:=(hb.block _ (Array.getElem?_eq_some_iff.1 hz2).1).trans hz2
 replace hp4:=(hb.block _ (Array.getElem?_eq_some_iff.1 hp4).1).trans hp4
 replace hp5:=(hb.block _ (Array.getElem?_eq_some_iff.1 hp5).1).trans hp5
 replace hbd:=hbd.trans (hb.mono hbd.size)
 clear hb
 go_wp2_with fail
 refine (HSz.out _ hSc).mono ?_
 rintro e x5 ⟨rfl,hb⟩
 replace hSc:=HB2.out _ _ hSc hb
 replace hz2:=(hb.block _ (Array.getElem?_eq_some_iff.1 hz2).1).trans hz2
 replace hp4:=(hb.block _ (Array.getElem?_eq_some_iff.1 hp4).1).trans hp4
 replace hp5:=(hb.block _ (Array.getElem?_eq_some_iff.1 hp5).1).trans hp5
 replace hbd:=hbd.trans (hb.mono hbd.size)
 clear hb
 go_upto_region 8 with (fail)
 have hb:=belowD (Below.refl x5.heap.size x5)
 replace hSc:=HB2.out _ _ hSc hb
 replace hz2:=(hb.block _ (Array.getElem?_eq_some_iff.1 hz2).1).trans hz2
 replace hp4:=(hb.block _ (Array.getElem?_eq_some_iff.1 hp4).1).trans hp4
 replace hp5:=(hb.block _ (Array.getElem?_eq_some_iff.1 hp5).1).trans hp5
 replace hbd:=hbd.trans (hb.mono hbd.size)
 clear hb
 have k5:=row_rng hp4 1 _ rfl
 have k6:=row_rng hp5 3 _ rfl
 simp only [Nat.reduceAdd] at k5 k6
 refine wp_region_held_drew (S:=(fun w'=>w'.rangeAt z2 0 [.int .i64 2,.int .i64 0,.int .i64 0,.string ⟨#[97]⟩,.string ⟨#[]⟩,.int .i64 0,.slice none 0 0,.string ⟨#[]⟩,.int .i64 0]∧w'.cell? ⟨z5,1,none⟩ = some (.int .i64 3)∧w'.cell? ⟨z6,3,none⟩ = some (.string ⟨#[97]⟩))) (by kernel_rfl) ?_ (fun hHeld=>?_)
 ·exact ⟨row_rng hz2,k5,k6⟩
 refine run_in [0,1,2,3,4,5,6,7,8,9,10,11,12,13,14,15,16,17,18,19,20,21,22,23,24,25,26,27,28,29,30,31,32,34] ?_
 iterate 8 (refine run_e rfl (by kernel_rfl) (by rfl) (fun _ _ _ _ h=>h) (by assumption) ?_;apply Exists.intro;refine And.intro (fun w hSw=>?_) ?_;(focus (try dsimp only at hSw);go_simp;(try with_reducible rfl));(try simp only [Act.put,pA,pB,pC]))
 refine run_r rfl (by kernel_rfl) (fun _ _ _ _ h=>h) (by assumption) (yieldsB_cell (by rfl) 2 (.tmp 60) rfl z5 1 rfl _ ld2 (fun w hs=>hs.2.1)) ?_
 (try simp only [Act.put,pA,pB,pC])
 iterate 4 (refine run_e rfl (by kernel_rfl) (by rfl) (fun _ _ _ _ h=>h) (by assumption) ?_;apply Exists.intro;refine And.intro (fun w hSw=>?_) ?_;(focus (try dsimp only at hSw);go_simp;(try with_reducible rfl));(try simp only [Act.put,pA,pB,pC]))
 refine run_r rfl (by kernel_rfl) (fun _ _ _ _ h=>h) (by assumption) (yieldsB_cell (by rfl) 9 (.tmp 65) rfl z6 3 rfl _ ld9 (fun w hs=>hs.2.2)) ?_
 (try simp only [Act.put,pA,pB,pC])
 iterate 18 (refine run_e rfl (by kernel_rfl) (by rfl) (fun _ _ _ _ h=>h) (by assumption) ?_;apply Exists.intro;refine And.intro (fun w hSw=>?_) ?_;(focus (try dsimp only at hSw);go_simp;(try with_reducible rfl));(try simp only [Act.put,pA,pB,pC]))
 refine run_r rfl (by kernel_rfl) (fun _ _ _ _ h=>h) (by assumption) (yieldsIf_load_mid (by rfl) 24 (.tmp 2) rfl z2 0 rfl [.int .i64 2,.int .i64 0,.int .i64 0,.string ⟨#[97]⟩,.string ⟨#[]⟩,.int .i64 0,.slice none 0 0,.string ⟨#[]⟩,.int .i64 0] _ (fun w hs=>hs.1) Tryz.underlying24 rfl hsz9) ?_
 (try simp only [Act.put,pA,pB,pC])
 refine run_r rfl (by kernel_rfl) (fun _ _ _ _ h=>h) (by assumption) (yieldsIf_load_mid (by rfl) 24 (.tmp 2) rfl z2 0 rfl [.int .i64 2,.int .i64 0,.int .i64 0,.string ⟨#[97]⟩,.string ⟨#[]⟩,.int .i64 0,.slice none 0 0,.string ⟨#[]⟩,.int .i64 0] _ (fun w hs=>hs.1) Tryz.underlying24 rfl hsz9) ?_
 (try simp only [Act.put,pA,pB,pC])
 refine run_out ?_
 refine wpAnyH_ready (rs:=[33]) (by kernel_rfl) (by simp) ?_
 refine readyR rfl (fun K hK=>?_) AllReadyH.nil
 go_simp
 refine (HH.out _).mono ?_
 rintro e x6 ⟨rfl,hb⟩
 replace hSc:=HB2.out _ _ hSc hb
 replace hz2:=(hb.block _ (Array.getElem?_eq_some_iff.1 hz2).1).trans hz2
 replace hp4:=(hb.block _ (Array.getElem?_eq_some_iff.1 hp4).1).trans hp4
 replace hp5:=(hb.block _ (Array.getElem?_eq_some_iff.1 hp5).1).trans hp5
 replace hbd:=hbd.trans (hb.mono hbd.size)
 clear hb
 clear k5 k6
 have k5:=row_rng hp4 1 _ rfl
 have k6:=row_rng hp5 3 _ rfl
 simp only [Nat.reduceAdd] at k5 k6
 go_wp2_with fail
 refine hK.out _ _ ?_ (fun hHeld=>?_)
 ·exact ⟨row_rng hz2,k5,k6⟩
 clear hK K
 (try simp only [Act.put,pA,pB,pC])
 refine wpAnyH_ready (rs:=[35]) (by kernel_rfl) (by simp) ?_
 refine readyR rfl (fun K hK=>?_) AllReadyH.nil
 go_simp
 refine (HR.out _).mono ?_
 rintro e x7 ⟨rfl,hb⟩
 replace hSc:=HB2.out _ _ hSc hb
 replace hz2:=(hb.block _ (Array.getElem?_eq_some_iff.1 hz2).1).trans hz2
 replace hp4:=(hb.block _ (Array.getElem?_eq_some_iff.1 hp4).1).trans hp4
 replace hp5:=(hb.block _ (Array.getElem?_eq_some_iff.1 hp5).1).trans hp5
 replace hbd:=hbd.trans (hb.mono hbd.size)
 clear hb
 clear k5 k6
 have k5:=row_rng hp4 1 _ rfl
 have k6:=row_rng hp5 3 _ rfl
 simp only [Nat.reduceAdd] at k5 k6
 go_wp2_with fail
 refine hK.out _ _ ?_ (fun hHeld=>?_)
 ·exact ⟨row_rng hz2,k5,k6⟩
 clear hK K
 (try simp only [Act.put,pA,pB,pC])
 refine run_in [36,37,38] ?_
 iterate 3 (refine run_e rfl (by kernel_rfl) (by rfl) (fun _ _ _ _ h=>h) (by assumption) ?_;apply Exists.intro;refine And.intro (fun w hSw=>?_) ?_;(focus (try dsimp only at hSw);go_simp;(try with_reducible rfl));(try simp only [Act.put,pA,pB,pC]))
 refine run_out ?_
 refine wpAnyH_done (by kernel_rfl) ?_ _
 go_wp2_with fail
 go_ret
 exact ⟨rfl,hbd⟩
def LaW {N:Nat} (w:World) (z y:Nat) (hs:Bool) (n mm:Nat) (iv:Value) (wr:World):Prop:=∃ (i:Nat) (R:List (Tm (N + 1) × Tm (N + 1))),iv = .int .i64 (i:Int)∧i ≤ n∧mm = n - i∧R.length ≤ i∧WSt w z y (oneA hs R) (oneA hs R) wr
def LbW (W0:World) (n mm:Nat) (iv:Value) (wr:World):Prop:=∃ i:Nat,iv = .int .i64 (i:Int)∧i ≤ n∧mm = n - i∧Below W0.heap.size W0 wr
theorem rows_at {N:Nat} {R:List (Tm (N + 1) × Tm (N + 1))} {l m:List (RRw N)} (h1:absRR l = R) (h2:absRR m = R):l.length = m.length∧∀ (j:Nat) (a b:RRw N),l[j]? = some a→m[j]? = some b→a.k = b.k∧a.v = b.v:=by
 unfold absRR at h1 h2
 have h:=h1.trans h2.symm
 refine ⟨by have:=congrArg List.length h;simpa using this,fun j a b ha hb=>?_⟩
 have:=congrArg (fun x=>x[j]?) h
 simp only [List.getElem?_map,ha,hb,Option.map_some,Option.some.injEq,Prod.mk.injEq] at this
 exact this
theorem op_box {W:World} {gb:Nat} {okd:Int} {fa fb fc:TF} {ua ub uc:Value} {ohs:Bool} (h:W.heap[gb]? = some (.cells ([(.int .i64 okd:Value)] ++ nineL fa ua ++ nineL fb ub ++ nineL fc uc ++ [(.bool ohs:Value)]).toArray 44)):W.cell? ⟨gb,0,none⟩ = some (.int .i64 okd)∧W.rangeAt gb 10 (nineL fb ub)∧W.rangeAt gb 19 (nineL fc uc):=by
 have e1:[(.int .i64 okd:Value)] ++ nineL fa ua ++ nineL fb ub ++ nineL fc uc ++ [(.bool ohs:Value)] = [.int .i64 okd] ++ (nineL fa ua ++ (nineL fb ub ++ (nineL fc uc ++ [.bool ohs]))):=by simp
 rw [e1] at h
 have h0:=row_rng h
 have h1:=rng_suf h0 (n:=1) rfl
 have h2:=rng_suf h1 (n:=9) rfl
 have h3:=rng_suf h2 (n:=9) rfl
 exact ⟨by simpa using h0 0 _ rfl,by simpa using rng_pre h2,by simpa using rng_pre h3⟩
theorem no44p:¬ progT 44:=by intro h;rcases h with h | h | h | h <;> exact absurd h (by decide)
theorem no44r:¬ refT3 44:=by intro h;rcases h with h | h | h <;> exact absurd h (by decide)
theorem lawWalk {n:Nat} (w:World) (v:Value) (l:List (OpE n)) (hs:Bool) (I:RecAt opL 29 w w.heap.size v l) (J:∀ e ∈ l,OpIn w w.heap.size e) (Z:l.length * 352 ≤ 140737488355328):Calls Tryz.prog 4 #[v,.bool hs] w (BPost true w):=by
 have HSh:=Lib.hid (fun W=>shown9 W)
 have HGr:=Lib.hid (fun (W:World) (hW:Below w.heap.size w W)=>great15 W hW.size v l (I.below hW (Nat.le_refl _)) (fun e he=>(J e he).below hW (Nat.le_refl _)) Z)
 obtain ⟨RV,hRV⟩:∃ x,aggV (refT (N:=n) 1).f nilV = x:=⟨_,rfl⟩
 obtain ⟨PV,hPV⟩:∃ x,aggV (pidT (N:=n) 1).f nilV = x:=⟨_,rfl⟩
 have HRf:Hid (∀ W,Calls Tryz.prog 18 #[.int .i64 1] W (fun e w'=>e = .returned RV∧Below W.heap.size W w')):=Lib.hid (fun W=>by rw [← hRV];exact ref18 (N:=n) 1 W)
 have HPd:Hid (∀ W,Calls Tryz.prog 19 #[.int .i64 1] W (fun e w'=>e = .returned PV∧Below W.heap.size W w')):=Lib.hid (fun W=>by rw [← hPV];exact pid19 (N:=n) 1 W)
 have HNw:=Lib.hid (fun (W:World) (hW:Below w.heap.size w W)=>l_new (N:=n) hW)
 have HSt0:=Lib.hid (fun (z:Nat) (W:World) (h:LSt (N:=n) w z [] W)=>WSt.start h)
 have HMk1:=Lib.hid (fun (z y:Nat) (W:World) (h:WSt (N:=n) w z y [] [] W)=>w_make1 h hs)
 have HMk2:=Lib.hid (fun (z y:Nat) (W:World) (h:WSt (N:=n) w z y (oneA hs []) [] W)=>w_make2 h)
 have HDel1:=Lib.hid (fun (z y:Nat) (A2:List (TabA n)) (W:World) (R:List (Tm (n + 1) × Tm (n + 1))) (h:WSt w z y (oneA hs R) A2 W) (hR:R.length ≤ 1000000) (k:Tm (n + 1)) (uk:Value) hI hn=>w_del1 h hR (k:=k) (uk:=uk) hI hn)
 have HDel2:=Lib.hid (fun (z y:Nat) (A1:List (TabA n)) (W:World) (R:List (Tm (n + 1) × Tm (n + 1))) (h:WSt w z y A1 (oneA hs R) W) (hR:BdA (oneA hs R)) (k:Tm (n + 1)) (uk:Value) hI hn=>w_del2 h hR (k:=k) (uk:=uk) hI hn)
 have HPut1:=Lib.hid (fun (z y:Nat) (A2:List (TabA n)) (W:World) (R:List (Tm (n + 1) × Tm (n + 1))) (h:WSt w z y (oneA hs R) A2 W) (hR:R.length ≤ 1000000) (k v:Tm (n + 1)) (uk uv:Value) hI hV hn hnv (m:Int) he=>w_put1 h hR (k:=k) (v:=v) (uk:=uk) (uv:=uv) hI hV hn hnv (n:=m) he)
 have HPut2:=Lib.hid (fun (z y:Nat) (A1:List (TabA n)) (W:World) (R:List (Tm (n + 1) × Tm (n + 1))) (h:WSt w z y A1 (oneA hs R) W) (hR:BdA (oneA hs R)) (k v:Tm (n + 1)) (uk uv:Value) hI hV hn hnv (m:Int) he=>w_put2 h hR (k:=k) (v:=v) (uk:=uk) (uv:=uv) hI hV hn hnv (n:=m) he)
 have HWk:=Lib.hid (fun (z y:Nat) (A2:List (TabA n)) (W:World) (R:List (Tm (n + 1) × Tm (n + 1))) (h:WSt w z y (oneA hs R) A2 W) (hR:R.length ≤ 1000000) (hm:(R.length:Int) ≤ (l.length:Int))=>w_walk h hR hm)
 have HPk:=Lib.hid (fun (W:World) (k:Int)=>(show Calls Tryz.prog 21 #[.int .i64 k,.int .i64 4] W (fun e w'=>e = .returned (.int .i64 (pickI k 4))∧Below W.heap.size W w') from pick21 W k 4 (by decide) (by decide)))
 rw [hRV] at HMk1 HMk2 HDel1 HDel2 HPut1 HPut2 HWk
 rw [hPV] at HMk1 HMk2
 clear hRV hPV
 obtain ⟨pv,cv,rfl,_,_⟩:=I.shape
 have HI:=Lib.hid I
 have HJ:=Lib.hid J
 clear I J Z
 have hsz9:(Tryz.prog.info? 24).map (·.size) = some 9:=by kernel_rfl
 have hsz29:(Tryz.prog.info? 44).map (·.size) = some 29:=by kernel_rfl
 unfold BPost at HSh ⊢
 unfold GrP at HGr
 go_enter Tryz.func4,Tryz.ntmps4
 go_wp2_with fail
 refine (HSh.out w).mono ?_
 rintro e w1 ⟨rfl,hb1⟩
 have HB1:=Lib.hid hb1
 have HGW:=Lib.hid (HGr.out w1 hb1)
 clear hb1 HSh HGr
 go_wp2_with fail
 refine HGW.out.mono ?_
 rintro e w2 ⟨G,rfl,hG,hb2⟩
 have HB2:=Lib.hid (HB1.out.trans (hb2.mono HB1.out.size))
 have HG:=Lib.hid hG
 clear hb2 HGW HB1 hG
 cases G
 rotate_left
 ·go_wp2_with fail
  go_ret
  exact ⟨rfl,HB2.out⟩
 have HSm:Hid (SmallO l):=Lib.hid (HG.out rfl)
 have HNw2:=Lib.hid (HNw.out _ HB2.out)
 clear HG HNw
 go_wp2_with fail
 refine HNw2.out.mono ?_
 rintro e w3 ⟨z,rfl,hL⟩
 have hSt:=HSt0.out z w3 hL
 clear HNw2 hL HSt0
 have HS:=Lib.hid hSt
 clear hSt
 go_upto_region 6 with (fail)
 have hSt:=HS.out
 clear HS HB2
 generalize w3.alloc (.cells #[.slice none 0 0] 39) = w4 at *
 generalize w3.heap.size = y at *
 go_wp2_with fail
 refine (HRf.out _).mono ?_
 rintro e w5 ⟨rfl,hb⟩
 replace hSt:=hSt.below hb
 clear hb
 go_wp2_with fail
 refine (HPd.out _).mono ?_
 rintro e w6 ⟨rfl,hb⟩
 replace hSt:=hSt.below hb
 clear hb
 go_wp2_with fail
 refine (HMk1.out _ _ _ hSt).mono ?_
 rintro e w7 ⟨rfl,hSn⟩
 clear hSt
 have hSt:=hSn
 clear hSn
 go_wp2_with fail
 refine (HRf.out _).mono ?_
 rintro e w8 ⟨rfl,hb⟩
 replace hSt:=hSt.below hb
 clear hb
 go_wp2_with fail
 refine (HPd.out _).mono ?_
 rintro e w9 ⟨rfl,hb⟩
 replace hSt:=hSt.below hb
 clear hb
 go_wp2_with fail
 refine (HMk2.out _ _ _ hSt).mono ?_
 rintro e w10 ⟨rfl,hSn⟩
 clear hSt
 have hSt:=hSn
 clear hSn
 have H10:Hid (LaW (N:=n) w z y hs l.length l.length (.int .i64 0) w10):=Lib.hid ⟨0,[],rfl,Nat.zero_le _,rfl,Nat.le_refl _,hSt⟩
 clear hSt HMk1 HMk2 HPd
 go_wp2_with fail
 go_loopg [7] l.length (fun mm iv wr=>Hid (LaW (N:=n) w z y hs l.length mm iv wr))
 case atStart=>exact H10
 case round =>
  obtain ⟨i,R,rfl,hi,hm,hRi,hSt⟩:=hrel.out
  clear hrel H10
  have hl200:=HSm.out.1
  by_cases hlt:i < l.length
  ·have r1:(i:Int) < (l.length:Int):=by omega
   have hat:=List.getElem?_eq_getElem hlt
   obtain ⟨g,o,e1,_,hg,_⟩:=HI.out.nth (by omega)
   subst e1
   have hR:=rec_rngs HI.out hat
   have hme:=HJ.out _ (List.getElem_mem hlt)
   have hnd:=HSm.out.2.2 _ (List.getElem_mem hlt)
   clear hat
   generalize l[i] = e at *
   have hone:=all_oneCell_toArray (opL_one hme)
   obtain ⟨okd,ta,tb,tc,ohs,ua,ub,uc⟩:=e
   obtain ⟨m1,m2,m3⟩:=hme
   obtain ⟨_,hn2,hn3⟩:=hnd
   dsimp only at m1 m2 m3 hn2 hn3
   obtain ⟨p1,c1,e1,_,_⟩:=m1.shape
   obtain ⟨p2,c2,e2,_,_⟩:=m2.shape
   obtain ⟨p3,c3,e3,_,_⟩:=m3.shape
   subst e1;subst e2;subst e3
   have hBd:=hSt.bd (by omega)
   have HM:=Lib.hid hm
   obtain ⟨er,her⟩:=one_putE (hs:=hs) (k:=tb) (v:=tc)
   have HD1:=Lib.hid (fun (W:World) (h:WSt w z y (oneA hs R) (oneA hs R) W)=>HDel1.out z y _ W R h (by omega) tb (.slice p2 tb.items.length c2) (m2.below h.hb (Nat.le_refl _)) (by omega))
   have HD2:=Lib.hid (fun (W:World) (h:WSt w z y (oneA hs (dR hs R tb)) (oneA hs R) W)=>HDel2.out z y _ W R h hBd tb (.slice p2 tb.items.length c2) (m2.below h.hb (Nat.le_refl _)) (by omega))
   have HP1:=Lib.hid (fun (W:World) (h:WSt w z y (oneA hs R) (oneA hs R) W)=>HPut1.out z y _ W R h (by omega) tb tc (.slice p2 tb.items.length c2) (.slice p3 tc.items.length c3) (m2.below h.hb (Nat.le_refl _)) (m3.below h.hb (Nat.le_refl _)) (by omega) (by omega) er her)
   have HP2:=Lib.hid (fun (W:World) (h:WSt w z y (oneA hs (pR hs R tb tc)) (oneA hs R) W)=>HPut2.out z y _ W R h hBd tb tc (.slice p2 tb.items.length c2) (.slice p3 tc.items.length c3) (m2.below h.hb (Nat.le_refl _)) (m3.below h.hb (Nat.le_refl _)) (by omega) (by omega) er her)
   have HNe1:Hid (∀ W,WSt w z y (oneA hs (dR hs R tb)) (oneA hs (dR hs R tb)) W→Hid (LaW (N:=n) w z y hs l.length (l.length - (i + 1)) (.int .i64 ((i + 1:Nat):Int)) W)):=Lib.hid (fun W h=>Lib.hid ⟨i + 1,_,rfl,by omega,rfl,by have:=dR_len (hs:=hs) (R:=R) (k:=tb);omega,h⟩)
   have HNe2:Hid (∀ W,WSt w z y (oneA hs (pR hs R tb tc)) (oneA hs (pR hs R tb tc)) W→Hid (LaW (N:=n) w z y hs l.length (l.length - (i + 1)) (.int .i64 ((i + 1:Nat):Int)) W)):=Lib.hid (fun W h=>Lib.hid ⟨i + 1,_,rfl,by omega,rfl,by have:=pR_len (hs:=hs) (R:=R) (k:=tb) (v:=tc);omega,h⟩)
   generalize dR hs R tb = R1 at *
   generalize pR hs R tb tc = R2 at *
   have e1:opL (⟨okd,ta,tb,tc,ohs,.slice p1 ta.items.length c1,.slice p2 tb.items.length c2,.slice p3 tc.items.length c3⟩:OpE n) = [.int .i64 okd] ++ nineL ta.f (.slice p1 ta.items.length c1) ++ nineL tb.f (.slice p2 tb.items.length c2) ++ nineL tc.f (.slice p3 tc.items.length c3) ++ [.bool ohs]:=rfl
   rw [e1] at hR hone
   clear e1 m1 m2 m3 hn2 hn3 hBd her hm
   generalize ta.items.length = n1 at *
   generalize tb.items.length = n2 at *
   generalize tc.items.length = n3 at *
   generalize ta.f = fa at *
   generalize tb.f = fb at *
   generalize tc.f = fc at *
   obtain ⟨a_k,a_i,a_g,a_n,a_f,a_a,a_b,a_z⟩:=fa
   obtain ⟨b_k,b_i,b_g,b_n,b_f,b_a,b_b,b_z⟩:=fb
   obtain ⟨c_k,c_i,c_g,c_n,c_f,c_a,c_b,c_z⟩:=fc
   unfold aggV at HD1 HD2 HP1 HP2
   dsimp only at HD1 HD2 HP1 HP2
   have hR:w.rangeAt g (o + i * 29) [.int .i64 okd,.int .i64 a_k,.int .i64 a_i,.int .i64 a_g,.string a_n,.string a_f,.int .i64 a_a,.slice p1 n1 c1,.string a_b,.int .i64 a_z,.int .i64 b_k,.int .i64 b_i,.int .i64 b_g,.string b_n,.string b_f,.int .i64 b_a,.slice p2 n2 c2,.string b_b,.int .i64 b_z,.int .i64 c_k,.int .i64 c_i,.int .i64 c_g,.string c_n,.string c_f,.int .i64 c_a,.slice p3 n3 c3,.string c_b,.int .i64 c_z,.bool ohs]:=hR
   have hone:(#[.int .i64 okd,.int .i64 a_k,.int .i64 a_i,.int .i64 a_g,.string a_n,.string a_f,.int .i64 a_a,.slice p1 n1 c1,.string a_b,.int .i64 a_z,.int .i64 b_k,.int .i64 b_i,.int .i64 b_g,.string b_n,.string b_f,.int .i64 b_a,.slice p2 n2 c2,.string b_b,.int .i64 b_z,.int .i64 c_k,.int .i64 c_i,.int .i64 c_g,.string c_n,.string c_f,.int .i64 c_a,.slice p3 n3 c3,.string c_b,.int .i64 c_z,.bool ohs]:Array Value).all (·.oneCell') = true:=hone
   have HRw:=Lib.hid (rng_same hR (hSt.hb.block g hg))
   have HZ:=Lib.hid (alloc_new wr (.cells #[.int .i64 0,.int .i64 0,.int .i64 0,.int .i64 0,.string ⟨#[]⟩,.string ⟨#[]⟩,.int .i64 0,.slice none 0 0,.string ⟨#[]⟩,.int .i64 0,.int .i64 0,.int .i64 0,.int .i64 0,.string ⟨#[]⟩,.string ⟨#[]⟩,.int .i64 0,.slice none 0 0,.string ⟨#[]⟩,.int .i64 0,.int .i64 0,.int .i64 0,.int .i64 0,.string ⟨#[]⟩,.string ⟨#[]⟩,.int .i64 0,.slice none 0 0,.string ⟨#[]⟩,.int .i64 0,.bool false] 44))
   have HRg:=Lib.hid (setRow_heap (wr.alloc (.cells #[.int .i64 0,.int .i64 0,.int .i64 0,.int .i64 0,.string ⟨#[]⟩,.string ⟨#[]⟩,.int .i64 0,.slice none 0 0,.string ⟨#[]⟩,.int .i64 0,.int .i64 0,.int .i64 0,.int .i64 0,.string ⟨#[]⟩,.string ⟨#[]⟩,.int .i64 0,.slice none 0 0,.string ⟨#[]⟩,.int .i64 0,.int .i64 0,.int .i64 0,.int .i64 0,.string ⟨#[]⟩,.string ⟨#[]⟩,.int .i64 0,.slice none 0 0,.string ⟨#[]⟩,.int .i64 0,.bool false] 44)) wr.heap.size _ #[.int .i64 okd,.int .i64 a_k,.int .i64 a_i,.int .i64 a_g,.string a_n,.string a_f,.int .i64 a_a,.slice p1 n1 c1,.string a_b,.int .i64 a_z,.int .i64 b_k,.int .i64 b_i,.int .i64 b_g,.string b_n,.string b_f,.int .i64 b_a,.slice p2 n2 c2,.string b_b,.int .i64 b_z,.int .i64 c_k,.int .i64 c_i,.int .i64 c_g,.string c_n,.string c_f,.int .i64 c_a,.slice p3 n3 c3,.string c_b,.int .i64 c_z,.bool ohs] _ _ HZ.out)
   have hbX:Below wr.heap.size wr ((wr.alloc (.cells #[.int .i64 0,.int .i64 0,.int .i64 0,.int .i64 0,.string ⟨#[]⟩,.string ⟨#[]⟩,.int .i64 0,.slice none 0 0,.string ⟨#[]⟩,.int .i64 0,.int .i64 0,.int .i64 0,.int .i64 0,.string ⟨#[]⟩,.string ⟨#[]⟩,.int .i64 0,.slice none 0 0,.string ⟨#[]⟩,.int .i64 0,.int .i64 0,.int .i64 0,.int .i64 0,.string ⟨#[]⟩,.string ⟨#[]⟩,.int .i64 0,.slice none 0 0,.string ⟨#[]⟩,.int .i64 0,.bool false] 44)).setRow wr.heap.size #[.int .i64 okd,.int .i64 a_k,.int .i64 a_i,.int .i64 a_g,.string a_n,.string a_f,.int .i64 a_a,.slice p1 n1 c1,.string a_b,.int .i64 a_z,.int .i64 b_k,.int .i64 b_i,.int .i64 b_g,.string b_n,.string b_f,.int .i64 b_a,.slice p2 n2 c2,.string b_b,.int .i64 b_z,.int .i64 c_k,.int .i64 c_i,.int .i64 c_g,.string c_n,.string c_f,.int .i64 c_a,.slice p3 n3 c3,.string c_b,.int .i64 c_z,.bool ohs]):=(belowA (Below.refl wr.heap.size wr) (.cells #[.int .i64 0,.int .i64 0,.int .i64 0,.int .i64 0,.string ⟨#[]⟩,.string ⟨#[]⟩,.int .i64 0,.slice none 0 0,.string ⟨#[]⟩,.int .i64 0,.int .i64 0,.int .i64 0,.int .i64 0,.string ⟨#[]⟩,.string ⟨#[]⟩,.int .i64 0,.slice none 0 0,.string ⟨#[]⟩,.int .i64 0,.int .i64 0,.int .i64 0,.int .i64 0,.string ⟨#[]⟩,.string ⟨#[]⟩,.int .i64 0,.slice none 0 0,.string ⟨#[]⟩,.int .i64 0,.bool false] 44) (Nat.le_refl _)).trans ((touch_setRow _ wr.heap.size #[.int .i64 okd,.int .i64 a_k,.int .i64 a_i,.int .i64 a_g,.string a_n,.string a_f,.int .i64 a_a,.slice p1 n1 c1,.string a_b,.int .i64 a_z,.int .i64 b_k,.int .i64 b_i,.int .i64 b_g,.string b_n,.string b_f,.int .i64 b_a,.slice p2 n2 c2,.string b_b,.int .i64 b_z,.int .i64 c_k,.int .i64 c_i,.int .i64 c_g,.string c_n,.string c_f,.int .i64 c_a,.slice p3 n3 c3,.string c_b,.int .i64 c_z,.bool ohs]).below (fun q e=>by omega) (by rw [World.size_alloc];exact Nat.le_succ _))
   have HSt:=Lib.hid (hSt.below hbX)
   have HBox:=Lib.hid (fun (W:World) (gb:Nat) (h:W.heap[gb]? = some (.cells #[.int .i64 okd,.int .i64 a_k,.int .i64 a_i,.int .i64 a_g,.string a_n,.string a_f,.int .i64 a_a,.slice p1 n1 c1,.string a_b,.int .i64 a_z,.int .i64 b_k,.int .i64 b_i,.int .i64 b_g,.string b_n,.string b_f,.int .i64 b_a,.slice p2 n2 c2,.string b_b,.int .i64 b_z,.int .i64 c_k,.int .i64 c_i,.int .i64 c_g,.string c_n,.string c_f,.int .i64 c_a,.slice p3 n3 c3,.string c_b,.int .i64 c_z,.bool ohs] 44))=>(show W.cell? ⟨gb,0,none⟩ = some (.int .i64 okd)∧W.rangeAt gb 10 [.int .i64 b_k,.int .i64 b_i,.int .i64 b_g,.string b_n,.string b_f,.int .i64 b_a,.slice p2 n2 c2,.string b_b,.int .i64 b_z]∧W.rangeAt gb 19 [.int .i64 c_k,.int .i64 c_i,.int .i64 c_g,.string c_n,.string c_f,.int .i64 c_a,.slice p3 n3 c3,.string c_b,.int .i64 c_z] from
    op_box (okd:=okd) (ohs:=ohs) (fa:=⟨a_k,a_i,a_g,a_n,a_f,a_a,a_b,a_z⟩) (fb:=⟨b_k,b_i,b_g,b_n,b_f,b_a,b_b,b_z⟩) (fc:=⟨c_k,c_i,c_g,c_n,c_f,c_a,c_b,c_z⟩) (ua:=.slice p1 n1 c1) (ub:=.slice p2 n2 c2) (uc:=.slice p3 n3 c3) h))
   clear hR hSt hbX HDel1 HDel2 HPut1 HPut2 HWk
   go_upto_region 12 with (first
    | (refine wpList_load_mid rfl 44 (.tmp 46) rfl g (o + i * 29) rfl [.int .i64 okd,.int .i64 a_k,.int .i64 a_i,.int .i64 a_g,.string a_n,.string a_f,.int .i64 a_a,.slice p1 n1 c1,.string a_b,.int .i64 a_z,.int .i64 b_k,.int .i64 b_i,.int .i64 b_g,.string b_n,.string b_f,.int .i64 b_a,.slice p2 n2 c2,.string b_b,.int .i64 b_z,.int .i64 c_k,.int .i64 c_i,.int .i64 c_g,.string c_n,.string c_f,.int .i64 c_a,.slice p3 n3 c3,.string c_b,.int .i64 c_z,.bool ohs] _ HRw.out Tryz.underlying44 rfl hsz29 ?_)
    | (refine wpList_store_row rfl 44 (.tmp 8) (.tmp 47) rfl wr.heap.size #[.int .i64 okd,.int .i64 a_k,.int .i64 a_i,.int .i64 a_g,.string a_n,.string a_f,.int .i64 a_a,.slice p1 n1 c1,.string a_b,.int .i64 a_z,.int .i64 b_k,.int .i64 b_i,.int .i64 b_g,.string b_n,.string b_f,.int .i64 b_a,.slice p2 n2 c2,.string b_b,.int .i64 b_z,.int .i64 c_k,.int .i64 c_i,.int .i64 c_g,.string c_n,.string c_f,.int .i64 c_a,.slice p3 n3 c3,.string c_b,.int .i64 c_z,.bool ohs] rfl rfl 44 _ HZ.out hsz29 rfl hone ?_))
   have hRg:=HRg.out
   have hSt:=HSt.out
   clear HRg HSt HZ HRw hone
   generalize (wr.alloc (.cells #[.int .i64 0,.int .i64 0,.int .i64 0,.int .i64 0,.string ⟨#[]⟩,.string ⟨#[]⟩,.int .i64 0,.slice none 0 0,.string ⟨#[]⟩,.int .i64 0,.int .i64 0,.int .i64 0,.int .i64 0,.string ⟨#[]⟩,.string ⟨#[]⟩,.int .i64 0,.slice none 0 0,.string ⟨#[]⟩,.int .i64 0,.int .i64 0,.int .i64 0,.int .i64 0,.string ⟨#[]⟩,.string ⟨#[]⟩,.int .i64 0,.slice none 0 0,.string ⟨#[]⟩,.int .i64 0,.bool false] 44)).setRow wr.heap.size #[.int .i64 okd,.int .i64 a_k,.int .i64 a_i,.int .i64 a_g,.string a_n,.string a_f,.int .i64 a_a,.slice p1 n1 c1,.string a_b,.int .i64 a_z,.int .i64 b_k,.int .i64 b_i,.int .i64 b_g,.string b_n,.string b_f,.int .i64 b_a,.slice p2 n2 c2,.string b_b,.int .i64 b_z,.int .i64 c_k,.int .i64 c_i,.int .i64 c_g,.string c_n,.string c_f,.int .i64 c_a,.slice p3 n3 c3,.string c_b,.int .i64 c_z,.bool ohs] = w8 at *
   generalize wr.heap.size = gb at *
   have k8:=(HBox.out _ _ hRg).1
   go_wp2_with fail
   refine (HPk.out _ _).mono ?_
   rintro e w9 ⟨rfl,hb⟩
   replace hSt:=hSt.below hb
   replace hRg:=(hb.block _ (Array.getElem?_eq_some_iff.1 hRg).1).trans hRg
   clear hb k8
   generalize pickI okd 4 = pk at *
   by_cases hpk:pk = 0
   ·subst hpk
    go_upto_region 13 with (fail)
    have hbD:=belowD (Below.refl w9.heap.size w9)
    replace hSt:=hSt.below hbD
    replace hRg:=(hbD.block _ (Array.getElem?_eq_some_iff.1 hRg).1).trans hRg
    clear hbD
    refine wp_region_held_drew (S:=(fun w'=>w'.rangeAt gb 10 [.int .i64 b_k,.int .i64 b_i,.int .i64 b_g,.string b_n,.string b_f,.int .i64 b_a,.slice p2 n2 c2,.string b_b,.int .i64 b_z]∧w'.rangeAt gb 19 [.int .i64 c_k,.int .i64 c_i,.int .i64 c_g,.string c_n,.string c_f,.int .i64 c_a,.slice p3 n3 c3,.string c_b,.int .i64 c_z])) (by kernel_rfl) ?_ (fun hHeld=>?_)
    ·exact (HBox.out _ _ hRg).2
    generalize w9.drew = vd at *
    refine run_in [0,2,3] ?_
    iterate 2 (refine run_e rfl (by kernel_rfl) (by rfl) (fun _ _ _ _ h=>h) (by assumption) ?_;apply Exists.intro;refine And.intro (fun w hSw=>?_) ?_;(focus (try dsimp only at hSw);go_simp;(try with_reducible rfl));(try simp only [Act.put,pA,pB,pC]))
    refine run_r rfl (by kernel_rfl) (fun _ _ _ _ h=>h) (by assumption) (yieldsIf_load_mid (by rfl) 24 (.tmp 54) rfl gb 10 rfl [.int .i64 b_k,.int .i64 b_i,.int .i64 b_g,.string b_n,.string b_f,.int .i64 b_a,.slice p2 n2 c2,.string b_b,.int .i64 b_z] _ (fun w hs=>hs.1) Tryz.underlying24 rfl hsz9) ?_
    (try simp only [Act.put,pA,pB,pC])
    refine run_out ?_
    refine wpAnyH_ready (rs:=[1]) (by kernel_rfl) (by simp) ?_
    refine (readyR rfl (fun K hK=>?_) AllReadyH.nil)
    go_simp
    refine (HRf.out _).mono ?_
    rintro e x1 ⟨rfl,hb⟩
    replace hSt:=hSt.below hb
    replace hRg:=(hb.block _ (Array.getElem?_eq_some_iff.1 hRg).1).trans hRg
    clear hb
    go_wp2_with fail
    refine hK.out _ _ ?_ (fun hHeld=>?_)
    ·exact (HBox.out _ _ hRg).2
    clear hK K
    (try simp only [Act.put,pA,pB,pC])
    refine wpAnyH_ready (rs:=[4]) (by kernel_rfl) (by simp) ?_
    refine (readyR rfl (fun K hK=>?_) AllReadyH.nil)
    go_simp
    refine (HD1.out _ hSt).mono ?_
    rintro e x2 ⟨⟨db,de,rfl⟩,hSn,hT⟩
    replace hRg:=hT.keepC hRg no44p
    clear hT hSt
    have hSt:=hSn
    clear hSn
    go_wp2_with fail
    refine hK.out _ _ ?_ (fun hHeld=>?_)
    ·exact (HBox.out _ _ hRg).2
    clear hK K
    (try simp only [Act.put,pA,pB,pC])
    refine wpAnyH_done (by kernel_rfl) ?_ _
    go_upto_region 14 with (fail)
    have hbD:=belowD (Below.refl x2.heap.size x2)
    replace hSt:=hSt.below hbD
    replace hRg:=(hbD.block _ (Array.getElem?_eq_some_iff.1 hRg).1).trans hRg
    clear hbD
    refine wp_region_held_drew (S:=(fun w'=>w'.rangeAt gb 10 [.int .i64 b_k,.int .i64 b_i,.int .i64 b_g,.string b_n,.string b_f,.int .i64 b_a,.slice p2 n2 c2,.string b_b,.int .i64 b_z]∧w'.rangeAt gb 19 [.int .i64 c_k,.int .i64 c_i,.int .i64 c_g,.string c_n,.string c_f,.int .i64 c_a,.slice p3 n3 c3,.string c_b,.int .i64 c_z])) (by kernel_rfl) ?_ (fun hHeld=>?_)
    ·exact (HBox.out _ _ hRg).2
    generalize x2.drew = vd at *
    refine run_in [0,2,3] ?_
    iterate 2 (refine run_e rfl (by kernel_rfl) (by rfl) (fun _ _ _ _ h=>h) (by assumption) ?_;apply Exists.intro;refine And.intro (fun w hSw=>?_) ?_;(focus (try dsimp only at hSw);go_simp;(try with_reducible rfl));(try simp only [Act.put,pA,pB,pC]))
    refine run_r rfl (by kernel_rfl) (fun _ _ _ _ h=>h) (by assumption) (yieldsIf_load_mid (by rfl) 24 (.tmp 59) rfl gb 10 rfl [.int .i64 b_k,.int .i64 b_i,.int .i64 b_g,.string b_n,.string b_f,.int .i64 b_a,.slice p2 n2 c2,.string b_b,.int .i64 b_z] _ (fun w hs=>hs.1) Tryz.underlying24 rfl hsz9) ?_
    (try simp only [Act.put,pA,pB,pC])
    refine run_out ?_
    refine wpAnyH_ready (rs:=[1]) (by kernel_rfl) (by simp) ?_
    refine (readyR rfl (fun K hK=>?_) AllReadyH.nil)
    go_simp
    refine (HRf.out _).mono ?_
    rintro e x1 ⟨rfl,hb⟩
    replace hSt:=hSt.below hb
    replace hRg:=(hb.block _ (Array.getElem?_eq_some_iff.1 hRg).1).trans hRg
    clear hb
    go_wp2_with fail
    refine hK.out _ _ ?_ (fun hHeld=>?_)
    ·exact (HBox.out _ _ hRg).2
    clear hK K
    (try simp only [Act.put,pA,pB,pC])
    refine wpAnyH_ready (rs:=[4]) (by kernel_rfl) (by simp) ?_
    refine (readyR rfl (fun K hK=>?_) AllReadyH.nil)
    go_simp
    refine (HD2.out _ hSt).mono ?_
    rintro e x2 ⟨⟨db,de,rfl⟩,hSn,hT⟩
    replace hRg:=hT.keepC hRg no44r
    clear hT hSt
    have hSt:=hSn
    clear hSn
    go_wp2_with fail
    refine hK.out _ _ ?_ (fun hHeld=>?_)
    ·exact (HBox.out _ _ hRg).2
    clear hK K
    (try simp only [Act.put,pA,pB,pC])
    refine wpAnyH_done (by kernel_rfl) ?_ _
    go_wp2_with fail
    go_roundg (l.length - (i + 1))
    case measure=>have:=HM.out;omega
    case rel=>exact HNe1.out _ hSt
   ·have q1:decide (pk = 0) = false:=decide_eq_false hpk
    go_upto_region 15 with (fail)
    have hbD:=belowD (Below.refl w9.heap.size w9)
    replace hSt:=hSt.below hbD
    replace hRg:=(hbD.block _ (Array.getElem?_eq_some_iff.1 hRg).1).trans hRg
    clear hbD
    refine wp_region_held_drew (S:=(fun w'=>w'.rangeAt gb 10 [.int .i64 b_k,.int .i64 b_i,.int .i64 b_g,.string b_n,.string b_f,.int .i64 b_a,.slice p2 n2 c2,.string b_b,.int .i64 b_z]∧w'.rangeAt gb 19 [.int .i64 c_k,.int .i64 c_i,.int .i64 c_g,.string c_n,.string c_f,.int .i64 c_a,.slice p3 n3 c3,.string c_b,.int .i64 c_z])) (by kernel_rfl) ?_ (fun hHeld=>?_)
    ·exact (HBox.out _ _ hRg).2
    generalize w9.drew = vd at *
    refine run_in [0,2,3,4,5,7,9,10,11,12] ?_
    iterate 2 (refine run_e rfl (by kernel_rfl) (by rfl) (fun _ _ _ _ h=>h) (by assumption) ?_;apply Exists.intro;refine And.intro (fun w hSw=>?_) ?_;(focus (try dsimp only at hSw);go_simp;(try with_reducible rfl));(try simp only [Act.put,pA,pB,pC]))
    refine run_r rfl (by kernel_rfl) (fun _ _ _ _ h=>h) (by assumption) (yieldsIf_load_mid (by rfl) 24 (.tmp 64) rfl gb 10 rfl [.int .i64 b_k,.int .i64 b_i,.int .i64 b_g,.string b_n,.string b_f,.int .i64 b_a,.slice p2 n2 c2,.string b_b,.int .i64 b_z] _ (fun w hs=>hs.1) Tryz.underlying24 rfl hsz9) ?_
    (try simp only [Act.put,pA,pB,pC])
    (refine run_e rfl (by kernel_rfl) (by rfl) (fun _ _ _ _ h=>h) (by assumption) ?_;apply Exists.intro;refine And.intro (fun w hSw=>?_) ?_;(focus (try dsimp only at hSw);go_simp;(try with_reducible rfl));(try simp only [Act.put,pA,pB,pC]))
    refine run_r rfl (by kernel_rfl) (fun _ _ _ _ h=>h) (by assumption) (yieldsIf_load_mid (by rfl) 24 (.tmp 66) rfl gb 19 rfl [.int .i64 c_k,.int .i64 c_i,.int .i64 c_g,.string c_n,.string c_f,.int .i64 c_a,.slice p3 n3 c3,.string c_b,.int .i64 c_z] _ (fun w hs=>hs.2) Tryz.underlying24 rfl hsz9) ?_
    (try simp only [Act.put,pA,pB,pC])
    iterate 2 (refine run_e rfl (by kernel_rfl) (by rfl) (fun _ _ _ _ h=>h) (by assumption) ?_;apply Exists.intro;refine And.intro (fun w hSw=>?_) ?_;(focus (try dsimp only at hSw);go_simp;(try with_reducible rfl));(try simp only [Act.put,pA,pB,pC]))
    refine run_r rfl (by kernel_rfl) (fun _ _ _ _ h=>h) (by assumption) (yieldsIf_load_mid (by rfl) 24 (.tmp 71) rfl gb 10 rfl [.int .i64 b_k,.int .i64 b_i,.int .i64 b_g,.string b_n,.string b_f,.int .i64 b_a,.slice p2 n2 c2,.string b_b,.int .i64 b_z] _ (fun w hs=>hs.1) Tryz.underlying24 rfl hsz9) ?_
    (try simp only [Act.put,pA,pB,pC])
    (refine run_e rfl (by kernel_rfl) (by rfl) (fun _ _ _ _ h=>h) (by assumption) ?_;apply Exists.intro;refine And.intro (fun w hSw=>?_) ?_;(focus (try dsimp only at hSw);go_simp;(try with_reducible rfl));(try simp only [Act.put,pA,pB,pC]))
    refine run_r rfl (by kernel_rfl) (fun _ _ _ _ h=>h) (by assumption) (yieldsIf_load_mid (by rfl) 24 (.tmp 73) rfl gb 19 rfl [.int .i64 c_k,.int .i64 c_i,.int .i64 c_g,.string c_n,.string c_f,.int .i64 c_a,.slice p3 n3 c3,.string c_b,.int .i64 c_z] _ (fun w hs=>hs.2) Tryz.underlying24 rfl hsz9) ?_
    (try simp only [Act.put,pA,pB,pC])
    refine run_out ?_
    refine wpAnyH_ready (rs:=[1]) (by kernel_rfl) (by simp) ?_
    refine (readyR rfl (fun K hK=>?_) AllReadyH.nil)
    go_simp
    refine (HRf.out _).mono ?_
    rintro e x1 ⟨rfl,hb⟩
    replace hSt:=hSt.below hb
    replace hRg:=(hb.block _ (Array.getElem?_eq_some_iff.1 hRg).1).trans hRg
    clear hb
    go_wp2_with fail
    refine hK.out _ _ ?_ (fun hHeld=>?_)
    ·exact (HBox.out _ _ hRg).2
    clear hK K
    (try simp only [Act.put,pA,pB,pC])
    refine wpAnyH_ready (rs:=[6]) (by kernel_rfl) (by simp) ?_
    refine (readyR rfl (fun K hK=>?_) AllReadyH.nil)
    go_simp
    refine (HP1.out _ hSt).mono ?_
    rintro e x2 ⟨rfl,hSn,hT⟩
    replace hRg:=hT.keepC hRg no44p
    clear hT hSt
    have hSt:=hSn
    clear hSn
    go_wp2_with fail
    refine hK.out _ _ ?_ (fun hHeld=>?_)
    ·exact (HBox.out _ _ hRg).2
    clear hK K
    (try simp only [Act.put,pA,pB,pC])
    refine wpAnyH_ready (rs:=[8]) (by kernel_rfl) (by simp) ?_
    refine (readyR rfl (fun K hK=>?_) AllReadyH.nil)
    go_simp
    refine (HRf.out _).mono ?_
    rintro e x1 ⟨rfl,hb⟩
    replace hSt:=hSt.below hb
    replace hRg:=(hb.block _ (Array.getElem?_eq_some_iff.1 hRg).1).trans hRg
    clear hb
    go_wp2_with fail
    refine hK.out _ _ ?_ (fun hHeld=>?_)
    ·exact (HBox.out _ _ hRg).2
    clear hK K
    (try simp only [Act.put,pA,pB,pC])
    refine wpAnyH_ready (rs:=[13]) (by kernel_rfl) (by simp) ?_
    refine (readyR rfl (fun K hK=>?_) AllReadyH.nil)
    go_simp
    refine (HP2.out _ hSt).mono ?_
    rintro e x2 ⟨rfl,hSn,hT⟩
    replace hRg:=hT.keepC hRg no44r
    clear hT hSt
    have hSt:=hSn
    clear hSn
    go_wp2_with fail
    refine hK.out _ _ ?_ (fun hHeld=>?_)
    ·exact (HBox.out _ _ hRg).2
    clear hK K
    (try simp only [Act.put,pA,pB,pC])
    refine run_in [14] ?_
    (refine run_e rfl (by kernel_rfl) (by rfl) (fun _ _ _ _ h=>h) (by assumption) ?_;apply Exists.intro;refine And.intro (fun w hSw=>?_) ?_;(focus (try dsimp only at hSw);go_simp;(try with_reducible rfl));(try simp only [Act.put,pA,pB,pC]))
    refine run_out ?_
    refine wpAnyH_done (by kernel_rfl) ?_ _
    go_wp2_with fail
    go_roundg (l.length - (i + 1))
    case measure=>have:=HM.out;omega
    case rel=>exact HNe2.out _ hSt
  ·obtain rfl:i = l.length:=by omega
   have HWk1:=Lib.hid (fun (W:World) (h:WSt w z y (oneA hs R) (oneA hs R) W)=>HWk.out z y _ W R h (by omega) (by omega))
   clear HWk HDel1 HDel2 HPut1 HPut2 HI HJ hi hm HSm
   go_wp2_with fail
   refine (HRf.out _).mono ?_
   rintro e x1 ⟨rfl,hb⟩
   replace hSt:=hSt.below hb
   clear hb
   go_wp2_with fail
   refine (HWk1.out _ hSt).mono ?_
   rintro e x2 ⟨v9,rows9,rfl,hb,habs,hrow,hit⟩
   replace hSt:=hSt.below hb
   obtain ⟨g2,o2,c2,vr,rows2,k1,k2,habs2,hrow2,hit2⟩:=hSt.rows
   obtain ⟨hlen,hkv⟩:=rows_at habs habs2
   have hr200:rows2.length ≤ 200:=by
    have h1:=congrArg List.length habs2
    unfold absRR at h1
    rw [List.length_map] at h1
    omega
   obtain ⟨p9,c9,rfl,_,_⟩:=hrow.shape
   obtain ⟨p2,c3,rfl,_,_⟩:=hrow2.shape
   have HX:=Lib.hid (And.intro hrow (And.intro hit (And.intro hrow2 (And.intro hit2 (And.intro hkv hlen)))))
   have HBF:=Lib.hid hSt.hb
   clear hb habs habs2 hrow hit hrow2 hit2 hkv hSt HWk1 HRf HPk
   rw [hlen]
   have H20:Hid (LbW x2 rows2.length rows2.length (.int .i64 0) x2):=Lib.hid ⟨0,rfl,Nat.zero_le _,rfl,Below.refl _ _⟩
   clear hlen
   go_wp2_with fail
   go_loopg [12] rows2.length (fun mm iv wr=>Hid (LbW x2 rows2.length mm iv wr))
   case atStart=>exact H20
   case round =>
    obtain ⟨j,rfl,hj,hm,hb⟩:=hrel.out
    clear hrel H20
    have HM:=Lib.hid hm
    obtain ⟨hrow9,hit9,hrow2,hit2,hkv,hlen⟩:=HX.out
    by_cases hlt:j < rows2.length
    ·have r1:(j:Int) < (rows2.length:Int):=by omega
     have ha:=List.getElem?_eq_getElem (l:=rows9) (i:=j) (by omega)
     have hc:=List.getElem?_eq_getElem hlt
     obtain ⟨g9,o9,e9,_,hg9,_⟩:=hrow9.nth (by omega)
     obtain ⟨g8,o8,e8,_,hg8,_⟩:=hrow2.nth (by omega)
     subst e9;subst e8
     have q9:=rec_rngs hrow9 ha
     have q8:=rec_rngs hrow2 hc
     obtain ⟨hk,hv⟩:=hkv j _ _ ha hc
     obtain ⟨i1,i2⟩:=hit9 _ (List.mem_of_getElem? ha)
     obtain ⟨i3,i4⟩:=hit2 _ (List.mem_of_getElem? hc)
     clear ha hc hkv hit9 hit2 hrow9 hrow2
     generalize rows9[j] = ra at *
     generalize rows2[j] = rb at *
     obtain ⟨ka,va,u1,u2⟩:=ra
     obtain ⟨kb,vb,u3,u4⟩:=rb
     dsimp only at hk hv i1 i2 i3 i4
     subst hk;subst hv
     have HS1:=Lib.hid (fun (W:World) (hW:Below x2.heap.size x2 W)=>sameOne W x2.heap.size u1 u3 ka ka hW.size (i1.below hW (Nat.le_refl _)) (i3.below hW (Nat.le_refl _)))
     have HS2:=Lib.hid (fun (W:World) (hW:Below x2.heap.size x2 W)=>sameOne W x2.heap.size u2 u4 va va hW.size (i2.below hW (Nat.le_refl _)) (i4.below hW (Nat.le_refl _)))
     rw [eqB_t rfl] at HS1 HS2
     unfold BPost aggV at HS1 HS2
     have qa:=rng_pre (a:=nineL ka.f u1) (b:=nineL va.f u2) q9
     have qb:=rng_suf (a:=nineL ka.f u1) (b:=nineL va.f u2) q9 (n:=9) rfl
     have qc:=rng_pre (a:=nineL ka.f u3) (b:=nineL va.f u4) q8
     have qd:=rng_suf (a:=nineL ka.f u3) (b:=nineL va.f u4) q8 (n:=9) rfl
     clear q9 q8 i1 i2 i3 i4 hm
     generalize ka.f = fk at *
     generalize va.f = fv at *
     obtain ⟨x_k,x_i,x_g,x_n,x_f,x_a,x_b,x_z⟩:=fk
     obtain ⟨y_k,y_i,y_g,y_n,y_f,y_a,y_b,y_z⟩:=fv
     unfold nineL at qa qb qc qd
     dsimp only at qa qb qc qd HS1 HS2
     have HQ:=Lib.hid (fun W (hW:Below x2.heap.size x2 W)=>(And.intro (rng_same qa (hW.block g9 hg9)) (And.intro (rng_same qb (hW.block g9 hg9)) (And.intro (rng_same qc (hW.block g8 hg8)) (rng_same qd (hW.block g8 hg8))))))
     clear qa qb qc qd
     go_upto_region 24 with (fail)
     replace hb:=hb.trans ((belowD (Below.refl wr.heap.size wr)).mono hb.size)
     refine wp_region_held_drew (S:=(fun w'=>w'.rangeAt g9 (o9 + j * 18) [.int .i64 x_k,.int .i64 x_i,.int .i64 x_g,.string x_n,.string x_f,.int .i64 x_a,u1,.string x_b,.int .i64 x_z]∧w'.rangeAt g9 (o9 + j * 18 + 9) [.int .i64 y_k,.int .i64 y_i,.int .i64 y_g,.string y_n,.string y_f,.int .i64 y_a,u2,.string y_b,.int .i64 y_z]∧w'.rangeAt g8 (o8 + j * 18) [.int .i64 x_k,.int .i64 x_i,.int .i64 x_g,.string x_n,.string x_f,.int .i64 x_a,u3,.string x_b,.int .i64 x_z]∧w'.rangeAt g8 (o8 + j * 18 + 9) [.int .i64 y_k,.int .i64 y_i,.int .i64 y_g,.string y_n,.string y_f,.int .i64 y_a,u4,.string y_b,.int .i64 y_z])) (by kernel_rfl) ?_ (fun hHeld=>?_)
     ·exact HQ.out _ hb
     generalize wr.drew = wd at *
     refine run_in [0,1,2,3,4,5,6,7,8,9] ?_
     iterate 4 (refine run_e rfl (by kernel_rfl) (by rfl) (fun _ _ _ _ h=>h) (by assumption) ?_;apply Exists.intro;refine And.intro (fun w hSw=>?_) ?_;(focus (try dsimp only at hSw);go_simp;(try with_reducible rfl));(try simp only [Act.put,pA,pB,pC]))
     refine run_r rfl (by kernel_rfl) (fun _ _ _ _ h=>h) (by assumption) (yieldsIf_load_mid (by rfl) 24 (.tmp 110) rfl g9 (o9 + j * 18) rfl [.int .i64 x_k,.int .i64 x_i,.int .i64 x_g,.string x_n,.string x_f,.int .i64 x_a,u1,.string x_b,.int .i64 x_z] _ (fun w hs=>hs.1) Tryz.underlying24 rfl hsz9) ?_
     (try simp only [Act.put,pA,pB,pC])
     iterate 4 (refine run_e rfl (by kernel_rfl) (by rfl) (fun _ _ _ _ h=>h) (by assumption) ?_;apply Exists.intro;refine And.intro (fun w hSw=>?_) ?_;(focus (try dsimp only at hSw);go_simp;(try with_reducible rfl));(try simp only [Act.put,pA,pB,pC]))
     refine run_r rfl (by kernel_rfl) (fun _ _ _ _ h=>h) (by assumption) (yieldsIf_load_mid (by rfl) 24 (.tmp 115) rfl g8 (o8 + j * 18) rfl [.int .i64 x_k,.int .i64 x_i,.int .i64 x_g,.string x_n,.string x_f,.int .i64 x_a,u3,.string x_b,.int .i64 x_z] _ (fun w hs=>hs.2.2.1) Tryz.underlying24 rfl hsz9) ?_
     (try simp only [Act.put,pA,pB,pC])
     refine run_out ?_
     refine wpAnyH_ready (rs:=[10]) (by kernel_rfl) (by simp) ?_
     refine (readyR rfl (fun K hK=>?_) AllReadyH.nil)
     go_simp
     refine (HS1.out _ hb).mono ?_
     rintro e x3 ⟨rfl,hb1⟩
     replace hb:=hb.trans (hb1.mono hb.size)
     clear hb1
     go_wp2_with fail
     refine hK.out _ _ ?_ (fun hHeld=>?_)
     ·exact HQ.out _ hb
     clear hK K
     (try simp only [Act.put,pA,pB,pC])
     refine run_in [11,12,13,14,15,16,17,18,19,20,21,22] ?_
     iterate 6 (refine run_e rfl (by kernel_rfl) (by rfl) (fun _ _ _ _ h=>h) (by assumption) ?_;apply Exists.intro;refine And.intro (fun w hSw=>?_) ?_;(focus (try dsimp only at hSw);go_simp;(try with_reducible rfl));(try simp only [Act.put,pA,pB,pC]))
     refine run_r rfl (by kernel_rfl) (fun _ _ _ _ h=>h) (by assumption) (yieldsIf_load_mid (by rfl) 24 (.tmp 123) rfl g9 (o9 + j * 18 + 9) rfl [.int .i64 y_k,.int .i64 y_i,.int .i64 y_g,.string y_n,.string y_f,.int .i64 y_a,u2,.string y_b,.int .i64 y_z] _ (fun w hs=>hs.2.1) Tryz.underlying24 rfl hsz9) ?_
     (try simp only [Act.put,pA,pB,pC])
     iterate 4 (refine run_e rfl (by kernel_rfl) (by rfl) (fun _ _ _ _ h=>h) (by assumption) ?_;apply Exists.intro;refine And.intro (fun w hSw=>?_) ?_;(focus (try dsimp only at hSw);go_simp;(try with_reducible rfl));(try simp only [Act.put,pA,pB,pC]))
     refine run_r rfl (by kernel_rfl) (fun _ _ _ _ h=>h) (by assumption) (yieldsIf_load_mid (by rfl) 24 (.tmp 128) rfl g8 (o8 + j * 18 + 9) rfl [.int .i64 y_k,.int .i64 y_i,.int .i64 y_g,.string y_n,.string y_f,.int .i64 y_a,u4,.string y_b,.int .i64 y_z] _ (fun w hs=>hs.2.2.2) Tryz.underlying24 rfl hsz9) ?_
     (try simp only [Act.put,pA,pB,pC])
     refine run_out ?_
     refine wpAnyH_ready (rs:=[23]) (by kernel_rfl) (by simp) ?_
     refine (readyR rfl (fun K hK=>?_) AllReadyH.nil)
     go_simp
     refine (HS2.out _ hb).mono ?_
     rintro e x3 ⟨rfl,hb1⟩
     replace hb:=hb.trans (hb1.mono hb.size)
     clear hb1
     go_wp2_with fail
     refine hK.out _ _ ?_ (fun hHeld=>?_)
     ·exact HQ.out _ hb
     clear hK K
     (try simp only [Act.put,pA,pB,pC])
     refine run_in [24,25] ?_
     iterate 2 (refine run_e rfl (by kernel_rfl) (by rfl) (fun _ _ _ _ h=>h) (by assumption) ?_;apply Exists.intro;refine And.intro (fun w hSw=>?_) ?_;(focus (try dsimp only at hSw);go_simp;(try with_reducible rfl));(try simp only [Act.put,pA,pB,pC]))
     refine run_out ?_
     refine wpAnyH_done (by kernel_rfl) ?_ _
     go_wp2_with fail
     go_roundg (rows2.length - (j + 1))
     case measure=>have:=HM.out;omega
     case rel=>exact Lib.hid ⟨j + 1,by go_num,by omega,rfl,hb⟩
    ·obtain rfl:j = rows2.length:=by omega
     have HBx:=Lib.hid (HBF.out.trans (hb.mono HBF.out.size))
     clear hrow9 hit9 hrow2 hit2 hkv hlen hb hm
     go_wp2_with fail
     go_ret
     exact ⟨rfl,HBx.out⟩
 end Go.Proofs.YtfbggmbmgohiiaaGreat.tb
