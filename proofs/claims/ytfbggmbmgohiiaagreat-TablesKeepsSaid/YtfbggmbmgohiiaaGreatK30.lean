/- Texts of this seat, one behind the other: TbR, TbY. No condition beyond theirs. -/
import Derived.Test.YtfbggmbmgohiiaaGreatK29
import Derived.Test.YtfbggmbmgohiiaaGreatK22
set_option linter.unusedSimpArgs false
set_option linter.unusedVariables false
set_option maxHeartbeats 4000000
set_option maxRecDepth 100000
namespace Go.Proofs.YtfbggmbmgohiiaaGreat.tb
open Go.RowKit mem rec tm names
noncomputable def befB {N:Nat} (hs:Bool) (x y:Tm (N + 1)) (a b:Int):Bool:=if hs then (decide (a < b) || ((a == b) && decide (cmpV x y < 0))) else decide (cmpV x y < 0)
theorem two_boxes (w:World) (o1 o2:Obj):Below w.heap.size w ((w.alloc o1).alloc o2)∧((w.alloc o1).alloc o2).heap[w.heap.size]? = some o1∧((w.alloc o1).alloc o2).heap[w.heap.size + 1]? = some o2:=by
 have h1:=belowA (Below.refl w.heap.size w) o1 (Nat.le_refl _)
 refine ⟨belowA h1 o2 h1.size,(Below.heap_alloc _ _ _ (by rw [World.size_alloc];omega)).trans (alloc_new w o1),?_⟩
 have:=alloc_new (w.alloc o1) o2
 rwa [World.size_alloc] at this
theorem bef177 {N:Nat} (w:World) (B:Nat) (u1 u2:Value) (x y:Tm (N + 1)) (a b:Int) (hB:B ≤ w.heap.size) (h1:ItemsAt w B N u1 x.items) (h2:ItemsAt w B N u2 y.items) (s1:300 * (nodesT x:Int) ≤ 1000000000000) (s2:300 * (nodesT y:Int) ≤ 1000000000000) :
 Calls Tryz.prog 177 #[.agg #[],aggV x.f u1,aggV y.f u2,.int .u32 a,.int .u32 b] w (BPost (befB false x y a b) w):=by
 have HL:=Lib.hid (fun W (hW:Below w.heap.size w W)=>Less W B u1 u2 x y (Nat.le_trans hB hW.size) (h1.below hW hB) (h2.below hW hB) s1 s2)
 have hbf:befB false x y a b = decide (cmpV x y < 0):=rfl
 rw [hbf]
 obtain ⟨pa,ca,rfl,_,_⟩:=h1.shape
 obtain ⟨pb,cb,rfl,_,_⟩:=h2.shape
 generalize decide (cmpV x y < 0) = q at *
 generalize x.items.length = na at *
 generalize y.items.length = nb at *
 generalize x.f = fa at *
 generalize y.f = fb at *
 clear h1 h2 s1 s2 hB hbf
 obtain ⟨k1,i1,j1,n1,f1,a1,b1,t1⟩:=fa
 obtain ⟨k2,i2,j2,n2,f2,a2,b2,t2⟩:=fb
 unfold aggV at *
 dsimp only at HL ⊢
 have hb0:=belowA (Below.refl w.heap.size w) (.cells #[] 93) (Nat.le_refl _)
 obtain ⟨hb1,hc1,hc2⟩:=two_boxes (w.alloc (.cells #[] 93)) (.cells #[.int .i64 k1,.int .i64 i1,.int .i64 j1,.string n1,.string f1,.int .i64 a1,.slice pa na ca,.string b1,.int .i64 t1] 24) (.cells #[.int .i64 k2,.int .i64 i2,.int .i64 j2,.string n2,.string f2,.int .i64 a2,.slice pb nb cb,.string b2,.int .i64 t2] 24)
 rw [World.size_alloc] at hc1 hc2
 have HB:=Lib.hid (hb0.trans (hb1.mono hb0.size))
 have HN1:=Lib.hid (nine_of (f:=⟨k1,i1,j1,n1,f1,a1,b1,t1⟩) (v:=.slice pa na ca) hc1)
 have HN2:=Lib.hid (nine_of (f:=⟨k2,i2,j2,n2,f2,a2,b2,t2⟩) (v:=.slice pb nb cb) hc2)
 clear hb0 hb1 hc1 hc2
 go_enter Tryz.func177,Tryz.ntmps177
 go_upto_region 1 with (fail)
 generalize (((w.alloc (.cells #[] 93)).alloc (.cells #[.int .i64 k1,.int .i64 i1,.int .i64 j1,.string n1,.string f1,.int .i64 a1,.slice pa na ca,.string b1,.int .i64 t1] 24)).alloc (.cells #[.int .i64 k2,.int .i64 i2,.int .i64 j2,.string n2,.string f2,.int .i64 a2,.slice pb nb cb,.string b2,.int .i64 t2] 24)) = W1 at *
 obtain ⟨x0,x1,x2,x3,x4,x5,x6,x7,x8,xf⟩:=HN1.out
 obtain ⟨y0,y1,y2,y3,y4,y5,y6,y7,y8,yf⟩:=HN2.out
 dsimp only at x0 x1 x2 x3 x4 x5 x6 x7 x8 y0 y1 y2 y3 y4 y5 y6 y7 y8
 go_wp2_with fail
 refine (HL.out _ HB.out).mono ?_
 rintro e w2 ⟨rfl,hb2⟩
 have HB2:=Lib.hid (HB.out.trans (hb2.mono HB.out.size))
 clear hb2 x0 x1 x2 x3 x4 x5 x6 x7 x8 xf y0 y1 y2 y3 y4 y5 y6 y7 y8 yf
 go_wp2_with fail
 go_ret
 exact ⟨rfl,HB2.out⟩
theorem bef179 {N:Nat} (w:World) (B:Nat) (u1 u2:Value) (x y:Tm (N + 1)) (a b:Int) (hB:B ≤ w.heap.size) (h1:ItemsAt w B N u1 x.items) (h2:ItemsAt w B N u2 y.items) (s1:300 * (nodesT x:Int) ≤ 1000000000000) (s2:300 * (nodesT y:Int) ≤ 1000000000000) :
 Calls Tryz.prog 179 #[.agg #[],aggV x.f u1,aggV y.f u2,.int .u32 a,.int .u32 b] w (BPost (befB true x y a b) w):=by
 have HL:=Lib.hid (fun W (hW:Below w.heap.size w W)=>Less W B u1 u2 x y (Nat.le_trans hB hW.size) (h1.below hW hB) (h2.below hW hB) s1 s2)
 have hbf:befB true x y a b = (decide (a < b) || ((a == b) && decide (cmpV x y < 0))):=rfl
 rw [hbf]
 obtain ⟨pa,ca,rfl,_,_⟩:=h1.shape
 obtain ⟨pb,cb,rfl,_,_⟩:=h2.shape
 generalize decide (cmpV x y < 0) = q at *
 generalize x.items.length = na at *
 generalize y.items.length = nb at *
 generalize x.f = fa at *
 generalize y.f = fb at *
 clear h1 h2 s1 s2 hB hbf
 obtain ⟨k1,i1,j1,n1,f1,a1,b1,t1⟩:=fa
 obtain ⟨k2,i2,j2,n2,f2,a2,b2,t2⟩:=fb
 unfold aggV at *
 dsimp only at HL ⊢
 have hb0:=belowA (Below.refl w.heap.size w) (.cells #[] 99) (Nat.le_refl _)
 obtain ⟨hb1,hc1,hc2⟩:=two_boxes (w.alloc (.cells #[] 99)) (.cells #[.int .i64 k1,.int .i64 i1,.int .i64 j1,.string n1,.string f1,.int .i64 a1,.slice pa na ca,.string b1,.int .i64 t1] 24) (.cells #[.int .i64 k2,.int .i64 i2,.int .i64 j2,.string n2,.string f2,.int .i64 a2,.slice pb nb cb,.string b2,.int .i64 t2] 24)
 rw [World.size_alloc] at hc1 hc2
 have HB:=Lib.hid (hb0.trans (hb1.mono hb0.size))
 have HN1:=Lib.hid (nine_of (f:=⟨k1,i1,j1,n1,f1,a1,b1,t1⟩) (v:=.slice pa na ca) hc1)
 have HN2:=Lib.hid (nine_of (f:=⟨k2,i2,j2,n2,f2,a2,b2,t2⟩) (v:=.slice pb nb cb) hc2)
 clear hb0 hb1 hc1 hc2
 by_cases c1:a < b
 ·have hd:decide (a < b) = true:=decide_eq_true c1
  rw [hd,Bool.true_or]
  go_enter Tryz.func179,Tryz.ntmps179
  go_upto_region 1 with (fail)
  generalize (((w.alloc (.cells #[] 99)).alloc (.cells #[.int .i64 k1,.int .i64 i1,.int .i64 j1,.string n1,.string f1,.int .i64 a1,.slice pa na ca,.string b1,.int .i64 t1] 24)).alloc (.cells #[.int .i64 k2,.int .i64 i2,.int .i64 j2,.string n2,.string f2,.int .i64 a2,.slice pb nb cb,.string b2,.int .i64 t2] 24)) = W1 at *
  obtain ⟨x0,x1,x2,x3,x4,x5,x6,x7,x8,xf⟩:=HN1.out
  obtain ⟨y0,y1,y2,y3,y4,y5,y6,y7,y8,yf⟩:=HN2.out
  dsimp only at x0 x1 x2 x3 x4 x5 x6 x7 x8 y0 y1 y2 y3 y4 y5 y6 y7 y8
  go_wp2_with fail
  go_ret
  exact ⟨rfl,HB.out⟩
 ·have hd:decide (a < b) = false:=decide_eq_false c1
  rw [hd,Bool.false_or]
  by_cases c2:a = b
  ·have he:(a == b) = true:=by simp [c2]
   rw [he,Bool.true_and]
   clear c1 c2
   go_enter Tryz.func179,Tryz.ntmps179
   go_upto_region 1 with (fail)
   generalize (((w.alloc (.cells #[] 99)).alloc (.cells #[.int .i64 k1,.int .i64 i1,.int .i64 j1,.string n1,.string f1,.int .i64 a1,.slice pa na ca,.string b1,.int .i64 t1] 24)).alloc (.cells #[.int .i64 k2,.int .i64 i2,.int .i64 j2,.string n2,.string f2,.int .i64 a2,.slice pb nb cb,.string b2,.int .i64 t2] 24)) = W1 at *
   obtain ⟨x0,x1,x2,x3,x4,x5,x6,x7,x8,xf⟩:=HN1.out
   obtain ⟨y0,y1,y2,y3,y4,y5,y6,y7,y8,yf⟩:=HN2.out
   dsimp only at x0 x1 x2 x3 x4 x5 x6 x7 x8 y0 y1 y2 y3 y4 y5 y6 y7 y8
   go_wp2_with fail
   refine (HL.out _ HB.out).mono ?_
   rintro e w2 ⟨rfl,hb2⟩
   have HB2:=Lib.hid (HB.out.trans (hb2.mono HB.out.size))
   clear hb2 x0 x1 x2 x3 x4 x5 x6 x7 x8 xf y0 y1 y2 y3 y4 y5 y6 y7 y8 yf
   go_wp2_with fail
   go_ret
   exact ⟨rfl,HB2.out⟩
  ·have he:(a == b) = false:=by simp [c2]
   rw [he,Bool.false_and]
   clear c1 c2
   go_enter Tryz.func179,Tryz.ntmps179
   go_upto_region 1 with (fail)
   generalize (((w.alloc (.cells #[] 99)).alloc (.cells #[.int .i64 k1,.int .i64 i1,.int .i64 j1,.string n1,.string f1,.int .i64 a1,.slice pa na ca,.string b1,.int .i64 t1] 24)).alloc (.cells #[.int .i64 k2,.int .i64 i2,.int .i64 j2,.string n2,.string f2,.int .i64 a2,.slice pb nb cb,.string b2,.int .i64 t2] 24)) = W1 at *
   obtain ⟨x0,x1,x2,x3,x4,x5,x6,x7,x8,xf⟩:=HN1.out
   obtain ⟨y0,y1,y2,y3,y4,y5,y6,y7,y8,yf⟩:=HN2.out
   dsimp only at x0 x1 x2 x3 x4 x5 x6 x7 x8 y0 y1 y2 y3 y4 y5 y6 y7 y8
   go_wp2_with fail
   go_ret
   exact ⟨rfl,HB.out⟩
section
variable {N:Nat} {w w':World} {B:Nat} {F:Nat→Prop} {s:TbSt N}
def KeyR (l:List (TabE N)) (r k:Tm (N + 1)) (po:Option Addr) (er:Int):Prop:=(validT k = false∧po = none∧er = 2)∨(validT k = true∧TabR l r po er)
theorem keyed55 (h:TbAt w B F s) (hlen:s.tabs.length ≤ 1000) {r k:Tm (N + 1)} {ur uk:Value} {B2:Nat} (hB:B2 ≤ w.heap.size) (hI:ItemsAt w B2 N ur r.items) (hJ:ItemsAt w B2 N uk k.items) (hn:300 * (nodesT k:Int) ≤ 1000000000000) {po:Option Addr} {er:Int} (hR:KeyR s.tabs r k po er) :
 Calls Tryz.prog 55 #[.pointer (some ⟨s.z,0,none⟩),aggV r.f ur,aggV k.f uk] w fun e w'=>e = .returned (.tuple #[.pointer po,.int .i64 er])∧Below w.heap.size w w':=by
 obtain ⟨hb0,hc1,hc2⟩:=two_boxes w (cells9 r.f ur) (cells9 k.f uk)
 have HTb:=Lib.hid (fun (W:World) (hW:Below w.heap.size w W) hR=>table49 (h.below hW) hlen (Nat.le_trans hB hW.size) (hI.below hW hB) (po:=po) (er:=er) hR)
 have HV:=Lib.hid (fun (W:World) (hW:Below w.heap.size w W)=>ValidTm (ofAll N) W B2 uk k (Nat.le_trans hB hW.size) (hJ.below hW hB) hn)
 have HO:=Lib.hid (fun (W:World) (hW:Below w.heap.size w W)=>two_cells (h.below hW).obj)
 obtain ⟨pl,cl,hv,_,_⟩:=h.l.shape
 obtain ⟨pr,cr,er1,_,_⟩:=hI.shape
 obtain ⟨pk,ck,ek,_,_⟩:=hJ.shape
 rw [hv] at HO
 unfold KeyR at hR
 generalize validT k = vk at *
 generalize s.z = z at *
 rw [er1] at HTb hb0 hc1 hc2 ⊢
 rw [ek] at HV hb0 hc1 hc2 ⊢
 generalize r.items.length = nr at *
 generalize k.items.length = nk at *
 have HR:=Lib.hid hR
 clear h hB hI hJ hn hR hv er1 ek
 generalize r.f = fr at *
 generalize k.f = fk at *
 obtain ⟨rk,ri,rg,rn,rf,ra,rb,rs⟩:=fr
 obtain ⟨kk,ki,kg,kn,kf,ka,kb,ks⟩:=fk
 have HZ1:=Lib.hid hc1
 have HZ2:=Lib.hid hc2
 unfold aggV at *
 unfold BPost at HV
 unfold cells9 at hb0 HZ1 HZ2
 dsimp only at HTb HV hb0 HZ1 HZ2 ⊢
 have HB0:=Lib.hid hb0
 have hl1:=(Array.getElem?_eq_some_iff.1 HZ1.out).1
 clear hc1 hc2 hb0
 rcases HR.out with ⟨rfl,rfl,rfl⟩ | ⟨rfl,hT⟩
 ·clear HTb HR
  go_enter Tryz.func55,Tryz.ntmps55
  go_upto_region 1 with (fail)
  generalize ((w.alloc (.cells #[.int .i64 rk,.int .i64 ri,.int .i64 rg,.string rn,.string rf,.int .i64 ra,.slice pr nr cr,.string rb,.int .i64 rs] 24)).alloc (.cells #[.int .i64 kk,.int .i64 ki,.int .i64 kg,.string kn,.string kf,.int .i64 ka,.slice pk nk ck,.string kb,.int .i64 ks] 24)) = W1 at *
  obtain ⟨o0,o1,of⟩:=HO.out _ HB0.out
  obtain ⟨y0,y1,y2,y3,y4,y5,y6,y7,y8,yf⟩:=nine_of (f:=⟨kk,ki,kg,kn,kf,ka,kb,ks⟩) (v:=.slice pk nk ck) HZ2.out
  dsimp only at y0 y1 y2 y3 y4 y5 y6 y7 y8
  go_wp2_with fail
  refine (HV.out _ HB0.out).mono ?_
  rintro e w2 ⟨rfl,hb2⟩
  have HB2:=Lib.hid (HB0.out.trans (hb2.mono HB0.out.size))
  clear hb2 y0 y1 y2 y3 y4 y5 y6 y7 y8 yf
  go_wp2_with fail
  go_ret2
  exact ⟨rfl,HB2.out⟩
 ·have HT:=Lib.hid (fun W hW=>HTb.out W hW hT)
  clear HTb HR hT
  go_enter Tryz.func55,Tryz.ntmps55
  go_upto_region 1 with (fail)
  generalize ((w.alloc (.cells #[.int .i64 rk,.int .i64 ri,.int .i64 rg,.string rn,.string rf,.int .i64 ra,.slice pr nr cr,.string rb,.int .i64 rs] 24)).alloc (.cells #[.int .i64 kk,.int .i64 ki,.int .i64 kg,.string kn,.string kf,.int .i64 ka,.slice pk nk ck,.string kb,.int .i64 ks] 24)) = W1 at *
  obtain ⟨o0,o1,of⟩:=HO.out _ HB0.out
  obtain ⟨y0,y1,y2,y3,y4,y5,y6,y7,y8,yf⟩:=nine_of (f:=⟨kk,ki,kg,kn,kf,ka,kb,ks⟩) (v:=.slice pk nk ck) HZ2.out
  dsimp only at y0 y1 y2 y3 y4 y5 y6 y7 y8
  go_wp2_with fail
  refine (HV.out _ HB0.out).mono ?_
  rintro e w2 ⟨rfl,hb2⟩
  have HB2:=Lib.hid (HB0.out.trans (hb2.mono HB0.out.size))
  obtain ⟨x0,x1,x2,x3,x4,x5,x6,x7,x8,xf⟩:=nine_of (f:=⟨rk,ri,rg,rn,rf,ra,rb,rs⟩) (v:=.slice pr nr cr) ((hb2.block _ hl1).trans HZ1.out)
  dsimp only at x0 x1 x2 x3 x4 x5 x6 x7 x8
  clear hb2 y0 y1 y2 y3 y4 y5 y6 y7 y8 yf
  go_wp2_with fail
  refine (HT.out _ HB2.out).mono ?_
  rintro e w3 ⟨rfl,hb3⟩
  have HB3:=Lib.hid (HB2.out.trans (hb3.mono HB2.out.size))
  clear hb3 x0 x1 x2 x3 x4 x5 x6 x7 x8 xf
  go_wp2_with fail
  go_ret2
  exact ⟨rfl,HB3.out⟩
end
end Go.Proofs.YtfbggmbmgohiiaaGreat.tb
