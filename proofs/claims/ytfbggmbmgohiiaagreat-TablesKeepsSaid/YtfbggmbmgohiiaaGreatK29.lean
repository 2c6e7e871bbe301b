/- Texts of this seat, one behind the other: TbP, TbQ. No condition beyond theirs. -/
import Derived.Test.YtfbggmbmgohiiaaGreatK28
set_option linter.unusedSimpArgs false
set_option linter.unusedVariables false
set_option maxHeartbeats 4000000
set_option maxRecDepth 100000
namespace Go.Proofs.YtfbggmbmgohiiaaGreat.tb
open Go.RowKit mem rec tm names
noncomputable def refAt {N:Nat} (l:List (TabE N)) (r:Tm (N + 1)):Option Nat:=l.findIdx? (fun t=>eqB t.ref r)
def optI (o:Option Nat):Int:=match o with
 | none=>-1
 | some i=>i
section
variable {N:Nat} {w w':World} {B:Nat} {F:Nat→Prop} {s:TbSt N}
theorem find_none {α:Type} {p:α→Bool} {l:List α} (h:∀ j,(hj:j < l.length)→p l[j] = false):l.findIdx? p = none:=by
 rw [List.findIdx?_eq_none_iff]
 intro x hx
 obtain ⟨j,hj,rfl⟩:=List.mem_iff_getElem.1 hx
 exact h j hj
theorem find_some {α:Type} {p:α→Bool} {l:List α} {i:Nat} (hi:i < l.length) (h:∀ j,(hj:j < i)→p (l[j]'(by omega)) = false) (hp:p l[i] = true):l.findIdx? p = some i:=by
 rw [List.findIdx?_eq_some_iff_getElem]
 exact ⟨hi,hp,fun j hj=>by rw [h j hj];simp⟩
theorem TbAt.ptr (h:TbAt w B F s) {i:Nat} (hi:i < s.tabs.length):∃ g c,s.vl = .slice (some ⟨g,0,none⟩) s.tabs.length c∧g < w.heap.size∧w.cell? ⟨g,i,none⟩ = some (.pointer (some ⟨(s.tabs[i]).b,0,none⟩)):=by
 have hr:=h.l
 rcases id hr.2 with ⟨_,h0⟩ | ⟨g,cap,cur,h1,_,hh,_⟩
 ·rw [List.length_map] at h0;omega
 ·rw [List.length_map] at h1
  have hrow:=hr.row (ptrL_ok _)
  rw [h1] at hrow
  obtain ⟨g',o,e,_,hg,hc⟩:=hrow.nth (by rw [List.length_map];omega)
  simp only [Option.some.injEq,Addr.mk.injEq,and_true] at e
  obtain ⟨rfl,rfl⟩:=e
  refine ⟨g,cap,h1,hg,?_⟩
  have:=hc i (s.tabs[i]).b (by rw [List.getElem?_map,List.getElem?_eq_getElem hi];rfl) 0 _ rfl
  simpa using this
def IdxI (l:List (TabE N)) (r:Tm (N + 1)) (w:World) (m:Nat) (iv:Value) (wr:World):Prop:=∃ i:Nat,iv = .int .i64 (i:Int)∧i ≤ l.length∧m = l.length - i∧(∀ j,(hj:j < i)→(hl:j < l.length)→eqB (l[j]).ref r = false)∧Below w.heap.size w wr
theorem index81 (h:TbAt w B F s) (hlen:s.tabs.length ≤ 1000) {r:Tm (N + 1)} {u:Value} {zb B2:Nat} (hB:B2 ≤ w.heap.size) (hI:ItemsAt w B2 N u r.items) (hz:w.heap[zb]? = some (cells9 r.f u)) :
 Calls Tryz.prog 81 #[s.vl,.func (.func 82) #[] #[.pointer (some ⟨zb,0,none⟩)]] w fun e w'=>e = .returned (.int .i64 (optI (refAt s.tabs r)))∧Below w.heap.size w w':=by
 have hzl:=(Array.getElem?_eq_some_iff.1 hz).1
 obtain ⟨pl,cl,hv,_,_⟩:=h.l.shape
 rw [List.length_map] at hv
 have HC:=Lib.hid (fun (W:World) (hW:Below w.heap.size w W) (i:Nat) (hi:i < s.tabs.length)=>clos82 ((h.below hW).tabs _ (List.getElem_mem hi)) (h.below hW).fl (Nat.le_trans hB hW.size) (hI.below hW hB) ((hW.block _ hzl).trans hz))
 have HPt:=Lib.hid (fun (W:World) (hW:Below w.heap.size w W) (i:Nat) (hi:i < s.tabs.length)=>(h.below hW).ptr hi)
 clear h hB hI hz hzl
 generalize s.tabs = l at *
 rw [hv] at HPt ⊢
 clear hv
 have H00:Hid (IdxI l r w l.length (.int .i64 0) w):=Lib.hid ⟨0,rfl,Nat.zero_le _,rfl,fun j hj=>by omega,Below.refl _ _⟩
 go_enter Tryz.func81,Tryz.ntmps81
 go_wp2_with fail
 go_loopg [8] l.length (fun m iv wr=>Hid (IdxI l r w m iv wr))
 case atStart=>exact H00
 case round =>
  obtain ⟨i,rfl,hi,hm,hno,hb⟩:=hrel.out
  clear hrel H00
  have HM:=Lib.hid hm
  have HNo:=Lib.hid hno
  have HB:=Lib.hid hb
  clear hm hno
  by_cases hlt:i < l.length
  ·obtain ⟨g,c,hv,hg,hp⟩:=HPt.out wr hb i hlt
   simp only [Value.slice.injEq] at hv
   obtain ⟨rfl,_,rfl⟩:=hv
   have HCi:=Lib.hid (HC.out wr hb i hlt)
   have HNe:=Lib.hid (fun (e:eqB (l[i]).ref r = false)=>(fun j (hj:j < i + 1) (hl:j < l.length)=>(by
    by_cases h:j < i
    ·exact HNo.out j h hl
    ·obtain rfl:j = i:=by omega
     exact e:eqB (l[j]).ref r = false)))
   have HYe:=Lib.hid (fun (e:eqB (l[i]).ref r = true)=>(find_some (p:=fun t:TabE N=>eqB t.ref r) hlt (fun j hj=>HNo.out j hj (by omega)) e))
   clear hg hb
   generalize (l[i]).b = tb at *
   generalize eqB (l[i]).ref r = q at *
   go_wp2_with fail
   refine HCi.out.mono ?_
   rintro e w2 ⟨rfl,hb2⟩
   have HB2:=Lib.hid (HB.out.trans (hb2.mono HB.out.size))
   clear hb2 hp
   cases q
   ·have HN:=Lib.hid (HNe.out rfl)
    go_wp2_with fail
    go_roundg (l.length - (i + 1))
    case measure=>have:=HM.out;omega
    case rel=>exact Lib.hid ⟨i + 1,by go_num,by omega,rfl,HN.out,HB2.out⟩
   ·have HY:=Lib.hid (HYe.out rfl)
    go_wp2_with fail
    go_ret
    refine ⟨?_,HB2.out⟩
    unfold refAt
    rw [HY.out]
    rfl
  ·have hn:=find_none (p:=fun t:TabE N=>eqB t.ref r) (l:=l) (fun j hj=>HNo.out j (by omega) hj)
   have HN:=Lib.hid hn
   clear hn
   go_wp2_with fail
   go_ret
   refine ⟨?_,HB.out⟩
   unfold refAt
   rw [HN.out]
   rfl
end
section
variable {N:Nat} {w w':World} {B:Nat} {F:Nat→Prop} {s:TbSt N}
theorem refAt_lt {l:List (TabE N)} {r:Tm (N + 1)} {i:Nat} (h:refAt l r = some i):∃ hi:i < l.length,l[i].ref = r:=by
 unfold refAt at h
 rw [List.findIdx?_eq_some_iff_getElem] at h
 obtain ⟨hi,hp,_⟩:=h
 exact ⟨hi,of_eqB hp⟩
def TabR (l:List (TabE N)) (r:Tm (N + 1)) (po:Option Addr) (er:Int):Prop:=(refAt l r = none∧po = none∧er = 4)∨∃ i,∃ hi:i < l.length,refAt l r = some i∧po = some ⟨(l[i]).b,0,none⟩∧er = 0
theorem TabR.of (l:List (TabE N)) (r:Tm (N + 1)):∃ po er,TabR l r po er:=by
 cases h:refAt l r with
 | none=>exact ⟨none,4,.inl ⟨h,rfl,rfl⟩⟩
 | some i=>obtain ⟨hi,_⟩:=refAt_lt h;exact ⟨_,0,.inr ⟨i,hi,h,rfl,rfl⟩⟩
theorem table49 (h:TbAt w B F s) (hlen:s.tabs.length ≤ 1000) {r:Tm (N + 1)} {u:Value} {B2:Nat} (hB:B2 ≤ w.heap.size) (hI:ItemsAt w B2 N u r.items) {po:Option Addr} {er:Int} (hR:TabR s.tabs r po er) :
 Calls Tryz.prog 49 #[.pointer (some ⟨s.z,0,none⟩),aggV r.f u] w fun e w'=>e = .returned (.tuple #[.pointer po,.int .i64 er])∧Below w.heap.size w w':=by
 have hb0:=belowA (Below.refl w.heap.size w) (cells9 r.f u) (Nat.le_refl _)
 have hx0:=index81 (h.below hb0) hlen (Nat.le_trans hB hb0.size) (hI.below hb0 hB) (alloc_new w (cells9 r.f u))
 have HO:=Lib.hid (fun (W:World) (hW:Below w.heap.size w W)=>two_cells (h.below hW).obj)
 have HPt:=Lib.hid (fun (W:World) (hW:Below w.heap.size w W) (i:Nat) (hi:i < s.tabs.length)=>(h.below hW).ptr hi)
 obtain ⟨pl,cl,hv,_,_⟩:=h.l.shape
 rw [List.length_map] at hv
 obtain ⟨pu,cu,eu,_,_⟩:=hI.shape
 generalize s.z = z at *
 unfold TabR at hR
 generalize hq:refAt s.tabs r = q at *
 generalize s.tabs = l at *
 rw [hv] at hx0 HO HPt
 rw [eu] at hx0 hb0 ⊢
 clear h hB hI hv eu hq
 generalize r.items.length = nr at *
 generalize r.f = f at *
 obtain ⟨fk,fi,fg,fn,ff,fa,fb,fs⟩:=f
 unfold aggV
 unfold cells9 at hx0 hb0
 dsimp only at hx0 hb0 ⊢
 obtain ⟨o0,o1,of⟩:=HO.out _ hb0
 have HB0:=Lib.hid hb0
 have HX:=Lib.hid hx0
 have HR:=Lib.hid hR
 clear hx0 hb0 hR
 rcases HR.out with ⟨rfl,rfl,rfl⟩ | ⟨i,hi,rfl,rfl,rfl⟩
 ·clear HPt HR
  unfold optI at HX
  dsimp only at HX
  go_enter Tryz.func49,Tryz.ntmps49
  go_upto_region 1 with (fail)
  generalize (w.alloc (.cells #[.int .i64 fk,.int .i64 fi,.int .i64 fg,.string fn,.string ff,.int .i64 fa,.slice pu nr cu,.string fb,.int .i64 fs] 24)) = W1 at *
  go_wp2_with fail
  refine HX.out.mono ?_
  rintro e w2 ⟨rfl,hb2⟩
  have hbw:=HB0.out.trans (hb2.mono HB0.out.size)
  have HB2:=Lib.hid hbw
  obtain ⟨o0,o1,of⟩:=HO.out _ hbw
  clear hb2
  go_wp2_with fail
  go_ret2
  exact ⟨rfl,HB2.out⟩
 ·have HPi:=Lib.hid (fun W hW=>HPt.out W hW i hi)
  clear HPt HR
  unfold optI at HX
  dsimp only at HX
  generalize (l[i]).b = tb at *
  go_enter Tryz.func49,Tryz.ntmps49
  go_upto_region 1 with (fail)
  generalize (w.alloc (.cells #[.int .i64 fk,.int .i64 fi,.int .i64 fg,.string fn,.string ff,.int .i64 fa,.slice pu nr cu,.string fb,.int .i64 fs] 24)) = W1 at *
  go_wp2_with fail
  refine HX.out.mono ?_
  rintro e w2 ⟨rfl,hb2⟩
  have hbw:=HB0.out.trans (hb2.mono HB0.out.size)
  have HB2:=Lib.hid hbw
  obtain ⟨o0,o1,of⟩:=HO.out _ hbw
  clear hb2
  obtain ⟨g,c,hv,hg,hp⟩:=HPi.out w2 hbw
  simp only [Value.slice.injEq] at hv
  obtain ⟨rfl,_,rfl⟩:=hv
  clear hbw hg
  go_wp2_with fail
  go_ret2
  exact ⟨rfl,HB2.out⟩
theorem size31 (h:TbAt w B F s) (hlen:s.tabs.length ≤ 1000) {r:Tm (N + 1)} {u:Value} {B2:Nat} (hB:B2 ≤ w.heap.size) (hI:ItemsAt w B2 N u r.items) {n er:Int} (hr:(refAt s.tabs r = none∧n = 0∧er = 4)∨∃ i,∃ hi:i < s.tabs.length,refAt s.tabs r = some i∧n = (s.tabs[i]).rows.length∧er = 0) :
 Calls Tryz.prog 31 #[.pointer (some ⟨s.z,0,none⟩),aggV r.f u] w fun e w'=>e = .returned (.tuple #[.int .i64 n,.int .i64 er])∧Below w.heap.size w w':=by
 have hb0:=belowA (Below.refl w.heap.size w) (cells9 r.f u) (Nat.le_refl _)
 have hx0:=fun po er hR=>table49 (h.below hb0) hlen (Nat.le_trans hB hb0.size) (hI.below hb0 hB) (po:=po) (er:=er) hR
 have hn:=nine_of (alloc_new w (cells9 r.f u))
 have HTb:=Lib.hid (fun (W:World) (hW:Below w.heap.size w W) (i:Nat) (hi:i < s.tabs.length)=>(tab_cells ((h.below hW).tabs _ (List.getElem_mem hi)).blk).2.2.2.1)
 have HVr:=Lib.hid (fun (i:Nat) (hi:i < s.tabs.length)=>(h.tabs _ (List.getElem_mem hi)).rows.shape)
 obtain ⟨pu,cu,eu,_,_⟩:=hI.shape
 unfold TabR at hx0
 generalize hq:refAt s.tabs r = q at *
 generalize s.tabs = l at *
 generalize s.z = z at *
 rw [eu] at hx0 hb0 hn ⊢
 clear h hB hI eu hq
 generalize r.items.length = nr at *
 generalize r.f = f at *
 obtain ⟨fk,fi,fg,fn,ff,fa,fb,fs⟩:=f
 obtain ⟨x0,x1,x2,x3,x4,x5,x6,x7,x8,xf⟩:=hn
 unfold aggV at hx0 ⊢
 unfold cells9 at hx0 hb0 x0 x1 x2 x3 x4 x5 x6 x7 x8 xf
 dsimp only at hx0 hb0 x0 x1 x2 x3 x4 x5 x6 x7 x8 xf ⊢
 have HB0:=Lib.hid hb0
 have HX:=Lib.hid hx0
 clear hx0 hb0
 rcases hr with ⟨rfl,rfl,rfl⟩ | ⟨i,hi,rfl,rfl,rfl⟩
 ·have HT:=Lib.hid (HX.out none 4 (by simp))
  clear HX HTb HVr
  go_enter Tryz.func31,Tryz.ntmps31
  go_wp2_with fail
  refine HT.out.mono ?_
  rintro e w2 ⟨rfl,hb2⟩
  have hbw:=HB0.out.trans (hb2.mono HB0.out.size)
  have HB2:=Lib.hid hbw
  clear hb2 x0 x1 x2 x3 x4 x5 x6 x7 x8 xf
  go_wp2_with fail
  go_ret2
  exact ⟨rfl,HB2.out⟩
 ·have HT:=Lib.hid (HX.out _ 0 (.inr ⟨i,hi,rfl,rfl,rfl⟩))
  have HTi:=Lib.hid (fun W hW=>HTb.out W hW i hi)
  obtain ⟨pr,cr,hvr,_,_⟩:=HVr.out i hi
  rw [hvr] at HTi
  clear HX HTb HVr hvr
  generalize (l[i]).rows.length = nrw at *
  generalize (l[i]).b = tb at *
  go_enter Tryz.func31,Tryz.ntmps31
  go_wp2_with fail
  refine HT.out.mono ?_
  rintro e w2 ⟨rfl,hb2⟩
  have hbw:=HB0.out.trans (hb2.mono HB0.out.size)
  have HB2:=Lib.hid hbw
  clear hb2 x0 x1 x2 x3 x4 x5 x6 x7 x8 xf
  have hc:=HTi.out w2 hbw
  go_wp2_with fail
  go_ret2
  exact ⟨rfl,HB2.out⟩
end
end Go.Proofs.YtfbggmbmgohiiaaGreat.tb
