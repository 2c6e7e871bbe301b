/- Texts of this seat, one behind the other: TbU. No condition beyond theirs. -/
import Derived.Test.YtfbggmbmgohiiaaGreatK32
set_option linter.unusedSimpArgs false
set_option linter.unusedVariables false
set_option maxHeartbeats 4000000
set_option maxRecDepth 100000
namespace Go.Proofs.YtfbggmbmgohiiaaGreat.tb
open Go.RowKit mem rec tm names
noncomputable def hK {N:Nat} (hs:Bool) (r:Tm (N + 1)):Int:=if hs then hashT r else 0
noncomputable def posK {N:Nat} (t:TabE N) (r:Tm (N + 1)):Nat:=keyAt t.hs t.rows r (hK t.hs r)
noncomputable def hasK {N:Nat} (t:TabE N) (r:Tm (N + 1)):Bool:=(t.rows[posK t r]?).elim false (fun x=>eqB x.k r)
structure FindOK {N:Nat} (t:TabE N) (r:Tm (N + 1)):Prop where
 nodes:∀ x ∈ t.rows,300 * (nodesT x.k:Int) ≤ 1000000000000
 len:t.rows.length ≤ 1000000
 mono:Mono (fun x=>befB t.hs x.k r x.h (hK t.hs r)) t.rows
theorem ta99 (W:World):(Instr.typeAssert (.iface 99 (.agg #[])) 95 99 true).run Tryz.prog W = .ok (.tuple #[.agg #[],.bool true]) W:=by
 simp [Instr.typeAssert,run_underlying Tryz.underlying99]
theorem ta93 (W:World):(Instr.typeAssert (.iface 93 (.agg #[])) 95 99 true).run Tryz.prog W = .ok (.tuple #[.agg #[],.bool false]) W:=by
 have hz:(zeroValue 99).run Tryz.prog W = .ok (.agg #[]) W:=by kernel_rfl
 simp [Instr.typeAssert,run_underlying Tryz.underlying99,hz]
theorem cell_keep {w w':World} {B g o:Nat} {v:Value} (hb:Below B w w') (hg:g < B) (h:w.cell? ⟨g,o,none⟩ = some v):w'.cell? ⟨g,o,none⟩ = some v:=(hb.cell (p:=⟨g,o,none⟩) hg).trans h
section
variable {N:Nat} {w w':World} {B:Nat} {F:Nat→Prop} {t:TabE N}
theorem posK_le (t:TabE N) (r:Tm (N + 1)):posK t r ≤ t.rows.length:=List.findIdx_le_length
theorem find56 (h:TabAt w B F t) (hF:∀ g,F g→g < w.heap.size) {r:Tm (N + 1)} {u:Value} {B2:Nat} (hB:B2 ≤ w.heap.size) (hI:ItemsAt w B2 N u r.items) (hn:300 * (nodesT r:Int) ≤ 1000000000000) (hok:FindOK t r) :
 Calls Tryz.prog 56 #[.pointer (some ⟨t.b,0,none⟩),aggV r.f u] w fun e w'=>e = .returned (.tuple #[.int .i64 (posK t r),.bool (hasK t r)])∧Below w.heap.size w w':=by
 have hb1:=belowA (Below.refl w.heap.size w) (.cells #[.pointer (some ⟨t.b,0,none⟩)] 89) (Nat.le_refl _)
 have hb2:=belowA hb1 (cells9 r.f u) hb1.size
 have hb3:=belowA hb2 (.cells #[.int .u32 0] 28) hb2.size
 obtain ⟨p1,p2,p3⟩:=two_boxes w (.cells #[.pointer (some ⟨t.b,0,none⟩)] 89) (cells9 r.f u)
 have p4:=alloc_new ((w.alloc (Obj.cells #[.pointer (some ⟨t.b,0,none⟩)] 89)).alloc (cells9 r.f u)) (.cells #[.int .u32 0] 28)
 have hs2:((w.alloc (Obj.cells #[.pointer (some ⟨t.b,0,none⟩)] 89)).alloc (cells9 r.f u)).heap.size = w.heap.size + 1 + 1:=by rw [World.size_alloc,World.size_alloc]
 rw [hs2] at p4
 have p2':=(Below.heap_alloc ((w.alloc (Obj.cells #[.pointer (some ⟨t.b,0,none⟩)] 89)).alloc (cells9 r.f u)) (.cells #[.int .u32 0] 28) w.heap.size (by omega)).trans p2
 have p3':=(Below.heap_alloc ((w.alloc (Obj.cells #[.pointer (some ⟨t.b,0,none⟩)] 89)).alloc (cells9 r.f u)) (.cells #[.int .u32 0] 28) (w.heap.size + 1) (by omega)).trans p3
 have HB3:=Lib.hid hb3
 have HP2:=Lib.hid p2'
 have HP3:=Lib.hid p3'
 have HP4:=Lib.hid p4
 have HH:=Lib.hid (fun W (hW:Below w.heap.size w W)=>Hash12 W B2 u r (Nat.le_trans hB hW.size) (hI.below hW hB) hn)
 have HS:=Lib.hid (fun W (hW:Below w.heap.size w W) zt zk zh (a:W.heap[zt]? = some (Obj.cells #[.pointer (some ⟨t.b,0,none⟩)] 89)) (b:W.heap[zk]? = some (cells9 r.f u)) (c:W.heap[zh]? = some (Obj.cells #[.int .u32 (hK t.hs r)] 28))=>search87 (h.below hW hF) (fun g hg=>Nat.lt_of_lt_of_le (hF g hg) hW.size) (Nat.le_trans hB hW.size) (hI.below hW hB) hn a b c hok.nodes hok.len hok.mono)
 have HSm:=Lib.hid (fun W (hW:Below w.heap.size w W) (i:Nat) (hi:i < t.rows.length)=>same_in (w:=W) (F:=F) (fun g hg=>Nat.lt_of_lt_of_le (hF g hg) hW.size) (((h.below hW hF).irow _ (List.getElem_mem hi)).1) (Nat.le_trans hB hW.size) (hI.below hW hB))
 have HT:=Lib.hid (fun W (hW:Below w.heap.size w W)=>tab_cells (h.below hW hF).blk)
 have HRw:=Lib.hid (fun W (hW:Below w.heap.size w W) (i:Nat) (hi:i < t.rows.length)=>(h.below hW hF).rowc hi)
 have HTb:=Lib.hid (fun W (hW:Below w.heap.size w W)=>(h.below hW hF).lt)
 have HSh:=Lib.hid (fun (i:Nat) (hi:i < t.rows.length)=>ItemsIn.shape (h.irow _ (List.getElem_mem hi)).1)
 have hle:=posK_le t r
 have hlen:=hok.len
 obtain ⟨pv,cv,ev,hcc,hcm⟩:=h.rows.shape
 obtain ⟨pb,cb,eb,_,_⟩:=hI.shape
 unfold maxLen at hcm
 unfold hasK
 have hpk:posK t r = keyAt t.hs t.rows r (hK t.hs r):=rfl
 rw [← hpk] at HS
 clear hb1 hb2 hb3 p1 p2 p3 p4 hs2 p2' p3' h hF hB hI hn hok hpk
 rw [ev] at HT HRw
 clear ev
 generalize t.rows = rows at *
 generalize t.b = tb at *
 generalize posK t r = pos at *
 generalize t.hs = hs at *
 rw [eb] at HH HSm HP3 HB3 HS HP2 HP4 ⊢
 generalize r.items.length = nb at *
 clear eb
 generalize r.f = f at *
 obtain ⟨fk,fi,fg,fn,ff,fa,fb,fs⟩:=f
 unfold aggV at HH HSm ⊢
 unfold cells9 at HP2 HP3 HP4 HB3 HS
 dsimp only at HH HSm HP2 HP3 HP4 HB3 HS ⊢
 cases hs
 ·have e18:kindV false = .iface 93 (.agg #[]):=rfl
  rw [e18] at HT
  clear e18
  have hta:=fun W=>ta93 W
  go_enter Tryz.func56,Tryz.ntmps56
  go_upto_region 2 with (fail)
  generalize (((w.alloc (.cells #[.pointer (some ⟨tb,0,none⟩)] 89)).alloc (.cells #[.int .i64 fk,.int .i64 fi,.int .i64 fg,.string fn,.string ff,.int .i64 fa,.slice pb nb cb,.string fb,.int .i64 fs] 24)).alloc (.cells #[.int .u32 0] 28)) = W3 at *
  obtain ⟨q0,qf⟩:=one_cell HP2.out
  obtain ⟨_,_,c18,c19,_⟩:=HT.out _ HB3.out
  have hk0:hK false r = 0:=rfl
  rw [hk0] at HS
  clear hk0 HH
  go_upto_region 5 with (fail)
  have HSr:=Lib.hid (HS.out _ HB3.out _ _ _ HP2.out HP3.out HP4.out)
  obtain ⟨q0,qf⟩:=one_cell HP2.out
  obtain ⟨_,_,c18,c19,_⟩:=HT.out _ HB3.out
  go_wp2_with fail
  refine HSr.out.mono ?_
  rintro e w5 ⟨rfl,hb5⟩
  have HB5:=Lib.hid (HB3.out.trans (hb5.mono HB3.out.size))
  have hl2:=(Array.getElem?_eq_some_iff.1 HP2.out).1
  have hl3:=(Array.getElem?_eq_some_iff.1 HP3.out).1
  obtain ⟨q0,qf⟩:=one_cell ((hb5.block _ hl2).trans HP2.out)
  obtain ⟨y0,y1,y2,y3,y4,y5,y6,y7,y8,yf⟩:=nine_of (f:=⟨fk,fi,fg,fn,ff,fa,fb,fs⟩) (v:=.slice pb nb cb) ((hb5.block _ hl3).trans HP3.out)
  obtain ⟨_,_,c18,c19,_⟩:=HT.out _ HB5.out
  dsimp only at y0 y1 y2 y3 y4 y5 y6 y7 y8
  have HZl:Hid (w.heap.size < w5.heap.size∧w.heap.size + 1 < w5.heap.size):=Lib.hid ⟨Nat.lt_of_lt_of_le hl2 hb5.size,Nat.lt_of_lt_of_le hl3 hb5.size⟩
  have HTl:=Lib.hid (HTb.out _ HB5.out)
  clear hb5 HSr hl2 hl3
  go_upto_region 6 with (fail)
  by_cases hlt:pos < rows.length
  ·obtain ⟨g,cg,hv,hg,⟨x0,x1,x2,x3,x4,x5,x6,x7,x8⟩,xv,xh⟩:=HRw.out _ HB5.out pos hlt
   have HGl:=Lib.hid hg
   clear xv xh hg
   simp only [Value.slice.injEq] at hv
   obtain ⟨rfl,_,rfl⟩:=hv
   obtain ⟨px,cx,ex,_,_⟩:=HSh.out pos hlt
   have hC:=HSm.out w5.drew (belowD HB5.out) pos hlt
   rw [ex] at x6 hC
   have HEl:=Lib.hid (show (rows[pos]?).elim false (fun x=>eqB x.k r) = eqB (rows[pos]).k r by rw [List.getElem?_eq_getElem hlt];rfl)
   generalize rows[pos] = row at *
   generalize row.k.f = fx at *
   generalize row.k.items.length = nx at *
   obtain ⟨k1,i1,j1,n1,f1,a1,b1,t1⟩:=fx
   (try unfold aggV at hC)
   dsimp only at hC x0 x1 x2 x3 x4 x5 x6 x7 x8
   generalize eqB row.k r = q at *
   have HC:=Lib.hid hC
   clear hC ex
   have hd:decide ((pos:Int) < (rows.length:Int)) = true:=decide_eq_true (by omega)
   have hbd:=belowD (Below.refl w5.heap.size w5)
   have HBd:=Lib.hid hbd
   have HLt:Hid (g < w5.heap.size∧tb < w5.heap.size∧w.heap.size < w5.heap.size∧w.heap.size + 1 < w5.heap.size):=Lib.hid ⟨HGl.out,HTl.out,HZl.out.1,HZl.out.2⟩
   have HF5:=Lib.hid (fun W (hW:Below w5.heap.size w5 W)=>(⟨cell_keep hW HLt.out.2.2.1 q0,cell_keep hW HLt.out.2.1 c19,cell_keep hW HLt.out.1 x0,cell_keep hW HLt.out.1 x1,cell_keep hW HLt.out.1 x2,cell_keep hW HLt.out.1 x3,cell_keep hW HLt.out.1 x4,cell_keep hW HLt.out.1 x5,cell_keep hW HLt.out.1 x6,cell_keep hW HLt.out.1 x7,cell_keep hW HLt.out.1 x8,cell_keep hW HLt.out.2.2.2 y0,cell_keep hW HLt.out.2.2.2 y1,cell_keep hW HLt.out.2.2.2 y2,cell_keep hW HLt.out.2.2.2 y3,cell_keep hW HLt.out.2.2.2 y4,cell_keep hW HLt.out.2.2.2 y5,cell_keep hW HLt.out.2.2.2 y6,cell_keep hW HLt.out.2.2.2 y7,cell_keep hW HLt.out.2.2.2 y8⟩:W.cell? ⟨w.heap.size,0,none⟩ = some (.pointer (some ⟨tb,0,none⟩))∧W.cell? ⟨tb,19,none⟩ = some (.slice (some ⟨g,0,none⟩) rows.length cv)∧W.cell? ⟨g,pos * 19,none⟩ = some (.int .i64 k1)∧W.cell? ⟨g,pos * 19 + 1,none⟩ = some (.int .i64 i1)∧W.cell? ⟨g,pos * 19 + 1 + 1,none⟩ = some (.int .i64 j1)∧W.cell? ⟨g,pos * 19 + 1 + 1 + 1,none⟩ = some (.string n1)∧W.cell? ⟨g,pos * 19 + 1 + 1 + 1 + 1,none⟩ = some (.string f1)∧W.cell? ⟨g,pos * 19 + 1 + 1 + 1 + 1 + 1,none⟩ = some (.int .i64 a1)∧W.cell? ⟨g,pos * 19 + 1 + 1 + 1 + 1 + 1 + 1,none⟩ = some (.slice px nx cx)∧W.cell? ⟨g,pos * 19 + 1 + 1 + 1 + 1 + 1 + 1 + 1,none⟩ = some (.string b1)∧W.cell? ⟨g,pos * 19 + 1 + 1 + 1 + 1 + 1 + 1 + 1 + 1,none⟩ = some (.int .i64 t1)∧W.cell? ⟨(w.heap.size + 1),0,none⟩ = some (.int .i64 fk)∧W.cell? ⟨(w.heap.size + 1),1,none⟩ = some (.int .i64 fi)∧W.cell? ⟨(w.heap.size + 1),2,none⟩ = some (.int .i64 fg)∧W.cell? ⟨(w.heap.size + 1),3,none⟩ = some (.string fn)∧W.cell? ⟨(w.heap.size + 1),4,none⟩ = some (.string ff)∧W.cell? ⟨(w.heap.size + 1),5,none⟩ = some (.int .i64 fa)∧W.cell? ⟨(w.heap.size + 1),6,none⟩ = some (.slice pb nb cb)∧W.cell? ⟨(w.heap.size + 1),7,none⟩ = some (.string fb)∧W.cell? ⟨(w.heap.size + 1),8,none⟩ = some (.int .i64 fs)))
   obtain ⟨q0,c19,x0,x1,x2,x3,x4,x5,x6,x7,x8,y0,y1,y2,y3,y4,y5,y6,y7,y8⟩:=HF5.out _ hbd
   go_region_held3 (fun w'=>w'.cell? ⟨w.heap.size,0,none⟩ = some (.pointer (some ⟨tb,0,none⟩))∧w'.cell? ⟨tb,19,none⟩ = some (.slice (some ⟨g,0,none⟩) rows.length cv)∧w'.cell? ⟨g,pos * 19,none⟩ = some (.int .i64 k1)∧w'.cell? ⟨g,pos * 19 + 1,none⟩ = some (.int .i64 i1)∧w'.cell? ⟨g,pos * 19 + 1 + 1,none⟩ = some (.int .i64 j1)∧w'.cell? ⟨g,pos * 19 + 1 + 1 + 1,none⟩ = some (.string n1)∧w'.cell? ⟨g,pos * 19 + 1 + 1 + 1 + 1,none⟩ = some (.string f1)∧w'.cell? ⟨g,pos * 19 + 1 + 1 + 1 + 1 + 1,none⟩ = some (.int .i64 a1)∧w'.cell? ⟨g,pos * 19 + 1 + 1 + 1 + 1 + 1 + 1,none⟩ = some (.slice px nx cx)∧w'.cell? ⟨g,pos * 19 + 1 + 1 + 1 + 1 + 1 + 1 + 1,none⟩ = some (.string b1)∧w'.cell? ⟨g,pos * 19 + 1 + 1 + 1 + 1 + 1 + 1 + 1 + 1,none⟩ = some (.int .i64 t1)∧w'.cell? ⟨(w.heap.size + 1),0,none⟩ = some (.int .i64 fk)∧w'.cell? ⟨(w.heap.size + 1),1,none⟩ = some (.int .i64 fi)∧w'.cell? ⟨(w.heap.size + 1),2,none⟩ = some (.int .i64 fg)∧w'.cell? ⟨(w.heap.size + 1),3,none⟩ = some (.string fn)∧w'.cell? ⟨(w.heap.size + 1),4,none⟩ = some (.string ff)∧w'.cell? ⟨(w.heap.size + 1),5,none⟩ = some (.int .i64 fa)∧w'.cell? ⟨(w.heap.size + 1),6,none⟩ = some (.slice pb nb cb)∧w'.cell? ⟨(w.heap.size + 1),7,none⟩ = some (.string fb)∧w'.cell? ⟨(w.heap.size + 1),8,none⟩ = some (.int .i64 fs)) (go_keep)
    (first | (go_at_call 66;refine HC.out.mono ?_;rintro e w6 ⟨rfl,hb6⟩;have hb7:=HBd.out.trans hb6;obtain ⟨q0,c19,x0,x1,x2,x3,x4,x5,x6,x7,x8,y0,y1,y2,y3,y4,y5,y6,y7,y8⟩:=HF5.out _ hb7) | fail)
   all_goals
    have HB6:=Lib.hid (HB5.out.trans (hb7.mono HB5.out.size))
    clear q0 c19 x0 x1 x2 x3 x4 x5 x6 x7 x8 y0 y1 y2 y3 y4 y5 y6 y7 y8 hb6 hb7
    go_wp2_with fail
    go_ret2
    exact ⟨by rw [HEl.out];rfl,HB6.out⟩
  ·have HEl:Hid ((rows[pos]?).elim false (fun x=>eqB x.k r) = false):=Lib.hid (by rw [List.getElem?_eq_none (by omega)];rfl)
   have hd:decide ((pos:Int) < (rows.length:Int)) = false:=decide_eq_false (by omega)
   clear y0 y1 y2 y3 y4 y5 y6 y7 y8 yf
   go_quiet (fail)
   go_wp2_with fail
   go_ret2
   exact ⟨by rw [HEl.out];rfl,belowN HB5.out _⟩
 ·have e18:kindV true = .iface 99 (.agg #[]):=rfl
  rw [e18] at HT
  clear e18
  have hta:=fun W=>ta99 W
  go_enter Tryz.func56,Tryz.ntmps56
  go_upto_region 2 with (fail)
  generalize (((w.alloc (.cells #[.pointer (some ⟨tb,0,none⟩)] 89)).alloc (.cells #[.int .i64 fk,.int .i64 fi,.int .i64 fg,.string fn,.string ff,.int .i64 fa,.slice pb nb cb,.string fb,.int .i64 fs] 24)).alloc (.cells #[.int .u32 0] 28)) = W3 at *
  obtain ⟨q0,qf⟩:=one_cell HP2.out
  obtain ⟨_,_,c18,c19,_⟩:=HT.out _ HB3.out
  have hk0:hK true r = hashT r:=rfl
  rw [hk0] at HS
  clear hk0
  obtain ⟨y0,y1,y2,y3,y4,y5,y6,y7,y8,yf⟩:=nine_of (f:=⟨fk,fi,fg,fn,ff,fa,fb,fs⟩) (v:=.slice pb nb cb) HP3.out
  dsimp only at y0 y1 y2 y3 y4 y5 y6 y7 y8
  go_wp2_with fail
  refine (HH.out _ HB3.out).mono ?_
  rintro e w4 ⟨rfl,hb4⟩
  have HB4:=Lib.hid (HB3.out.trans (hb4.mono HB3.out.size))
  have hl2:=(Array.getElem?_eq_some_iff.1 HP2.out).1
  have hl3:=(Array.getElem?_eq_some_iff.1 HP3.out).1
  have hl4:=(Array.getElem?_eq_some_iff.1 HP4.out).1
  have h42:=(hb4.block _ hl2).trans HP2.out
  have h43:=(hb4.block _ hl3).trans HP3.out
  have h44:=(hb4.block _ hl4).trans HP4.out
  clear y0 y1 y2 y3 y4 y5 y6 y7 y8 yf q0 qf c18 c19 hb4 hl2 hl3 hl4
  obtain ⟨z0,zf⟩:=one_cell h44
  generalize hashT r = hr at *
  have HQ4:Hid ((w4.setCell ⟨w.heap.size + 1 + 1,0,none⟩ (.int .u32 hr)).heap[w.heap.size + 1 + 1]? = some (.cells #[.int .u32 hr] 28)):=Lib.hid (heap_setCell_same w4 _ 0 _ 28 _ h44)
  have HQ2:Hid ((w4.setCell ⟨w.heap.size + 1 + 1,0,none⟩ (.int .u32 hr)).heap[w.heap.size]? = some (.cells #[.pointer (some ⟨tb,0,none⟩)] 89)):=Lib.hid ((Below.heap_setCell _ _ _ _ (fun e=>by first | (have e':w.heap.size = w.heap.size + 1 + 1:=e;omega) | (have e':w.heap.size + 1 + 1 = w.heap.size:=e;omega))).trans h42)
  have HQ3:Hid ((w4.setCell ⟨w.heap.size + 1 + 1,0,none⟩ (.int .u32 hr)).heap[w.heap.size + 1]? = some (.cells #[.int .i64 fk,.int .i64 fi,.int .i64 fg,.string fn,.string ff,.int .i64 fa,.slice pb nb cb,.string fb,.int .i64 fs] 24)):=Lib.hid ((Below.heap_setCell _ _ _ _ (fun e=>by first | (have e':w.heap.size + 1 = w.heap.size + 1 + 1:=e;omega) | (have e':w.heap.size + 1 + 1 = w.heap.size + 1:=e;omega))).trans h43)
  have HBq:=Lib.hid (HB4.out.setCell (p:=⟨w.heap.size + 1 + 1,0,none⟩) (by show w.heap.size ≤ w.heap.size + 1 + 1;omega) (.int .u32 hr))
  clear h42 h43 h44
  go_upto_region 5 with (fail)
  generalize (w4.setCell ⟨w.heap.size + 1 + 1,0,none⟩ (.int .u32 hr)) = W4 at *
  clear z0 zf
  have HSr:=Lib.hid (HS.out _ HBq.out _ _ _ HQ2.out HQ3.out HQ4.out)
  obtain ⟨q0,qf⟩:=one_cell HQ2.out
  obtain ⟨_,_,c18,c19,_⟩:=HT.out _ HBq.out
  go_wp2_with fail
  refine HSr.out.mono ?_
  rintro e w5 ⟨rfl,hb5⟩
  have HB5:=Lib.hid (HBq.out.trans (hb5.mono HBq.out.size))
  have hl2:=(Array.getElem?_eq_some_iff.1 HQ2.out).1
  have hl3:=(Array.getElem?_eq_some_iff.1 HQ3.out).1
  obtain ⟨q0,qf⟩:=one_cell ((hb5.block _ hl2).trans HQ2.out)
  obtain ⟨y0,y1,y2,y3,y4,y5,y6,y7,y8,yf⟩:=nine_of (f:=⟨fk,fi,fg,fn,ff,fa,fb,fs⟩) (v:=.slice pb nb cb) ((hb5.block _ hl3).trans HQ3.out)
  obtain ⟨_,_,c18,c19,_⟩:=HT.out _ HB5.out
  dsimp only at y0 y1 y2 y3 y4 y5 y6 y7 y8
  have HZl:Hid (w.heap.size < w5.heap.size∧w.heap.size + 1 < w5.heap.size):=Lib.hid ⟨Nat.lt_of_lt_of_le hl2 hb5.size,Nat.lt_of_lt_of_le hl3 hb5.size⟩
  have HTl:=Lib.hid (HTb.out _ HB5.out)
  clear hb5 HSr hl2 hl3
  go_upto_region 6 with (fail)
  by_cases hlt:pos < rows.length
  ·obtain ⟨g,cg,hv,hg,⟨x0,x1,x2,x3,x4,x5,x6,x7,x8⟩,xv,xh⟩:=HRw.out _ HB5.out pos hlt
   have HGl:=Lib.hid hg
   clear xv xh hg
   simp only [Value.slice.injEq] at hv
   obtain ⟨rfl,_,rfl⟩:=hv
   obtain ⟨px,cx,ex,_,_⟩:=HSh.out pos hlt
   have hC:=HSm.out w5.drew (belowD HB5.out) pos hlt
   rw [ex] at x6 hC
   have HEl:=Lib.hid (show (rows[pos]?).elim false (fun x=>eqB x.k r) = eqB (rows[pos]).k r by rw [List.getElem?_eq_getElem hlt];rfl)
   generalize rows[pos] = row at *
   generalize row.k.f = fx at *
   generalize row.k.items.length = nx at *
   obtain ⟨k1,i1,j1,n1,f1,a1,b1,t1⟩:=fx
   (try unfold aggV at hC)
   dsimp only at hC x0 x1 x2 x3 x4 x5 x6 x7 x8
   generalize eqB row.k r = q at *
   have HC:=Lib.hid hC
   clear hC ex
   have hd:decide ((pos:Int) < (rows.length:Int)) = true:=decide_eq_true (by omega)
   have hbd:=belowD (Below.refl w5.heap.size w5)
   have HBd:=Lib.hid hbd
   have HLt:Hid (g < w5.heap.size∧tb < w5.heap.size∧w.heap.size < w5.heap.size∧w.heap.size + 1 < w5.heap.size):=Lib.hid ⟨HGl.out,HTl.out,HZl.out.1,HZl.out.2⟩
   have HF5:=Lib.hid (fun W (hW:Below w5.heap.size w5 W)=>(⟨cell_keep hW HLt.out.2.2.1 q0,cell_keep hW HLt.out.2.1 c19,cell_keep hW HLt.out.1 x0,cell_keep hW HLt.out.1 x1,cell_keep hW HLt.out.1 x2,cell_keep hW HLt.out.1 x3,cell_keep hW HLt.out.1 x4,cell_keep hW HLt.out.1 x5,cell_keep hW HLt.out.1 x6,cell_keep hW HLt.out.1 x7,cell_keep hW HLt.out.1 x8,cell_keep hW HLt.out.2.2.2 y0,cell_keep hW HLt.out.2.2.2 y1,cell_keep hW HLt.out.2.2.2 y2,cell_keep hW HLt.out.2.2.2 y3,cell_keep hW HLt.out.2.2.2 y4,cell_keep hW HLt.out.2.2.2 y5,cell_keep hW HLt.out.2.2.2 y6,cell_keep hW HLt.out.2.2.2 y7,cell_keep hW HLt.out.2.2.2 y8⟩:W.cell? ⟨w.heap.size,0,none⟩ = some (.pointer (some ⟨tb,0,none⟩))∧W.cell? ⟨tb,19,none⟩ = some (.slice (some ⟨g,0,none⟩) rows.length cv)∧W.cell? ⟨g,pos * 19,none⟩ = some (.int .i64 k1)∧W.cell? ⟨g,pos * 19 + 1,none⟩ = some (.int .i64 i1)∧W.cell? ⟨g,pos * 19 + 1 + 1,none⟩ = some (.int .i64 j1)∧W.cell? ⟨g,pos * 19 + 1 + 1 + 1,none⟩ = some (.string n1)∧W.cell? ⟨g,pos * 19 + 1 + 1 + 1 + 1,none⟩ = some (.string f1)∧W.cell? ⟨g,pos * 19 + 1 + 1 + 1 + 1 + 1,none⟩ = some (.int .i64 a1)∧W.cell? ⟨g,pos * 19 + 1 + 1 + 1 + 1 + 1 + 1,none⟩ = some (.slice px nx cx)∧W.cell? ⟨g,pos * 19 + 1 + 1 + 1 + 1 + 1 + 1 + 1,none⟩ = some (.string b1)∧W.cell? ⟨g,pos * 19 + 1 + 1 + 1 + 1 + 1 + 1 + 1 + 1,none⟩ = some (.int .i64 t1)∧W.cell? ⟨(w.heap.size + 1),0,none⟩ = some (.int .i64 fk)∧W.cell? ⟨(w.heap.size + 1),1,none⟩ = some (.int .i64 fi)∧W.cell? ⟨(w.heap.size + 1),2,none⟩ = some (.int .i64 fg)∧W.cell? ⟨(w.heap.size + 1),3,none⟩ = some (.string fn)∧W.cell? ⟨(w.heap.size + 1),4,none⟩ = some (.string ff)∧W.cell? ⟨(w.heap.size + 1),5,none⟩ = some (.int .i64 fa)∧W.cell? ⟨(w.heap.size + 1),6,none⟩ = some (.slice pb nb cb)∧W.cell? ⟨(w.heap.size + 1),7,none⟩ = some (.string fb)∧W.cell? ⟨(w.heap.size + 1),8,none⟩ = some (.int .i64 fs)))
   obtain ⟨q0,c19,x0,x1,x2,x3,x4,x5,x6,x7,x8,y0,y1,y2,y3,y4,y5,y6,y7,y8⟩:=HF5.out _ hbd
   go_region_held3 (fun w'=>w'.cell? ⟨w.heap.size,0,none⟩ = some (.pointer (some ⟨tb,0,none⟩))∧w'.cell? ⟨tb,19,none⟩ = some (.slice (some ⟨g,0,none⟩) rows.length cv)∧w'.cell? ⟨g,pos * 19,none⟩ = some (.int .i64 k1)∧w'.cell? ⟨g,pos * 19 + 1,none⟩ = some (.int .i64 i1)∧w'.cell? ⟨g,pos * 19 + 1 + 1,none⟩ = some (.int .i64 j1)∧w'.cell? ⟨g,pos * 19 + 1 + 1 + 1,none⟩ = some (.string n1)∧w'.cell? ⟨g,pos * 19 + 1 + 1 + 1 + 1,none⟩ = some (.string f1)∧w'.cell? ⟨g,pos * 19 + 1 + 1 + 1 + 1 + 1,none⟩ = some (.int .i64 a1)∧w'.cell? ⟨g,pos * 19 + 1 + 1 + 1 + 1 + 1 + 1,none⟩ = some (.slice px nx cx)∧w'.cell? ⟨g,pos * 19 + 1 + 1 + 1 + 1 + 1 + 1 + 1,none⟩ = some (.string b1)∧w'.cell? ⟨g,pos * 19 + 1 + 1 + 1 + 1 + 1 + 1 + 1 + 1,none⟩ = some (.int .i64 t1)∧w'.cell? ⟨(w.heap.size + 1),0,none⟩ = some (.int .i64 fk)∧w'.cell? ⟨(w.heap.size + 1),1,none⟩ = some (.int .i64 fi)∧w'.cell? ⟨(w.heap.size + 1),2,none⟩ = some (.int .i64 fg)∧w'.cell? ⟨(w.heap.size + 1),3,none⟩ = some (.string fn)∧w'.cell? ⟨(w.heap.size + 1),4,none⟩ = some (.string ff)∧w'.cell? ⟨(w.heap.size + 1),5,none⟩ = some (.int .i64 fa)∧w'.cell? ⟨(w.heap.size + 1),6,none⟩ = some (.slice pb nb cb)∧w'.cell? ⟨(w.heap.size + 1),7,none⟩ = some (.string fb)∧w'.cell? ⟨(w.heap.size + 1),8,none⟩ = some (.int .i64 fs)) (go_keep)
    (first | (go_at_call 66;refine HC.out.mono ?_;rintro e w6 ⟨rfl,hb6⟩;have hb7:=HBd.out.trans hb6;obtain ⟨q0,c19,x0,x1,x2,x3,x4,x5,x6,x7,x8,y0,y1,y2,y3,y4,y5,y6,y7,y8⟩:=HF5.out _ hb7) | fail)
   all_goals
    have HB6:=Lib.hid (HB5.out.trans (hb7.mono HB5.out.size))
    clear q0 c19 x0 x1 x2 x3 x4 x5 x6 x7 x8 y0 y1 y2 y3 y4 y5 y6 y7 y8 hb6 hb7
    go_wp2_with fail
    go_ret2
    exact ⟨by rw [HEl.out];rfl,HB6.out⟩
  ·have HEl:Hid ((rows[pos]?).elim false (fun x=>eqB x.k r) = false):=Lib.hid (by rw [List.getElem?_eq_none (by omega)];rfl)
   have hd:decide ((pos:Int) < (rows.length:Int)) = false:=decide_eq_false (by omega)
   clear y0 y1 y2 y3 y4 y5 y6 y7 y8 yf
   go_quiet (fail)
   go_wp2_with fail
   go_ret2
   exact ⟨by rw [HEl.out];rfl,belowN HB5.out _⟩
end
end Go.Proofs.YtfbggmbmgohiiaaGreat.tb
