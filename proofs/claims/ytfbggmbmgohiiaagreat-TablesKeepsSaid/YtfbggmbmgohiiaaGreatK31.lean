/- Texts of this seat, one behind the other: TbS. No condition beyond theirs. -/
import Derived.Test.YtfbggmbmgohiiaaGreatK30
set_option linter.unusedSimpArgs false
set_option linter.unusedVariables false
set_option maxHeartbeats 4000000
set_option maxRecDepth 100000
namespace Go.Proofs.YtfbggmbmgohiiaaGreat.tb
open Go.RowKit mem rec tm names
section
variable {N:Nat} {w w':World} {B:Nat} {F:Nat→Prop} {t:TabE N}
theorem TabAt.below (h:TabAt w B F t) (hb:Below w.heap.size w w') (hF:∀ g,F g→g < w.heap.size):TabAt w' B F t:=h.same (hb.block _ h.lt) (fun k hk=>hb.block k (h.rows.lt hk).2) (fun g hg=>hb.block g (hF g hg)) (fun _ hg=>hg)
theorem TabAt.rowc (h:TabAt w B F t) {i:Nat} (hi:i < t.rows.length):∃ g c,t.vr = .slice (some ⟨g,0,none⟩) t.rows.length c∧g < w.heap.size∧Cells w g (i * 19) (t.rows[i]).k.f (t.rows[i]).uk∧Cells w g (i * 19 + 9) (t.rows[i]).v.f (t.rows[i]).uv∧w.cell? ⟨g,i * 19 + 18,none⟩ = some (.int .u32 (t.rows[i]).h):=by
 rcases id h.rows.2 with ⟨_,h0⟩ | ⟨g,cap,cur,h1,_,hh,_⟩
 ·omega
 ·have hrow:=h.rows.row h.enc
  rw [h1] at hrow
  obtain ⟨g',o,e,_,hg,hc⟩:=hrow.nth (by omega)
  simp only [Option.some.injEq,Addr.mk.injEq,and_true] at e
  obtain ⟨rfl,rfl⟩:=e
  have hx:∀ k u,(rowL t.rows[i])[k]? = some u→w.cell? ⟨g,i * 19 + k,none⟩ = some u:=fun k u hu=>by
   have:=hc i _ (List.getElem?_eq_getElem hi) k u hu
   rwa [Nat.zero_add] at this
  exact ⟨g,cap,h1,hg,⟨hx 0 _ rfl,hx 1 _ rfl,hx 2 _ rfl,hx 3 _ rfl,hx 4 _ rfl,hx 5 _ rfl,hx 6 _ rfl,hx 7 _ rfl,hx 8 _ rfl⟩,⟨hx 9 _ rfl,hx 10 _ rfl,hx 11 _ rfl,hx 12 _ rfl,hx 13 _ rfl,hx 14 _ rfl,hx 15 _ rfl,hx 16 _ rfl,hx 17 _ rfl⟩,hx 18 _ rfl⟩
theorem one_cell {w:World} {z:Nat} {a:Value} {ty:TypeId} (h:w.heap[z]? = some (.cells #[a] ty)):w.cell? ⟨z,0,none⟩ = some a∧∀ o,w.frozen? ⟨z,o,none⟩ = false:=by
 refine ⟨?_,fun o=>?_⟩
 ·simp only [World.cell?,h];rfl
 ·simp only [World.frozen?,h];simp
theorem clos88 (h:TabAt w B F t) (hF:∀ g,F g→g < w.heap.size) {r:Tm (N + 1)} {u:Value} {zt zk zh B2:Nat} {hh:Int} (hB:B2 ≤ w.heap.size) (hI:ItemsAt w B2 N u r.items) (hn:300 * (nodesT r:Int) ≤ 1000000000000)
 (hzt:w.heap[zt]? = some (.cells #[.pointer (some ⟨t.b,0,none⟩)] 89)) (hzk:w.heap[zk]? = some (cells9 r.f u)) (hzh:w.heap[zh]? = some (.cells #[.int .u32 hh] 28)) {i:Nat} (hi:i < t.rows.length) (hnr:300 * (nodesT (t.rows[i]).k:Int) ≤ 1000000000000) :
 Calls Tryz.prog 88 #[.int .i64 i,.pointer (some ⟨zt,0,none⟩),.pointer (some ⟨zk,0,none⟩),.pointer (some ⟨zh,0,none⟩)] w (BPost (!befB t.hs (t.rows[i]).k r (t.rows[i]).h hh) w):=by
 have hit:=(h.irow _ (List.getElem_mem hi)).1
 have hC1:=fun (a b:Int)=>bef177 w.drew w.heap.size (t.rows[i]).uk u (t.rows[i]).k r a b (Nat.le_refl _) (ItemsIn.toAt hF (ItemsIn.mono (w:=w) (w':=w.drew) (F:=F) (F':=F) (fun _ _=>rfl) (fun _ hg=>hg) hit)) ((ItemsAt.same (w:=w) (w':=w.drew) (fun _ _=>rfl) hI).more hB) hnr hn
 have hC2:=fun (a b:Int)=>bef179 w.drew w.heap.size (t.rows[i]).uk u (t.rows[i]).k r a b (Nat.le_refl _) (ItemsIn.toAt hF (ItemsIn.mono (w:=w) (w':=w.drew) (F:=F) (F':=F) (fun _ _=>rfl) (fun _ hg=>hg) hit)) ((ItemsAt.same (w:=w) (w':=w.drew) (fun _ _=>rfl) hI).more hB) hnr hn
 obtain ⟨g,cg,hv,hg,⟨x0,x1,x2,x3,x4,x5,x6,x7,x8⟩,xv,xh⟩:=h.rowc hi
 clear xv
 obtain ⟨_,_,c18,c19,_⟩:=tab_cells h.blk
 obtain ⟨y0,y1,y2,y3,y4,y5,y6,y7,y8,yf⟩:=nine_of hzk
 obtain ⟨zt0,_⟩:=one_cell hzt
 obtain ⟨zh0,_⟩:=one_cell hzh
 obtain ⟨pa,ca,ea,_,_⟩:=ItemsIn.shape hit
 obtain ⟨pb,cb,eb,_,_⟩:=hI.shape
 have hcb:=h.rows.shape
 obtain ⟨q1,q2,q3,hcc,hcm⟩:=hcb
 clear q3
 clear h hF hB hI hn hzt hzk hzh hnr hit
 rw [ea] at x6 hC1 hC2
 rw [eb] at y6 hC1 hC2
 rw [hv] at c19
 clear ea eb hv
 have hir:(i:Int) < (t.rows.length:Int):=by omega
 generalize t.rows[i] = row at *
 generalize t.rows.length = nr at *
 generalize row.k.items.length = na at *
 generalize r.items.length = nb at *
 have HC1:=Lib.hid (hC1 row.h hh)
 have HC2:=Lib.hid (hC2 row.h hh)
 clear hC1 hC2
 generalize row.k.f = fa at *
 generalize r.f = fb at *
 generalize t.b = tb at *
 generalize row.h = hr at *
 generalize row.k = ke at *
 generalize t.hs = hs at *
 obtain ⟨k1,i1,j1,n1,f1,a1,b1,t1⟩:=fa
 obtain ⟨k2,i2,j2,n2,f2,a2,b2,t2⟩:=fb
 unfold aggV at HC1 HC2
 dsimp only at HC1 HC2 x0 x1 x2 x3 x4 x5 x6 x7 x8 y0 y1 y2 y3 y4 y5 y6 y7 y8
 unfold maxLen at hcm
 cases hs
 ·generalize befB false ke r hr hh = q at *
  have e18:kindV false = .iface 93 (.agg #[]):=rfl
  rw [e18] at c18
  clear HC2 e18
  go_enter Tryz.func88,Tryz.ntmps88
  go_wp2_with fail
  go_still_tail 24,(by kernel_rfl)
  change wpList _ _ _ _ _ w.drew
  clear x0 x1 x2 x3 x4 x5 x6 x7 x8 y0 y1 y2 y3 y4 y5 y6 y7 y8 yf xh c18 c19 zt0 zh0
  have HBd:=Lib.hid (belowD (Below.refl w.heap.size w))
  go_wp2_with fail
  refine HC1.out.mono ?_
  rintro e w3 ⟨rfl,hb3⟩
  have HB4:=Lib.hid (HBd.out.trans (hb3.mono HBd.out.size))
  clear hb3
  go_wp2_with fail
  go_ret
  exact ⟨rfl,HB4.out⟩
 ·generalize befB true ke r hr hh = q at *
  have e18:kindV true = .iface 99 (.agg #[]):=rfl
  rw [e18] at c18
  clear HC1 e18
  go_enter Tryz.func88,Tryz.ntmps88
  go_wp2_with fail
  go_still_tail 24,(by kernel_rfl)
  change wpList _ _ _ _ _ w.drew
  clear x0 x1 x2 x3 x4 x5 x6 x7 x8 y0 y1 y2 y3 y4 y5 y6 y7 y8 yf xh c18 c19 zt0 zh0
  have HBd:=Lib.hid (belowD (Below.refl w.heap.size w))
  go_wp2_with fail
  refine HC2.out.mono ?_
  rintro e w3 ⟨rfl,hb3⟩
  have HB4:=Lib.hid (HBd.out.trans (hb3.mono HBd.out.size))
  clear hb3
  go_wp2_with fail
  go_ret
  exact ⟨rfl,HB4.out⟩
end
end Go.Proofs.YtfbggmbmgohiiaaGreat.tb
