/- CqE,CqF,HtG. No condition beyond theirs. -/
import Derived.Test.YtpnlnbolhkcnjaaGreatK49
import Derived.Test.YtpnlnbolhkcnjaaGreatK47
import Derived.Test.YtpnlnbolhkcnjaaGreatK48
set_option linter.unusedSimpArgs false
set_option linter.unusedVariables false
set_option maxHeartbeats 4000000
set_option maxRecDepth 100000
namespace Go.Proofs.YtpnlnbolhkcnjaaGreat
namespace cl
open Go.RowKit mem words
attribute [local go_sem] Oper.semAt_some
theorem four_cells {w:World} {z:Nat} {a b c d:Value} {t:TypeId} (h:w.heap[z]? = some (.cells #[a,b,c,d] t)):w.cell? ⟨z,0,none⟩ = some a∧w.cell? ⟨z,1,none⟩ = some b∧w.cell? ⟨z,2,none⟩ = some c∧w.cell? ⟨z,3,none⟩ = some d∧∀ o,w.frozen? ⟨z,o,none⟩ = false:=by
 refine ⟨?_,?_,?_,?_,fun o=>?_⟩
 ·simp only [World.cell?,h];rfl
 ·simp only [World.cell?,h];rfl
 ·simp only [World.cell?,h];rfl
 ·simp only [World.cell?,h];rfl
 ·simp only [World.frozen?,h];simp
theorem one_cell {w:World} {z:Nat} {a:Value} {t:TypeId} (h:w.heap[z]? = some (.cells #[a] t)):w.cell? ⟨z,0,none⟩ = some a∧∀ o,w.frozen? ⟨z,o,none⟩ = false:=by
 refine ⟨?_,fun o=>?_⟩
 ·simp only [World.cell?,h];rfl
 ·simp only [World.frozen?,h];simp
structure Own82 (w:World) (s1 s2:Value) (k:Int) (V:World):Prop where
 hm:V.heap[w.heap.size]? = some (.cells #[s1,s2,.int .i64 k] 24)
 hr:V.heap[w.heap.size + 1]? = some (.cells #[.slice none 0 0,.slice none 0 0,.slice none 0 0,.slice none 0 0] 110)
 hb:V.heap[w.heap.size + 1 + 1]? = some (.cells #[.bool false] 4)
 bl:Below w.heap.size w V
 big:w.heap.size + 3 ≤ V.heap.size
theorem Own82.later {w:World} {s1 s2:Value} {k:Int} {V V':World} (h:Own82 w s1 s2 k V) (hb:Below V.heap.size V V'):Own82 w s1 s2 k V' :=
 ⟨(hb.block _ (by have:=h.big;omega)).trans h.hm,(hb.block _ (by have:=h.big;omega)).trans h.hr,(hb.block _ (by have:=h.big;omega)).trans h.hb,h.bl.trans (hb.mono h.bl.size),Nat.le_trans h.big hb.size⟩
theorem Own82.alloc {w:World} {s1 s2:Value} {k:Int} {V:World} (h:Own82 w s1 s2 k V) (o:Obj):Own82 w s1 s2 k (V.alloc o):=h.later ((Below.refl _ _).alloc (Nat.le_refl _) o)
def put82 (V:World) (z2 z3:Nat) (v0 v1 v2 v3 v4:Value):World:=((((V.setCell ⟨z2,0,none⟩ v0).setCell ⟨z2,1,none⟩ v1).setCell ⟨z2,2,none⟩ v2).setCell ⟨z2,3,none⟩ v3).setCell ⟨z3,0,none⟩ v4
theorem put82_cells {V:World} {z2 z3:Nat} (h:z2 ≠ z3) {u0 u1 u2 u3 u4:Value} (c0:V.cell? ⟨z2,0,none⟩ = some u0) (c1:V.cell? ⟨z2,1,none⟩ = some u1) (c2:V.cell? ⟨z2,2,none⟩ = some u2) (c3:V.cell? ⟨z2,3,none⟩ = some u3) (c4:V.cell? ⟨z3,0,none⟩ = some u4) (v0 v1 v2 v3 v4:Value) :
 (put82 V z2 z3 v0 v1 v2 v3 v4).cell? ⟨z2,0,none⟩ = some v0∧(put82 V z2 z3 v0 v1 v2 v3 v4).cell? ⟨z2,1,none⟩ = some v1∧(put82 V z2 z3 v0 v1 v2 v3 v4).cell? ⟨z2,2,none⟩ = some v2∧(put82 V z2 z3 v0 v1 v2 v3 v4).cell? ⟨z2,3,none⟩ = some v3∧(put82 V z2 z3 v0 v1 v2 v3 v4).cell? ⟨z3,0,none⟩ = some v4:=by
 unfold put82;have f:∀ (i:Nat),(⟨z3,0,none⟩:Addr) ≠ ⟨z2,i,none⟩:=fun i e=>h (by injection e with e;exact e.symm);have g:∀ (i j:Nat),i ≠ j→(⟨z2,i,none⟩:Addr) ≠ ⟨z2,j,none⟩:=fun i j hij e=>hij (by injection e);have f':∀ (i:Nat),(⟨z2,i,none⟩:Addr) ≠ ⟨z3,0,none⟩:=fun i e=>f i e.symm
 refine ⟨?_,?_,?_,?_,?_⟩
 ·rw [World.cell?_setCell_other _ _ _ _ (f 0),World.cell?_setCell_other _ _ _ _ (g 3 0 (by decide)),World.cell?_setCell_other _ _ _ _ (g 2 0 (by decide)),World.cell?_setCell_other _ _ _ _ (g 1 0 (by decide)),World.cell?_setCell_same _ _ _ c0]
 ·rw [World.cell?_setCell_other _ _ _ _ (f 1),World.cell?_setCell_other _ _ _ _ (g 3 1 (by decide)),World.cell?_setCell_other _ _ _ _ (g 2 1 (by decide))];exact World.cell?_setCell_same _ _ _ ((World.cell?_setCell_other _ _ _ _ (g 0 1 (by decide))).trans c1)
 ·rw [World.cell?_setCell_other _ _ _ _ (f 2),World.cell?_setCell_other _ _ _ _ (g 3 2 (by decide))];exact World.cell?_setCell_same _ _ _ ((World.cell?_setCell_other _ _ _ _ (g 1 2 (by decide))).trans ((World.cell?_setCell_other _ _ _ _ (g 0 2 (by decide))).trans c2))
 ·rw [World.cell?_setCell_other _ _ _ _ (f 3)];exact World.cell?_setCell_same _ _ _ ((World.cell?_setCell_other _ _ _ _ (g 2 3 (by decide))).trans ((World.cell?_setCell_other _ _ _ _ (g 1 3 (by decide))).trans ((World.cell?_setCell_other _ _ _ _ (g 0 3 (by decide))).trans c3)))
 ·exact World.cell?_setCell_same _ _ _ ((World.cell?_setCell_other _ _ _ _ (f' 3)).trans ((World.cell?_setCell_other _ _ _ _ (f' 2)).trans ((World.cell?_setCell_other _ _ _ _ (f' 1)).trans ((World.cell?_setCell_other _ _ _ _ (f' 0)).trans c4))))
theorem put82_below {B:Nat} {w V:World} (h:Below B w V) {z2 z3:Nat} (h2:B ≤ z2) (h3:B ≤ z3) (v0 v1 v2 v3 v4:Value):Below B w (put82 V z2 z3 v0 v1 v2 v3 v4):=by
 unfold put82
 with_reducible refine Below.setCell (Below.setCell (Below.setCell (Below.setCell (Below.setCell h ?_ _) ?_ _) ?_ _) ?_ _) ?_ _
 all_goals assumption
theorem put82_keeps (B:Nat) (V:World) (z2 z3:Nat) (v0 v1 v2 v3 v4:Value):KeepsFrom B V (put82 V z2 z3 v0 v1 v2 v3 v4):=by
 unfold put82;exact (((((KeepsOthers.setCell _ _ _).trans (KeepsOthers.setCell _ _ _)).trans (KeepsOthers.setCell _ _ _)).trans (KeepsOthers.setCell _ _ _)).trans (KeepsOthers.setCell _ _ _)).from B
theorem res82 (tmps:Array Value) (V:World) (z2 z3:Nat) (v0 v1 v2 v3 v4:Value) (t2:tmps[2]?.getD undef = .pointer (some ⟨z2,0,none⟩)) (t3:tmps[3]?.getD undef = .pointer (some ⟨z3,0,none⟩)) (c0:V.cell? ⟨z2,0,none⟩ = some v0) (c1:V.cell? ⟨z2,1,none⟩ = some v1) (c2:V.cell? ⟨z2,2,none⟩ = some v2) (c3:V.cell? ⟨z2,3,none⟩ = some v3) (c4:V.cell? ⟨z3,0,none⟩ = some v4) :
 (results Tryz.f61 tmps).run Tryz.prog V = .ok (.tuple #[.agg #[v0,v1,v2,v3],v4]) V:=by
 simp [results,Tryz.results61,go_sem,t2,t3,c0,c1,c2,c3,c4]
def Shape82 (m:Mm) (w:World) (e:Ending) (w':World):Prop :=
 Below w.heap.size w w'∧∃ p1 n1 c1 q1 k1 d1 p2 n2 c2 q2 k2 d2 r,e = .returned (.tuple #[.agg #[.slice p1 n1 c1,.slice q1 k1 d1,.slice p2 n2 c2,.slice q2 k2 d2],.bool r])∧(r = true↔∃ K,Sh m K)
theorem no82 {m:Mm} {w V:World} {s1 s2:Value} {k:Int} (hO:Own82 w s1 s2 k V) (hn:¬ ∃ K,Sh m K) (tmps:Array Value) (t2:tmps[2]?.getD undef = .pointer (some ⟨w.heap.size + 1,0,none⟩)) (t3:tmps[3]?.getD undef = .pointer (some ⟨w.heap.size + 1 + 1,0,none⟩)) :
 ∃ v,(results Tryz.f61 tmps).run Tryz.prog (put82 V (w.heap.size + 1) (w.heap.size + 1 + 1) (.slice none 0 0) (.slice none 0 0) (.slice none 0 0) (.slice none 0 0) (.bool false)) = .ok v (put82 V (w.heap.size + 1) (w.heap.size + 1 + 1) (.slice none 0 0) (.slice none 0 0) (.slice none 0 0) (.slice none 0 0) (.bool false))∧Shape82 m w (.returned v) (put82 V (w.heap.size + 1) (w.heap.size + 1 + 1) (.slice none 0 0) (.slice none 0 0) (.slice none 0 0) (.slice none 0 0) (.bool false)):=by
 obtain ⟨f0,f1,f2,f3,ff⟩:=four_cells hO.hr;obtain ⟨e0,ef⟩:=one_cell hO.hb;obtain ⟨d0,d1,d2,d3,d4⟩:=put82_cells (by omega) f0 f1 f2 f3 e0 (.slice none 0 0) (.slice none 0 0) (.slice none 0 0) (.slice none 0 0) (.bool false);exact ⟨_,res82 tmps _ _ _ _ _ _ _ _ t2 t3 d0 d1 d2 d3 d4,put82_below hO.bl (by omega) (by omega) _ _ _ _ _,_,_,_,_,_,_,_,_,_,_,_,_,false,rfl,by simp [hn]⟩
theorem done82 {m:Mm} {w W:World} {s1 s2:Value} {k:Int} {D:Nat} {p1 q1 p2 q2:Option Addr} {n1 c1 k1 d1 n2 c2 k2 d2:Nat} (hO:Own82 w s1 s2 k W) (hK:W.heap[D]? = some (.deferred (some []))) (hD:w.heap.size ≤ D) (hS:∃ K,Sh m K) :
 (put82 W (w.heap.size + 1) (w.heap.size + 1 + 1) (.slice p1 n1 c1) (.slice q1 k1 d1) (.slice p2 n2 c2) (.slice q2 k2 d2) (.bool true)).heap[D]? = some (.deferred (some []))∧∀ tmps:Array Value,tmps[2]?.getD undef = .pointer (some ⟨w.heap.size + 1,0,none⟩)→tmps[3]?.getD undef = .pointer (some ⟨w.heap.size + 1 + 1,0,none⟩) →
 ∃ v,(results Tryz.f61 tmps).run Tryz.prog ((put82 W (w.heap.size + 1) (w.heap.size + 1 + 1) (.slice p1 n1 c1) (.slice q1 k1 d1) (.slice p2 n2 c2) (.slice q2 k2 d2) (.bool true)).putObj D (.deferred none)) = .ok v ((put82 W (w.heap.size + 1) (w.heap.size + 1 + 1) (.slice p1 n1 c1) (.slice q1 k1 d1) (.slice p2 n2 c2) (.slice q2 k2 d2) (.bool true)).putObj D (.deferred none))∧Shape82 m w (.returned v) ((put82 W (w.heap.size + 1) (w.heap.size + 1 + 1) (.slice p1 n1 c1) (.slice q1 k1 d1) (.slice p2 n2 c2) (.slice q2 k2 d2) (.bool true)).putObj D (.deferred none)):=by
 have hK2:=(put82_keeps 0 W (w.heap.size + 1) (w.heap.size + 1 + 1) (.slice p1 n1 c1) (.slice q1 k1 d1) (.slice p2 n2 c2) (.slice q2 k2 d2) (.bool true)).same D _ (Nat.zero_le _) hK rfl;refine ⟨hK2,fun tmps t2 t3=>?_⟩;obtain ⟨f0,f1,f2,f3,ff⟩:=four_cells hO.hr;obtain ⟨e0,ef⟩:=one_cell hO.hb;obtain ⟨j0,j1,j2,j3,j4⟩:=put82_cells (V:=W) (z2:=w.heap.size + 1) (z3:=w.heap.size + 1 + 1) (by omega) f0 f1 f2 f3 e0 (.slice p1 n1 c1) (.slice q1 k1 d1) (.slice p2 n2 c2) (.slice q2 k2 d2) (.bool true)
 have hbl:=put82_below hO.bl (z2:=w.heap.size + 1) (z3:=w.heap.size + 1 + 1) (by omega) (by omega) (.slice p1 n1 c1) (.slice q1 k1 d1) (.slice p2 n2 c2) (.slice q2 k2 d2) (.bool true);generalize put82 W (w.heap.size + 1) (w.heap.size + 1 + 1) (.slice p1 n1 c1) (.slice q1 k1 d1) (.slice p2 n2 c2) (.slice q2 k2 d2) (.bool true) = V at *;have hg:=grownBy_putObj' V D (.deferred none);have hr:∀ r,some D = some r→∃ o:Obj,V.heap[r]? = some o∧o.isCells = false:=fun r e=>by cases e;exact ⟨_,hK2,rfl⟩
 exact ⟨_,res82 tmps _ _ _ _ _ _ _ _ t2 t3 (cell_kept j0 hg hr) (cell_kept j1 hg hr) (cell_kept j2 hg hr) (cell_kept j3 hg hr) (cell_kept j4 hg hr),hbl.grown hg hbl.size (fun r e=>by cases e;exact hD),_,_,_,_,_,_,_,_,_,_,_,_,true,rfl,by simp;exact hS⟩
theorem Own82.start (w:World) (s1 s2:Value) (k:Int):Own82 w s1 s2 k (((w.alloc (.cells #[s1,s2,.int .i64 k] 24)).alloc (.cells #[.slice none 0 0,.slice none 0 0,.slice none 0 0,.slice none 0 0] 110)).alloc (.cells #[.bool false] 4)):=by
 have h1:=(MapKept.heap_alloc w (.cells #[s1,s2,.int .i64 k] 24)).1;have b1:Below w.heap.size w (w.alloc (.cells #[s1,s2,.int .i64 k] 24)):=(Below.refl _ _).alloc (Nat.le_refl _) _;have s1':(w.alloc (.cells #[s1,s2,.int .i64 k] 24)).heap.size = w.heap.size + 1:=by show (w.heap.push _).size = _;rw [Array.size_push]
 generalize (w.alloc (.cells #[s1,s2,.int .i64 k] 24)) = A at *;have h2:=(MapKept.heap_alloc A (.cells #[.slice none 0 0,.slice none 0 0,.slice none 0 0,.slice none 0 0] 110)).1;have b2:Below A.heap.size A (A.alloc (.cells #[.slice none 0 0,.slice none 0 0,.slice none 0 0,.slice none 0 0] 110)):=(Below.refl _ _).alloc (Nat.le_refl _) _;have s2':(A.alloc (.cells #[.slice none 0 0,.slice none 0 0,.slice none 0 0,.slice none 0 0] 110)).heap.size = A.heap.size + 1:=by show (A.heap.push _).size = _;rw [Array.size_push]
 generalize (A.alloc (.cells #[.slice none 0 0,.slice none 0 0,.slice none 0 0,.slice none 0 0] 110)) = C at *;have h3:=(MapKept.heap_alloc C (.cells #[.bool false] 4)).1;have b3:Below C.heap.size C (C.alloc (.cells #[.bool false] 4)):=(Below.refl _ _).alloc (Nat.le_refl _) _;have s3':(C.alloc (.cells #[.bool false] 4)).heap.size = C.heap.size + 1:=by show (C.heap.push _).size = _;rw [Array.size_push]
 generalize (C.alloc (.cells #[.bool false] 4)) = D at *;rw [s1'] at h2 b2 s2';rw [s2'] at h3 b3 s3';exact ⟨(b3.block _ (by omega)).trans ((b2.block _ (by omega)).trans h1),(b3.block _ (by omega)).trans h2,h3,(b1.trans (b2.mono (by omega))).trans (b3.mono (by omega)),by omega⟩
def Scanned (p:Option Addr) (c:Nat) (l:List Int) (W:World) (qa:Option Addr) (na ca:Nat) (qb:Option Addr) (nb cb:Nat) (k:Bool):Prop :=
 (k = true∧∃ a,Objs l a∧qa = p∧na = l.length∧ca = c∧nb = l.length∧cb = l.length∧FAt W W.heap.size (.slice qb nb cb) (marks a))∨(k = false∧¬ ∃ a,Objs l a)
theorem scan_forms {p:Option Addr} {c:Nat} {l:List Int} {W:World} {e:Ending}
 (h:(∃ a g,Objs l a∧e = .returned (.tuple #[.agg #[.slice p l.length c,.slice (some ⟨g,0,none⟩) l.length l.length],.bool true])∧FAt W W.heap.size (.slice (some ⟨g,0,none⟩) l.length l.length) (marks a)) ∨
   ((¬ ∃ a,Objs l a)∧e = .returned (.tuple #[.agg #[.slice none 0 0,.slice none 0 0],.bool false]))) :
 ∃ qa na ca qb nb cb k,e = .returned (.tuple #[.agg #[.slice qa na ca,.slice qb nb cb],.bool k])∧Scanned p c l W qa na ca qb nb cb k:=by
 rcases h with ⟨a,g,ha,rfl,hf⟩ | ⟨hn,rfl⟩
 ·exact ⟨_,_,_,_,_,_,_,rfl,.inl ⟨rfl,a,ha,rfl,rfl,rfl,rfl,rfl,hf⟩⟩
 ·exact ⟨_,_,_,_,_,_,_,rfl,.inr ⟨rfl,hn⟩⟩
theorem Own82.grown {w:World} {s1 s2:Value} {k:Int} {V V':World} {row:Option Nat} (h:Own82 w s1 s2 k V) (hg:V.grownBy V' row) (hr:∀ r,row = some r→∃ o:Obj,V.heap[r]? = some o∧o.isCells = false) (hb:∀ r,row = some r→w.heap.size ≤ r):Own82 w s1 s2 k V' :=
 ⟨(grownBy_keeps_cells hg hr h.hm rfl).trans h.hm,(grownBy_keeps_cells hg hr h.hr rfl).trans h.hr,(grownBy_keeps_cells hg hr h.hb rfl).trans h.hb,h.bl.grown hg h.bl.size hb,Nat.le_trans h.big hg.size⟩
theorem KeepsCells.grown {V0 V V':World} {row:Option Nat} (h:KeepsCells V0 V) (hg:V.grownBy V' row) (hr:∀ r,row = some r→∃ o:Obj,V.heap[r]? = some o∧o.isCells = false):KeepsCells V0 V' :=
 fun k o hk ho=>(grownBy_keeps_cells hg hr (h k o hk ho) ho).trans (h k o hk ho)
theorem keepsFrom_below {B:Nat} {V V':World} (h:Below V.heap.size V V'):KeepsFrom B V V':=⟨h.size,fun k o _ hk _=>(h.block k (Array.getElem?_eq_some_iff.1 hk).1).trans hk⟩
structure In82 (m:Mm) (K:Bk) (w W6:World) (s1 s2:Value) (i:Nat) (V:World):Prop where
 own:Own82 w s1 s2 m.at_ V
 kept:KeepsCells W6 V
 sz:W6.heap.size ≤ V.heap.size
 good:∀ j,j < i→goodP m K ((ptrs m K)[j]?.getD 0)
theorem In82.own_from {m:Mm} {K:Bk} {w W6:World} {s1 s2:Value} (hW:w.heap.size ≤ W6.heap.size):OwnFrom W6.heap.size (In82 m K w W6 s1 s2):=fun i V V' row hs hg hr =>
 ⟨hs.own.grown hg (fun r e=>(hr r e).2) (fun r e=>Nat.le_trans hW (hr r e).1),hs.kept.grown hg (fun r e=>(hr r e).2),Nat.le_trans hs.sz hg.size,hs.good⟩
structure Out82 (m:Mm) (w:World) (V:World):Prop where
 no:¬ ∃ K,Sh m K
 bl:Below w.heap.size w V
 c0:V.cell? ⟨w.heap.size + 1,0,none⟩ = some (.slice none 0 0)
 c1:V.cell? ⟨w.heap.size + 1,1,none⟩ = some (.slice none 0 0)
 c2:V.cell? ⟨w.heap.size + 1,2,none⟩ = some (.slice none 0 0)
 c3:V.cell? ⟨w.heap.size + 1,3,none⟩ = some (.slice none 0 0)
 c4:V.cell? ⟨w.heap.size + 1 + 1,0,none⟩ = some (.bool false)
theorem Out82.grown {m:Mm} {w:World} {V V':World} {row:Option Nat} (h:Out82 m w V) (hg:V.grownBy V' row) (hr:∀ r,row = some r→∃ o:Obj,V.heap[r]? = some o∧o.isCells = false) (hb:∀ r,row = some r→w.heap.size ≤ r):Out82 m w V' :=
 ⟨h.no,h.bl.grown hg h.bl.size hb,cell_kept h.c0 hg hr,cell_kept h.c1 hg hr,cell_kept h.c2 hg hr,cell_kept h.c3 hg hr,cell_kept h.c4 hg hr⟩
def Ox82 (m:Mm) (w:World) (c:Code) (_:Nat) (V:World):Prop:=c = Code.ret∧Out82 m w V
theorem Ox82.own_from {m:Mm} {w W6:World} (hW:w.heap.size ≤ W6.heap.size) (c:Code):OwnFrom W6.heap.size (Ox82 m w c):=fun i V V' row hs hg hr =>
 ⟨hs.1,hs.2.grown hg (fun r e=>(hr r e).2) (fun r e=>Nat.le_trans hW (hr r e).1)⟩
theorem Out82.of_put {m:Mm} {w V:World} {s1 s2:Value} {k:Int} (hO:Own82 w s1 s2 k V) (hn:¬ ∃ K,Sh m K):Out82 m w (put82 V (w.heap.size + 1) (w.heap.size + 1 + 1) (.slice none 0 0) (.slice none 0 0) (.slice none 0 0) (.slice none 0 0) (.bool false)):=by
 obtain ⟨f0,f1,f2,f3,ff⟩:=four_cells hO.hr;obtain ⟨e0,ef⟩:=one_cell hO.hb;obtain ⟨d0,d1,d2,d3,d4⟩:=put82_cells (by omega) f0 f1 f2 f3 e0 (.slice none 0 0) (.slice none 0 0) (.slice none 0 0) (.slice none 0 0) (.bool false);exact ⟨hn,put82_below hO.bl (by omega) (by omega) _ _ _ _ _,d0,d1,d2,d3,d4⟩
theorem In82.next {m:Mm} {K:Bk} {w W6 V V':World} {s1 s2:Value} {i:Nat} (h:In82 m K w W6 s1 s2 i V) (hb:Below V.heap.size V V') (hg:goodP m K ((ptrs m K)[i]?.getD 0)):KeepsFrom W6.heap.size V V'∧KeepsCells V V'∧In82 m K w W6 s1 s2 (i + 1) V' :=
 ⟨keepsFrom_below hb,KeepsCells.below hb (Nat.le_refl _),h.own.later hb,h.kept.trans (KeepsCells.below hb (Nat.le_refl _)),Nat.le_trans h.sz hb.size,fun j hj=>by
  by_cases hji:j < i
  ·exact h.good j hji
  ·obtain rfl:j = i:=by omega
   exact hg⟩
theorem In82.leave {m:Mm} {K:Bk} {w W6 V V':World} {s1 s2:Value} {i:Nat} (h:In82 m K w W6 s1 s2 i V) (hb:Below V.heap.size V V') (hn:¬ ∃ K,Sh m K):KeepsFrom W6.heap.size V (put82 V' (w.heap.size + 1) (w.heap.size + 1 + 1) (.slice none 0 0) (.slice none 0 0) (.slice none 0 0) (.slice none 0 0) (.bool false))∧Ox82 m w .ret (i + 1) (put82 V' (w.heap.size + 1) (w.heap.size + 1 + 1) (.slice none 0 0) (.slice none 0 0) (.slice none 0 0) (.slice none 0 0) (.bool false)) :=
 ⟨(keepsFrom_below hb).trans (put82_keeps _ _ _ _ _ _ _ _ _),rfl,Out82.of_put (h.own.later hb) hn⟩
theorem ready82 {w W3 W5 W6:World} {B z:Nat} {p1 p2 q1 q2:Option Addr} {c1 c2:Nat} {m:Mm} {K:Bk}
 (hO:Own82 w (.slice p1 m.y.length c1) (.slice p2 m.o.length c2) m.at_ W5)
 (hA:W5.heap[z]? = some (.cells #[.slice p1 m.y.length c1,.slice q1 m.y.length m.y.length,.slice p2 m.o.length c2,.slice q2 m.o.length m.o.length] 110))
 (hB:B ≤ w.heap.size) (h1:WAt w B (.slice p1 m.y.length c1) m.y) (h2:WAt w B (.slice p2 m.o.length c2) m.o)
 (f1:FAt W3 W3.heap.size (.slice q1 m.y.length m.y.length) (marks K.y)) (f2:FAt W3 W3.heap.size (.slice q2 m.o.length m.o.length) (marks K.o)) (hb:Below W3.heap.size W3 W5)
 (hy:Objs m.y K.y) (ho:Objs m.o K.o) (w1:Wds m.y) (w2:Wds m.o) (l1:m.y.length ≤ 100000) (l2:m.o.length ≤ 100000)
 (hW:W6 = W5.alloc (.cells #[.pointer (some ⟨z,0,none⟩)] 160)) :
 Own82 w (.slice p1 m.y.length c1) (.slice p2 m.o.length c2) m.at_ W6∧W6.cell? ⟨W5.heap.size,0,none⟩ = some (.pointer (some ⟨z,0,none⟩))∧HeapIn W6 W6.heap.size z m K:=by
 have hb6:Below W5.heap.size W5 W6:=by rw [hW];exact (Below.refl _ _).alloc (Nat.le_refl _) _
 have hc6:W6.heap[W5.heap.size]? = some (.cells #[.pointer (some ⟨z,0,none⟩)] 160):=by rw [hW];exact (MapKept.heap_alloc W5 (.cells #[.pointer (some ⟨z,0,none⟩)] 160)).1
 have hO6:=hO.later hb6;obtain ⟨a0,a1,a2,a3,_⟩:=four_cells (blk_same hA hb6);have s3:=hb.size;have s6:=hb6.size
 refine ⟨hO6,(one_cell hc6).1,⟨⟨⟨_,_,a0,a1,(h1.below hO6.bl hB).more ?_,((f1.below hb (Nat.le_refl _)).below hb6 s3).more (by omega)⟩,hy,w1,l1⟩,⟨⟨_,_,a2,a3,(h2.below hO6.bl hB).more ?_,((f2.below hb (Nat.le_refl _)).below hb6 s3).more (by omega)⟩,ho,w2,l2⟩⟩⟩
 ·have:=hO6.big;omega
 ·have:=hO6.big;omega
theorem shape82 (w:World) (B:Nat) (v1 v2:Value) (m:Mm) (hB:B ≤ w.heap.size) (h1:WAt w B v1 m.y) (h2:WAt w B v2 m.o) (w1:Wds m.y) (w2:Wds m.o) (l1:m.y.length ≤ 100000) (l2:m.o.length ≤ 100000) :
 Calls Tryz.prog 61 #[.agg #[v1,v2,.int .i64 m.at_]] w (Shape82 m w):=by
 have HS1:=Lib.hid (fun W (hb:Below w.heap.size w W)=>scan111 W B v1 m.y (Nat.le_trans hB hb.size) (h1.below hb hB) w1 l1);have HS2:=Lib.hid (fun W (hb:Below w.heap.size w W)=>scan111 W B v2 m.o (Nat.le_trans hB hb.size) (h2.below hb hB) w2 l2);obtain ⟨p1,c1,rfl,_⟩:=id h1;obtain ⟨p2,c2,rfl,_⟩:=id h2;rename_i R1 R2;clear R1 R2;have H1:=Lib.hid h1;have H2:=Lib.hid h2;have HO:=Lib.hid (Own82.start w (.slice p1 m.y.length c1) (.slice p2 m.o.length c2) m.at_);unfold ScanPost at HS1 HS2;clear h1 h2;refine (callsIn_wide (n:=5)).1 ?_;refine callsIn_of_wp_marks Tryz.func61 rfl trivial ?_ rfl
 simp only [Tryz.ntmps61,List.size_toArray,List.length_cons,List.length_nil,Nat.reduceAdd,Nat.reduceSub,Array.replicate_succ,Array.replicate_zero,List.push_toArray,List.append_toArray,List.nil_append,List.cons_append]
 gi_wp2
 refine ⟨trivial,(callsIn_wide.2 (HS1.out _ HO.out.bl)).mono ?_⟩;generalize (((w.alloc (.cells #[.slice p1 m.y.length c1,.slice p2 m.o.length c2,.int .i64 m.at_] 24)).alloc (.cells #[.slice none 0 0,.slice none 0 0,.slice none 0 0,.slice none 0 0] 110)).alloc (.cells #[.bool false] 4)) = W0 at *;rintro e W1 ⟨hb1,hs1⟩;have HO1:=Lib.hid (HO.out.later hb1);obtain ⟨qa1,na1,ca1,qb1,nb1,cb1,k1,rfl,hs1'⟩:=scan_forms hs1;have HX1:=Lib.hid hs1';clear hs1 hs1' hb1 HO HS1;have hb1:=(Below.refl W1.heap.size W1).alloc (Nat.le_refl _) (.cells #[.slice qa1 na1 ca1,.slice qb1 nb1 cb1] 108)
 have HA1:=Lib.hid (MapKept.heap_alloc W1 (.cells #[.slice qa1 na1 ca1,.slice qb1 nb1 cb1] 108)).1;have HO2:=Lib.hid (HO1.out.later hb1);have HB12:=Lib.hid hb1;clear hb1;obtain ⟨x0,x1,x2,xf⟩:=three_cells HO1.out.hm;obtain ⟨y0,y1,y2,yf⟩:=three_cells HO2.out.hm
 gi_wp2
 refine ⟨trivial,(callsIn_wide.2 (HS2.out _ HO2.out.bl)).mono ?_⟩;clear x0 x1 x2 xf y0 y1 y2 yf HS2;generalize (W1.alloc (.cells #[.slice qa1 na1 ca1,.slice qb1 nb1 cb1] 108)) = W2 at *;rintro e W3 ⟨hb3,hs3⟩;have HO3:=Lib.hid (HO2.out.later hb3);have HA3:=Lib.hid ((hb3.block _ (Array.getElem?_eq_some_iff.1 HA1.out).1).trans HA1.out);obtain ⟨qa2,na2,ca2,qb2,nb2,cb2,k2,rfl,hs3'⟩:=scan_forms hs3;have HX2:=Lib.hid hs3';have HB13:=Lib.hid (HB12.out.trans (hb3.mono HB12.out.size));clear hs3 hs3' hb3 HO1 HO2 HA1 HB12;have hz1:W1.heap.size < W3.heap.size:=(Array.getElem?_eq_some_iff.1 HA3.out).1
 generalize hze:W1.heap.size = z1 at *;have HZE:=Lib.hid hze;clear hze;have hb4:=(Below.refl W3.heap.size W3).alloc (Nat.le_refl _) (.cells #[.slice qa2 na2 ca2,.slice qb2 nb2 cb2] 108);have HA4:=Lib.hid (MapKept.heap_alloc W3 (.cells #[.slice qa2 na2 ca2,.slice qb2 nb2 cb2] 108)).1;have HO4:=Lib.hid (HO3.out.later hb4);have HA34:=Lib.hid ((hb4.block _ hz1).trans HA3.out);generalize hW4:(W3.alloc (.cells #[.slice qa2 na2 ca2,.slice qb2 nb2 cb2] 108)) = W4 at *;have hz34:W3.heap.size < W4.heap.size:=(Array.getElem?_eq_some_iff.1 HA4.out).1
 have hb5:=(Below.refl W4.heap.size W4).alloc (Nat.le_refl _) (.cells #[.slice qa1 na1 ca1,.slice qb1 nb1 cb1,.slice qa2 na2 ca2,.slice qb2 nb2 cb2] 110);have HA5:=Lib.hid (MapKept.heap_alloc W4 (.cells #[.slice qa1 na1 ca1,.slice qb1 nb1 cb1,.slice qa2 na2 ca2,.slice qb2 nb2 cb2] 110)).1;have HO5:=Lib.hid (HO4.out.later hb5);have HA35:=Lib.hid ((hb5.block _ (by omega)).trans HA34.out);have HB45:=Lib.hid (hb4.trans (hb5.mono hb4.size));obtain ⟨x0,x1,x2,xf⟩:=three_cells HO3.out.hm;obtain ⟨y0,y1,yf⟩:=two_cells HA34.out;obtain ⟨t0,t1,tf⟩:=two_cells HA4.out;subst hW4;have hA5:=HA5.out
 rw [World.size_alloc] at hA5;have HA5:=Lib.hid hA5;clear hA5;obtain ⟨r0,r1,r2,rf⟩:=three_cells HO5.out.hm;obtain ⟨s0,s1,sf⟩:=two_cells HA35.out;clear hb4 hb5;obtain ⟨f0,f1,f2,f3,ff⟩:=four_cells HO5.out.hr;obtain ⟨e0,ef⟩:=one_cell HO5.out.hb;have l1':decide ((2147483647:Int) < (m.y.length:Int)) = false:=decide_eq_false (by omega);have l2':decide ((2147483647:Int) < (m.o.length:Int)) = false:=decide_eq_false (by omega)
 rcases HX1.out with ⟨rfl,a1,ho1,rfl,rfl,rfl,rfl,rfl,hf1⟩ | ⟨rfl,hn1⟩
 ·rcases HX2.out with ⟨rfl,a2,ho2,rfl,rfl,rfl,rfl,rfl,hf2⟩ | ⟨rfl,hn2⟩
  ·obtain ⟨K,rfl,rfl⟩:∃ K:Bk,K.y = a1∧K.o = a2:=⟨⟨a1,a2⟩,rfl,rfl⟩;have HOb:=Lib.hid (And.intro ho1 ho2);have HU:Hid (∀ K',Sh m K'→K' = K):=Lib.hid (fun K' h=>sh_uniq h ho1 ho2);have hp1:=ho1.pos;have HF1:=Lib.hid ((hf1.below HB13.out (Nat.le_of_eq HZE.out)).more (show W1.heap.size ≤ W3.heap.size by have:=HZE.out;omega));have HF2:=Lib.hid hf2;clear HX1 HX2 hf1 hf2
   by_cases hm0:m.at_ < 0
   ·have q3:decide (m.at_ < 0) = true:=decide_eq_true hm0;have HNo:Hid (¬ ∃ K,Sh m K):=Lib.hid (fun ⟨K,h⟩=>by have:=h.m0;omega);clear hm0
    gi_wp2
    exact no82 HO5.out HNo.out _ rfl rfl
   ·have q3:decide (m.at_ < 0) = false:=decide_eq_false hm0;obtain ⟨k,hk⟩:∃ k:Nat,m.at_ = k:=⟨m.at_.toNat,by omega⟩
    by_cases hm1:(m.y.length:Int) < m.at_
    ·have q4:decide ((m.y.length:Int) < m.at_) = true:=decide_eq_true hm1;have HNo:Hid (¬ ∃ K,Sh m K):=Lib.hid (fun ⟨K,h⟩=>by have:=h.m1;omega);clear hm1 hm0 hk
     gi_wp2
     exact no82 HO5.out HNo.out _ rfl rfl
    ·have q4:decide ((m.y.length:Int) < m.at_) = false:=decide_eq_false hm1
     by_cases hm2:m.at_ < (m.y.length:Int)
     ·have q5:decide (m.at_ < (m.y.length:Int)) = true:=decide_eq_true hm2;have hkl:k < m.y.length:=by omega
      have hml:(marks K.y).length = m.y.length:=by rw [marks_len hp1,ho1.1]
      obtain ⟨g,o,e2,en2,hg2,hcl2⟩:=RowAt.cellB (HF1.out) (by omega);have hcf:=hcl2 k (by omega);have hmk:=marks_getD hp1 (i:=k) (by omega);subst e2;have hgb:g < W3.heap.size:=by have:=HZE.out;omega
      have hcf5:=(HB45.out.cell (p:=⟨g,o + k,none⟩) hgb).trans hcf;have r1:0 ≤ m.at_:=by omega
      have r2:m.at_.toNat = k:=by omega
      clear hcl2 hcf hgb en2 hml;generalize (marks K.y).getD k false = f at *
      cases f
      ·have HNo:Hid (¬ ∃ K,Sh m K):=Lib.hid (fun ⟨K',h⟩=>by
        obtain ⟨x,hx⟩:=h.m2 hm2
        rw [HU.out K' h,r2] at hx
        exact Bool.noConfusion (hmk.2 ⟨x,hx⟩))
       clear hmk hk hm0 hm1
       gi_wp2
       exact no82 HO5.out HNo.out _ rfl rfl
      ·have HM2:Hid (m.at_ < m.y.length→∃ x,At K.y m.at_.toNat x):=Lib.hid (fun _=>by rw [r2];exact hmk.1 rfl);have HMm:Hid (0 ≤ m.at_∧m.at_ ≤ m.y.length):=Lib.hid ⟨by omega,by omega⟩;clear hmk hk hm0 hm1
       gi_wp2
       refine ⟨trivial,(callsIn_wide.2 (pointers112 _ _)).mono ?_⟩;rintro e W6 ⟨rfl,hW6⟩;obtain ⟨HO6,HZc,HH6⟩:=ready82 HO5.out HA5.out hB H1.out H2.out HF1.out HF2.out HB45.out HOb.out.1 HOb.out.2 w1 w2 l1 l2 hW6;have HWA:Hid (W6.heap[W3.heap.size + 1]? = some _):=Lib.hid (blk_same HA5.out (by rw [hW6];exact (Below.refl _ _).alloc (Nat.le_refl _) _));have HF1':=Lib.hid (((HF1.out.below HB45.out (Nat.le_refl _)).more (Nat.le_trans HB45.out.size (Nat.le_refl _))));have HF2':=Lib.hid (((HF2.out.below HB45.out (Nat.le_refl _)).more (Nat.le_trans HB45.out.size (Nat.le_refl _))))
       have HB56:Hid (Below _ _ W6):=Lib.hid (by rw [hW6];exact (Below.refl _ _).alloc (Nat.le_refl _) _);clear hW6;have HRd:=Lib.hid HO6;have HHp:=Lib.hid HH6;have HZb:=Lib.hid HZc;clear HO6 HZc HH6 HO3 HO4 HA3 HA4 HA34 HB13 HB45 HA5 HA35 HF1 HF2;clear x0 x1 x2 xf y0 y1 yf t0 t1 tf r0 r1 r2 rf s0 s1 sf f0 f1 f2 f3 ff e0 ef;generalize (((W3.alloc _).alloc _).heap.size) = zc at *
       gi_wp2
       refine range_seq rfl (by decide) (gf:=185) (lb:=#[.pointer (some ⟨zc,0,none⟩)]) rfl trivial (enters_of Tryz.func185 (by kernel_rfl) rfl) (pointers135 4 W6.heap.size zc (W3.heap.size + 1) (by decide) m K) (fun h k=>h.trans k) KeepsCells.put (fun i=>rfl) (In82 m K w W6 (.slice _ m.y.length _) (.slice _ m.o.length _)) (Ox82 m w) (In82.own_from HRd.out.bl.size) (fun c=>Ox82.own_from HRd.out.bl.size c) (fun i V h=>⟨h.kept.cell HZb.out,HHp.out.keeps h.kept⟩) ⟨HRd.out,KeepsCells.refl _,Nat.le_refl _,fun j hj=>absurd hj (Nat.not_lt_zero _)⟩ ?round ?done ?stop;case round =>
        intro l i W V hI hi;have HI:=Lib.hid hI;have hHp:=HHp.out.keeps hI.kept;have hmem:(ptrs m K)[i]?.getD 0 ∈ ptrs m K:=by rw [List.getElem?_eq_getElem hi];exact List.getElem_mem hi
        have HNext:=Lib.hid (fun (V':World) (hb:Below V.heap.size V V')=>hI.next hb);clear hI;unfold ptrEnc;generalize (ptrs m K)[i]?.getD 0 = p at *;obtain ⟨b,k,x,hat,hpe⟩:=(ptrs_mem HOb.out.1 HOb.out.2).1 hmem;obtain ⟨hpt,hpo,hpi,hp0,hp1⟩:=ptrF_pt HOb.out.1 HOb.out.2 l1 l2 hat;rw [← hpe] at hpt hpo hpi hp0 hp1;have hpos:K.pos:=⟨HOb.out.1.pos,HOb.out.2.pos⟩;have hob:=hpt.ob hpos;have HGd:Hid ((okO x = true∧∀ v ∈ fol x,goodW m K b k v)→goodP m K p):=Lib.hid (by unfold goodP folB;rw [hob,hpo,hpi];exact id)
        have HNs:Hid ((okO x = false∨∃ v,v ∈ fol x∧¬ goodW m K b k v)→¬ ∃ K',Sh m K'):=Lib.hid (by
         rintro h ⟨K',hs⟩
         rw [HU.out K' hs] at hs
         have hg:=good_of_sh hs l1 l2 hmem
         unfold goodP folB at hg
         rw [hob,hpo,hpi] at hg
         rcases h with h | ⟨v,hv,h⟩
         ·rw [hg.1] at h;exact Bool.noConfusion h
         ·exact h (hg.2 v hv))
        have HPp:=Lib.hid (fun W=>Pointer p hp0 hp1 W);rw [hpo,hpi,hpt.1] at HPp;have H96:=Lib.hid (object96 V W6.heap.size (W3.heap.size + 1) m K hHp p hp0 hp1);have hobj:IsObj x:=by
         cases b
         ·exact HOb.out.1.2 x hat.mem
         ·exact HOb.out.2.2 x hat.mem
        have hkr:=knd_rng hobj;have HFe:=Lib.hid (fol_eq hobj);have hxl:(wds x).length ≤ 100000:=by
         have h1:=wds_len hobj;have h2:=hat.bound
         cases b
         ·have h2:k + x.length ≤ K.y.flatten.length:=h2;rw [HOb.out.1.1] at h2;omega
         ·have h2:k + x.length ≤ K.o.flatten.length:=h2;rw [HOb.out.2.1] at h2;omega
        have HWd:Hid (Wds (wds x)):=Lib.hid (by
         intro v hv
         cases b
         ·exact w1 v (by rw [← HOb.out.1.1];exact List.mem_flatten.2 ⟨x,hat.mem,wds_mem hv⟩)
         ·exact w2 v (by rw [← HOb.out.2.1];exact List.mem_flatten.2 ⟨x,hat.mem,wds_mem hv⟩))
        have HPt:=Lib.hid hpt;have HSz:=Lib.hid HI.out.sz;have HPU:Hid (∀ x',Pt K p x'→x' = x):=Lib.hid (fun x' h=>h.uniq hpos hpt);have HFm:Hid (∀ u,WAt V W6.heap.size u (wds x)→∀ n,Calls Tryz.prog 132 #[.int .i64 (knd x),u] (V.drewN n) fun e w'=>e = .returned (.bool (okO x))∧Below (V.drewN n).heap.size (V.drewN n) w'):=Lib.hid (fun u hu n=>formed113 (V.drewN n) W6.heap.size u (knd x) (wds x) HSz.out hu HWd.out hxl hkr.1 hkr.2);clear hmem hpe hpt hpo hpi hp0 hp1 hob hat hpos hHp hobj hkr hi
        gi_wp2
        refine ⟨trivial,?_⟩
        gi_wp2_with (refine ⟨trivial,?_⟩;gi_at_call 131;refine (CallsIn.inRound l (callsIn_wide.2 (HPp.out _))).mono ?_;rintro e w' ⟨rfl,rfl⟩)
        refine ⟨trivial,(CallsIn.inRound l (callsIn_wide.2 H96.out)).mono ?_⟩;rintro e w' ⟨n1,rfl,⟨x',u,hx',rfl,hu⟩ | ⟨hno,_⟩⟩
        rotate_left
        ·exact absurd ⟨x,HPt.out⟩ hno
        obtain rfl:=HPU.out x' hx';clear hx' H96;have HFm2:=Lib.hid (HFm.out u hu n1);obtain ⟨pu,cu,rfl,R⟩:=id hu;clear R;have HUu:=Lib.hid hu;clear hu HFm
        gi_wp2
        refine ⟨trivial,(CallsIn.inRound l (callsIn_wide.2 HFm2.out)).mono ?_⟩;rintro e W7 ⟨rfl,hb7⟩;have HB7:Hid (Below V.heap.size V W7):=Lib.hid ((below_drewN (Below.refl V.heap.size V) n1).trans (hb7.mono (Nat.le_refl _)));clear hb7 HFm2
        cases hok:okO x'
        ·have HNo:Hid (¬ ∃ K,Sh m K):=Lib.hid (HNs.out (.inl hok));have HOw:=Lib.hid (HI.out.own.later HB7.out);obtain ⟨f0,f1,f2,f3,ff⟩:=four_cells HOw.out.hr;obtain ⟨e0,ef⟩:=one_cell HOw.out.hb;clear hok
         gi_wp2
         exact HI.out.leave HB7.out HNo.out
        ·have HGw:Hid ((∀ v ∈ fol x',goodW m K b k v)→goodP m K p):=Lib.hid (fun h=>HGd.out ⟨hok,h⟩);have hfn:=fxd_le (knd x') (wds x').length;have HFx:=Lib.hid (fixed114 W7 pu (wds x').length cu (knd x'));obtain ⟨F,hF⟩:∃ F,fxd (knd x') (wds x').length = F:=⟨_,rfl⟩;rw [hF] at hfn HFx HFe;have rF:(F:Int) ≤ ((wds x').length:Int):=by omega
         clear hok hF HGd
         by_cases hlt:F < (wds x').length
         ·obtain ⟨gw,ow,rfl,hgw,hcw⟩:=RowAt.nth' HUu.out (by omega);have hcn:(wds x').length ≤ cu:=by
           obtain ⟨_,_,e,h,_⟩:=HUu.out;cases e;exact h
          have hci:¬ cu = F:=by omega
          have e3:(F:Int) ≤ (cu:Int):=by omega
          have HCell:Hid (∀ W,Below V.heap.size V W→∀ j v,(fol x')[j]? = some v→W.cell? ⟨gw,ow + F + j,none⟩ = some (.int .u64 v)):=Lib.hid (fun W hW j v hv=>by
           rw [← HFe.out,List.getElem?_drop] at hv
           rw [Nat.add_assoc]
           exact (hW.cell (p:=⟨gw,ow + (F + j),none⟩) (Nat.lt_of_lt_of_le hgw HSz.out)).trans (hcw _ _ hv))
          have HFw:Hid (∀ (j:Nat) (v:Int),(fol x')[j]? = some v→0 ≤ v∧v ≤ 18446744073709551615):=Lib.hid (fun j v hv=>HWd.out v (List.mem_of_mem_drop (by rw [HFe.out];exact List.mem_of_getElem? hv)));have HLn:Hid ((fol x').length = (wds x').length - F):=Lib.hid (by rw [← HFe.out,List.length_drop]);have hHp2:=Lib.hid (fun W (hW:Below V.heap.size V W)=>(HHp.out.keeps HI.out.kept).keeps (KeepsCells.below hW (Nat.le_refl _)));clear hcw hgw;have hN:(wds x').length - F ≤ 100000:=by omega
          gi_wp2_with (refine ⟨trivial,?_⟩;gi_at_call 133;refine (CallsIn.inRound l (callsIn_wide.2 HFx.out)).mono ?_;rintro e w' ⟨rfl,rfl⟩)
          generalize (wds x').length - F = nn at *;clear hlt hcn hci e3 rF hfn HFx
          gi_loopw [17,18,19,20,110] (fun _ _ _ _ a wr=>∃ j:Nat,a = .int .i64 j∧j ≤ nn∧Hid (∀ q v,q < j→(fol x')[q]? = some v→goodW m K b k v)∧Hid (Below V.heap.size V wr)) (fun _ _ _ _ a _=>nn - (intOf a).toNat)
          case atStart=>exact ⟨0,rfl,Nat.zero_le _,Lib.hid (fun q v h=>absurd h (Nat.not_lt_zero _)),HB7⟩
          case round =>
           obtain ⟨j,rfl,hj,HGj,HBj⟩:=hrel
           by_cases hlt:j < nn
           ·have rl:(j:Int) < (nn:Int):=by omega
            have rq:decide ((j:Int) < (nn:Int)) = true:=decide_eq_true rl;obtain ⟨v,hv⟩:∃ v,(fol x')[j]? = some v:=⟨_,List.getElem?_eq_getElem (by rw [HLn.out];exact hlt)⟩;have hcv:=HCell.out wr HBj.out j v hv;obtain ⟨v0,v1⟩:=HFw.out j v hv;have HVm:=Lib.hid (List.mem_of_getElem? hv);have HGn:Hid (goodW m K b k v→∀ q u,q < j + 1→(fol x')[q]? = some u→goodW m K b k u):=Lib.hid (fun h q u hq hu=>by
             by_cases hqj:q < j
             ·exact HGj.out q u hqj hu
             ·obtain rfl:q = j:=by omega
              rw [hv] at hu
              obtain rfl:=Option.some.inj hu
              exact h)
            have H115:=Lib.hid (term115 wr W6.heap.size (W3.heap.size + 1) m K (hHp2.out wr HBj.out) v v0 v1);clear hv
            gi_wp2
            refine ⟨trivial,(CallsIn.inRound l (callsIn_wide.2 H115.out)).mono ?_⟩;rintro e w' ⟨n5,rfl,tb,rfl,htb⟩;clear H115
            cases tb
            ·have HBad:Hid (¬ goodW m K b k v):=Lib.hid (fun h=>Bool.noConfusion (htb.2 h.1));clear htb;have HNo:Hid (¬ ∃ K,Sh m K):=Lib.hid (HNs.out (.inr ⟨v,HVm.out,HBad.out⟩));have HB9:=Lib.hid (below_drewN HBj.out n5);have HOw:=Lib.hid (HI.out.own.later HB9.out);obtain ⟨f0,f1,f2,f3,ff⟩:=four_cells HOw.out.hr;obtain ⟨e0,ef⟩:=one_cell HOw.out.hb
             gi_wp2
             exact HI.out.leave HB9.out HNo.out
            ·have HTm:Hid (Tm K v):=Lib.hid (htb.1 rfl);clear htb
             cases hpk:pOk v
             ·have HOk:Hid (goodW m K b k v):=Lib.hid ⟨HTm.out,fun h=>by rw [hpk] at h;exact Bool.noConfusion h⟩;have HPv:=Lib.hid (fun W=>Pointer v v0 v1 W);rw [hpk] at HPv;clear hpk;have HB9:=Lib.hid (below_drewN HBj.out n5);have hmc:=(three_cells (HI.out.own.later HB9.out).hm).2.2.1
              gi_wp2_with (refine ⟨trivial,?_⟩;gi_at_call 131;refine (CallsIn.inRound l (callsIn_wide.2 (HPv.out _))).mono ?_;rintro e w' ⟨rfl,rfl⟩)
              go_roundw
              case rel=>exact ⟨j + 1,by go_num,by omega,HGn.out HOk.out,HB9⟩
              case measure=>simp [intOf];omega
             ·cases hpo:pOld v
              ·have HPv:=Lib.hid (fun W=>Pointer v v0 v1 W);rw [hpk,hpo] at HPv
               cases b
               ·by_cases hka:(k:Int) < m.at_
                ·have qk:decide ((k:Int) < m.at_) = true:=decide_eq_true hka
                 by_cases hva:m.at_ ≤ pIx v
                 ·have qv:decide (m.at_ ≤ pIx v) = true:=decide_eq_true hva;have HBad:Hid (¬ goodW m K false k v):=Lib.hid (fun h=>by have:=(h.2 hpk hpo).2 hka;omega);clear hpk hpo hka hva;have HNo:Hid (¬ ∃ K,Sh m K):=Lib.hid (HNs.out (.inr ⟨v,HVm.out,HBad.out⟩));have HB9:=Lib.hid (below_drewN HBj.out n5);have HOw:=Lib.hid (HI.out.own.later HB9.out);obtain ⟨f0,f1,f2,f3,ff⟩:=four_cells HOw.out.hr;obtain ⟨e0,ef⟩:=one_cell HOw.out.hb;have hmc:=(three_cells HOw.out.hm).2.2.1
                  gi_wp2_with (refine ⟨trivial,?_⟩;gi_at_call 131;refine (CallsIn.inRound l (callsIn_wide.2 (HPv.out _))).mono ?_;rintro e w' ⟨rfl,rfl⟩)
                  exact HI.out.leave HB9.out HNo.out
                 ·have qv:decide (m.at_ ≤ pIx v) = false:=decide_eq_false hva;have HOk:Hid (goodW m K false k v):=Lib.hid ⟨HTm.out,fun _ _=>⟨rfl,fun _=>by omega⟩⟩;clear hpk hpo hka hva;have HB9:=Lib.hid (below_drewN HBj.out n5);have hmc:=(three_cells (HI.out.own.later HB9.out).hm).2.2.1
                  gi_wp2_with (refine ⟨trivial,?_⟩;gi_at_call 131;refine (CallsIn.inRound l (callsIn_wide.2 (HPv.out _))).mono ?_;rintro e w' ⟨rfl,rfl⟩)
                  go_roundw
                  case rel=>exact ⟨j + 1,by go_num,by omega,HGn.out HOk.out,HB9⟩
                  case measure=>simp [intOf];omega
                ·have qk:decide ((k:Int) < m.at_) = false:=decide_eq_false hka;have HOk:Hid (goodW m K false k v):=Lib.hid ⟨HTm.out,fun _ _=>⟨rfl,fun h=>absurd h hka⟩⟩;clear hpk hpo hka;have HB9:=Lib.hid (below_drewN HBj.out n5);have hmc:=(three_cells (HI.out.own.later HB9.out).hm).2.2.1
                 gi_wp2_with (refine ⟨trivial,?_⟩;gi_at_call 131;refine (CallsIn.inRound l (callsIn_wide.2 (HPv.out _))).mono ?_;rintro e w' ⟨rfl,rfl⟩)
                 go_roundw
                 case rel=>exact ⟨j + 1,by go_num,by omega,HGn.out HOk.out,HB9⟩
                 case measure=>simp [intOf];omega
               ·have HBad:Hid (¬ goodW m K true k v):=Lib.hid (fun h=>by have:=(h.2 hpk hpo).1;exact Bool.noConfusion this);clear hpk hpo;have HNo:Hid (¬ ∃ K,Sh m K):=Lib.hid (HNs.out (.inr ⟨v,HVm.out,HBad.out⟩));have HB9:=Lib.hid (below_drewN HBj.out n5);have HOw:=Lib.hid (HI.out.own.later HB9.out);obtain ⟨f0,f1,f2,f3,ff⟩:=four_cells HOw.out.hr;obtain ⟨e0,ef⟩:=one_cell HOw.out.hb;have hmc:=(three_cells HOw.out.hm).2.2.1
                gi_wp2_with (refine ⟨trivial,?_⟩;gi_at_call 131;refine (CallsIn.inRound l (callsIn_wide.2 (HPv.out _))).mono ?_;rintro e w' ⟨rfl,rfl⟩)
                exact HI.out.leave HB9.out HNo.out
              ·have HPv:=Lib.hid (fun W=>Pointer v v0 v1 W);rw [hpk,hpo] at HPv;have HOk:Hid (goodW m K b k v):=Lib.hid ⟨HTm.out,fun _ h=>by rw [hpo] at h;exact Bool.noConfusion h⟩;clear hpk hpo;have HB9:=Lib.hid (below_drewN HBj.out n5);have hmc:=(three_cells (HI.out.own.later HB9.out).hm).2.2.1
               gi_wp2_with (refine ⟨trivial,?_⟩;gi_at_call 131;refine (CallsIn.inRound l (callsIn_wide.2 (HPv.out _))).mono ?_;rintro e w' ⟨rfl,rfl⟩)
               go_roundw
               case rel=>exact ⟨j + 1,by go_num,by omega,HGn.out HOk.out,HB9⟩
               case measure=>simp [intOf];omega
           ·obtain rfl:j = nn:=by omega
            have rq:decide ((j:Int) < (j:Int)) = false:=decide_eq_false (by omega);have hgd:=HGw.out (fun v hv=>by
             obtain ⟨q,hq⟩:=List.getElem?_of_mem hv
             have:=(List.getElem?_eq_some_iff.1 hq).1
             exact HGj.out q v (by rw [← HLn.out];exact this) hq)
            have HEnd:=Lib.hid (HNext.out wr HBj.out hgd);clear hgd
            gi_wp2
            exact HEnd.out
         ·obtain rfl:F = (wds x').length:=by omega
          have hgd:=HGw.out (fun v hv=>by rw [← HFe.out,List.drop_length] at hv;simp at hv);have HEnd:=Lib.hid (HNext.out W7 HB7.out hgd);have hcn:(wds x').length ≤ cu:=by
           obtain ⟨_,_,e,h,_⟩:=HUu.out;cases e;exact h
          have e3:((wds x').length:Int) ≤ (cu:Int):=by omega
          clear hgd hlt hfn HFe HGw;generalize (wds x').length = nw at *
          gi_wp2_with (refine ⟨trivial,?_⟩;gi_at_call 133;refine (CallsIn.inRound l (callsIn_wide.2 HFx.out)).mono ?_;rintro e w' ⟨rfl,rfl⟩)
          all_goals
           gi_loopw [17,18,19,20,110] (fun _ _ _ _ a wr=>a = .int .i64 0∧Hid (wr = W7)) (fun _ _ _ _ _ _=>0)
           case atStart=>exact ⟨rfl,Lib.hid rfl⟩
           case round =>
            obtain ⟨rfl,hw⟩:=hrel;have HEnd2:Hid (_∧_):=Lib.hid (hw.out.symm ▸ HEnd.out);clear hw
            gi_wp2
            exact HEnd2.out
       case done =>
        rintro D W hD ⟨ho,hkp,hsz,hg⟩ hK;have HSh:Hid (Sh m K):=Lib.hid (sh_of_good HOb.out.1 HOb.out.2 l1 l2 HMm.out.1 HMm.out.2 HM2.out (fun p hp=>by
         obtain ⟨j,hj⟩:=List.getElem?_of_mem hp
         have:=hg j (List.getElem?_eq_some_iff.1 hj).1
         rwa [hj] at this))
        have HOw:=Lib.hid ho;have HKp:=Lib.hid hkp;have HWA':=Lib.hid (hkp _ _ HWA.out rfl);obtain ⟨f0,f1,f2,f3,ff⟩:=four_cells HOw.out.hr;obtain ⟨e0,ef⟩:=one_cell HOw.out.hb;obtain ⟨g0,g1,g2,g3,gf⟩:=four_cells HWA'.out;have HD:=Lib.hid hK;have HDl:=Lib.hid hD;clear ho hkp hsz hg hK hD
        gi_wp2
        refine ⟨by simp,.inl ⟨_,_,rfl,run_takeDeferred (done82 HOw.out HD.out (Nat.le_trans HRd.out.bl.size HDl.out) ⟨K,HSh.out⟩).1,?_⟩⟩;exact (done82 HOw.out HD.out (Nat.le_trans HRd.out.bl.size HDl.out) ⟨K,HSh.out⟩).2 _ rfl rfl
       case stop =>
        rintro D c i W hD ⟨rfl,hO⟩ hK
        gi_wp2
        refine ⟨by simp,.inl ⟨_,_,rfl,run_takeDeferred hK,?_⟩⟩;have hO2:=hO.grown (grownBy_putObj' W D (.deferred none)) (fun r e=>by cases e;exact ⟨_,hK,rfl⟩) (fun r e=>by cases e;exact Nat.le_trans HRd.out.bl.size hD);exact ⟨_,res82 _ _ _ _ _ _ _ _ _ rfl rfl hO2.c0 hO2.c1 hO2.c2 hO2.c3 hO2.c4,hO2.bl,_,_,_,_,_,_,_,_,_,_,_,_,false,rfl,by simp [hO2.no]⟩
     ·have q5:decide (m.at_ < (m.y.length:Int)) = false:=decide_eq_false hm2;have HM2:Hid (m.at_ < m.y.length→∃ x,At K.y m.at_.toNat x):=Lib.hid (fun h=>absurd h hm2);have HMm:Hid (0 ≤ m.at_∧m.at_ ≤ m.y.length):=Lib.hid ⟨by omega,by omega⟩;clear hk hm0 hm1 hm2
      gi_wp2
      refine ⟨trivial,(callsIn_wide.2 (pointers112 _ _)).mono ?_⟩;rintro e W6 ⟨rfl,hW6⟩;obtain ⟨HO6,HZc,HH6⟩:=ready82 HO5.out HA5.out hB H1.out H2.out HF1.out HF2.out HB45.out HOb.out.1 HOb.out.2 w1 w2 l1 l2 hW6;have HWA:Hid (W6.heap[W3.heap.size + 1]? = some _):=Lib.hid (blk_same HA5.out (by rw [hW6];exact (Below.refl _ _).alloc (Nat.le_refl _) _));have HF1':=Lib.hid (((HF1.out.below HB45.out (Nat.le_refl _)).more (Nat.le_trans HB45.out.size (Nat.le_refl _))));have HF2':=Lib.hid (((HF2.out.below HB45.out (Nat.le_refl _)).more (Nat.le_trans HB45.out.size (Nat.le_refl _))))
      have HB56:Hid (Below _ _ W6):=Lib.hid (by rw [hW6];exact (Below.refl _ _).alloc (Nat.le_refl _) _);clear hW6;have HRd:=Lib.hid HO6;have HHp:=Lib.hid HH6;have HZb:=Lib.hid HZc;clear HO6 HZc HH6 HO3 HO4 HA3 HA4 HA34 HB13 HB45 HA5 HA35 HF1 HF2;clear x0 x1 x2 xf y0 y1 yf t0 t1 tf r0 r1 r2 rf s0 s1 sf f0 f1 f2 f3 ff e0 ef;generalize (((W3.alloc _).alloc _).heap.size) = zc at *
      gi_wp2
      refine range_seq rfl (by decide) (gf:=185) (lb:=#[.pointer (some ⟨zc,0,none⟩)]) rfl trivial (enters_of Tryz.func185 (by kernel_rfl) rfl) (pointers135 4 W6.heap.size zc (W3.heap.size + 1) (by decide) m K) (fun h k=>h.trans k) KeepsCells.put (fun i=>rfl) (In82 m K w W6 (.slice _ m.y.length _) (.slice _ m.o.length _)) (Ox82 m w) (In82.own_from HRd.out.bl.size) (fun c=>Ox82.own_from HRd.out.bl.size c) (fun i V h=>⟨h.kept.cell HZb.out,HHp.out.keeps h.kept⟩) ⟨HRd.out,KeepsCells.refl _,Nat.le_refl _,fun j hj=>absurd hj (Nat.not_lt_zero _)⟩ ?round ?done ?stop;case round =>
       intro l i W V hI hi;have HI:=Lib.hid hI;have hHp:=HHp.out.keeps hI.kept;have hmem:(ptrs m K)[i]?.getD 0 ∈ ptrs m K:=by rw [List.getElem?_eq_getElem hi];exact List.getElem_mem hi
       have HNext:=Lib.hid (fun (V':World) (hb:Below V.heap.size V V')=>hI.next hb);clear hI;unfold ptrEnc;generalize (ptrs m K)[i]?.getD 0 = p at *;obtain ⟨b,k,x,hat,hpe⟩:=(ptrs_mem HOb.out.1 HOb.out.2).1 hmem;obtain ⟨hpt,hpo,hpi,hp0,hp1⟩:=ptrF_pt HOb.out.1 HOb.out.2 l1 l2 hat;rw [← hpe] at hpt hpo hpi hp0 hp1;have hpos:K.pos:=⟨HOb.out.1.pos,HOb.out.2.pos⟩;have hob:=hpt.ob hpos;have HGd:Hid ((okO x = true∧∀ v ∈ fol x,goodW m K b k v)→goodP m K p):=Lib.hid (by unfold goodP folB;rw [hob,hpo,hpi];exact id);have HNs:Hid ((okO x = false∨∃ v,v ∈ fol x∧¬ goodW m K b k v)→¬ ∃ K',Sh m K'):=Lib.hid (by
        rintro h ⟨K',hs⟩
        rw [HU.out K' hs] at hs
        have hg:=good_of_sh hs l1 l2 hmem
        unfold goodP folB at hg
        rw [hob,hpo,hpi] at hg
        rcases h with h | ⟨v,hv,h⟩
        ·rw [hg.1] at h;exact Bool.noConfusion h
        ·exact h (hg.2 v hv))
       have HPp:=Lib.hid (fun W=>Pointer p hp0 hp1 W);rw [hpo,hpi,hpt.1] at HPp;have H96:=Lib.hid (object96 V W6.heap.size (W3.heap.size + 1) m K hHp p hp0 hp1);have hobj:IsObj x:=by
        cases b
        ·exact HOb.out.1.2 x hat.mem
        ·exact HOb.out.2.2 x hat.mem
       have hkr:=knd_rng hobj;have HFe:=Lib.hid (fol_eq hobj);have hxl:(wds x).length ≤ 100000:=by
        have h1:=wds_len hobj;have h2:=hat.bound
        cases b
        ·have h2:k + x.length ≤ K.y.flatten.length:=h2;rw [HOb.out.1.1] at h2;omega
        ·have h2:k + x.length ≤ K.o.flatten.length:=h2;rw [HOb.out.2.1] at h2;omega
       have HWd:Hid (Wds (wds x)):=Lib.hid (by
        intro v hv
        cases b
        ·exact w1 v (by rw [← HOb.out.1.1];exact List.mem_flatten.2 ⟨x,hat.mem,wds_mem hv⟩)
        ·exact w2 v (by rw [← HOb.out.2.1];exact List.mem_flatten.2 ⟨x,hat.mem,wds_mem hv⟩))
       have HPt:=Lib.hid hpt;have HSz:=Lib.hid HI.out.sz;have HPU:Hid (∀ x',Pt K p x'→x' = x):=Lib.hid (fun x' h=>h.uniq hpos hpt);have HFm:Hid (∀ u,WAt V W6.heap.size u (wds x)→∀ n,Calls Tryz.prog 132 #[.int .i64 (knd x),u] (V.drewN n) fun e w'=>e = .returned (.bool (okO x))∧Below (V.drewN n).heap.size (V.drewN n) w'):=Lib.hid (fun u hu n=>formed113 (V.drewN n) W6.heap.size u (knd x) (wds x) HSz.out hu HWd.out hxl hkr.1 hkr.2);clear hmem hpe hpt hpo hpi hp0 hp1 hob hat hpos hHp hobj hkr hi
       gi_wp2
       refine ⟨trivial,?_⟩
       gi_wp2_with (refine ⟨trivial,?_⟩;gi_at_call 131;refine (CallsIn.inRound l (callsIn_wide.2 (HPp.out _))).mono ?_;rintro e w' ⟨rfl,rfl⟩)
       refine ⟨trivial,(CallsIn.inRound l (callsIn_wide.2 H96.out)).mono ?_⟩;rintro e w' ⟨n1,rfl,⟨x',u,hx',rfl,hu⟩ | ⟨hno,_⟩⟩
       rotate_left
       ·exact absurd ⟨x,HPt.out⟩ hno
       obtain rfl:=HPU.out x' hx';clear hx' H96;have HFm2:=Lib.hid (HFm.out u hu n1);obtain ⟨pu,cu,rfl,R⟩:=id hu;clear R;have HUu:=Lib.hid hu;clear hu HFm
       gi_wp2
       refine ⟨trivial,(CallsIn.inRound l (callsIn_wide.2 HFm2.out)).mono ?_⟩;rintro e W7 ⟨rfl,hb7⟩;have HB7:Hid (Below V.heap.size V W7):=Lib.hid ((below_drewN (Below.refl V.heap.size V) n1).trans (hb7.mono (Nat.le_refl _)));clear hb7 HFm2
       cases hok:okO x'
       ·have HNo:Hid (¬ ∃ K,Sh m K):=Lib.hid (HNs.out (.inl hok));have HOw:=Lib.hid (HI.out.own.later HB7.out);obtain ⟨f0,f1,f2,f3,ff⟩:=four_cells HOw.out.hr;obtain ⟨e0,ef⟩:=one_cell HOw.out.hb;clear hok
        gi_wp2
        exact HI.out.leave HB7.out HNo.out
       ·have HGw:Hid ((∀ v ∈ fol x',goodW m K b k v)→goodP m K p):=Lib.hid (fun h=>HGd.out ⟨hok,h⟩);have hfn:=fxd_le (knd x') (wds x').length;have HFx:=Lib.hid (fixed114 W7 pu (wds x').length cu (knd x'));obtain ⟨F,hF⟩:∃ F,fxd (knd x') (wds x').length = F:=⟨_,rfl⟩;rw [hF] at hfn HFx HFe;have rF:(F:Int) ≤ ((wds x').length:Int):=by omega
        clear hok hF HGd
        by_cases hlt:F < (wds x').length
        ·obtain ⟨gw,ow,rfl,hgw,hcw⟩:=RowAt.nth' HUu.out (by omega);have hcn:(wds x').length ≤ cu:=by
          obtain ⟨_,_,e,h,_⟩:=HUu.out;cases e;exact h
         have hci:¬ cu = F:=by omega
         have e3:(F:Int) ≤ (cu:Int):=by omega
         have HCell:Hid (∀ W,Below V.heap.size V W→∀ j v,(fol x')[j]? = some v→W.cell? ⟨gw,ow + F + j,none⟩ = some (.int .u64 v)):=Lib.hid (fun W hW j v hv=>by
          rw [← HFe.out,List.getElem?_drop] at hv
          rw [Nat.add_assoc]
          exact (hW.cell (p:=⟨gw,ow + (F + j),none⟩) (Nat.lt_of_lt_of_le hgw HSz.out)).trans (hcw _ _ hv))
         have HFw:Hid (∀ (j:Nat) (v:Int),(fol x')[j]? = some v→0 ≤ v∧v ≤ 18446744073709551615):=Lib.hid (fun j v hv=>HWd.out v (List.mem_of_mem_drop (by rw [HFe.out];exact List.mem_of_getElem? hv)));have HLn:Hid ((fol x').length = (wds x').length - F):=Lib.hid (by rw [← HFe.out,List.length_drop]);have hHp2:=Lib.hid (fun W (hW:Below V.heap.size V W)=>(HHp.out.keeps HI.out.kept).keeps (KeepsCells.below hW (Nat.le_refl _)));clear hcw hgw;have hN:(wds x').length - F ≤ 100000:=by omega
         gi_wp2_with (refine ⟨trivial,?_⟩;gi_at_call 133;refine (CallsIn.inRound l (callsIn_wide.2 HFx.out)).mono ?_;rintro e w' ⟨rfl,rfl⟩)
         generalize (wds x').length - F = nn at *;clear hlt hcn hci e3 rF hfn HFx
         gi_loopw [17,18,19,20,110] (fun _ _ _ _ a wr=>∃ j:Nat,a = .int .i64 j∧j ≤ nn∧Hid (∀ q v,q < j→(fol x')[q]? = some v→goodW m K b k v)∧Hid (Below V.heap.size V wr)) (fun _ _ _ _ a _=>nn - (intOf a).toNat)
         case atStart=>exact ⟨0,rfl,Nat.zero_le _,Lib.hid (fun q v h=>absurd h (Nat.not_lt_zero _)),HB7⟩
         case round =>
          obtain ⟨j,rfl,hj,HGj,HBj⟩:=hrel
          by_cases hlt:j < nn
          ·have rl:(j:Int) < (nn:Int):=by omega
           have rq:decide ((j:Int) < (nn:Int)) = true:=decide_eq_true rl;obtain ⟨v,hv⟩:∃ v,(fol x')[j]? = some v:=⟨_,List.getElem?_eq_getElem (by rw [HLn.out];exact hlt)⟩;have hcv:=HCell.out wr HBj.out j v hv;obtain ⟨v0,v1⟩:=HFw.out j v hv;have HVm:=Lib.hid (List.mem_of_getElem? hv);have HGn:Hid (goodW m K b k v→∀ q u,q < j + 1→(fol x')[q]? = some u→goodW m K b k u):=Lib.hid (fun h q u hq hu=>by
            by_cases hqj:q < j
            ·exact HGj.out q u hqj hu
            ·obtain rfl:q = j:=by omega
             rw [hv] at hu
             obtain rfl:=Option.some.inj hu
             exact h)
           have H115:=Lib.hid (term115 wr W6.heap.size (W3.heap.size + 1) m K (hHp2.out wr HBj.out) v v0 v1);clear hv
           gi_wp2
           refine ⟨trivial,(CallsIn.inRound l (callsIn_wide.2 H115.out)).mono ?_⟩;rintro e w' ⟨n5,rfl,tb,rfl,htb⟩;clear H115
           cases tb
           ·have HBad:Hid (¬ goodW m K b k v):=Lib.hid (fun h=>Bool.noConfusion (htb.2 h.1));clear htb;have HNo:Hid (¬ ∃ K,Sh m K):=Lib.hid (HNs.out (.inr ⟨v,HVm.out,HBad.out⟩));have HB9:=Lib.hid (below_drewN HBj.out n5);have HOw:=Lib.hid (HI.out.own.later HB9.out);obtain ⟨f0,f1,f2,f3,ff⟩:=four_cells HOw.out.hr;obtain ⟨e0,ef⟩:=one_cell HOw.out.hb
            gi_wp2
            exact HI.out.leave HB9.out HNo.out
           ·have HTm:Hid (Tm K v):=Lib.hid (htb.1 rfl);clear htb
            cases hpk:pOk v
            ·have HOk:Hid (goodW m K b k v):=Lib.hid ⟨HTm.out,fun h=>by rw [hpk] at h;exact Bool.noConfusion h⟩;have HPv:=Lib.hid (fun W=>Pointer v v0 v1 W);rw [hpk] at HPv;clear hpk;have HB9:=Lib.hid (below_drewN HBj.out n5);have hmc:=(three_cells (HI.out.own.later HB9.out).hm).2.2.1
             gi_wp2_with (refine ⟨trivial,?_⟩;gi_at_call 131;refine (CallsIn.inRound l (callsIn_wide.2 (HPv.out _))).mono ?_;rintro e w' ⟨rfl,rfl⟩)
             go_roundw
             case rel=>exact ⟨j + 1,by go_num,by omega,HGn.out HOk.out,HB9⟩
             case measure=>simp [intOf];omega
            ·cases hpo:pOld v
             ·have HPv:=Lib.hid (fun W=>Pointer v v0 v1 W);rw [hpk,hpo] at HPv
              cases b
              ·by_cases hka:(k:Int) < m.at_
               ·have qk:decide ((k:Int) < m.at_) = true:=decide_eq_true hka
                by_cases hva:m.at_ ≤ pIx v
                ·have qv:decide (m.at_ ≤ pIx v) = true:=decide_eq_true hva;have HBad:Hid (¬ goodW m K false k v):=Lib.hid (fun h=>by have:=(h.2 hpk hpo).2 hka;omega);clear hpk hpo hka hva;have HNo:Hid (¬ ∃ K,Sh m K):=Lib.hid (HNs.out (.inr ⟨v,HVm.out,HBad.out⟩));have HB9:=Lib.hid (below_drewN HBj.out n5);have HOw:=Lib.hid (HI.out.own.later HB9.out);obtain ⟨f0,f1,f2,f3,ff⟩:=four_cells HOw.out.hr;obtain ⟨e0,ef⟩:=one_cell HOw.out.hb;have hmc:=(three_cells HOw.out.hm).2.2.1
                 gi_wp2_with (refine ⟨trivial,?_⟩;gi_at_call 131;refine (CallsIn.inRound l (callsIn_wide.2 (HPv.out _))).mono ?_;rintro e w' ⟨rfl,rfl⟩)
                 exact HI.out.leave HB9.out HNo.out
                ·have qv:decide (m.at_ ≤ pIx v) = false:=decide_eq_false hva;have HOk:Hid (goodW m K false k v):=Lib.hid ⟨HTm.out,fun _ _=>⟨rfl,fun _=>by omega⟩⟩;clear hpk hpo hka hva;have HB9:=Lib.hid (below_drewN HBj.out n5);have hmc:=(three_cells (HI.out.own.later HB9.out).hm).2.2.1
                 gi_wp2_with (refine ⟨trivial,?_⟩;gi_at_call 131;refine (CallsIn.inRound l (callsIn_wide.2 (HPv.out _))).mono ?_;rintro e w' ⟨rfl,rfl⟩)
                 go_roundw
                 case rel=>exact ⟨j + 1,by go_num,by omega,HGn.out HOk.out,HB9⟩
                 case measure=>simp [intOf];omega
               ·have qk:decide ((k:Int) < m.at_) = false:=decide_eq_false hka;have HOk:Hid (goodW m K false k v):=Lib.hid ⟨HTm.out,fun _ _=>⟨rfl,fun h=>absurd h hka⟩⟩;clear hpk hpo hka;have HB9:=Lib.hid (below_drewN HBj.out n5);have hmc:=(three_cells (HI.out.own.later HB9.out).hm).2.2.1
                gi_wp2_with (refine ⟨trivial,?_⟩;gi_at_call 131;refine (CallsIn.inRound l (callsIn_wide.2 (HPv.out _))).mono ?_;rintro e w' ⟨rfl,rfl⟩)
                go_roundw
                case rel=>exact ⟨j + 1,by go_num,by omega,HGn.out HOk.out,HB9⟩
                case measure=>simp [intOf];omega
              ·have HBad:Hid (¬ goodW m K true k v):=Lib.hid (fun h=>by have:=(h.2 hpk hpo).1;exact Bool.noConfusion this);clear hpk hpo;have HNo:Hid (¬ ∃ K,Sh m K):=Lib.hid (HNs.out (.inr ⟨v,HVm.out,HBad.out⟩));have HB9:=Lib.hid (below_drewN HBj.out n5);have HOw:=Lib.hid (HI.out.own.later HB9.out);obtain ⟨f0,f1,f2,f3,ff⟩:=four_cells HOw.out.hr;obtain ⟨e0,ef⟩:=one_cell HOw.out.hb;have hmc:=(three_cells HOw.out.hm).2.2.1
               gi_wp2_with (refine ⟨trivial,?_⟩;gi_at_call 131;refine (CallsIn.inRound l (callsIn_wide.2 (HPv.out _))).mono ?_;rintro e w' ⟨rfl,rfl⟩)
               exact HI.out.leave HB9.out HNo.out
             ·have HPv:=Lib.hid (fun W=>Pointer v v0 v1 W);rw [hpk,hpo] at HPv;have HOk:Hid (goodW m K b k v):=Lib.hid ⟨HTm.out,fun _ h=>by rw [hpo] at h;exact Bool.noConfusion h⟩;clear hpk hpo;have HB9:=Lib.hid (below_drewN HBj.out n5);have hmc:=(three_cells (HI.out.own.later HB9.out).hm).2.2.1
              gi_wp2_with (refine ⟨trivial,?_⟩;gi_at_call 131;refine (CallsIn.inRound l (callsIn_wide.2 (HPv.out _))).mono ?_;rintro e w' ⟨rfl,rfl⟩)
              go_roundw
              case rel=>exact ⟨j + 1,by go_num,by omega,HGn.out HOk.out,HB9⟩
              case measure=>simp [intOf];omega
          ·obtain rfl:j = nn:=by omega
           have rq:decide ((j:Int) < (j:Int)) = false:=decide_eq_false (by omega);have hgd:=HGw.out (fun v hv=>by
            obtain ⟨q,hq⟩:=List.getElem?_of_mem hv
            have:=(List.getElem?_eq_some_iff.1 hq).1
            exact HGj.out q v (by rw [← HLn.out];exact this) hq)
           have HEnd:=Lib.hid (HNext.out wr HBj.out hgd);clear hgd
           gi_wp2
           exact HEnd.out
        ·obtain rfl:F = (wds x').length:=by omega
         have hgd:=HGw.out (fun v hv=>by rw [← HFe.out,List.drop_length] at hv;simp at hv);have HEnd:=Lib.hid (HNext.out W7 HB7.out hgd);have hcn:(wds x').length ≤ cu:=by
          obtain ⟨_,_,e,h,_⟩:=HUu.out;cases e;exact h
         have e3:((wds x').length:Int) ≤ (cu:Int):=by omega
         clear hgd hlt hfn HFe HGw;generalize (wds x').length = nw at *
         gi_wp2_with (refine ⟨trivial,?_⟩;gi_at_call 133;refine (CallsIn.inRound l (callsIn_wide.2 HFx.out)).mono ?_;rintro e w' ⟨rfl,rfl⟩)
         all_goals
          gi_loopw [17,18,19,20,110] (fun _ _ _ _ a wr=>a = .int .i64 0∧Hid (wr = W7)) (fun _ _ _ _ _ _=>0)
          case atStart=>exact ⟨rfl,Lib.hid rfl⟩
          case round =>
           obtain ⟨rfl,hw⟩:=hrel;have HEnd2:Hid (_∧_):=Lib.hid (hw.out.symm ▸ HEnd.out);clear hw
           gi_wp2
           exact HEnd2.out
      case done =>
       rintro D W hD ⟨ho,hkp,hsz,hg⟩ hK;have HSh:Hid (Sh m K):=Lib.hid (sh_of_good HOb.out.1 HOb.out.2 l1 l2 HMm.out.1 HMm.out.2 HM2.out (fun p hp=>by
        obtain ⟨j,hj⟩:=List.getElem?_of_mem hp
        have:=hg j (List.getElem?_eq_some_iff.1 hj).1
        rwa [hj] at this))
       have HOw:=Lib.hid ho;have HKp:=Lib.hid hkp;have HWA':=Lib.hid (hkp _ _ HWA.out rfl);obtain ⟨f0,f1,f2,f3,ff⟩:=four_cells HOw.out.hr;obtain ⟨e0,ef⟩:=one_cell HOw.out.hb;obtain ⟨g0,g1,g2,g3,gf⟩:=four_cells HWA'.out;have HD:=Lib.hid hK;have HDl:=Lib.hid hD;clear ho hkp hsz hg hK hD
       gi_wp2
       refine ⟨by simp,.inl ⟨_,_,rfl,run_takeDeferred (done82 HOw.out HD.out (Nat.le_trans HRd.out.bl.size HDl.out) ⟨K,HSh.out⟩).1,?_⟩⟩;exact (done82 HOw.out HD.out (Nat.le_trans HRd.out.bl.size HDl.out) ⟨K,HSh.out⟩).2 _ rfl rfl
      case stop =>
       rintro D c i W hD ⟨rfl,hO⟩ hK
       gi_wp2
       refine ⟨by simp,.inl ⟨_,_,rfl,run_takeDeferred hK,?_⟩⟩;have hO2:=hO.grown (grownBy_putObj' W D (.deferred none)) (fun r e=>by cases e;exact ⟨_,hK,rfl⟩) (fun r e=>by cases e;exact Nat.le_trans HRd.out.bl.size hD);exact ⟨_,res82 _ _ _ _ _ _ _ _ _ rfl rfl hO2.c0 hO2.c1 hO2.c2 hO2.c3 hO2.c4,hO2.bl,_,_,_,_,_,_,_,_,_,_,_,_,false,rfl,by simp [hO2.no]⟩
  ·have HNo:Hid (¬ ∃ K,Sh m K):=Lib.hid (fun ⟨K,h⟩=>hn2 ⟨K.o,h.o⟩);clear hn2 HX2 HX1 ho1 hf1
   gi_wp2
   exact no82 HO5.out HNo.out _ rfl rfl
 ·have HNo:Hid (¬ ∃ K,Sh m K):=Lib.hid (fun ⟨K,h⟩=>hn1 ⟨K.y,h.y⟩);clear hn1 HX1 HX2
  gi_wp2
  exact no82 HO5.out HNo.out _ rfl rfl
theorem shape50 (w:World) (B:Nat) (v1 v2:Value) (m:Mm) (hB:B ≤ w.heap.size) (h1:WAt w B v1 m.y) (h2:WAt w B v2 m.o) (w1:Wds m.y) (w2:Wds m.o) (l1:m.y.length ≤ 100000) (l2:m.o.length ≤ 100000) :
 Calls Tryz.prog 12 #[.agg #[v1,v2,.int .i64 m.at_]] w (ShapePost m w):=by
 have HS:=Lib.hid (fun W (hb:Below w.heap.size w W)=>shape82 W B v1 v2 m (Nat.le_trans hB hb.size) (h1.below hb hB) (h2.below hb hB) w1 w2 l1 l2);obtain ⟨p1,c1,rfl,_⟩:=id h1;obtain ⟨p2,c2,rfl,_⟩:=id h2;rename_i R1 R2;clear R1 R2 h1 h2;have hb0:Below w.heap.size w (w.alloc (.cells #[.slice p1 m.y.length c1,.slice p2 m.o.length c2,.int .i64 m.at_] 24)):=(Below.refl _ _).alloc (Nat.le_refl _) _;have HB0:=Lib.hid hb0;clear hb0;unfold Shape82 at HS;go_enter Tryz.func12,Tryz.ntmps12;go_wp2_with fail;refine (HS.out _ HB0.out).mono ?_;rintro e W2 ⟨hb2,q1,n1,d1,q2,n2,d2,q3,n3,d3,q4,n4,d4,r,rfl,hr⟩
 have HB2:=Lib.hid (HB0.out.trans (hb2.mono HB0.out.size));have HB3:=Lib.hid (HB2.out.alloc HB2.out.size (.cells #[.slice q1 n1 d1,.slice q2 n2 d2,.slice q3 n3 d3,.slice q4 n4 d4] 110));have HR:=Lib.hid hr;clear hb2 hr HB0 HS;go_wp2_with fail;go_ret;exact ⟨r,rfl,HR.out,HB3.out⟩
end cl
namespace hp
open Go.RowKit mem words rec tm
abbrev stN (N:List ByteArray):St:=⟨[],N,[],0,0⟩
def Pre (w0:World) (a b:Nat) (N:List ByteArray) (W:World):Prop:=Below w0.heap.size w0 W∧∃ m p cc m1 m2,names.Tab W a N m p cc∧Sto W b [] 0 0 m1 m2 ∧
 (∀ k,names.foot a m p k→w0.heap.size ≤ k∧¬ sfoot b m1 m2 k)∧(∀ k,sfoot b m1 m2 k→w0.heap.size ≤ k)
theorem Pre.start {w0 w1 w2:World} {a m b m1 m2:Nat} (h1:names.Tab w1 a [] m none 0) (h2:w0.heap.size ≤ a) (h3:w0.heap.size ≤ m) (h4:Below w0.heap.size w0 w1)
 (k1:Sto w2 b [] 0 0 m1 m2) (k2:w1.heap.size ≤ b) (k3:w1.heap.size ≤ m1) (k4:w1.heap.size ≤ m2) (k5:Below w1.heap.size w1 w2):Pre w0 a b [] w2:=by
 have fo:∀ k,names.foot a m none k→k = a∨k = m:=by
  rintro k (h | h | ⟨p,hp,_⟩)
  ·exact .inl h
  ·exact .inr h
  ·exact absurd hp (by simp)
 have hs:=h4.size
 refine ⟨h4.trans (k5.mono h4.size),m,none,0,m1,m2,h1.same fun k hk=>k5.block k (h1.lt k hk),k1,fun k hk=>⟨?_,fun hq=>?_⟩,fun k hk=>?_⟩
 ·rcases fo k hk with rfl | rfl
  ·exact h2
  ·exact h3
 ·have:=h1.lt k hk;rcases hq with h | h | h <;> omega
 ·rcases hk with h | h | h <;> omega
theorem Pre.put {w0 W:World} {a b:Nat} {N:List ByteArray} (h:Pre w0 a b N W) (s:ByteArray) (hN:N.length < 1000000) :
 Calls Tryz.prog 16 #[.pointer (some ⟨a,0,none⟩),.string s] W fun e w'=>(∃ x y,e = .returned (.tuple #[.int .i64 x,.int .i64 y]))∧Pre w0 a b (names.putL N s) w':=by
 obtain ⟨hb,m,p,cc,m1,m2,hT,hS,d1,d2⟩:=h;refine (names.Put W a N m p cc hT s hN).mono ?_;rintro e w' ⟨rfl,p',c',hT',ht,hf⟩;have hsz:=hb.size;refine ⟨⟨_,_,rfl⟩,hb.trans (ht.below (fun k hk=>(d1 k hk).1) hb.size),m,p',c',m1,m2,hT',hS.same fun k hk=>ht.block k (hS.lt k hk) (fun q=>(d1 k q).2 hk),fun k hk=>?_,d2⟩
 rcases hf k hk with h | h
 ·exact d1 k h
 ·exact ⟨by omega,fun q=>by have:=hS.lt k q;omega⟩
def KS (w0:World) (z a b:Nat) (σ:St) (L:List (Nat × Array Value)) (W:World):Prop:=∃ S,HQ W w0.heap.size z a b 100 σ S∧Below w0.heap.size w0 W∧∀ x ∈ L,W.heap[x.1]? = some (.cells x.2 38)∧¬ S x.1
theorem Pre.heap {w0 W:World} {a b:Nat} {N:List ByteArray} (h:Pre w0 a b N W) :
 Calls Tryz.prog 17 #[.pointer (some ⟨a,0,none⟩),.pointer (some ⟨b,0,none⟩),.int .i64 100] W fun e w'=>∃ z,e = .returned (.pointer (some ⟨z,0,none⟩))∧KS w0 z a b (stN N) [] w':=by
 obtain ⟨hb,m,p,cc,m1,m2,hT,hS,d1,d2⟩:=h;refine (heap17 W a b 100 (by omega) (by omega)).mono ?_;rintro e w' ⟨z,rfl,hb',hA⟩;have hz:=hA.hz;have hsz:=hb.size;have hbk:∀ k,HB z (.slice none 0 0) (.slice none 0 0) k→k = z:=by
  rintro k (h | h | h)
  ·exact h
  ·simp [Value.ownBlock] at h
  ·simp [Value.ownBlock] at h
 refine ⟨z,rfl,fun k=>HB z (.slice none 0 0) (.slice none 0 0) k∨names.foot a m p k∨sfoot b m1 m2 k,⟨.slice none 0 0,.slice none 0 0,m,p,cc,m1,m2,⟨?_,?_,?_,fun k=>Iff.rfl,?_,?_,?_,?_,?_,?_⟩⟩,hb.trans (hb'.mono hb.size),fun x hx=>by simp at hx⟩
 ·exact ⟨hA.blk,RecOwn.nil _ _ _,RecOwn.nil _ _ _,by omega⟩
 ·exact hT.same fun k hk=>hb'.block k (hT.lt k hk)
 ·exact hS.below hb'
 ·intro k h1 h2;have:=hbk k h1;have:=hT.lt k h2;omega
 ·intro k h1 h2;have:=hbk k h1;have:=hS.lt k h2;omega
 ·exact fun k h1 h2=>(d1 k h1).2 h2
 ·rintro k (h | h | h)
  ·have:=hbk k h;omega
  ·exact (d1 k h).1
  ·exact d2 k h
 ·exact ⟨List.nodup_nil,List.nodup_nil,fun e he=>by simp at he⟩
 ·intro o ho;simp at ho
section
variable {w0 W W':World} {z a b:Nat} {σ σ':St} {L:List (Nat × Array Value)}
theorem KS.below (h:KS w0 z a b σ L W) (hb:Below W.heap.size W W'):KS w0 z a b σ L W':=by
 obtain ⟨S,hq,h0,hL⟩:=h;exact ⟨S,hq.below hb,h0.trans (hb.mono h0.size),fun x hx=>⟨(hb.block x.1 (Array.getElem?_eq_some_iff.1 (hL x hx).1).1).trans (hL x hx).1,(hL x hx).2⟩⟩
theorem KS.alloc (h:KS w0 z a b σ L W) (C:Array Value):KS w0 z a b σ ((W.heap.size,C) :: L) (W.alloc (.cells C 38)):=by
 obtain ⟨S,hq,h0,hL⟩:=h.below (belowA (Below.refl _ W) (.cells C 38));obtain ⟨S1,hq1,_,hL1⟩:=h;refine ⟨S1,hq1.below (belowA (Below.refl _ W) _),h0,fun x hx=>?_⟩
 rcases List.mem_cons.1 hx with rfl | hx
 ·exact ⟨heap_alloc_new W _,fun q=>Nat.lt_irrefl _ (hq1.lt _ q)⟩
 ·exact ⟨(hL x hx).1,(hL1 x hx).2⟩
theorem KS.alloc' (h:KS w0 z a b σ L W) (C:Array Value) (t:TypeId):KS w0 z a b σ L (W.alloc (.cells C t)):=h.below (belowA (Below.refl _ W) _)
theorem KS.blk (h:KS w0 z a b σ L W) {x:Nat} {C:Array Value} (hx:(x,C) ∈ L):W.heap[x]? = some (.cells C 38):=by
 obtain ⟨S,hq,h0,hL⟩:=h;exact (hL _ hx).1
theorem KS.low (h:KS w0 z a b σ L W):Below w0.heap.size w0 W:=by
 obtain ⟨S,hq,h0,hL⟩:=h;exact h0
theorem KS.step {R:Ending→Prop} {f:FuncId} {args:Array Value} (h:KS w0 z a b σ L W) (hc:∀ S,HQ W w0.heap.size z a b 100 σ S→(∀ x ∈ L,W.heap[x.1]? = some (.cells x.2 38)∧¬ S x.1)→Calls Tryz.prog f args W fun e w'=>R e∧StepQ w0.heap.size z a b 100 S W σ' w') :
 Calls Tryz.prog f args W fun e w'=>R e∧KS w0 z a b σ' L w':=by
 obtain ⟨S,hq,h0,hL⟩:=h;refine (hc S hq hL).mono ?_;rintro e w' ⟨hR,S',hq',ht,hc'⟩;refine ⟨hR,S',hq',h0.trans (ht.below (fun k hk=>hq.low k hk) h0.size),fun x hx=>?_⟩;have hlt:=(Array.getElem?_eq_some_iff.1 (hL x hx).1).1;exact ⟨(ht.block x.1 hlt (hL x hx).2).trans (hL x hx).1,fun q=>(hL x hx).2 (hc' _ q hlt)⟩
theorem KS.put (h:KS w0 z a b σ L W) {n:Nat} {t:Tm (n + 1)} {v:Value} {u:Int} (e:putO (n + 1) t σ = (u,σ')) (hI:∀ S:Nat→Prop,(∀ x ∈ L,W.heap[x.1]? = some (.cells x.2 38)∧¬ S x.1)→ItemsIn W (fun g=>¬ S g∧g < W.heap.size) n v t.items)
 (hv:validT t = true) (hr:rngT (n + 1) t) (hs:nodesT t ≤ 1000) (hY:σ.Y.length ≤ 1000) (hN:¬ 100 - (σ.Y.length:Int) < needT (n + 1) t) (hcap:Cap σ (nodesT t) (needT (n + 1) t)) :
 Calls Tryz.prog 18 #[.pointer (some ⟨z,0,none⟩),aggV t.f v] W fun e w'=>e = .returned (.tuple #[.int .u64 u,.int .i64 0])∧KS w0 z a b σ' L w':=by
 refine h.step fun S hq hL=>?_;have:=put18y hq (by omega) (by omega) (by omega) v t (hI S hL) hr (by omega) hv hN hcap;rw [e] at this;exact this
theorem KS.bits (h:KS w0 z a b σ L W) {s:ByteArray} {n m u:Int} (e:bitsO s n σ = (u,σ')) (hB:BitsOk s n) (hm:(if 512 < n then (4:Int) else 2 + (n + 63) / 64) = m) (hY:σ.Y.length ≤ 1000) (hR:¬ 100 - (σ.Y.length:Int) < m) (hcap:Cap σ 1 m) :
 Calls Tryz.prog 22 #[.pointer (some ⟨z,0,none⟩),.agg #[.string s,.int .i64 n]] W fun e w'=>e = .returned (.tuple #[.int .u64 u,.int .i64 0])∧KS w0 z a b σ' L w':=by
 refine h.step fun S hq hL=>?_;have:=bits22 hq (by omega) (by omega) (by omega) s n hB hm hR hcap;rw [e] at this;exact this
theorem KS.used (h:KS w0 z a b σ L W) {k:Int} (hk:(σ.Y.length:Int) = k) (hY:σ.Y.length ≤ 1000):Calls Tryz.prog 19 #[.pointer (some ⟨z,0,none⟩)] W fun e w'=>e = .returned (.int .i64 k)∧KS w0 z a b σ L w':=by
 obtain ⟨S,hq,h0,hL⟩:=id h;exact (usedQ hq (by omega)).mono fun e w' hh=>⟨hk ▸ hh.1,h.below hh.2⟩
theorem KS.count (h:KS w0 z a b σ L W) {i:Nat} {q:Int} {s:ByteArray} {n:Int} (he:σ.E[i]? = some (q,s,n)):Calls Tryz.prog 23 #[.pointer (some ⟨b,0,none⟩),.int .i64 q] W fun e w'=>e = .returned (.int .i64 n)∧KS w0 z a b σ L w':=by
 obtain ⟨S,hq,h0,hL⟩:=id h;obtain ⟨vY,vF,m,p,cc,m1,m2,hx⟩:=hq;exact (count23 hx.sto hx.we he).mono fun e w' hh=>⟨hh.1,hh.2 ▸ h⟩
theorem KS.partA (h:KS w0 z a b σB L W):Calls Tryz.prog 24 #[.pointer (some ⟨z,0,none⟩),.int .u64 (ptrW 2 false 9),.int .i64 8,.int .i64 520] W fun e w'=>e = .returned (.tuple #[.int .u64 (ptrW 2 false 13),.int .i64 0])∧KS w0 z a b σC L w':=by
 refine h.step fun S hq hL=>?_;have:=part24a hq (by omega) (by omega) (by rw [len_B];omega) (ptrW_ok (.inr rfl) (by omega) (by omega)) pt_B9 (by kernel_rfl) (id:=1) (i1:=0) (N:=600) (by kernel_rfl) (by omega) (by omega) (by omega) (by omega) (by omega) (by omega) (f:=8) (n:=520) (by omega) (by omega) (by omega) (i:=0) (s:=zeros) (cnt:=1) rfl (by omega) (by omega) (by rw [len_B];decide);rw [show (0:Int) + 8 = 8 from rfl,putKC] at this;exact this
theorem KS.partB (h:KS w0 z a b σC L W):Calls Tryz.prog 24 #[.pointer (some ⟨z,0,none⟩),.int .u64 (ptrW 2 false 9),.int .i64 0,.int .i64 512] W fun e w'=>e = .returned (.tuple #[.int .u64 (ptrW 2 false 17),.int .i64 0])∧KS w0 z a b σD L w':=by
 refine h.step fun S hq hL=>?_;have:=part24b hq (by omega) (by omega) (by rw [len_C];omega) (ptrW_ok (.inr rfl) (by omega) (by omega)) pt_C9 (by kernel_rfl) (id:=1) (N:=600) (n:=512) (by kernel_rfl) (by omega) (by omega) (by omega) (by omega) (s:=zeros) (cnt:=2) (by simp [σC,stK]) bits600 (by omega) (by rw [len_C];decide);rw [show (((512:Nat):Nat):Int) = 512 from rfl,putKD] at this;exact this
theorem KS.head (h:KS w0 z a b σD L W):Calls Tryz.prog 25 #[.pointer (some ⟨z,0,none⟩),.int .u64 (ptrW 2 false 6)] W fun e w'=>e = .returned (.tuple #[.int .u64 0,.bool false])∧KS w0 z a b σD L w':=by
 obtain ⟨S,hq,h0,hL⟩:=id h;exact (head25 hq (by rw [len_D];omega) (ptrW_ok (.inr rfl) (by omega) (by omega)) pt_D6 (by kernel_rfl)).mono fun e w' hh=>⟨hh.1,h.below hh.2⟩
theorem KS.mem (h:KS w0 z a b σD L W):Calls Tryz.prog 26 #[.pointer (some ⟨z,0,none⟩)] W fun e w'=>∃ p1 k1 p2 k2,e = .returned (.agg #[.slice p1 27 k1,.slice p2 0 k2,.int .i64 0])∧KS w0 z a b σD L w'∧RecOwn encW 40 1 w' W.heap.size (.slice p1 27 k1) σD.Y∧RecOwn encW 40 1 w' W.heap.size (.slice p2 0 k2) []:=by
 obtain ⟨S,hq,h0,hL⟩:=id h;refine (mem26 hq (by rw [len_D];omega)).mono ?_;rintro e w' ⟨v1,v2,rfl,o1,o2,hb⟩;obtain ⟨p1,k1,rfl,_⟩:=o1.shape;obtain ⟨p2,k2,rfl,_⟩:=o2.shape;exact ⟨p1,k1,p2,k2,rfl,h.below hb,o1,o2⟩
theorem KS.shape (h:KS w0 z a b σD L W) {B1:Nat} {p1 p2:Option Addr} {k1 k2:Nat} (o1:RecOwn encW 40 1 W B1 (.slice p1 27 k1) σD.Y) (o2:RecOwn encW 40 1 W B1 (.slice p2 0 k2) []) :
 Calls Tryz.prog 12 #[.agg #[.slice p1 27 k1,.slice p2 0 k2,.int .i64 0]] W fun e w'=>e = .returned (.bool true)∧KS w0 z a b σD L w':=by
 obtain ⟨S,hq,h0,hL⟩:=id h;obtain ⟨vY,vF,m,p,cc,m1,m2,hx⟩:=hq;have hwd:cl.Wds σD.Y:=fun x hx'=>by
  obtain ⟨o,ho,hxo⟩:=List.mem_flatten.1 hx';exact (hx.pos o ho).2 x hxo
 refine (cl.shape50 W W.heap.size _ _ ⟨σD.Y,[],0⟩ (Nat.le_refl _) (row_words (o1.row (encW_ok _))) (row_words (o2.row (encW_ok _))) hwd (fun x hx=>by simp at hx) (by rw [len_D];omega) (by simp)).mono ?_;rintro e w' ⟨r,rfl,hr,hb⟩;have:=hr.2 ⟨_,sh_D (fun o ho=>(hx.pos o ho).1)⟩;exact ⟨by rw [this],h.below hb⟩
theorem KS.getN (h:KS w0 z a b σD L W):Calls Tryz.prog 29 #[.pointer (some ⟨z,0,none⟩),.int .u64 (ptrW 1 false 7)] W fun e w'=>e = .returned (.tuple #[flatT 0 0,.int .i64 6])∧KS w0 z a b σD L w':=by
 obtain ⟨S,hq,h0,hL⟩:=id h;have ok:=ptrW_ok (tag:=1) (i:=7) (.inl rfl) (by omega) (by omega);exact (get29n hq (by rw [len_D];omega) ok.1 ok.2.1 odd_no).mono fun e w' hh=>⟨hh.1,h.below hh.2⟩
abbrev cL:Array Value:=#[.int .i64 1,.int .i64 1,.int .i64 0,.string ⟨#[]⟩,.string ⟨#[]⟩,.int .i64 0,.slice none 0 0,.string ⟨#[]⟩,.int .i64 0,.int .i64 1,.int .i64 2,.int .i64 0,.string ⟨#[]⟩,.string ⟨#[]⟩,.int .i64 0,.slice none 0 0,.string ⟨#[]⟩,.int .i64 0,.int .i64 8,.int .i64 0,.int .i64 0,.string ⟨#[]⟩,.string ⟨#[]⟩,.int .i64 0,.slice none 0 0,.string ⟨#[]⟩,.int .i64 0]
abbrev cP:Array Value:=#[.int .i64 2,.int .i64 0,.int .i64 0,.string ⟨#[97]⟩,.string ⟨#[]⟩,.int .i64 0,.slice none 0 0,.string ⟨#[]⟩,.int .i64 0,.int .i64 1,.int .i64 1152921504606846976,.int .i64 0,.string ⟨#[]⟩,.string ⟨#[]⟩,.int .i64 0,.slice none 0 0,.string ⟨#[]⟩,.int .i64 0]
theorem cells_of {g o:Nat} {f:TF} {v:Value} {C:Array Value} (h:W.heap[g]? = some (.cells C 38)) (hc:∀ k,k < 9→C[o + k]? = (C9f f v)[k]?):Cells W g o f v:=by
 have e:∀ k,k < 9→W.cell? ⟨g,o + k,none⟩ = (C9f f v)[k]?:=fun k hk=>(cell_of_blk h).trans (hc k hk);exact ⟨e 0 (by omega),e 1 (by omega),e 2 (by omega),e 3 (by omega),e 4 (by omega),e 5 (by omega),e 6 (by omega),e 7 (by omega),e 8 (by omega)⟩
theorem nine {P:Nat→Prop} (h0:P 0) (h1:P 1) (h2:P 2) (h3:P 3) (h4:P 4) (h5:P 5) (h6:P 6) (h7:P 7) (h8:P 8):∀ k,k < 9→P k:=fun k hk=>by
 have:k = 0∨k = 1∨k = 2∨k = 3∨k = 4∨k = 5∨k = 6∨k = 7∨k = 8:=by omega
 rcases this with rfl | rfl | rfl | rfl | rfl | rfl | rfl | rfl | rfl <;> assumption
theorem items_L {x:Nat} {F:Nat→Prop} (h:W.heap[x]? = some (.cells cL 38)) (hF:F x):ItemsIn W F 1 (.slice (some ⟨x,0,none⟩) 3 3) lL:=by
 refine ⟨_,3,rfl,Nat.le_refl _,by unfold maxLen;omega,fun _=>⟨x,0,rfl,hF,fun j hj=>?_⟩⟩;have hn:ItemsIn W F 0 (Value.slice none 0 0) ([]:List (Tm 0)):=⟨none,0,rfl,by unfold maxLen;omega⟩;have:j = 0∨j = 1∨j = 2:=by
  have:j < 3:=hj;omega
 rcases this with rfl | rfl | rfl
 ·exact ⟨_,cells_of (f:=fK 1 1) h (nine rfl rfl rfl rfl rfl rfl rfl rfl rfl),hn⟩
 ·exact ⟨_,cells_of (f:=fK 1 2) h (nine rfl rfl rfl rfl rfl rfl rfl rfl rfl),hn⟩
 ·exact ⟨_,cells_of (f:=fK 8 0) h (nine rfl rfl rfl rfl rfl rfl rfl rfl rfl),hn⟩
theorem items_P {x:Nat} {F:Nat→Prop} (h:W.heap[x]? = some (.cells cP 38)) (hF:F x):ItemsIn W F 1 (.slice (some ⟨x,0,none⟩) 2 2) lP:=by
 refine ⟨_,2,rfl,Nat.le_refl _,by unfold maxLen;omega,fun _=>⟨x,0,rfl,hF,fun j hj=>?_⟩⟩;have hn:ItemsIn W F 0 (Value.slice none 0 0) ([]:List (Tm 0)):=⟨none,0,rfl,by unfold maxLen;omega⟩;have:j = 0∨j = 1:=by
  have:j < 2:=hj;omega
 rcases this with rfl | rfl
 ·exact ⟨_,cells_of (f:=fA) h (nine rfl rfl rfl rfl rfl rfl rfl rfl rfl),hn⟩
 ·exact ⟨_,cells_of (f:=fK 1 1152921504606846976) h (nine rfl rfl rfl rfl rfl rfl rfl rfl rfl),hn⟩
theorem rng_1 {t:Tm 1} (h:-9223372036854775808 ≤ t.f.int∧t.f.int ≤ 9223372036854775807) (hi:t.items = []):rngT 1 t:=⟨h,fun x hx=>by rw [hi] at hx;cases hx⟩
theorem rng_L:rngT 2 tL:=by
 refine ⟨⟨by decide,by decide⟩,fun x hx=>?_⟩;have:x = tK 1 1∨x = tK 1 2∨x = tK 8 0:=by
  have hx':x ∈ lL:=hx;simpa [lL] using hx'
 rcases this with rfl | rfl | rfl <;> exact rng_1 ⟨by decide,by decide⟩ rfl
theorem rng_P:rngT 2 tP:=by
 refine ⟨⟨by decide,by decide⟩,fun x hx=>?_⟩;have:x = tA∨x = tK 1 1152921504606846976:=by
  have hx':x ∈ lP:=hx;simpa [lP] using hx'
 rcases this with rfl | rfl <;> exact rng_1 ⟨by decide,by decide⟩ rfl
theorem KS.put1 {O:List (List Int)} (h:KS w0 z a b (stK O [] 0 0) L W) {t:Tm 1} {u:Int} (e:putO 1 t (stK O [] 0 0) = (u,stK O [] 0 0)) (hv:validT t = true) (hr:-9223372036854775808 ≤ t.f.int∧t.f.int ≤ 9223372036854775807) (hi:t.items = []) (hn:needT 1 t = 0) (hY:O.flatten.length ≤ 90) :
 Calls Tryz.prog 18 #[.pointer (some ⟨z,0,none⟩),aggV t.f (.slice none 0 0)] W fun e w'=>e = .returned (.tuple #[.int .u64 u,.int .i64 0])∧KS w0 z a b (stK O [] 0 0) L w':=by
 have hs:nodesT t = 1:=by unfold nodesT;rw [hi];rfl
 refine h.put e (fun S hL=>?_) hv (rng_1 hr hi) (by omega) (by show O.flatten.length ≤ 1000;omega) (by rw [hn];show ¬ 100 - (O.flatten.length:Int) < 0;omega) (by rw [hn,hs];exact cap_of (by omega) (by omega) (by omega) (by omega) (by omega) (by omega) (fun x hx=>by simp at hx));rw [hi];exact ⟨none,0,rfl,by unfold maxLen;omega⟩
theorem KS.putL (h:KS w0 z a b σA L W) {x:Nat} (hx:(x,cL) ∈ L):Calls Tryz.prog 18 #[.pointer (some ⟨z,0,none⟩),aggV tL.f (.slice (some ⟨x,0,none⟩) 3 3)] W fun e w'=>e = .returned (.tuple #[.int .u64 17,.int .i64 0])∧KS w0 z a b σL L w' :=
 h.put putKL (fun S hL=>items_L (hL _ hx).1 ⟨(hL _ hx).2,(Array.getElem?_eq_some_iff.1 (hL _ hx).1).1⟩) valid_L rng_L (by decide) (by rw [len_A];omega) (by rw [len_A];decide) (cap_of (by decide) (by decide) (by omega) (by decide) (by omega) (by decide) (fun x hx=>by simp at hx))
theorem KS.putP (h:KS w0 z a b σL L W) {x:Nat} (hx:(x,cP) ∈ L):Calls Tryz.prog 18 #[.pointer (some ⟨z,0,none⟩),aggV tP.f (.slice (some ⟨x,0,none⟩) 2 2)] W fun e w'=>e = .returned (.tuple #[.int .u64 (ptrW 2 false 6),.int .i64 0])∧KS w0 z a b σP L w' :=
 h.put putKP (fun S hL=>items_P (hL _ hx).1 ⟨(hL _ hx).2,(Array.getElem?_eq_some_iff.1 (hL _ hx).1).1⟩) valid_P rng_P (by decide) (by rw [len_L];omega) (by rw [len_L];decide) (cap_of (by decide) (by decide) (by omega) (by decide) (by omega) (by decide) (fun x hx=>by simp at hx))
theorem KS.needP (h:KS w0 z a b σP L W) {x:Nat} (hx:(x,cP) ∈ L):Calls Tryz.prog 21 #[.pointer (some ⟨z,0,none⟩),aggV tP.f (.slice (some ⟨x,0,none⟩) 2 2)] W fun e w'=>e = .returned (.int .i64 5)∧KS w0 z a b σP L w':=by
 have hI:=items_P (F:=fun g=>g < W.heap.size) (h.blk hx) (Array.getElem?_eq_some_iff.1 (h.blk hx)).1;have:=need21 (some ⟨z,0,none⟩) W _ tP (hI.toAt fun g hg=>hg) rng_P (by decide);rw [valid_P,if_pos rfl,show needT 2 tP = 5 from by decide] at this;exact this.mono fun e w' hh=>⟨hh.1,h.below hh.2⟩
end
end hp
end Go.Proofs.YtpnlnbolhkcnjaaGreat
