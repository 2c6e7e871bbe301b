/- HrQ,HrR,HrS. No condition beyond theirs. -/
import Derived.Test.YtpnlnbolhkcnjaaGreatK33
set_option linter.unusedSimpArgs false
set_option linter.unusedVariables false
set_option maxHeartbeats 4000000
set_option maxRecDepth 100000
namespace Go.Proofs.YtpnlnbolhkcnjaaGreat.hp
open Go.RowKit mem words rec tm
structure GetEl (w:World) (z:Nat) (ws:List Int) (fs:Nat→TF) (Q:Nat→World→(Nat→Prop)→Value→Prop):Prop where
 keep:∀ j W W' (F F':Nat→Prop) u,Q j W F u→(∀ g,F g→W'.heap[g]? = W.heap[g]?)→(∀ g,F g→F' g)→Q j W' F' u
 one:∀ j W F u,Q j W F u→∃ p m c,u = .slice p m c
 get:∀ j x,ws[j]? = some x→∀ W,Below w.heap.size w W→Calls Tryz.prog 86 #[.pointer (some ⟨z,0,none⟩),.int .u64 x] W fun e w'=>∃ u,e = .returned (aggV (fs j) u)∧Q j w' (fun g=>W.heap.size ≤ g∧g < w'.heap.size) u∧Below W.heap.size W w'
structure RowsI (B0:Nat) (fs:Nat→TF) (Q:Nat→World→(Nat→Prop)→Value→Prop) (W:World) (v:Value) (j:Nat) (rows:List (TF × Value)):Prop where
 own:RecOwn encR 38 9 W B0 v rows
 len:rows.length = j
 el:∀ i q,rows[i]? = some q→q.1 = fs i∧Q i W (fun g=>B0 ≤ g∧g < W.heap.size∧v.ownBlock ≠ some g) q.2
theorem RowsI.start (B0:Nat) (fs:Nat→TF) (Q:Nat→World→(Nat→Prop)→Value→Prop) (W:World):RowsI B0 fs Q W (.slice none 0 0) 0 [] :=
 ⟨RecOwn.nil _ _ _,rfl,fun i q h=>by simp at h⟩
abbrev rowO (f:TF) (u:Value):Obj:=.cells (C9f f u) 38
section
variable {w:World} {z B0:Nat} {ws:List Int} {fs:Nat→TF} {Q:Nat→World→(Nat→Prop)→Value→Prop} {W W1:World} {v:Value} {j:Nat} {rows:List (TF × Value)} {u:Value}
theorem RowsI.next (hE:GetEl w z ws fs Q) (h:RowsI B0 fs Q W v j rows) (hb:Below W.heap.size W W1) (hB:B0 ≤ W.heap.size) (hu:Q j W1 (fun g=>W.heap.size ≤ g∧g < W1.heap.size) u) {v':Value} {w':World}
 (hA:AppR encR 38 9 (W1.alloc (rowO (fs j) u)) B0 v rows [(fs j,u)] v' w'):RowsI B0 fs Q w' v' (j + 1) (rows ++ [(fs j,u)])∧Below B0 W w':=by
 have hba:Below W1.heap.size W1 (W1.alloc (rowO (fs j) u)):=belowA (Below.refl _ W1) _;have hb2:=hb.trans (hba.mono hb.size);have hs1:=hb.size;have hs2:(W1.alloc (rowO (fs j) u)).heap.size = W1.heap.size + 1:=World.size_alloc _ _;have hs3:=hA.grown.size;have hbw:Below B0 W w':=hA.belowB (hb2.mono hB) (by omega) (fun k hk=>(h.own.lt hk).1);have hnew:∀ g,g < W1.heap.size→v.ownBlock ≠ some g→w'.heap[g]? = W1.heap[g]?∧v'.ownBlock ≠ some g:=fun g hg hn=>by
  refine ⟨(hA.other (by omega) hn).trans (heap_alloc_old W1 _ hg),fun e=>?_⟩
  rcases hA.at_ with q | q
  ·exact hn (q ▸ e)
  ·rw [q] at e;have:=Option.some.inj e;omega
 refine ⟨⟨hA.own,by simp [h.len],fun i q hq=>?_⟩,hbw⟩
 by_cases hi:i < rows.length
 ·rw [List.getElem?_append_left hi] at hq;obtain ⟨q1,q2⟩:=h.el i q hq
  refine ⟨q1,hE.keep i W w' _ _ _ q2 (fun g hg=>?_) (fun g hg=>?_)⟩
  ·exact (hnew g (by omega) hg.2.2).1.trans (hb.block g hg.2.1)
  ·exact ⟨hg.1,by omega,(hnew g (by omega) hg.2.2).2⟩
 ·have hij:i = j:=by
   have:=(List.getElem?_eq_some_iff.1 hq).1;rw [List.length_append,List.length_singleton] at this;have:=h.len;omega
  subst hij;have e:(rows ++ [(fs i,u)])[i]? = some (fs i,u):=by
   rw [List.getElem?_append_right (by omega),h.len];simp
  rw [e] at hq;obtain rfl:=Option.some.inj hq;have hne:∀ g,W.heap.size ≤ g→v.ownBlock ≠ some g:=fun g hg e=>by
   have:=(h.own.lt e).2;omega
  exact ⟨rfl,hE.keep i W1 w' _ _ _ hu (fun g hg=>(hnew g hg.2 (hne g hg.1)).1) (fun g hg=>⟨by omega,by omega,(hnew g hg.2 (hne g hg.1)).2⟩)⟩
theorem RowsI.set (hE:GetEl w z ws fs Q) (h:RowsI B0 fs Q W v j rows) {g:Nat} (hg:g < B0) (c:Array Value):RowsI B0 fs Q (W.setRow g c) v j rows:=by
 refine ⟨h.own.same fun k hk=>setRow_other _ _ _ _ (by have:=(h.own.lt hk).1;omega),h.len,fun i q hq=>?_⟩;obtain ⟨q1,q2⟩:=h.el i q hq;exact ⟨q1,hE.keep i W _ _ _ _ q2 (fun k hk=>setRow_other _ _ _ _ (by have:=hk.1;omega)) (fun k hk=>⟨hk.1,by simpa using hk.2.1,hk.2.2⟩)⟩
theorem RowsI.below (hE:GetEl w z ws fs Q) (h:RowsI B0 fs Q W v j rows) (hb:Below W.heap.size W W1):RowsI B0 fs Q W1 v j rows:=by
 refine ⟨h.own.below hb,h.len,fun i q hq=>?_⟩;obtain ⟨q1,q2⟩:=h.el i q hq;exact ⟨q1,hE.keep i W _ _ _ _ q2 (fun k hk=>hb.block k hk.2.1) (fun k hk=>⟨hk.1,Nat.lt_of_lt_of_le hk.2.1 hb.size,hk.2.2⟩)⟩
end
section
variable {w:World} {B z a b:Nat} {c:Int} {σ:St} {S:Nat→Prop}
end
section
variable {w:World} {B z a b:Nat} {c:Int} {σ:St} {S:Nat→Prop}
end
end Go.Proofs.YtpnlnbolhkcnjaaGreat.hp
