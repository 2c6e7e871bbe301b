/- Several texts in one, one behind the other: LwD. No condition beyond theirs. -/
import Derived.Test.YthgfdpamnepnfaaGr
/- Two terms are lent in one statement. Conditions: as said. -/
namespace Go.Proofs.Ythgfdpamnepnfaa.tm
open Go.RowKit mem names
set_option linter.unusedVariables false
set_option linter.unusedSimpArgs false
set_option maxHeartbeats 2000000
set_option maxRecDepth 100000

theorem alloc_z1 (W w' : World) (h : Below (W.alloc (cells9 zeroF nilV)).heap.size (W.alloc (cells9 zeroF nilV)) w') : w'.heap[W.heap.size]? = some (cells9 zeroF nilV) ∧ W.heap.size < w'.heap.size := by
  have h1 := (MapKept.heap_alloc W (cells9 zeroF nilV)).1
  have hs := h.size
  rw [← h.block W.heap.size (by simp)] at h1
  exact ⟨h1, by simp at hs; omega⟩
theorem alloc_z2 (W w' : World) (h : Below ((W.alloc (cells9 zeroF nilV)).alloc (cells9 zeroF nilV)).heap.size ((W.alloc (cells9 zeroF nilV)).alloc (cells9 zeroF nilV)) w') : (w'.heap[W.heap.size]? = some (cells9 zeroF nilV) ∧ W.heap.size < w'.heap.size) ∧ (w'.heap[W.heap.size + 1]? = some (cells9 zeroF nilV) ∧ W.heap.size + 1 < w'.heap.size) := by
  have h1 := (MapKept.heap_alloc W (cells9 zeroF nilV)).1
  have h2 := (MapKept.heap_alloc (W.alloc (cells9 zeroF nilV)) (cells9 zeroF nilV)).1
  have h3 : ((W.alloc (cells9 zeroF nilV)).alloc (cells9 zeroF nilV)).heap[W.heap.size]? = some (cells9 zeroF nilV) := by rw [Below.heap_alloc _ _ _ (by simp)]; exact h1
  have hs := h.size
  rw [← h.block W.heap.size (by simp; omega)] at h3
  have h2' : ((W.alloc (cells9 zeroF nilV)).alloc (cells9 zeroF nilV)).heap[W.heap.size + 1]? = some (cells9 zeroF nilV) := by simpa using h2
  rw [← h.block (W.heap.size + 1) (by simp)] at h2'
  simp at hs
  exact ⟨⟨h3, by omega⟩, ⟨h2', by omega⟩⟩
theorem zkeep {w w' : World} {z : Nat} (h : w.heap[z]? = some (cells9 zeroF nilV) ∧ z < w.heap.size) (hb : Below w.heap.size w w') : w'.heap[z]? = some (cells9 zeroF nilV) ∧ z < w'.heap.size :=
  ⟨(hb.block z h.2).trans h.1, Nat.lt_of_lt_of_le h.2 hb.size⟩
theorem below_z1 (W w' : World) (h : Below (W.alloc (cells9 zeroF nilV)).heap.size (W.alloc (cells9 zeroF nilV)) w') : Below W.heap.size W w' :=
  Below.trans ((Below.refl _ W).alloc (Nat.le_refl _) (cells9 zeroF nilV)) (h.mono (by simp))
theorem below_z2 (W w' : World) (h : Below ((W.alloc (cells9 zeroF nilV)).alloc (cells9 zeroF nilV)).heap.size ((W.alloc (cells9 zeroF nilV)).alloc (cells9 zeroF nilV)) w') : Below W.heap.size W w' :=
  below_z1 W w' (Below.trans ((Below.refl _ (W.alloc (cells9 zeroF nilV))).alloc (Nat.le_refl _) (cells9 zeroF nilV)) (h.mono (by simp)))
theorem keep_alloc {w : World} {o : Obj} {a : Addr} {v : Value} (h : w.cell? a = some v) : (w.alloc o).cell? a = some v := (World.cell?_alloc_some w a o (by rw [h]; rfl)).trans h
theorem keep_drew {w : World} {a : Addr} {v : Value} (h : w.cell? a = some v) : w.drew.cell? a = some v := h
theorem keep_set {w : World} {p a : Addr} {u v : Value} (hne : a.block ≠ p.block) (h : w.cell? a = some v) : (w.setCell p u).cell? a = some v :=
  (World.cell?_of_block (w := w) (Below.heap_setCell _ _ _ _ hne)).trans h
theorem undrew {w w' : World} (h : Below w.drew.heap.size w.drew w') : Below w.heap.size w w' := ⟨h.os, h.tape, h.output, h.size, h.block⟩
theorem redrew {w w' : World} (h : Below w.heap.size w w') : Below w.drew.heap.size w.drew w' := ⟨h.os, h.tape, h.output, h.size, h.block⟩
theorem undrew2 {B : Nat} {w w' : World} (h : Below B w w') : Below B w w'.drew := ⟨h.os, h.tape, h.output, h.size, h.block⟩
theorem nine_new (W : World) (o : Obj) (z : Nat) (f : TF) (v : Value) (ho : o = cells9 f v) (hz : z = W.heap.size) : Nine (W.alloc o) z f v := by
  subst ho; subst hz; exact nine_of (MapKept.heap_alloc W (cells9 f v)).1
theorem nine_kalloc {W : World} {o : Obj} {z : Nat} {f : TF} {v : Value} (h : Nine W z f v) (hz : z < W.heap.size) : Nine (W.alloc o) z f v :=
  h.below ((Below.refl _ W).alloc (Nat.le_refl _) o) hz
theorem nine_kset {W : World} {p : Addr} {u : Value} {z : Nat} {f : TF} {v : Value} (h : Nine W z f v) (hne : z ≠ p.block) : Nine (W.setCell p u) z f v := by
  have hh : (W.setCell p u).heap[z]? = W.heap[z]? := Below.heap_setCell _ _ _ _ hne
  have c : ∀ o, (W.setCell p u).cell? ⟨z, o, none⟩ = W.cell? ⟨z, o, none⟩ := fun o => World.cell?_of_block (w := W) (a := ⟨z, o, none⟩) hh
  have g : ∀ o, (W.setCell p u).frozen? ⟨z, o, none⟩ = W.frozen? ⟨z, o, none⟩ := fun o => World.frozen?_of_block (w := W) (a := ⟨z, o, none⟩) hh
  exact ⟨(c _).trans h.c0, (c _).trans h.c1, (c _).trans h.c2, (c _).trans h.c3, (c _).trans h.c4, (c _).trans h.c5, (c _).trans h.c6, (c _).trans h.c7, (c _).trans h.c8, fun o => (g o).trans (h.fz o)⟩
theorem heap_kset {W : World} {p : Addr} {u : Value} {z : Nat} {o : Obj} (h : W.heap[z]? = some o) (hne : z ≠ p.block) : (W.setCell p u).heap[z]? = some o :=
  (Below.heap_setCell _ _ _ _ hne).trans h
theorem touch_sets {S : Nat → Prop} {w W : World} {y : Nat} (g : TF) (u : Value) (h : TouchB S w W) (hS : S y) : TouchB S w (((((((((W.setCell ⟨y, 0, none⟩ (.int .i64 g.kind)).setCell ⟨y, 1, none⟩ (.int .i64 g.int)).setCell ⟨y, 2, none⟩ (.int .i64 g.gen)).setCell ⟨y, 3, none⟩ (.string g.name)).setCell ⟨y, 4, none⟩ (.string g.func)).setCell ⟨y, 5, none⟩ (.int .i64 g.arity)).setCell ⟨y, 6, none⟩ u).setCell ⟨y, 7, none⟩ (.string g.bytes)).setCell ⟨y, 8, none⟩ (.int .i64 g.bits)) :=
  ((((((((h.setCell _ _ (fun _ => hS)).setCell _ _ (fun _ => hS)).setCell _ _ (fun _ => hS)).setCell _ _ (fun _ => hS)).setCell _ _ (fun _ => hS)).setCell _ _ (fun _ => hS)).setCell _ _ (fun _ => hS)).setCell _ _ (fun _ => hS)).setCell _ _ (fun _ => hS)
theorem nine_ksets {W : World} {y : Nat} (g : TF) (u : Value) {z : Nat} {f : TF} {v : Value} (h : Nine W z f v) (hne : z ≠ y) : Nine (((((((((W.setCell ⟨y, 0, none⟩ (.int .i64 g.kind)).setCell ⟨y, 1, none⟩ (.int .i64 g.int)).setCell ⟨y, 2, none⟩ (.int .i64 g.gen)).setCell ⟨y, 3, none⟩ (.string g.name)).setCell ⟨y, 4, none⟩ (.string g.func)).setCell ⟨y, 5, none⟩ (.int .i64 g.arity)).setCell ⟨y, 6, none⟩ u).setCell ⟨y, 7, none⟩ (.string g.bytes)).setCell ⟨y, 8, none⟩ (.int .i64 g.bits)) z f v :=
  nine_kset (nine_kset (nine_kset (nine_kset (nine_kset (nine_kset (nine_kset (nine_kset (nine_kset h hne) hne) hne) hne) hne) hne) hne) hne) hne
theorem heap_ksets {W : World} {y : Nat} (g : TF) (u : Value) {z : Nat} {o : Obj} (h : W.heap[z]? = some o) (hne : z ≠ y) : (((((((((W.setCell ⟨y, 0, none⟩ (.int .i64 g.kind)).setCell ⟨y, 1, none⟩ (.int .i64 g.int)).setCell ⟨y, 2, none⟩ (.int .i64 g.gen)).setCell ⟨y, 3, none⟩ (.string g.name)).setCell ⟨y, 4, none⟩ (.string g.func)).setCell ⟨y, 5, none⟩ (.int .i64 g.arity)).setCell ⟨y, 6, none⟩ u).setCell ⟨y, 7, none⟩ (.string g.bytes)).setCell ⟨y, 8, none⟩ (.int .i64 g.bits)).heap[z]? = some o :=
  heap_kset (heap_kset (heap_kset (heap_kset (heap_kset (heap_kset (heap_kset (heap_kset (heap_kset h hne) hne) hne) hne) hne) hne) hne) hne) hne
theorem below_sets {B : Nat} {w W : World} {y : Nat} (g : TF) (u : Value) (h : Below B w W) (hS : B ≤ y) : Below B w (((((((((W.setCell ⟨y, 0, none⟩ (.int .i64 g.kind)).setCell ⟨y, 1, none⟩ (.int .i64 g.int)).setCell ⟨y, 2, none⟩ (.int .i64 g.gen)).setCell ⟨y, 3, none⟩ (.string g.name)).setCell ⟨y, 4, none⟩ (.string g.func)).setCell ⟨y, 5, none⟩ (.int .i64 g.arity)).setCell ⟨y, 6, none⟩ u).setCell ⟨y, 7, none⟩ (.string g.bytes)).setCell ⟨y, 8, none⟩ (.int .i64 g.bits)) :=
  ((((((((h.setCell hS _).setCell hS _).setCell hS _).setCell hS _).setCell hS _).setCell hS _).setCell hS _).setCell hS _).setCell hS _
theorem size_sets {W : World} {y : Nat} (g : TF) (u : Value) : (((((((((W.setCell ⟨y, 0, none⟩ (.int .i64 g.kind)).setCell ⟨y, 1, none⟩ (.int .i64 g.int)).setCell ⟨y, 2, none⟩ (.int .i64 g.gen)).setCell ⟨y, 3, none⟩ (.string g.name)).setCell ⟨y, 4, none⟩ (.string g.func)).setCell ⟨y, 5, none⟩ (.int .i64 g.arity)).setCell ⟨y, 6, none⟩ u).setCell ⟨y, 7, none⟩ (.string g.bytes)).setCell ⟨y, 8, none⟩ (.int .i64 g.bits)).heap.size = W.heap.size := by simp
theorem lent_final {n : Nat} {X w3 Y : World} {B : Nat} {F : Nat → Prop} {v0 v : Value} {l : List (Tm n)} (h : LentNew X w3 B F n v0 v l) (ht : TouchB (fun k => ¬ (X.heap.size ≤ k ∧ k < w3.heap.size) ∧ B ≤ k) w3 Y) (hB : B ≤ X.heap.size) : LentW Y B n v0 v l := by
  have hX := h.below.size
  refine ⟨F, fun g hg => Nat.lt_of_lt_of_le (h.inr g hg).2 ht.size, h.items.mono (fun g hg => ht.block g (h.inr g hg).2 (fun hn => hn.1 (h.inr g hg))) (fun g hg => ht.block g (by omega) (fun hn => by have := hn.2; omega)) (fun _ h => h), by have := ht.size; omega⟩
theorem lent_final2 {n : Nat} {X w3 w4 Y : World} {B : Nat} {F : Nat → Prop} {v0 v : Value} {l : List (Tm n)} (h : LentNew X w3 B F n v0 v l) (hw : Below w3.heap.size w3 w4) (ht : TouchB (fun k => ¬ (X.heap.size ≤ k ∧ k < w3.heap.size) ∧ B ≤ k) w4 Y) (hB : B ≤ X.heap.size) : LentW Y B n v0 v l :=
  lent_final h (((TouchB.refl _ w3).ofBelow hw (Nat.le_refl _)).trans ht (fun _ _ h => h)) hB
def LRes {n : Nat} (B : Nat) (x : TF) (m : Nat) (u : Value) (l : List (Tm n)) (W : World) (e : Ending) (w' : World) : Prop := ∃ F p' c', e = .returned (aggV x (.slice p' m c')) ∧ LentNew W w' B F n u (.slice p' m c') l
def TwoRel {n : Nat} (w : World) (x y : TF) (V1 V2 : Value) (m1 m2 : Nat) (u1 u2 : Value) (l1 l2 : List (Tm n)) (x5 x6 : Value) (wc : World) : Prop :=
  ∃ z5 z6 p3 c3 p4 c4, x5 = .pointer (some ⟨z5, 0, none⟩) ∧ x6 = .pointer (some ⟨z6, 0, none⟩) ∧ Nine wc z5 x (.slice p3 m1 c3) ∧ Nine wc z6 y (.slice p4 m2 c4) ∧ LentW wc w.heap.size n u1 (.slice p3 m1 c3) l1 ∧ LentW wc w.heap.size n u2 (.slice p4 m2 c4) l2 ∧ Nine wc w.heap.size x V1 ∧ Nine wc (w.heap.size + 1) y V2 ∧ z5 < wc.heap.size ∧ z6 < wc.heap.size ∧ w.heap.size + 1 < wc.heap.size ∧ Below w.heap.size w wc
end Go.Proofs.Ythgfdpamnepnfaa.tm
