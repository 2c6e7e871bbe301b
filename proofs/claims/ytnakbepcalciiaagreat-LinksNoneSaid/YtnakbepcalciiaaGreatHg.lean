/- Several texts in one, one behind the other: LkBx. No condition beyond theirs. -/
import Derived.Test.YtnakbepcalciiaaGreatHf
import Derived.Deep.RegionHeld3
/- Boxes of a call in a region that draws its order. No condition. -/
namespace Go.Proofs.YtnakbepcalciiaaGreat.lk
open Go.RowKit mem rec tm names pm
set_option linter.unusedVariables false
set_option linter.unusedSimpArgs false
set_option maxHeartbeats 1000000
theorem blk_newz {W : World} {o : Obj} {z : Nat} (hz : z = W.heap.size) : (W.alloc o).heap[z]? = some o := by subst hz; exact alloc_new W o
theorem blk_al {W : World} {o : Obj} {z : Nat} (h : W.heap[z]? = some o) (o' : Obj) : (W.alloc o').heap[z]? = some o := by
  rw [Below.heap_alloc _ _ _ (Array.getElem?_eq_some_iff.1 h).1]; exact h
theorem belowAA {w0 w : World} (h : Below w0.heap.size w0 w) (o : Obj) : Below w0.heap.size w0 (w.alloc o) := belowA h o h.size
theorem belowCC {w0 w w' : World} (h : Below w0.heap.size w0 w) (hb : Below w.heap.size w w') : Below w0.heap.size w0 w' := h.trans (hb.mono h.size)
theorem st9_0 {w : World} {g : Nat} {a0 a1 a2 a3 a4 a5 a6 a7 a8 b : Value} {t : TypeId} (h : w.heap[g]? = some (.cells #[a0, a1, a2, a3, a4, a5, a6, a7, a8] t)) : (w.setCell ⟨g, 0, none⟩ b).heap[g]? = some (.cells #[b, a1, a2, a3, a4, a5, a6, a7, a8] t) := heap_setCell_same w g 0 _ t b h
theorem st9_1 {w : World} {g : Nat} {a0 a1 a2 a3 a4 a5 a6 a7 a8 b : Value} {t : TypeId} (h : w.heap[g]? = some (.cells #[a0, a1, a2, a3, a4, a5, a6, a7, a8] t)) : (w.setCell ⟨g, 1, none⟩ b).heap[g]? = some (.cells #[a0, b, a2, a3, a4, a5, a6, a7, a8] t) := heap_setCell_same w g 1 _ t b h
theorem st9_2 {w : World} {g : Nat} {a0 a1 a2 a3 a4 a5 a6 a7 a8 b : Value} {t : TypeId} (h : w.heap[g]? = some (.cells #[a0, a1, a2, a3, a4, a5, a6, a7, a8] t)) : (w.setCell ⟨g, 2, none⟩ b).heap[g]? = some (.cells #[a0, a1, b, a3, a4, a5, a6, a7, a8] t) := heap_setCell_same w g 2 _ t b h
theorem st9_3 {w : World} {g : Nat} {a0 a1 a2 a3 a4 a5 a6 a7 a8 b : Value} {t : TypeId} (h : w.heap[g]? = some (.cells #[a0, a1, a2, a3, a4, a5, a6, a7, a8] t)) : (w.setCell ⟨g, 3, none⟩ b).heap[g]? = some (.cells #[a0, a1, a2, b, a4, a5, a6, a7, a8] t) := heap_setCell_same w g 3 _ t b h
theorem st9_4 {w : World} {g : Nat} {a0 a1 a2 a3 a4 a5 a6 a7 a8 b : Value} {t : TypeId} (h : w.heap[g]? = some (.cells #[a0, a1, a2, a3, a4, a5, a6, a7, a8] t)) : (w.setCell ⟨g, 4, none⟩ b).heap[g]? = some (.cells #[a0, a1, a2, a3, b, a5, a6, a7, a8] t) := heap_setCell_same w g 4 _ t b h
theorem st9_5 {w : World} {g : Nat} {a0 a1 a2 a3 a4 a5 a6 a7 a8 b : Value} {t : TypeId} (h : w.heap[g]? = some (.cells #[a0, a1, a2, a3, a4, a5, a6, a7, a8] t)) : (w.setCell ⟨g, 5, none⟩ b).heap[g]? = some (.cells #[a0, a1, a2, a3, a4, b, a6, a7, a8] t) := heap_setCell_same w g 5 _ t b h
theorem st9_6 {w : World} {g : Nat} {a0 a1 a2 a3 a4 a5 a6 a7 a8 b : Value} {t : TypeId} (h : w.heap[g]? = some (.cells #[a0, a1, a2, a3, a4, a5, a6, a7, a8] t)) : (w.setCell ⟨g, 6, none⟩ b).heap[g]? = some (.cells #[a0, a1, a2, a3, a4, a5, b, a7, a8] t) := heap_setCell_same w g 6 _ t b h
theorem st9_7 {w : World} {g : Nat} {a0 a1 a2 a3 a4 a5 a6 a7 a8 b : Value} {t : TypeId} (h : w.heap[g]? = some (.cells #[a0, a1, a2, a3, a4, a5, a6, a7, a8] t)) : (w.setCell ⟨g, 7, none⟩ b).heap[g]? = some (.cells #[a0, a1, a2, a3, a4, a5, a6, b, a8] t) := heap_setCell_same w g 7 _ t b h
theorem st9_8 {w : World} {g : Nat} {a0 a1 a2 a3 a4 a5 a6 a7 a8 b : Value} {t : TypeId} (h : w.heap[g]? = some (.cells #[a0, a1, a2, a3, a4, a5, a6, a7, a8] t)) : (w.setCell ⟨g, 8, none⟩ b).heap[g]? = some (.cells #[a0, a1, a2, a3, a4, a5, a6, a7, b] t) := heap_setCell_same w g 8 _ t b h
theorem c9s {w : World} {g : Nat} {a0 a1 a2 a3 a4 a5 a6 a7 a8 b0 b1 b2 b3 b4 b5 b6 b7 b8 : Value} {t : TypeId} (h : w.heap[g]? = some (.cells #[a0, a1, a2, a3, a4, a5, a6, a7, a8] t)) : (((((((((w.setCell ⟨g, 0, none⟩ b0).setCell ⟨g, 1, none⟩ b1).setCell ⟨g, 2, none⟩ b2).setCell ⟨g, 3, none⟩ b3).setCell ⟨g, 4, none⟩ b4).setCell ⟨g, 5, none⟩ b5).setCell ⟨g, 6, none⟩ b6).setCell ⟨g, 7, none⟩ b7).setCell ⟨g, 8, none⟩ b8).heap[g]? = some (.cells #[b0, b1, b2, b3, b4, b5, b6, b7, b8] t) :=
  st9_8 (st9_7 (st9_6 (st9_5 (st9_4 (st9_3 (st9_2 (st9_1 (st9_0 h))))))))
theorem c9o {w : World} {g k : Nat} {b0 b1 b2 b3 b4 b5 b6 b7 b8 : Value} {o : Obj} (hk : k ≠ g) (h : w.heap[k]? = some o) : (((((((((w.setCell ⟨g, 0, none⟩ b0).setCell ⟨g, 1, none⟩ b1).setCell ⟨g, 2, none⟩ b2).setCell ⟨g, 3, none⟩ b3).setCell ⟨g, 4, none⟩ b4).setCell ⟨g, 5, none⟩ b5).setCell ⟨g, 6, none⟩ b6).setCell ⟨g, 7, none⟩ b7).setCell ⟨g, 8, none⟩ b8).heap[k]? = some o := by
  rw [Below.heap_setCell _ _ _ _ hk, Below.heap_setCell _ _ _ _ hk, Below.heap_setCell _ _ _ _ hk, Below.heap_setCell _ _ _ _ hk, Below.heap_setCell _ _ _ _ hk, Below.heap_setCell _ _ _ _ hk, Below.heap_setCell _ _ _ _ hk, Below.heap_setCell _ _ _ _ hk, Below.heap_setCell _ _ _ _ hk]; exact h
theorem c9b {w0 w : World} {B g : Nat} {b0 b1 b2 b3 b4 b5 b6 b7 b8 : Value} (hg : B ≤ g) (h : Below B w0 w) : Below B w0 (((((((((w.setCell ⟨g, 0, none⟩ b0).setCell ⟨g, 1, none⟩ b1).setCell ⟨g, 2, none⟩ b2).setCell ⟨g, 3, none⟩ b3).setCell ⟨g, 4, none⟩ b4).setCell ⟨g, 5, none⟩ b5).setCell ⟨g, 6, none⟩ b6).setCell ⟨g, 7, none⟩ b7).setCell ⟨g, 8, none⟩ b8) := by
  have h1 := h.setCell (p := ⟨g, 0, none⟩) hg b0
  have h2 := h1.setCell (p := ⟨g, 1, none⟩) hg b1
  have h3 := h2.setCell (p := ⟨g, 2, none⟩) hg b2
  have h4 := h3.setCell (p := ⟨g, 3, none⟩) hg b3
  have h5 := h4.setCell (p := ⟨g, 4, none⟩) hg b4
  have h6 := h5.setCell (p := ⟨g, 5, none⟩) hg b5
  have h7 := h6.setCell (p := ⟨g, 6, none⟩) hg b6
  have h8 := h7.setCell (p := ⟨g, 7, none⟩) hg b7
  have h9 := h8.setCell (p := ⟨g, 8, none⟩) hg b8
  exact h9
theorem nineC {w : World} {z : Nat} {a b c d e f g h i : Value} {t : TypeId} (hh : w.heap[z]? = some (.cells #[a, b, c, d, e, f, g, h, i] t)) : w.cell? ⟨z, 0, none⟩ = some a ∧ w.cell? ⟨z, 1, none⟩ = some b ∧ w.cell? ⟨z, 2, none⟩ = some c ∧ w.cell? ⟨z, 3, none⟩ = some d ∧ w.cell? ⟨z, 4, none⟩ = some e ∧ w.cell? ⟨z, 5, none⟩ = some f ∧ w.cell? ⟨z, 6, none⟩ = some g ∧ w.cell? ⟨z, 7, none⟩ = some h ∧ w.cell? ⟨z, 8, none⟩ = some i ∧ ∀ o, w.frozen? ⟨z, o, none⟩ = false := by
  refine ⟨?_, ?_, ?_, ?_, ?_, ?_, ?_, ?_, ?_, fun o => ?_⟩
  · simp only [World.cell?, hh]; rfl
  · simp only [World.cell?, hh]; rfl
  · simp only [World.cell?, hh]; rfl
  · simp only [World.cell?, hh]; rfl
  · simp only [World.cell?, hh]; rfl
  · simp only [World.cell?, hh]; rfl
  · simp only [World.cell?, hh]; rfl
  · simp only [World.cell?, hh]; rfl
  · simp only [World.cell?, hh]; rfl
  · simp only [World.frozen?, hh]; simp
theorem allO {P0 P1 P2 P3 P4 P5 P6 P7 P8 P9 : Obj → Prop} (h : ∀ O, P0 O ∧ P1 O ∧ P2 O ∧ P3 O ∧ P4 O ∧ P5 O ∧ P6 O ∧ P7 O ∧ P8 O ∧ P9 O) : (∀ O, P0 O) ∧ (∀ O, P1 O) ∧ (∀ O, P2 O) ∧ (∀ O, P3 O) ∧ (∀ O, P4 O) ∧ (∀ O, P5 O) ∧ (∀ O, P6 O) ∧ (∀ O, P7 O) ∧ (∀ O, P8 O) ∧ (∀ O, P9 O) :=
  ⟨fun O => (h O).1, fun O => (h O).2.1, fun O => (h O).2.2.1, fun O => (h O).2.2.2.1, fun O => (h O).2.2.2.2.1, fun O => (h O).2.2.2.2.2.1, fun O => (h O).2.2.2.2.2.2.1, fun O => (h O).2.2.2.2.2.2.2.1, fun O => (h O).2.2.2.2.2.2.2.2.1, fun O => (h O).2.2.2.2.2.2.2.2.2⟩
theorem bx1 {w w' : World} {o : Obj} (hb : Below (w.alloc o).heap.size (w.alloc o) w') : (∀ W', Below w'.heap.size w' W' → W'.heap[w.heap.size]? = some o) ∧ w.heap.size < w'.heap.size := by
  have hs : (w.alloc o).heap.size = w.heap.size + 1 := World.size_alloc _ _
  have h1 := hb.size
  have h2 := (hb.block w.heap.size (by omega)).trans (alloc_new w o)
  exact ⟨fun W' h => (h.block _ (by omega)).trans h2, by omega⟩
theorem bx2 {w w' : World} {o1 o2 : Obj} (hb : Below ((w.alloc o1).alloc o2).heap.size ((w.alloc o1).alloc o2) w') : ((∀ W', Below w'.heap.size w' W' → W'.heap[w.heap.size]? = some o1) ∧ (∀ W', Below w'.heap.size w' W' → W'.heap[w.heap.size + 1]? = some o2)) ∧ w.heap.size + 1 < w'.heap.size := by
  have hs : (w.alloc o1).heap.size = w.heap.size + 1 := World.size_alloc _ _
  obtain ⟨h1, h2⟩ := bx1 hb
  rw [hs] at h1 h2
  have hb0 := (belowA (Below.refl (w.alloc o1).heap.size (w.alloc o1)) o2 (Nat.le_refl _)).trans (hb.mono (by have h5 : ((w.alloc o1).alloc o2).heap.size = (w.alloc o1).heap.size + 1 := World.size_alloc _ _; omega))
  obtain ⟨h3, _⟩ := bx1 hb0
  exact ⟨⟨h3, h1⟩, h2⟩
theorem bx1D {w w' : World} {o : Obj} (hb : Below (w.alloc o).drew.heap.size (w.alloc o).drew w') : (∀ W', Below w'.heap.size w' W' → W'.heap[w.heap.size]? = some o) ∧ w.heap.size < w'.heap.size :=
  bx1 ⟨hb.os, hb.tape, hb.output, hb.size, hb.block⟩
theorem bx2D {w w' : World} {o1 o2 : Obj} (hb : Below ((w.alloc o1).alloc o2).drew.heap.size ((w.alloc o1).alloc o2).drew w') : ((∀ W', Below w'.heap.size w' W' → W'.heap[w.heap.size]? = some o1) ∧ (∀ W', Below w'.heap.size w' W' → W'.heap[w.heap.size + 1]? = some o2)) ∧ w.heap.size + 1 < w'.heap.size :=
  bx2 ⟨hb.os, hb.tape, hb.output, hb.size, hb.block⟩
theorem leaf1 {wr wb : World} {za zb : Nat} {a0 a1 a2 a3 a4 a5 a6 a7 a8 b0 b1 b2 b3 b4 b5 b6 b7 b8 : Value} (h : Below wr.heap.size wr wb) : wr.heap.size ≤ wb.heap.size ∧ wr.heap.size ≤ wb.heap.size + 1 ∧ ((wb.alloc (.cells #[a0, a1, a2, a3, a4, a5, a6, a7, a8] 30)).alloc (.cells #[b0, b1, b2, b3, b4, b5, b6, b7, b8] 30)).heap[wb.heap.size]? = some (.cells #[a0, a1, a2, a3, a4, a5, a6, a7, a8] 30) ∧ ((wb.alloc (.cells #[a0, a1, a2, a3, a4, a5, a6, a7, a8] 30)).alloc (.cells #[b0, b1, b2, b3, b4, b5, b6, b7, b8] 30)).heap[wb.heap.size + 1]? = some (.cells #[b0, b1, b2, b3, b4, b5, b6, b7, b8] 30) ∧ Below wr.heap.size wr ((wb.alloc (.cells #[a0, a1, a2, a3, a4, a5, a6, a7, a8] 30)).alloc (.cells #[b0, b1, b2, b3, b4, b5, b6, b7, b8] 30)) :=
  ⟨h.size, Nat.le_trans h.size (Nat.le_add_right _ 1), blk_al (blk_newz rfl) _, blk_newz (World.size_alloc _ _).symm, belowAA (belowAA h _) _⟩
theorem leaf1' {wr wb : World} {za zb : Nat} {a0 a1 a2 a3 a4 a5 a6 a7 a8 b0 b1 b2 b3 b4 b5 b6 b7 b8 : Value} (h : Below wr.heap.size wr wb) : wr.heap.size ≤ wb.heap.size + 1 ∧ wr.heap.size ≤ wb.heap.size ∧ ((wb.alloc (.cells #[b0, b1, b2, b3, b4, b5, b6, b7, b8] 30)).alloc (.cells #[a0, a1, a2, a3, a4, a5, a6, a7, a8] 30)).heap[wb.heap.size + 1]? = some (.cells #[a0, a1, a2, a3, a4, a5, a6, a7, a8] 30) ∧ ((wb.alloc (.cells #[b0, b1, b2, b3, b4, b5, b6, b7, b8] 30)).alloc (.cells #[a0, a1, a2, a3, a4, a5, a6, a7, a8] 30)).heap[wb.heap.size]? = some (.cells #[b0, b1, b2, b3, b4, b5, b6, b7, b8] 30) ∧ Below wr.heap.size wr ((wb.alloc (.cells #[b0, b1, b2, b3, b4, b5, b6, b7, b8] 30)).alloc (.cells #[a0, a1, a2, a3, a4, a5, a6, a7, a8] 30)) :=
  ⟨Nat.le_trans h.size (Nat.le_add_right _ 1), h.size, blk_newz (World.size_alloc _ _).symm, blk_al (blk_newz rfl) _, belowAA (belowAA h _) _⟩
theorem leaf2 {wr wb : World} {za zb : Nat} {a0 a1 a2 a3 a4 a5 a6 a7 a8 b0 b1 b2 b3 b4 b5 b6 b7 b8 : Value} (h : Below wr.heap.size wr wb) (h1 : wb.heap[za]? = some (.cells #[.int .i64 0, .int .i64 0, .int .i64 0, .string ⟨#[]⟩, .string ⟨#[]⟩, .int .i64 0, .slice none 0 0, .string ⟨#[]⟩, .int .i64 0] 30)) (h2 : wb.heap[zb]? = some (.cells #[.int .i64 0, .int .i64 0, .int .i64 0, .string ⟨#[]⟩, .string ⟨#[]⟩, .int .i64 0, .slice none 0 0, .string ⟨#[]⟩, .int .i64 0] 30)) (h3 : wr.heap.size ≤ za) (h4 : wr.heap.size ≤ zb) (h5 : za ≠ zb) : wr.heap.size ≤ za ∧ wr.heap.size ≤ zb ∧ (((((((((((((((((((wb.setCell ⟨za, 0, none⟩ a0).setCell ⟨za, 1, none⟩ a1).setCell ⟨za, 2, none⟩ a2).setCell ⟨za, 3, none⟩ a3).setCell ⟨za, 4, none⟩ a4).setCell ⟨za, 5, none⟩ a5).setCell ⟨za, 6, none⟩ a6).setCell ⟨za, 7, none⟩ a7).setCell ⟨za, 8, none⟩ a8).setCell ⟨zb, 0, none⟩ b0).setCell ⟨zb, 1, none⟩ b1).setCell ⟨zb, 2, none⟩ b2).setCell ⟨zb, 3, none⟩ b3).setCell ⟨zb, 4, none⟩ b4).setCell ⟨zb, 5, none⟩ b5).setCell ⟨zb, 6, none⟩ b6).setCell ⟨zb, 7, none⟩ b7).setCell ⟨zb, 8, none⟩ b8)).heap[za]? = some (.cells #[a0, a1, a2, a3, a4, a5, a6, a7, a8] 30) ∧ (((((((((((((((((((wb.setCell ⟨za, 0, none⟩ a0).setCell ⟨za, 1, none⟩ a1).setCell ⟨za, 2, none⟩ a2).setCell ⟨za, 3, none⟩ a3).setCell ⟨za, 4, none⟩ a4).setCell ⟨za, 5, none⟩ a5).setCell ⟨za, 6, none⟩ a6).setCell ⟨za, 7, none⟩ a7).setCell ⟨za, 8, none⟩ a8).setCell ⟨zb, 0, none⟩ b0).setCell ⟨zb, 1, none⟩ b1).setCell ⟨zb, 2, none⟩ b2).setCell ⟨zb, 3, none⟩ b3).setCell ⟨zb, 4, none⟩ b4).setCell ⟨zb, 5, none⟩ b5).setCell ⟨zb, 6, none⟩ b6).setCell ⟨zb, 7, none⟩ b7).setCell ⟨zb, 8, none⟩ b8)).heap[zb]? = some (.cells #[b0, b1, b2, b3, b4, b5, b6, b7, b8] 30) ∧ Below wr.heap.size wr (((((((((((((((((((wb.setCell ⟨za, 0, none⟩ a0).setCell ⟨za, 1, none⟩ a1).setCell ⟨za, 2, none⟩ a2).setCell ⟨za, 3, none⟩ a3).setCell ⟨za, 4, none⟩ a4).setCell ⟨za, 5, none⟩ a5).setCell ⟨za, 6, none⟩ a6).setCell ⟨za, 7, none⟩ a7).setCell ⟨za, 8, none⟩ a8).setCell ⟨zb, 0, none⟩ b0).setCell ⟨zb, 1, none⟩ b1).setCell ⟨zb, 2, none⟩ b2).setCell ⟨zb, 3, none⟩ b3).setCell ⟨zb, 4, none⟩ b4).setCell ⟨zb, 5, none⟩ b5).setCell ⟨zb, 6, none⟩ b6).setCell ⟨zb, 7, none⟩ b7).setCell ⟨zb, 8, none⟩ b8)) :=
  ⟨h3, h4, c9o h5 (c9s h1), c9s (c9o (Ne.symm h5) h2), c9b h4 (c9b h3 h)⟩
theorem leaf3 {wr wb : World} {za zb : Nat} {a0 a1 a2 a3 a4 a5 a6 a7 a8 b0 b1 b2 b3 b4 b5 b6 b7 b8 : Value} (h : Below wr.heap.size wr wb) (h1 : wb.heap[za]? = some (.cells #[.int .i64 0, .int .i64 0, .int .i64 0, .string ⟨#[]⟩, .string ⟨#[]⟩, .int .i64 0, .slice none 0 0, .string ⟨#[]⟩, .int .i64 0] 30)) (h3 : wr.heap.size ≤ za) : wr.heap.size ≤ za ∧ wr.heap.size ≤ wb.heap.size ∧ ((((((((((wb.setCell ⟨za, 0, none⟩ a0).setCell ⟨za, 1, none⟩ a1).setCell ⟨za, 2, none⟩ a2).setCell ⟨za, 3, none⟩ a3).setCell ⟨za, 4, none⟩ a4).setCell ⟨za, 5, none⟩ a5).setCell ⟨za, 6, none⟩ a6).setCell ⟨za, 7, none⟩ a7).setCell ⟨za, 8, none⟩ a8).alloc (.cells #[b0, b1, b2, b3, b4, b5, b6, b7, b8] 30)).heap[za]? = some (.cells #[a0, a1, a2, a3, a4, a5, a6, a7, a8] 30) ∧ ((((((((((wb.setCell ⟨za, 0, none⟩ a0).setCell ⟨za, 1, none⟩ a1).setCell ⟨za, 2, none⟩ a2).setCell ⟨za, 3, none⟩ a3).setCell ⟨za, 4, none⟩ a4).setCell ⟨za, 5, none⟩ a5).setCell ⟨za, 6, none⟩ a6).setCell ⟨za, 7, none⟩ a7).setCell ⟨za, 8, none⟩ a8).alloc (.cells #[b0, b1, b2, b3, b4, b5, b6, b7, b8] 30)).heap[wb.heap.size]? = some (.cells #[b0, b1, b2, b3, b4, b5, b6, b7, b8] 30) ∧ Below wr.heap.size wr ((((((((((wb.setCell ⟨za, 0, none⟩ a0).setCell ⟨za, 1, none⟩ a1).setCell ⟨za, 2, none⟩ a2).setCell ⟨za, 3, none⟩ a3).setCell ⟨za, 4, none⟩ a4).setCell ⟨za, 5, none⟩ a5).setCell ⟨za, 6, none⟩ a6).setCell ⟨za, 7, none⟩ a7).setCell ⟨za, 8, none⟩ a8).alloc (.cells #[b0, b1, b2, b3, b4, b5, b6, b7, b8] 30)) :=
  ⟨h3, h.size, blk_al (c9s h1) _, blk_newz (by simp only [World.size_setCell]), belowAA (c9b h3 h) _⟩
theorem leaf4 {wr wb : World} {za zb : Nat} {a0 a1 a2 a3 a4 a5 a6 a7 a8 b0 b1 b2 b3 b4 b5 b6 b7 b8 : Value} (h : Below wr.heap.size wr wb) (h2 : wb.heap[zb]? = some (.cells #[.int .i64 0, .int .i64 0, .int .i64 0, .string ⟨#[]⟩, .string ⟨#[]⟩, .int .i64 0, .slice none 0 0, .string ⟨#[]⟩, .int .i64 0] 30)) (h4 : wr.heap.size ≤ zb) : wr.heap.size ≤ wb.heap.size ∧ wr.heap.size ≤ zb ∧ ((((((((((wb.setCell ⟨zb, 0, none⟩ b0).setCell ⟨zb, 1, none⟩ b1).setCell ⟨zb, 2, none⟩ b2).setCell ⟨zb, 3, none⟩ b3).setCell ⟨zb, 4, none⟩ b4).setCell ⟨zb, 5, none⟩ b5).setCell ⟨zb, 6, none⟩ b6).setCell ⟨zb, 7, none⟩ b7).setCell ⟨zb, 8, none⟩ b8).alloc (.cells #[a0, a1, a2, a3, a4, a5, a6, a7, a8] 30)).heap[wb.heap.size]? = some (.cells #[a0, a1, a2, a3, a4, a5, a6, a7, a8] 30) ∧ ((((((((((wb.setCell ⟨zb, 0, none⟩ b0).setCell ⟨zb, 1, none⟩ b1).setCell ⟨zb, 2, none⟩ b2).setCell ⟨zb, 3, none⟩ b3).setCell ⟨zb, 4, none⟩ b4).setCell ⟨zb, 5, none⟩ b5).setCell ⟨zb, 6, none⟩ b6).setCell ⟨zb, 7, none⟩ b7).setCell ⟨zb, 8, none⟩ b8).alloc (.cells #[a0, a1, a2, a3, a4, a5, a6, a7, a8] 30)).heap[zb]? = some (.cells #[b0, b1, b2, b3, b4, b5, b6, b7, b8] 30) ∧ Below wr.heap.size wr ((((((((((wb.setCell ⟨zb, 0, none⟩ b0).setCell ⟨zb, 1, none⟩ b1).setCell ⟨zb, 2, none⟩ b2).setCell ⟨zb, 3, none⟩ b3).setCell ⟨zb, 4, none⟩ b4).setCell ⟨zb, 5, none⟩ b5).setCell ⟨zb, 6, none⟩ b6).setCell ⟨zb, 7, none⟩ b7).setCell ⟨zb, 8, none⟩ b8).alloc (.cells #[a0, a1, a2, a3, a4, a5, a6, a7, a8] 30)) :=
  ⟨h.size, h4, blk_newz (by simp only [World.size_setCell]), blk_al (c9s h2) _, belowAA (c9b h4 h) _⟩
theorem yields_row {ops : Array Oper} {S : World → Prop} {op : Oper} {a : Act} (hw : Region.wanted op (yielded ops a.tmps) = true) (ty : TypeId) (x : Operand) (ho : op.op = .load ty x)
    (g : Nat) (hx : a.eval x = .pointer (some ⟨g, 0, none⟩)) (v : Value) (hS : ∀ w : World, S w → (loadVar ty ⟨g, 0, none⟩).run Tryz.prog w = .ok v w) : YieldsIf Tryz.prog ops S op v a :=
  Or.inl ⟨hw, fun w hs => by
    unfold execOp
    simp only [ho, hx, Instr.loadAt, Instr.sureAddr, Sem.run_bind, Sem.run_pure, Result.andThen_ok, hS w hs]⟩
end Go.Proofs.YtnakbepcalciiaaGreat.lk
