/- Several texts in one, one behind the other: LkBx, TnF, TnG. No condition beyond theirs. -/
import Derived.Test.YtnakbepcalciiaaGreatGz
import Derived.Deep.RegionHeld3
import Derived.Test.YtnakbepcalciiaaGreatGm
import Derived.Test.YtnakbepcalciiaaGreatGh
/- Boxes of a call in a region that draws its order. No condition. -/
namespace Go.Proofs.YtnakbepcalciiaaGreat.lk
open Go.RowKit mem rec tm names pm
set_option linter.unusedVariables false
set_option linter.unusedSimpArgs false
set_option maxHeartbeats 1000000
theorem blk_newz {W : World} {o : Obj} {z : Nat} (hz : z = W.heap.size) : (W.alloc o).heap[z]? = some o := by subst hz; exact alloc_new W o
theorem blk_al {W : World} {o : Obj} {z : Nat} (h : W.heap[z]? = some o) (o' : Obj) : (W.alloc o').heap[z]? = some o := by
  rw [Below.heap_alloc _ _ _ (Array.getElem?_eq_some_iff.1 h).1]; exact h
theorem belowAA {w0 w : World} (h : Below w0.heap.size w0 w) (o : Obj) : Below w0.heap.size w0 (w.alloc o) := belowA h o h.size
theorem belowCC {w0 w w' : World} (h : Below w0.heap.size w0 w) (hb : Below w.heap.size w w') : Below w0.heap.size w0 w' := h.trans (hb.mono h.size)
theorem st9_0 {w : World} {g : Nat} {a0 a1 a2 a3 a4 a5 a6 a7 a8 b : Value} {t : TypeId} (h : w.heap[g]? = some (.cells #[a0, a1, a2, a3, a4, a5, a6, a7, a8] t)) : (w.setCell ⟨g, 0, none⟩ b).heap[g]? = some (.cells #[b, a1, a2, a3, a4, a5, a6, a7, a8] t) := heap_setCell_same w g 0 _ t b h
theorem st9_1 {w : World} {g : Nat} {a0 a1 a2 a3 a4 a5 a6 a7 a8 b : Value} {t : TypeId} (h : w.heap[g]? = some (.cells #[a0, a1, a2, a3, a4, a5, a6, a7, a8] t)) : (w.setCell ⟨g, 1, none⟩ b).heap[g]? = some (.cells #[a0, b, a2, a3, a4, a5, a6, a7, a8] t) := heap_setCell_same w g 1 _ t b h
theorem st9_2 {w : World} {g : Nat} {a0 a1 a2 a3 a4 a5 a6 a7 a8 b : Value} {t : TypeId} (h : w.heap[g]? = some (.cells #[a0, a1, a2, a3, a4, a5, a6, a7, a8] t)) : (w.setCell ⟨g, 2, none⟩ b).heap[g]? = some (.cells #[a0, a1, b, a3, a4, a5, a6, a7, a8] t) := heap_setCell_same w g 2 _ t b h
theorem st9_3 {w : World} {g : Nat} {a0 a1 a2 a3 a4 a5 a6 a7 a8 b : Value} {t : TypeId} (h : w.heap[g]? = some (.cells #[a0, a1, a2, a3, a4, a5, a6, a7, a8] t)) : (w.setCell ⟨g, 3, none⟩ b).heap[g]? = some (.cells #[a0, a1, a2, b, a4, a5, a6, a7, a8] t) := heap_setCell_same w g 3 _ t b h
theorem st9_4 {w : World} {g : Nat} {a0 a1 a2 a3 a4 a5 a6 a7 a8 b : Value} {t : TypeId} (h : w.heap[g]? = some (.cells #[a0, a1, a2, a3, a4, a5, a6, a7, a8] t)) : (w.setCell ⟨g, 4, none⟩ b).heap[g]? = some (.cells #[a0, a1, a2, a3, b, a5, a6, a7, a8] t) := heap_setCell_same w g 4 _ t b h
theorem st9_5 {w : World} {g : Nat} {a0 a1 a2 a3 a4 a5 a6 a7 a8 b : Value} {t : TypeId} (h : w.heap[g]? = some (.cells #[a0, a1, a2, a3, a4, a5, a6, a7, a8] t)) : (w.setCell ⟨g, 5, none⟩ b).heap[g]? = some (.cells #[a0, a1, a2, a3, a4, b, a6, a7, a8] t) := heap_setCell_same w g 5 _ t b h
theorem st9_6 {w : World} {g : Nat} {a0 a1 a2 a3 a4 a5 a6 a7 a8 b : Value} {t : TypeId} (h : w.heap[g]? = some (.cells #[a0, a1, a2, a3, a4, a5, a6, a7, a8] t)) : (w.setCell ⟨g, 6, none⟩ b).heap[g]? = some (.cells #[a0, a1, a2, a3, a4, a5, b, a7, a8] t) := heap_setCell_same w g 6 _ t b h
theorem st9_7 {w : World} {g : Nat} {a0 a1 a2 a3 a4 a5 a6 a7 a8 b : Value} {t : TypeId} (h : w.heap[g]? = some (.cells #[a0, a1, a2, a3, a4, a5, a6, a7, a8] t)) : (w.setCell ⟨g, 7, none⟩ b).heap[g]? = some (.cells #[a0, a1, a2, a3, a4, a5, a6, b, a8] t) := heap_setCell_same w g 7 _ t b h
theorem st9_8 {w : World} {g : Nat} {a0 a1 a2 a3 a4 a5 a6 a7 a8 b : Value} {t : TypeId} (h : w.heap[g]? = some (.cells #[a0, a1, a2, a3, a4, a5, a6, a7, a8] t)) : (w.setCell ⟨g, 8, none⟩ b).heap[g]? = some (.cells #[a0, a1, a2, a3, a4, a5, a6, a7, b] t) := heap_setCell_same w g 8 _ t b h
theorem c9s {w : World} {g : Nat} {a0 a1 a2 a3 a4 a5 a6 a7 a8 b0 b1 b2 b3 b4 b5 b6 b7 b8 : Value} {t : TypeId} (h : w.heap[g]? = some (.cells #[a0, a1, a2, a3, a4, a5, a6, a7, a8] t)) : (((((((((w.setCell ⟨g, 0, none⟩ b0).setCell ⟨g, 1, none⟩ b1).setCell ⟨g, 2, none⟩ b2).setCell ⟨g, 3, none⟩ b3).setCell ⟨g, 4, none⟩ b4).setCell ⟨g, 5, none⟩ b5).setCell ⟨g, 6, none⟩ b6).setCell ⟨g, 7, none⟩ b7).setCell ⟨g, 8, none⟩ b8).heap[g]? = some (.cells #[b0, b1, b2, b3, b4, b5, b6, b7, b8] t) :=
  st9_8 (st9_7 (st9_6 (st9_5 (st9_4 (st9_3 (st9_2 (st9_1 (st9_0 h))))))))
theorem c9o {w : World} {g k : Nat} {b0 b1 b2 b3 b4 b5 b6 b7 b8 : Value} {o : Obj} (hk : k ≠ g) (h : w.heap[k]? = some o) : (((((((((w.setCell ⟨g, 0, none⟩ b0).setCell ⟨g, 1, none⟩ b1).setCell ⟨g, 2, none⟩ b2).setCell ⟨g, 3, none⟩ b3).setCell ⟨g, 4, none⟩ b4).setCell ⟨g, 5, none⟩ b5).setCell ⟨g, 6, none⟩ b6).setCell ⟨g, 7, none⟩ b7).setCell ⟨g, 8, none⟩ b8).heap[k]? = some o := by
  rw [Below.heap_setCell _ _ _ _ hk, Below.heap_setCell _ _ _ _ hk, Below.heap_setCell _ _ _ _ hk, Below.heap_setCell _ _ _ _ hk, Below.heap_setCell _ _ _ _ hk, Below.heap_setCell _ _ _ _ hk, Below.heap_setCell _ _ _ _ hk, Below.heap_setCell _ _ _ _ hk, Below.heap_setCell _ _ _ _ hk]; exact h
theorem c9b {w0 w : World} {B g : Nat} {b0 b1 b2 b3 b4 b5 b6 b7 b8 : Value} (hg : B ≤ g) (h : Below B w0 w) : Below B w0 (((((((((w.setCell ⟨g, 0, none⟩ b0).setCell ⟨g, 1, none⟩ b1).setCell ⟨g, 2, none⟩ b2).setCell ⟨g, 3, none⟩ b3).setCell ⟨g, 4, none⟩ b4).setCell ⟨g, 5, none⟩ b5).setCell ⟨g, 6, none⟩ b6).setCell ⟨g, 7, none⟩ b7).setCell ⟨g, 8, none⟩ b8) := by
  have h1 := h.setCell (p := ⟨g, 0, none⟩) hg b0
  have h2 := h1.setCell (p := ⟨g, 1, none⟩) hg b1
  have h3 := h2.setCell (p := ⟨g, 2, none⟩) hg b2
  have h4 := h3.setCell (p := ⟨g, 3, none⟩) hg b3
  have h5 := h4.setCell (p := ⟨g, 4, none⟩) hg b4
  have h6 := h5.setCell (p := ⟨g, 5, none⟩) hg b5
  have h7 := h6.setCell (p := ⟨g, 6, none⟩) hg b6
  have h8 := h7.setCell (p := ⟨g, 7, none⟩) hg b7
  have h9 := h8.setCell (p := ⟨g, 8, none⟩) hg b8
  exact h9
theorem nineC {w : World} {z : Nat} {a b c d e f g h i : Value} {t : TypeId} (hh : w.heap[z]? = some (.cells #[a, b, c, d, e, f, g, h, i] t)) : w.cell? ⟨z, 0, none⟩ = some a ∧ w.cell? ⟨z, 1, none⟩ = some b ∧ w.cell? ⟨z, 2, none⟩ = some c ∧ w.cell? ⟨z, 3, none⟩ = some d ∧ w.cell? ⟨z, 4, none⟩ = some e ∧ w.cell? ⟨z, 5, none⟩ = some f ∧ w.cell? ⟨z, 6, none⟩ = some g ∧ w.cell? ⟨z, 7, none⟩ = some h ∧ w.cell? ⟨z, 8, none⟩ = some i ∧ ∀ o, w.frozen? ⟨z, o, none⟩ = false := by
  refine ⟨?_, ?_, ?_, ?_, ?_, ?_, ?_, ?_, ?_, fun o => ?_⟩
  · simp only [World.cell?, hh]; rfl
  · simp only [World.cell?, hh]; rfl
  · simp only [World.cell?, hh]; rfl
  · simp only [World.cell?, hh]; rfl
  · simp only [World.cell?, hh]; rfl
  · simp only [World.cell?, hh]; rfl
  · simp only [World.cell?, hh]; rfl
  · simp only [World.cell?, hh]; rfl
  · simp only [World.cell?, hh]; rfl
  · simp only [World.frozen?, hh]; simp
theorem allO {P0 P1 P2 P3 P4 P5 P6 P7 P8 P9 : Obj → Prop} (h : ∀ O, P0 O ∧ P1 O ∧ P2 O ∧ P3 O ∧ P4 O ∧ P5 O ∧ P6 O ∧ P7 O ∧ P8 O ∧ P9 O) : (∀ O, P0 O) ∧ (∀ O, P1 O) ∧ (∀ O, P2 O) ∧ (∀ O, P3 O) ∧ (∀ O, P4 O) ∧ (∀ O, P5 O) ∧ (∀ O, P6 O) ∧ (∀ O, P7 O) ∧ (∀ O, P8 O) ∧ (∀ O, P9 O) :=
  ⟨fun O => (h O).1, fun O => (h O).2.1, fun O => (h O).2.2.1, fun O => (h O).2.2.2.1, fun O => (h O).2.2.2.2.1, fun O => (h O).2.2.2.2.2.1, fun O => (h O).2.2.2.2.2.2.1, fun O => (h O).2.2.2.2.2.2.2.1, fun O => (h O).2.2.2.2.2.2.2.2.1, fun O => (h O).2.2.2.2.2.2.2.2.2⟩
theorem bx1 {w w' : World} {o : Obj} (hb : Below (w.alloc o).heap.size (w.alloc o) w') : (∀ W', Below w'.heap.size w' W' → W'.heap[w.heap.size]? = some o) ∧ w.heap.size < w'.heap.size := by
  have hs : (w.alloc o).heap.size = w.heap.size + 1 := World.size_alloc _ _
  have h1 := hb.size
  have h2 := (hb.block w.heap.size (by omega)).trans (alloc_new w o)
  exact ⟨fun W' h => (h.block _ (by omega)).trans h2, by omega⟩
theorem bx2 {w w' : World} {o1 o2 : Obj} (hb : Below ((w.alloc o1).alloc o2).heap.size ((w.alloc o1).alloc o2) w') : ((∀ W', Below w'.heap.size w' W' → W'.heap[w.heap.size]? = some o1) ∧ (∀ W', Below w'.heap.size w' W' → W'.heap[w.heap.size + 1]? = some o2)) ∧ w.heap.size + 1 < w'.heap.size := by
  have hs : (w.alloc o1).heap.size = w.heap.size + 1 := World.size_alloc _ _
  obtain ⟨h1, h2⟩ := bx1 hb
  rw [hs] at h1 h2
  have hb0 := (belowA (Below.refl (w.alloc o1).heap.size (w.alloc o1)) o2 (Nat.le_refl _)).trans (hb.mono (by have h5 : ((w.alloc o1).alloc o2).heap.size = (w.alloc o1).heap.size + 1 := World.size_alloc _ _; omega))
  obtain ⟨h3, _⟩ := bx1 hb0
  exact ⟨⟨h3, h1⟩, h2⟩
theorem bx1D {w w' : World} {o : Obj} (hb : Below (w.alloc o).drew.heap.size (w.alloc o).drew w') : (∀ W', Below w'.heap.size w' W' → W'.heap[w.heap.size]? = some o) ∧ w.heap.size < w'.heap.size :=
  bx1 ⟨hb.os, hb.tape, hb.output, hb.size, hb.block⟩
theorem bx2D {w w' : World} {o1 o2 : Obj} (hb : Below ((w.alloc o1).alloc o2).drew.heap.size ((w.alloc o1).alloc o2).drew w') : ((∀ W', Below w'.heap.size w' W' → W'.heap[w.heap.size]? = some o1) ∧ (∀ W', Below w'.heap.size w' W' → W'.heap[w.heap.size + 1]? = some o2)) ∧ w.heap.size + 1 < w'.heap.size :=
  bx2 ⟨hb.os, hb.tape, hb.output, hb.size, hb.block⟩
theorem leaf1 {wr wb : World} {a0 a1 a2 a3 a4 a5 a6 a7 a8 b0 b1 b2 b3 b4 b5 b6 b7 b8 : Value} (h : Below wr.heap.size wr wb) : wr.heap.size ≤ wb.heap.size ∧ wr.heap.size ≤ wb.heap.size + 1 ∧ ((wb.alloc (.cells #[a0, a1, a2, a3, a4, a5, a6, a7, a8] 30)).alloc (.cells #[b0, b1, b2, b3, b4, b5, b6, b7, b8] 30)).heap[wb.heap.size]? = some (.cells #[a0, a1, a2, a3, a4, a5, a6, a7, a8] 30) ∧ ((wb.alloc (.cells #[a0, a1, a2, a3, a4, a5, a6, a7, a8] 30)).alloc (.cells #[b0, b1, b2, b3, b4, b5, b6, b7, b8] 30)).heap[wb.heap.size + 1]? = some (.cells #[b0, b1, b2, b3, b4, b5, b6, b7, b8] 30) ∧ Below wr.heap.size wr ((wb.alloc (.cells #[a0, a1, a2, a3, a4, a5, a6, a7, a8] 30)).alloc (.cells #[b0, b1, b2, b3, b4, b5, b6, b7, b8] 30)) :=
  ⟨h.size, Nat.le_trans h.size (Nat.le_add_right _ 1), blk_al (blk_newz rfl) _, blk_newz (World.size_alloc _ _).symm, belowAA (belowAA h _) _⟩
theorem leaf1' {wr wb : World} {a0 a1 a2 a3 a4 a5 a6 a7 a8 b0 b1 b2 b3 b4 b5 b6 b7 b8 : Value} (h : Below wr.heap.size wr wb) : wr.heap.size ≤ wb.heap.size + 1 ∧ wr.heap.size ≤ wb.heap.size ∧ ((wb.alloc (.cells #[b0, b1, b2, b3, b4, b5, b6, b7, b8] 30)).alloc (.cells #[a0, a1, a2, a3, a4, a5, a6, a7, a8] 30)).heap[wb.heap.size + 1]? = some (.cells #[a0, a1, a2, a3, a4, a5, a6, a7, a8] 30) ∧ ((wb.alloc (.cells #[b0, b1, b2, b3, b4, b5, b6, b7, b8] 30)).alloc (.cells #[a0, a1, a2, a3, a4, a5, a6, a7, a8] 30)).heap[wb.heap.size]? = some (.cells #[b0, b1, b2, b3, b4, b5, b6, b7, b8] 30) ∧ Below wr.heap.size wr ((wb.alloc (.cells #[b0, b1, b2, b3, b4, b5, b6, b7, b8] 30)).alloc (.cells #[a0, a1, a2, a3, a4, a5, a6, a7, a8] 30)) :=
  ⟨Nat.le_trans h.size (Nat.le_add_right _ 1), h.size, blk_newz (World.size_alloc _ _).symm, blk_al (blk_newz rfl) _, belowAA (belowAA h _) _⟩
theorem leaf2 {wr wb : World} {za zb : Nat} {a0 a1 a2 a3 a4 a5 a6 a7 a8 b0 b1 b2 b3 b4 b5 b6 b7 b8 : Value} (h : Below wr.heap.size wr wb) (h1 : wb.heap[za]? = some (.cells #[.int .i64 0, .int .i64 0, .int .i64 0, .string ⟨#[]⟩, .string ⟨#[]⟩, .int .i64 0, .slice none 0 0, .string ⟨#[]⟩, .int .i64 0] 30)) (h2 : wb.heap[zb]? = some (.cells #[.int .i64 0, .int .i64 0, .int .i64 0, .string ⟨#[]⟩, .string ⟨#[]⟩, .int .i64 0, .slice none 0 0, .string ⟨#[]⟩, .int .i64 0] 30)) (h3 : wr.heap.size ≤ za) (h4 : wr.heap.size ≤ zb) (h5 : za ≠ zb) : wr.heap.size ≤ za ∧ wr.heap.size ≤ zb ∧ (((((((((((((((((((wb.setCell ⟨za, 0, none⟩ a0).setCell ⟨za, 1, none⟩ a1).setCell ⟨za, 2, none⟩ a2).setCell ⟨za, 3, none⟩ a3).setCell ⟨za, 4, none⟩ a4).setCell ⟨za, 5, none⟩ a5).setCell ⟨za, 6, none⟩ a6).setCell ⟨za, 7, none⟩ a7).setCell ⟨za, 8, none⟩ a8).setCell ⟨zb, 0, none⟩ b0).setCell ⟨zb, 1, none⟩ b1).setCell ⟨zb, 2, none⟩ b2).setCell ⟨zb, 3, none⟩ b3).setCell ⟨zb, 4, none⟩ b4).setCell ⟨zb, 5, none⟩ b5).setCell ⟨zb, 6, none⟩ b6).setCell ⟨zb, 7, none⟩ b7).setCell ⟨zb, 8, none⟩ b8)).heap[za]? = some (.cells #[a0, a1, a2, a3, a4, a5, a6, a7, a8] 30) ∧ (((((((((((((((((((wb.setCell ⟨za, 0, none⟩ a0).setCell ⟨za, 1, none⟩ a1).setCell ⟨za, 2, none⟩ a2).setCell ⟨za, 3, none⟩ a3).setCell ⟨za, 4, none⟩ a4).setCell ⟨za, 5, none⟩ a5).setCell ⟨za, 6, none⟩ a6).setCell ⟨za, 7, none⟩ a7).setCell ⟨za, 8, none⟩ a8).setCell ⟨zb, 0, none⟩ b0).setCell ⟨zb, 1, none⟩ b1).setCell ⟨zb, 2, none⟩ b2).setCell ⟨zb, 3, none⟩ b3).setCell ⟨zb, 4, none⟩ b4).setCell ⟨zb, 5, none⟩ b5).setCell ⟨zb, 6, none⟩ b6).setCell ⟨zb, 7, none⟩ b7).setCell ⟨zb, 8, none⟩ b8)).heap[zb]? = some (.cells #[b0, b1, b2, b3, b4, b5, b6, b7, b8] 30) ∧ Below wr.heap.size wr (((((((((((((((((((wb.setCell ⟨za, 0, none⟩ a0).setCell ⟨za, 1, none⟩ a1).setCell ⟨za, 2, none⟩ a2).setCell ⟨za, 3, none⟩ a3).setCell ⟨za, 4, none⟩ a4).setCell ⟨za, 5, none⟩ a5).setCell ⟨za, 6, none⟩ a6).setCell ⟨za, 7, none⟩ a7).setCell ⟨za, 8, none⟩ a8).setCell ⟨zb, 0, none⟩ b0).setCell ⟨zb, 1, none⟩ b1).setCell ⟨zb, 2, none⟩ b2).setCell ⟨zb, 3, none⟩ b3).setCell ⟨zb, 4, none⟩ b4).setCell ⟨zb, 5, none⟩ b5).setCell ⟨zb, 6, none⟩ b6).setCell ⟨zb, 7, none⟩ b7).setCell ⟨zb, 8, none⟩ b8)) :=
  ⟨h3, h4, c9o h5 (c9s h1), c9s (c9o (Ne.symm h5) h2), c9b h4 (c9b h3 h)⟩
theorem leaf3 {wr wb : World} {za : Nat} {a0 a1 a2 a3 a4 a5 a6 a7 a8 b0 b1 b2 b3 b4 b5 b6 b7 b8 : Value} (h : Below wr.heap.size wr wb) (h1 : wb.heap[za]? = some (.cells #[.int .i64 0, .int .i64 0, .int .i64 0, .string ⟨#[]⟩, .string ⟨#[]⟩, .int .i64 0, .slice none 0 0, .string ⟨#[]⟩, .int .i64 0] 30)) (h3 : wr.heap.size ≤ za) : wr.heap.size ≤ za ∧ wr.heap.size ≤ wb.heap.size ∧ ((((((((((wb.setCell ⟨za, 0, none⟩ a0).setCell ⟨za, 1, none⟩ a1).setCell ⟨za, 2, none⟩ a2).setCell ⟨za, 3, none⟩ a3).setCell ⟨za, 4, none⟩ a4).setCell ⟨za, 5, none⟩ a5).setCell ⟨za, 6, none⟩ a6).setCell ⟨za, 7, none⟩ a7).setCell ⟨za, 8, none⟩ a8).alloc (.cells #[b0, b1, b2, b3, b4, b5, b6, b7, b8] 30)).heap[za]? = some (.cells #[a0, a1, a2, a3, a4, a5, a6, a7, a8] 30) ∧ ((((((((((wb.setCell ⟨za, 0, none⟩ a0).setCell ⟨za, 1, none⟩ a1).setCell ⟨za, 2, none⟩ a2).setCell ⟨za, 3, none⟩ a3).setCell ⟨za, 4, none⟩ a4).setCell ⟨za, 5, none⟩ a5).setCell ⟨za, 6, none⟩ a6).setCell ⟨za, 7, none⟩ a7).setCell ⟨za, 8, none⟩ a8).alloc (.cells #[b0, b1, b2, b3, b4, b5, b6, b7, b8] 30)).heap[wb.heap.size]? = some (.cells #[b0, b1, b2, b3, b4, b5, b6, b7, b8] 30) ∧ Below wr.heap.size wr ((((((((((wb.setCell ⟨za, 0, none⟩ a0).setCell ⟨za, 1, none⟩ a1).setCell ⟨za, 2, none⟩ a2).setCell ⟨za, 3, none⟩ a3).setCell ⟨za, 4, none⟩ a4).setCell ⟨za, 5, none⟩ a5).setCell ⟨za, 6, none⟩ a6).setCell ⟨za, 7, none⟩ a7).setCell ⟨za, 8, none⟩ a8).alloc (.cells #[b0, b1, b2, b3, b4, b5, b6, b7, b8] 30)) :=
  ⟨h3, h.size, blk_al (c9s h1) _, blk_newz (by simp only [World.size_setCell]), belowAA (c9b h3 h) _⟩
theorem leaf4 {wr wb : World} {zb : Nat} {a0 a1 a2 a3 a4 a5 a6 a7 a8 b0 b1 b2 b3 b4 b5 b6 b7 b8 : Value} (h : Below wr.heap.size wr wb) (h2 : wb.heap[zb]? = some (.cells #[.int .i64 0, .int .i64 0, .int .i64 0, .string ⟨#[]⟩, .string ⟨#[]⟩, .int .i64 0, .slice none 0 0, .string ⟨#[]⟩, .int .i64 0] 30)) (h4 : wr.heap.size ≤ zb) : wr.heap.size ≤ wb.heap.size ∧ wr.heap.size ≤ zb ∧ ((((((((((wb.setCell ⟨zb, 0, none⟩ b0).setCell ⟨zb, 1, none⟩ b1).setCell ⟨zb, 2, none⟩ b2).setCell ⟨zb, 3, none⟩ b3).setCell ⟨zb, 4, none⟩ b4).setCell ⟨zb, 5, none⟩ b5).setCell ⟨zb, 6, none⟩ b6).setCell ⟨zb, 7, none⟩ b7).setCell ⟨zb, 8, none⟩ b8).alloc (.cells #[a0, a1, a2, a3, a4, a5, a6, a7, a8] 30)).heap[wb.heap.size]? = some (.cells #[a0, a1, a2, a3, a4, a5, a6, a7, a8] 30) ∧ ((((((((((wb.setCell ⟨zb, 0, none⟩ b0).setCell ⟨zb, 1, none⟩ b1).setCell ⟨zb, 2, none⟩ b2).setCell ⟨zb, 3, none⟩ b3).setCell ⟨zb, 4, none⟩ b4).setCell ⟨zb, 5, none⟩ b5).setCell ⟨zb, 6, none⟩ b6).setCell ⟨zb, 7, none⟩ b7).setCell ⟨zb, 8, none⟩ b8).alloc (.cells #[a0, a1, a2, a3, a4, a5, a6, a7, a8] 30)).heap[zb]? = some (.cells #[b0, b1, b2, b3, b4, b5, b6, b7, b8] 30) ∧ Below wr.heap.size wr ((((((((((wb.setCell ⟨zb, 0, none⟩ b0).setCell ⟨zb, 1, none⟩ b1).setCell ⟨zb, 2, none⟩ b2).setCell ⟨zb, 3, none⟩ b3).setCell ⟨zb, 4, none⟩ b4).setCell ⟨zb, 5, none⟩ b5).setCell ⟨zb, 6, none⟩ b6).setCell ⟨zb, 7, none⟩ b7).setCell ⟨zb, 8, none⟩ b8).alloc (.cells #[a0, a1, a2, a3, a4, a5, a6, a7, a8] 30)) :=
  ⟨h.size, h4, blk_newz (by simp only [World.size_setCell]), blk_al (c9s h2) _, belowAA (c9b h4 h) _⟩
theorem leaf5 {wr wb : World} {za : Nat} {a0 a1 a2 a3 a4 a5 a6 a7 a8 b0 b1 b2 b3 b4 b5 b6 b7 b8 : Value} (h : Below wr.heap.size wr wb) (h1 : wb.heap[za]? = some (.cells #[.int .i64 0, .int .i64 0, .int .i64 0, .string ⟨#[]⟩, .string ⟨#[]⟩, .int .i64 0, .slice none 0 0, .string ⟨#[]⟩, .int .i64 0] 30)) (h3 : wr.heap.size ≤ za) : wr.heap.size ≤ za ∧ wr.heap.size ≤ wb.heap.size ∧ ((((((((((((((((((((wb.alloc (.cells #[.int .i64 0, .int .i64 0, .int .i64 0, .string ⟨#[]⟩, .string ⟨#[]⟩, .int .i64 0, .slice none 0 0, .string ⟨#[]⟩, .int .i64 0] 30)).setCell ⟨za, 0, none⟩ a0).setCell ⟨za, 1, none⟩ a1).setCell ⟨za, 2, none⟩ a2).setCell ⟨za, 3, none⟩ a3).setCell ⟨za, 4, none⟩ a4).setCell ⟨za, 5, none⟩ a5).setCell ⟨za, 6, none⟩ a6).setCell ⟨za, 7, none⟩ a7).setCell ⟨za, 8, none⟩ a8).setCell ⟨wb.heap.size, 0, none⟩ b0).setCell ⟨wb.heap.size, 1, none⟩ b1).setCell ⟨wb.heap.size, 2, none⟩ b2).setCell ⟨wb.heap.size, 3, none⟩ b3).setCell ⟨wb.heap.size, 4, none⟩ b4).setCell ⟨wb.heap.size, 5, none⟩ b5).setCell ⟨wb.heap.size, 6, none⟩ b6).setCell ⟨wb.heap.size, 7, none⟩ b7).setCell ⟨wb.heap.size, 8, none⟩ b8)).heap[za]? = some (.cells #[a0, a1, a2, a3, a4, a5, a6, a7, a8] 30) ∧ ((((((((((((((((((((wb.alloc (.cells #[.int .i64 0, .int .i64 0, .int .i64 0, .string ⟨#[]⟩, .string ⟨#[]⟩, .int .i64 0, .slice none 0 0, .string ⟨#[]⟩, .int .i64 0] 30)).setCell ⟨za, 0, none⟩ a0).setCell ⟨za, 1, none⟩ a1).setCell ⟨za, 2, none⟩ a2).setCell ⟨za, 3, none⟩ a3).setCell ⟨za, 4, none⟩ a4).setCell ⟨za, 5, none⟩ a5).setCell ⟨za, 6, none⟩ a6).setCell ⟨za, 7, none⟩ a7).setCell ⟨za, 8, none⟩ a8).setCell ⟨wb.heap.size, 0, none⟩ b0).setCell ⟨wb.heap.size, 1, none⟩ b1).setCell ⟨wb.heap.size, 2, none⟩ b2).setCell ⟨wb.heap.size, 3, none⟩ b3).setCell ⟨wb.heap.size, 4, none⟩ b4).setCell ⟨wb.heap.size, 5, none⟩ b5).setCell ⟨wb.heap.size, 6, none⟩ b6).setCell ⟨wb.heap.size, 7, none⟩ b7).setCell ⟨wb.heap.size, 8, none⟩ b8)).heap[wb.heap.size]? = some (.cells #[b0, b1, b2, b3, b4, b5, b6, b7, b8] 30) ∧ Below wr.heap.size wr ((((((((((((((((((((wb.alloc (.cells #[.int .i64 0, .int .i64 0, .int .i64 0, .string ⟨#[]⟩, .string ⟨#[]⟩, .int .i64 0, .slice none 0 0, .string ⟨#[]⟩, .int .i64 0] 30)).setCell ⟨za, 0, none⟩ a0).setCell ⟨za, 1, none⟩ a1).setCell ⟨za, 2, none⟩ a2).setCell ⟨za, 3, none⟩ a3).setCell ⟨za, 4, none⟩ a4).setCell ⟨za, 5, none⟩ a5).setCell ⟨za, 6, none⟩ a6).setCell ⟨za, 7, none⟩ a7).setCell ⟨za, 8, none⟩ a8).setCell ⟨wb.heap.size, 0, none⟩ b0).setCell ⟨wb.heap.size, 1, none⟩ b1).setCell ⟨wb.heap.size, 2, none⟩ b2).setCell ⟨wb.heap.size, 3, none⟩ b3).setCell ⟨wb.heap.size, 4, none⟩ b4).setCell ⟨wb.heap.size, 5, none⟩ b5).setCell ⟨wb.heap.size, 6, none⟩ b6).setCell ⟨wb.heap.size, 7, none⟩ b7).setCell ⟨wb.heap.size, 8, none⟩ b8)) :=
  have hl := Nat.ne_of_lt (Array.getElem?_eq_some_iff.1 h1).1
  ⟨h3, h.size, c9o hl (c9s (blk_al h1 _)), c9s (c9o (Ne.symm hl) (blk_newz rfl)), c9b h.size (c9b h3 (belowAA h _))⟩
theorem leaf6 {wr wb : World} {zb : Nat} {a0 a1 a2 a3 a4 a5 a6 a7 a8 b0 b1 b2 b3 b4 b5 b6 b7 b8 : Value} (h : Below wr.heap.size wr wb) (h1 : wb.heap[zb]? = some (.cells #[.int .i64 0, .int .i64 0, .int .i64 0, .string ⟨#[]⟩, .string ⟨#[]⟩, .int .i64 0, .slice none 0 0, .string ⟨#[]⟩, .int .i64 0] 30)) (h3 : wr.heap.size ≤ zb) : wr.heap.size ≤ wb.heap.size ∧ wr.heap.size ≤ zb ∧ (((((((((((wb.alloc (.cells #[a0, a1, a2, a3, a4, a5, a6, a7, a8] 30)).setCell ⟨zb, 0, none⟩ b0).setCell ⟨zb, 1, none⟩ b1).setCell ⟨zb, 2, none⟩ b2).setCell ⟨zb, 3, none⟩ b3).setCell ⟨zb, 4, none⟩ b4).setCell ⟨zb, 5, none⟩ b5).setCell ⟨zb, 6, none⟩ b6).setCell ⟨zb, 7, none⟩ b7).setCell ⟨zb, 8, none⟩ b8)).heap[wb.heap.size]? = some (.cells #[a0, a1, a2, a3, a4, a5, a6, a7, a8] 30) ∧ (((((((((((wb.alloc (.cells #[a0, a1, a2, a3, a4, a5, a6, a7, a8] 30)).setCell ⟨zb, 0, none⟩ b0).setCell ⟨zb, 1, none⟩ b1).setCell ⟨zb, 2, none⟩ b2).setCell ⟨zb, 3, none⟩ b3).setCell ⟨zb, 4, none⟩ b4).setCell ⟨zb, 5, none⟩ b5).setCell ⟨zb, 6, none⟩ b6).setCell ⟨zb, 7, none⟩ b7).setCell ⟨zb, 8, none⟩ b8)).heap[zb]? = some (.cells #[b0, b1, b2, b3, b4, b5, b6, b7, b8] 30) ∧ Below wr.heap.size wr (((((((((((wb.alloc (.cells #[a0, a1, a2, a3, a4, a5, a6, a7, a8] 30)).setCell ⟨zb, 0, none⟩ b0).setCell ⟨zb, 1, none⟩ b1).setCell ⟨zb, 2, none⟩ b2).setCell ⟨zb, 3, none⟩ b3).setCell ⟨zb, 4, none⟩ b4).setCell ⟨zb, 5, none⟩ b5).setCell ⟨zb, 6, none⟩ b6).setCell ⟨zb, 7, none⟩ b7).setCell ⟨zb, 8, none⟩ b8)) :=
  have hl := Nat.ne_of_lt (Array.getElem?_eq_some_iff.1 h1).1
  ⟨h.size, h3, c9o (Ne.symm hl) (blk_newz rfl), c9s (blk_al h1 _), c9b h3 (belowAA h _)⟩
theorem yields_row {ops : Array Oper} {S : World → Prop} {op : Oper} {a : Act} (hw : Region.wanted op (yielded ops a.tmps) = true) (ty : TypeId) (x : Operand) (ho : op.op = .load ty x)
    (g : Nat) (hx : a.eval x = .pointer (some ⟨g, 0, none⟩)) (v : Value) (hS : ∀ w : World, S w → (loadVar ty ⟨g, 0, none⟩).run Tryz.prog w = .ok v w) : YieldsIf Tryz.prog ops S op v a :=
  Or.inl ⟨hw, fun w hs => by
    unfold execOp
    simp only [ho, hx, Instr.loadAt, Instr.sureAddr, Sem.run_bind, Sem.run_pure, Result.andThen_ok, hS w hs]⟩
end Go.Proofs.YtnakbepcalciiaaGreat.lk

/- The reference's order: cells, formed, Compare. Conditions: the terms lie in memory. -/
namespace Go.Proofs.YtnakbepcalciiaaGreat.tm
open Go.RowKit mem names
set_option linter.unusedVariables false
set_option linter.unusedSimpArgs false
set_option maxHeartbeats 4000000
set_option maxRecDepth 100000

theorem GoodC.all {α : Type} {S : α → Prop} {kd : α → Int} : ∀ {l : List α} {a : α}, GoodC S kd a l → ∀ x ∈ a :: l, S x
  | [], a, h, x, hx => by simp at hx; subst hx; exact h.1
  | b :: l, a, h, x, hx => by
    rcases List.mem_cons.1 hx with rfl | hx
    · exact h.1
    · exact GoodC.all h.2 x hx
theorem GoodL.all {α : Type} {S : α → Prop} {kd : α → Int} {l : List α} (h : GoodL S kd l) : ∀ x ∈ l, S x := by
  cases l with
  | nil => simp
  | cons a l => exact GoodC.all h
theorem GoodL.tail {α : Type} {S : α → Prop} {kd : α → Int} {l : List α} (h : GoodL S kd l) : GoodL S kd (l.drop 1) := by
  cases l with
  | nil => trivial
  | cons a l => cases l with
    | nil => trivial
    | cons b l => exact h.2
theorem GoodL.last {α : Type} {S : α → Prop} {kd : α → Int} {l : List α} (h : GoodL S kd l) (h2 : l.length = 2) : kd (l[1]'(by omega)) ≠ 9 := by
  match l, h, h2 with
  | [a, b], h, _ => exact h.2.2
theorem ItemsAt.tail {w : World} {B n a x g o : Nat} {l : List (Tm (n + 1))} (h : ItemsAt w B (n + 1) (.slice (some ⟨g, o, none⟩) (a + 3) (x + 3)) l) : ItemsAt w B (n + 1) (.slice (some ⟨g, o + 9, none⟩) (a + 2) (x + 2)) (l.drop 1) := by
  obtain ⟨p, c, e, h1, h2, h3⟩ := h
  simp only [Value.slice.injEq] at e
  obtain ⟨rfl, e2, rfl⟩ := e
  have hl : (l.drop 1).length = a + 2 := by simp; omega
  refine ⟨some ⟨g, o + 9, none⟩, x + 2, by rw [hl], by omega, by omega, fun _ => ?_⟩
  obtain ⟨g', o', e, hg, hc⟩ := h3 (by intro e; subst e; simp at e2)
  simp only [Option.some.injEq, Addr.mk.injEq] at e
  obtain ⟨rfl, rfl, _⟩ := e
  refine ⟨g, o + 9, rfl, hg, fun j hj => ?_⟩
  obtain ⟨u, hc1, hc2⟩ := hc (j + 1) (by omega)
  have e : (l.drop 1)[j] = l[j + 1]'(by omega) := by simp [Nat.add_comm]
  rw [e, show o + 9 + j * 9 = o + (j + 1) * 9 by omega]
  exact ⟨u, hc1, hc2⟩
theorem cellsF (g1 o1 g2 o2 a b x y : Nat) (x1 x2 : TF) (q1 q2 : Option Addr) (m1 d1 m2 d2 : Nat) (w : World) (z r : Int) (r1 r2 : Value) (hz : z ≠ 0 → r = z)
    (hC1 : Cells w g1 o1 x1 (.slice q1 m1 d1)) (hC2 : Cells w g2 o2 x2 (.slice q2 m2 d2)) (hax : a ≤ x) (hby : b ≤ y) (hxm : x + 2 ≤ maxLen) (hym : y + 2 ≤ maxLen)
    (hCall : ∀ W, Below w.heap.size w W → Calls Tryz.prog 147 #[aggV x1 (.slice q1 m1 d1), aggV x2 (.slice q2 m2 d2)] W (IPostC z W))
    (hR1 : ∀ W, Below w.heap.size w W → Calls Tryz.prog 206 #[.slice (some ⟨g1, o1, none⟩) (a + 2) (x + 2)] W (VPost r1 W))
    (hR2 : ∀ W, Below w.heap.size w W → Calls Tryz.prog 206 #[.slice (some ⟨g2, o2, none⟩) (b + 2) (y + 2)] W (VPost r2 W))
    (hF : z = 0 → ∀ W, Below w.heap.size w W → Calls Tryz.prog 147 #[r1, r2] W (IPostC r W)) (hs1 : ∃ f v, r1 = aggV f v) (hs2 : ∃ f v, r2 = aggV f v) :
    Calls Tryz.prog 187 #[.slice (some ⟨g1, o1, none⟩) (a + 2) (x + 2), .slice (some ⟨g2, o2, none⟩) (b + 2) (y + 2)] w (IPostC r w) := by
  obtain ⟨f1, v1, rfl⟩ := hs1
  obtain ⟨f2, v2, rfl⟩ := hs2
  unfold maxLen at hxm hym
  have HR1 := Lib.hid hR1
  have HR2 := Lib.hid hR2
  have HF := Lib.hid hF
  have HZ := Lib.hid hz
  have hb' : Below w.heap.size w w.drew := (Below.refl _ w).drewN 1
  have HC := Lib.hid (hCall w.drew hb')
  clear hR1 hR2 hF hz hCall
  obtain ⟨x10, x11, x12, x13, x14, x15, x16, x17, x18⟩ := hC1
  obtain ⟨y10, y11, y12, y13, y14, y15, y16, y17, y18⟩ := hC2
  unfold aggV IPostC VPost at *
  have ha2 : (0 : Int) < (a : Int) + 2 := by omega
  have hb2 : (0 : Int) < (b : Int) + 2 := by omega
  have ha2n : 0 < a + 2 := by omega
  have hb2n : 0 < b + 2 := by omega
  go_enter Tryz.func187, Tryz.ntmps187
  go_wp2_with fail
  go_still_tail 6, (by kernel_rfl)
  change wpList _ _ _ _ _ w.drew
  clear x10 x11 x12 x13 x14 x15 x16 x17 x18 y10 y11 y12 y13 y14 y15 y16 y17 y18
  have HB' := Lib.hid hb'
  clear hb'
  generalize w.drew = w2 at *
  go_wp2_with fail
  refine HC.out.mono ?_
  rintro e w3 ⟨rfl, hb3⟩
  have hb4 : Below w.heap.size w w3 := HB'.out.trans (hb3.mono HB'.out.size)
  by_cases hx : z = 0
  · subst hx
    have HF2 := Lib.hid (HF.out rfl)
    have HR1' := Lib.hid (HR1.out w3 hb4)
    clear HF HZ HR1
    go_wp2_with fail
    refine HR1'.out.mono ?_
    rintro e w4 ⟨rfl, hb5⟩
    have hb6 := hb4.trans (hb5.mono hb4.size)
    have HR2' := Lib.hid (HR2.out w4 hb6)
    go_wp2_with fail
    refine HR2'.out.mono ?_
    rintro e w5 ⟨rfl, hb7⟩
    have hb8 := hb6.trans (hb7.mono hb6.size)
    have HF3 := Lib.hid (HF2.out w5 hb8)
    go_wp2_with fail
    refine HF3.out.mono ?_
    rintro e w6 ⟨rfl, hb9⟩
    go_wp2_with fail
    go_ret
    exact ⟨rfl, hb8.trans (hb9.mono hb8.size)⟩
  · have q : (z != 0) = true := by simp [hx]
    have HF := Lib.hid (HZ.out hx)
    clear hx HZ
    go_wp2_with fail
    go_ret
    exact ⟨ret1i HF.out.symm, hb4⟩
theorem fNe' (f1 f2 : TF) (p1 p2 : Option Addr) (m1 c1 m2 c2 : Nat) (w : World) (h : f1.kind ≠ f2.kind) : Calls Tryz.prog 147 #[aggV f1 (.slice p1 m1 c1), aggV f2 (.slice p2 m2 c2)] w (IPostC (cmpI f1.kind f2.kind) w) := by
  obtain ⟨k1, i1, g1, n1, fn1, a1, b1, s1⟩ := f1
  obtain ⟨k2, i2, g2, n2, fn2, a2, b2, s2⟩ := f2
  exact fNe _ _ _ _ _ _ _ _ _ _ _ _ _ _ _ _ _ _ _ _ w k1 k2 h
theorem cellsR {n : Nat} (ih : ∀ m, n = m + 1 → RCmpS m) : ∀ (N : Nat) (w : World) (B : Nat) (v1 v2 : Value) (l1 l2 : List (Tm n)), l1.length ≤ N → B ≤ w.heap.size → ItemsAt w B n v1 l1 → ItemsAt w B n v2 l2 → GoodL (FT n) (kdT n) l1 → GoodL (FT n) (kdT n) l2 → 2 ≤ l1.length → 2 ≤ l2.length →
    Calls Tryz.prog 187 #[v1, v2] w (IPostC (listsC (kdT n) (cmpTm n) l1 l2) w) := by
  cases n with
  | zero => intro N w B v1 v2 l1 l2 _ _ _ _ _ _ h; rw [Tm.nil0 l1] at h; simp at h
  | succ n =>
  intro N
  induction N with
  | zero => intro w B v1 v2 l1 l2 h _ _ _ _ _ h2; omega
  | succ N ihN =>
    intro w B v1 v2 l1 l2 hN hB h1 h2 f1 f2 e1 e2
    obtain ⟨g1, o1, c1, rfl, hc1, hm1, hg1, hx1⟩ := h1.at_ (by intro e; subst e; simp at e1)
    obtain ⟨g2, o2, c2, rfl, hc2, hm2, hg2, hx2⟩ := h2.at_ (by intro e; subst e; simp at e2)
    obtain ⟨u1, hC1, hI1⟩ := hx1 0 (by omega)
    obtain ⟨u2, hC2, hI2⟩ := hx2 0 (by omega)
    obtain ⟨u3, hC3, hI3⟩ := hx1 1 (by omega)
    obtain ⟨u4, hC4, hI4⟩ := hx2 1 (by omega)
    obtain ⟨q1, d1, rfl, _, _⟩ := hI1.shape
    obtain ⟨q2, d2, rfl, _, _⟩ := hI2.shape
    obtain ⟨q3, d3, rfl, _, _⟩ := hI3.shape
    obtain ⟨q4, d4, rfl, _, _⟩ := hI4.shape
    have F1 := f1.all
    have F2 := f2.all
    have HA := lists_at (kdT (n + 1)) (cmpTm (n + 1)) l1 l2 0 (by omega) (by omega)
    simp only [List.drop_zero, Nat.zero_add] at HA
    obtain ⟨A1, A2, A3, A4, A5⟩ := HA
    have hCall := fun W (hb : Below w.heap.size w W) => ih n rfl W B _ _ l1[0] l2[0] (Nat.le_trans hB hb.size) (hI1.below hb hB) (hI2.below hb hB) (F1 _ (List.getElem_mem _)) (F2 _ (List.getElem_mem _))
    have hCall2 := fun W (hb : Below w.heap.size w W) => ih n rfl W B _ _ l1[1] l2[1] (Nat.le_trans hB hb.size) (hI3.below hb hB) (hI4.below hb hB) (F1 _ (List.getElem_mem _)) (F2 _ (List.getElem_mem _))
    obtain ⟨a, ha⟩ : ∃ a, l1.length = a + 2 := ⟨l1.length - 2, by omega⟩
    obtain ⟨b, hb⟩ : ∃ b, l2.length = b + 2 := ⟨l2.length - 2, by omega⟩
    obtain ⟨x, rfl⟩ : ∃ x, c1 = x + 2 := ⟨c1 - 2, by omega⟩
    obtain ⟨y, rfl⟩ : ∃ y, c2 = y + 2 := ⟨c2 - 2, by omega⟩
    rw [ha] at h1 hc1 ⊢
    rw [hb] at h2 hc2 ⊢
    have r1 : ∃ R1, (∃ f v, R1 = aggV f v) ∧ (∀ W, Below w.heap.size w W → Calls Tryz.prog 206 #[.slice (some ⟨g1, o1, none⟩) (a + 2) (x + 2)] W (VPost R1 W)) ∧ (a = 0 → R1 = aggV l1[1].f (.slice q3 l1[1].items.length d3)) ∧ (a ≠ 0 → ∃ s, x = s + 1 ∧ R1 = aggV listF (.slice (some ⟨g1, o1 + 9, none⟩) (a + 1) (s + 2)) ∧ ItemsAt w B (n + 1) (.slice (some ⟨g1, o1 + 9, none⟩) (a + 1) (s + 2)) (l1.drop 1)) := by
      cases a with
      | zero => exact ⟨_, ⟨_, _, rfl⟩, fun W hb => rest2 g1 o1 _ _ q3 _ d3 W (Nat.lt_of_lt_of_le (Nat.lt_of_lt_of_le hg1 hB) hb.size) ((show o1 + 1 * 9 = o1 + 9 by omega) ▸ hC3.same (hb.block g1 (by omega))), fun _ => rfl, fun h => absurd rfl h⟩
      | succ a =>
        obtain ⟨s, rfl⟩ : ∃ s, x = s + 1 := ⟨x - 1, by omega⟩
        exact ⟨_, ⟨_, _, rfl⟩, fun W hb => rest3 g1 o1 a s W (by omega) (by omega), fun h => by omega, fun _ => ⟨s, rfl, rfl, h1.tail⟩⟩
    have r2 : ∃ R2, (∃ f v, R2 = aggV f v) ∧ (∀ W, Below w.heap.size w W → Calls Tryz.prog 206 #[.slice (some ⟨g2, o2, none⟩) (b + 2) (y + 2)] W (VPost R2 W)) ∧ (b = 0 → R2 = aggV l2[1].f (.slice q4 l2[1].items.length d4)) ∧ (b ≠ 0 → ∃ s, y = s + 1 ∧ R2 = aggV listF (.slice (some ⟨g2, o2 + 9, none⟩) (b + 1) (s + 2)) ∧ ItemsAt w B (n + 1) (.slice (some ⟨g2, o2 + 9, none⟩) (b + 1) (s + 2)) (l2.drop 1)) := by
      cases b with
      | zero => exact ⟨_, ⟨_, _, rfl⟩, fun W hb => rest2 g2 o2 _ _ q4 _ d4 W (Nat.lt_of_lt_of_le (Nat.lt_of_lt_of_le hg2 hB) hb.size) ((show o2 + 1 * 9 = o2 + 9 by omega) ▸ hC4.same (hb.block g2 (by omega))), fun _ => rfl, fun h => absurd rfl h⟩
      | succ b =>
        obtain ⟨s, rfl⟩ : ∃ s, y = s + 1 := ⟨y - 1, by omega⟩
        exact ⟨_, ⟨_, _, rfl⟩, fun W hb => rest3 g2 o2 b s W (by omega) (by omega), fun h => by omega, fun _ => ⟨s, rfl, rfl, h2.tail⟩⟩
    obtain ⟨R1, hs1, hR1, hr10, hr11⟩ := r1
    obtain ⟨R2, hs2, hR2, hr20, hr21⟩ := r2
    refine cellsF g1 o1 g2 o2 a b x y l1[0].f l2[0].f q1 q2 _ d1 _ d2 w (cmpTm (n + 1) l1[0] l2[0]) _ R1 R2 (fun h => A1 h) ((show o1 + 0 * 9 = o1 by omega) ▸ hC1) ((show o2 + 0 * 9 = o2 by omega) ▸ hC2) (by omega) (by omega) hm1 hm2 hCall hR1 hR2 (fun hz W hb => ?_) hs1 hs2
    rw [A2 hz]
    by_cases ea : a = 0
    · rw [hr10 ea]
      have k1 : l1[1].f.kind ≠ 9 := f1.last (by omega)
      by_cases eb : b = 0
      · rw [hr20 eb, A3 (by omega) (by omega)]
        exact hCall2 W hb
      · obtain ⟨s, _, e, _⟩ := hr21 eb
        rw [e, A4 (by omega) (by omega)]
        exact fNe' _ listF _ _ _ _ _ _ W k1
    · obtain ⟨s, _, e, hT1⟩ := hr11 ea
      rw [e]
      by_cases eb : b = 0
      · have k2 : l2[1].f.kind ≠ 9 := f2.last (by omega)
        rw [hr20 eb, A5 (by omega) (by omega)]
        exact fNe' listF _ _ _ _ _ _ _ W (Ne.symm k2)
      · obtain ⟨s2, _, e2, hT2⟩ := hr21 eb
        rw [e2]
        exact f9 0 0 0 0 _ _ _ _ 0 0 _ _ 0 0 _ _ _ _ _ _ W _ (fun W' hb' => ihN W' B _ _ (l1.drop 1) (l2.drop 1) (by simp; omega) (Nat.le_trans hB (Nat.le_trans hb.size hb'.size)) ((hT1.below hb hB).below hb' (Nat.le_trans hB hb.size)) ((hT2.below hb hB).below hb' (Nat.le_trans hB hb.size)) f1.tail f2.tail (by simp; omega) (by simp; omega))
end Go.Proofs.YtnakbepcalciiaaGreat.tm

/- The reference's order: formed at every depth, Compare. Conditions: the terms lie in memory. -/
namespace Go.Proofs.YtnakbepcalciiaaGreat.tm
open Go.RowKit mem names
set_option linter.unusedVariables false
set_option linter.unusedSimpArgs false
set_option maxHeartbeats 4000000
set_option maxRecDepth 100000

theorem cmpI_self (a : Int) : cmpI a a = 0 := cmpI_0 rfl
theorem cmpB_self (a : ByteArray) : cmpB a a = 0 := tpB.refl a
theorem firstL_1 (a : Int) : firstL [a] = a := by
  unfold firstL firstL; split
  next e => exact e.symm
  next => rfl
theorem firstL_c (a : Int) (l : List Int) : firstL (a :: l) = if a = 0 then firstL l else a := rfl
/-- what the reference's formed returns, beside lists, tuples and bits -/
def refH (f1 f2 : TF) (ri : Int) : Int :=
  if f1.kind = 1 then cmpI f1.int f2.int
  else if f1.kind = 2 then cmpB f1.name f2.name
  else if f1.kind = 3 ∨ f1.kind = 6 then firstL [cmpB f1.name f2.name, cmpI f1.gen f2.gen, cmpI f1.int f2.int]
  else if f1.kind = 4 then firstL [cmpB f1.name f2.name, cmpI f1.gen f2.gen, cmpI f1.int f2.int, cmpI f1.arity f2.arity, ri]
  else if f1.kind = 5 then firstL [cmpB f1.name f2.name, cmpB f1.func f2.func, cmpI f1.arity f2.arity]
  else 0
theorem head_ref (f1 f2 : TF) (ri : Int) (hk : f1.kind = f2.kind) (z1 : ({ bareF f1 with kind := 0 } : TF) = zeroF) (z2 : ({ bareF f2 with kind := 0 } : TF) = zeroF) (h7 : f1.kind ≠ 7) (h9 : f1.kind ≠ 9) (h10 : f1.kind ≠ 10) (h0 : f1.kind ≠ 4 → ri = 0) :
    (if headC f1 f2 = 0 then ri else headC f1 f2) = refH f1 f2 ri := by
  obtain ⟨k1, i1, g1, n1, fn1, a1, b1, s1⟩ := f1
  obtain ⟨k2, i2, g2, n2, fn2, a2, b2, s2⟩ := f2
  dsimp only at hk h7 h9 h10 h0
  subst hk
  unfold bareF zeroF at z1 z2
  unfold headC refH
  dsimp only at z1 z2 ⊢
  by_cases h1 : k1 = 1
  · rw [h0 (by omega)]
    rw [if_pos h1] at z1 z2
    simp at z1 z2
    simp only [z1, z2, cmpB_self, cmpI_self, firstL_c, if_pos h1, if_true]
    split <;> simp_all [firstL]
  rw [if_neg h1] at z1 z2 ⊢
  by_cases h2 : k1 = 2
  · rw [h0 (by omega)]
    rw [if_pos h2] at z1 z2
    simp at z1 z2
    simp only [z1, z2, cmpB_self, cmpI_self, firstL_c, if_pos h2, if_true]
    split <;> simp_all [firstL]
  rw [if_neg h2] at z1 z2 ⊢
  by_cases h3 : k1 = 3 ∨ k1 = 6
  · rw [h0 (by omega)]
    rw [if_pos h3] at z1 z2
    simp at z1 z2
    simp only [z1, z2, cmpB_self, cmpI_self, firstL_c, if_pos h3, if_true, firstL]
    generalize cmpB n1 n2 = x
    generalize cmpI g1 g2 = y
    generalize cmpI i1 i2 = z
    repeat' split
    all_goals first | rfl | omega | simp_all
  rw [if_neg h3] at z1 z2 ⊢
  by_cases h4 : k1 = 4
  · rw [if_pos h4] at z1 z2
    simp at z1 z2
    simp only [z1, z2, cmpB_self, cmpI_self, firstL_c, if_pos h4, if_true, firstL]
    generalize cmpB n1 n2 = x
    generalize cmpI g1 g2 = y
    generalize cmpI i1 i2 = z
    generalize cmpI a1 a2 = t
    repeat' split
    all_goals first | rfl | omega | simp_all
  rw [if_neg h4] at z1 z2 ⊢
  by_cases h5 : k1 = 5
  · rw [h0 h4]
    rw [if_pos h5] at z1 z2
    simp at z1 z2
    simp only [z1, z2, cmpB_self, cmpI_self, firstL_c, if_pos h5, if_true, firstL]
    generalize cmpB n1 n2 = x
    generalize cmpB fn1 fn2 = y
    generalize cmpI a1 a2 = z
    repeat' split
    all_goals first | rfl | omega | simp_all
  · rw [h0 h4]
    rw [if_neg h5, if_neg h10] at z1 z2
    simp at z1 z2
    simp only [z1, z2, cmpB_self, cmpI_self, firstL_c, if_neg h5, if_true, firstL]
theorem formedF (x y : TF) (p1 p2 : Option Addr) (m1 c1 m2 c2 : Nat) (ri rl : Int) (w : World)
    (hItems : ∀ W, Below w.heap.size w W → Calls Tryz.prog 186 #[.slice p1 m1 c1, .slice p2 m2 c2] W (IPostC ri W))
    (hLists : x.kind = 9 → y.kind = 9 → ∀ W, Below w.heap.size w W → Calls Tryz.prog 187 #[.slice p1 m1 c1, .slice p2 m2 c2] W (IPostC rl W))
    (hb1 : x.kind = 10 → BitsOK x) (hb2 : y.kind = 10 → BitsOK y) (hkk : 1 ≤ x.kind ∧ x.kind ≤ 10) :
    Calls Tryz.prog 147 #[aggV x (.slice p1 m1 c1), aggV y (.slice p2 m2 c2)] w (IPostC (if x.kind = y.kind then (if x.kind = 7 then ri else if x.kind = 9 then rl else if x.kind = 10 then bitsC x y else refH x y ri) else cmpI x.kind y.kind) w) := by
  by_cases hk : x.kind = y.kind
  case neg => rw [if_neg hk]; exact fNe' _ _ _ _ _ _ _ _ w hk
  rw [if_pos hk]
  have hbb : ∀ W : World, x.kind = 10 → Calls Tryz.prog 188 #[aggV x (.slice p1 m1 c1), aggV y (.slice p2 m2 c2)] W (IPostC (bitsC x y) W) := fun W h => bitsR x y _ _ _ _ _ _ W (hb1 h) (hb2 (by omega))
  unfold refH
  obtain ⟨k1, i1, g1, n1, fn1, a1, b1, s1⟩ := x
  obtain ⟨k2, i2, g2, n2, fn2, a2, b2, s2⟩ := y
  dsimp only at *
  subst hk
  generalize bitsC ⟨k1, i1, g1, n1, fn1, a1, b1, s1⟩ ⟨k1, i2, g2, n2, fn2, a2, b2, s2⟩ = rb at *
  rcases (show k1 = 1 ∨ k1 = 2 ∨ k1 = 3 ∨ k1 = 4 ∨ k1 = 5 ∨ k1 = 6 ∨ k1 = 7 ∨ k1 = 8 ∨ k1 = 9 ∨ k1 = 10 by omega) with rfl | rfl | rfl | rfl | rfl | rfl | rfl | rfl | rfl | rfl
  · exact f1 _ _ _ _ _ _ _ _ _ _ _ _ _ _ _ _ _ _ _ _ w
  · exact f2 _ _ _ _ _ _ _ _ _ _ _ _ _ _ _ _ _ _ _ _ w
  · exact f3 _ _ _ _ _ _ _ _ _ _ _ _ _ _ _ _ _ _ _ _ w
  · exact f4 _ _ _ _ _ _ _ _ _ _ _ _ _ _ _ _ _ _ _ _ w ri hItems
  · exact f5 _ _ _ _ _ _ _ _ _ _ _ _ _ _ _ _ _ _ _ _ w
  · exact f6 _ _ _ _ _ _ _ _ _ _ _ _ _ _ _ _ _ _ _ _ w
  · exact f7 _ _ _ _ _ _ _ _ _ _ _ _ _ _ _ _ _ _ _ _ w ri hItems
  · exact f8 _ _ _ _ _ _ _ _ _ _ _ _ _ _ _ _ _ _ _ _ w
  · exact f9 _ _ _ _ _ _ _ _ _ _ _ _ _ _ _ _ _ _ _ _ w rl (hLists rfl rfl)
  · exact f10 _ _ _ _ _ _ _ _ _ _ _ _ _ _ _ _ _ _ _ _ w rb (fun W _ => hbb W rfl)
theorem ft_kind {n : Nat} {t : Tm (n + 1)} (h : formedT t = true) : 1 ≤ t.f.kind ∧ t.f.kind ≤ 10 := by
  obtain ⟨h1, h2, _, _⟩ := ft_ok h
  have h3 := of_decide_eq_true (show decide _ = true from h1)
  refine ⟨?_, h3.2⟩
  by_cases e : t.f.kind = 0
  · unfold okF at h2
    rw [if_neg (by omega), if_neg (by omega), if_neg (by omega), if_neg (by omega), if_neg (by omega), if_neg (by omega), if_neg (by omega), if_neg (by omega)] at h2
    cases h2
  · omega
theorem formedStep {n : Nat} (ih : ∀ m, n = m + 1 → RCmpS m) : RCmpS n := by
  intro w B v1 v2 a b hB h1 h2 f1 f2
  have F1 := ft_items f1
  have F2 := ft_items f2
  have hItems := fun W (hb : Below w.heap.size w W) => countedR ih W B v1 v2 a.items b.items (Nat.le_trans hB hb.size) (h1.below hb hB) (h2.below hb hB) F1 F2
  have hLists := fun e1 e2 W (hb : Below w.heap.size w W) => cellsR ih a.items.length W B v1 v2 a.items b.items (Nat.le_refl _) (Nat.le_trans hB hb.size) (h1.below hb hB) (h2.below hb hB) (ft_list f1 e1).2 (ft_list f2 e2).2 (ft_list f1 e1).1 (ft_list f2 e2).1
  obtain ⟨p1, c1, rfl, _, _⟩ := h1.shape
  obtain ⟨p2, c2, rfl, _, _⟩ := h2.shape
  have hr : cmpTm (n + 1) a b = (if a.f.kind = b.f.kind then (if a.f.kind = 7 then itemsC (cmpTm n) a.items b.items else if a.f.kind = 9 then listsC (kdT n) (cmpTm n) a.items b.items else if a.f.kind = 10 then bitsC a.f b.f else refH a.f b.f (itemsC (cmpTm n) a.items b.items)) else cmpI a.f.kind b.f.kind) := by
    rw [cmp_body]
    by_cases hk : a.f.kind = b.f.kind
    · rw [if_pos hk, if_pos hk]
      unfold bodyC thenC
      dsimp only
      by_cases h7 : a.f.kind = 7
      · rw [if_pos h7, if_pos h7]
      rw [if_neg h7, if_neg h7]
      by_cases h9 : a.f.kind = 9
      · rw [if_pos h9, if_pos h9]
      rw [if_neg h9, if_neg h9]
      by_cases h10 : a.f.kind = 10
      · rw [if_pos h10, if_pos h10]
      rw [if_neg h10, if_neg h10]
      obtain ⟨_, _, z1, y1⟩ := ft_ok f1
      obtain ⟨_, _, z2, y2⟩ := ft_ok f2
      refine head_ref a.f b.f _ hk z1 z2 h7 h9 h10 (fun h4 => ?_)
      rw [if_neg (by omega)] at y1 y2
      rw [List.length_eq_zero_iff.1 y1, List.length_eq_zero_iff.1 y2]; rfl
    · rw [if_neg hk, if_neg hk]
  rw [hr]
  exact formedF a.f b.f p1 p2 _ c1 _ c2 _ _ w hItems hLists (fun h => ft_bits f1 h) (fun h => ft_bits f2 h) (ft_kind f1)
theorem formedAll : ∀ n, RCmpS n
  | 0 => formedStep (fun m h => by omega)
  | n + 1 => formedStep (fun m h => by obtain rfl : n = m := by omega
                                       exact formedAll n)
theorem compareRF (x y : TF) (p1 p2 : Option Addr) (m1 c1 m2 c2 : Nat) (va vb : Bool) (r : Int) (w : World)
    (hV1 : ∀ W, Below w.heap.size w W → Calls Tryz.prog 34 #[aggV x (.slice p1 m1 c1)] W (BPost va W))
    (hV2 : ∀ W, Below w.heap.size w W → Calls Tryz.prog 34 #[aggV y (.slice p2 m2 c2)] W (BPost vb W))
    (hC : va = true → vb = true → ∀ W, Below w.heap.size w W → Calls Tryz.prog 147 #[aggV x (.slice p1 m1 c1), aggV y (.slice p2 m2 c2)] W (IPostC r W)) :
    Calls Tryz.prog 87 #[aggV x (.slice p1 m1 c1), aggV y (.slice p2 m2 c2)] w (IPostC (if va = true then (if vb = true then r else 1) else (if vb = true then -1 else 0)) w) := by
  generalize hres : (if va = true then (if vb = true then r else 1) else (if vb = true then -1 else 0)) = res
  have HRes := Lib.hid hres
  clear hres
  have HV1 := Lib.hid hV1
  have HV2 := Lib.hid hV2
  have HC := Lib.hid hC
  clear hV1 hV2 hC
  obtain ⟨k1, i1, g1, n1, fn1, a1, b1, s1⟩ := x
  obtain ⟨k2, i2, g2, n2, fn2, a2, b2, s2⟩ := y
  unfold aggV BPost IPostC at *
  dsimp only at *
  go_enter Tryz.func87, Tryz.ntmps87
  go_wp2_with fail
  obtain ⟨hN1, hN2, hbw, hsz⟩ := boxes2 w ⟨k1, i1, g1, n1, fn1, a1, b1, s1⟩ ⟨k2, i2, g2, n2, fn2, a2, b2, s2⟩ (.slice p1 m1 c1) (.slice p2 m2 c2)
  unfold cells9 at hN1 hN2 hbw hsz
  dsimp only at hN1 hN2 hbw hsz
  generalize ((w.alloc (.cells #[.int .i64 k1, .int .i64 i1, .int .i64 g1, .string n1, .string fn1, .int .i64 a1, .slice p1 m1 c1, .string b1, .int .i64 s1] 30)).alloc (.cells #[.int .i64 k2, .int .i64 i2, .int .i64 g2, .string n2, .string fn2, .int .i64 a2, .slice p2 m2 c2, .string b2, .int .i64 s2] 30)) = W0 at *
  have HZ1 : Hid (w.heap.size < W0.heap.size) := Lib.hid (by omega)
  have HZ2 : Hid (w.heap.size + 1 < W0.heap.size) := Lib.hid (by omega)
  clear hsz
  have HN1 := Lib.hid hN1
  have HN2 := Lib.hid hN2
  obtain ⟨x0, x1, x2, x3, x4, x5, x6, x7, x8, xz⟩ := hN1
  obtain ⟨y0, y1, y2, y3, y4, y5, y6, y7, y8, yz⟩ := hN2
  dsimp only at x0 x1 x2 x3 x4 x5 x6 x7 x8 y0 y1 y2 y3 y4 y5 y6 y7 y8
  have hbd : Below w.heap.size w (W0.drewN 1) := hbw.drewN 1
  have HD1 := Lib.hid (show Nine (W0.drewN 1) w.heap.size ⟨k1, i1, g1, n1, fn1, a1, b1, s1⟩ (.slice p1 m1 c1) from nine_drew HN1.out)
  have HD2 := Lib.hid (show Nine (W0.drewN 1) (w.heap.size + 1) ⟨k2, i2, g2, n2, fn2, a2, b2, s2⟩ (.slice p2 m2 c2) from nine_drew HN2.out)
  go_region_held3 (fun w' => (w'.cell? ⟨w.heap.size, 0, none⟩ = some (.int .i64 k1) ∧ w'.cell? ⟨w.heap.size, 1, none⟩ = some (.int .i64 i1) ∧ w'.cell? ⟨w.heap.size, 2, none⟩ = some (.int .i64 g1) ∧ w'.cell? ⟨w.heap.size, 3, none⟩ = some (.string n1) ∧ w'.cell? ⟨w.heap.size, 4, none⟩ = some (.string fn1) ∧ w'.cell? ⟨w.heap.size, 5, none⟩ = some (.int .i64 a1) ∧ w'.cell? ⟨w.heap.size, 6, none⟩ = some (.slice p1 m1 c1) ∧ w'.cell? ⟨w.heap.size, 7, none⟩ = some (.string b1) ∧ w'.cell? ⟨w.heap.size, 8, none⟩ = some (.int .i64 s1)) ∧ w'.cell? ⟨w.heap.size + 1, 0, none⟩ = some (.int .i64 k2) ∧ w'.cell? ⟨w.heap.size + 1, 1, none⟩ = some (.int .i64 i2) ∧ w'.cell? ⟨w.heap.size + 1, 2, none⟩ = some (.int .i64 g2) ∧ w'.cell? ⟨w.heap.size + 1, 3, none⟩ = some (.string n2) ∧ w'.cell? ⟨w.heap.size + 1, 4, none⟩ = some (.string fn2) ∧ w'.cell? ⟨w.heap.size + 1, 5, none⟩ = some (.int .i64 a2) ∧ w'.cell? ⟨w.heap.size + 1, 6, none⟩ = some (.slice p2 m2 c2) ∧ w'.cell? ⟨w.heap.size + 1, 7, none⟩ = some (.string b2) ∧ w'.cell? ⟨w.heap.size + 1, 8, none⟩ = some (.int .i64 s2)) (go_keep)
    (first
      | (go_at_call 34; refine (HV1.out _ hbd).mono ?_; rintro e w1 ⟨rfl, hb⟩; have hbe := hbd.trans (hb.mono hbd.size); have HM1 := Lib.hid (HD1.out.below hb HZ1.out); have HM2 := Lib.hid (HD2.out.below hb HZ2.out); obtain ⟨z0, z1, z2, z3, z4, z5, z6, z7, z8, zz⟩ := HM1.out; obtain ⟨t0, t1, t2, t3, t4, t5, t6, t7, t8, tz⟩ := HM2.out; dsimp only at z0 z1 z2 z3 z4 z5 z6 z7 z8 t0 t1 t2 t3 t4 t5 t6 t7 t8)
      | (go_at_call 34; refine (HV2.out _ hbd).mono ?_; rintro e w1 ⟨rfl, hb⟩; have hbe := hbd.trans (hb.mono hbd.size); have HM1 := Lib.hid (HD1.out.below hb HZ1.out); have HM2 := Lib.hid (HD2.out.below hb HZ2.out); obtain ⟨z0, z1, z2, z3, z4, z5, z6, z7, z8, zz⟩ := HM1.out; obtain ⟨t0, t1, t2, t3, t4, t5, t6, t7, t8, tz⟩ := HM2.out; dsimp only at z0 z1 z2 z3 z4 z5 z6 z7 z8 t0 t1 t2 t3 t4 t5 t6 t7 t8)
      | (go_at_call 34; refine (HV1.out _ hbe).mono ?_; rintro e w2 ⟨rfl, hb2⟩; have hbf := hbe.trans (hb2.mono hbe.size); have hz1 := Nat.lt_of_lt_of_le HZ1.out hb.size; have hz2 := Nat.lt_of_lt_of_le HZ2.out hb.size; have HL1 := Lib.hid (HM1.out.below hb2 hz1); have HL2 := Lib.hid (HM2.out.below hb2 hz2); obtain ⟨z0, z1, z2, z3, z4, z5, z6, z7, z8, zz⟩ := HL1.out; obtain ⟨t0, t1, t2, t3, t4, t5, t6, t7, t8, tz⟩ := HL2.out; dsimp only at z0 z1 z2 z3 z4 z5 z6 z7 z8 t0 t1 t2 t3 t4 t5 t6 t7 t8)
      | (go_at_call 34; refine (HV2.out _ hbe).mono ?_; rintro e w2 ⟨rfl, hb2⟩; have hbf := hbe.trans (hb2.mono hbe.size); have hz1 := Nat.lt_of_lt_of_le HZ1.out hb.size; have hz2 := Nat.lt_of_lt_of_le HZ2.out hb.size; have HL1 := Lib.hid (HM1.out.below hb2 hz1); have HL2 := Lib.hid (HM2.out.below hb2 hz2); obtain ⟨z0, z1, z2, z3, z4, z5, z6, z7, z8, zz⟩ := HL1.out; obtain ⟨t0, t1, t2, t3, t4, t5, t6, t7, t8, tz⟩ := HL2.out; dsimp only at z0 z1 z2 z3 z4 z5 z6 z7 z8 t0 t1 t2 t3 t4 t5 t6 t7 t8))
  · clear HM1 HM2 HL1 HL2 HN1 HN2 x0 x1 x2 x3 x4 x5 x6 x7 x8 xz y0 y1 y2 y3 y4 y5 y6 y7 y8 yz HV1 HV2
    cases va
    · cases vb
      · have HF := Lib.hid (show 0 = res from HRes.out)
        go_wp2_with fail
        go_ret
        exact ⟨ret1i HF.out, by assumption⟩
      · have HF := Lib.hid (show -1 = res from HRes.out)
        go_wp2_with fail
        go_ret
        exact ⟨ret1i HF.out, by assumption⟩
    · cases vb
      · have HF := Lib.hid (show 1 = res from HRes.out)
        go_wp2_with fail
        go_ret
        exact ⟨ret1i HF.out, by assumption⟩
      · have HF := Lib.hid (show r = res from HRes.out)
        have HC2 := Lib.hid (HC.out rfl rfl _ hbf)
        clear HC
        go_wp2_with fail
        refine HC2.out.mono ?_
        rintro e w3 ⟨rfl, hb3⟩
        go_wp2_with fail
        go_ret
        exact ⟨ret1i HF.out, hbf.trans (hb3.mono hbf.size)⟩
theorem RCompare {n : Nat} (w : World) (B : Nat) (v1 v2 : Value) (a b : Tm (n + 1)) (hB : B ≤ w.heap.size) (h1 : ItemsAt w B n v1 a.items) (h2 : ItemsAt w B n v2 b.items) (s1 : 300 * (nodesT a : Int) ≤ 1000000000000) (s2 : 300 * (nodesT b : Int) ≤ 1000000000000) :
    Calls Tryz.prog 87 #[aggV a.f v1, aggV b.f v2] w (IPostC (cmpV a b) w) := by
  have hV1 := fun W (hb : Below w.heap.size w W) => RValid W B v1 a (Nat.le_trans hB hb.size) (h1.below hb hB) s1
  have hV2 := fun W (hb : Below w.heap.size w W) => RValid W B v2 b (Nat.le_trans hB hb.size) (h2.below hb hB) s2
  have hC := fun f1 f2 W (hb : Below w.heap.size w W) => formedAll n W B v1 v2 a b (Nat.le_trans hB hb.size) (h1.below hb hB) (h2.below hb hB) (valid_formed f1) (valid_formed f2)
  obtain ⟨p1, c1, rfl, _, _⟩ := h1.shape
  obtain ⟨p2, c2, rfl, _, _⟩ := h2.shape
  exact compareRF a.f b.f p1 p2 _ c1 _ c2 (validT a) (validT b) _ w hV1 hV2 hC
end Go.Proofs.YtnakbepcalciiaaGreat.tm
