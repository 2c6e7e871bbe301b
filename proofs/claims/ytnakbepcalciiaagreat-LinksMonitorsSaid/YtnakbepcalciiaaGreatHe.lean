/- Several texts in one, one behind the other: LkUw, LkMc, LkMd, LkMf, LkMh. No condition beyond theirs. -/
import Derived.Test.YtnakbepcalciiaaGreatHd
import Derived.Test.YtnakbepcalciiaaGreatHa
import Derived.Test.YtnakbepcalciiaaGreatHc
import Derived.Test.YtnakbepcalciiaaGreatGv
import Derived.Test.YtnakbepcalciiaaGreatGt
import Derived.Test.YtnakbepcalciiaaGreatGa
import Derived.Maps.AppendAt
/- Unwatch. Conditions: the object was made by New; the term lies in memory. -/
namespace Go.Proofs.YtnakbepcalciiaaGreat.lk
open Go.RowKit mem rec tm names pm
set_option linter.unusedVariables false
set_option linter.unusedSimpArgs false
set_option maxHeartbeats 4000000
set_option maxRecDepth 100000
theorem st12_0 {w : World} {g : Nat} {a0 a1 a2 a3 a4 a5 a6 a7 a8 a9 a10 a11 b : Value} {t : TypeId} (h : w.heap[g]? = some (.cells #[a0, a1, a2, a3, a4, a5, a6, a7, a8, a9, a10, a11] t)) : (w.setCell ⟨g, 0, none⟩ b).heap[g]? = some (.cells #[b, a1, a2, a3, a4, a5, a6, a7, a8, a9, a10, a11] t) := heap_setCell_same w g 0 _ t b h
theorem st12_1 {w : World} {g : Nat} {a0 a1 a2 a3 a4 a5 a6 a7 a8 a9 a10 a11 b : Value} {t : TypeId} (h : w.heap[g]? = some (.cells #[a0, a1, a2, a3, a4, a5, a6, a7, a8, a9, a10, a11] t)) : (w.setCell ⟨g, 1, none⟩ b).heap[g]? = some (.cells #[a0, b, a2, a3, a4, a5, a6, a7, a8, a9, a10, a11] t) := heap_setCell_same w g 1 _ t b h
theorem st12_2 {w : World} {g : Nat} {a0 a1 a2 a3 a4 a5 a6 a7 a8 a9 a10 a11 b : Value} {t : TypeId} (h : w.heap[g]? = some (.cells #[a0, a1, a2, a3, a4, a5, a6, a7, a8, a9, a10, a11] t)) : (w.setCell ⟨g, 2, none⟩ b).heap[g]? = some (.cells #[a0, a1, b, a3, a4, a5, a6, a7, a8, a9, a10, a11] t) := heap_setCell_same w g 2 _ t b h
theorem st12_3 {w : World} {g : Nat} {a0 a1 a2 a3 a4 a5 a6 a7 a8 a9 a10 a11 b : Value} {t : TypeId} (h : w.heap[g]? = some (.cells #[a0, a1, a2, a3, a4, a5, a6, a7, a8, a9, a10, a11] t)) : (w.setCell ⟨g, 3, none⟩ b).heap[g]? = some (.cells #[a0, a1, a2, b, a4, a5, a6, a7, a8, a9, a10, a11] t) := heap_setCell_same w g 3 _ t b h
theorem st12_4 {w : World} {g : Nat} {a0 a1 a2 a3 a4 a5 a6 a7 a8 a9 a10 a11 b : Value} {t : TypeId} (h : w.heap[g]? = some (.cells #[a0, a1, a2, a3, a4, a5, a6, a7, a8, a9, a10, a11] t)) : (w.setCell ⟨g, 4, none⟩ b).heap[g]? = some (.cells #[a0, a1, a2, a3, b, a5, a6, a7, a8, a9, a10, a11] t) := heap_setCell_same w g 4 _ t b h
theorem st12_5 {w : World} {g : Nat} {a0 a1 a2 a3 a4 a5 a6 a7 a8 a9 a10 a11 b : Value} {t : TypeId} (h : w.heap[g]? = some (.cells #[a0, a1, a2, a3, a4, a5, a6, a7, a8, a9, a10, a11] t)) : (w.setCell ⟨g, 5, none⟩ b).heap[g]? = some (.cells #[a0, a1, a2, a3, a4, b, a6, a7, a8, a9, a10, a11] t) := heap_setCell_same w g 5 _ t b h
theorem st12_6 {w : World} {g : Nat} {a0 a1 a2 a3 a4 a5 a6 a7 a8 a9 a10 a11 b : Value} {t : TypeId} (h : w.heap[g]? = some (.cells #[a0, a1, a2, a3, a4, a5, a6, a7, a8, a9, a10, a11] t)) : (w.setCell ⟨g, 6, none⟩ b).heap[g]? = some (.cells #[a0, a1, a2, a3, a4, a5, b, a7, a8, a9, a10, a11] t) := heap_setCell_same w g 6 _ t b h
theorem st12_7 {w : World} {g : Nat} {a0 a1 a2 a3 a4 a5 a6 a7 a8 a9 a10 a11 b : Value} {t : TypeId} (h : w.heap[g]? = some (.cells #[a0, a1, a2, a3, a4, a5, a6, a7, a8, a9, a10, a11] t)) : (w.setCell ⟨g, 7, none⟩ b).heap[g]? = some (.cells #[a0, a1, a2, a3, a4, a5, a6, b, a8, a9, a10, a11] t) := heap_setCell_same w g 7 _ t b h
theorem st12_8 {w : World} {g : Nat} {a0 a1 a2 a3 a4 a5 a6 a7 a8 a9 a10 a11 b : Value} {t : TypeId} (h : w.heap[g]? = some (.cells #[a0, a1, a2, a3, a4, a5, a6, a7, a8, a9, a10, a11] t)) : (w.setCell ⟨g, 8, none⟩ b).heap[g]? = some (.cells #[a0, a1, a2, a3, a4, a5, a6, a7, b, a9, a10, a11] t) := heap_setCell_same w g 8 _ t b h
theorem st12_9 {w : World} {g : Nat} {a0 a1 a2 a3 a4 a5 a6 a7 a8 a9 a10 a11 b : Value} {t : TypeId} (h : w.heap[g]? = some (.cells #[a0, a1, a2, a3, a4, a5, a6, a7, a8, a9, a10, a11] t)) : (w.setCell ⟨g, 9, none⟩ b).heap[g]? = some (.cells #[a0, a1, a2, a3, a4, a5, a6, a7, a8, b, a10, a11] t) := heap_setCell_same w g 9 _ t b h
theorem st12_10 {w : World} {g : Nat} {a0 a1 a2 a3 a4 a5 a6 a7 a8 a9 a10 a11 b : Value} {t : TypeId} (h : w.heap[g]? = some (.cells #[a0, a1, a2, a3, a4, a5, a6, a7, a8, a9, a10, a11] t)) : (w.setCell ⟨g, 10, none⟩ b).heap[g]? = some (.cells #[a0, a1, a2, a3, a4, a5, a6, a7, a8, a9, b, a11] t) := heap_setCell_same w g 10 _ t b h
theorem st12_11 {w : World} {g : Nat} {a0 a1 a2 a3 a4 a5 a6 a7 a8 a9 a10 a11 b : Value} {t : TypeId} (h : w.heap[g]? = some (.cells #[a0, a1, a2, a3, a4, a5, a6, a7, a8, a9, a10, a11] t)) : (w.setCell ⟨g, 11, none⟩ b).heap[g]? = some (.cells #[a0, a1, a2, a3, a4, a5, a6, a7, a8, a9, a10, b] t) := heap_setCell_same w g 11 _ t b h
theorem c12s {w : World} {g : Nat} {a0 a1 a2 a3 a4 a5 a6 a7 a8 a9 a10 a11 b0 b1 b2 b3 b4 b5 b6 b7 b8 b9 b10 b11 : Value} {t : TypeId} (h : w.heap[g]? = some (.cells #[a0, a1, a2, a3, a4, a5, a6, a7, a8, a9, a10, a11] t)) : ((((((((((((w.setCell ⟨g, 0, none⟩ b0).setCell ⟨g, 1, none⟩ b1).setCell ⟨g, 2, none⟩ b2).setCell ⟨g, 3, none⟩ b3).setCell ⟨g, 4, none⟩ b4).setCell ⟨g, 5, none⟩ b5).setCell ⟨g, 6, none⟩ b6).setCell ⟨g, 7, none⟩ b7).setCell ⟨g, 8, none⟩ b8).setCell ⟨g, 9, none⟩ b9).setCell ⟨g, 10, none⟩ b10).setCell ⟨g, 11, none⟩ b11).heap[g]? = some (.cells #[b0, b1, b2, b3, b4, b5, b6, b7, b8, b9, b10, b11] t) :=
  st12_11 (st12_10 (st12_9 (st12_8 (st12_7 (st12_6 (st12_5 (st12_4 (st12_3 (st12_2 (st12_1 (st12_0 h)))))))))))
theorem c12b {w0 w : World} {B g : Nat} {b0 b1 b2 b3 b4 b5 b6 b7 b8 b9 b10 b11 : Value} (hg : B ≤ g) (h : Below B w0 w) : Below B w0 ((((((((((((w.setCell ⟨g, 0, none⟩ b0).setCell ⟨g, 1, none⟩ b1).setCell ⟨g, 2, none⟩ b2).setCell ⟨g, 3, none⟩ b3).setCell ⟨g, 4, none⟩ b4).setCell ⟨g, 5, none⟩ b5).setCell ⟨g, 6, none⟩ b6).setCell ⟨g, 7, none⟩ b7).setCell ⟨g, 8, none⟩ b8).setCell ⟨g, 9, none⟩ b9).setCell ⟨g, 10, none⟩ b10).setCell ⟨g, 11, none⟩ b11) := by
  have h1 := h.setCell (p := ⟨g, 0, none⟩) hg b0
  have h2 := h1.setCell (p := ⟨g, 1, none⟩) hg b1
  have h3 := h2.setCell (p := ⟨g, 2, none⟩) hg b2
  have h4 := h3.setCell (p := ⟨g, 3, none⟩) hg b3
  have h5 := h4.setCell (p := ⟨g, 4, none⟩) hg b4
  have h6 := h5.setCell (p := ⟨g, 5, none⟩) hg b5
  have h7 := h6.setCell (p := ⟨g, 6, none⟩) hg b6
  have h8 := h7.setCell (p := ⟨g, 7, none⟩) hg b7
  have h9 := h8.setCell (p := ⟨g, 8, none⟩) hg b8
  have h10 := h9.setCell (p := ⟨g, 9, none⟩) hg b9
  have h11 := h10.setCell (p := ⟨g, 10, none⟩) hg b10
  have h12 := h11.setCell (p := ⟨g, 11, none⟩) hg b11
  exact h12
def unwF (ok : Bool) (s : LkSt) (r : Id) : Option Mn := if ok then pFind s.M r else none
def unwS (f : Option Mn) (s : LkSt) (r : Id) : LkSt := if f.isSome then { s with M := pDel s.M r } else s
def UnwP (f : Option Mn) (s : LkSt) (r : Id) (z mh mm : Nat) (w : World) (e : Ending) (w' : World) : Prop := e = .returned (.tuple #[.agg (mnTL (f.getD zMn)).toArray, .bool f.isSome]) ∧ LkAt w' z mh mm (unwS f s r) ∧ TouchB (LkS z mh mm) w w'
theorem unwatch31 {n : Nat} {w : World} {z mh mm : Nat} {s : LkSt} (h : LkAt w z mh mm s) (B : Nat) (va : Value) (ta : Tm (n + 1)) (hB : B ≤ w.heap.size) (ha : ItemsAt w B n va ta.items) :
    Calls Tryz.prog 31 #[.pointer (some ⟨z, 0, none⟩), aggV ta.f va] w (UnwP (unwF (decide (ta.f.kind = 3) && validT ta) s (idOf ta.f)) s (idOf ta.f) z mh mm w) := by
  have HOA := Lib.hid (fun W (hW : Below w.heap.size w W) => of86N W B va ta 3 (Nat.le_trans hB hW.size) (ha.below hW hB) (.inl rfl))
  have HN := Lib.hid (fun W (hW : Below w.heap.size w W) => none85 (h.below hW).obj)
  have H0 := Lib.hid h
  obtain ⟨pa, ca, rfl, _, _⟩ := ha.shape
  clear ha hB h
  generalize (decide (ta.f.kind = 3) && validT ta) = ra at *
  generalize ta.items.length = na at *
  generalize ta.f = fa at *
  obtain ⟨ak, ai, ag, an, af, aa, ab, az⟩ := fa
  unfold aggV idV idOf at *
  dsimp only at *
  have hA0 := alloc_new w (.cells #[.int .i64 ak, .int .i64 ai, .int .i64 ag, .string an, .string af, .int .i64 aa, .slice pa na ca, .string ab, .int .i64 az] 30)
  have hb2 := two_boxes w (.cells #[.int .i64 ak, .int .i64 ai, .int .i64 ag, .string an, .string af, .int .i64 aa, .slice pa na ca, .string ab, .int .i64 az] 30) (.cells #[.int .i64 0, .int .i64 0, .int .i64 0, .string ⟨#[]⟩, .string ⟨#[]⟩, .int .i64 0, .slice none 0 0, .string ⟨#[]⟩, .int .i64 0, .int .i64 0, .int .i64 0, .int .i64 0, .string ⟨#[]⟩, .string ⟨#[]⟩, .int .i64 0, .slice none 0 0, .string ⟨#[]⟩, .int .i64 0, .int .i64 0, .int .i64 0, .int .i64 0, .string ⟨#[]⟩, .string ⟨#[]⟩, .int .i64 0, .slice none 0 0, .string ⟨#[]⟩, .int .i64 0] 47)
  have hA := nineC ((belowA (Below.refl (w.alloc (.cells #[.int .i64 ak, .int .i64 ai, .int .i64 ag, .string an, .string af, .int .i64 aa, .slice pa na ca, .string ab, .int .i64 az] 30)).heap.size _) (.cells #[.int .i64 0, .int .i64 0, .int .i64 0, .string ⟨#[]⟩, .string ⟨#[]⟩, .int .i64 0, .slice none 0 0, .string ⟨#[]⟩, .int .i64 0, .int .i64 0, .int .i64 0, .int .i64 0, .string ⟨#[]⟩, .string ⟨#[]⟩, .int .i64 0, .slice none 0 0, .string ⟨#[]⟩, .int .i64 0, .int .i64 0, .int .i64 0, .int .i64 0, .string ⟨#[]⟩, .string ⟨#[]⟩, .int .i64 0, .slice none 0 0, .string ⟨#[]⟩, .int .i64 0] 47) (Nat.le_refl _)).block w.heap.size (by rw [World.size_alloc]; omega) |>.trans hA0)
  have hR := alloc_new (w.alloc (.cells #[.int .i64 ak, .int .i64 ai, .int .i64 ag, .string an, .string af, .int .i64 aa, .slice pa na ca, .string ab, .int .i64 az] 30)) (.cells #[.int .i64 0, .int .i64 0, .int .i64 0, .string ⟨#[]⟩, .string ⟨#[]⟩, .int .i64 0, .slice none 0 0, .string ⟨#[]⟩, .int .i64 0, .int .i64 0, .int .i64 0, .int .i64 0, .string ⟨#[]⟩, .string ⟨#[]⟩, .int .i64 0, .slice none 0 0, .string ⟨#[]⟩, .int .i64 0, .int .i64 0, .int .i64 0, .int .i64 0, .string ⟨#[]⟩, .string ⟨#[]⟩, .int .i64 0, .slice none 0 0, .string ⟨#[]⟩, .int .i64 0] 47)
  rw [World.size_alloc] at hR
  have hs2 : ((w.alloc (.cells #[.int .i64 ak, .int .i64 ai, .int .i64 ag, .string an, .string af, .int .i64 aa, .slice pa na ca, .string ab, .int .i64 az] 30)).alloc (.cells #[.int .i64 0, .int .i64 0, .int .i64 0, .string ⟨#[]⟩, .string ⟨#[]⟩, .int .i64 0, .slice none 0 0, .string ⟨#[]⟩, .int .i64 0, .int .i64 0, .int .i64 0, .int .i64 0, .string ⟨#[]⟩, .string ⟨#[]⟩, .int .i64 0, .slice none 0 0, .string ⟨#[]⟩, .int .i64 0, .int .i64 0, .int .i64 0, .int .i64 0, .string ⟨#[]⟩, .string ⟨#[]⟩, .int .i64 0, .slice none 0 0, .string ⟨#[]⟩, .int .i64 0] 47)).heap.size = w.heap.size + 2 := by rw [World.size_alloc, World.size_alloc]
  have HA := Lib.hid hA
  have HR := Lib.hid hR
  have HB2 := Lib.hid hb2
  have HS2 := Lib.hid hs2
  clear hA0 hA hR hb2 hs2
  have hsz27 : (Tryz.prog.info? 47).map (·.size) = some 27 := by kernel_rfl
  have HEnd : Hid (∀ (W : World) (cs : List Value) (hl : cs.length = 27) (h1 : ∀ u ∈ cs, u.oneCell' = true), Below w.heap.size w W → True) := Lib.hid (fun _ _ _ _ _ => trivial)
  clear HEnd
  go_enter Tryz.func31, Tryz.ntmps31
  go_upto_region 1 with (fail)
  generalize ((w.alloc (.cells #[.int .i64 ak, .int .i64 ai, .int .i64 ag, .string an, .string af, .int .i64 aa, .slice pa na ca, .string ab, .int .i64 az] 30)).alloc (.cells #[.int .i64 0, .int .i64 0, .int .i64 0, .string ⟨#[]⟩, .string ⟨#[]⟩, .int .i64 0, .slice none 0 0, .string ⟨#[]⟩, .int .i64 0, .int .i64 0, .int .i64 0, .int .i64 0, .string ⟨#[]⟩, .string ⟨#[]⟩, .int .i64 0, .slice none 0 0, .string ⟨#[]⟩, .int .i64 0, .int .i64 0, .int .i64 0, .int .i64 0, .string ⟨#[]⟩, .string ⟨#[]⟩, .int .i64 0, .slice none 0 0, .string ⟨#[]⟩, .int .i64 0] 47)) = W1 at *
  have hRl : w.heap.size + 1 < W1.heap.size := by have := HS2.out; omega
  obtain ⟨x0, x1, x2, x3, x4, x5, x6, x7, x8, xf⟩ := HA.out
  go_wp2_with fail
  refine (HOA.out _ HB2.out).mono ?_
  rintro e W2 ⟨rfl, hb2⟩
  clear x0 x1 x2 x3 x4 x5 x6 x7 x8 xf HOA HA
  go_upto_region 2 with (fail)
  have hb3 := belowA hb2 (.cells #[.int .i64 ak, .string an, .int .i64 ag, .int .i64 ai] 147) hb2.size
  have hQ := alloc_new W2 (.cells #[.int .i64 ak, .string an, .int .i64 ag, .int .i64 ai] 147)
  have hlQ : W2.heap.size < (W2.alloc (.cells #[.int .i64 ak, .string an, .int .i64 ag, .int .i64 ai] 147)).heap.size := by rw [World.size_alloc]; omega
  have hgQ := hb2.size
  clear hb2
  generalize (W2.alloc (.cells #[.int .i64 ak, .string an, .int .i64 ag, .int .i64 ai] 147)) = W3 at *
  generalize W2.heap.size = zr at *
  have hR3 := Lib.hid ((hb3.block _ hRl).trans HR.out)
  have hRl3 := Nat.lt_of_lt_of_le hRl hb3.size
  have HB3 := Lib.hid (HB2.out.trans (hb3.mono HB2.out.size))
  have HRz := Lib.hid (fun W (hW : Below W3.heap.size W3 W) => (hW.block _ hRl3).trans hR3.out)
  have HQa := Lib.hid (fun W (hW : Below W3.heap.size W3 W) => four_cells ((hW.block _ hlQ).trans hQ))
  have HS3 := Lib.hid (H0.out.below HB3.out)
  have hN3 := HN.out _ HB3.out
  clear hb3 HN hQ HR HB2 HS2 hR3
  cases ra
  · go_wp2_with fail
    refine hN3.mono ?_
    rintro e w1 ⟨rfl, hw1⟩
    subst hw1
    go_wp2_with (refine wpList_store_row rfl 47 (.tmp 4) (.tmp 20) rfl (w.heap.size + 1) #[.int .i64 0, .int .i64 0, .int .i64 0, .string ⟨#[]⟩, .string ⟨#[]⟩, .int .i64 0, .slice none 0 0, .string ⟨#[]⟩, .int .i64 0, .int .i64 0, .int .i64 0, .int .i64 0, .string ⟨#[]⟩, .string ⟨#[]⟩, .int .i64 0, .slice none 0 0, .string ⟨#[]⟩, .int .i64 0, .int .i64 0, .int .i64 0, .int .i64 0, .string ⟨#[]⟩, .string ⟨#[]⟩, .int .i64 0, .slice none 0 0, .string ⟨#[]⟩, .int .i64 0] rfl rfl 47 _ (HRz.out _ (Below.refl _ _)) hsz27 rfl (by decide +kernel) ?_)
    have hr4 := setRow_heap W3 (w.heap.size + 1) _ #[.int .i64 0, .int .i64 0, .int .i64 0, .string ⟨#[]⟩, .string ⟨#[]⟩, .int .i64 0, .slice none 0 0, .string ⟨#[]⟩, .int .i64 0, .int .i64 0, .int .i64 0, .int .i64 0, .string ⟨#[]⟩, .string ⟨#[]⟩, .int .i64 0, .slice none 0 0, .string ⟨#[]⟩, .int .i64 0, .int .i64 0, .int .i64 0, .int .i64 0, .string ⟨#[]⟩, .string ⟨#[]⟩, .int .i64 0, .slice none 0 0, .string ⟨#[]⟩, .int .i64 0] 47 (0, 0) (HRz.out _ (Below.refl _ _))
    have ht4 : TouchB (fun i => i = w.heap.size + 1) W3 (W3.setRow (w.heap.size + 1) #[.int .i64 0, .int .i64 0, .int .i64 0, .string ⟨#[]⟩, .string ⟨#[]⟩, .int .i64 0, .slice none 0 0, .string ⟨#[]⟩, .int .i64 0, .int .i64 0, .int .i64 0, .int .i64 0, .string ⟨#[]⟩, .string ⟨#[]⟩, .int .i64 0, .slice none 0 0, .string ⟨#[]⟩, .int .i64 0, .int .i64 0, .int .i64 0, .int .i64 0, .string ⟨#[]⟩, .string ⟨#[]⟩, .int .i64 0, .slice none 0 0, .string ⟨#[]⟩, .int .i64 0]) := ⟨rfl, rfl, rfl, by simp, fun k hk hn => by simp [World.setRow, Array.getElem?_modify, show ¬ w.heap.size + 1 = k from fun e => hn e.symm]⟩
    have hb4 := (HB3.out).trans (ht4.below (fun k hk => by rw [hk]; exact Nat.le_succ _) (HB3.out).size)
    clear ht4
    generalize (W3.setRow (w.heap.size + 1) #[.int .i64 0, .int .i64 0, .int .i64 0, .string ⟨#[]⟩, .string ⟨#[]⟩, .int .i64 0, .slice none 0 0, .string ⟨#[]⟩, .int .i64 0, .int .i64 0, .int .i64 0, .int .i64 0, .string ⟨#[]⟩, .string ⟨#[]⟩, .int .i64 0, .slice none 0 0, .string ⟨#[]⟩, .int .i64 0, .int .i64 0, .int .i64 0, .int .i64 0, .string ⟨#[]⟩, .string ⟨#[]⟩, .int .i64 0, .slice none 0 0, .string ⟨#[]⟩, .int .i64 0]) = W4 at *
    refine bodyPost_ret (v := .tuple #[.agg #[.int .i64 0, .int .i64 0, .int .i64 0, .string ⟨#[]⟩, .string ⟨#[]⟩, .int .i64 0, .slice none 0 0, .string ⟨#[]⟩, .int .i64 0, .int .i64 0, .int .i64 0, .int .i64 0, .string ⟨#[]⟩, .string ⟨#[]⟩, .int .i64 0, .slice none 0 0, .string ⟨#[]⟩, .int .i64 0, .int .i64 0, .int .i64 0, .int .i64 0, .string ⟨#[]⟩, .string ⟨#[]⟩, .int .i64 0, .slice none 0 0, .string ⟨#[]⟩, .int .i64 0], .bool false]) ?_ rfl ?_
    · rw [results_cell_tmp rfl]
      simp only [List.getD_eq_getElem?_getD, List.getElem?_toArray, Array.getD_eq_getD_getElem?, List.getElem?_cons_succ, List.getElem?_cons_zero, Option.getD_some, asAddr, Sem.run_pure, Result.andThen_ok]
      rw [run_loadVar_row W4 (w.heap.size + 1) 47 47 _ (0, 0) _ hr4 Tryz.underlying47 rfl hsz27]
      rfl
    exact ⟨rfl, H0.out.below hb4, touch_of hb4⟩
  go_wp2_with fail
  refine hN3.mono ?_
  rintro e w1 ⟨rfl, hw1⟩
  subst hw1
  go_upto_region 4 with (fail)
  have HM := Lib.hid (fun W (hW : Below W3.heap.size W3 W) => map83 (HS3.out.below hW) (ak, an, ag, ai))
  obtain ⟨f, hf⟩ : ∃ f, unwF true s (ak, an, ag, ai) = f := ⟨_, rfl⟩
  have HFe := Lib.hid hf
  have hf' : pFind s.M (ak, an, ag, ai) = f := hf
  rw [hf'] at HM
  clear hf hf'
  obtain ⟨⟨⟨d1, d2, d3, d4⟩, ⟨d5, d6, d7, d8⟩, ⟨d9, d10, d11, d12⟩⟩, hm0⟩ : ∃ m0 : Mn, f.getD zMn = m0 := ⟨_, rfl⟩
  obtain ⟨kn, hkn⟩ : ∃ kn, f.isSome = kn := ⟨_, rfl⟩
  rw [hkn, hm0] at HM
  unfold idV mnV at HM
  dsimp only at HM
  have HF : Hid (kn = false → mnTL (f.getD zMn) = mnTL zMn ∧ unwS f s (ak, an, ag, ai) = s) := Lib.hid (fun h => by
    rw [h] at hkn
    have : f = none := by cases f; rfl; cases hkn
    subst this
    exact ⟨rfl, rfl⟩)
  have HFt : Hid (kn = true → mnTL (f.getD zMn) = mnTL ((d1, d2, d3, d4), (d5, d6, d7, d8), (d9, d10, d11, d12)) ∧ unwS f s (ak, an, ag, ai) = { s with M := pDel s.M (ak, an, ag, ai) }) := Lib.hid (fun h => by
    rw [h] at hkn
    exact ⟨by rw [hm0], by unfold unwS; rw [hkn]; rfl⟩)
  have HKn := Lib.hid hkn
  clear hm0 hkn
  go_cut [7, 8] from 21 to 29 (fun v7 v8 wd => v7 = .bool kn ∧ ∃ zx, v8 = .pointer (some ⟨zx, 0, none⟩) ∧ W3.heap.size ≤ zx ∧ wd.heap[zx]? = some (.cells #[.int .i64 d1, .string d2, .int .i64 d3, .int .i64 d4, .int .i64 d5, .string d6, .int .i64 d7, .int .i64 d8, .int .i64 d9, .string d10, .int .i64 d11, .int .i64 d12] 162) ∧ Below W3.heap.size W3 wd)
  case first =>
    have hl0 := HM.out _ (belowD (Below.refl _ _))
    have hl1 := fun o => HM.out _ (belowDA (w := W3) o)
    have hl2 := HM.out _ (Below.refl _ _)
    obtain ⟨a0, a1, a2, a3, af'⟩ := HQa.out _ (Below.refl _ _)
    obtain ⟨c0, c1, c2, c3, c4, cf⟩ := five_cells (HS3.out).obj
    go_region_held3 (fun w' => w'.cell? ⟨z, 4, none⟩ = some (.map (some mm)) ∧ w'.cell? ⟨zr, 0, none⟩ = some (.int .i64 ak) ∧ w'.cell? ⟨zr, 1, none⟩ = some (.string an) ∧ w'.cell? ⟨zr, 2, none⟩ = some (.int .i64 ag) ∧ w'.cell? ⟨zr, 3, none⟩ = some (.int .i64 ai)) (go_keep) (fail)
    all_goals
      go_wp2_with fail
      go_meet
      refine ⟨rfl, _, rfl, Nat.le_refl _, ?_, ?_⟩
    all_goals (first | with_reducible exact alloc_newD _ _ | with_reducible exact alloc_new _ _ | with_reducible exact belowDA _ | with_reducible exact belowA (belowD (Below.refl _ _)) _ (Nat.le_refl _) | with_reducible exact c12s (alloc_newD _ _) | with_reducible exact c12s (alloc_new _ _) | with_reducible exact c12b (Nat.le_refl _) (belowDA _) | fail "leaf")
  case rest =>
    obtain ⟨rfl, zx, rfl, hgx, hx, hbd⟩ := hcut
    have HBd := Lib.hid (HB3.out.trans (hbd.mono HB3.out.size))
    have HSd := Lib.hid (HS3.out.below hbd)
    have HX := Lib.hid hx
    have hlx := (Array.getElem?_eq_some_iff.1 hx).1
    have HG : Hid (w.heap.size + 1 < W3.heap.size ∧ W3.heap.size ≤ zx ∧ w.heap.size ≤ zr ∧ zr < W3.heap.size ∧ mm < w.heap.size) := Lib.hid ⟨hRl3, hgx, by have := HB3.out.size; omega, hlQ, H0.out.mlt⟩
    cases kn
    · go_wp2_with (refine wpList_store_row rfl 47 (.tmp 4) (.tmp 32) rfl (w.heap.size + 1) #[.int .i64 0, .int .i64 0, .int .i64 0, .string ⟨#[]⟩, .string ⟨#[]⟩, .int .i64 0, .slice none 0 0, .string ⟨#[]⟩, .int .i64 0, .int .i64 0, .int .i64 0, .int .i64 0, .string ⟨#[]⟩, .string ⟨#[]⟩, .int .i64 0, .slice none 0 0, .string ⟨#[]⟩, .int .i64 0, .int .i64 0, .int .i64 0, .int .i64 0, .string ⟨#[]⟩, .string ⟨#[]⟩, .int .i64 0, .slice none 0 0, .string ⟨#[]⟩, .int .i64 0] rfl rfl 47 _ (HRz.out _ hbd) hsz27 rfl (by decide +kernel) ?_)
      have hr4 := setRow_heap wc (w.heap.size + 1) _ #[.int .i64 0, .int .i64 0, .int .i64 0, .string ⟨#[]⟩, .string ⟨#[]⟩, .int .i64 0, .slice none 0 0, .string ⟨#[]⟩, .int .i64 0, .int .i64 0, .int .i64 0, .int .i64 0, .string ⟨#[]⟩, .string ⟨#[]⟩, .int .i64 0, .slice none 0 0, .string ⟨#[]⟩, .int .i64 0, .int .i64 0, .int .i64 0, .int .i64 0, .string ⟨#[]⟩, .string ⟨#[]⟩, .int .i64 0, .slice none 0 0, .string ⟨#[]⟩, .int .i64 0] 47 (0, 0) (HRz.out _ hbd)
      have ht4 : TouchB (fun i => i = w.heap.size + 1) wc (wc.setRow (w.heap.size + 1) #[.int .i64 0, .int .i64 0, .int .i64 0, .string ⟨#[]⟩, .string ⟨#[]⟩, .int .i64 0, .slice none 0 0, .string ⟨#[]⟩, .int .i64 0, .int .i64 0, .int .i64 0, .int .i64 0, .string ⟨#[]⟩, .string ⟨#[]⟩, .int .i64 0, .slice none 0 0, .string ⟨#[]⟩, .int .i64 0, .int .i64 0, .int .i64 0, .int .i64 0, .string ⟨#[]⟩, .string ⟨#[]⟩, .int .i64 0, .slice none 0 0, .string ⟨#[]⟩, .int .i64 0]) := ⟨rfl, rfl, rfl, by simp, fun k hk hn => by simp [World.setRow, Array.getElem?_modify, show ¬ w.heap.size + 1 = k from fun e => hn e.symm]⟩
      have hb4 := (HBd.out).trans (ht4.below (fun k hk => by rw [hk]; exact Nat.le_succ _) (HBd.out).size)
      clear ht4
      generalize (wc.setRow (w.heap.size + 1) #[.int .i64 0, .int .i64 0, .int .i64 0, .string ⟨#[]⟩, .string ⟨#[]⟩, .int .i64 0, .slice none 0 0, .string ⟨#[]⟩, .int .i64 0, .int .i64 0, .int .i64 0, .int .i64 0, .string ⟨#[]⟩, .string ⟨#[]⟩, .int .i64 0, .slice none 0 0, .string ⟨#[]⟩, .int .i64 0, .int .i64 0, .int .i64 0, .int .i64 0, .string ⟨#[]⟩, .string ⟨#[]⟩, .int .i64 0, .slice none 0 0, .string ⟨#[]⟩, .int .i64 0]) = W4 at *
      refine bodyPost_ret (v := .tuple #[.agg #[.int .i64 0, .int .i64 0, .int .i64 0, .string ⟨#[]⟩, .string ⟨#[]⟩, .int .i64 0, .slice none 0 0, .string ⟨#[]⟩, .int .i64 0, .int .i64 0, .int .i64 0, .int .i64 0, .string ⟨#[]⟩, .string ⟨#[]⟩, .int .i64 0, .slice none 0 0, .string ⟨#[]⟩, .int .i64 0, .int .i64 0, .int .i64 0, .int .i64 0, .string ⟨#[]⟩, .string ⟨#[]⟩, .int .i64 0, .slice none 0 0, .string ⟨#[]⟩, .int .i64 0], .bool false]) ?_ rfl ?_
      · rw [results_cell_tmp rfl]
        simp only [List.getD_eq_getElem?_getD, List.getElem?_toArray, Array.getD_eq_getD_getElem?, List.getElem?_cons_succ, List.getElem?_cons_zero, Option.getD_some, asAddr, Sem.run_pure, Result.andThen_ok]
        rw [run_loadVar_row W4 (w.heap.size + 1) 47 47 _ (0, 0) _ hr4 Tryz.underlying47 rfl hsz27]
        rfl
      have hF := HF.out trivial
      exact ⟨by have h1 := hF.1; have h2 := HKn.out; rw [HFe.out, h1, h2]; rfl, by rw [HFe.out, hF.2]; exact H0.out.below hb4, touch_of hb4⟩
    · go_upto_region 7 with (fail)
      have HSe := Lib.hid (HSd.out.below (belowD (Below.refl _ _)))
      obtain ⟨W9, hrun9, h9, ht9, hs9⟩ := delM_run HSe.out (ak, an, ag, ai)
      obtain ⟨c0, c1, c2, c3, c4, cf⟩ := five_cells HSd.out.obj
      obtain ⟨a0, a1, a2, a3, af'⟩ := HQa.out _ hbd
      unfold idV at hrun9
      dsimp only at hrun9
      have hzx9 := (ht9.block zx (by exact hlx) (by have := HG.out; omega)).trans HX.out
      have hRz9 := (ht9.block (w.heap.size + 1) (by have := HG.out; have := hbd.size; show _ < wc.heap.size; omega) (by have := HG.out; omega)).trans (HRz.out wc hbd)
      have hl9 : w.heap.size + 1 < W9.heap.size := (Array.getElem?_eq_some_iff.1 hRz9).1
      have HS9 := Lib.hid h9
      have HT9 : Hid (TouchB (LkS z mh mm) w W9) := Lib.hid (touch_trans (touch_of HBd.out) (touch_trans (touch_of (belowD (Below.refl _ _))) (touch_mm ht9)))
      have HX9 := Lib.hid hzx9
      have HR9 := Lib.hid hRz9
      clear h9 ht9 hs9 hzx9 hRz9
      go_still_tail 5, (by kernel_rfl)
      go_upto_region 8 with (fail)
      clear hrun9 c0 c1 c2 c3 c4 cf a0 a1 a2 a3 af' HSe HSd HX HQa
      have HAp : Hid (∀ W : World, Calls Tryz.prog 92 #[.agg #[.int .i64 d1, .string d2, .int .i64 d3, .int .i64 d4, .int .i64 d5, .string d6, .int .i64 d7, .int .i64 d8, .int .i64 d9, .string d10, .int .i64 d11, .int .i64 d12]] W (fun e w' => e = .returned (.agg #[.int .i64 d1, .int .i64 d4, .int .i64 d3, .string d2, .string ⟨#[]⟩, .int .i64 0, .slice none 0 0, .string ⟨#[]⟩, .int .i64 0, .int .i64 d5, .int .i64 d8, .int .i64 d7, .string d6, .string ⟨#[]⟩, .int .i64 0, .slice none 0 0, .string ⟨#[]⟩, .int .i64 0, .int .i64 d9, .int .i64 d12, .int .i64 d11, .string d10, .string ⟨#[]⟩, .int .i64 0, .slice none 0 0, .string ⟨#[]⟩, .int .i64 0]) ∧ Below W.heap.size W w')) := Lib.hid (fun W => api92 ((d1, d2, d3, d4), (d5, d6, d7, d8), (d9, d10, d11, d12)) W)
      obtain ⟨p0, p1, p2, p3, p4, p5, p6, p7, p8, p9, p10, p11, pf⟩ := cells12 HX9.out
      go_wp2_with fail
      refine (HAp.out _).mono ?_
      rintro e W10 ⟨rfl, hb10⟩
      have hR10 := (hb10.block _ hl9).trans HR9.out
      have hO27 : ((#[.int .i64 d1, .int .i64 d4, .int .i64 d3, .string d2, .string ⟨#[]⟩, .int .i64 0, .slice none 0 0, .string ⟨#[]⟩, .int .i64 0, .int .i64 d5, .int .i64 d8, .int .i64 d7, .string d6, .string ⟨#[]⟩, .int .i64 0, .slice none 0 0, .string ⟨#[]⟩, .int .i64 0, .int .i64 d9, .int .i64 d12, .int .i64 d11, .string d10, .string ⟨#[]⟩, .int .i64 0, .slice none 0 0, .string ⟨#[]⟩, .int .i64 0] : Array Value).all (·.oneCell')) = true := Array.all_eq_true_iff_forall_mem.2 fun v hv => mnTL_one ((d1, d2, d3, d4), (d5, d6, d7, d8), (d9, d10, d11, d12)) v (by simpa [mnTL, idTL] using hv)
      go_wp2_with (refine wpList_store_row rfl 47 (.tmp 4) (.tmp 39) rfl (w.heap.size + 1) #[.int .i64 d1, .int .i64 d4, .int .i64 d3, .string d2, .string ⟨#[]⟩, .int .i64 0, .slice none 0 0, .string ⟨#[]⟩, .int .i64 0, .int .i64 d5, .int .i64 d8, .int .i64 d7, .string d6, .string ⟨#[]⟩, .int .i64 0, .slice none 0 0, .string ⟨#[]⟩, .int .i64 0, .int .i64 d9, .int .i64 d12, .int .i64 d11, .string d10, .string ⟨#[]⟩, .int .i64 0, .slice none 0 0, .string ⟨#[]⟩, .int .i64 0] rfl rfl 47 _ hR10 hsz27 rfl hO27 ?_)
      have hr4 := setRow_heap W10 (w.heap.size + 1) _ #[.int .i64 d1, .int .i64 d4, .int .i64 d3, .string d2, .string ⟨#[]⟩, .int .i64 0, .slice none 0 0, .string ⟨#[]⟩, .int .i64 0, .int .i64 d5, .int .i64 d8, .int .i64 d7, .string d6, .string ⟨#[]⟩, .int .i64 0, .slice none 0 0, .string ⟨#[]⟩, .int .i64 0, .int .i64 d9, .int .i64 d12, .int .i64 d11, .string d10, .string ⟨#[]⟩, .int .i64 0, .slice none 0 0, .string ⟨#[]⟩, .int .i64 0] 47 (0, 0) hR10
      have ht4 : TouchB (fun i => i = w.heap.size + 1) W10 (W10.setRow (w.heap.size + 1) #[.int .i64 d1, .int .i64 d4, .int .i64 d3, .string d2, .string ⟨#[]⟩, .int .i64 0, .slice none 0 0, .string ⟨#[]⟩, .int .i64 0, .int .i64 d5, .int .i64 d8, .int .i64 d7, .string d6, .string ⟨#[]⟩, .int .i64 0, .slice none 0 0, .string ⟨#[]⟩, .int .i64 0, .int .i64 d9, .int .i64 d12, .int .i64 d11, .string d10, .string ⟨#[]⟩, .int .i64 0, .slice none 0 0, .string ⟨#[]⟩, .int .i64 0]) := ⟨rfl, rfl, rfl, by simp, fun k hk hn => by simp [World.setRow, Array.getElem?_modify, show ¬ w.heap.size + 1 = k from fun e => hn e.symm]⟩
      have htS : ∀ {W5 : World}, TouchB (fun i => i = w.heap.size + 1) W10 W5 → TouchB (LkS z mh mm) w W5 → True := fun _ _ => trivial
      have HT10 := Lib.hid (touch_trans HT9.out (touch_of hb10))
      generalize (W10.setRow (w.heap.size + 1) #[.int .i64 d1, .int .i64 d4, .int .i64 d3, .string d2, .string ⟨#[]⟩, .int .i64 0, .slice none 0 0, .string ⟨#[]⟩, .int .i64 0, .int .i64 d5, .int .i64 d8, .int .i64 d7, .string d6, .string ⟨#[]⟩, .int .i64 0, .slice none 0 0, .string ⟨#[]⟩, .int .i64 0, .int .i64 d9, .int .i64 d12, .int .i64 d11, .string d10, .string ⟨#[]⟩, .int .i64 0, .slice none 0 0, .string ⟨#[]⟩, .int .i64 0]) = W4 at *
      refine bodyPost_ret (v := .tuple #[.agg #[.int .i64 d1, .int .i64 d4, .int .i64 d3, .string d2, .string ⟨#[]⟩, .int .i64 0, .slice none 0 0, .string ⟨#[]⟩, .int .i64 0, .int .i64 d5, .int .i64 d8, .int .i64 d7, .string d6, .string ⟨#[]⟩, .int .i64 0, .slice none 0 0, .string ⟨#[]⟩, .int .i64 0, .int .i64 d9, .int .i64 d12, .int .i64 d11, .string d10, .string ⟨#[]⟩, .int .i64 0, .slice none 0 0, .string ⟨#[]⟩, .int .i64 0], .bool true]) ?_ rfl ?_
      · rw [results_cell_tmp rfl]
        simp only [List.getD_eq_getElem?_getD, List.getElem?_toArray, Array.getD_eq_getD_getElem?, List.getElem?_cons_succ, List.getElem?_cons_zero, Option.getD_some, asAddr, Sem.run_pure, Result.andThen_ok]
        rw [run_loadVar_row W4 (w.heap.size + 1) 47 47 _ (0, 0) _ hr4 Tryz.underlying47 rfl hsz27]
        rfl
      have hS4 := HS9.out.below hb10
      have hz := HG.out
      have hlz := H0.out.zlt
      have hlh := H0.out.hlt
      exact ⟨by rw [HFe.out, (HFt.out (by simp)).1, HKn.out]; rfl, by rw [HFe.out, (HFt.out (by simp)).2]; exact hS4.same (ht4.block _ hS4.zlt (by omega)) (ht4.block _ hS4.hlt (by omega)) (ht4.block _ hS4.mlt (by omega)), (HT10.out).trans ht4 (fun i hi e => by subst e; omega)⟩
end Go.Proofs.YtnakbepcalciiaaGreat.lk
/- Monitors that a node knows, in the order in which they were watched. Plain Lean. No condition. -/
namespace Go.Proofs.YtnakbepcalciiaaGreat.lk
open Go.RowKit mem rec tm names pm
set_option linter.unusedVariables false
set_option linter.unusedSimpArgs false
set_option maxHeartbeats 1000000
def okM (m : Mn) : Prop := okI 3 m.1 = true ∧ okI 6 m.2.1 = true ∧ okI 6 m.2.2 = true
/-- the monitors of a node are just these -/
structure Kn (S : LkSt) (K : List Mn) : Prop where
  eq : S.M = K.map (fun m => (m.1, m))
  nd : (K.map (·.1)).Nodup
  ok : ∀ m ∈ K, okM m
theorem Kn.keys {S : LkSt} {K : List Mn} (h : Kn S K) : keys S.M = K.map (·.1) := by rw [h.eq]; simp [pm.keys, Function.comp_def]
theorem Kn.vals {S : LkSt} {K : List Mn} (h : Kn S K) : S.M.map (·.2) = K := by rw [h.eq]; simp [Function.comp_def]
theorem Kn.len {S : LkSt} {K : List Mn} (h : Kn S K) : S.M.length = K.length := by rw [h.eq]; simp
theorem put_new {κ β : Type} [DecidableEq κ] : ∀ (l : List (κ × β)) (k : κ) (v : β), k ∉ keys l → pPut l k v = l ++ [(k, v)]
  | [], k, v, _ => rfl
  | p :: l, k, v, h => by
    have h1 : k ≠ p.1 := fun e => h (by rw [e]; exact List.mem_cons_self)
    have h2 : k ∉ keys l := fun e => h (List.mem_cons_of_mem _ e)
    rw [put_cons, if_neg h1, put_new l k v h2]
    rfl
theorem Kn.add {S : LkSt} {K : List Mn} (h : Kn S K) {m : Mn} (hm : okM m) (hn : (pFind S.M m.1).isSome = false) : Kn { S with M := pPut S.M m.1 m } (K ++ [m]) := by
  have hk : m.1 ∉ pm.keys S.M := find_none.1 (by cases he : pFind S.M m.1; rfl; rw [he] at hn; cases hn)
  refine ⟨?_, ?_, ?_⟩
  · show pPut S.M m.1 m = _
    rw [put_new _ _ _ hk, h.eq]
    simp
  · rw [List.map_append, List.nodup_append]
    refine ⟨h.nd, by simp, ?_⟩
    intro a ha b hb e
    simp only [List.map_cons, List.map_nil, List.mem_singleton] at hb
    rw [h.keys] at hk
    exact hk (by rw [← hb, ← e]; exact ha)
  · intro x hx
    rcases List.mem_append.1 hx with hx | hx
    · exact h.ok x hx
    · rw [List.mem_singleton.1 hx]; exact hm
theorem Kn.some {S : LkSt} {K : List Mn} (h : Kn S K) {r : Id} (hs : (pFind S.M r).isSome = true) : ∃ m ∈ K, m.1 = r := by
  cases he : pFind S.M r with
  | none => rw [he] at hs; cases hs
  | some m =>
    have hm := find_mem he
    rw [h.eq] at hm
    obtain ⟨x, hx, e⟩ := List.mem_map.1 hm
    simp only [Prod.mk.injEq] at e
    exact ⟨x, hx, e.1⟩
theorem Kn.first {S : LkSt} {m : Mn} {K : List Mn} (h : Kn S (m :: K)) : pFind S.M m.1 = Option.some m ∧ Kn { S with M := pDel S.M m.1 } K ∧ pFind (pDel S.M m.1) m.1 = none := by
  have hnd := List.nodup_cons.1 (show (m.1 :: K.map (·.1)).Nodup from h.nd)
  have he : pDel S.M m.1 = K.map (fun m => (m.1, m)) := by
    rw [h.eq]
    show pDel ((m.1, m) :: K.map (fun m => (m.1, m))) m.1 = _
    rw [del_cons, if_pos rfl]
  refine ⟨?_, ⟨he, hnd.2, fun x hx => h.ok x (List.mem_cons_of_mem _ hx)⟩, ?_⟩
  · rw [h.eq]
    show pFind ((m.1, m) :: K.map (fun m => (m.1, m))) m.1 = _
    rw [find_cons, if_pos rfl]
  · rw [he]
    refine find_none.2 ?_
    have : pm.keys (K.map (fun m => (m.1, m))) = K.map (·.1) := by simp [pm.keys, Function.comp_def]
    rw [this]
    exact hnd.1
/-- what Held and Watched list: strictly by refs, and just the monitors that are meant -/
theorem Kn.list {S : LkSt} {K : List Mn} (h : Kn S K) {T : Mn → Bool} {L : List Mn} (hp : L.Perm ((S.M.map (·.2)).filter T)) (hs : L.Pairwise (fun x y => cmM x y ≤ 0)) : L.Pairwise (fun x y => cmM x y < 0) ∧ (∀ m, m ∈ L ↔ m ∈ K ∧ T m = true) ∧ L.length ≤ K.length := by
  rw [h.vals] at hp
  have hmem : ∀ m, m ∈ L ↔ m ∈ K ∧ T m = true := fun m => by rw [hp.mem_iff, List.mem_filter]
  have hnd : (L.map (·.1)).Nodup := by
    have h1 : ((K.filter T).map (·.1)).Nodup := (List.Sublist.map _ List.filter_sublist).nodup h.nd
    exact (hp.map (·.1)).nodup_iff.2 h1
  refine ⟨?_, hmem, by rw [hp.length_eq]; exact List.length_filter_le _ _⟩
  rw [List.Nodup, List.pairwise_map] at hnd
  refine List.Pairwise.imp_of_mem ?_ (hs.and hnd)
  intro a b ha hb hab
  obtain ⟨h1, h2⟩ := hab
  have oa := h.ok a ((hmem a).1 ha).1
  have ob := h.ok b ((hmem b).1 hb).1
  have h3 : cmM a b ≠ 0 := fun e => h2 (cmI_eq (.inl rfl) (.inl rfl) oa.1 ob.1 e)
  omega
theorem Kn.memM {S : LkSt} {K : List Mn} (h : Kn S K) {T : Mn → Bool} {L : List Mn} (hp : L.Perm ((S.M.map (·.2)).filter T)) (hs : L.Pairwise (fun x y => cmM x y ≤ 0)) (m : Mn) (hm : m ∈ K) (ht : T m = true) : memM m L = true :=
  (memM_iff m L).2 (((h.list hp hs).2.1 m).2 ⟨hm, ht⟩)
theorem Kn.notM {S : LkSt} {K : List Mn} (h : Kn S K) {T : Mn → Bool} {L : List Mn} (hp : L.Perm ((S.M.map (·.2)).filter T)) (hs : L.Pairwise (fun x y => cmM x y ≤ 0)) (m : Mn) (hm : m ∉ K) : lk.memM m L = false := by
  cases hr : lk.memM m L
  · rfl
  · exact absurd (((h.list hp hs).2.1 m).1 ((memM_iff m L).1 hr)).1 hm
theorem Kn.out {S : LkSt} {m : Mn} {K : List Mn} (h : Kn S (m :: K)) : m ∉ K := fun hm => (List.nodup_cons.1 (show (m.1 :: K.map (·.1)).Nodup from h.nd)).1 (List.mem_map_of_mem hm)
end Go.Proofs.YtnakbepcalciiaaGreat.lk
/- append of records: the bound is in bytes. Conditions: as said. -/
namespace Go.Proofs.YtnakbepcalciiaaGreat.rec
open Go.RowKit mem
set_option linter.unusedVariables false
set_option linter.unusedSimpArgs false
set_option linter.unusedSectionVars false
set_option maxHeartbeats 1000000
set_option maxRecDepth 100000

/-- an element type e of s cells, and a type sl of its slices -/
structure ElTyB (sl e : TypeId) (s by_ : Nat) : Prop where
  und : Tryz.prog.underlying sl = some (.slice e)
  info : ∃ i z, Tryz.prog.info? e = some i ∧ i.zero = some z ∧ i.size = s ∧ z.cells.size = s ∧ i.bytes = by_
  pos : 0 < s
theorem ElTyB.el {sl e : TypeId} {s by_ : Nat} (h : ElTyB sl e s by_) (hb : by_ ≤ 10000 := by decide) : ElTy sl e s := ⟨h.und, by obtain ⟨i, z, h1, h2, h3, h4, h5⟩ := h.info; exact ⟨i, z, h1, h2, h3, h4, by omega⟩, h.pos⟩
section
variable {α : Type} {enc : α → List Value} {s : Nat}
theorem run_append_recB {sl e by_ : TypeId} (T : ElTyB sl e s by_) {w : World} {base : Nat} {v : Value} {l : List α} (h : RecOwn enc e s w base v l) (hb : base ≤ w.heap.size) (ty : TypeId) {B : Nat} {vx : Value} {xs : List α} (hx : RecAt enc s w B vx xs) (hE : EncOK enc s xs) (hn : (l.length + xs.length) * by_ ≤ 140737488355328) (hb0 : 0 < by_) (hb1 : by_ ≤ 10000) :
    ∃ v' w', (Builtin.append_ #[sl, sl] ty #[v, vx]).run Tryz.prog w = .ok v' w' ∧ AppR enc e s w base v l xs v' w' := by
  obtain ⟨p, c, rfl, h1, h2, h3⟩ := hx
  cases hxs : xs with
  | nil =>
    subst hxs
    cases p with
    | none =>
      obtain ⟨pv, cv, ev, hc, _⟩ := h.shape
      exact ⟨v, w, run_append_none_rec (T.el hb1) w v pv l.length cv _ ev hc ty, by rw [List.append_nil]; exact h, ⟨rfl, rfl, rfl, Nat.le_refl _, fun _ _ _ => rfl⟩, .inl rfl⟩
    | some ad =>
      obtain ⟨hund, ⟨i, z, hi, hz, hs, hzs, rfl⟩, hpos⟩ := T
      obtain ⟨v', w', hr, hown, hg, _, hat⟩ := run_append_own_at (P := Tryz.prog) w base sl ty e i z s i.bytes hund hi hz hs rfl hzs hpos v l.length (l.flatMap enc) h ad 0 c [] (by simp) (fun j u hu => by simp at hu) (fun u hu => by simp at hu) (by have := Nat.le_mul_of_pos_right (l.length + 0) hb0; simp at hn this; unfold maxLen; simp; omega) (by simpa using hn) hb
      refine ⟨v', w', hr, ?_, hg, hat⟩
      unfold RecOwn
      rw [List.append_nil]
      simpa using hown
  | cons x0 xs0 =>
    subst hxs
    obtain ⟨g, o, rfl, hg, hc⟩ := h3 (by simp)
    obtain ⟨hund, ⟨i, z, hi, hz, hs, hzs, rfl⟩, hpos⟩ := T
    have hfl := flat_len hE
    obtain ⟨v', w', hr, hown, hg, _, hat⟩ := run_append_own_at (P := Tryz.prog) w base sl ty e i z s i.bytes hund hi hz hs rfl hzs hpos v l.length (l.flatMap enc) h ⟨g, o, none⟩ (x0 :: xs0).length c ((x0 :: xs0).flatMap enc) hfl (fun j u hu => by
        have hj := (List.getElem?_eq_some_iff.1 hu).1
        rw [hfl] at hj
        obtain ⟨q, k, a, rfl, hk, hq⟩ := flat_inv hpos hj
        rw [flat_get hE hq hk] at hu
        have := hc q a hq k u hu
        rw [Addr.add_lit]
        exact this) (fun u hu => by
        obtain ⟨a, ha, hu⟩ := List.mem_flatMap.1 hu
        exact (hE a ha).2 u hu) (by have := Nat.le_mul_of_pos_right (l.length + (x0 :: xs0).length) hb0; unfold maxLen; omega) hn hb
    refine ⟨v', w', hr, ?_, hg, hat⟩
    unfold RecOwn
    rw [List.length_append, List.flatMap_append]
    exact hown
theorem wpList_append_recB {sl e by_ : TypeId} (T : ElTyB sl e s by_) {w : World} {ops : Array Oper} {rest : List Oper} {o : Oper} {a : Act} {Q : Exit → Act → World → Prop} (hgd : o.guard = none) (x y : Operand)
    (ho : o.op = .call { callee := .builtin .append, args := #[x, y], argTypes := #[sl, sl] }) {base : Nat} {v : Value} {l : List α} (hs : a.eval x = v) (hown : RecOwn enc e s w base v l) (hb : base ≤ w.heap.size)
    {B : Nat} {vx : Value} {xs : List α} (hx : a.eval y = vx) (hrow : RecAt enc s w B vx xs) (hE : EncOK enc s xs) (hn : (l.length + xs.length) * by_ ≤ 140737488355328) (hb0 : 0 < by_) (hb1 : by_ ≤ 10000)
    (h : ∀ v' w', AppR enc e s w base v l xs v' w' → wpList Tryz.prog ops Q rest (a.put o.dst v') w') : wpList Tryz.prog ops Q (o :: rest) a w := by
  refine wpList_plain hgd fun K hK => ?_
  obtain ⟨v', w', hr, h2⟩ := run_append_recB T hown hb o.type hrow hE hn hb0 hb1
  unfold Oper.wp execOp
  simp only [ho, resolve, invoke, builtin, Sem.run_bind, Sem.run_pure, Result.andThen_ok, List.map_toArray, List.map_cons, List.map_nil, hs, hx, hr]
  exact hK _ _ (h v' w' h2)
theorem step_append_recB {sl e by_ : TypeId} (T : ElTyB sl e s by_) {w : World} {ops : Array Oper} {o : Oper} {a : Act} {K : Act → World → Prop} {Q : Exit → Act → World → Prop} {E : Prop} (hgd : o.guard = none) (x y : Operand)
    (ho : o.op = .call { callee := .builtin .append, args := #[x, y], argTypes := #[sl, sl] }) {base : Nat} {v : Value} {l : List α} (hs : a.eval x = v) (hown : RecOwn enc e s w base v l) (hb : base ≤ w.heap.size)
    {B : Nat} {vx : Value} {xs : List α} (hx : a.eval y = vx) (hrow : RecAt enc s w B vx xs) (hE : EncOK enc s xs) (hn : (l.length + xs.length) * by_ ≤ 140737488355328) (hb0 : 0 < by_) (hb1 : by_ ≤ 10000)
    (hK : ∀ v' w', AppR enc e s w base v l xs v' w' → K (a.put o.dst v') w') : if Region.wanted o (yielded ops a.tmps) = true then Oper.wp Tryz.prog o a w K Q else E := by
  have hw : Region.wanted o (yielded ops a.tmps) = true := by simp [Region.wanted, hgd]
  rw [if_pos hw]
  obtain ⟨v', w', hr, h2⟩ := run_append_recB T hown hb o.type hrow hE hn hb0 hb1
  unfold Oper.wp execOp
  simp only [ho, resolve, invoke, builtin, Sem.run_bind, Sem.run_pure, Result.andThen_ok, List.map_toArray, List.map_cons, List.map_nil, hs, hx, hr]
  exact hK _ _ h2
end
theorem eltyB_of {sl e s b : Nat} {z : Value} (hu : Tryz.prog.underlying sl = some (.slice e)) (hi : (Tryz.prog.info? e).map (fun i => (i.zero, i.size, i.bytes)) = some (some z, s, b)) (hz : z.cells.size = s) (hs : 0 < s) : ElTyB sl e s b := by
  cases hq : Tryz.prog.info? e with
  | none => rw [hq] at hi; simp at hi
  | some i =>
    rw [hq] at hi
    simp only [Option.map_some, Option.some.injEq, Prod.mk.injEq] at hi
    exact ⟨hu, ⟨i, z, hq, hi.1, hi.2.1, hz, hi.2.2⟩, hs⟩
theorem elB30 : ElTyB 28 30 9 112 := eltyB_of Tryz.underlying28 lk.info30 rfl (by decide)
theorem elB47 : ElTyB 45 47 27 336 := eltyB_of Tryz.underlying45 lk.info47 rfl (by decide)
end Go.Proofs.YtnakbepcalciiaaGreat.rec
/- Monitors as they came in, of which Watch has accepted them. Plain Lean. No condition. -/
namespace Go.Proofs.YtnakbepcalciiaaGreat.lk
open Go.RowKit mem rec tm names pm
set_option linter.unusedVariables false
set_option linter.unusedSimpArgs false
set_option maxHeartbeats 1000000
def mOf {n : Nat} (e : MonE n) : Mn := (idOf e.r.f, idOf e.w.f, idOf e.t.f)
structure FlatE {n : Nat} (e : MonE n) : Prop where
  r : e.r.f = idT (idOf e.r.f) ∧ e.r.items = []
  w : e.w.f = idT (idOf e.w.f) ∧ e.w.items = []
  t : e.t.f = idT (idOf e.t.f) ∧ e.t.items = []
theorem term_ok {n : Nat} {t : Tm (n + 1)} {k : Int} (hk : k = 3 ∨ k = 6) (h : (decide (t.f.kind = k) && validT t) = true) : (t.f = idT (idOf t.f) ∧ t.items = []) ∧ okI k (idOf t.f) = true := by
  rw [Bool.and_eq_true] at h
  have h1 : t.f.kind = k := of_decide_eq_true h.1
  have h2 := (valid_id hk h1).1 h.2
  exact ⟨⟨h2.1, h2.2.1⟩, h2.2.2⟩
theorem and4 {a b c d : Bool} (h : (a && (b && (c && d))) = true) : a = true ∧ b = true ∧ c = true ∧ d = true := by
  cases a <;> cases b <;> cases c <;> cases d <;> simp at h ⊢
theorem watch_ok {n : Nat} {s : LkSt} {e : MonE n} (h : okW s (decide (e.r.f.kind = 3) && validT e.r) (decide (e.w.f.kind = 6) && validT e.w) (decide (e.t.f.kind = 6) && validT e.t) (idOf e.w.f) (idOf e.t.f) = true) : FlatE e ∧ okM (mOf e) := by
  unfold okW at h
  obtain ⟨h1, h2, h3, _⟩ := and4 h
  have a := term_ok (.inl rfl) h1
  have b := term_ok (.inr rfl) h2
  have c := term_ok (.inr rfl) h3
  exact ⟨⟨a.1, b.1, c.1⟩, a.2, b.2, c.2⟩
/-- the cells of an accepted monitor: its identities, and three empty slices -/
theorem FlatE.cells {n : Nat} {W : World} {B : Nat} {e : MonE n} (h : FlatE e) (hi : MonIn W B e) : ∃ p1 p2 p3 c1 c2 c3, c1 ≤ maxLen ∧ c2 ≤ maxLen ∧ c3 ≤ maxLen ∧ e.ur = .slice p1 0 c1 ∧ e.uw = .slice p2 0 c2 ∧ e.ut = .slice p3 0 c3 ∧ Value.agg (mxL e).toArray = mnE (mOf e) p1 p2 p3 c1 c2 c3 := by
  obtain ⟨h1, h2, h3⟩ := hi
  obtain ⟨p1, c1, e1, _, m1⟩ := h1.shape
  obtain ⟨p2, c2, e2, _, m2⟩ := h2.shape
  obtain ⟨p3, c3, e3, _, m3⟩ := h3.shape
  rw [h.r.2] at e1
  rw [h.w.2] at e2
  rw [h.t.2] at e3
  refine ⟨p1, p2, p3, c1, c2, c3, m1, m2, m3, e1, e2, e3, ?_⟩
  unfold mxL nineL mnE monV mOf
  rw [e1, e2, e3]
  have hr := h.r.1
  have hw := h.w.1
  have ht := h.t.1
  generalize idOf e.r.f = a at *
  generalize idOf e.w.f = b at *
  generalize idOf e.t.f = c at *
  rw [hr, hw, ht]
  rfl
/-- two accepted monitors with the same ref have the same ref as terms -/
theorem FlatE.ref {n : Nat} {e e' : MonE n} (h : FlatE e) (h' : FlatE e') (he : (mOf e).1 = (mOf e').1) : e.r = e'.r := by
  have h1 := h.r
  have h2 := h'.r
  have he : idOf e.r.f = idOf e'.r.f := he
  obtain ⟨r, w, t, ur, uw, ut⟩ := e
  obtain ⟨r', w', t', ur', uw', ut'⟩ := e'
  dsimp only at *
  have hf : r.f = r'.f := by rw [h1.1, h2.1, he]
  have hi : r.items = r'.items := by rw [h1.2, h2.2]
  obtain ⟨f, l⟩ := r
  obtain ⟨f', l'⟩ := r'
  have hf : f = f' := hf
  have hi : l = l' := hi
  rw [hf, hi]
end Go.Proofs.YtnakbepcalciiaaGreat.lk
/- A monitor that came in and was accepted: what Held, Watched, Unwatch, in and sameMon say of it. Conditions: as said. -/
namespace Go.Proofs.YtnakbepcalciiaaGreat.lk
open Go.RowKit mem rec tm names pm
set_option linter.unusedVariables false
set_option linter.unusedSimpArgs false
set_option maxHeartbeats 1000000
theorem nodes_bare {n : Nat} {t : Tm (n + 1)} (h : t.items = []) : 300 * (nodesT t : Int) ≤ 1000000000000 := by
  have : nodesL n ([] : List (Tm n)) = 0 := by cases n <;> rfl
  unfold nodesT
  rw [h, this]
  decide
theorem ok_flat {n : Nat} {t : Tm (n + 1)} {k : Int} (hk : k = 3 ∨ k = 6) (h : t.f = idT (idOf t.f)) (hi : t.items = []) (ho : okI k (idOf t.f) = true) : (decide (t.f.kind = k) && validT t) = true := by
  have hkd : t.f.kind = k := okI_kind ho
  rw [decide_eq_true hkd, (valid_id hk hkd).2 ⟨h, hi, ho⟩]
  rfl
theorem MonIn.below {n : Nat} {w w' : World} {B B' : Nat} {e : MonE n} (h : MonIn w B e) (hb : Below B' w w') (hB : B ≤ B') : MonIn w' B e := ⟨h.1.below hb hB, h.2.1.below hb hB, h.2.2.below hb hB⟩
theorem rowM {w : World} {b : Nat} {v : Value} {L : List Mn} (h : RecOwn mnTL 47 27 w b v L) : RecAt mnTL 27 w w.heap.size v L := h.row (fun a _ => ⟨mnTL_len a, mnTL_one a⟩)
/-- a list of monitors, of which 'in' says b -/
def HinP (b : Bool) (x : Value) (w : World) (E : Ending) (w' : World) : Prop :=
  ∃ p k c, E = .returned (.slice p k c) ∧ Below w.heap.size w w' ∧ ∀ W', Below w'.heap.size w' W' → Calls Tryz.prog 28 #[.slice p k c, x] W' (fun e2 w2 => e2 = .returned (.bool b) ∧ Below W'.heap.size W' w2)
theorem hin_of {w w' : World} {W : World} {B n : Nat} {e : MonE n} (hF : FlatE e) (hI : MonIn W B e) {S : LkSt} {K : List Mn} (hK : Kn S K) (hl : K.length ≤ 1000) {T : Mn → Bool} {v : Value} {L : List Mn}
    (hp : L.Perm ((S.M.map (·.2)).filter T)) (hs : L.Pairwise (fun x y => cmM x y ≤ 0)) (ho : RecOwn mnTL 47 27 w' w.heap.size v L) (hb : Below w.heap.size w w') {b : Bool} (hm : memM (mOf e) L = b) : HinP b (.agg (mxL e).toArray) w (.returned v) w' := by
  obtain ⟨p1, p2, p3, c1, c2, c3, m1, m2, m3, _, _, _, hx⟩ := hF.cells hI
  obtain ⟨h1, h2, h3⟩ := hK.list hp hs
  have hr := rowM ho
  obtain ⟨p, c, rfl, _, _⟩ := ho.shape
  refine ⟨p, L.length, c, rfl, hb, fun W' hW => ?_⟩
  have := in28 (w := W') hW.size (hr.below hW (Nat.le_refl _)) h1 (by omega) (mOf e) (p1 := p1) (p2 := p2) (p3 := p3) m1 m2 m3
  rw [hm] at this
  rw [hx]
  exact this
section
variable {n : Nat} {w : World} {z mh mm : Nat} {S : LkSt} {K : List Mn} {B : Nat} {e : MonE n}
theorem held_in (h : LkAt w z mh mm S) (hK : Kn S K) (hl : K.length ≤ 1000) (hF : FlatE e) (hI : MonIn w B e) (hB : B ≤ w.heap.size) (hm : mOf e ∈ K) :
    Calls Tryz.prog 29 #[.pointer (some ⟨z, 0, none⟩), aggV e.w.f e.uw] w (HinP true (.agg (mxL e).toArray) w) := by
  refine (held29 h (by rw [hK.len]; omega) B e.uw e.w hB hI.2.1 (nodes_bare hF.w.2)).mono ?_
  rintro E w' ⟨v, L, rfl, hp, hs, ho, hb⟩
  refine hin_of hF hI hK hl hp hs ho hb (hK.memM hp hs _ hm ?_)
  rw [ok_flat (.inr rfl) hF.w.1 hF.w.2 (hK.ok _ hm).2.1]
  show (true && decide (idOf e.w.f = idOf e.w.f)) = true
  simp
theorem watched_in (h : LkAt w z mh mm S) (hK : Kn S K) (hl : K.length ≤ 1000) (hF : FlatE e) (hI : MonIn w B e) (hB : B ≤ w.heap.size) (hm : mOf e ∈ K) :
    Calls Tryz.prog 30 #[.pointer (some ⟨z, 0, none⟩), aggV e.t.f e.ut] w (HinP true (.agg (mxL e).toArray) w) := by
  refine (watched30 h (by rw [hK.len]; omega) B e.ut e.t hB hI.2.2 (nodes_bare hF.t.2)).mono ?_
  rintro E w' ⟨v, L, rfl, hp, hs, ho, hb⟩
  refine hin_of hF hI hK hl hp hs ho hb (hK.memM hp hs _ hm ?_)
  rw [ok_flat (.inr rfl) hF.t.1 hF.t.2 (hK.ok _ hm).2.2]
  show (true && decide (idOf e.t.f = idOf e.t.f)) = true
  simp
theorem held_out (h : LkAt w z mh mm S) (hK : Kn S K) (hl : K.length ≤ 1000) (hF : FlatE e) (hI : MonIn w B e) (hB : B ≤ w.heap.size) (hm : mOf e ∉ K) :
    Calls Tryz.prog 29 #[.pointer (some ⟨z, 0, none⟩), aggV e.w.f e.uw] w (HinP false (.agg (mxL e).toArray) w) := by
  refine (held29 h (by rw [hK.len]; omega) B e.uw e.w hB hI.2.1 (nodes_bare hF.w.2)).mono ?_
  rintro E w' ⟨v, L, rfl, hp, hs, ho, hb⟩
  exact hin_of hF hI hK hl hp hs ho hb (hK.notM hp hs _ hm)
/-- Unwatch of a known monitor returns it -/
theorem unwatch_in (h : LkAt w z mh mm S) (hK : Kn S (mOf e :: K)) (hF : FlatE e) (hI : MonIn w B e) (hB : B ≤ w.heap.size) :
    Calls Tryz.prog 31 #[.pointer (some ⟨z, 0, none⟩), aggV e.r.f e.ur] w (fun E w' => E = .returned (.tuple #[.agg (mnTL (mOf e)).toArray, .bool true]) ∧ LkAt w' z mh mm { S with M := pDel S.M (idOf e.r.f) } ∧ TouchB (LkS z mh mm) w w') := by
  have h1 := unwatch31 h B e.ur e.r hB hI.1
  have hok : okI 3 (idOf e.r.f) = true := (hK.ok _ List.mem_cons_self).1
  rw [ok_flat (.inl rfl) hF.r.1 hF.r.2 hok] at h1
  have hf : pFind S.M (idOf e.r.f) = some (mOf e) := hK.first.1
  have hu : unwF true S (idOf e.r.f) = some (mOf e) := hf
  rw [hu] at h1
  exact h1
/-- and then it is known no more -/
theorem unwatch_out (h : LkAt w z mh mm S) (hk : pFind S.M (idOf e.r.f) = none) (hI : MonIn w B e) (hB : B ≤ w.heap.size) :
    Calls Tryz.prog 31 #[.pointer (some ⟨z, 0, none⟩), aggV e.r.f e.ur] w (fun E w' => E = .returned (.tuple #[.agg (mnTL zMn).toArray, .bool false]) ∧ LkAt w' z mh mm S ∧ TouchB (LkS z mh mm) w w') := by
  have h1 := unwatch31 h B e.ur e.r hB hI.1
  have hu : unwF (decide (e.r.f.kind = 3) && validT e.r) S (idOf e.r.f) = none := by unfold unwF; split; exact hk; rfl
  rw [hu] at h1
  exact h1
theorem same_in (hF : FlatE e) {W : World} (hI : MonIn W B e) (w : World) : Calls Tryz.prog 32 #[.agg (mnTL (mOf e)).toArray, .agg (mxL e).toArray] w (fun E w' => E = .returned (.bool true) ∧ Below w.heap.size w w') := by
  obtain ⟨p1, p2, p3, c1, c2, c3, m1, m2, m3, _, _, _, hx⟩ := hF.cells hI
  have := sameE (mOf e) (mOf e) (p1 := p1) (p2 := p2) (p3 := p3) m1 m2 m3 w
  rw [hx]
  rw [decide_eq_true (rfl : mOf e = mOf e)] at this
  exact this
end
end Go.Proofs.YtnakbepcalciiaaGreat.lk
