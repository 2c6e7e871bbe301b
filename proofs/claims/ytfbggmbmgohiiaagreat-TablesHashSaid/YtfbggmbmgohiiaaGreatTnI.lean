
/- Copies of terms. Conditions: the terms lie in memory. -/
import Derived.Test.YtfbggmbmgohiiaaGreatTnH
import Derived.Test.YtfbggmbmgohiiaaGreatTmY
import Derived.Test.YtfbggmbmgohiiaaGreatTmS
import Derived.Test.YtfbggmbmgohiiaaGreatTnE
namespace Go.Proofs.YtfbggmbmgohiiaaGreat.tm
open Go.RowKit mem names
set_option linter.unusedVariables false
set_option linter.unusedSimpArgs false
set_option maxHeartbeats 4000000
set_option maxRecDepth 100000

theorem NewAt.touch {w W0 w1 w' : World} {F S : Nat → Prop} {n : Nat} {u : Value} {l : List (Tm n)} (h : NewAt W0 w1 F n u l) (ht : TouchB S w1 w') (hS : ∀ g, F g → ¬ S g) (hb : Below w.heap.size w w') (hw : w.heap.size ≤ W0.heap.size) : NewAt w w' F n u l := by
  have hs : ∀ g, F g → w'.heap[g]? = w1.heap[g]? := fun g hg => ht.block g (h.inr g hg).2 (hS g hg)
  refine ⟨h.items.mono hs (fun _ h => h), fun g hg => ?_, h.typed.same hs, fun g hg => ?_, hb⟩
  · have := h.inr g hg
    have := ht.size
    omega
  · exact (h.ptr g (by omega)).mono hs (fun _ h => h)
/-- a list has been copied -/
def LPost {n : Nat} (l : List (Tm n)) (w : World) (e : Ending) (w' : World) : Prop := ∃ F g, e = .returned (.slice (some ⟨g, 0, none⟩) l.length l.length) ∧ NewAt w w' F n (.slice (some ⟨g, 0, none⟩) l.length l.length) l ∧ F g
/-- a term has been copied -/
def TPost {n : Nat} (f : TF) (l : List (Tm n)) (w : World) (e : Ending) (w' : World) : Prop := ∃ F g, e = .returned (aggV f (.slice (some ⟨g, 0, none⟩) l.length l.length)) ∧ NewAt w w' F n (.slice (some ⟨g, 0, none⟩) l.length l.length) l ∧ F g
theorem copyT {n : Nat} (x : TF) (p : Option Addr) (len c : Nat) (l : List (Tm n)) (w : World) (hC : ∀ W, Below w.heap.size w W → Calls Tryz.prog 84 #[.slice p len c] W (LPost l W)) :
    Calls Tryz.prog 51 #[aggV x (.slice p len c)] w (TPost x l w) := by
  have HC := Lib.hid hC
  clear hC
  obtain ⟨k, i, gg, nm, fn, ar, by_, bt⟩ := x
  unfold aggV
  dsimp only
  go_enter Tryz.func51, Tryz.ntmps51
  go_wp2_with fail
  obtain ⟨hN1, hN2, hbw, hsz⟩ := boxes2 w ⟨k, i, gg, nm, fn, ar, by_, bt⟩ zeroF (.slice p len c) nilV
  unfold cells9 zeroF nilV at hN1 hN2 hbw hsz
  dsimp only at hN1 hN2 hbw hsz
  generalize ((w.alloc (.cells #[.int .i64 k, .int .i64 i, .int .i64 gg, .string nm, .string fn, .int .i64 ar, .slice p len c, .string by_, .int .i64 bt] 24)).alloc (.cells #[.int .i64 0, .int .i64 0, .int .i64 0, .string ⟨#[]⟩, .string ⟨#[]⟩, .int .i64 0, .slice none 0 0, .string ⟨#[]⟩, .int .i64 0] 24)) = W0 at *
  have HZ : Hid (W0.heap.size = w.heap.size + 2) := Lib.hid hsz
  have HZ1 : w.heap.size < W0.heap.size := by omega
  have HZ2 : w.heap.size + 1 < W0.heap.size := by omega
  clear hsz
  have HN1 := Lib.hid hN1
  have HN2 := Lib.hid hN2
  obtain ⟨x0, x1, x2, x3, x4, x5, x6, x7, x8, xz⟩ := hN1
  obtain ⟨y0, y1, y2, y3, y4, y5, y6, y7, y8, yz⟩ := hN2
  dsimp only at x0 x1 x2 x3 x4 x5 x6 x7 x8 y0 y1 y2 y3 y4 y5 y6 y7 y8
  have HCW := Lib.hid (HC.out W0 hbw)
  clear HC
  go_wp2_with fail
  refine HCW.out.mono ?_
  rintro e w1 ⟨F, g, rfl, hnew, hFg⟩
  have HNew := Lib.hid hnew
  have hb := hnew.below
  have HM1 := Lib.hid (HN1.out.below hb HZ1)
  have HM2 := Lib.hid (HN2.out.below hb HZ2)
  have hzz1 : w.heap.size < w1.heap.size := Nat.lt_of_lt_of_le HZ1 hb.size
  have hzz2 : w.heap.size + 1 < w1.heap.size := Nat.lt_of_lt_of_le HZ2 hb.size
  have hbb := hbw.trans (hb.mono hbw.size)
  clear x0 x1 x2 x3 x4 x5 x6 x7 x8 xz y0 y1 y2 y3 y4 y5 y6 y7 y8 yz hnew hb
  obtain ⟨x0, x1, x2, x3, x4, x5, x6, x7, x8, xz⟩ := HM1.out
  obtain ⟨y0, y1, y2, y3, y4, y5, y6, y7, y8, yz⟩ := HM2.out
  dsimp only at x0 x1 x2 x3 x4 x5 x6 x7 x8 y0 y1 y2 y3 y4 y5 y6 y7 y8
  go_wp2_with fail
  have hz2 := HZ.out
  have hinr := HNew.out.inr
  refine bodyPost_ret (v := (.agg #[.int .i64 k, .int .i64 i, .int .i64 gg, .string nm, .string fn, .int .i64 ar, .slice (some ⟨g, 0, none⟩) l.length l.length, .string by_, .int .i64 bt])) (by simp [results, Tryz.results51, go_sem, *]) rfl ⟨F, g, rfl, HNew.out.touch (S := fun k => k = w.heap.size ∨ k = w.heap.size + 1) (by (repeat' (first | with_reducible exact TouchB.refl _ _ | with_reducible refine TouchB.setCell ?_ _ _ (fun _ => Or.inl rfl) | with_reducible refine TouchB.setCell ?_ _ _ (fun _ => Or.inr rfl)))) (fun q hq => by have := hinr q hq; omega) (by (repeat' (first | with_reducible exact hbb | with_reducible refine Below.setCell ?_ ?_ _ | (simp; done) | (simp; omega)))) (by omega), hFg⟩
end Go.Proofs.YtfbggmbmgohiiaaGreat.tm
