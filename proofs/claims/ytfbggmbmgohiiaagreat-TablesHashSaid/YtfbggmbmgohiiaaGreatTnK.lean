
/- terms.copies, terms.Copy. Conditions: the terms lie in memory; they are few enough. -/
import Derived.Test.YtfbggmbmgohiiaaGreatTnJ
namespace Go.Proofs.YtfbggmbmgohiiaaGreat.tm
open Go.RowKit mem names
set_option linter.unusedVariables false
set_option linter.unusedSimpArgs false
set_option maxHeartbeats 4000000
set_option maxRecDepth 100000

def CopyS (n : Nat) : Prop := ∀ (w : World) (B : Nat) (v : Value) (t : Tm (n + 1)), B ≤ w.heap.size → ItemsAt w B n v t.items → nodesT t ≤ 100000000 → Calls Tryz.prog 51 #[aggV t.f v] w (TPost t.f t.items w)
def CopiesS (n : Nat) : Prop := ∀ (w : World) (B : Nat) (v : Value) (l : List (Tm n)), B ≤ w.heap.size → ItemsAt w B n v l → nodesL n l ≤ 100000000 → Calls Tryz.prog 84 #[v] w (LPost l w)
/-- what a copied element gives -/
def EPost {n : Nat} (l : List (Tm n)) (j : Nat) (x : TF) (m : Nat) (w : World) (e : Ending) (w' : World) : Prop :=
  ∃ F g, e = .returned (aggV x (.slice (some ⟨g, 0, none⟩) m m)) ∧ EltL l w' F j x (.slice (some ⟨g, 0, none⟩) m m) ∧ (∀ q, F q → w.heap.size ≤ q ∧ q < w'.heap.size) ∧ Typed w' F ∧ (∀ q, q < w.heap.size → PtrOK w' F q (.slice (some ⟨g, 0, none⟩) m m)) ∧ Below w.heap.size w w'
theorem copyEl {n : Nat} (ih : ∀ m, n = m + 1 → CopyS m) (w : World) (B : Nat) (p : Option Addr) (len c : Nat) (l : List (Tm n)) (hB : B ≤ w.heap.size) (h1 : ItemsAt w B n (.slice p len c) l) (hs : nodesL n l ≤ 100000000) :
    ∀ j, (hj : j < l.length) → ∃ g o x q m d, p = some ⟨g, o, none⟩ ∧ g < w.heap.size ∧ Cells w g (o + j * 9) x (.slice q m d) ∧ ∀ W, Below w.heap.size w W → Calls Tryz.prog 51 #[aggV x (.slice q m d)] W (EPost l j x m W) := by
  cases n with
  | zero => intro j hj; rw [Tm.nil0 l] at hj; exact absurd hj (by simp)
  | succ n =>
    intro j hj
    obtain ⟨g, o, d, e, _, _, hg, hx⟩ := h1.at_ (by intro e; subst e; simp at hj)
    obtain ⟨u, hC, hI⟩ := hx j hj
    simp only [Value.slice.injEq] at e
    obtain ⟨q, c', rfl, _, _⟩ := hI.shape
    have hn := nodes_mem hj
    refine ⟨g, o, l[j].f, q, _, c', e.1, by omega, hC, fun W hb => ?_⟩
    refine (ih n rfl W B _ l[j] (Nat.le_trans hB hb.size) (hI.below hb hB) (by omega)).mono ?_
    rintro e w' ⟨F, g', rfl, hn, hF⟩
    exact ⟨F, g', rfl, ⟨hj, rfl, hn.items⟩, hn.inr, hn.typed, hn.ptr, hn.below⟩
set_option maxHeartbeats 400000 in
theorem copiesStep {n : Nat} (ih : ∀ m, n = m + 1 → CopyS m) : CopiesS n := by
  intro w B v l hB h1 hs
  have hlen := nodes_len n l
  obtain ⟨p, c, rfl, hc, hm⟩ := h1.shape
  have HP := Lib.hid (copyEl ih w B p l.length c l hB h1 hs)
  have hle : l.length ≤ 100000000 := by omega
  have hle2 : (l.length : Int) ≤ 100000000 := by omega
  have hmk := fun W => make24 W (l.length : Int) l.length rfl (by omega)
  clear ih h1 hs hlen hc hm
  obtain ⟨i0, hi0, hz0, hz1, hz2⟩ := info_parts info24
  go_enter Tryz.func84, Tryz.ntmps84
  go_wp2_with fail
  have HI : RowInv (EltL l) w (w.alloc (.cells (madeCells #[.int .i64 0, .int .i64 0, .int .i64 0, .string ⟨#[]⟩, .string ⟨#[]⟩, .int .i64 0, .slice none 0 0, .string ⟨#[]⟩, .int .i64 0] (l.length * 9)) 24)) l.length 0 [] (fun _ => False) := RowInv.start _ (by unfold maxLen; omega) (size_madeCells _ _)
  generalize (w.alloc (.cells (madeCells #[.int .i64 0, .int .i64 0, .int .i64 0, .string ⟨#[]⟩, .string ⟨#[]⟩, .int .i64 0, .slice none 0 0, .string ⟨#[]⟩, .int .i64 0] (l.length * 9)) 24)) = w0 at *
  go_loopw [3, 11] (fun s t wr => ∃ (k : Nat) (rs : List (TF × Value)) (F : Nat → Prop), s = .slice (some ⟨w.heap.size, 0, none⟩) k l.length ∧ t = .int .i64 k ∧ k ≤ l.length ∧ Hid (RowInv (EltL l) w wr l.length k rs F)) (fun _ t _ => l.length - (intOf t).toNat)
  case atStart => exact ⟨0, [], fun _ => False, rfl, rfl, by omega, Lib.hid HI⟩
  case round =>
    obtain ⟨k, rs, F, rfl, rfl, hk, HR⟩ := hrel
    by_cases hlt : k < l.length
    · obtain ⟨g, o, x, q, m, d, rfl, hg, hC, hCall⟩ := HP.out k hlt
      have HCall := Lib.hid hCall
      clear hCall
      have hC := hC.same (HR.out.below.block g hg)
      have hgr : g < wr.heap.size := Nat.lt_of_lt_of_le hg HR.out.below.size
      obtain ⟨x0, x1, x2, x3, x4, x5, x6, x7, x8⟩ := hC
      obtain ⟨kk, ii, gg, nm, fn, ar, by_, bt⟩ := x
      dsimp only at x0 x1 x2 x3 x4 x5 x6 x7 x8
      unfold EPost aggV at HCall
      dsimp only at HCall
      go_wp2_with fail
      have hb1 : Below wr.heap.size wr (wr.alloc (cells9 ⟨kk, ii, gg, nm, fn, ar, by_, bt⟩ (.slice q m d))) := (Below.refl _ _).alloc (Nat.le_refl _) _
      refine (HCall.out _ (HR.out.below.trans (hb1.mono HR.out.below.size))).mono ?_
      rintro e w2 ⟨F', g', rfl, hE, hin, hty, hpt, hb2⟩
      have hb2' : Below wr.heap.size wr w2 := hb1.trans (hb2.mono (by simp))
      have hb3 : Below w2.heap.size w2 (w2.alloc (cells9 ⟨kk, ii, gg, nm, fn, ar, by_, bt⟩ (.slice (some ⟨g', 0, none⟩) m m))) := (Below.refl _ _).alloc (Nat.le_refl _) _
      have hbw3 : Below wr.heap.size wr (w2.alloc (cells9 ⟨kk, ii, gg, nm, fn, ar, by_, bt⟩ (.slice (some ⟨g', 0, none⟩) m m))) := hb2'.trans (hb3.mono hb2'.size)
      have HS : ∀ g, F' g → (w2.alloc (cells9 ⟨kk, ii, gg, nm, fn, ar, by_, bt⟩ (.slice (some ⟨g', 0, none⟩) m m))).heap[g]? = w2.heap[g]? := fun g hg => hb3.block g (hin g hg).2
      have HE := Lib.hid (eltL_mono l w.heap.size _ _ _ _ _ _ _ HS (fun g hg => hb3.block g (Nat.lt_of_lt_of_le hg (Nat.le_trans HR.out.below.size hb2'.size))) (fun _ h => h) hE)
      have HPt := Lib.hid ((hpt w.heap.size (by have := HR.out.lt; simp; omega)).mono HS (fun _ h => h))
      have HTy := Lib.hid (hty.same HS)
      have HIn : Hid (∀ g, F' g → wr.heap.size ≤ g ∧ g < (w2.alloc (cells9 ⟨kk, ii, gg, nm, fn, ar, by_, bt⟩ (.slice (some ⟨g', 0, none⟩) m m))).heap.size) := Lib.hid (fun g hg => by have := hin g hg; simp at this ⊢; omega)
      have HOwn := Lib.hid (HR.out.ownAt hbw3)
      have HNC := Lib.hid (nine_cell w2 ⟨kk, ii, gg, nm, fn, ar, by_, bt⟩ (.slice (some ⟨g', 0, none⟩) m m))
      have HNO := Lib.hid (nine_one ⟨kk, ii, gg, nm, fn, ar, by_, bt⟩ (some ⟨g', 0, none⟩) m m)
      have HBW := Lib.hid hbw3
      clear hE hin hty hpt hb2 hb1 hb2' hb3 hbw3 HS
      unfold cells9 at HE HPt HTy HIn HOwn HNC HBW
      dsimp only at HE HPt HTy HIn HOwn HNC HBW
      go_wp2_with (at_builtin; refine wpList_append_fits rfl (.tmp 15) (.tmp 18) 22 rfl w.heap.size 24 i0 9 Tryz.underlying22 hi0 hz1 w.heap.size k l.length (flatR rs) rfl HOwn.out ⟨w2.heap.size, 0, none⟩ 1 1 (nineL ⟨kk, ii, gg, nm, fn, ar, by_, bt⟩ (.slice (some ⟨g', 0, none⟩) m m)) rfl rfl HNC.out HNO.out (by omega) ?_; intro w4 hown4 hg4)
      have HNext := Lib.hid (HR.out.next (eltL_mono l w.heap.size) HBW.out HE.out HPt.out HTy.out HIn.out hg4 hown4)
      go_roundw
      case rel => exact ⟨k + 1, _, _, rfl, by go_num, by omega, HNext⟩
      case measure => simp [intOf]; omega
    · obtain rfl : k = l.length := by omega
      have HT := Lib.hid (HR.out.full rfl)
      have HRt := Lib.hid (fun q hq => HR.out.root l.length (Nat.le_refl _) q hq)
      have hr := HR.out
      go_wp2_with fail
      go_ret
      refine ⟨fun g => F g ∨ g = w.heap.size, w.heap.size, rfl, ⟨?_, fun q hq => ?_, HT.out, HRt.out, hr.below⟩, .inr rfl⟩
      · exact ItemsIn.mk l rs hr.len (Nat.le_refl _) (by unfold maxLen; omega) (.inr rfl) (fun j hj => ⟨hr.cells j hj, eltL_mono l w.heap.size wr wr F _ _ _ _ (fun _ _ => rfl) (fun _ _ => rfl) (fun _ h => .inl h) (hr.elt j hj).1⟩)
      · rcases hq with hq | rfl
        · have := hr.inr q hq; omega
        · exact ⟨Nat.le_refl _, hr.lt⟩
theorem copyStep {n : Nat} (hC : CopiesS n) : CopyS n := by
  intro w B v t hB h1 hs
  obtain ⟨p, c, rfl, hc, hm⟩ := h1.shape
  refine copyT t.f p t.items.length c t.items w (fun W hb => hC W B _ t.items (Nat.le_trans hB hb.size) (h1.below hb hB) (by unfold nodesT at hs; omega))
theorem copiesAll : ∀ n, CopiesS n
  | 0 => copiesStep (fun m h => by omega)
  | n + 1 => copiesStep (fun m h => by obtain rfl : n = m := by omega
                                       exact copyStep (copiesAll n))
theorem copyAll (n : Nat) : CopyS n := copyStep (copiesAll n)
end Go.Proofs.YtfbggmbmgohiiaaGreat.tm
