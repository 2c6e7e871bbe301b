/- Texts of this seat, one behind the other: TmZ. No condition beyond theirs. -/
import Derived.StillTailTactics
import Derived.Test.YtfbggmbmgohiiaaGreatM06
import Derived.Test.YtfbggmbmgohiiaaGreatM10
set_option linter.unusedSimpArgs false
set_option linter.unusedVariables false
set_option maxHeartbeats 4000000
set_option maxRecDepth 100000
namespace Go.Proofs.YtfbggmbmgohiiaaGreat.tm
open Go.RowKit mem names
theorem validHead (k1 i1 g1 k2 i2 g2 a b : Int) (nm1 fn1 nm2 fn2 x y : ByteArray) (ar1 ar2 : Int) (p1 p2 : Option Addr) (m1 c1 m2 c2 : Nat) (w : World) (hk : k1 = k2) (h7 : k1 ≠ 7) (h9 : k1 ≠ 9) (h10 : k1 ≠ 10) (r : Int)
    (hI : ∀ W, Below w.heap.size w W → Calls Tryz.prog 131 #[.slice p1 m1 c1, .slice p2 m2 c2] W (IPostC r W)) :
    Calls Tryz.prog 121 #[aggV ⟨k1, i1, g1, nm1, fn1, ar1, x, a⟩ (.slice p1 m1 c1), aggV ⟨k2, i2, g2, nm2, fn2, ar2, y, b⟩ (.slice p2 m2 c2)] w (IPostC (if headC ⟨k1, i1, g1, nm1, fn1, ar1, x, a⟩ ⟨k2, i2, g2, nm2, fn2, ar2, y, b⟩ = 0 then r else headC ⟨k1, i1, g1, nm1, fn1, ar1, x, a⟩ ⟨k2, i2, g2, nm2, fn2, ar2, y, b⟩) w) := by
  have hCK := Lib.hid (fun W => cmpInt k1 k2 W)
  rw [cmpI_0 hk] at hCK
  subst hk
  have q7 : (k1 == 7) = false := by simp [h7]
  have q9 : (k1 == 9) = false := by simp [h9]
  have q10 : (k1 == 10) = false := by simp [h10]
  have HI := Lib.hid hI
  clear hI
  unfold headC
  dsimp only
  have HOr := Lib.hid (fun (W : World) (g : Nat) h => firstOr W g [cmpB nm1 nm2, cmpB fn1 fn2, cmpI g1 g2, cmpI i1 i2, cmpI ar1 ar2] 5 (by simp) h)
  generalize hres : (if firstL [cmpB nm1 nm2, cmpB fn1 fn2, cmpI g1 g2, cmpI i1 i2, cmpI ar1 ar2] = 0 then r else firstL [cmpB nm1 nm2, cmpB fn1 fn2, cmpI g1 g2, cmpI i1 i2, cmpI ar1 ar2]) = res at *
  have HRes := Lib.hid hres
  clear hres
  unfold IPostC at *
  unfold aggV
  dsimp only
  go_enter Tryz.func121, Tryz.ntmps121
  go_wp2_with fail
  obtain ⟨hN1, hN2, hbw, hsz⟩ := boxes2 w ⟨k1, i1, g1, nm1, fn1, ar1, x, a⟩ ⟨k1, i2, g2, nm2, fn2, ar2, y, b⟩ (.slice p1 m1 c1) (.slice p2 m2 c2)
  unfold cells9 at hN1 hN2 hbw hsz
  dsimp only at hN1 hN2 hbw hsz
  generalize ((w.alloc (.cells #[.int .i64 k1, .int .i64 i1, .int .i64 g1, .string nm1, .string fn1, .int .i64 ar1, .slice p1 m1 c1, .string x, .int .i64 a] 24)).alloc (.cells #[.int .i64 k1, .int .i64 i2, .int .i64 g2, .string nm2, .string fn2, .int .i64 ar2, .slice p2 m2 c2, .string y, .int .i64 b] 24)) = W0 at *
  have HZ1 : Hid (w.heap.size < W0.heap.size) := Lib.hid (by omega)
  have HZ2 : Hid (w.heap.size + 1 < W0.heap.size) := Lib.hid (by omega)
  clear hsz
  have HN1 := Lib.hid hN1
  have HN2 := Lib.hid hN2
  obtain ⟨x0, x1, x2, x3, x4, x5, x6, x7, x8, xz⟩ := hN1
  obtain ⟨y0, y1, y2, y3, y4, y5, y6, y7, y8, yz⟩ := hN2
  dsimp only at x0 x1 x2 x3 x4 x5 x6 x7 x8 y0 y1 y2 y3 y4 y5 y6 y7 y8
  refine (hCK.out _).mono ?_
  rintro e w' ⟨rfl, rfl⟩
  go_wp2_with fail
  go_still_tail 25, (by kernel_rfl)
  still_call ((cmpString nm1 nm2 _).mono (fun e w' h => ⟨h.1, h.2.symm⟩))
  repeat still_step
  still_call ((cmpString fn1 fn2 _).mono (fun e w' h => ⟨h.1, h.2.symm⟩))
  repeat still_step
  still_call ((cmpInt64 g1 g2 _).mono (fun e w' h => ⟨h.1, h.2.symm⟩))
  repeat still_step
  still_call ((cmpInt64 i1 i2 _).mono (fun e w' h => ⟨h.1, h.2.symm⟩))
  repeat still_step
  still_call ((cmpInt ar1 ar2 _).mono (fun e w' h => ⟨h.1, h.2.symm⟩))
  repeat still_step
  refine wpStill_nil ?_
  change wpList _ _ _ _ _ W0.drew
  have hN1 := nine_drew HN1.out
  have hN2 := nine_drew HN2.out
  have hbw1 : Below w.heap.size w W0.drew := hbw.drewN 1
  clear x0 x1 x2 x3 x4 x5 x6 x7 x8 xz y0 y1 y2 y3 y4 y5 y6 y7 y8 yz HN1 HN2 hbw
  have HZ1 : Hid (w.heap.size < W0.drew.heap.size) := Lib.hid HZ1.out
  have HZ2 : Hid (w.heap.size + 1 < W0.drew.heap.size) := Lib.hid HZ2.out
  generalize W0.drew = W1 at *
  generalize cmpB nm1 nm2 = u1 at *
  generalize cmpB fn1 fn2 = u2 at *
  generalize cmpI g1 g2 = u3 at *
  generalize cmpI i1 i2 = u4 at *
  generalize cmpI ar1 ar2 = u5 at *
  have HN1 := Lib.hid hN1
  have HN2 := Lib.hid hN2
  clear hN1 hN2
  go_wp2_with fail
  have hcells : ∀ j, (h : j < [u1, u2, u3, u4, u5].length) → (W1.alloc (.cells #[.int .i64 u1, .int .i64 u2, .int .i64 u3, .int .i64 u4, .int .i64 u5] 3)).cell? ⟨W1.heap.size, j, none⟩ = some (.int .i64 [u1, u2, u3, u4, u5][j]) := fun j h => by
    have hA := (MapKept.heap_alloc W1 (.cells #[.int .i64 u1, .int .i64 u2, .int .i64 u3, .int .i64 u4, .int .i64 u5] 3)).1
    rcases (show j = 0 ∨ j = 1 ∨ j = 2 ∨ j = 3 ∨ j = 4 by simp at h; omega) with rfl | rfl | rfl | rfl | rfl <;> (simp only [World.cell?, hA]; rfl)
  refine (HOr.out _ _ hcells).mono ?_
  clear hcells HOr
  rintro e w' ⟨rfl, rfl⟩
  have hbw2 : Below w.heap.size w (W1.alloc (.cells #[.int .i64 u1, .int .i64 u2, .int .i64 u3, .int .i64 u4, .int .i64 u5] 3)) := hbw1.alloc hbw1.size _
  have hbb : Below W1.heap.size W1 (W1.alloc (.cells #[.int .i64 u1, .int .i64 u2, .int .i64 u3, .int .i64 u4, .int .i64 u5] 3)) := (Below.refl _ _).alloc (Nat.le_refl _) _
  obtain ⟨x0, x1, x2, x3, x4, x5, x6, x7, x8, xz⟩ := HN1.out.below hbb HZ1.out
  obtain ⟨y0, y1, y2, y3, y4, y5, y6, y7, y8, yz⟩ := HN2.out.below hbb HZ2.out
  dsimp only at x0 x1 x2 x3 x4 x5 x6 x7 x8 y0 y1 y2 y3 y4 y5 y6 y7 y8
  clear hbb hbw1
  generalize (W1.alloc (.cells #[.int .i64 u1, .int .i64 u2, .int .i64 u3, .int .i64 u4, .int .i64 u5] 3)) = W2 at *
  generalize firstL [u1, u2, u3, u4, u5] = hd at *
  by_cases h0 : hd = 0
  · subst h0
    go_wp2_with fail
    refine (HI.out _ hbw2).mono ?_
    rintro e w3 ⟨rfl, hb3⟩
    go_wp2_with fail
    go_ret
    exact ⟨ret1i (by rw [← HRes.out]; simp), hbw2.trans (hb3.mono hbw2.size)⟩
  · have q : (hd != 0) = true := by simp [h0]
    have H0 := Lib.hid h0
    clear h0
    go_wp2_with fail
    go_ret
    exact ⟨ret1i (by rw [← HRes.out, if_neg H0.out]), hbw2⟩
end Go.Proofs.YtfbggmbmgohiiaaGreat.tm
