
/- heap's formed, of every kind. Conditions: as said. -/
import Derived.Test.YtpnlnbolhkcnjaaGreatCoH
namespace Go.Proofs.YtpnlnbolhkcnjaaGreat.cl
open Go.RowKit mem words
set_option linter.unusedVariables false
set_option linter.unusedSimpArgs false
set_option maxHeartbeats 1000000
set_option maxRecDepth 100000

theorem formed_k0 (w : World) (B : Nat) (v : Value) (l : List Int) (h : WAt w B v l) : Calls Tryz.prog 132 #[.int .i64 0, v] w fun e w' => e = .returned (.bool (fmd 0 l)) ∧ Below w.heap.size w w' := by
  obtain ⟨p, c, rfl, hlc, hcm, hh⟩ := h
  have HB : Hid (Below w.heap.size w (w.alloc (.cells #[.slice p l.length c] 22))) := Lib.hid ((Below.refl _ _).alloc (Nat.le_refl _) _)
  have HF : Hid (fmd 0 l = true) := Lib.hid rfl
  generalize fmd 0 l = r at *
  clear hh
  go_enter Tryz.func132, Tryz.ntmps132
  go_wp2_with fail
  go_ret
  exact ⟨(by rw [HF.out]; rfl), HB.out⟩
theorem formed_k1 (w : World) (B : Nat) (v : Value) (l : List Int) (h : WAt w B v l) : Calls Tryz.prog 132 #[.int .i64 1, v] w fun e w' => e = .returned (.bool (fmd 1 l)) ∧ Below w.heap.size w w' := by
  obtain ⟨p, c, rfl, hlc, hcm, hh⟩ := h
  have HB : Hid (Below w.heap.size w (w.alloc (.cells #[.slice p l.length c] 22))) := Lib.hid ((Below.refl _ _).alloc (Nat.le_refl _) _)
  have HF : Hid (fmd 1 l = decide (l.length ≤ 255)) := Lib.hid rfl
  generalize fmd 1 l = r at *
  clear hh
  by_cases h : l.length ≤ 255
  · have q : decide ((l.length : Int) ≤ 255) = true := decide_eq_true (by omega)
    rw [decide_eq_true h] at HF
    go_enter Tryz.func132, Tryz.ntmps132
    go_wp2_with fail
    go_ret
    exact ⟨(by rw [HF.out]; rfl), HB.out⟩
  · have q : decide ((l.length : Int) ≤ 255) = false := decide_eq_false (by omega)
    rw [decide_eq_false h] at HF
    go_enter Tryz.func132, Tryz.ntmps132
    go_wp2_with fail
    go_ret
    exact ⟨(by rw [HF.out]; rfl), HB.out⟩
theorem formed_k6 (w : World) (B : Nat) (v : Value) (l : List Int) (hB : B ≤ w.heap.size) (h : WAt w B v l) (hw : Wds l) : Calls Tryz.prog 132 #[.int .i64 6, v] w fun e w' => e = .returned (.bool (fmd 6 l)) ∧ Below w.heap.size w w' := by
  have HF : Hid (fmd 6 l = (decide (l.length = 1) && !smallOk (IntKind.i64.wrap (l.getD 0 0)))) := Lib.hid rfl
  have d0 := wds_getD hw 0
  obtain ⟨p, c, rfl, hlc, hcm, hh⟩ := h
  have hz := (MapKept.heap_alloc w (.cells #[.slice p l.length c] 22)).1
  have hbz : Below w.heap.size w (w.alloc (.cells #[.slice p l.length c] 22)) := (Below.refl _ _).alloc (Nat.le_refl _) _
  have HB := Lib.hid hbz
  by_cases h4 : l.length = 1
  · have q1 : ((l.length : Int) != 1) = false := by simp [h4]
    obtain ⟨g, o, rfl, _, hg, hc⟩ := RowAt.nth (w := w) (B := B) (l := l) ⟨_, _, rfl, hlc, hcm, hh⟩ (by omega)
    have c0 := (hbz.cell (p := ⟨g, o + 0, none⟩) (show g < w.heap.size by omega)).trans (hc 0 (by omega))
    simp only [Nat.add_zero] at c0
    have hwr : -9223372036854775808 ≤ IntKind.i64.wrap (l.getD 0 0) ∧ IntKind.i64.wrap (l.getD 0 0) ≤ 9223372036854775807 := ⟨by simp only [IntKind.wrap_i64]; omega, by simp only [IntKind.wrap_i64]; omega⟩
    rw [IntWalk.i64_left] at hwr HF
    have HS := Lib.hid (fun W => Small (wrap64 (l.getD 0 0)) hwr.1 hwr.2 W)
    rw [decide_eq_true h4, Bool.true_and] at HF
    have r0 : (0 : Int) < (l.length : Int) := by omega
    clear hc hh hz hbz hw hwr h4
    generalize fmd 6 l = r at *
    generalize l.getD 0 0 = x at *
    go_enter Tryz.func132, Tryz.ntmps132
    go_wp2_with fail
    refine (HS.out _).mono ?_
    rintro e w' ⟨rfl, rfl⟩
    generalize smallOk (wrap64 x) = A at *
    go_wp2_with fail
    go_ret
    exact ⟨(by rw [HF.out]; rfl), HB.out⟩
  · have q1 : ((l.length : Int) != 1) = true := by simp; omega
    rw [decide_eq_false h4, Bool.false_and] at HF
    clear hh hz hbz hw h4
    generalize fmd 6 l = r at *
    go_enter Tryz.func132, Tryz.ntmps132
    go_wp2_with fail
    go_ret
    exact ⟨(by rw [HF.out]; rfl), HB.out⟩
end Go.Proofs.YtpnlnbolhkcnjaaGreat.cl
