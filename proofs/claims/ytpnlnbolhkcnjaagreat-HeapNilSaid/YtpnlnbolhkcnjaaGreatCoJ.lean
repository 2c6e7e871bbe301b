
/- heap's formed: bit strings; fixed. Conditions: as said. -/
import Derived.Test.YtpnlnbolhkcnjaaGreatCoI
namespace Go.Proofs.YtpnlnbolhkcnjaaGreat.cl
open Go.RowKit mem words
set_option linter.unusedVariables false
set_option linter.unusedSimpArgs false
set_option maxHeartbeats 1000000
set_option maxRecDepth 100000

theorem formed_k7 (w : World) (B : Nat) (v : Value) (l : List Int) (hB : B ≤ w.heap.size) (h : WAt w B v l) (hw : Wds l) (hl : l.length ≤ 100000) : Calls Tryz.prog 132 #[.int .i64 7, v] w fun e w' => e = .returned (.bool (fmd 7 l)) ∧ Below w.heap.size w w' := by
  have HF : Hid (fmd 7 l = (!decide (l.length = 0) && (wi (l.getD 0 0) 0 512 && (decide ((l.length : Int) - 1 = (soN (l.getD 0 0) + 63) / 64) && usedOk (l.getD (l.length - 1) 0) (soN (l.getD 0 0)))))) := Lib.hid rfl
  have d0 := wds_getD hw 0
  have d1 := wds_getD hw (l.length - 1)
  obtain ⟨p, c, rfl, hlc, hcm, hh⟩ := h
  have hz := (MapKept.heap_alloc w (.cells #[.slice p l.length c] 22)).1
  have hbz : Below w.heap.size w (w.alloc (.cells #[.slice p l.length c] 22)) := (Below.refl _ _).alloc (Nat.le_refl _) _
  have HB := Lib.hid hbz
  by_cases h4 : l.length = 0
  · have q1 : ((l.length : Int) == 0) = true := by simp [h4]
    rw [decide_eq_true h4] at HF
    clear hh hz hbz hw h4 d0 d1
    generalize fmd 7 l = r at *
    go_enter Tryz.func132, Tryz.ntmps132
    go_wp2_with fail
    go_ret
    exact ⟨(by rw [HF.out]; rfl), HB.out⟩
  · have q1 : ((l.length : Int) == 0) = false := by simp; intro e; subst e; simp at h4
    obtain ⟨g, o, rfl, _, hg, hc⟩ := RowAt.nth (w := w) (B := B) (l := l) ⟨_, _, rfl, hlc, hcm, hh⟩ (by omega)
    have c0 := (hbz.cell (p := ⟨g, o + 0, none⟩) (show g < w.heap.size by omega)).trans (hc 0 (by omega))
    have c1 := (hbz.cell (p := ⟨g, o + (l.length - 1), none⟩) (show g < w.heap.size by omega)).trans (hc (l.length - 1) (by omega))
    simp only [Nat.add_zero] at c0
    rw [decide_eq_false h4, Bool.not_false, Bool.true_and] at HF
    have r0 : (0 : Int) < (l.length : Int) := by omega
    have H1 := Lib.hid (fun W => within137 _ 0 512 d0.1 d0.2 W)
    have H2 := Lib.hid (fun W => SmallOf _ d0.1 d0.2 W)
    have hwi : wi (l.getD 0 0) 0 512 = true → soOk (l.getD 0 0) = true ∧ 0 ≤ soN (l.getD 0 0) ∧ soN (l.getD 0 0) ≤ 512 := by
      intro h
      unfold wi at h
      rw [Bool.and_eq_true, decide_eq_true_eq] at h
      exact ⟨h.1, h.2.1, h.2.2⟩
    clear hc hh hz hbz hw
    generalize fmd 7 l = r at *
    generalize soN (l.getD 0 0) = n at *
    generalize l.getD 0 0 = x at *
    generalize l.getD (l.length - 1) 0 = y at *
    cases hW : wi x 0 512
    · rw [hW] at H1 HF
      clear h4 hwi hW
      go_enter Tryz.func132, Tryz.ntmps132
      go_wp2_with fail
      refine (H1.out _).mono ?_
      rintro e w' ⟨rfl, rfl⟩
      go_wp2_with fail
      go_ret
      exact ⟨(by rw [HF.out]; rfl), HB.out⟩
    · obtain ⟨hso, n0, n1⟩ := hwi hW
      rw [hW] at H1 HF
      rw [hso] at H2
      have hm0 : 0 ≤ n % 64 := by omega
      have hm1 : n % 64 < 64 := by omega
      by_cases he : (l.length : Int) - 1 = (n + 63) / 64
      · have q2 : ((l.length : Int) - 1 == (n + 63) / 64) = true := by simpa using he
        rw [decide_eq_true he] at HF
        have HE := Lib.hid he
        have hlm : ((l.length : Int) - 1).toNat = l.length - 1 := by omega
        have r1 : (0 : Int) ≤ (l.length : Int) - 1 := by omega
        have r2 : (l.length : Int) - 1 < (l.length : Int) := by omega
        clear hW hso he
        by_cases hu : n % 64 = 0
        · have q3 : (n % 64 == 0) = true := by simpa using hu
          have hus : usedOk y n = true := by unfold usedOk; rw [decide_eq_true hu]; rfl
          rw [hus] at HF
          clear hus hu h4 hlm r1 r2
          go_enter Tryz.func132, Tryz.ntmps132
          go_wp2_with fail
          refine (H1.out _).mono ?_
          rintro e w' ⟨rfl, rfl⟩
          go_wp2_with fail
          refine (H2.out _).mono ?_
          rintro e w' ⟨rfl, rfl⟩
          go_wp2_with fail
          go_ret
          exact ⟨(by rw [HF.out]; rfl), HB.out⟩
        · have q3 : (n % 64 == 0) = false := by simpa using hu
          have HU : Hid (usedOk y n = decide (y * 2 ^ (n % 64).toNat % 18446744073709551616 = 0)) := Lib.hid (by unfold usedOk; rw [decide_eq_false hu]; rfl)
          clear hu h4
          go_enter Tryz.func132, Tryz.ntmps132
          go_wp2_with fail
          refine (H1.out _).mono ?_
          rintro e w' ⟨rfl, rfl⟩
          go_wp2_with fail
          refine (H2.out _).mono ?_
          rintro e w' ⟨rfl, rfl⟩
          go_wp2_with fail
          go_ret
          exact ⟨ret1b (by rw [HF.out, HU.out, IntKind.wrap_u64, Bool.eq_iff_iff]; simp), HB.out⟩
      · have q2 : ((l.length : Int) - 1 == (n + 63) / 64) = false := by simpa using he
        rw [decide_eq_false he] at HF
        clear hW hso he h4
        go_enter Tryz.func132, Tryz.ntmps132
        go_wp2_with fail
        refine (H1.out _).mono ?_
        rintro e w' ⟨rfl, rfl⟩
        go_wp2_with fail
        refine (H2.out _).mono ?_
        rintro e w' ⟨rfl, rfl⟩
        go_wp2_with fail
        go_ret
        exact ⟨(by rw [HF.out]; rfl), HB.out⟩
theorem formed113 (w : World) (B : Nat) (v : Value) (k : Int) (l : List Int) (hB : B ≤ w.heap.size) (h : WAt w B v l) (hw : Wds l) (hl : l.length ≤ 100000) (k0 : 0 ≤ k) (k8 : k ≤ 8) : Calls Tryz.prog 132 #[.int .i64 k, v] w fun e w' => e = .returned (.bool (fmd k l)) ∧ Below w.heap.size w w' := by
  have hk : k = 0 ∨ k = 1 ∨ k = 2 ∨ k = 3 ∨ k = 4 ∨ k = 5 ∨ k = 6 ∨ k = 7 ∨ k = 8 := by omega
  rcases hk with rfl | rfl | rfl | rfl | rfl | rfl | rfl | rfl | rfl
  · exact formed_k0 w B v l h
  · exact formed_k1 w B v l h
  · exact formed_k2 w B v l hB h hw
  · exact formed_k3 w B v l hB h hw
  · exact formed_k4 w B v l hB h hw
  · exact formed_k5 w B v l hB h hw
  · exact formed_k6 w B v l hB h hw
  · exact formed_k7 w B v l hB h hw hl
  · exact formed_k8 w B v l hB h hw
theorem knd_rng {x : List Int} (h : IsObj x) : 0 ≤ knd x ∧ knd x ≤ 8 := by
  obtain ⟨y, r, rfl, hk, hl⟩ := h
  show 0 ≤ (if y % 4 = 0 then hoK y else 0) ∧ (if y % 4 = 0 then hoK y else 0) ≤ 8
  split
  · unfold hoK
    split
    · rename_i ho
      unfold hoOk at ho
      have := of_decide_eq_true ho
      omega
    · omega
  · omega
/-- how many words behind the header are not followed -/
def fxd (k : Int) (n : Nat) : Nat := if k = 0 ∨ k = 1 then 0 else if k = 2 then min 4 n else n
theorem fixed114 (w : World) (p : Option Addr) (n c : Nat) (k : Int) : Calls Tryz.prog 133 #[.int .i64 k, .slice p n c] w fun e w' => e = .returned (.int .i64 (fxd k n)) ∧ w = w' := by
  by_cases h0 : k = 0
  · subst h0
    go_enter Tryz.func133, Tryz.ntmps133
    go_wp2_with fail
    go_ret
    exact ⟨rfl, rfl⟩
  by_cases h1 : k = 1
  · subst h1
    go_enter Tryz.func133, Tryz.ntmps133
    go_wp2_with fail
    go_ret
    exact ⟨rfl, rfl⟩
  have q0 : (k == 0) = false := by simpa using h0
  have q1 : (k == 1) = false := by simpa using h1
  by_cases h2 : k = 2
  · subst h2
    by_cases hn : n < 4
    · have HX : Hid (fxd 2 n = n) := Lib.hid (by show min 4 n = n; omega)
      have q : decide ((n : Int) < 4) = true := decide_eq_true (by omega)
      have q' : (n : Int) < 4 := by omega
      generalize fxd 2 n = r at *
      go_enter Tryz.func133, Tryz.ntmps133
      go_wp2_with fail
      go_ret
      exact ⟨(by rw [HX.out]; rfl), rfl⟩
    · have HX : Hid (fxd 2 n = 4) := Lib.hid (by show min 4 n = 4; omega)
      have q : decide ((n : Int) < 4) = false := decide_eq_false (by omega)
      have q' : ¬ (n : Int) < 4 := by omega
      generalize fxd 2 n = r at *
      go_enter Tryz.func133, Tryz.ntmps133
      go_wp2_with fail
      go_ret
      exact ⟨(by rw [HX.out]; rfl), rfl⟩
  · have q2 : (k == 2) = false := by simpa using h2
    have HX : Hid (fxd k n = n) := Lib.hid (by unfold fxd; rw [if_neg (by omega), if_neg h2])
    generalize fxd k n = r at *
    clear h0 h1 h2
    go_enter Tryz.func133, Tryz.ntmps133
    go_wp2_with fail
    go_ret
    exact ⟨(by rw [HX.out]; rfl), rfl⟩
end Go.Proofs.YtpnlnbolhkcnjaaGreat.cl
