
/- The reference's IsTerm, Object, number, split but for bit strings. Conditions: as said. -/
import Derived.Test.YtpnlnbolhkcnjaaGreatCoL
namespace Go.Proofs.YtpnlnbolhkcnjaaGreat.cl
open Go.RowKit mem words
set_option linter.unusedVariables false
set_option linter.unusedSimpArgs false
set_option maxHeartbeats 2000000
set_option maxRecDepth 100000

theorem number119 (x lo hi : Int) (h0 : 0 ≤ x) (h1 : x ≤ 18446744073709551615) (w : World) : Calls Tryz.prog 190 #[.int .u64 x, .int .i64 lo, .int .i64 hi] w fun e w' => e = .returned (.tuple #[.int .i64 (soN x), .bool (wi x lo hi)]) ∧ w = w' := by
  have HS := Lib.hid (fun W => RSmallOf x h0 h1 W)
  have HW : Hid (wi x lo hi = (soOk x && decide (lo ≤ soN x ∧ soN x ≤ hi))) := Lib.hid rfl
  generalize wi x lo hi = r at *
  generalize soN x = n at *
  cases hs : soOk x
  · rw [hs] at HS HW
    go_enter Tryz.func190, Tryz.ntmps190
    go_wp2_with (go_at_call 183; refine (HS.out _).mono ?_; rintro e w' ⟨rfl, rfl⟩)
    go_ret2
    exact ⟨by rw [HW.out]; rfl, rfl⟩
  · rw [hs] at HS HW
    by_cases h2 : lo ≤ n
    · by_cases h3 : n ≤ hi
      · have e1 : Hid (r = true) := Lib.hid (by rw [HW.out]; simp [h2, h3])
        have q1 : decide (lo ≤ n) = true := decide_eq_true h2
        have q2 : decide (n ≤ hi) = true := decide_eq_true h3
        go_enter Tryz.func190, Tryz.ntmps190
        go_wp2_with (go_at_call 183; refine (HS.out _).mono ?_; rintro e w' ⟨rfl, rfl⟩)
        go_ret2
        exact ⟨by rw [e1.out]; rfl, rfl⟩
      · have e1 : Hid (r = false) := Lib.hid (by rw [HW.out]; simp [h2, h3])
        have q1 : decide (lo ≤ n) = true := decide_eq_true h2
        have q2 : decide (n ≤ hi) = false := decide_eq_false h3
        go_enter Tryz.func190, Tryz.ntmps190
        go_wp2_with (go_at_call 183; refine (HS.out _).mono ?_; rintro e w' ⟨rfl, rfl⟩)
        go_ret2
        exact ⟨by rw [e1.out]; rfl, rfl⟩
    · have e1 : Hid (r = false) := Lib.hid (by rw [HW.out]; simp [h2])
      have q1 : decide (lo ≤ n) = false := decide_eq_false h2
      go_enter Tryz.func190, Tryz.ntmps190
      go_wp2_with (go_at_call 183; refine (HS.out _).mono ?_; rintro e w' ⟨rfl, rfl⟩)
      go_ret2
      exact ⟨by rw [e1.out]; rfl, rfl⟩
/-- what split hands back -/
def SplitR (k : Int) (l : List Int) (w : World) (e : Ending) (w' : World) : Prop := ∃ n : Int, e = .returned (.tuple #[.int .i64 n, .bool (fmd k l)]) ∧ (fmd k l = true → n = (fxd k l.length : Int)) ∧ Below w.heap.size w w'
theorem split_k0 (w : World) (p : Option Addr) (c : Nat) (l : List Int) : Calls Tryz.prog 137 #[.int .i64 0, .slice p l.length c] w (SplitR 0 l w) := by
  have HF : Hid (fmd 0 l = true ∧ fxd 0 l.length = 0) := Lib.hid ⟨rfl, rfl⟩
  unfold SplitR
  generalize fmd 0 l = r at *
  generalize fxd 0 l.length = q at *
  go_enter Tryz.func137, Tryz.ntmps137
  go_wp2_with fail
  go_ret2
  exact ⟨0, by rw [HF.out.1]; rfl, fun _ => by rw [HF.out.2]; rfl, Below.refl _ _⟩
theorem split_k1 (w : World) (p : Option Addr) (c : Nat) (l : List Int) : Calls Tryz.prog 137 #[.int .i64 1, .slice p l.length c] w (SplitR 1 l w) := by
  have HF : Hid (fmd 1 l = decide (l.length ≤ 255) ∧ fxd 1 l.length = 0) := Lib.hid ⟨rfl, rfl⟩
  unfold SplitR
  generalize fmd 1 l = r at *
  generalize fxd 1 l.length = q at *
  by_cases h : l.length ≤ 255
  · have q : decide ((l.length : Int) ≤ 255) = true := decide_eq_true (by omega)
    rw [decide_eq_true h] at HF
    go_enter Tryz.func137, Tryz.ntmps137
    go_wp2_with fail
    go_ret2
    exact ⟨0, by rw [HF.out.1]; rfl, fun _ => by rw [HF.out.2]; rfl, Below.refl _ _⟩
  · have q : decide ((l.length : Int) ≤ 255) = false := decide_eq_false (by omega)
    rw [decide_eq_false h] at HF
    go_enter Tryz.func137, Tryz.ntmps137
    go_wp2_with fail
    go_ret2
    exact ⟨0, by rw [HF.out.1]; rfl, fun _ => by rw [HF.out.2]; rfl, Below.refl _ _⟩
theorem split_k6 (w : World) (B : Nat) (p : Option Addr) (c : Nat) (l : List Int) (hB : B ≤ w.heap.size) (h : WAt w B (.slice p l.length c) l) (hw : Wds l) : Calls Tryz.prog 137 #[.int .i64 6, .slice p l.length c] w (SplitR 6 l w) := by
  have HF : Hid (fmd 6 l = (decide (l.length = 1) && !smallOk (IntKind.i64.wrap (l.getD 0 0)))) := Lib.hid rfl
  have HQ : Hid (fxd 6 l.length = l.length) := Lib.hid rfl
  have d0 := wds_getD hw 0
  unfold SplitR
  by_cases h4 : l.length = 1
  · have q1 : ((l.length : Int) != 1) = false := by simp [h4]
    obtain ⟨g, o, rfl, _, hg, hc⟩ := RowAt.nth h (by omega)
    have c0 := hc 0 (by omega)
    simp only [Nat.add_zero] at c0
    have hwr : -9223372036854775808 ≤ IntKind.i64.wrap (l.getD 0 0) ∧ IntKind.i64.wrap (l.getD 0 0) ≤ 9223372036854775807 := ⟨by simp only [IntKind.wrap_i64]; omega, by simp only [IntKind.wrap_i64]; omega⟩
    rw [IntWalk.i64_left] at hwr HF
    have HS := Lib.hid (fun W => RSmall (wrap64 (l.getD 0 0)) hwr.1 hwr.2 W)
    rw [decide_eq_true h4, Bool.true_and] at HF
    have HQ1 : Hid (fxd 6 l.length = 1) := Lib.hid (by rw [HQ.out, h4])
    have r0 : (0 : Int) < (l.length : Int) := by omega
    clear hc h hw hwr h4 HQ
    generalize fmd 6 l = r at *
    generalize fxd 6 l.length = q at *
    generalize l.getD 0 0 = x at *
    go_enter Tryz.func137, Tryz.ntmps137
    go_wp2_with fail
    refine (HS.out _).mono ?_
    rintro e w' ⟨rfl, rfl⟩
    generalize smallOk (wrap64 x) = A at *
    go_wp2_with fail
    go_ret2
    exact ⟨1, by rw [HF.out]; rfl, fun _ => by rw [HQ1.out]; rfl, Below.refl _ _⟩
  · have q1 : ((l.length : Int) != 1) = true := by simp; omega
    rw [decide_eq_false h4, Bool.false_and] at HF
    clear h hw h4 HQ
    generalize fmd 6 l = r at *
    generalize fxd 6 l.length = q at *
    go_enter Tryz.func137, Tryz.ntmps137
    go_wp2_with fail
    go_ret2
    exact ⟨0, by rw [HF.out]; rfl, fun h => by rw [HF.out] at h; exact Bool.noConfusion h, Below.refl _ _⟩
theorem split_k2 (w : World) (B : Nat) (p : Option Addr) (c : Nat) (l : List Int) (hB : B ≤ w.heap.size) (h : WAt w B (.slice p l.length c) l) (hw : Wds l) : Calls Tryz.prog 137 #[.int .i64 2, .slice p l.length c] w (SplitR 2 l w) := by
  have HF : Hid (fmd 2 l = (decide (4 ≤ l.length ∧ l.length ≤ 204) && (aoOk (l.getD 0 0) && (wi (l.getD 1 0) 1 2147483647 && (wi (l.getD 2 0) 0 999 && wi (l.getD 3 0) 0 16))))) := Lib.hid rfl
  have HQ : Hid (fxd 2 l.length = min 4 l.length) := Lib.hid rfl
  unfold SplitR
  have d0 := wds_getD hw 0
  have d1 := wds_getD hw 1
  have d2 := wds_getD hw 2
  have d3 := wds_getD hw 3
  by_cases h4 : 4 ≤ l.length
  · have q1 : decide ((l.length : Int) < 4) = false := decide_eq_false (by omega)
    by_cases h5 : l.length ≤ 204
    · have q2 : decide ((204 : Int) < (l.length : Int)) = false := decide_eq_false (by omega)
      obtain ⟨g, o, rfl, _, hg, hc⟩ := RowAt.nth h (by omega)
      have c0 := hc 0 (by omega)
      have c1 := hc 1 (by omega)
      have c2 := hc 2 (by omega)
      have c3 := hc 3 (by omega)
      simp only [Nat.add_zero] at c0
      have H0 := Lib.hid (fun W => RAtomOf _ d0.1 d0.2 W)
      have H1 := Lib.hid (fun W => number119 _ 1 2147483647 d1.1 d1.2 W)
      have H2 := Lib.hid (fun W => number119 _ 0 999 d2.1 d2.2 W)
      have H3 := Lib.hid (fun W => number119 _ 0 16 d3.1 d3.2 W)
      rw [decide_eq_true (show 4 ≤ l.length ∧ l.length ≤ 204 from ⟨h4, h5⟩), Bool.true_and] at HF
      have HQ1 : Hid (fxd 2 l.length = 4) := Lib.hid (by rw [HQ.out]; omega)
      clear hc h hw HQ
      generalize fmd 2 l = r at *
      generalize fxd 2 l.length = q at *
      generalize aoOk (l.getD 0 0) = T0 at *
      generalize wi (l.getD 1 0) 1 2147483647 = T1 at *
      generalize wi (l.getD 2 0) 0 999 = T2 at *
      generalize wi (l.getD 3 0) 0 16 = T3 at *
      generalize aoN (l.getD 0 0) = an0 at *
      generalize soN (l.getD 0 0) = sn0 at *
      generalize l.getD 0 0 = x0 at *
      generalize aoN (l.getD 1 0) = an1 at *
      generalize soN (l.getD 1 0) = sn1 at *
      generalize l.getD 1 0 = x1 at *
      generalize aoN (l.getD 2 0) = an2 at *
      generalize soN (l.getD 2 0) = sn2 at *
      generalize l.getD 2 0 = x2 at *
      generalize aoN (l.getD 3 0) = an3 at *
      generalize soN (l.getD 3 0) = sn3 at *
      generalize l.getD 3 0 = x3 at *
      have r0 : (0 : Int) < (l.length : Int) := by omega
      have r1 : (1 : Int) < (l.length : Int) := by omega
      have r2 : (2 : Int) < (l.length : Int) := by omega
      have r3 : (3 : Int) < (l.length : Int) := by omega
      go_enter Tryz.func137, Tryz.ntmps137
      cases T0
      · go_wp2_with fail
        refine (H0.out _).mono ?_
        rintro e w' ⟨rfl, rfl⟩
        go_wp2_with fail
        refine (H1.out _).mono ?_
        rintro e w' ⟨rfl, rfl⟩
        go_wp2_with fail
        refine (H2.out _).mono ?_
        rintro e w' ⟨rfl, rfl⟩
        go_wp2_with fail
        refine (H3.out _).mono ?_
        rintro e w' ⟨rfl, rfl⟩
        go_wp2_with fail
        go_ret2
        exact ⟨4, by rw [HF.out]; rfl, fun _ => by rw [HQ1.out]; rfl, Below.refl _ _⟩
      · cases T1
        · go_wp2_with fail
          refine (H0.out _).mono ?_
          rintro e w' ⟨rfl, rfl⟩
          go_wp2_with fail
          refine (H1.out _).mono ?_
          rintro e w' ⟨rfl, rfl⟩
          go_wp2_with fail
          refine (H2.out _).mono ?_
          rintro e w' ⟨rfl, rfl⟩
          go_wp2_with fail
          refine (H3.out _).mono ?_
          rintro e w' ⟨rfl, rfl⟩
          go_wp2_with fail
          go_ret2
          exact ⟨4, by rw [HF.out]; rfl, fun _ => by rw [HQ1.out]; rfl, Below.refl _ _⟩
        · cases T2
          · go_wp2_with fail
            refine (H0.out _).mono ?_
            rintro e w' ⟨rfl, rfl⟩
            go_wp2_with fail
            refine (H1.out _).mono ?_
            rintro e w' ⟨rfl, rfl⟩
            go_wp2_with fail
            refine (H2.out _).mono ?_
            rintro e w' ⟨rfl, rfl⟩
            go_wp2_with fail
            refine (H3.out _).mono ?_
            rintro e w' ⟨rfl, rfl⟩
            go_wp2_with fail
            go_ret2
            exact ⟨4, by rw [HF.out]; rfl, fun _ => by rw [HQ1.out]; rfl, Below.refl _ _⟩
          · cases T3
            · go_wp2_with fail
              refine (H0.out _).mono ?_
              rintro e w' ⟨rfl, rfl⟩
              go_wp2_with fail
              refine (H1.out _).mono ?_
              rintro e w' ⟨rfl, rfl⟩
              go_wp2_with fail
              refine (H2.out _).mono ?_
              rintro e w' ⟨rfl, rfl⟩
              go_wp2_with fail
              refine (H3.out _).mono ?_
              rintro e w' ⟨rfl, rfl⟩
              go_wp2_with fail
              go_ret2
              exact ⟨4, by rw [HF.out]; rfl, fun _ => by rw [HQ1.out]; rfl, Below.refl _ _⟩
            · go_wp2_with fail
              refine (H0.out _).mono ?_
              rintro e w' ⟨rfl, rfl⟩
              go_wp2_with fail
              refine (H1.out _).mono ?_
              rintro e w' ⟨rfl, rfl⟩
              go_wp2_with fail
              refine (H2.out _).mono ?_
              rintro e w' ⟨rfl, rfl⟩
              go_wp2_with fail
              refine (H3.out _).mono ?_
              rintro e w' ⟨rfl, rfl⟩
              go_wp2_with fail
              go_ret2
              exact ⟨4, by rw [HF.out]; rfl, fun _ => by rw [HQ1.out]; rfl, Below.refl _ _⟩
    · have q2 : decide ((204 : Int) < (l.length : Int)) = true := decide_eq_true (by omega)
      rw [decide_eq_false (show ¬ (4 ≤ l.length ∧ l.length ≤ 204) from fun h => h5 h.2), Bool.false_and] at HF
      clear h hw
      generalize fmd 2 l = r at *
      generalize fxd 2 l.length = q at *
      go_enter Tryz.func137, Tryz.ntmps137
      go_wp2_with fail
      go_ret2
      exact ⟨0, by rw [HF.out]; rfl, fun h => by rw [HF.out] at h; exact Bool.noConfusion h, Below.refl _ _⟩
  · have q1 : decide ((l.length : Int) < 4) = true := decide_eq_true (by omega)
    rw [decide_eq_false (show ¬ (4 ≤ l.length ∧ l.length ≤ 204) from fun h => h4 h.1), Bool.false_and] at HF
    clear h hw
    generalize fmd 2 l = r at *
    generalize fxd 2 l.length = q at *
    go_enter Tryz.func137, Tryz.ntmps137
    go_wp2_with fail
    go_ret2
    exact ⟨0, by rw [HF.out]; rfl, fun h => by rw [HF.out] at h; exact Bool.noConfusion h, Below.refl _ _⟩
theorem split_k3 (w : World) (B : Nat) (p : Option Addr) (c : Nat) (l : List Int) (hB : B ≤ w.heap.size) (h : WAt w B (.slice p l.length c) l) (hw : Wds l) : Calls Tryz.prog 137 #[.int .i64 3, .slice p l.length c] w (SplitR 3 l w) := by
  have HF : Hid (fmd 3 l = (decide (l.length = 3) && (aoOk (l.getD 0 0) && (aoOk (l.getD 1 0) && wi (l.getD 2 0) 0 16)))) := Lib.hid rfl
  have HQ : Hid (fxd 3 l.length = l.length) := Lib.hid rfl
  unfold SplitR
  have d0 := wds_getD hw 0
  have d1 := wds_getD hw 1
  have d2 := wds_getD hw 2
  by_cases h4 : l.length = 3
  · have q1 : ((l.length : Int) != 3) = false := by simp [h4]
    by_cases h5 : True
    · have q2 : True := trivial
      obtain ⟨g, o, rfl, _, hg, hc⟩ := RowAt.nth h (by omega)
      have c0 := hc 0 (by omega)
      have c1 := hc 1 (by omega)
      have c2 := hc 2 (by omega)
      simp only [Nat.add_zero] at c0
      have H0 := Lib.hid (fun W => RAtomOf _ d0.1 d0.2 W)
      have H1 := Lib.hid (fun W => RAtomOf _ d1.1 d1.2 W)
      have H2 := Lib.hid (fun W => number119 _ 0 16 d2.1 d2.2 W)
      rw [decide_eq_true (show l.length = 3 from h4), Bool.true_and] at HF
      have HQ1 : Hid (fxd 3 l.length = 3) := Lib.hid (by rw [HQ.out, h4])
      clear hc h hw HQ
      generalize fmd 3 l = r at *
      generalize fxd 3 l.length = q at *
      generalize aoOk (l.getD 0 0) = T0 at *
      generalize aoOk (l.getD 1 0) = T1 at *
      generalize wi (l.getD 2 0) 0 16 = T2 at *
      generalize aoN (l.getD 0 0) = an0 at *
      generalize soN (l.getD 0 0) = sn0 at *
      generalize l.getD 0 0 = x0 at *
      generalize aoN (l.getD 1 0) = an1 at *
      generalize soN (l.getD 1 0) = sn1 at *
      generalize l.getD 1 0 = x1 at *
      generalize aoN (l.getD 2 0) = an2 at *
      generalize soN (l.getD 2 0) = sn2 at *
      generalize l.getD 2 0 = x2 at *
      have r0 : (0 : Int) < (l.length : Int) := by omega
      have r1 : (1 : Int) < (l.length : Int) := by omega
      have r2 : (2 : Int) < (l.length : Int) := by omega
      clear h4
      go_enter Tryz.func137, Tryz.ntmps137
      cases T0
      · go_wp2_with fail
        refine (H0.out _).mono ?_
        rintro e w' ⟨rfl, rfl⟩
        go_wp2_with fail
        refine (H1.out _).mono ?_
        rintro e w' ⟨rfl, rfl⟩
        go_wp2_with fail
        refine (H2.out _).mono ?_
        rintro e w' ⟨rfl, rfl⟩
        go_wp2_with fail
        go_ret2
        exact ⟨3, by rw [HF.out]; rfl, fun _ => by rw [HQ1.out]; rfl, Below.refl _ _⟩
      · cases T1
        · go_wp2_with fail
          refine (H0.out _).mono ?_
          rintro e w' ⟨rfl, rfl⟩
          go_wp2_with fail
          refine (H1.out _).mono ?_
          rintro e w' ⟨rfl, rfl⟩
          go_wp2_with fail
          refine (H2.out _).mono ?_
          rintro e w' ⟨rfl, rfl⟩
          go_wp2_with fail
          go_ret2
          exact ⟨3, by rw [HF.out]; rfl, fun _ => by rw [HQ1.out]; rfl, Below.refl _ _⟩
        · cases T2
          · go_wp2_with fail
            refine (H0.out _).mono ?_
            rintro e w' ⟨rfl, rfl⟩
            go_wp2_with fail
            refine (H1.out _).mono ?_
            rintro e w' ⟨rfl, rfl⟩
            go_wp2_with fail
            refine (H2.out _).mono ?_
            rintro e w' ⟨rfl, rfl⟩
            go_wp2_with fail
            go_ret2
            exact ⟨3, by rw [HF.out]; rfl, fun _ => by rw [HQ1.out]; rfl, Below.refl _ _⟩
          · go_wp2_with fail
            refine (H0.out _).mono ?_
            rintro e w' ⟨rfl, rfl⟩
            go_wp2_with fail
            refine (H1.out _).mono ?_
            rintro e w' ⟨rfl, rfl⟩
            go_wp2_with fail
            refine (H2.out _).mono ?_
            rintro e w' ⟨rfl, rfl⟩
            go_wp2_with fail
            go_ret2
            exact ⟨3, by rw [HF.out]; rfl, fun _ => by rw [HQ1.out]; rfl, Below.refl _ _⟩
    · exact absurd trivial h5
  · have q1 : ((l.length : Int) != 3) = true := by simp; omega
    rw [decide_eq_false (show ¬ (l.length = 3) from h4), Bool.false_and] at HF
    clear h hw h4
    generalize fmd 3 l = r at *
    generalize fxd 3 l.length = q at *
    go_enter Tryz.func137, Tryz.ntmps137
    go_wp2_with fail
    go_ret2
    exact ⟨0, by rw [HF.out]; rfl, fun h => by rw [HF.out] at h; exact Bool.noConfusion h, Below.refl _ _⟩
theorem split_k4 (w : World) (B : Nat) (p : Option Addr) (c : Nat) (l : List Int) (hB : B ≤ w.heap.size) (h : WAt w B (.slice p l.length c) l) (hw : Wds l) : Calls Tryz.prog 137 #[.int .i64 4, .slice p l.length c] w (SplitR 4 l w) := by
  have HF : Hid (fmd 4 l = (decide (l.length = 3) && (aoOk (l.getD 0 0) && (wi (l.getD 1 0) 1 2147483647 && wi (l.getD 2 0) 1 2147483647)))) := Lib.hid rfl
  have HQ : Hid (fxd 4 l.length = l.length) := Lib.hid rfl
  unfold SplitR
  have d0 := wds_getD hw 0
  have d1 := wds_getD hw 1
  have d2 := wds_getD hw 2
  by_cases h4 : l.length = 3
  · have q1 : ((l.length : Int) != 3) = false := by simp [h4]
    by_cases h5 : True
    · have q2 : True := trivial
      obtain ⟨g, o, rfl, _, hg, hc⟩ := RowAt.nth h (by omega)
      have c0 := hc 0 (by omega)
      have c1 := hc 1 (by omega)
      have c2 := hc 2 (by omega)
      simp only [Nat.add_zero] at c0
      have H0 := Lib.hid (fun W => RAtomOf _ d0.1 d0.2 W)
      have H1 := Lib.hid (fun W => RAtomOf _ d1.1 d1.2 W)
      have H2 := Lib.hid (fun W => number119 _ 1 2147483647 d1.1 d1.2 W)
      have H3 := Lib.hid (fun W => number119 _ 1 2147483647 d2.1 d2.2 W)
      rw [decide_eq_true (show l.length = 3 from h4), Bool.true_and] at HF
      have HQ1 : Hid (fxd 4 l.length = 3) := Lib.hid (by rw [HQ.out, h4])
      clear hc h hw HQ
      generalize fmd 4 l = r at *
      generalize fxd 4 l.length = q at *
      generalize aoOk (l.getD 0 0) = T0 at *
      generalize wi (l.getD 1 0) 1 2147483647 = T1 at *
      generalize wi (l.getD 2 0) 1 2147483647 = T2 at *
      generalize aoOk (l.getD 1 0) = U0 at *
      generalize aoN (l.getD 0 0) = an0 at *
      generalize soN (l.getD 0 0) = sn0 at *
      generalize l.getD 0 0 = x0 at *
      generalize aoN (l.getD 1 0) = an1 at *
      generalize soN (l.getD 1 0) = sn1 at *
      generalize l.getD 1 0 = x1 at *
      generalize aoN (l.getD 2 0) = an2 at *
      generalize soN (l.getD 2 0) = sn2 at *
      generalize l.getD 2 0 = x2 at *
      have r0 : (0 : Int) < (l.length : Int) := by omega
      have r1 : (1 : Int) < (l.length : Int) := by omega
      have r2 : (2 : Int) < (l.length : Int) := by omega
      clear h4
      go_enter Tryz.func137, Tryz.ntmps137
      cases T0
      · go_wp2_with fail
        refine (H0.out _).mono ?_
        rintro e w' ⟨rfl, rfl⟩
        go_wp2_with fail
        refine (H1.out _).mono ?_
        rintro e w' ⟨rfl, rfl⟩
        go_wp2_with fail
        refine (H2.out _).mono ?_
        rintro e w' ⟨rfl, rfl⟩
        go_wp2_with fail
        refine (H3.out _).mono ?_
        rintro e w' ⟨rfl, rfl⟩
        go_wp2_with fail
        go_ret2
        exact ⟨3, by rw [HF.out]; rfl, fun _ => by rw [HQ1.out]; rfl, Below.refl _ _⟩
      · cases T1
        · go_wp2_with fail
          refine (H0.out _).mono ?_
          rintro e w' ⟨rfl, rfl⟩
          go_wp2_with fail
          refine (H1.out _).mono ?_
          rintro e w' ⟨rfl, rfl⟩
          go_wp2_with fail
          refine (H2.out _).mono ?_
          rintro e w' ⟨rfl, rfl⟩
          go_wp2_with fail
          refine (H3.out _).mono ?_
          rintro e w' ⟨rfl, rfl⟩
          go_wp2_with fail
          go_ret2
          exact ⟨3, by rw [HF.out]; rfl, fun _ => by rw [HQ1.out]; rfl, Below.refl _ _⟩
        · cases T2
          · go_wp2_with fail
            refine (H0.out _).mono ?_
            rintro e w' ⟨rfl, rfl⟩
            go_wp2_with fail
            refine (H1.out _).mono ?_
            rintro e w' ⟨rfl, rfl⟩
            go_wp2_with fail
            refine (H2.out _).mono ?_
            rintro e w' ⟨rfl, rfl⟩
            go_wp2_with fail
            refine (H3.out _).mono ?_
            rintro e w' ⟨rfl, rfl⟩
            go_wp2_with fail
            go_ret2
            exact ⟨3, by rw [HF.out]; rfl, fun _ => by rw [HQ1.out]; rfl, Below.refl _ _⟩
          · go_wp2_with fail
            refine (H0.out _).mono ?_
            rintro e w' ⟨rfl, rfl⟩
            go_wp2_with fail
            refine (H1.out _).mono ?_
            rintro e w' ⟨rfl, rfl⟩
            go_wp2_with fail
            refine (H2.out _).mono ?_
            rintro e w' ⟨rfl, rfl⟩
            go_wp2_with fail
            refine (H3.out _).mono ?_
            rintro e w' ⟨rfl, rfl⟩
            go_wp2_with fail
            go_ret2
            exact ⟨3, by rw [HF.out]; rfl, fun _ => by rw [HQ1.out]; rfl, Below.refl _ _⟩
    · exact absurd trivial h5
  · have q1 : ((l.length : Int) != 3) = true := by simp; omega
    rw [decide_eq_false (show ¬ (l.length = 3) from h4), Bool.false_and] at HF
    clear h hw h4
    generalize fmd 4 l = r at *
    generalize fxd 4 l.length = q at *
    go_enter Tryz.func137, Tryz.ntmps137
    go_wp2_with fail
    go_ret2
    exact ⟨0, by rw [HF.out]; rfl, fun h => by rw [HF.out] at h; exact Bool.noConfusion h, Below.refl _ _⟩
theorem split_k5 (w : World) (B : Nat) (p : Option Addr) (c : Nat) (l : List Int) (hB : B ≤ w.heap.size) (h : WAt w B (.slice p l.length c) l) (hw : Wds l) : Calls Tryz.prog 137 #[.int .i64 5, .slice p l.length c] w (SplitR 5 l w) := by
  have HF : Hid (fmd 5 l = (decide (l.length = 3) && (aoOk (l.getD 0 0) && (wi (l.getD 1 0) 1 2147483647 && wi (l.getD 2 0) 1 2147483647)))) := Lib.hid rfl
  have HQ : Hid (fxd 5 l.length = l.length) := Lib.hid rfl
  unfold SplitR
  have d0 := wds_getD hw 0
  have d1 := wds_getD hw 1
  have d2 := wds_getD hw 2
  by_cases h4 : l.length = 3
  · have q1 : ((l.length : Int) != 3) = false := by simp [h4]
    by_cases h5 : True
    · have q2 : True := trivial
      obtain ⟨g, o, rfl, _, hg, hc⟩ := RowAt.nth h (by omega)
      have c0 := hc 0 (by omega)
      have c1 := hc 1 (by omega)
      have c2 := hc 2 (by omega)
      simp only [Nat.add_zero] at c0
      have H0 := Lib.hid (fun W => RAtomOf _ d0.1 d0.2 W)
      have H1 := Lib.hid (fun W => RAtomOf _ d1.1 d1.2 W)
      have H2 := Lib.hid (fun W => number119 _ 1 2147483647 d1.1 d1.2 W)
      have H3 := Lib.hid (fun W => number119 _ 1 2147483647 d2.1 d2.2 W)
      rw [decide_eq_true (show l.length = 3 from h4), Bool.true_and] at HF
      have HQ1 : Hid (fxd 5 l.length = 3) := Lib.hid (by rw [HQ.out, h4])
      clear hc h hw HQ
      generalize fmd 5 l = r at *
      generalize fxd 5 l.length = q at *
      generalize aoOk (l.getD 0 0) = T0 at *
      generalize wi (l.getD 1 0) 1 2147483647 = T1 at *
      generalize wi (l.getD 2 0) 1 2147483647 = T2 at *
      generalize aoOk (l.getD 1 0) = U0 at *
      generalize aoN (l.getD 0 0) = an0 at *
      generalize soN (l.getD 0 0) = sn0 at *
      generalize l.getD 0 0 = x0 at *
      generalize aoN (l.getD 1 0) = an1 at *
      generalize soN (l.getD 1 0) = sn1 at *
      generalize l.getD 1 0 = x1 at *
      generalize aoN (l.getD 2 0) = an2 at *
      generalize soN (l.getD 2 0) = sn2 at *
      generalize l.getD 2 0 = x2 at *
      have r0 : (0 : Int) < (l.length : Int) := by omega
      have r1 : (1 : Int) < (l.length : Int) := by omega
      have r2 : (2 : Int) < (l.length : Int) := by omega
      clear h4
      go_enter Tryz.func137, Tryz.ntmps137
      cases T0
      · go_wp2_with fail
        refine (H0.out _).mono ?_
        rintro e w' ⟨rfl, rfl⟩
        go_wp2_with fail
        refine (H1.out _).mono ?_
        rintro e w' ⟨rfl, rfl⟩
        go_wp2_with fail
        refine (H2.out _).mono ?_
        rintro e w' ⟨rfl, rfl⟩
        go_wp2_with fail
        refine (H3.out _).mono ?_
        rintro e w' ⟨rfl, rfl⟩
        go_wp2_with fail
        go_ret2
        exact ⟨3, by rw [HF.out]; rfl, fun _ => by rw [HQ1.out]; rfl, Below.refl _ _⟩
      · cases T1
        · go_wp2_with fail
          refine (H0.out _).mono ?_
          rintro e w' ⟨rfl, rfl⟩
          go_wp2_with fail
          refine (H1.out _).mono ?_
          rintro e w' ⟨rfl, rfl⟩
          go_wp2_with fail
          refine (H2.out _).mono ?_
          rintro e w' ⟨rfl, rfl⟩
          go_wp2_with fail
          refine (H3.out _).mono ?_
          rintro e w' ⟨rfl, rfl⟩
          go_wp2_with fail
          go_ret2
          exact ⟨3, by rw [HF.out]; rfl, fun _ => by rw [HQ1.out]; rfl, Below.refl _ _⟩
        · cases T2
          · go_wp2_with fail
            refine (H0.out _).mono ?_
            rintro e w' ⟨rfl, rfl⟩
            go_wp2_with fail
            refine (H1.out _).mono ?_
            rintro e w' ⟨rfl, rfl⟩
            go_wp2_with fail
            refine (H2.out _).mono ?_
            rintro e w' ⟨rfl, rfl⟩
            go_wp2_with fail
            refine (H3.out _).mono ?_
            rintro e w' ⟨rfl, rfl⟩
            go_wp2_with fail
            go_ret2
            exact ⟨3, by rw [HF.out]; rfl, fun _ => by rw [HQ1.out]; rfl, Below.refl _ _⟩
          · go_wp2_with fail
            refine (H0.out _).mono ?_
            rintro e w' ⟨rfl, rfl⟩
            go_wp2_with fail
            refine (H1.out _).mono ?_
            rintro e w' ⟨rfl, rfl⟩
            go_wp2_with fail
            refine (H2.out _).mono ?_
            rintro e w' ⟨rfl, rfl⟩
            go_wp2_with fail
            refine (H3.out _).mono ?_
            rintro e w' ⟨rfl, rfl⟩
            go_wp2_with fail
            go_ret2
            exact ⟨3, by rw [HF.out]; rfl, fun _ => by rw [HQ1.out]; rfl, Below.refl _ _⟩
    · exact absurd trivial h5
  · have q1 : ((l.length : Int) != 3) = true := by simp; omega
    rw [decide_eq_false (show ¬ (l.length = 3) from h4), Bool.false_and] at HF
    clear h hw h4
    generalize fmd 5 l = r at *
    generalize fxd 5 l.length = q at *
    go_enter Tryz.func137, Tryz.ntmps137
    go_wp2_with fail
    go_ret2
    exact ⟨0, by rw [HF.out]; rfl, fun h => by rw [HF.out] at h; exact Bool.noConfusion h, Below.refl _ _⟩
theorem split_k8 (w : World) (B : Nat) (p : Option Addr) (c : Nat) (l : List Int) (hB : B ≤ w.heap.size) (h : WAt w B (.slice p l.length c) l) (hw : Wds l) : Calls Tryz.prog 137 #[.int .i64 8, .slice p l.length c] w (SplitR 8 l w) := by
  have HF : Hid (fmd 8 l = (decide (l.length = 3) && (wi (l.getD 0 0) 1 2147483647 && (wi (l.getD 1 0) 0 16384 && wi (l.getD 2 0) 513 16384)))) := Lib.hid rfl
  have HQ : Hid (fxd 8 l.length = l.length) := Lib.hid rfl
  unfold SplitR
  have d0 := wds_getD hw 0
  have d1 := wds_getD hw 1
  have d2 := wds_getD hw 2
  by_cases h4 : l.length = 3
  · have q1 : ((l.length : Int) != 3) = false := by simp [h4]
    by_cases h5 : True
    · have q2 : True := trivial
      obtain ⟨g, o, rfl, _, hg, hc⟩ := RowAt.nth h (by omega)
      have c0 := hc 0 (by omega)
      have c1 := hc 1 (by omega)
      have c2 := hc 2 (by omega)
      simp only [Nat.add_zero] at c0
      have H0 := Lib.hid (fun W => RAtomOf _ d0.1 d0.2 W)
      have H1 := Lib.hid (fun W => RAtomOf _ d1.1 d1.2 W)
      have H2 := Lib.hid (fun W => number119 _ 1 2147483647 d0.1 d0.2 W)
      have H3 := Lib.hid (fun W => number119 _ 0 16384 d1.1 d1.2 W)
      have H4 := Lib.hid (fun W => number119 _ 513 16384 d2.1 d2.2 W)
      rw [decide_eq_true (show l.length = 3 from h4), Bool.true_and] at HF
      have HQ1 : Hid (fxd 8 l.length = 3) := Lib.hid (by rw [HQ.out, h4])
      clear hc h hw HQ
      generalize fmd 8 l = r at *
      generalize fxd 8 l.length = q at *
      generalize wi (l.getD 0 0) 1 2147483647 = T0 at *
      generalize wi (l.getD 1 0) 0 16384 = T1 at *
      generalize wi (l.getD 2 0) 513 16384 = T2 at *
      generalize aoOk (l.getD 0 0) = U0 at *
      generalize aoOk (l.getD 1 0) = U1 at *
      generalize aoN (l.getD 0 0) = an0 at *
      generalize soN (l.getD 0 0) = sn0 at *
      generalize l.getD 0 0 = x0 at *
      generalize aoN (l.getD 1 0) = an1 at *
      generalize soN (l.getD 1 0) = sn1 at *
      generalize l.getD 1 0 = x1 at *
      generalize aoN (l.getD 2 0) = an2 at *
      generalize soN (l.getD 2 0) = sn2 at *
      generalize l.getD 2 0 = x2 at *
      have r0 : (0 : Int) < (l.length : Int) := by omega
      have r1 : (1 : Int) < (l.length : Int) := by omega
      have r2 : (2 : Int) < (l.length : Int) := by omega
      clear h4
      go_enter Tryz.func137, Tryz.ntmps137
      cases T0
      · go_wp2_with fail
        refine (H0.out _).mono ?_
        rintro e w' ⟨rfl, rfl⟩
        go_wp2_with fail
        refine (H1.out _).mono ?_
        rintro e w' ⟨rfl, rfl⟩
        go_wp2_with fail
        refine (H2.out _).mono ?_
        rintro e w' ⟨rfl, rfl⟩
        go_wp2_with fail
        refine (H3.out _).mono ?_
        rintro e w' ⟨rfl, rfl⟩
        go_wp2_with fail
        refine (H4.out _).mono ?_
        rintro e w' ⟨rfl, rfl⟩
        go_wp2_with fail
        go_ret2
        exact ⟨3, by rw [HF.out]; rfl, fun _ => by rw [HQ1.out]; rfl, Below.refl _ _⟩
      · cases T1
        · go_wp2_with fail
          refine (H0.out _).mono ?_
          rintro e w' ⟨rfl, rfl⟩
          go_wp2_with fail
          refine (H1.out _).mono ?_
          rintro e w' ⟨rfl, rfl⟩
          go_wp2_with fail
          refine (H2.out _).mono ?_
          rintro e w' ⟨rfl, rfl⟩
          go_wp2_with fail
          refine (H3.out _).mono ?_
          rintro e w' ⟨rfl, rfl⟩
          go_wp2_with fail
          refine (H4.out _).mono ?_
          rintro e w' ⟨rfl, rfl⟩
          go_wp2_with fail
          go_ret2
          exact ⟨3, by rw [HF.out]; rfl, fun _ => by rw [HQ1.out]; rfl, Below.refl _ _⟩
        · cases T2
          · go_wp2_with fail
            refine (H0.out _).mono ?_
            rintro e w' ⟨rfl, rfl⟩
            go_wp2_with fail
            refine (H1.out _).mono ?_
            rintro e w' ⟨rfl, rfl⟩
            go_wp2_with fail
            refine (H2.out _).mono ?_
            rintro e w' ⟨rfl, rfl⟩
            go_wp2_with fail
            refine (H3.out _).mono ?_
            rintro e w' ⟨rfl, rfl⟩
            go_wp2_with fail
            refine (H4.out _).mono ?_
            rintro e w' ⟨rfl, rfl⟩
            go_wp2_with fail
            go_ret2
            exact ⟨3, by rw [HF.out]; rfl, fun _ => by rw [HQ1.out]; rfl, Below.refl _ _⟩
          · go_wp2_with fail
            refine (H0.out _).mono ?_
            rintro e w' ⟨rfl, rfl⟩
            go_wp2_with fail
            refine (H1.out _).mono ?_
            rintro e w' ⟨rfl, rfl⟩
            go_wp2_with fail
            refine (H2.out _).mono ?_
            rintro e w' ⟨rfl, rfl⟩
            go_wp2_with fail
            refine (H3.out _).mono ?_
            rintro e w' ⟨rfl, rfl⟩
            go_wp2_with fail
            refine (H4.out _).mono ?_
            rintro e w' ⟨rfl, rfl⟩
            go_wp2_with fail
            go_ret2
            exact ⟨3, by rw [HF.out]; rfl, fun _ => by rw [HQ1.out]; rfl, Below.refl _ _⟩
    · exact absurd trivial h5
  · have q1 : ((l.length : Int) != 3) = true := by simp; omega
    rw [decide_eq_false (show ¬ (l.length = 3) from h4), Bool.false_and] at HF
    clear h hw h4
    generalize fmd 8 l = r at *
    generalize fxd 8 l.length = q at *
    go_enter Tryz.func137, Tryz.ntmps137
    go_wp2_with fail
    go_ret2
    exact ⟨0, by rw [HF.out]; rfl, fun h => by rw [HF.out] at h; exact Bool.noConfusion h, Below.refl _ _⟩
end Go.Proofs.YtpnlnbolhkcnjaaGreat.cl
