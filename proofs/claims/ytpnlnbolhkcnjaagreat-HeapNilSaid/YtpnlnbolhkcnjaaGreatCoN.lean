
/- The reference's bit, bits, split. Conditions: as said. -/
import Derived.Test.YtpnlnbolhkcnjaaGreatCoM
namespace Go.Proofs.YtpnlnbolhkcnjaaGreat.cl
open Go.RowKit mem words
set_option linter.unusedVariables false
set_option linter.unusedSimpArgs false
set_option maxHeartbeats 2000000
set_option maxRecDepth 100000

theorem low_bits (Y : Nat) : ∀ m, (∀ k, k < m → Y / 2 ^ k % 2 = 0) ↔ Y % 2 ^ m = 0 := by
  intro m
  induction m with
  | zero => simp [Nat.mod_one]
  | succ m ih =>
    rw [Nat.mod_pow_succ]
    constructor
    · intro h
      have h1 := ih.1 (fun k hk => h k (by omega))
      have h2 := h m (by omega)
      rw [h1, h2, Nat.mul_zero]
    · intro h k hk
      have h1 : Y % 2 ^ m = 0 := by omega
      have h2 : 2 ^ m * (Y / 2 ^ m % 2) = 0 := by omega
      have h3 : Y / 2 ^ m % 2 = 0 := by
        rcases Nat.mul_eq_zero.1 h2 with h | h
        · have := Nat.pow_pos (a := 2) (n := m) (by omega)
          omega
        · exact h
      by_cases hkm : k = m
      · rw [hkm]; exact h3
      · exact ih.2 h1 k (by omega)
theorem used_bits (Y u : Nat) (hY : Y < 2 ^ 64) (hu : u ≤ 64) : (Y * 2 ^ u % 2 ^ 64 = 0) ↔ ∀ j, u ≤ j → j < 64 → Y / 2 ^ (63 - j) % 2 = 0 := by
  have e : (2 : Nat) ^ 64 = 2 ^ (64 - u) * 2 ^ u := by rw [← Nat.pow_add]; congr 1; omega
  rw [e, Nat.mul_mod_mul_right]
  have hp := Nat.pow_pos (a := 2) (n := u) (by omega)
  constructor
  · intro h j h1 h2
    have h3 : Y % 2 ^ (64 - u) = 0 := by
      rcases Nat.mul_eq_zero.1 h with h | h
      · exact h
      · omega
    exact (low_bits Y (64 - u)).2 h3 (63 - j) (by omega)
  · intro h
    have h3 : Y % 2 ^ (64 - u) = 0 := (low_bits Y (64 - u)).1 (fun k hk => by
      have := h (63 - k) (by omega) (by omega)
      rwa [show 63 - (63 - k) = k by omega] at this)
    rw [h3, Nat.zero_mul]
def bitAt (y : Int) (j : Nat) : Int := y / 2 ^ (63 - j) % 2
theorem usedOk_iff (y n : Int) (h0 : 0 ≤ y) (h1 : y ≤ 18446744073709551615) (hn : 0 ≤ n) : usedOk y n = true ↔ n % 64 = 0 ∨ ∀ j : Nat, n % 64 ≤ j → j < 64 → bitAt y j = 0 := by
  obtain ⟨Y, rfl⟩ : ∃ Y : Nat, y = Y := ⟨y.toNat, by omega⟩
  obtain ⟨u, hu⟩ : ∃ u : Nat, n % 64 = u := ⟨(n % 64).toNat, by omega⟩
  have hu64 : u < 64 := by omega
  have hY : Y < 2 ^ 64 := by omega
  unfold usedOk
  rw [Bool.or_eq_true, decide_eq_true_eq, decide_eq_true_eq, hu, Int.toNat_natCast]
  have e : ((Y : Int) * 2 ^ u % 18446744073709551616 = 0) ↔ (Y * 2 ^ u % 2 ^ 64 = 0) := by
    have e0 : (Y : Int) * 2 ^ u = ((Y * 2 ^ u : Nat) : Int) := by rw [Int.natCast_mul, Int.natCast_pow]; rfl
    have h64 : (2 : Nat) ^ 64 = 18446744073709551616 := by rfl
    rw [e0, h64]
    generalize Y * 2 ^ u = P
    omega
  rw [e, used_bits Y u hY (by omega)]
  refine or_congr Iff.rfl ?_
  have eb : ∀ j : Nat, bitAt (Y : Int) j = 0 ↔ Y / 2 ^ (63 - j) % 2 = 0 := by
    intro j
    unfold bitAt
    have e0 : (Y : Int) / 2 ^ (63 - j) = ((Y / 2 ^ (63 - j) : Nat) : Int) := by rw [Int.natCast_ediv, Int.natCast_pow]; rfl
    rw [e0]
    generalize Y / 2 ^ (63 - j) = P
    omega
  constructor
  · intro h j h1 h2
    exact (eb j).2 (h j (by omega) h2)
  · intro h j h1 h2
    exact (eb j).1 (h j (by omega) h2)
theorem bitAt_rng (y : Int) (j : Nat) : bitAt y j = 0 ∨ bitAt y j = 1 := by unfold bitAt; omega
theorem bit_form (y : Int) (h0 : 0 ≤ y) (j : Nat) : wrap64 ((y / 2 ^ (63 - j)).tmod 2) = bitAt y j := by
  have hp : (0 : Int) < 2 ^ (63 - j) := Int.pow_pos (by omega)
  have h1 : 0 ≤ y / 2 ^ (63 - j) := Int.ediv_nonneg h0 (by omega)
  rw [Int.tmod_eq_emod_of_nonneg h1]
  exact IntWalk.wrap64_in _ (by omega)
theorem bit139 (w : World) (g o n c : Nat) (i : Nat) (y : Int) (y0 : 0 ≤ y) (y1 : y ≤ 18446744073709551615) (hi : i / 64 < n) (hn : n ≤ 100000) (hy : w.cell? ⟨g, o + i / 64, none⟩ = some (.int .u64 y)) :
    Calls Tryz.prog 226 #[.slice (some ⟨g, o, none⟩) n c, .int .i64 i] w fun e w' => e = .returned (.int .i64 (bitAt y (i % 64))) ∧ w = w' := by
  have r0 : (0 : Int) ≤ (i : Int) := by omega
  have r1 : (i : Int) ≤ 6400000 := by omega
  have r2 : (i : Int) / 64 < (n : Int) := by omega
  have r3 : (0 : Int) ≤ (i : Int) / 64 := by omega
  have r4 : ((i : Int) / 64).toNat = i / 64 := by omega
  have r5 : 0 ≤ (i : Int) % 64 := by omega
  have r6 : (i : Int) % 64 < 64 := by omega
  go_enter Tryz.func226, Tryz.ntmps226
  go_wp2_with fail
  go_ret
  exact ⟨by rw [← bit_form y y0]; rfl, rfl⟩
def bitsB (l : List Int) : Bool := fmd 7 l
theorem bits121 (w : World) (B : Nat) (p : Option Addr) (c : Nat) (l : List Int) (hB : B ≤ w.heap.size) (h : WAt w B (.slice p l.length c) l) (hw : Wds l) (hl : l.length ≤ 100000) : Calls Tryz.prog 191 #[.slice p l.length c] w fun e w' => e = .returned (.bool (fmd 7 l)) ∧ w = w' := by
  have HF : Hid (fmd 7 l = (!decide (l.length = 0) && (wi (l.getD 0 0) 0 512 && (decide ((l.length : Int) - 1 = (soN (l.getD 0 0) + 63) / 64) && usedOk (l.getD (l.length - 1) 0) (soN (l.getD 0 0)))))) := Lib.hid rfl
  have d0 := wds_getD hw 0
  have d1 := wds_getD hw (l.length - 1)
  by_cases h4 : l.length = 0
  · have q1 : decide ((l.length : Int) < 1) = true := decide_eq_true (by omega)
    rw [decide_eq_true h4] at HF
    clear h hw h4 d0 d1
    generalize fmd 7 l = r at *
    go_enter Tryz.func191, Tryz.ntmps191
    go_wp2_with fail
    go_ret
    exact ⟨by rw [HF.out]; rfl, rfl⟩
  · have q1 : decide ((l.length : Int) < 1) = false := decide_eq_false (by omega)
    obtain ⟨g, o, rfl, _, hg, hc⟩ := RowAt.nth h (by omega)
    have c0 := hc 0 (by omega)
    have c1 := hc (l.length - 1) (by omega)
    simp only [Nat.add_zero] at c0
    have hlc : l.length ≤ c := by
      obtain ⟨_, _, e, h1, _⟩ := h
      simp only [Value.slice.injEq, true_and] at e
      rw [e.2]
      exact h1
    rw [decide_eq_false h4, Bool.not_false, Bool.true_and] at HF
    have r0 : (0 : Int) < (l.length : Int) := by omega
    have H1 := Lib.hid (fun W => number119 _ 0 512 d0.1 d0.2 W)
    have hwi : wi (l.getD 0 0) 0 512 = true → 0 ≤ soN (l.getD 0 0) ∧ soN (l.getD 0 0) ≤ 512 := by
      intro h
      unfold wi at h
      rw [Bool.and_eq_true, decide_eq_true_eq] at h
      exact ⟨h.2.1, h.2.2⟩
    clear hc h hw
    generalize fmd 7 l = r at *
    generalize soN (l.getD 0 0) = n at *
    generalize l.getD 0 0 = x at *
    generalize l.getD (l.length - 1) 0 = y at *
    cases hW : wi x 0 512
    · rw [hW] at H1 HF
      clear h4 hwi hW
      go_enter Tryz.func191, Tryz.ntmps191
      go_wp2_with fail
      refine (H1.out _).mono ?_
      rintro e w' ⟨rfl, rfl⟩
      go_wp2_with fail
      go_ret
      exact ⟨by rw [HF.out]; rfl, rfl⟩
    · obtain ⟨n0, n1⟩ := hwi hW
      rw [hW] at H1 HF
      by_cases he : (l.length : Int) - 1 = (n + 63) / 64
      · have q2 : ((l.length : Int) - 1 != (n + 63) / 64) = false := by simpa using he
        rw [decide_eq_true he] at HF
        have HE := Lib.hid he
        have HU := Lib.hid (usedOk_iff y n d1.1 d1.2 n0)
        obtain ⟨N, hN⟩ : ∃ N : Nat, n = N := ⟨n.toNat, by omega⟩
        subst hN
        clear hW hwi he
        go_enter Tryz.func191, Tryz.ntmps191
        go_wp2_with fail
        refine (H1.out _).mono ?_
        rintro e w' ⟨rfl, rfl⟩
        go_wp2_with fail
        go_loop [5] (fun a => ∃ i : Nat, a = .int .i64 i ∧ N ≤ i ∧ i ≤ 64 * (l.length - 1) ∧ Hid (∀ q, N ≤ q → q < i → bitAt y (q % 64) = 0)) (fun a => 64 * (l.length - 1) - (intOf a).toNat)
        case atStart => exact ⟨N, rfl, Nat.le_refl _, by have := HE.out; omega, Lib.hid (fun q h1 h2 => by omega)⟩
        case round =>
          obtain ⟨i, rfl, hi0, hi1, HQ⟩ := hrel
          have hE := HE.out
          by_cases hlt : i < 64 * (l.length - 1)
          · have hm : i / 64 = l.length - 2 := by omega
            have hB := Lib.hid (bit139 w g (o + 1) (l.length - 1) (c - 1) i y d1.1 d1.2 (by omega) (by omega) (by rw [show o + 1 + i / 64 = o + (l.length - 1) by omega]; exact c1))
            have hc2 : ¬ c = 1 := by omega
            have q5 : decide ((i : Int) < 64 * ((l.length : Int) - 1)) = true := decide_eq_true (by omega)
            have e1 : (1 : Int) ≤ (l.length : Int) := by omega
            have e2 : (l.length : Int) ≤ (c : Int) := by omega
            rcases bitAt_rng y (i % 64) with hb | hb
            · have HBt := Lib.hid hb
              rw [hb] at hB
              clear hb hE hm
              go_wp2_with fail
              refine hB.out.mono ?_
              rintro e w' ⟨rfl, rfl⟩
              go_wp2_with fail
              go_round
              case rel => exact ⟨i + 1, by go_num, by omega, by omega, Lib.hid (fun q h1 h2 => by
                by_cases hq : q = i
                · rw [hq]; exact HBt.out
                · exact HQ.out q h1 (by omega))⟩
              case measure => simp [intOf]; omega
            · have HNo : Hid (usedOk y (N : Int) = false) := Lib.hid (by
                cases hu : usedOk y (N : Int)
                · rfl
                · rcases HU.out.1 hu with h | h
                  · omega
                  · have := h (i % 64) (by omega) (by omega)
                    rw [hb] at this
                    omega)
              rw [hb] at hB
              clear hb hE hm
              go_wp2_with fail
              refine hB.out.mono ?_
              rintro e w' ⟨rfl, rfl⟩
              go_wp2_with fail
              go_ret
              exact ⟨by rw [HF.out, HNo.out]; rfl, rfl⟩
          · have q5 : decide ((i : Int) < 64 * ((l.length : Int) - 1)) = false := decide_eq_false (by omega)
            have HYes : Hid (usedOk y (N : Int) = true) := Lib.hid (HU.out.2 (by
              by_cases h0 : (N : Int) % 64 = 0
              · exact .inl h0
              · refine .inr (fun j h1 h2 => ?_)
                have := HQ.out (64 * (l.length - 2) + j) (by omega) (by omega)
                rwa [show (64 * (l.length - 2) + j) % 64 = j by omega] at this))
            clear hE
            go_wp2_with fail
            go_ret
            exact ⟨by rw [HF.out, HYes.out]; rfl, rfl⟩
      · have q2 : ((l.length : Int) - 1 != (n + 63) / 64) = true := by simpa using he
        rw [decide_eq_false he] at HF
        clear hW hwi he h4
        go_enter Tryz.func191, Tryz.ntmps191
        go_wp2_with fail
        refine (H1.out _).mono ?_
        rintro e w' ⟨rfl, rfl⟩
        go_wp2_with fail
        go_ret
        exact ⟨by rw [HF.out]; rfl, rfl⟩
end Go.Proofs.YtpnlnbolhkcnjaaGreat.cl
