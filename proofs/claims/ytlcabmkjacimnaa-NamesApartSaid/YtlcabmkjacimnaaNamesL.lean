/- The walk of NamesApart: it returns true. Conditions: the lists are in memory that the call does not own. -/
import Derived.Test.YtlcabmkjacimnaaNamesK
namespace Go.Proofs.Ytlcabmkjacimnaa.names
open Go.RowKit mem
set_option linter.unusedVariables false
set_option linter.unusedSimpArgs false
set_option maxHeartbeats 2000000

/-- the tables' places, and what they hold -/
structure Hold (B : Nat) (w : World) (b0 b1 b2 b3 : Nat) (L0 L1 L2 L3 : List ByteArray) (T : Fin 4 → TB) : Prop where
  fam : Fam B w T 4
  h0 : (T 0).b = b0 ∧ (T 0).L = L0
  h1 : (T 1).b = b1 ∧ (T 1).L = L1
  h2 : (T 2).b = b2 ∧ (T 2).L = L2
  h3 : (T 3).b = b3 ∧ (T 3).L = L3

theorem Hold.below {B : Nat} {w w' : World} {b0 b1 b2 b3 : Nat} {L0 L1 L2 L3 : List ByteArray} {T : Fin 4 → TB} (h : Hold B w b0 b1 b2 b3 L0 L1 L2 L3 T) (hb : Below w.heap.size w w') : Hold B w' b0 b1 b2 b3 L0 L1 L2 L3 T :=
  ⟨h.fam.below hb, h.h0, h.h1, h.h2, h.h3⟩

section
variable {W w : World} {b0 b1 b2 b3 : Nat} {L0 L1 L2 L3 : List ByteArray} {T : Fin 4 → TB}
theorem put0 (h : Hold W.heap.size w b0 b1 b2 b3 L0 L1 L2 L3 T) (hlen : L0.length < 1000) (s : ByteArray) (hW : Below W.heap.size W w) :
    Calls Try.prog 33 #[.pointer (some ⟨b0, 0, none⟩), .string s] w fun e w' => ∃ v, e = .returned v ∧ ∃ T', Hold W.heap.size w' b0 b1 b2 b3 (putL L0 s) L1 L2 L3 T' ∧ Below W.heap.size W w' := by
  refine (put_fam h.fam 0 h.h0.1 h.h0.2 hlen s hW).mono ?_
  rintro e w' ⟨rfl, T', hF, hb, hi, hj, hW'⟩
  exact ⟨_, rfl, T', ⟨hF, ⟨(hb 0).trans h.h0.1, hi⟩, ⟨(hb 1).trans h.h1.1, (hj 1 (by decide)).trans h.h1.2⟩, ⟨(hb 2).trans h.h2.1, (hj 2 (by decide)).trans h.h2.2⟩, ⟨(hb 3).trans h.h3.1, (hj 3 (by decide)).trans h.h3.2⟩⟩, hW'⟩
theorem put1 (h : Hold W.heap.size w b0 b1 b2 b3 L0 L1 L2 L3 T) (hlen : L1.length < 1000) (s : ByteArray) (hW : Below W.heap.size W w) :
    Calls Try.prog 33 #[.pointer (some ⟨b1, 0, none⟩), .string s] w fun e w' => ∃ v, e = .returned v ∧ ∃ T', Hold W.heap.size w' b0 b1 b2 b3 L0 (putL L1 s) L2 L3 T' ∧ Below W.heap.size W w' := by
  refine (put_fam h.fam 1 h.h1.1 h.h1.2 hlen s hW).mono ?_
  rintro e w' ⟨rfl, T', hF, hb, hi, hj, hW'⟩
  exact ⟨_, rfl, T', ⟨hF, ⟨(hb 0).trans h.h0.1, (hj 0 (by decide)).trans h.h0.2⟩, ⟨(hb 1).trans h.h1.1, hi⟩, ⟨(hb 2).trans h.h2.1, (hj 2 (by decide)).trans h.h2.2⟩, ⟨(hb 3).trans h.h3.1, (hj 3 (by decide)).trans h.h3.2⟩⟩, hW'⟩
theorem put2 (h : Hold W.heap.size w b0 b1 b2 b3 L0 L1 L2 L3 T) (hlen : L2.length < 1000) (s : ByteArray) (hW : Below W.heap.size W w) :
    Calls Try.prog 33 #[.pointer (some ⟨b2, 0, none⟩), .string s] w fun e w' => ∃ v, e = .returned v ∧ ∃ T', Hold W.heap.size w' b0 b1 b2 b3 L0 L1 (putL L2 s) L3 T' ∧ Below W.heap.size W w' := by
  refine (put_fam h.fam 2 h.h2.1 h.h2.2 hlen s hW).mono ?_
  rintro e w' ⟨rfl, T', hF, hb, hi, hj, hW'⟩
  exact ⟨_, rfl, T', ⟨hF, ⟨(hb 0).trans h.h0.1, (hj 0 (by decide)).trans h.h0.2⟩, ⟨(hb 1).trans h.h1.1, (hj 1 (by decide)).trans h.h1.2⟩, ⟨(hb 2).trans h.h2.1, hi⟩, ⟨(hb 3).trans h.h3.1, (hj 3 (by decide)).trans h.h3.2⟩⟩, hW'⟩
theorem put3 (h : Hold W.heap.size w b0 b1 b2 b3 L0 L1 L2 L3 T) (hlen : L3.length < 1000) (s : ByteArray) (hW : Below W.heap.size W w) :
    Calls Try.prog 33 #[.pointer (some ⟨b3, 0, none⟩), .string s] w fun e w' => ∃ v, e = .returned v ∧ ∃ T', Hold W.heap.size w' b0 b1 b2 b3 L0 L1 L2 (putL L3 s) T' ∧ Below W.heap.size W w' := by
  refine (put_fam h.fam 3 h.h3.1 h.h3.2 hlen s hW).mono ?_
  rintro e w' ⟨rfl, T', hF, hb, hi, hj, hW'⟩
  exact ⟨_, rfl, T', ⟨hF, ⟨(hb 0).trans h.h0.1, (hj 0 (by decide)).trans h.h0.2⟩, ⟨(hb 1).trans h.h1.1, (hj 1 (by decide)).trans h.h1.2⟩, ⟨(hb 2).trans h.h2.1, (hj 2 (by decide)).trans h.h2.2⟩, ⟨(hb 3).trans h.h3.1, hi⟩⟩, hW'⟩
end

theorem begun {W : World} {w : World} {T1 T2 T3 T4 : Fin 4 → TB} {b0 b1 b2 b3 : Nat} (hF : Fam W.heap.size w T4 4) (h1b : (T1 0).b = b0) (h1L : (T1 0).L = []) (h2b : (T2 1).b = b1) (h2L : (T2 1).L = []) (h2 : ∀ j : Fin 4, j.val < 1 → T2 j = T1 j)
    (h3b : (T3 2).b = b2) (h3L : (T3 2).L = []) (h3 : ∀ j : Fin 4, j.val < 2 → T3 j = T2 j) (h4b : (T4 3).b = b3) (h4L : (T4 3).L = []) (h4 : ∀ j : Fin 4, j.val < 3 → T4 j = T3 j) : Hold W.heap.size w b0 b1 b2 b3 [] [] [] [] T4 := by
  have e0 : T4 0 = T1 0 := (h4 0 (by decide)).trans ((h3 0 (by decide)).trans (h2 0 (by decide)))
  have e1 : T4 1 = T2 1 := (h4 1 (by decide)).trans (h3 1 (by decide))
  have e2 : T4 2 = T3 2 := h4 2 (by decide)
  exact ⟨hF, ⟨by rw [e0]; exact h1b, by rw [e0]; exact h1L⟩, ⟨by rw [e1]; exact h2b, by rw [e1]; exact h2L⟩, ⟨by rw [e2]; exact h3b, by rw [e2]; exact h3L⟩, h4b, h4L⟩

set_option maxRecDepth 100000 in
theorem lawApart (W : World) (pl : Option Addr) (l : List ByteArray) (cl : Nat) (hl : Strs W pl l) (hm : l.length ≤ maxLen) (pa : Option Addr) (r : List ByteArray) (ca : Nat) (ha : Strs W pa r) (hma : r.length ≤ maxLen) :
    Calls Try.prog 6 #[.slice pl l.length cl, .slice pa r.length ca] W fun e w' => e = .returned (.bool true) ∧ Below W.heap.size W w' := by
  unfold maxLen at hm hma
  have big : 300 < l.length ∨ (¬ 300 < l.length ∧ 300 < r.length) ∨ (¬ 300 < l.length ∧ ¬ 300 < r.length) := by omega
  rcases big with h1 | ⟨h1, h2⟩ | ⟨h1, h2⟩
  · go_enter Try.func6, Try.ntmps6
    go_wp2_with (first | (go_at_call 31; refine (large _ _ _ _).mono ?_; rintro e w' ⟨rfl, rfl⟩) | (go_at_call 19; refine (awake _).mono ?_; rintro e w1 ⟨rfl, hb⟩))
    go_ret
    exact ⟨rfl, hb⟩
  · go_enter Try.func6, Try.ntmps6
    go_wp2_with (first | (go_at_call 31; refine (large _ _ _ _).mono ?_; rintro e w' ⟨rfl, rfl⟩) | (go_at_call 19; refine (awake _).mono ?_; rintro e w1 ⟨rfl, hb⟩))
    go_ret
    exact ⟨rfl, hb⟩
  have HL := Lib.hid hl; clear hl
  have HA := Lib.hid ha; clear ha
  go_enter Try.func6, Try.ntmps6
  go_wp2_with (go_at_call 31; refine (large _ _ _ _).mono ?_; rintro e w' ⟨rfl, rfl⟩)
  refine (new_fam (W := W) (T := fun _ => ⟨0, [], 0, none, 0⟩) 0 (by decide) ⟨fun i h => absurd h (by omega), fun i j h => absurd h (by omega)⟩ (Below.refl _ _)).mono ?_
  rintro e w1 ⟨b0, rfl, T1, hF1, -, h1b, h1L, hb1⟩
  have H1b := Lib.hid h1b
  have H1L := Lib.hid h1L
  clear h1b h1L
  go_wp2_with fail
  refine (new_fam 1 (by decide) hF1 hb1).mono ?_
  rintro e w2 ⟨b1, rfl, T2, hF2, h2, h2b, h2L, hb2⟩
  go_wp2_with fail
  refine (new_fam 2 (by decide) hF2 hb2).mono ?_
  rintro e w3 ⟨b2, rfl, T3, hF3, h3, h3b, h3L, hb3⟩
  go_wp2_with fail
  refine (new_fam 3 (by decide) hF3 hb3).mono ?_
  rintro e w4 ⟨b3, rfl, T4, hF4, h4, h4b, h4L, hb4⟩
  have hH := begun hF4 H1b.out H1L.out h2b h2L h2 h3b h3L h3 h4b h4L h4
  clear hF1 hF2 hF3 hF4 H1b H1L h2b h2L h2 h3b h3L h3 h4b h4L h4 hb1 hb2 hb3
  go_wp2_with fail
  go_loopw [9] (fun i wr => ∃ (k : Nat) (T : Fin 4 → TB), i = .int .i64 k ∧ k ≤ 300 ∧ Hold W.heap.size wr b0 b1 b2 b3 (puts l k) (puts r k) [] [] T ∧ Below W.heap.size W wr) (fun i _ => (if l.length ≤ r.length then r.length else l.length) - (intOf i).toNat)
  case atStart => exact ⟨0, T4, rfl, by omega, hH, hb4⟩
  case round =>
    obtain ⟨k, T, rfl, hk, hT, hb⟩ := hrel
    have hlen1 := puts_len l k
    have hlen2 := puts_len r k
    have ways : (k < l.length ∧ k < r.length) ∨ (k < l.length ∧ ¬ k < r.length) ∨ (¬ k < l.length ∧ k < r.length) ∨ (¬ k < l.length ∧ ¬ k < r.length) := by omega
    rcases ways with ⟨c1, c2⟩ | ⟨c1, c2⟩ | ⟨c1, c2⟩ | ⟨c1, c2⟩
    · obtain ⟨a1, rfl, _, e1⟩ := (HL.out.below hb) k c1
      have hps := Lib.hid (puts_succ l k c1)
      have hpr := Lib.hid (puts_succ r k c2)
      go_wp2_with fail
      refine (put0 hT (by omega) _ hb).mono ?_
      rintro e w2 ⟨v, rfl, T2, hT2, hb2⟩
      obtain ⟨a2, rfl, _, e2⟩ := (HA.out.below hb2) k c2
      go_wp2_with fail
      refine (put1 hT2 (by omega) _ hb2).mono ?_
      rintro e w3 ⟨v3, rfl, T3, hT3, hb3⟩
      go_wp2_with fail
      go_roundw
      case rel => exact ⟨k + 1, T3, by go_num, by omega, by rw [hps.out, hpr.out]; exact hT3, hb3⟩
      case measure => simp [intOf]; split <;> omega
    · obtain ⟨a1, rfl, _, e1⟩ := (HL.out.below hb) k c1
      have hps := Lib.hid (puts_succ l k c1)
      have hpr := Lib.hid (puts_stop r k c2)
      go_wp2_with fail
      refine (put0 hT (by omega) _ hb).mono ?_
      rintro e w2 ⟨v, rfl, T2, hT2, hb2⟩
      go_wp2_with fail
      go_roundw
      case rel => exact ⟨k + 1, T2, by go_num, by omega, by rw [hps.out, hpr.out]; exact hT2, hb2⟩
      case measure => simp [intOf]; split <;> omega
    · obtain ⟨a2, rfl, _, e2⟩ := (HA.out.below hb) k c2
      have hps := Lib.hid (puts_stop l k c1)
      have hpr := Lib.hid (puts_succ r k c2)
      go_wp2_with fail
      refine (put1 hT (by omega) _ hb).mono ?_
      rintro e w3 ⟨v3, rfl, T3, hT3, hb3⟩
      go_wp2_with fail
      go_roundw
      case rel => exact ⟨k + 1, T3, by go_num, by omega, by rw [hps.out, hpr.out]; exact hT3, hb3⟩
      case measure => simp [intOf]; split <;> omega
    · have E1 := Lib.hid (puts_end l k (by omega))
      have E2 := Lib.hid (puts_end r k (by omega))
      rw [E1.out, E2.out] at hT
      clear E1 E2 hlen1 hlen2
      obtain ⟨wo, rfl⟩ : ∃ wo : World, wo = wr := ⟨_, rfl⟩
      go_wp2_with fail
      go_loopw [10] (fun i wr => ∃ (k : Nat) (T : Fin 4 → TB), i = .int .i64 k ∧ k ≤ l.length ∧ Hold W.heap.size wr b0 b1 b2 b3 (puts l l.length) (puts r r.length) (puts l k) [] T ∧ Below W.heap.size W wr) (fun i _ => l.length - (intOf i).toNat)
      case atStart => exact ⟨0, T, rfl, by omega, hT, hb⟩
      case round =>
        obtain ⟨k, T, rfl, hk, hT, hb⟩ := hrel
        have hlen1 := puts_len l k
        by_cases c1 : k < l.length
        · obtain ⟨a1, rfl, _, e1⟩ := (HL.out.below hb) k c1
          have hps := Lib.hid (puts_succ l k c1)
          go_wp2_with fail
          refine (put2 hT (by omega) _ hb).mono ?_
          rintro e w2 ⟨v, rfl, T2, hT2, hb2⟩
          go_wp2_with fail
          go_roundw
          case rel => exact ⟨k + 1, T2, by go_num, by omega, by rw [hps.out]; exact hT2, hb2⟩
          case measure => simp [intOf]; omega
        · obtain rfl : k = l.length := by omega
          clear hlen1
          obtain ⟨wp, rfl⟩ : ∃ wp : World, wp = wr := ⟨_, rfl⟩
          go_wp2_with fail
          go_loopw [11] (fun i wr => ∃ (k : Nat) (T : Fin 4 → TB), i = .int .i64 k ∧ k ≤ r.length ∧ Hold W.heap.size wr b0 b1 b2 b3 (puts l l.length) (puts r r.length) (puts l l.length) (puts r k) T ∧ Below W.heap.size W wr) (fun i _ => r.length - (intOf i).toNat)
          case atStart => exact ⟨0, T, rfl, by omega, hT, hb⟩
          case round =>
            obtain ⟨k, T, rfl, hk, hT, hb⟩ := hrel
            have hlen1 := puts_len r k
            have hlen2 := puts_len l l.length
            by_cases c1 : k < r.length
            · obtain ⟨a1, rfl, _, e1⟩ := (HA.out.below hb) k c1
              have hps := Lib.hid (puts_succ r k c1)
              go_wp2_with fail
              refine (put3 hT (by omega) _ hb).mono ?_
              rintro e w2 ⟨v, rfl, T2, hT2, hb2⟩
              go_wp2_with fail
              go_roundw
              case rel => exact ⟨k + 1, T2, by go_num, by omega, by rw [hps.out]; exact hT2, hb2⟩
              case measure => simp [intOf]; omega
            · obtain rfl : k = r.length := by omega
              go_wp2_with fail
              refine (all_fam hT.fam 0 hT.h0.1 hT.h0.2 (by omega)).mono ?_
              rintro e w2 ⟨p2, c2, rfl, hs2, hb2⟩
              have hT2 := hT.below hb2
              go_wp2_with fail
              refine (all_fam hT2.fam 2 hT2.h2.1 hT2.h2.2 (by omega)).mono ?_
              rintro e w3 ⟨p3, c3, rfl, hs3, hb3⟩
              have hT3 := hT2.below hb3
              go_wp2_with fail
              refine (SameStrings _ p2 p3 _ _ c2 c3 (hs2.below hb3) hs3 (by unfold maxLen; omega)).mono ?_
              rintro e w4 ⟨rfl, hb4'⟩
              have hT4 := hT3.below hb4'
              go_wp2_with fail
              refine (all_fam hT4.fam 1 hT4.h1.1 hT4.h1.2 (by omega)).mono ?_
              rintro e w5 ⟨p5, c5, rfl, hs5, hb5⟩
              have hT5 := hT4.below hb5
              go_wp2_with fail
              refine (all_fam hT5.fam 3 hT5.h3.1 hT5.h3.2 (by omega)).mono ?_
              rintro e w6 ⟨p6, c6, rfl, hs6, hb6⟩
              go_wp2_with fail
              refine (SameStrings _ p5 p6 _ _ c5 c6 (hs5.below hb6) hs6 (by unfold maxLen; omega)).mono ?_
              rintro e w7 ⟨rfl, hb7⟩
              go_wp2_with fail
              refine (awake _).mono ?_
              rintro e w8 ⟨rfl, hb8⟩
              go_wp2_with fail
              go_ret
              have s1 := hb.size
              have s2 := hb2.size
              have s3 := hb3.size
              have s4 := hb4'.size
              have s5 := hb5.size
              have s6 := hb6.size
              have s7 := hb7.size
              exact ⟨rfl, hb.trans ((hb2.mono s1).trans ((hb3.mono (by omega)).trans ((hb4'.mono (by omega)).trans ((hb5.mono (by omega)).trans ((hb6.mono (by omega)).trans ((hb7.mono (by omega)).trans (hb8.mono (by omega))))))))⟩
end Go.Proofs.Ytlcabmkjacimnaa.names
