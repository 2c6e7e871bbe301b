/- awake, and the walks of NamesValid, NamesNil and NamesKnown: each returns true. No condition. -/
import Derived.Test.YtlcabmkjacimnaaNamesF
namespace Go.Proofs.Ytlcabmkjacimnaa.names
open Go.RowKit mem
set_option linter.unusedVariables false
set_option linter.unusedSimpArgs false
set_option maxHeartbeats 1000000

def bOk : ByteArray := ⟨#[111, 107]⟩
def bX1 : ByteArray := ⟨#[120, 49]⟩
theorem v_ok : vName ⟨#[111, 107]⟩ = true := by decide +kernel
theorem v_x1 : vName ⟨#[120, 49]⟩ = true := by decide +kernel
theorem v_Ok : vName ⟨#[79, 107]⟩ = false := by decide +kernel
theorem p1i : putI [] ⟨#[111, 107]⟩ = 0 := by decide +kernel
theorem p1e : putE ⟨#[111, 107]⟩ = 0 := by decide +kernel
theorem p1l : putL [] ⟨#[111, 107]⟩ = [⟨#[111, 107]⟩] := by decide +kernel
theorem p2i : putI [⟨#[111, 107]⟩] ⟨#[120, 49]⟩ = 1 := by decide +kernel
theorem p2e : putE ⟨#[120, 49]⟩ = 0 := by decide +kernel

theorem put_arm {w : World} {b : Nat} {L : List ByteArray} {m : Nat} {p : Option Addr} {c : Nat} (hT : Tab w b L m p c) (s : ByteArray) (hL : L.length < 1000) {W : World} (hb : Below W.heap.size W w) (hf : ∀ k, foot b m p k → W.heap.size ≤ k) :
    Calls Try.prog 33 #[.pointer (some ⟨b, 0, none⟩), .string s] w fun e w' => e = .returned (.tuple #[.int .i64 (putI L s), .int .i64 (putE s)]) ∧
      ∃ p' c', Tab w' b (putL L s) m p' c' ∧ Below W.heap.size W w' ∧ ∀ k, foot b m p' k → W.heap.size ≤ k := by
  refine (Put w b L m p c hT s hL).mono ?_
  rintro e w' ⟨he, p', c', hT', ht, hf'⟩
  have hs := hb.size
  refine ⟨he, p', c', hT', hb.trans (ht.below (fun k hk => hf k hk) hs), fun k hk => ?_⟩
  rcases hf' k hk with h | h
  · exact hf k h
  · omega

theorem new_arm (w : World) {W : World} (hb : Below W.heap.size W w) : Calls Try.prog 32 #[] w fun e w' => e = .returned (.pointer (some ⟨w.heap.size + 1, 0, none⟩)) ∧
    Tab w' (w.heap.size + 1) [] w.heap.size none 0 ∧ Below W.heap.size W w' ∧ ∀ k, foot (w.heap.size + 1) w.heap.size none k → W.heap.size ≤ k := by
  refine (New w).mono ?_
  rintro e w1 ⟨rfl, hT1, ht1, hz1⟩
  have hs := hb.size
  refine ⟨rfl, hT1, hb.trans (ht1.below (fun k hk => hk.elim) hs), ?_⟩
  rintro k (rfl | rfl | ⟨a, ha, _⟩)
  · omega
  · omega
  · cases ha

theorem awake (w : World) : Calls Try.prog 19 #[] w fun e w' => e = .returned (.bool true) ∧ Below w.heap.size w w' := by
  have e1 := v_ok
  have e2 := v_Ok
  have q1 := p1i
  have q2 := p1e
  have q3 := p2i
  have q4 := p2e
  have HL := Lib.hid p1l
  go_enter Try.func19, Try.ntmps19
  go_wp2_with fail
  refine (new_arm _ (Below.refl _ _)).mono ?_
  rintro e w1 ⟨rfl, hT1, hb1, hf1⟩
  go_wp2_with fail
  refine (put_arm hT1 _ (by simp) hb1 hf1).mono ?_
  rintro e w2 ⟨rfl, p2, c2, hT2, hb2, hf2⟩
  rw [HL.out] at hT2
  go_wp2_with fail
  refine (put_arm hT2 _ (by simp) hb2 hf2).mono ?_
  rintro e w3 ⟨rfl, p3, c3, hT3, hb3, hf3⟩
  go_wp2_with fail
  refine (Valid _ _).mono ?_
  rintro e w4 ⟨rfl, hb4⟩
  go_wp2_with fail
  refine (Valid _ _).mono ?_
  rintro e w5 ⟨rfl, hb5⟩
  go_wp2_with fail
  go_ret
  have s3 := hb3.size
  have s4 := hb4.size
  exact ⟨rfl, hb3.trans ((hb4.mono s3).trans (hb5.mono (by omega)))⟩
end Go.Proofs.Ytlcabmkjacimnaa.names
