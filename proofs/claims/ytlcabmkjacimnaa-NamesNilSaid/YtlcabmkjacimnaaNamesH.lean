/- The walks of NamesValid, NamesNil and NamesKnown: each returns true. No condition. -/
import Derived.Test.YtlcabmkjacimnaaNamesG
namespace Go.Proofs.Ytlcabmkjacimnaa.names
open Go.RowKit mem
set_option linter.unusedVariables false
set_option linter.unusedSimpArgs false
set_option maxHeartbeats 1000000

theorem lawValid (s : ByteArray) (w : World) : Calls Try.prog 4 #[.string s] w fun e w' => e = .returned (.bool true) ∧ Below w.heap.size w w' := by
  go_enter Try.func4, Try.ntmps4
  go_wp2_with fail
  refine (Valid _ _).mono ?_
  rintro e w1 ⟨rfl, hb1⟩
  go_wp2_with fail
  refine (RValid _ _).mono ?_
  rintro e w2 ⟨rfl, hb2⟩
  go_wp2_with fail
  refine (awake _).mono ?_
  rintro e w3 ⟨rfl, hb3⟩
  go_wp2_with fail
  go_ret
  have s1 := hb1.size
  have s2 := hb2.size
  exact ⟨rfl, hb1.trans ((hb2.mono s1).trans (hb3.mono (by omega)))⟩

theorem lawNil (s : ByteArray) (n : Int) (w : World) : Calls Try.prog 13 #[.string s, .int .i64 n] w fun e w' => e = .returned (.bool true) ∧ Below w.heap.size w w' := by
  go_enter Try.func13, Try.ntmps13
  go_wp2_with (first
    | (go_at_call 33; refine (Put_nil _ _).mono ?_; rintro e w' ⟨rfl, rfl⟩)
    | (go_at_call 37; refine (Find_nil _ _).mono ?_; rintro e w' ⟨rfl, rfl⟩)
    | (go_at_call 38; refine (Name_nil _ _).mono ?_; rintro e w' ⟨rfl, rfl⟩)
    | (go_at_call 36; refine (Len_nil _).mono ?_; rintro e w' ⟨rfl, rfl⟩)
    | (go_at_call 35; refine (All_nil _).mono ?_; rintro e w' ⟨rfl, rfl⟩)
    | (go_at_call 19; refine (awake _).mono ?_; rintro e w1 ⟨rfl, hb⟩))
  go_ret
  exact ⟨rfl, hb⟩

theorem kf0 : putL [] ⟨#[111, 107]⟩ = [⟨#[111, 107]⟩] := by decide +kernel
theorem kf1 : putL [⟨#[111, 107]⟩] ⟨#[101, 114, 114, 111, 114]⟩ = [⟨#[111, 107]⟩, ⟨#[101, 114, 114, 111, 114]⟩] := by decide +kernel
theorem kf2 : putL [⟨#[111, 107]⟩, ⟨#[101, 114, 114, 111, 114]⟩] ⟨#[111, 107]⟩ = [⟨#[111, 107]⟩, ⟨#[101, 114, 114, 111, 114]⟩] := by decide +kernel
theorem kf3 : putL [⟨#[111, 107]⟩, ⟨#[101, 114, 114, 111, 114]⟩] ⟨#[79, 107]⟩ = [⟨#[111, 107]⟩, ⟨#[101, 114, 114, 111, 114]⟩] := by decide +kernel
theorem kf4 : putL [⟨#[111, 107]⟩, ⟨#[101, 114, 114, 111, 114]⟩] ⟨#[97, 32, 98]⟩ = [⟨#[111, 107]⟩, ⟨#[101, 114, 114, 111, 114]⟩] := by decide +kernel
theorem kf5 : putL [⟨#[111, 107]⟩, ⟨#[101, 114, 114, 111, 114]⟩] ⟨#[97, 97, 97, 97, 97, 97, 97, 97, 97, 97, 97, 97, 97, 97, 97, 97, 97, 97, 97, 97, 97, 97, 97, 97, 97, 97, 97, 97, 97, 97, 97, 97, 97]⟩ = [⟨#[111, 107]⟩, ⟨#[101, 114, 114, 111, 114]⟩] := by decide +kernel
theorem kf6 : putL [⟨#[111, 107]⟩, ⟨#[101, 114, 114, 111, 114]⟩] ⟨#[]⟩ = [⟨#[111, 107]⟩, ⟨#[101, 114, 114, 111, 114]⟩] := by decide +kernel
theorem kf7 : putI [] ⟨#[111, 107]⟩ = 0 := by decide +kernel
theorem kf8 : putI [⟨#[111, 107]⟩] ⟨#[101, 114, 114, 111, 114]⟩ = 1 := by decide +kernel
theorem kf9 : putI [⟨#[111, 107]⟩, ⟨#[101, 114, 114, 111, 114]⟩] ⟨#[111, 107]⟩ = 0 := by decide +kernel
theorem kf10 : putE ⟨#[111, 107]⟩ = 0 := by decide +kernel
theorem kf11 : putE ⟨#[101, 114, 114, 111, 114]⟩ = 0 := by decide +kernel
theorem kf12 : findI [⟨#[111, 107]⟩, ⟨#[101, 114, 114, 111, 114]⟩] ⟨#[101, 114, 114, 111, 114]⟩ = 1 := by decide +kernel
theorem kf13 : findB [⟨#[111, 107]⟩, ⟨#[101, 114, 114, 111, 114]⟩] ⟨#[101, 114, 114, 111, 114]⟩ = true := by decide +kernel
theorem kf14 : findI [⟨#[111, 107]⟩, ⟨#[101, 114, 114, 111, 114]⟩] ⟨#[117, 110, 100, 101, 102]⟩ = 0 := by decide +kernel
theorem kf15 : findB [⟨#[111, 107]⟩, ⟨#[101, 114, 114, 111, 114]⟩] ⟨#[117, 110, 100, 101, 102]⟩ = false := by decide +kernel
theorem kf16 : nameS [⟨#[111, 107]⟩, ⟨#[101, 114, 114, 111, 114]⟩] 0 = ⟨#[111, 107]⟩ := by decide +kernel
theorem kf17 : nameB [⟨#[111, 107]⟩, ⟨#[101, 114, 114, 111, 114]⟩] 0 = true := by decide +kernel
theorem kf18 : nameS [⟨#[111, 107]⟩, ⟨#[101, 114, 114, 111, 114]⟩] 2 = ⟨#[]⟩ := by decide +kernel
theorem kf19 : nameB [⟨#[111, 107]⟩, ⟨#[101, 114, 114, 111, 114]⟩] 2 = false := by decide +kernel
theorem kf20 : nameS [⟨#[111, 107]⟩, ⟨#[101, 114, 114, 111, 114]⟩] (-1) = ⟨#[]⟩ := by decide +kernel
theorem kf21 : nameB [⟨#[111, 107]⟩, ⟨#[101, 114, 114, 111, 114]⟩] (-1) = false := by decide +kernel
theorem kf22 : putE ⟨#[79, 107]⟩ = 2 := by decide +kernel
theorem kf23 : putE ⟨#[97, 32, 98]⟩ = 2 := by decide +kernel
theorem kf24 : putE ⟨#[97, 97, 97, 97, 97, 97, 97, 97, 97, 97, 97, 97, 97, 97, 97, 97, 97, 97, 97, 97, 97, 97, 97, 97, 97, 97, 97, 97, 97, 97, 97, 97, 97]⟩ = 2 := by decide +kernel
theorem kf25 : putE ⟨#[]⟩ = 2 := by decide +kernel
theorem kf26 : vName ⟨#[97, 95, 49, 64, 88]⟩ = true := by decide +kernel
theorem kf27 : vName ⟨#[65]⟩ = false := by decide +kernel
theorem kf28 : vName ⟨#[]⟩ = false := by decide +kernel
theorem kf29 : vName ⟨#[49, 97]⟩ = false := by decide +kernel

set_option maxRecDepth 100000 in
theorem lawKnown (w : World) : Calls Try.prog 7 #[] w fun e w' => e = .returned (.bool true) ∧ Below w.heap.size w w' := by
  have H0 := Lib.hid kf0
  have H1 := Lib.hid kf1
  have H2 := Lib.hid kf2
  have H3 := Lib.hid kf3
  have H4 := Lib.hid kf4
  have H5 := Lib.hid kf5
  have H6 := Lib.hid kf6
  have f7 := kf7
  have f8 := kf8
  have f9 := kf9
  have f10 := kf10
  have f11 := kf11
  have f12 := kf12
  have f13 := kf13
  have f14 := kf14
  have f15 := kf15
  have f16 := kf16
  have f17 := kf17
  have f18 := kf18
  have f19 := kf19
  have f20 := kf20
  have f21 := kf21
  have f22 := kf22
  have f23 := kf23
  have f24 := kf24
  have f25 := kf25
  have f26 := kf26
  have f27 := kf27
  have f28 := kf28
  have f29 := kf29
  go_enter Try.func7, Try.ntmps7
  go_wp2_with fail
  refine (new_arm _ (Below.refl _ _)).mono ?_
  rintro e w0 ⟨rfl, hT0, hb0, hf0⟩
  go_wp2_with fail
  refine (put_arm hT0 _ (by simp) hb0 hf0).mono ?_
  rintro e w1 ⟨rfl, p1, c1, hT1, hb1, hf1⟩
  rw [H0.out] at hT1
  go_wp2_with fail
  refine (put_arm hT1 _ (by simp) hb1 hf1).mono ?_
  rintro e w2 ⟨rfl, p2, c2, hT2, hb2, hf2⟩
  rw [H1.out] at hT2
  go_wp2_with fail
  refine (put_arm hT2 _ (by simp) hb2 hf2).mono ?_
  rintro e w3 ⟨rfl, p3, c3, hT3, hb3, hf3⟩
  rw [H2.out] at hT3
  go_wp2_with (first
    | (go_at_call 36; refine (Len _ _ _ _ _ _ hT3).mono ?_; rintro e w' ⟨rfl, rfl⟩)
    | (go_at_call 37; refine (Find _ _ _ _ _ _ hT3 _).mono ?_; rintro e w' ⟨rfl, rfl⟩)
    | (go_at_call 38; refine (Name _ _ _ _ _ _ hT3 _ (by unfold maxLen; simp)).mono ?_; rintro e w' ⟨rfl, rfl⟩))
  refine (put_arm hT3 _ (by simp) hb3 hf3).mono ?_
  rintro e w4 ⟨rfl, p4, c4, hT4, hb4, hf4⟩
  rw [H3.out] at hT4
  go_wp2_with fail
  refine (put_arm hT4 _ (by simp) hb4 hf4).mono ?_
  rintro e w5 ⟨rfl, p5, c5, hT5, hb5, hf5⟩
  rw [H4.out] at hT5
  go_wp2_with fail
  refine (put_arm hT5 _ (by simp) hb5 hf5).mono ?_
  rintro e w6 ⟨rfl, p6, c6, hT6, hb6, hf6⟩
  rw [H5.out] at hT6
  go_wp2_with fail
  refine (put_arm hT6 _ (by simp) hb6 hf6).mono ?_
  rintro e w7 ⟨rfl, p7, c7, hT7, hb7, hf7⟩
  rw [H6.out] at hT7
  have HB := Lib.hid hb7; clear hb0 hb1 hb2 hb3 hb4 hb5 hb6 hb7
  go_wp2_with (go_at_call 36; refine (Len _ _ _ _ _ _ hT7).mono ?_; rintro e w' ⟨rfl, rfl⟩)
  refine (Valid _ _).mono ?_
  rintro e w8 ⟨rfl, hb8⟩
  go_wp2_with fail
  refine (Valid _ _).mono ?_
  rintro e w9 ⟨rfl, hb9⟩
  go_wp2_with fail
  refine (Valid _ _).mono ?_
  rintro e w10 ⟨rfl, hb10⟩
  go_wp2_with fail
  refine (Valid _ _).mono ?_
  rintro e w11 ⟨rfl, hb11⟩
  go_wp2_with fail
  go_ret
  have hb7 := HB.out
  have s7 := hb7.size
  have s8 := hb8.size
  have s9 := hb9.size
  have s10 := hb10.size
  exact ⟨rfl, hb7.trans ((hb8.mono s7).trans ((hb9.mono (by omega)).trans ((hb10.mono (by omega)).trans (hb11.mono (by omega)))))⟩
end Go.Proofs.Ytlcabmkjacimnaa.names
