
/- terms: the functions of each kind. Conditions: none but the sizes that Go allows. -/
import Derived.Test.YtpnlnbolhkcnjaaGreatTmE
namespace Go.Proofs.YtpnlnbolhkcnjaaGreat.tm
open Go.RowKit mem names
set_option linter.unusedVariables false
set_option linter.unusedSimpArgs false
set_option maxHeartbeats 1000000
set_option maxRecDepth 100000
theorem kind0 (i g : Int) (nm fn : ByteArray) (ar : Int) (by_ : ByteArray) (bt : Int) (p : Option Addr) (n c : Nat) (last : Int) (w : World) (hn : n ≤ c) (hc : c ≤ 9223372036854775807) : Calls Tryz.prog 256 #[aggV ⟨0, i, g, nm, fn, ar, by_, bt⟩ (.slice p n c)] w (KPost ⟨0, i, g, nm, fn, ar, by_, bt⟩ (.slice p n c) n last w) := by
  have hb : bareF ⟨0, i, g, nm, fn, ar, by_, bt⟩ = ⟨0, i, g, nm, fn, ar, by_, bt⟩ := by simp [bareF]
  have hv : bareV ⟨0, i, g, nm, fn, ar, by_, bt⟩ (.slice p n c) = Value.slice p n c := by simp [bareV, nilV]
  have ho : okF ⟨0, i, g, nm, fn, ar, by_, bt⟩ n last = (false) := by simp [okF]
  unfold KPost
  rw [hb, hv, ho]
  unfold aggV
  dsimp only
  clear hb hv ho
  go_enter Tryz.func256, Tryz.ntmps256
  go_wp2_with fail
  exact bodyPost_ret (v := (.tuple #[.agg #[.int .i64 0, .int .i64 i, .int .i64 g, .string nm, .string fn, .int .i64 ar, Value.slice p n c, .string by_, .int .i64 bt], .bool false])) (by simp [results, Tryz.results256, go_sem, *]) rfl ⟨by simp, by (repeat' (first | with_reducible exact hb | with_reducible exact Below.refl _ _ | with_reducible exact Nat.le_refl _ | with_reducible refine Below.setCell ?_ ?_ _ | with_reducible refine Below.alloc ?_ ?_ _ | (simp; done) | (simp; omega)))⟩
theorem kindInt (i g : Int) (nm fn : ByteArray) (ar : Int) (by_ : ByteArray) (bt : Int) (p : Option Addr) (n c : Nat) (last : Int) (w : World) (hn : n ≤ c) (hc : c ≤ 9223372036854775807) : Calls Tryz.prog 257 #[aggV ⟨1, i, g, nm, fn, ar, by_, bt⟩ (.slice p n c)] w (KPost ⟨1, i, g, nm, fn, ar, by_, bt⟩ (.slice p n c) n last w) := by
  have hb : bareF ⟨1, i, g, nm, fn, ar, by_, bt⟩ = ⟨1, 0, g, nm, fn, ar, by_, bt⟩ := by simp [bareF]
  have hv : bareV ⟨1, i, g, nm, fn, ar, by_, bt⟩ (.slice p n c) = Value.slice p n c := by simp [bareV, nilV]
  have ho : okF ⟨1, i, g, nm, fn, ar, by_, bt⟩ n last = (true) := by simp [okF]
  unfold KPost
  rw [hb, hv, ho]
  unfold aggV
  dsimp only
  clear hb hv ho
  go_enter Tryz.func257, Tryz.ntmps257
  go_wp2_with fail
  exact bodyPost_ret (v := (.tuple #[.agg #[.int .i64 1, .int .i64 0, .int .i64 g, .string nm, .string fn, .int .i64 ar, Value.slice p n c, .string by_, .int .i64 bt], .bool true])) (by simp [results, Tryz.results257, go_sem, *]) rfl ⟨by simp, by (repeat' (first | with_reducible exact hb | with_reducible exact Below.refl _ _ | with_reducible exact Nat.le_refl _ | with_reducible refine Below.setCell ?_ ?_ _ | with_reducible refine Below.alloc ?_ ?_ _ | (simp; done) | (simp; omega)))⟩
theorem kindAtom (i g : Int) (nm fn : ByteArray) (ar : Int) (by_ : ByteArray) (bt : Int) (p : Option Addr) (n c : Nat) (last : Int) (w : World) (hn : n ≤ c) (hc : c ≤ 9223372036854775807) : Calls Tryz.prog 258 #[aggV ⟨2, i, g, nm, fn, ar, by_, bt⟩ (.slice p n c)] w (KPost ⟨2, i, g, nm, fn, ar, by_, bt⟩ (.slice p n c) n last w) := by
  have hb : bareF ⟨2, i, g, nm, fn, ar, by_, bt⟩ = ⟨2, i, g, ⟨#[]⟩, fn, ar, by_, bt⟩ := by simp [bareF]
  have hv : bareV ⟨2, i, g, nm, fn, ar, by_, bt⟩ (.slice p n c) = Value.slice p n c := by simp [bareV, nilV]
  have ho : okF ⟨2, i, g, nm, fn, ar, by_, bt⟩ n last = (vName nm) := by simp [okF]
  unfold KPost
  rw [hb, hv, ho]
  unfold aggV
  dsimp only
  clear hb hv ho
  by_cases h0 : (vName nm) = true
  · have hV0 := fun W => Valid nm W
    rw [h0] at hV0
    rw [h0]
    go_enter Tryz.func258, Tryz.ntmps258
    go_wp2_with fail
    refine (hV0 _).mono ?_
    rintro e w1 ⟨rfl, hb1⟩
    have hz : w.heap.size + 1 < w1.heap.size := by have := hb1.size; simp at this; omega
    obtain ⟨hA, hR, hb⟩ := two_box (f := ⟨2, i, g, nm, fn, ar, by_, bt⟩) (v := .slice p n c) hb1
    have HA := Lib.hid hA
    have HR := Lib.hid hR
    obtain ⟨a0, a1, a2, a3, a4, a5, a6, a7, a8, az⟩ := hA
    obtain ⟨r0, r1, r2, r3, r4, r5, r6, r7, r8, rz⟩ := hR
    clear hb1
    dsimp only [zeroF, nilV] at a0 a1 a2 a3 a4 a5 a6 a7 a8 r0 r1 r2 r3 r4 r5 r6 r7 r8
    go_wp2_with fail
    exact bodyPost_ret (v := (.tuple #[.agg #[.int .i64 2, .int .i64 i, .int .i64 g, .string ⟨#[]⟩, .string fn, .int .i64 ar, Value.slice p n c, .string by_, .int .i64 bt], .bool true])) (by simp [results, Tryz.results258, go_sem, *]) rfl ⟨by simp, by (repeat' (first | with_reducible exact hb | with_reducible exact Below.refl _ _ | with_reducible exact Nat.le_refl _ | with_reducible refine Below.setCell ?_ ?_ _ | with_reducible refine Below.alloc ?_ ?_ _ | (simp; done) | (simp; omega)))⟩
  · have h0 : (vName nm) = false := by simpa using h0
    have hV0 := fun W => Valid nm W
    rw [h0] at hV0
    rw [h0]
    go_enter Tryz.func258, Tryz.ntmps258
    go_wp2_with fail
    refine (hV0 _).mono ?_
    rintro e w1 ⟨rfl, hb1⟩
    have hz : w.heap.size + 1 < w1.heap.size := by have := hb1.size; simp at this; omega
    obtain ⟨hA, hR, hb⟩ := two_box (f := ⟨2, i, g, nm, fn, ar, by_, bt⟩) (v := .slice p n c) hb1
    have HA := Lib.hid hA
    have HR := Lib.hid hR
    obtain ⟨a0, a1, a2, a3, a4, a5, a6, a7, a8, az⟩ := hA
    obtain ⟨r0, r1, r2, r3, r4, r5, r6, r7, r8, rz⟩ := hR
    clear hb1
    dsimp only [zeroF, nilV] at a0 a1 a2 a3 a4 a5 a6 a7 a8 r0 r1 r2 r3 r4 r5 r6 r7 r8
    go_wp2_with fail
    exact bodyPost_ret (v := (.tuple #[.agg #[.int .i64 2, .int .i64 i, .int .i64 g, .string ⟨#[]⟩, .string fn, .int .i64 ar, Value.slice p n c, .string by_, .int .i64 bt], .bool false])) (by simp [results, Tryz.results258, go_sem, *]) rfl ⟨by simp, by (repeat' (first | with_reducible exact hb | with_reducible exact Below.refl _ _ | with_reducible exact Nat.le_refl _ | with_reducible refine Below.setCell ?_ ?_ _ | with_reducible refine Below.alloc ?_ ?_ _ | (simp; done) | (simp; omega)))⟩
theorem kindRef (i g : Int) (nm fn : ByteArray) (ar : Int) (by_ : ByteArray) (bt : Int) (p : Option Addr) (n c : Nat) (last : Int) (w : World) (hn : n ≤ c) (hc : c ≤ 9223372036854775807) : Calls Tryz.prog 254 #[aggV ⟨3, i, g, nm, fn, ar, by_, bt⟩ (.slice p n c)] w (KPost ⟨3, i, g, nm, fn, ar, by_, bt⟩ (.slice p n c) n last w) := by
  have hb : bareF ⟨3, i, g, nm, fn, ar, by_, bt⟩ = ⟨3, 0, 0, ⟨#[]⟩, fn, ar, by_, bt⟩ := by simp [bareF]
  have hv : bareV ⟨3, i, g, nm, fn, ar, by_, bt⟩ (.slice p n c) = Value.slice p n c := by simp [bareV, nilV]
  have ho : okF ⟨3, i, g, nm, fn, ar, by_, bt⟩ n last = (inB i 1 2147483647 && (inB g 1 2147483647 && (vName nm))) := by simp [okF]
  unfold KPost
  rw [hb, hv, ho]
  unfold aggV
  dsimp only
  clear hb hv ho
  by_cases h0 : (inB i 1 2147483647) = true
  · by_cases h1 : (inB g 1 2147483647) = true
    · by_cases h2 : (vName nm) = true
      · have hw0 := fun W => within i 1 2147483647 W
        rw [h0] at hw0
        have hw1 := fun W => within g 1 2147483647 W
        rw [h1] at hw1
        have hV2 := fun W => Valid nm W
        rw [h2] at hV2
        rw [h0, h1, h2]
        go_enter Tryz.func254, Tryz.ntmps254
        go_wp2_with fail
        refine (hw0 _).mono ?_
        rintro e w' ⟨rfl, rfl⟩
        go_wp2_with fail
        refine (hw1 _).mono ?_
        rintro e w' ⟨rfl, rfl⟩
        go_wp2_with fail
        refine (hV2 _).mono ?_
        rintro e w1 ⟨rfl, hb1⟩
        have hz : w.heap.size + 1 < w1.heap.size := by have := hb1.size; simp at this; omega
        obtain ⟨hA, hR, hb⟩ := two_box (f := ⟨3, i, g, nm, fn, ar, by_, bt⟩) (v := .slice p n c) hb1
        have HA := Lib.hid hA
        have HR := Lib.hid hR
        obtain ⟨a0, a1, a2, a3, a4, a5, a6, a7, a8, az⟩ := hA
        obtain ⟨r0, r1, r2, r3, r4, r5, r6, r7, r8, rz⟩ := hR
        clear hb1
        dsimp only [zeroF, nilV] at a0 a1 a2 a3 a4 a5 a6 a7 a8 r0 r1 r2 r3 r4 r5 r6 r7 r8
        go_wp2_with fail
        exact bodyPost_ret (v := (.tuple #[.agg #[.int .i64 3, .int .i64 0, .int .i64 0, .string ⟨#[]⟩, .string fn, .int .i64 ar, Value.slice p n c, .string by_, .int .i64 bt], .bool true])) (by simp [results, Tryz.results254, go_sem, *]) rfl ⟨by simp, by (repeat' (first | with_reducible exact hb | with_reducible exact Below.refl _ _ | with_reducible exact Nat.le_refl _ | with_reducible refine Below.setCell ?_ ?_ _ | with_reducible refine Below.alloc ?_ ?_ _ | (simp; done) | (simp; omega)))⟩
      · have h2 : (vName nm) = false := by simpa using h2
        have hw0 := fun W => within i 1 2147483647 W
        rw [h0] at hw0
        have hw1 := fun W => within g 1 2147483647 W
        rw [h1] at hw1
        have hV2 := fun W => Valid nm W
        rw [h2] at hV2
        rw [h0, h1, h2]
        go_enter Tryz.func254, Tryz.ntmps254
        go_wp2_with fail
        refine (hw0 _).mono ?_
        rintro e w' ⟨rfl, rfl⟩
        go_wp2_with fail
        refine (hw1 _).mono ?_
        rintro e w' ⟨rfl, rfl⟩
        go_wp2_with fail
        refine (hV2 _).mono ?_
        rintro e w1 ⟨rfl, hb1⟩
        have hz : w.heap.size + 1 < w1.heap.size := by have := hb1.size; simp at this; omega
        obtain ⟨hA, hR, hb⟩ := two_box (f := ⟨3, i, g, nm, fn, ar, by_, bt⟩) (v := .slice p n c) hb1
        have HA := Lib.hid hA
        have HR := Lib.hid hR
        obtain ⟨a0, a1, a2, a3, a4, a5, a6, a7, a8, az⟩ := hA
        obtain ⟨r0, r1, r2, r3, r4, r5, r6, r7, r8, rz⟩ := hR
        clear hb1
        dsimp only [zeroF, nilV] at a0 a1 a2 a3 a4 a5 a6 a7 a8 r0 r1 r2 r3 r4 r5 r6 r7 r8
        go_wp2_with fail
        exact bodyPost_ret (v := (.tuple #[.agg #[.int .i64 3, .int .i64 0, .int .i64 0, .string ⟨#[]⟩, .string fn, .int .i64 ar, Value.slice p n c, .string by_, .int .i64 bt], .bool false])) (by simp [results, Tryz.results254, go_sem, *]) rfl ⟨by simp, by (repeat' (first | with_reducible exact hb | with_reducible exact Below.refl _ _ | with_reducible exact Nat.le_refl _ | with_reducible refine Below.setCell ?_ ?_ _ | with_reducible refine Below.alloc ?_ ?_ _ | (simp; done) | (simp; omega)))⟩
    · have h1 : (inB g 1 2147483647) = false := by simpa using h1
      have hw0 := fun W => within i 1 2147483647 W
      rw [h0] at hw0
      have hw1 := fun W => within g 1 2147483647 W
      rw [h1] at hw1
      rw [h0, h1]
      go_enter Tryz.func254, Tryz.ntmps254
      go_wp2_with fail
      refine (hw0 _).mono ?_
      rintro e w' ⟨rfl, rfl⟩
      go_wp2_with fail
      refine (hw1 _).mono ?_
      rintro e w' ⟨rfl, rfl⟩
      go_wp2_with fail
      exact bodyPost_ret (v := (.tuple #[.agg #[.int .i64 3, .int .i64 0, .int .i64 0, .string ⟨#[]⟩, .string fn, .int .i64 ar, Value.slice p n c, .string by_, .int .i64 bt], .bool false])) (by simp [results, Tryz.results254, go_sem, *]) rfl ⟨by simp, by (repeat' (first | with_reducible exact hb | with_reducible exact Below.refl _ _ | with_reducible exact Nat.le_refl _ | with_reducible refine Below.setCell ?_ ?_ _ | with_reducible refine Below.alloc ?_ ?_ _ | (simp; done) | (simp; omega)))⟩
  · have h0 : (inB i 1 2147483647) = false := by simpa using h0
    have hw0 := fun W => within i 1 2147483647 W
    rw [h0] at hw0
    rw [h0]
    go_enter Tryz.func254, Tryz.ntmps254
    go_wp2_with fail
    refine (hw0 _).mono ?_
    rintro e w' ⟨rfl, rfl⟩
    go_wp2_with fail
    exact bodyPost_ret (v := (.tuple #[.agg #[.int .i64 3, .int .i64 0, .int .i64 0, .string ⟨#[]⟩, .string fn, .int .i64 ar, Value.slice p n c, .string by_, .int .i64 bt], .bool false])) (by simp [results, Tryz.results254, go_sem, *]) rfl ⟨by simp, by (repeat' (first | with_reducible exact hb | with_reducible exact Below.refl _ _ | with_reducible exact Nat.le_refl _ | with_reducible refine Below.setCell ?_ ?_ _ | with_reducible refine Below.alloc ?_ ?_ _ | (simp; done) | (simp; omega)))⟩
theorem kindPid (i g : Int) (nm fn : ByteArray) (ar : Int) (by_ : ByteArray) (bt : Int) (p : Option Addr) (n c : Nat) (last : Int) (w : World) (hn : n ≤ c) (hc : c ≤ 9223372036854775807) : Calls Tryz.prog 254 #[aggV ⟨6, i, g, nm, fn, ar, by_, bt⟩ (.slice p n c)] w (KPost ⟨6, i, g, nm, fn, ar, by_, bt⟩ (.slice p n c) n last w) := by
  have hb : bareF ⟨6, i, g, nm, fn, ar, by_, bt⟩ = ⟨6, 0, 0, ⟨#[]⟩, fn, ar, by_, bt⟩ := by simp [bareF]
  have hv : bareV ⟨6, i, g, nm, fn, ar, by_, bt⟩ (.slice p n c) = Value.slice p n c := by simp [bareV, nilV]
  have ho : okF ⟨6, i, g, nm, fn, ar, by_, bt⟩ n last = (inB i 1 2147483647 && (inB g 1 2147483647 && (vName nm))) := by simp [okF]
  unfold KPost
  rw [hb, hv, ho]
  unfold aggV
  dsimp only
  clear hb hv ho
  by_cases h0 : (inB i 1 2147483647) = true
  · by_cases h1 : (inB g 1 2147483647) = true
    · by_cases h2 : (vName nm) = true
      · have hw0 := fun W => within i 1 2147483647 W
        rw [h0] at hw0
        have hw1 := fun W => within g 1 2147483647 W
        rw [h1] at hw1
        have hV2 := fun W => Valid nm W
        rw [h2] at hV2
        rw [h0, h1, h2]
        go_enter Tryz.func254, Tryz.ntmps254
        go_wp2_with fail
        refine (hw0 _).mono ?_
        rintro e w' ⟨rfl, rfl⟩
        go_wp2_with fail
        refine (hw1 _).mono ?_
        rintro e w' ⟨rfl, rfl⟩
        go_wp2_with fail
        refine (hV2 _).mono ?_
        rintro e w1 ⟨rfl, hb1⟩
        have hz : w.heap.size + 1 < w1.heap.size := by have := hb1.size; simp at this; omega
        obtain ⟨hA, hR, hb⟩ := two_box (f := ⟨6, i, g, nm, fn, ar, by_, bt⟩) (v := .slice p n c) hb1
        have HA := Lib.hid hA
        have HR := Lib.hid hR
        obtain ⟨a0, a1, a2, a3, a4, a5, a6, a7, a8, az⟩ := hA
        obtain ⟨r0, r1, r2, r3, r4, r5, r6, r7, r8, rz⟩ := hR
        clear hb1
        dsimp only [zeroF, nilV] at a0 a1 a2 a3 a4 a5 a6 a7 a8 r0 r1 r2 r3 r4 r5 r6 r7 r8
        go_wp2_with fail
        exact bodyPost_ret (v := (.tuple #[.agg #[.int .i64 6, .int .i64 0, .int .i64 0, .string ⟨#[]⟩, .string fn, .int .i64 ar, Value.slice p n c, .string by_, .int .i64 bt], .bool true])) (by simp [results, Tryz.results254, go_sem, *]) rfl ⟨by simp, by (repeat' (first | with_reducible exact hb | with_reducible exact Below.refl _ _ | with_reducible exact Nat.le_refl _ | with_reducible refine Below.setCell ?_ ?_ _ | with_reducible refine Below.alloc ?_ ?_ _ | (simp; done) | (simp; omega)))⟩
      · have h2 : (vName nm) = false := by simpa using h2
        have hw0 := fun W => within i 1 2147483647 W
        rw [h0] at hw0
        have hw1 := fun W => within g 1 2147483647 W
        rw [h1] at hw1
        have hV2 := fun W => Valid nm W
        rw [h2] at hV2
        rw [h0, h1, h2]
        go_enter Tryz.func254, Tryz.ntmps254
        go_wp2_with fail
        refine (hw0 _).mono ?_
        rintro e w' ⟨rfl, rfl⟩
        go_wp2_with fail
        refine (hw1 _).mono ?_
        rintro e w' ⟨rfl, rfl⟩
        go_wp2_with fail
        refine (hV2 _).mono ?_
        rintro e w1 ⟨rfl, hb1⟩
        have hz : w.heap.size + 1 < w1.heap.size := by have := hb1.size; simp at this; omega
        obtain ⟨hA, hR, hb⟩ := two_box (f := ⟨6, i, g, nm, fn, ar, by_, bt⟩) (v := .slice p n c) hb1
        have HA := Lib.hid hA
        have HR := Lib.hid hR
        obtain ⟨a0, a1, a2, a3, a4, a5, a6, a7, a8, az⟩ := hA
        obtain ⟨r0, r1, r2, r3, r4, r5, r6, r7, r8, rz⟩ := hR
        clear hb1
        dsimp only [zeroF, nilV] at a0 a1 a2 a3 a4 a5 a6 a7 a8 r0 r1 r2 r3 r4 r5 r6 r7 r8
        go_wp2_with fail
        exact bodyPost_ret (v := (.tuple #[.agg #[.int .i64 6, .int .i64 0, .int .i64 0, .string ⟨#[]⟩, .string fn, .int .i64 ar, Value.slice p n c, .string by_, .int .i64 bt], .bool false])) (by simp [results, Tryz.results254, go_sem, *]) rfl ⟨by simp, by (repeat' (first | with_reducible exact hb | with_reducible exact Below.refl _ _ | with_reducible exact Nat.le_refl _ | with_reducible refine Below.setCell ?_ ?_ _ | with_reducible refine Below.alloc ?_ ?_ _ | (simp; done) | (simp; omega)))⟩
    · have h1 : (inB g 1 2147483647) = false := by simpa using h1
      have hw0 := fun W => within i 1 2147483647 W
      rw [h0] at hw0
      have hw1 := fun W => within g 1 2147483647 W
      rw [h1] at hw1
      rw [h0, h1]
      go_enter Tryz.func254, Tryz.ntmps254
      go_wp2_with fail
      refine (hw0 _).mono ?_
      rintro e w' ⟨rfl, rfl⟩
      go_wp2_with fail
      refine (hw1 _).mono ?_
      rintro e w' ⟨rfl, rfl⟩
      go_wp2_with fail
      exact bodyPost_ret (v := (.tuple #[.agg #[.int .i64 6, .int .i64 0, .int .i64 0, .string ⟨#[]⟩, .string fn, .int .i64 ar, Value.slice p n c, .string by_, .int .i64 bt], .bool false])) (by simp [results, Tryz.results254, go_sem, *]) rfl ⟨by simp, by (repeat' (first | with_reducible exact hb | with_reducible exact Below.refl _ _ | with_reducible exact Nat.le_refl _ | with_reducible refine Below.setCell ?_ ?_ _ | with_reducible refine Below.alloc ?_ ?_ _ | (simp; done) | (simp; omega)))⟩
  · have h0 : (inB i 1 2147483647) = false := by simpa using h0
    have hw0 := fun W => within i 1 2147483647 W
    rw [h0] at hw0
    rw [h0]
    go_enter Tryz.func254, Tryz.ntmps254
    go_wp2_with fail
    refine (hw0 _).mono ?_
    rintro e w' ⟨rfl, rfl⟩
    go_wp2_with fail
    exact bodyPost_ret (v := (.tuple #[.agg #[.int .i64 6, .int .i64 0, .int .i64 0, .string ⟨#[]⟩, .string fn, .int .i64 ar, Value.slice p n c, .string by_, .int .i64 bt], .bool false])) (by simp [results, Tryz.results254, go_sem, *]) rfl ⟨by simp, by (repeat' (first | with_reducible exact hb | with_reducible exact Below.refl _ _ | with_reducible exact Nat.le_refl _ | with_reducible refine Below.setCell ?_ ?_ _ | with_reducible refine Below.alloc ?_ ?_ _ | (simp; done) | (simp; omega)))⟩
theorem kindClosure (i g : Int) (nm fn : ByteArray) (ar : Int) (by_ : ByteArray) (bt : Int) (p : Option Addr) (n c : Nat) (last : Int) (w : World) (hn : n ≤ c) (hc : c ≤ 9223372036854775807) : Calls Tryz.prog 259 #[aggV ⟨4, i, g, nm, fn, ar, by_, bt⟩ (.slice p n c)] w (KPost ⟨4, i, g, nm, fn, ar, by_, bt⟩ (.slice p n c) n last w) := by
  have hb : bareF ⟨4, i, g, nm, fn, ar, by_, bt⟩ = ⟨4, 0, 0, ⟨#[]⟩, fn, 0, by_, bt⟩ := by simp [bareF]
  have hv : bareV ⟨4, i, g, nm, fn, ar, by_, bt⟩ (.slice p n c) = Value.slice none 0 0 := by simp [bareV, nilV]
  have ho : okF ⟨4, i, g, nm, fn, ar, by_, bt⟩ n last = (inB i 0 999 && (inB g 1 2147483647 && (vName nm && (inB ar 0 16 && (decide (n ≤ 200)))))) := by simp [okF]
  unfold KPost
  rw [hb, hv, ho]
  unfold aggV
  dsimp only
  clear hb hv ho
  by_cases h0 : (inB i 0 999) = true
  · by_cases h1 : (inB g 1 2147483647) = true
    · by_cases h2 : (vName nm) = true
      · by_cases h3 : (inB ar 0 16) = true
        · by_cases h4 : (decide (n ≤ 200)) = true
          · have hw0 := fun W => within i 0 999 W
            rw [h0] at hw0
            have hw1 := fun W => within g 1 2147483647 W
            rw [h1] at hw1
            have hV2 := fun W => Valid nm W
            rw [h2] at hV2
            have hw3 := fun W => within ar 0 16 W
            rw [h3] at hw3
            have q4 : (n : Int) ≤ 200 := by have := of_decide_eq_true h4; omega
            rw [h0, h1, h2, h3, h4]
            go_enter Tryz.func259, Tryz.ntmps259
            go_wp2_with fail
            refine (hw0 _).mono ?_
            rintro e w' ⟨rfl, rfl⟩
            go_wp2_with fail
            refine (hw1 _).mono ?_
            rintro e w' ⟨rfl, rfl⟩
            go_wp2_with fail
            refine (hV2 _).mono ?_
            rintro e w1 ⟨rfl, hb1⟩
            have hz : w.heap.size + 1 < w1.heap.size := by have := hb1.size; simp at this; omega
            obtain ⟨hA, hR, hb⟩ := two_box (f := ⟨4, i, g, nm, fn, ar, by_, bt⟩) (v := .slice p n c) hb1
            have HA := Lib.hid hA
            have HR := Lib.hid hR
            obtain ⟨a0, a1, a2, a3, a4, a5, a6, a7, a8, az⟩ := hA
            obtain ⟨r0, r1, r2, r3, r4, r5, r6, r7, r8, rz⟩ := hR
            clear hb1
            dsimp only [zeroF, nilV] at a0 a1 a2 a3 a4 a5 a6 a7 a8 r0 r1 r2 r3 r4 r5 r6 r7 r8
            go_wp2_with fail
            refine (hw3 _).mono ?_
            rintro e w' ⟨rfl, rfl⟩
            go_wp2_with fail
            exact bodyPost_ret (v := (.tuple #[.agg #[.int .i64 4, .int .i64 0, .int .i64 0, .string ⟨#[]⟩, .string fn, .int .i64 0, Value.slice none 0 0, .string by_, .int .i64 bt], .bool true])) (by simp [results, Tryz.results259, go_sem, *]) rfl ⟨by simp, by (repeat' (first | with_reducible exact hb | with_reducible exact Below.refl _ _ | with_reducible exact Nat.le_refl _ | with_reducible refine Below.setCell ?_ ?_ _ | with_reducible refine Below.alloc ?_ ?_ _ | (simp; done) | (simp; omega)))⟩
          · have h4 : (decide (n ≤ 200)) = false := by simpa using h4
            have hw0 := fun W => within i 0 999 W
            rw [h0] at hw0
            have hw1 := fun W => within g 1 2147483647 W
            rw [h1] at hw1
            have hV2 := fun W => Valid nm W
            rw [h2] at hV2
            have hw3 := fun W => within ar 0 16 W
            rw [h3] at hw3
            have q4 : (200 : Int) < (n : Int) := by have := of_decide_eq_false h4; omega
            rw [h0, h1, h2, h3, h4]
            go_enter Tryz.func259, Tryz.ntmps259
            go_wp2_with fail
            refine (hw0 _).mono ?_
            rintro e w' ⟨rfl, rfl⟩
            go_wp2_with fail
            refine (hw1 _).mono ?_
            rintro e w' ⟨rfl, rfl⟩
            go_wp2_with fail
            refine (hV2 _).mono ?_
            rintro e w1 ⟨rfl, hb1⟩
            have hz : w.heap.size + 1 < w1.heap.size := by have := hb1.size; simp at this; omega
            obtain ⟨hA, hR, hb⟩ := two_box (f := ⟨4, i, g, nm, fn, ar, by_, bt⟩) (v := .slice p n c) hb1
            have HA := Lib.hid hA
            have HR := Lib.hid hR
            obtain ⟨a0, a1, a2, a3, a4, a5, a6, a7, a8, az⟩ := hA
            obtain ⟨r0, r1, r2, r3, r4, r5, r6, r7, r8, rz⟩ := hR
            clear hb1
            dsimp only [zeroF, nilV] at a0 a1 a2 a3 a4 a5 a6 a7 a8 r0 r1 r2 r3 r4 r5 r6 r7 r8
            go_wp2_with fail
            refine (hw3 _).mono ?_
            rintro e w' ⟨rfl, rfl⟩
            go_wp2_with fail
            exact bodyPost_ret (v := (.tuple #[.agg #[.int .i64 4, .int .i64 0, .int .i64 0, .string ⟨#[]⟩, .string fn, .int .i64 0, Value.slice none 0 0, .string by_, .int .i64 bt], .bool false])) (by simp [results, Tryz.results259, go_sem, *]) rfl ⟨by simp, by (repeat' (first | with_reducible exact hb | with_reducible exact Below.refl _ _ | with_reducible exact Nat.le_refl _ | with_reducible refine Below.setCell ?_ ?_ _ | with_reducible refine Below.alloc ?_ ?_ _ | (simp; done) | (simp; omega)))⟩
        · have h3 : (inB ar 0 16) = false := by simpa using h3
          have hw0 := fun W => within i 0 999 W
          rw [h0] at hw0
          have hw1 := fun W => within g 1 2147483647 W
          rw [h1] at hw1
          have hV2 := fun W => Valid nm W
          rw [h2] at hV2
          have hw3 := fun W => within ar 0 16 W
          rw [h3] at hw3
          rw [h0, h1, h2, h3]
          go_enter Tryz.func259, Tryz.ntmps259
          go_wp2_with fail
          refine (hw0 _).mono ?_
          rintro e w' ⟨rfl, rfl⟩
          go_wp2_with fail
          refine (hw1 _).mono ?_
          rintro e w' ⟨rfl, rfl⟩
          go_wp2_with fail
          refine (hV2 _).mono ?_
          rintro e w1 ⟨rfl, hb1⟩
          have hz : w.heap.size + 1 < w1.heap.size := by have := hb1.size; simp at this; omega
          obtain ⟨hA, hR, hb⟩ := two_box (f := ⟨4, i, g, nm, fn, ar, by_, bt⟩) (v := .slice p n c) hb1
          have HA := Lib.hid hA
          have HR := Lib.hid hR
          obtain ⟨a0, a1, a2, a3, a4, a5, a6, a7, a8, az⟩ := hA
          obtain ⟨r0, r1, r2, r3, r4, r5, r6, r7, r8, rz⟩ := hR
          clear hb1
          dsimp only [zeroF, nilV] at a0 a1 a2 a3 a4 a5 a6 a7 a8 r0 r1 r2 r3 r4 r5 r6 r7 r8
          go_wp2_with fail
          refine (hw3 _).mono ?_
          rintro e w' ⟨rfl, rfl⟩
          go_wp2_with fail
          exact bodyPost_ret (v := (.tuple #[.agg #[.int .i64 4, .int .i64 0, .int .i64 0, .string ⟨#[]⟩, .string fn, .int .i64 0, Value.slice none 0 0, .string by_, .int .i64 bt], .bool false])) (by simp [results, Tryz.results259, go_sem, *]) rfl ⟨by simp, by (repeat' (first | with_reducible exact hb | with_reducible exact Below.refl _ _ | with_reducible exact Nat.le_refl _ | with_reducible refine Below.setCell ?_ ?_ _ | with_reducible refine Below.alloc ?_ ?_ _ | (simp; done) | (simp; omega)))⟩
      · have h2 : (vName nm) = false := by simpa using h2
        have hw0 := fun W => within i 0 999 W
        rw [h0] at hw0
        have hw1 := fun W => within g 1 2147483647 W
        rw [h1] at hw1
        have hV2 := fun W => Valid nm W
        rw [h2] at hV2
        rw [h0, h1, h2]
        go_enter Tryz.func259, Tryz.ntmps259
        go_wp2_with fail
        refine (hw0 _).mono ?_
        rintro e w' ⟨rfl, rfl⟩
        go_wp2_with fail
        refine (hw1 _).mono ?_
        rintro e w' ⟨rfl, rfl⟩
        go_wp2_with fail
        refine (hV2 _).mono ?_
        rintro e w1 ⟨rfl, hb1⟩
        have hz : w.heap.size + 1 < w1.heap.size := by have := hb1.size; simp at this; omega
        obtain ⟨hA, hR, hb⟩ := two_box (f := ⟨4, i, g, nm, fn, ar, by_, bt⟩) (v := .slice p n c) hb1
        have HA := Lib.hid hA
        have HR := Lib.hid hR
        obtain ⟨a0, a1, a2, a3, a4, a5, a6, a7, a8, az⟩ := hA
        obtain ⟨r0, r1, r2, r3, r4, r5, r6, r7, r8, rz⟩ := hR
        clear hb1
        dsimp only [zeroF, nilV] at a0 a1 a2 a3 a4 a5 a6 a7 a8 r0 r1 r2 r3 r4 r5 r6 r7 r8
        go_wp2_with fail
        exact bodyPost_ret (v := (.tuple #[.agg #[.int .i64 4, .int .i64 0, .int .i64 0, .string ⟨#[]⟩, .string fn, .int .i64 0, Value.slice none 0 0, .string by_, .int .i64 bt], .bool false])) (by simp [results, Tryz.results259, go_sem, *]) rfl ⟨by simp, by (repeat' (first | with_reducible exact hb | with_reducible exact Below.refl _ _ | with_reducible exact Nat.le_refl _ | with_reducible refine Below.setCell ?_ ?_ _ | with_reducible refine Below.alloc ?_ ?_ _ | (simp; done) | (simp; omega)))⟩
    · have h1 : (inB g 1 2147483647) = false := by simpa using h1
      have hw0 := fun W => within i 0 999 W
      rw [h0] at hw0
      have hw1 := fun W => within g 1 2147483647 W
      rw [h1] at hw1
      rw [h0, h1]
      go_enter Tryz.func259, Tryz.ntmps259
      go_wp2_with fail
      refine (hw0 _).mono ?_
      rintro e w' ⟨rfl, rfl⟩
      go_wp2_with fail
      refine (hw1 _).mono ?_
      rintro e w' ⟨rfl, rfl⟩
      go_wp2_with fail
      exact bodyPost_ret (v := (.tuple #[.agg #[.int .i64 4, .int .i64 0, .int .i64 0, .string ⟨#[]⟩, .string fn, .int .i64 0, Value.slice none 0 0, .string by_, .int .i64 bt], .bool false])) (by simp [results, Tryz.results259, go_sem, *]) rfl ⟨by simp, by (repeat' (first | with_reducible exact hb | with_reducible exact Below.refl _ _ | with_reducible exact Nat.le_refl _ | with_reducible refine Below.setCell ?_ ?_ _ | with_reducible refine Below.alloc ?_ ?_ _ | (simp; done) | (simp; omega)))⟩
  · have h0 : (inB i 0 999) = false := by simpa using h0
    have hw0 := fun W => within i 0 999 W
    rw [h0] at hw0
    rw [h0]
    go_enter Tryz.func259, Tryz.ntmps259
    go_wp2_with fail
    refine (hw0 _).mono ?_
    rintro e w' ⟨rfl, rfl⟩
    go_wp2_with fail
    exact bodyPost_ret (v := (.tuple #[.agg #[.int .i64 4, .int .i64 0, .int .i64 0, .string ⟨#[]⟩, .string fn, .int .i64 0, Value.slice none 0 0, .string by_, .int .i64 bt], .bool false])) (by simp [results, Tryz.results259, go_sem, *]) rfl ⟨by simp, by (repeat' (first | with_reducible exact hb | with_reducible exact Below.refl _ _ | with_reducible exact Nat.le_refl _ | with_reducible refine Below.setCell ?_ ?_ _ | with_reducible refine Below.alloc ?_ ?_ _ | (simp; done) | (simp; omega)))⟩
theorem kindExport (i g : Int) (nm fn : ByteArray) (ar : Int) (by_ : ByteArray) (bt : Int) (p : Option Addr) (n c : Nat) (last : Int) (w : World) (hn : n ≤ c) (hc : c ≤ 9223372036854775807) : Calls Tryz.prog 260 #[aggV ⟨5, i, g, nm, fn, ar, by_, bt⟩ (.slice p n c)] w (KPost ⟨5, i, g, nm, fn, ar, by_, bt⟩ (.slice p n c) n last w) := by
  have hb : bareF ⟨5, i, g, nm, fn, ar, by_, bt⟩ = ⟨5, i, g, ⟨#[]⟩, ⟨#[]⟩, 0, by_, bt⟩ := by simp [bareF]
  have hv : bareV ⟨5, i, g, nm, fn, ar, by_, bt⟩ (.slice p n c) = Value.slice p n c := by simp [bareV, nilV]
  have ho : okF ⟨5, i, g, nm, fn, ar, by_, bt⟩ n last = (vName nm && (vName fn && (inB ar 0 16))) := by simp [okF]
  unfold KPost
  rw [hb, hv, ho]
  unfold aggV
  dsimp only
  clear hb hv ho
  by_cases h0 : (vName nm) = true
  · by_cases h1 : (vName fn) = true
    · by_cases h2 : (inB ar 0 16) = true
      · have hV0 := fun W => Valid nm W
        rw [h0] at hV0
        have hV1 := fun W => Valid fn W
        rw [h1] at hV1
        have hw2 := fun W => within ar 0 16 W
        rw [h2] at hw2
        rw [h0, h1, h2]
        go_enter Tryz.func260, Tryz.ntmps260
        go_wp2_with fail
        refine (hV0 _).mono ?_
        rintro e w1 ⟨rfl, hb1⟩
        have hz : w.heap.size + 1 < w1.heap.size := by have := hb1.size; simp at this; omega
        obtain ⟨hA, hR, hb⟩ := two_box (f := ⟨5, i, g, nm, fn, ar, by_, bt⟩) (v := .slice p n c) hb1
        have HA := Lib.hid hA
        have HR := Lib.hid hR
        obtain ⟨a0, a1, a2, a3, a4, a5, a6, a7, a8, az⟩ := hA
        obtain ⟨r0, r1, r2, r3, r4, r5, r6, r7, r8, rz⟩ := hR
        clear hb1
        dsimp only [zeroF, nilV] at a0 a1 a2 a3 a4 a5 a6 a7 a8 r0 r1 r2 r3 r4 r5 r6 r7 r8
        go_wp2_with fail
        refine (hV1 _).mono ?_
        rintro e w2 ⟨rfl, hb2⟩
        have hA := HA.out.below hb2 (by omega)
        have hR := HR.out.below hb2 (by omega)
        have hz : w.heap.size + 1 < w2.heap.size := by have := hb2.size; omega
        have hb := hb.trans (hb2.mono (by omega))
        clear hb2 a0 a1 a2 a3 a4 a5 a6 a7 a8 az r0 r1 r2 r3 r4 r5 r6 r7 r8 rz
        have HA := Lib.hid hA
        have HR := Lib.hid hR
        obtain ⟨a0, a1, a2, a3, a4, a5, a6, a7, a8, az⟩ := hA
        obtain ⟨r0, r1, r2, r3, r4, r5, r6, r7, r8, rz⟩ := hR
        dsimp only [zeroF, nilV] at a0 a1 a2 a3 a4 a5 a6 a7 a8 r0 r1 r2 r3 r4 r5 r6 r7 r8
        go_wp2_with fail
        refine (hw2 _).mono ?_
        rintro e w' ⟨rfl, rfl⟩
        go_wp2_with fail
        exact bodyPost_ret (v := (.tuple #[.agg #[.int .i64 5, .int .i64 i, .int .i64 g, .string ⟨#[]⟩, .string ⟨#[]⟩, .int .i64 0, Value.slice p n c, .string by_, .int .i64 bt], .bool true])) (by simp [results, Tryz.results260, go_sem, *]) rfl ⟨by simp, by (repeat' (first | with_reducible exact hb | with_reducible exact Below.refl _ _ | with_reducible exact Nat.le_refl _ | with_reducible refine Below.setCell ?_ ?_ _ | with_reducible refine Below.alloc ?_ ?_ _ | (simp; done) | (simp; omega)))⟩
      · have h2 : (inB ar 0 16) = false := by simpa using h2
        have hV0 := fun W => Valid nm W
        rw [h0] at hV0
        have hV1 := fun W => Valid fn W
        rw [h1] at hV1
        have hw2 := fun W => within ar 0 16 W
        rw [h2] at hw2
        rw [h0, h1, h2]
        go_enter Tryz.func260, Tryz.ntmps260
        go_wp2_with fail
        refine (hV0 _).mono ?_
        rintro e w1 ⟨rfl, hb1⟩
        have hz : w.heap.size + 1 < w1.heap.size := by have := hb1.size; simp at this; omega
        obtain ⟨hA, hR, hb⟩ := two_box (f := ⟨5, i, g, nm, fn, ar, by_, bt⟩) (v := .slice p n c) hb1
        have HA := Lib.hid hA
        have HR := Lib.hid hR
        obtain ⟨a0, a1, a2, a3, a4, a5, a6, a7, a8, az⟩ := hA
        obtain ⟨r0, r1, r2, r3, r4, r5, r6, r7, r8, rz⟩ := hR
        clear hb1
        dsimp only [zeroF, nilV] at a0 a1 a2 a3 a4 a5 a6 a7 a8 r0 r1 r2 r3 r4 r5 r6 r7 r8
        go_wp2_with fail
        refine (hV1 _).mono ?_
        rintro e w2 ⟨rfl, hb2⟩
        have hA := HA.out.below hb2 (by omega)
        have hR := HR.out.below hb2 (by omega)
        have hz : w.heap.size + 1 < w2.heap.size := by have := hb2.size; omega
        have hb := hb.trans (hb2.mono (by omega))
        clear hb2 a0 a1 a2 a3 a4 a5 a6 a7 a8 az r0 r1 r2 r3 r4 r5 r6 r7 r8 rz
        have HA := Lib.hid hA
        have HR := Lib.hid hR
        obtain ⟨a0, a1, a2, a3, a4, a5, a6, a7, a8, az⟩ := hA
        obtain ⟨r0, r1, r2, r3, r4, r5, r6, r7, r8, rz⟩ := hR
        dsimp only [zeroF, nilV] at a0 a1 a2 a3 a4 a5 a6 a7 a8 r0 r1 r2 r3 r4 r5 r6 r7 r8
        go_wp2_with fail
        refine (hw2 _).mono ?_
        rintro e w' ⟨rfl, rfl⟩
        go_wp2_with fail
        exact bodyPost_ret (v := (.tuple #[.agg #[.int .i64 5, .int .i64 i, .int .i64 g, .string ⟨#[]⟩, .string ⟨#[]⟩, .int .i64 0, Value.slice p n c, .string by_, .int .i64 bt], .bool false])) (by simp [results, Tryz.results260, go_sem, *]) rfl ⟨by simp, by (repeat' (first | with_reducible exact hb | with_reducible exact Below.refl _ _ | with_reducible exact Nat.le_refl _ | with_reducible refine Below.setCell ?_ ?_ _ | with_reducible refine Below.alloc ?_ ?_ _ | (simp; done) | (simp; omega)))⟩
    · have h1 : (vName fn) = false := by simpa using h1
      have hV0 := fun W => Valid nm W
      rw [h0] at hV0
      have hV1 := fun W => Valid fn W
      rw [h1] at hV1
      rw [h0, h1]
      go_enter Tryz.func260, Tryz.ntmps260
      go_wp2_with fail
      refine (hV0 _).mono ?_
      rintro e w1 ⟨rfl, hb1⟩
      have hz : w.heap.size + 1 < w1.heap.size := by have := hb1.size; simp at this; omega
      obtain ⟨hA, hR, hb⟩ := two_box (f := ⟨5, i, g, nm, fn, ar, by_, bt⟩) (v := .slice p n c) hb1
      have HA := Lib.hid hA
      have HR := Lib.hid hR
      obtain ⟨a0, a1, a2, a3, a4, a5, a6, a7, a8, az⟩ := hA
      obtain ⟨r0, r1, r2, r3, r4, r5, r6, r7, r8, rz⟩ := hR
      clear hb1
      dsimp only [zeroF, nilV] at a0 a1 a2 a3 a4 a5 a6 a7 a8 r0 r1 r2 r3 r4 r5 r6 r7 r8
      go_wp2_with fail
      refine (hV1 _).mono ?_
      rintro e w2 ⟨rfl, hb2⟩
      have hA := HA.out.below hb2 (by omega)
      have hR := HR.out.below hb2 (by omega)
      have hz : w.heap.size + 1 < w2.heap.size := by have := hb2.size; omega
      have hb := hb.trans (hb2.mono (by omega))
      clear hb2 a0 a1 a2 a3 a4 a5 a6 a7 a8 az r0 r1 r2 r3 r4 r5 r6 r7 r8 rz
      have HA := Lib.hid hA
      have HR := Lib.hid hR
      obtain ⟨a0, a1, a2, a3, a4, a5, a6, a7, a8, az⟩ := hA
      obtain ⟨r0, r1, r2, r3, r4, r5, r6, r7, r8, rz⟩ := hR
      dsimp only [zeroF, nilV] at a0 a1 a2 a3 a4 a5 a6 a7 a8 r0 r1 r2 r3 r4 r5 r6 r7 r8
      go_wp2_with fail
      exact bodyPost_ret (v := (.tuple #[.agg #[.int .i64 5, .int .i64 i, .int .i64 g, .string ⟨#[]⟩, .string ⟨#[]⟩, .int .i64 0, Value.slice p n c, .string by_, .int .i64 bt], .bool false])) (by simp [results, Tryz.results260, go_sem, *]) rfl ⟨by simp, by (repeat' (first | with_reducible exact hb | with_reducible exact Below.refl _ _ | with_reducible exact Nat.le_refl _ | with_reducible refine Below.setCell ?_ ?_ _ | with_reducible refine Below.alloc ?_ ?_ _ | (simp; done) | (simp; omega)))⟩
  · have h0 : (vName nm) = false := by simpa using h0
    have hV0 := fun W => Valid nm W
    rw [h0] at hV0
    rw [h0]
    go_enter Tryz.func260, Tryz.ntmps260
    go_wp2_with fail
    refine (hV0 _).mono ?_
    rintro e w1 ⟨rfl, hb1⟩
    have hz : w.heap.size + 1 < w1.heap.size := by have := hb1.size; simp at this; omega
    obtain ⟨hA, hR, hb⟩ := two_box (f := ⟨5, i, g, nm, fn, ar, by_, bt⟩) (v := .slice p n c) hb1
    have HA := Lib.hid hA
    have HR := Lib.hid hR
    obtain ⟨a0, a1, a2, a3, a4, a5, a6, a7, a8, az⟩ := hA
    obtain ⟨r0, r1, r2, r3, r4, r5, r6, r7, r8, rz⟩ := hR
    clear hb1
    dsimp only [zeroF, nilV] at a0 a1 a2 a3 a4 a5 a6 a7 a8 r0 r1 r2 r3 r4 r5 r6 r7 r8
    go_wp2_with fail
    exact bodyPost_ret (v := (.tuple #[.agg #[.int .i64 5, .int .i64 i, .int .i64 g, .string ⟨#[]⟩, .string ⟨#[]⟩, .int .i64 0, Value.slice p n c, .string by_, .int .i64 bt], .bool false])) (by simp [results, Tryz.results260, go_sem, *]) rfl ⟨by simp, by (repeat' (first | with_reducible exact hb | with_reducible exact Below.refl _ _ | with_reducible exact Nat.le_refl _ | with_reducible refine Below.setCell ?_ ?_ _ | with_reducible refine Below.alloc ?_ ?_ _ | (simp; done) | (simp; omega)))⟩
theorem kindTuple (i g : Int) (nm fn : ByteArray) (ar : Int) (by_ : ByteArray) (bt : Int) (p : Option Addr) (n c : Nat) (last : Int) (w : World) (hn : n ≤ c) (hc : c ≤ 9223372036854775807) : Calls Tryz.prog 261 #[aggV ⟨7, i, g, nm, fn, ar, by_, bt⟩ (.slice p n c)] w (KPost ⟨7, i, g, nm, fn, ar, by_, bt⟩ (.slice p n c) n last w) := by
  have hb : bareF ⟨7, i, g, nm, fn, ar, by_, bt⟩ = ⟨7, i, g, nm, fn, ar, by_, bt⟩ := by simp [bareF]
  have hv : bareV ⟨7, i, g, nm, fn, ar, by_, bt⟩ (.slice p n c) = Value.slice none 0 0 := by simp [bareV, nilV]
  have ho : okF ⟨7, i, g, nm, fn, ar, by_, bt⟩ n last = (decide (n ≤ 255)) := by simp [okF]
  unfold KPost
  rw [hb, hv, ho]
  unfold aggV
  dsimp only
  clear hb hv ho
  by_cases h0 : (decide (n ≤ 255)) = true
  · have q0 : (n : Int) ≤ 255 := by have := of_decide_eq_true h0; omega
    rw [h0]
    go_enter Tryz.func261, Tryz.ntmps261
    go_wp2_with fail
    exact bodyPost_ret (v := (.tuple #[.agg #[.int .i64 7, .int .i64 i, .int .i64 g, .string nm, .string fn, .int .i64 ar, Value.slice none 0 0, .string by_, .int .i64 bt], .bool true])) (by simp [results, Tryz.results261, go_sem, *]) rfl ⟨by simp, by (repeat' (first | with_reducible exact hb | with_reducible exact Below.refl _ _ | with_reducible exact Nat.le_refl _ | with_reducible refine Below.setCell ?_ ?_ _ | with_reducible refine Below.alloc ?_ ?_ _ | (simp; done) | (simp; omega)))⟩
  · have h0 : (decide (n ≤ 255)) = false := by simpa using h0
    have q0 : (255 : Int) < (n : Int) := by have := of_decide_eq_false h0; omega
    rw [h0]
    go_enter Tryz.func261, Tryz.ntmps261
    go_wp2_with fail
    exact bodyPost_ret (v := (.tuple #[.agg #[.int .i64 7, .int .i64 i, .int .i64 g, .string nm, .string fn, .int .i64 ar, Value.slice none 0 0, .string by_, .int .i64 bt], .bool false])) (by simp [results, Tryz.results261, go_sem, *]) rfl ⟨by simp, by (repeat' (first | with_reducible exact hb | with_reducible exact Below.refl _ _ | with_reducible exact Nat.le_refl _ | with_reducible refine Below.setCell ?_ ?_ _ | with_reducible refine Below.alloc ?_ ?_ _ | (simp; done) | (simp; omega)))⟩
theorem kindNil (i g : Int) (nm fn : ByteArray) (ar : Int) (by_ : ByteArray) (bt : Int) (p : Option Addr) (n c : Nat) (last : Int) (w : World) (hn : n ≤ c) (hc : c ≤ 9223372036854775807) : Calls Tryz.prog 262 #[aggV ⟨8, i, g, nm, fn, ar, by_, bt⟩ (.slice p n c)] w (KPost ⟨8, i, g, nm, fn, ar, by_, bt⟩ (.slice p n c) n last w) := by
  have hb : bareF ⟨8, i, g, nm, fn, ar, by_, bt⟩ = ⟨8, i, g, nm, fn, ar, by_, bt⟩ := by simp [bareF]
  have hv : bareV ⟨8, i, g, nm, fn, ar, by_, bt⟩ (.slice p n c) = Value.slice p n c := by simp [bareV, nilV]
  have ho : okF ⟨8, i, g, nm, fn, ar, by_, bt⟩ n last = (true) := by simp [okF]
  unfold KPost
  rw [hb, hv, ho]
  unfold aggV
  dsimp only
  clear hb hv ho
  go_enter Tryz.func262, Tryz.ntmps262
  go_wp2_with fail
  exact bodyPost_ret (v := (.tuple #[.agg #[.int .i64 8, .int .i64 i, .int .i64 g, .string nm, .string fn, .int .i64 ar, Value.slice p n c, .string by_, .int .i64 bt], .bool true])) (by simp [results, Tryz.results262, go_sem, *]) rfl ⟨by simp, by (repeat' (first | with_reducible exact hb | with_reducible exact Below.refl _ _ | with_reducible exact Nat.le_refl _ | with_reducible refine Below.setCell ?_ ?_ _ | with_reducible refine Below.alloc ?_ ?_ _ | (simp; done) | (simp; omega)))⟩
end Go.Proofs.YtpnlnbolhkcnjaaGreat.tm
