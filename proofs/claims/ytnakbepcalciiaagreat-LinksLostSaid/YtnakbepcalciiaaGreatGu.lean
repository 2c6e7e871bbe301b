/- Several texts in one, one behind the other: LkR. No condition beyond theirs. -/
import Derived.Test.YtnakbepcalciiaaGreatGt
/- New; a monitor as others know it; monitors of a watcher and of a target. Conditions: as said. -/
namespace Go.Proofs.YtnakbepcalciiaaGreat.lk
open Go.RowKit mem rec tm names pm
set_option linter.unusedVariables false
set_option linter.unusedSimpArgs false
set_option maxHeartbeats 4000000
set_option maxRecDepth 100000
def newB (node : ByteArray) (gen : Int) : Bool := vName node && (decide (1 ≤ gen) && decide (gen ≤ 2147483647))
def NewP (node : ByteArray) (gen : Int) (w : World) (e : Ending) (w' : World) : Prop :=
  Below w.heap.size w w' ∧ ((newB node gen = false ∧ e = .returned (.tuple #[.pointer none, .int .i64 2])) ∨ (newB node gen = true ∧ ∃ z mh mm, e = .returned (.tuple #[.pointer (some ⟨z, 0, none⟩), .int .i64 0]) ∧ LkAt w' z mh mm ⟨node, gen, 0, [], []⟩ ∧ w.heap.size ≤ z ∧ w.heap.size ≤ mh ∧ w.heap.size ≤ mm))
theorem new15 (node : ByteArray) (gen : Int) (w : World) : Calls Tryz.prog 15 #[.string node, .int .i64 gen] w (NewP node gen w) := by
  have HV := Lib.hid (names.Valid node w)
  have HE : Hid (newB node gen = (vName node && (decide (1 ≤ gen) && decide (gen ≤ 2147483647)))) := Lib.hid rfl
  generalize vName node = r at *
  go_enter Tryz.func15, Tryz.ntmps15
  go_wp2_with fail
  refine HV.out.mono ?_
  rintro e w1 ⟨rfl, hb⟩
  have HB := Lib.hid hb
  clear hb HV
  cases r
  · go_wp2_with fail
    go_ret2
    exact ⟨HB.out, .inl ⟨by rw [HE.out]; rfl, rfl⟩⟩
  · by_cases h1 : 1 ≤ gen
    · by_cases h2 : gen ≤ 2147483647
      · have q1 : decide (gen < 1) = false := decide_eq_false (by omega)
        have q2 : decide (2147483647 < gen) = false := decide_eq_false (by omega)
        have HE2 : Hid (newB node gen = true) := Lib.hid (by rw [HE.out, decide_eq_true h1, decide_eq_true h2]; rfl)
        have hm1 := MapR.made prV w1
        have hm2 := MapR.made idV (w1.alloc (.map #[] 0))
        have hmm := @run_makeMap Tryz.prog
        clear h1 h2 hm1 hm2
        go_wp2_with fail
        have hb1 := belowA (Below.refl w1.heap.size w1) (.map #[] 0) (Nat.le_refl _)
        have hb2 := belowA (Below.refl (w1.alloc (.map #[] 0)).heap.size _) (.map #[] 0) (Nat.le_refl _)
        have hb3 := belowA (Below.refl ((w1.alloc (.map #[] 0)).alloc (.map #[] 0)).heap.size _) (.cells #[.string node, .int .i64 gen, .int .i64 0, .map (some w1.heap.size), .map (some (w1.heap.size + 1))] 85) (Nat.le_refl _)
        have s1 : (w1.alloc (.map #[] 0)).heap.size = w1.heap.size + 1 := World.size_alloc _ _
        have s2 : ((w1.alloc (.map #[] 0)).alloc (.map #[] 0)).heap.size = w1.heap.size + 1 + 1 := by rw [World.size_alloc, s1]
        have m1 := MapR.made prV w1
        have m2 := MapR.made idV (w1.alloc (.map #[] 0))
        rw [s1] at m2
        have n1 := (m1.same (hb2.block _ (by rw [s1]; omega))).same (hb3.block _ (by rw [s2]; omega))
        have n2 := m2.same (hb3.block _ (by rw [s2]; omega))
        have n3 := alloc_new ((w1.alloc (.map #[] 0)).alloc (.map #[] 0)) (.cells #[.string node, .int .i64 gen, .int .i64 0, .map (some w1.heap.size), .map (some (w1.heap.size + 1))] 85)
        rw [s2] at n3
        have h0 := HB.out.size
        have hb4 := (hb1.trans (hb2.mono (by omega))).trans (hb3.mono (by omega))
        go_ret2
        exact ⟨HB.out.trans (hb4.mono HB.out.size), .inr ⟨HE2.out, w1.heap.size + 1 + 1, w1.heap.size, w1.heap.size + 1, rfl, ⟨n3, n1, n2, by omega⟩, by omega, by omega, by omega⟩⟩
      · have q1 : decide (gen < 1) = false := decide_eq_false (by omega)
        have q2 : decide (2147483647 < gen) = true := decide_eq_true (by omega)
        have HE2 : Hid (newB node gen = false) := Lib.hid (by rw [HE.out, decide_eq_false h2]; simp)
        clear h1 h2
        go_wp2_with fail
        go_ret2
        exact ⟨HB.out, .inl ⟨HE2.out, rfl⟩⟩
    · have q1 : decide (gen < 1) = true := decide_eq_true (by omega)
      have HE2 : Hid (newB node gen = false) := Lib.hid (by rw [HE.out, decide_eq_false h1]; simp)
      clear h1
      go_wp2_with fail
      go_ret2
      exact ⟨HB.out, .inl ⟨HE2.out, rfl⟩⟩
theorem cells27 {w : World} {z : Nat} {a0 a1 a2 a3 a4 a5 a6 a7 a8 a9 a10 a11 a12 a13 a14 a15 a16 a17 a18 a19 a20 a21 a22 a23 a24 a25 a26 : Value} {t : TypeId} (hh : w.heap[z]? = some (.cells #[a0, a1, a2, a3, a4, a5, a6, a7, a8, a9, a10, a11, a12, a13, a14, a15, a16, a17, a18, a19, a20, a21, a22, a23, a24, a25, a26] t)) : w.cell? ⟨z, 0, none⟩ = some a0 ∧ w.cell? ⟨z, 1, none⟩ = some a1 ∧ w.cell? ⟨z, 2, none⟩ = some a2 ∧ w.cell? ⟨z, 3, none⟩ = some a3 ∧ w.cell? ⟨z, 4, none⟩ = some a4 ∧ w.cell? ⟨z, 5, none⟩ = some a5 ∧ w.cell? ⟨z, 6, none⟩ = some a6 ∧ w.cell? ⟨z, 7, none⟩ = some a7 ∧ w.cell? ⟨z, 8, none⟩ = some a8 ∧ w.cell? ⟨z, 9, none⟩ = some a9 ∧ w.cell? ⟨z, 10, none⟩ = some a10 ∧ w.cell? ⟨z, 11, none⟩ = some a11 ∧ w.cell? ⟨z, 12, none⟩ = some a12 ∧ w.cell? ⟨z, 13, none⟩ = some a13 ∧ w.cell? ⟨z, 14, none⟩ = some a14 ∧ w.cell? ⟨z, 15, none⟩ = some a15 ∧ w.cell? ⟨z, 16, none⟩ = some a16 ∧ w.cell? ⟨z, 17, none⟩ = some a17 ∧ w.cell? ⟨z, 18, none⟩ = some a18 ∧ w.cell? ⟨z, 19, none⟩ = some a19 ∧ w.cell? ⟨z, 20, none⟩ = some a20 ∧ w.cell? ⟨z, 21, none⟩ = some a21 ∧ w.cell? ⟨z, 22, none⟩ = some a22 ∧ w.cell? ⟨z, 23, none⟩ = some a23 ∧ w.cell? ⟨z, 24, none⟩ = some a24 ∧ w.cell? ⟨z, 25, none⟩ = some a25 ∧ w.cell? ⟨z, 26, none⟩ = some a26 ∧ ∀ o, w.frozen? ⟨z, o, none⟩ = false := by
  refine ⟨?_, ?_, ?_, ?_, ?_, ?_, ?_, ?_, ?_, ?_, ?_, ?_, ?_, ?_, ?_, ?_, ?_, ?_, ?_, ?_, ?_, ?_, ?_, ?_, ?_, ?_, ?_, fun o => ?_⟩
  · simp only [World.cell?, hh]; rfl
  · simp only [World.cell?, hh]; rfl
  · simp only [World.cell?, hh]; rfl
  · simp only [World.cell?, hh]; rfl
  · simp only [World.cell?, hh]; rfl
  · simp only [World.cell?, hh]; rfl
  · simp only [World.cell?, hh]; rfl
  · simp only [World.cell?, hh]; rfl
  · simp only [World.cell?, hh]; rfl
  · simp only [World.cell?, hh]; rfl
  · simp only [World.cell?, hh]; rfl
  · simp only [World.cell?, hh]; rfl
  · simp only [World.cell?, hh]; rfl
  · simp only [World.cell?, hh]; rfl
  · simp only [World.cell?, hh]; rfl
  · simp only [World.cell?, hh]; rfl
  · simp only [World.cell?, hh]; rfl
  · simp only [World.cell?, hh]; rfl
  · simp only [World.cell?, hh]; rfl
  · simp only [World.cell?, hh]; rfl
  · simp only [World.cell?, hh]; rfl
  · simp only [World.cell?, hh]; rfl
  · simp only [World.cell?, hh]; rfl
  · simp only [World.cell?, hh]; rfl
  · simp only [World.cell?, hh]; rfl
  · simp only [World.cell?, hh]; rfl
  · simp only [World.cell?, hh]; rfl
  · simp only [World.frozen?, hh]; simp
def mnTL (m : Mn) : List Value := idTL m.1 ++ idTL m.2.1 ++ idTL m.2.2
theorem mnTL_len (m : Mn) : (mnTL m).length = 27 := rfl
theorem mnTL_one (m : Mn) : ∀ u ∈ mnTL m, u.oneCell' = true := fun u hu => by
  rcases List.mem_append.1 hu with h | h
  · rcases List.mem_append.1 h with h | h
    · exact idTL_one _ u h
    · exact idTL_one _ u h
  · exact idTL_one _ u h
theorem sets27 {B : Nat} {w0 w : World} {g : Nat} (h : Below B w0 w) (hg : B ≤ g) (a0 a1 a2 a3 a4 a5 a6 a7 a8 a9 a10 a11 a12 a13 a14 a15 a16 a17 a18 a19 a20 a21 a22 a23 a24 a25 a26 : Value) : Below B w0 (((((((((((((((((((((((((((w.setCell ⟨g, 0, none⟩ (a0)).setCell ⟨g, 1, none⟩ (a1)).setCell ⟨g, 2, none⟩ (a2)).setCell ⟨g, 3, none⟩ (a3)).setCell ⟨g, 4, none⟩ (a4)).setCell ⟨g, 5, none⟩ (a5)).setCell ⟨g, 6, none⟩ (a6)).setCell ⟨g, 7, none⟩ (a7)).setCell ⟨g, 8, none⟩ (a8)).setCell ⟨g, 9, none⟩ (a9)).setCell ⟨g, 10, none⟩ (a10)).setCell ⟨g, 11, none⟩ (a11)).setCell ⟨g, 12, none⟩ (a12)).setCell ⟨g, 13, none⟩ (a13)).setCell ⟨g, 14, none⟩ (a14)).setCell ⟨g, 15, none⟩ (a15)).setCell ⟨g, 16, none⟩ (a16)).setCell ⟨g, 17, none⟩ (a17)).setCell ⟨g, 18, none⟩ (a18)).setCell ⟨g, 19, none⟩ (a19)).setCell ⟨g, 20, none⟩ (a20)).setCell ⟨g, 21, none⟩ (a21)).setCell ⟨g, 22, none⟩ (a22)).setCell ⟨g, 23, none⟩ (a23)).setCell ⟨g, 24, none⟩ (a24)).setCell ⟨g, 25, none⟩ (a25)).setCell ⟨g, 26, none⟩ (a26)) := by
  have h0 := h.setCell (p := ⟨g, 0, none⟩) hg a0
  have h1 := h0.setCell (p := ⟨g, 1, none⟩) hg a1
  have h2 := h1.setCell (p := ⟨g, 2, none⟩) hg a2
  have h3 := h2.setCell (p := ⟨g, 3, none⟩) hg a3
  have h4 := h3.setCell (p := ⟨g, 4, none⟩) hg a4
  have h5 := h4.setCell (p := ⟨g, 5, none⟩) hg a5
  have h6 := h5.setCell (p := ⟨g, 6, none⟩) hg a6
  have h7 := h6.setCell (p := ⟨g, 7, none⟩) hg a7
  have h8 := h7.setCell (p := ⟨g, 8, none⟩) hg a8
  have h9 := h8.setCell (p := ⟨g, 9, none⟩) hg a9
  have h10 := h9.setCell (p := ⟨g, 10, none⟩) hg a10
  have h11 := h10.setCell (p := ⟨g, 11, none⟩) hg a11
  have h12 := h11.setCell (p := ⟨g, 12, none⟩) hg a12
  have h13 := h12.setCell (p := ⟨g, 13, none⟩) hg a13
  have h14 := h13.setCell (p := ⟨g, 14, none⟩) hg a14
  have h15 := h14.setCell (p := ⟨g, 15, none⟩) hg a15
  have h16 := h15.setCell (p := ⟨g, 16, none⟩) hg a16
  have h17 := h16.setCell (p := ⟨g, 17, none⟩) hg a17
  have h18 := h17.setCell (p := ⟨g, 18, none⟩) hg a18
  have h19 := h18.setCell (p := ⟨g, 19, none⟩) hg a19
  have h20 := h19.setCell (p := ⟨g, 20, none⟩) hg a20
  have h21 := h20.setCell (p := ⟨g, 21, none⟩) hg a21
  have h22 := h21.setCell (p := ⟨g, 22, none⟩) hg a22
  have h23 := h22.setCell (p := ⟨g, 23, none⟩) hg a23
  have h24 := h23.setCell (p := ⟨g, 24, none⟩) hg a24
  have h25 := h24.setCell (p := ⟨g, 25, none⟩) hg a25
  have h26 := h25.setCell (p := ⟨g, 26, none⟩) hg a26
  exact h26
theorem chain27 (w : World) (g : Nat) (a0 a1 a2 a3 a4 a5 a6 a7 a8 a9 a10 a11 a12 a13 a14 a15 a16 a17 a18 a19 a20 a21 a22 a23 a24 a25 a26 : Value) {k : Nat} (h : k ≠ g) : (((((((((((((((((((((((((((w.setCell ⟨g, 0, none⟩ (a0)).setCell ⟨g, 1, none⟩ (a1)).setCell ⟨g, 2, none⟩ (a2)).setCell ⟨g, 3, none⟩ (a3)).setCell ⟨g, 4, none⟩ (a4)).setCell ⟨g, 5, none⟩ (a5)).setCell ⟨g, 6, none⟩ (a6)).setCell ⟨g, 7, none⟩ (a7)).setCell ⟨g, 8, none⟩ (a8)).setCell ⟨g, 9, none⟩ (a9)).setCell ⟨g, 10, none⟩ (a10)).setCell ⟨g, 11, none⟩ (a11)).setCell ⟨g, 12, none⟩ (a12)).setCell ⟨g, 13, none⟩ (a13)).setCell ⟨g, 14, none⟩ (a14)).setCell ⟨g, 15, none⟩ (a15)).setCell ⟨g, 16, none⟩ (a16)).setCell ⟨g, 17, none⟩ (a17)).setCell ⟨g, 18, none⟩ (a18)).setCell ⟨g, 19, none⟩ (a19)).setCell ⟨g, 20, none⟩ (a20)).setCell ⟨g, 21, none⟩ (a21)).setCell ⟨g, 22, none⟩ (a22)).setCell ⟨g, 23, none⟩ (a23)).setCell ⟨g, 24, none⟩ (a24)).setCell ⟨g, 25, none⟩ (a25)).setCell ⟨g, 26, none⟩ (a26)).heap[k]? = w.heap[k]? := by
  rw [Below.heap_setCell _ _ _ _ h]
  rw [Below.heap_setCell _ _ _ _ h]
  rw [Below.heap_setCell _ _ _ _ h]
  rw [Below.heap_setCell _ _ _ _ h]
  rw [Below.heap_setCell _ _ _ _ h]
  rw [Below.heap_setCell _ _ _ _ h]
  rw [Below.heap_setCell _ _ _ _ h]
  rw [Below.heap_setCell _ _ _ _ h]
  rw [Below.heap_setCell _ _ _ _ h]
  rw [Below.heap_setCell _ _ _ _ h]
  rw [Below.heap_setCell _ _ _ _ h]
  rw [Below.heap_setCell _ _ _ _ h]
  rw [Below.heap_setCell _ _ _ _ h]
  rw [Below.heap_setCell _ _ _ _ h]
  rw [Below.heap_setCell _ _ _ _ h]
  rw [Below.heap_setCell _ _ _ _ h]
  rw [Below.heap_setCell _ _ _ _ h]
  rw [Below.heap_setCell _ _ _ _ h]
  rw [Below.heap_setCell _ _ _ _ h]
  rw [Below.heap_setCell _ _ _ _ h]
  rw [Below.heap_setCell _ _ _ _ h]
  rw [Below.heap_setCell _ _ _ _ h]
  rw [Below.heap_setCell _ _ _ _ h]
  rw [Below.heap_setCell _ _ _ _ h]
  rw [Below.heap_setCell _ _ _ _ h]
  rw [Below.heap_setCell _ _ _ _ h]
  rw [Below.heap_setCell _ _ _ _ h]
theorem keep27 {w : World} {g z : Nat} {a0 a1 a2 a3 a4 a5 a6 a7 a8 a9 a10 a11 a12 a13 a14 a15 a16 a17 a18 a19 a20 a21 a22 a23 a24 a25 a26 : Value} {b0 b1 b2 b3 b4 b5 b6 b7 b8 b9 b10 b11 : Value} (h : z ≠ g) (hc : w.cell? ⟨z, 0, none⟩ = some b0 ∧ w.cell? ⟨z, 1, none⟩ = some b1 ∧ w.cell? ⟨z, 2, none⟩ = some b2 ∧ w.cell? ⟨z, 3, none⟩ = some b3 ∧ w.cell? ⟨z, 4, none⟩ = some b4 ∧ w.cell? ⟨z, 5, none⟩ = some b5 ∧ w.cell? ⟨z, 6, none⟩ = some b6 ∧ w.cell? ⟨z, 7, none⟩ = some b7 ∧ w.cell? ⟨z, 8, none⟩ = some b8 ∧ w.cell? ⟨z, 9, none⟩ = some b9 ∧ w.cell? ⟨z, 10, none⟩ = some b10 ∧ w.cell? ⟨z, 11, none⟩ = some b11) : (((((((((((((((((((((((((((w.setCell ⟨g, 0, none⟩ (a0)).setCell ⟨g, 1, none⟩ (a1)).setCell ⟨g, 2, none⟩ (a2)).setCell ⟨g, 3, none⟩ (a3)).setCell ⟨g, 4, none⟩ (a4)).setCell ⟨g, 5, none⟩ (a5)).setCell ⟨g, 6, none⟩ (a6)).setCell ⟨g, 7, none⟩ (a7)).setCell ⟨g, 8, none⟩ (a8)).setCell ⟨g, 9, none⟩ (a9)).setCell ⟨g, 10, none⟩ (a10)).setCell ⟨g, 11, none⟩ (a11)).setCell ⟨g, 12, none⟩ (a12)).setCell ⟨g, 13, none⟩ (a13)).setCell ⟨g, 14, none⟩ (a14)).setCell ⟨g, 15, none⟩ (a15)).setCell ⟨g, 16, none⟩ (a16)).setCell ⟨g, 17, none⟩ (a17)).setCell ⟨g, 18, none⟩ (a18)).setCell ⟨g, 19, none⟩ (a19)).setCell ⟨g, 20, none⟩ (a20)).setCell ⟨g, 21, none⟩ (a21)).setCell ⟨g, 22, none⟩ (a22)).setCell ⟨g, 23, none⟩ (a23)).setCell ⟨g, 24, none⟩ (a24)).setCell ⟨g, 25, none⟩ (a25)).setCell ⟨g, 26, none⟩ (a26)).cell? ⟨z, 0, none⟩ = some b0 ∧ (((((((((((((((((((((((((((w.setCell ⟨g, 0, none⟩ (a0)).setCell ⟨g, 1, none⟩ (a1)).setCell ⟨g, 2, none⟩ (a2)).setCell ⟨g, 3, none⟩ (a3)).setCell ⟨g, 4, none⟩ (a4)).setCell ⟨g, 5, none⟩ (a5)).setCell ⟨g, 6, none⟩ (a6)).setCell ⟨g, 7, none⟩ (a7)).setCell ⟨g, 8, none⟩ (a8)).setCell ⟨g, 9, none⟩ (a9)).setCell ⟨g, 10, none⟩ (a10)).setCell ⟨g, 11, none⟩ (a11)).setCell ⟨g, 12, none⟩ (a12)).setCell ⟨g, 13, none⟩ (a13)).setCell ⟨g, 14, none⟩ (a14)).setCell ⟨g, 15, none⟩ (a15)).setCell ⟨g, 16, none⟩ (a16)).setCell ⟨g, 17, none⟩ (a17)).setCell ⟨g, 18, none⟩ (a18)).setCell ⟨g, 19, none⟩ (a19)).setCell ⟨g, 20, none⟩ (a20)).setCell ⟨g, 21, none⟩ (a21)).setCell ⟨g, 22, none⟩ (a22)).setCell ⟨g, 23, none⟩ (a23)).setCell ⟨g, 24, none⟩ (a24)).setCell ⟨g, 25, none⟩ (a25)).setCell ⟨g, 26, none⟩ (a26)).cell? ⟨z, 1, none⟩ = some b1 ∧ (((((((((((((((((((((((((((w.setCell ⟨g, 0, none⟩ (a0)).setCell ⟨g, 1, none⟩ (a1)).setCell ⟨g, 2, none⟩ (a2)).setCell ⟨g, 3, none⟩ (a3)).setCell ⟨g, 4, none⟩ (a4)).setCell ⟨g, 5, none⟩ (a5)).setCell ⟨g, 6, none⟩ (a6)).setCell ⟨g, 7, none⟩ (a7)).setCell ⟨g, 8, none⟩ (a8)).setCell ⟨g, 9, none⟩ (a9)).setCell ⟨g, 10, none⟩ (a10)).setCell ⟨g, 11, none⟩ (a11)).setCell ⟨g, 12, none⟩ (a12)).setCell ⟨g, 13, none⟩ (a13)).setCell ⟨g, 14, none⟩ (a14)).setCell ⟨g, 15, none⟩ (a15)).setCell ⟨g, 16, none⟩ (a16)).setCell ⟨g, 17, none⟩ (a17)).setCell ⟨g, 18, none⟩ (a18)).setCell ⟨g, 19, none⟩ (a19)).setCell ⟨g, 20, none⟩ (a20)).setCell ⟨g, 21, none⟩ (a21)).setCell ⟨g, 22, none⟩ (a22)).setCell ⟨g, 23, none⟩ (a23)).setCell ⟨g, 24, none⟩ (a24)).setCell ⟨g, 25, none⟩ (a25)).setCell ⟨g, 26, none⟩ (a26)).cell? ⟨z, 2, none⟩ = some b2 ∧ (((((((((((((((((((((((((((w.setCell ⟨g, 0, none⟩ (a0)).setCell ⟨g, 1, none⟩ (a1)).setCell ⟨g, 2, none⟩ (a2)).setCell ⟨g, 3, none⟩ (a3)).setCell ⟨g, 4, none⟩ (a4)).setCell ⟨g, 5, none⟩ (a5)).setCell ⟨g, 6, none⟩ (a6)).setCell ⟨g, 7, none⟩ (a7)).setCell ⟨g, 8, none⟩ (a8)).setCell ⟨g, 9, none⟩ (a9)).setCell ⟨g, 10, none⟩ (a10)).setCell ⟨g, 11, none⟩ (a11)).setCell ⟨g, 12, none⟩ (a12)).setCell ⟨g, 13, none⟩ (a13)).setCell ⟨g, 14, none⟩ (a14)).setCell ⟨g, 15, none⟩ (a15)).setCell ⟨g, 16, none⟩ (a16)).setCell ⟨g, 17, none⟩ (a17)).setCell ⟨g, 18, none⟩ (a18)).setCell ⟨g, 19, none⟩ (a19)).setCell ⟨g, 20, none⟩ (a20)).setCell ⟨g, 21, none⟩ (a21)).setCell ⟨g, 22, none⟩ (a22)).setCell ⟨g, 23, none⟩ (a23)).setCell ⟨g, 24, none⟩ (a24)).setCell ⟨g, 25, none⟩ (a25)).setCell ⟨g, 26, none⟩ (a26)).cell? ⟨z, 3, none⟩ = some b3 ∧ (((((((((((((((((((((((((((w.setCell ⟨g, 0, none⟩ (a0)).setCell ⟨g, 1, none⟩ (a1)).setCell ⟨g, 2, none⟩ (a2)).setCell ⟨g, 3, none⟩ (a3)).setCell ⟨g, 4, none⟩ (a4)).setCell ⟨g, 5, none⟩ (a5)).setCell ⟨g, 6, none⟩ (a6)).setCell ⟨g, 7, none⟩ (a7)).setCell ⟨g, 8, none⟩ (a8)).setCell ⟨g, 9, none⟩ (a9)).setCell ⟨g, 10, none⟩ (a10)).setCell ⟨g, 11, none⟩ (a11)).setCell ⟨g, 12, none⟩ (a12)).setCell ⟨g, 13, none⟩ (a13)).setCell ⟨g, 14, none⟩ (a14)).setCell ⟨g, 15, none⟩ (a15)).setCell ⟨g, 16, none⟩ (a16)).setCell ⟨g, 17, none⟩ (a17)).setCell ⟨g, 18, none⟩ (a18)).setCell ⟨g, 19, none⟩ (a19)).setCell ⟨g, 20, none⟩ (a20)).setCell ⟨g, 21, none⟩ (a21)).setCell ⟨g, 22, none⟩ (a22)).setCell ⟨g, 23, none⟩ (a23)).setCell ⟨g, 24, none⟩ (a24)).setCell ⟨g, 25, none⟩ (a25)).setCell ⟨g, 26, none⟩ (a26)).cell? ⟨z, 4, none⟩ = some b4 ∧ (((((((((((((((((((((((((((w.setCell ⟨g, 0, none⟩ (a0)).setCell ⟨g, 1, none⟩ (a1)).setCell ⟨g, 2, none⟩ (a2)).setCell ⟨g, 3, none⟩ (a3)).setCell ⟨g, 4, none⟩ (a4)).setCell ⟨g, 5, none⟩ (a5)).setCell ⟨g, 6, none⟩ (a6)).setCell ⟨g, 7, none⟩ (a7)).setCell ⟨g, 8, none⟩ (a8)).setCell ⟨g, 9, none⟩ (a9)).setCell ⟨g, 10, none⟩ (a10)).setCell ⟨g, 11, none⟩ (a11)).setCell ⟨g, 12, none⟩ (a12)).setCell ⟨g, 13, none⟩ (a13)).setCell ⟨g, 14, none⟩ (a14)).setCell ⟨g, 15, none⟩ (a15)).setCell ⟨g, 16, none⟩ (a16)).setCell ⟨g, 17, none⟩ (a17)).setCell ⟨g, 18, none⟩ (a18)).setCell ⟨g, 19, none⟩ (a19)).setCell ⟨g, 20, none⟩ (a20)).setCell ⟨g, 21, none⟩ (a21)).setCell ⟨g, 22, none⟩ (a22)).setCell ⟨g, 23, none⟩ (a23)).setCell ⟨g, 24, none⟩ (a24)).setCell ⟨g, 25, none⟩ (a25)).setCell ⟨g, 26, none⟩ (a26)).cell? ⟨z, 5, none⟩ = some b5 ∧ (((((((((((((((((((((((((((w.setCell ⟨g, 0, none⟩ (a0)).setCell ⟨g, 1, none⟩ (a1)).setCell ⟨g, 2, none⟩ (a2)).setCell ⟨g, 3, none⟩ (a3)).setCell ⟨g, 4, none⟩ (a4)).setCell ⟨g, 5, none⟩ (a5)).setCell ⟨g, 6, none⟩ (a6)).setCell ⟨g, 7, none⟩ (a7)).setCell ⟨g, 8, none⟩ (a8)).setCell ⟨g, 9, none⟩ (a9)).setCell ⟨g, 10, none⟩ (a10)).setCell ⟨g, 11, none⟩ (a11)).setCell ⟨g, 12, none⟩ (a12)).setCell ⟨g, 13, none⟩ (a13)).setCell ⟨g, 14, none⟩ (a14)).setCell ⟨g, 15, none⟩ (a15)).setCell ⟨g, 16, none⟩ (a16)).setCell ⟨g, 17, none⟩ (a17)).setCell ⟨g, 18, none⟩ (a18)).setCell ⟨g, 19, none⟩ (a19)).setCell ⟨g, 20, none⟩ (a20)).setCell ⟨g, 21, none⟩ (a21)).setCell ⟨g, 22, none⟩ (a22)).setCell ⟨g, 23, none⟩ (a23)).setCell ⟨g, 24, none⟩ (a24)).setCell ⟨g, 25, none⟩ (a25)).setCell ⟨g, 26, none⟩ (a26)).cell? ⟨z, 6, none⟩ = some b6 ∧ (((((((((((((((((((((((((((w.setCell ⟨g, 0, none⟩ (a0)).setCell ⟨g, 1, none⟩ (a1)).setCell ⟨g, 2, none⟩ (a2)).setCell ⟨g, 3, none⟩ (a3)).setCell ⟨g, 4, none⟩ (a4)).setCell ⟨g, 5, none⟩ (a5)).setCell ⟨g, 6, none⟩ (a6)).setCell ⟨g, 7, none⟩ (a7)).setCell ⟨g, 8, none⟩ (a8)).setCell ⟨g, 9, none⟩ (a9)).setCell ⟨g, 10, none⟩ (a10)).setCell ⟨g, 11, none⟩ (a11)).setCell ⟨g, 12, none⟩ (a12)).setCell ⟨g, 13, none⟩ (a13)).setCell ⟨g, 14, none⟩ (a14)).setCell ⟨g, 15, none⟩ (a15)).setCell ⟨g, 16, none⟩ (a16)).setCell ⟨g, 17, none⟩ (a17)).setCell ⟨g, 18, none⟩ (a18)).setCell ⟨g, 19, none⟩ (a19)).setCell ⟨g, 20, none⟩ (a20)).setCell ⟨g, 21, none⟩ (a21)).setCell ⟨g, 22, none⟩ (a22)).setCell ⟨g, 23, none⟩ (a23)).setCell ⟨g, 24, none⟩ (a24)).setCell ⟨g, 25, none⟩ (a25)).setCell ⟨g, 26, none⟩ (a26)).cell? ⟨z, 7, none⟩ = some b7 ∧ (((((((((((((((((((((((((((w.setCell ⟨g, 0, none⟩ (a0)).setCell ⟨g, 1, none⟩ (a1)).setCell ⟨g, 2, none⟩ (a2)).setCell ⟨g, 3, none⟩ (a3)).setCell ⟨g, 4, none⟩ (a4)).setCell ⟨g, 5, none⟩ (a5)).setCell ⟨g, 6, none⟩ (a6)).setCell ⟨g, 7, none⟩ (a7)).setCell ⟨g, 8, none⟩ (a8)).setCell ⟨g, 9, none⟩ (a9)).setCell ⟨g, 10, none⟩ (a10)).setCell ⟨g, 11, none⟩ (a11)).setCell ⟨g, 12, none⟩ (a12)).setCell ⟨g, 13, none⟩ (a13)).setCell ⟨g, 14, none⟩ (a14)).setCell ⟨g, 15, none⟩ (a15)).setCell ⟨g, 16, none⟩ (a16)).setCell ⟨g, 17, none⟩ (a17)).setCell ⟨g, 18, none⟩ (a18)).setCell ⟨g, 19, none⟩ (a19)).setCell ⟨g, 20, none⟩ (a20)).setCell ⟨g, 21, none⟩ (a21)).setCell ⟨g, 22, none⟩ (a22)).setCell ⟨g, 23, none⟩ (a23)).setCell ⟨g, 24, none⟩ (a24)).setCell ⟨g, 25, none⟩ (a25)).setCell ⟨g, 26, none⟩ (a26)).cell? ⟨z, 8, none⟩ = some b8 ∧ (((((((((((((((((((((((((((w.setCell ⟨g, 0, none⟩ (a0)).setCell ⟨g, 1, none⟩ (a1)).setCell ⟨g, 2, none⟩ (a2)).setCell ⟨g, 3, none⟩ (a3)).setCell ⟨g, 4, none⟩ (a4)).setCell ⟨g, 5, none⟩ (a5)).setCell ⟨g, 6, none⟩ (a6)).setCell ⟨g, 7, none⟩ (a7)).setCell ⟨g, 8, none⟩ (a8)).setCell ⟨g, 9, none⟩ (a9)).setCell ⟨g, 10, none⟩ (a10)).setCell ⟨g, 11, none⟩ (a11)).setCell ⟨g, 12, none⟩ (a12)).setCell ⟨g, 13, none⟩ (a13)).setCell ⟨g, 14, none⟩ (a14)).setCell ⟨g, 15, none⟩ (a15)).setCell ⟨g, 16, none⟩ (a16)).setCell ⟨g, 17, none⟩ (a17)).setCell ⟨g, 18, none⟩ (a18)).setCell ⟨g, 19, none⟩ (a19)).setCell ⟨g, 20, none⟩ (a20)).setCell ⟨g, 21, none⟩ (a21)).setCell ⟨g, 22, none⟩ (a22)).setCell ⟨g, 23, none⟩ (a23)).setCell ⟨g, 24, none⟩ (a24)).setCell ⟨g, 25, none⟩ (a25)).setCell ⟨g, 26, none⟩ (a26)).cell? ⟨z, 9, none⟩ = some b9 ∧ (((((((((((((((((((((((((((w.setCell ⟨g, 0, none⟩ (a0)).setCell ⟨g, 1, none⟩ (a1)).setCell ⟨g, 2, none⟩ (a2)).setCell ⟨g, 3, none⟩ (a3)).setCell ⟨g, 4, none⟩ (a4)).setCell ⟨g, 5, none⟩ (a5)).setCell ⟨g, 6, none⟩ (a6)).setCell ⟨g, 7, none⟩ (a7)).setCell ⟨g, 8, none⟩ (a8)).setCell ⟨g, 9, none⟩ (a9)).setCell ⟨g, 10, none⟩ (a10)).setCell ⟨g, 11, none⟩ (a11)).setCell ⟨g, 12, none⟩ (a12)).setCell ⟨g, 13, none⟩ (a13)).setCell ⟨g, 14, none⟩ (a14)).setCell ⟨g, 15, none⟩ (a15)).setCell ⟨g, 16, none⟩ (a16)).setCell ⟨g, 17, none⟩ (a17)).setCell ⟨g, 18, none⟩ (a18)).setCell ⟨g, 19, none⟩ (a19)).setCell ⟨g, 20, none⟩ (a20)).setCell ⟨g, 21, none⟩ (a21)).setCell ⟨g, 22, none⟩ (a22)).setCell ⟨g, 23, none⟩ (a23)).setCell ⟨g, 24, none⟩ (a24)).setCell ⟨g, 25, none⟩ (a25)).setCell ⟨g, 26, none⟩ (a26)).cell? ⟨z, 10, none⟩ = some b10 ∧ (((((((((((((((((((((((((((w.setCell ⟨g, 0, none⟩ (a0)).setCell ⟨g, 1, none⟩ (a1)).setCell ⟨g, 2, none⟩ (a2)).setCell ⟨g, 3, none⟩ (a3)).setCell ⟨g, 4, none⟩ (a4)).setCell ⟨g, 5, none⟩ (a5)).setCell ⟨g, 6, none⟩ (a6)).setCell ⟨g, 7, none⟩ (a7)).setCell ⟨g, 8, none⟩ (a8)).setCell ⟨g, 9, none⟩ (a9)).setCell ⟨g, 10, none⟩ (a10)).setCell ⟨g, 11, none⟩ (a11)).setCell ⟨g, 12, none⟩ (a12)).setCell ⟨g, 13, none⟩ (a13)).setCell ⟨g, 14, none⟩ (a14)).setCell ⟨g, 15, none⟩ (a15)).setCell ⟨g, 16, none⟩ (a16)).setCell ⟨g, 17, none⟩ (a17)).setCell ⟨g, 18, none⟩ (a18)).setCell ⟨g, 19, none⟩ (a19)).setCell ⟨g, 20, none⟩ (a20)).setCell ⟨g, 21, none⟩ (a21)).setCell ⟨g, 22, none⟩ (a22)).setCell ⟨g, 23, none⟩ (a23)).setCell ⟨g, 24, none⟩ (a24)).setCell ⟨g, 25, none⟩ (a25)).setCell ⟨g, 26, none⟩ (a26)).cell? ⟨z, 11, none⟩ = some b11 := by
  have e : ∀ x, (((((((((((((((((((((((((((w.setCell ⟨g, 0, none⟩ (a0)).setCell ⟨g, 1, none⟩ (a1)).setCell ⟨g, 2, none⟩ (a2)).setCell ⟨g, 3, none⟩ (a3)).setCell ⟨g, 4, none⟩ (a4)).setCell ⟨g, 5, none⟩ (a5)).setCell ⟨g, 6, none⟩ (a6)).setCell ⟨g, 7, none⟩ (a7)).setCell ⟨g, 8, none⟩ (a8)).setCell ⟨g, 9, none⟩ (a9)).setCell ⟨g, 10, none⟩ (a10)).setCell ⟨g, 11, none⟩ (a11)).setCell ⟨g, 12, none⟩ (a12)).setCell ⟨g, 13, none⟩ (a13)).setCell ⟨g, 14, none⟩ (a14)).setCell ⟨g, 15, none⟩ (a15)).setCell ⟨g, 16, none⟩ (a16)).setCell ⟨g, 17, none⟩ (a17)).setCell ⟨g, 18, none⟩ (a18)).setCell ⟨g, 19, none⟩ (a19)).setCell ⟨g, 20, none⟩ (a20)).setCell ⟨g, 21, none⟩ (a21)).setCell ⟨g, 22, none⟩ (a22)).setCell ⟨g, 23, none⟩ (a23)).setCell ⟨g, 24, none⟩ (a24)).setCell ⟨g, 25, none⟩ (a25)).setCell ⟨g, 26, none⟩ (a26)).cell? ⟨z, x, none⟩ = w.cell? ⟨z, x, none⟩ := fun x => World.cell?_of_block (a := ⟨z, x, none⟩) (chain27 w g a0 a1 a2 a3 a4 a5 a6 a7 a8 a9 a10 a11 a12 a13 a14 a15 a16 a17 a18 a19 a20 a21 a22 a23 a24 a25 a26 h)
  obtain ⟨h0, h1, h2, h3, h4, h5, h6, h7, h8, h9, h10, h11⟩ := hc
  exact ⟨(e 0).trans h0, (e 1).trans h1, (e 2).trans h2, (e 3).trans h3, (e 4).trans h4, (e 5).trans h5, (e 6).trans h6, (e 7).trans h7, (e 8).trans h8, (e 9).trans h9, (e 10).trans h10, (e 11).trans h11⟩
theorem storeBig {W : World} {g t : Nat} {old cells : Array Value} {ty : Nat} (hg : W.heap[g]? = some (.cells old t)) (hi : (Tryz.prog.info? ty).map (·.size) = some cells.size) (ho : old.size = cells.size) (h1 : ∀ v ∈ cells.toList, v.oneCell' = true) : ∃ W', (storeVar ty ⟨g, 0, none⟩ (.agg cells)).run Tryz.prog W = .ok () W' ∧ W'.heap[g]? = some (.cells cells t) ∧ TouchB (fun i => i = g) W W' ∧ W'.heap.size = W.heap.size :=
  ⟨W.setRow g cells, run_storeVar_row W g t ty old cells hg hi ho (Array.all_eq_true_iff_forall_mem.2 fun v hv => h1 v (by simpa using hv)), setRow_heap W g old _ t (0, 0) hg, ⟨rfl, rfl, rfl, by simp, fun k hk hn => by simp [World.setRow, Array.getElem?_modify, show ¬ g = k from fun e => hn e.symm]⟩, by simp⟩
theorem api92 (m : Mn) (w : World) : Calls Tryz.prog 92 #[mnV m] w fun e w' => e = .returned (.agg (mnTL m).toArray) ∧ Below w.heap.size w w' := by
  obtain ⟨⟨x1, x2, x3, x4⟩, ⟨y1, y2, y3, y4⟩, ⟨v1, v2, v3, v4⟩⟩ := m
  have HT := Lib.hid (fun W a b c d => term83 (a, b, c, d) W)
  have hx := alloc_new w (.cells #[.int .i64 x1, .string x2, .int .i64 x3, .int .i64 x4, .int .i64 y1, .string y2, .int .i64 y3, .int .i64 y4, .int .i64 v1, .string v2, .int .i64 v3, .int .i64 v4] 162)
  have hb1 := belowA (Below.refl w.heap.size w) (.cells #[.int .i64 x1, .string x2, .int .i64 x3, .int .i64 x4, .int .i64 y1, .string y2, .int .i64 y3, .int .i64 y4, .int .i64 v1, .string v2, .int .i64 v3, .int .i64 v4] 162) (Nat.le_refl _)
  have hl : w.heap.size < (w.alloc (.cells #[.int .i64 x1, .string x2, .int .i64 x3, .int .i64 x4, .int .i64 y1, .string y2, .int .i64 y3, .int .i64 y4, .int .i64 v1, .string v2, .int .i64 v3, .int .i64 v4] 162)).heap.size := by rw [World.size_alloc]; omega
  have hb2 := belowA hb1 (.cells #[.int .i64 0, .int .i64 0, .int .i64 0, .string ⟨#[]⟩, .string ⟨#[]⟩, .int .i64 0, .slice none 0 0, .string ⟨#[]⟩, .int .i64 0, .int .i64 0, .int .i64 0, .int .i64 0, .string ⟨#[]⟩, .string ⟨#[]⟩, .int .i64 0, .slice none 0 0, .string ⟨#[]⟩, .int .i64 0, .int .i64 0, .int .i64 0, .int .i64 0, .string ⟨#[]⟩, .string ⟨#[]⟩, .int .i64 0, .slice none 0 0, .string ⟨#[]⟩, .int .i64 0] 47) hb1.size
  have hx2 := (Below.heap_alloc (w.alloc (.cells #[.int .i64 x1, .string x2, .int .i64 x3, .int .i64 x4, .int .i64 y1, .string y2, .int .i64 y3, .int .i64 y4, .int .i64 v1, .string v2, .int .i64 v3, .int .i64 v4] 162)) (.cells #[.int .i64 0, .int .i64 0, .int .i64 0, .string ⟨#[]⟩, .string ⟨#[]⟩, .int .i64 0, .slice none 0 0, .string ⟨#[]⟩, .int .i64 0, .int .i64 0, .int .i64 0, .int .i64 0, .string ⟨#[]⟩, .string ⟨#[]⟩, .int .i64 0, .slice none 0 0, .string ⟨#[]⟩, .int .i64 0, .int .i64 0, .int .i64 0, .int .i64 0, .string ⟨#[]⟩, .string ⟨#[]⟩, .int .i64 0, .slice none 0 0, .string ⟨#[]⟩, .int .i64 0] 47) w.heap.size hl).trans hx
  have hz := alloc_new (w.alloc (.cells #[.int .i64 x1, .string x2, .int .i64 x3, .int .i64 x4, .int .i64 y1, .string y2, .int .i64 y3, .int .i64 y4, .int .i64 v1, .string v2, .int .i64 v3, .int .i64 v4] 162)) (.cells #[.int .i64 0, .int .i64 0, .int .i64 0, .string ⟨#[]⟩, .string ⟨#[]⟩, .int .i64 0, .slice none 0 0, .string ⟨#[]⟩, .int .i64 0, .int .i64 0, .int .i64 0, .int .i64 0, .string ⟨#[]⟩, .string ⟨#[]⟩, .int .i64 0, .slice none 0 0, .string ⟨#[]⟩, .int .i64 0, .int .i64 0, .int .i64 0, .int .i64 0, .string ⟨#[]⟩, .string ⟨#[]⟩, .int .i64 0, .slice none 0 0, .string ⟨#[]⟩, .int .i64 0] 47)
  rw [World.size_alloc] at hz
  have hs2 : ((w.alloc (.cells #[.int .i64 x1, .string x2, .int .i64 x3, .int .i64 x4, .int .i64 y1, .string y2, .int .i64 y3, .int .i64 y4, .int .i64 v1, .string v2, .int .i64 v3, .int .i64 v4] 162)).alloc (.cells #[.int .i64 0, .int .i64 0, .int .i64 0, .string ⟨#[]⟩, .string ⟨#[]⟩, .int .i64 0, .slice none 0 0, .string ⟨#[]⟩, .int .i64 0, .int .i64 0, .int .i64 0, .int .i64 0, .string ⟨#[]⟩, .string ⟨#[]⟩, .int .i64 0, .slice none 0 0, .string ⟨#[]⟩, .int .i64 0, .int .i64 0, .int .i64 0, .int .i64 0, .string ⟨#[]⟩, .string ⟨#[]⟩, .int .i64 0, .slice none 0 0, .string ⟨#[]⟩, .int .i64 0] 47)).heap.size = w.heap.size + 2 := by rw [World.size_alloc, World.size_alloc]
  change Calls Tryz.prog 92 #[.agg #[.int .i64 x1, .string x2, .int .i64 x3, .int .i64 x4, .int .i64 y1, .string y2, .int .i64 y3, .int .i64 y4, .int .i64 v1, .string v2, .int .i64 v3, .int .i64 v4]] w fun e w' => e = .returned (.agg #[.int .i64 x1, .int .i64 x4, .int .i64 x3, .string x2, .string ⟨#[]⟩, .int .i64 0, .slice none 0 0, .string ⟨#[]⟩, .int .i64 0, .int .i64 y1, .int .i64 y4, .int .i64 y3, .string y2, .string ⟨#[]⟩, .int .i64 0, .slice none 0 0, .string ⟨#[]⟩, .int .i64 0, .int .i64 v1, .int .i64 v4, .int .i64 v3, .string v2, .string ⟨#[]⟩, .int .i64 0, .slice none 0 0, .string ⟨#[]⟩, .int .i64 0]) ∧ Below w.heap.size w w'
  unfold aggV idT idV nilV at HT
  dsimp only at HT
  have HB := Lib.hid hb2
  have HS := Lib.hid hs2
  clear hx hl hb1 hb2 hs2
  go_enter Tryz.func92, Tryz.ntmps92
  go_upto_region 1 with (fail)
  generalize ((w.alloc (.cells #[.int .i64 x1, .string x2, .int .i64 x3, .int .i64 x4, .int .i64 y1, .string y2, .int .i64 y3, .int .i64 y4, .int .i64 v1, .string v2, .int .i64 v3, .int .i64 v4] 162)).alloc (.cells #[.int .i64 0, .int .i64 0, .int .i64 0, .string ⟨#[]⟩, .string ⟨#[]⟩, .int .i64 0, .slice none 0 0, .string ⟨#[]⟩, .int .i64 0, .int .i64 0, .int .i64 0, .int .i64 0, .string ⟨#[]⟩, .string ⟨#[]⟩, .int .i64 0, .slice none 0 0, .string ⟨#[]⟩, .int .i64 0, .int .i64 0, .int .i64 0, .int .i64 0, .string ⟨#[]⟩, .string ⟨#[]⟩, .int .i64 0, .slice none 0 0, .string ⟨#[]⟩, .int .i64 0] 47)) = W2 at *
  have HXa := Lib.hid (fun W (hW : Below W2.drew.heap.size W2.drew W) => cells12 ((hW.block w.heap.size (show w.heap.size < W2.heap.size by rw [HS.out]; omega)).trans hx2))
  have HZa := Lib.hid (fun W (hW : Below W2.drew.heap.size W2.drew W) => (hW.block (w.heap.size + 1) (show w.heap.size + 1 < W2.heap.size by rw [HS.out]; omega)).trans hz)
  have HXt := Lib.hid (fun W W' (hW : Below W2.drew.heap.size W2.drew W) (ht : TouchB (fun i => i = w.heap.size + 1) W W') => cells12 ((ht.block w.heap.size (Nat.lt_of_lt_of_le (show w.heap.size < W2.drew.heap.size by show w.heap.size < W2.heap.size; rw [HS.out]; omega) hW.size) (Nat.ne_of_lt (Nat.lt_succ_self _))).trans ((hW.block w.heap.size (show w.heap.size < W2.heap.size by rw [HS.out]; omega)).trans hx2)))
  have HOne : Hid ((#[.int .i64 x1, .int .i64 x4, .int .i64 x3, .string x2, .string ⟨#[]⟩, .int .i64 0, .slice none 0 0, .string ⟨#[]⟩, .int .i64 0, .int .i64 y1, .int .i64 y4, .int .i64 y3, .string y2, .string ⟨#[]⟩, .int .i64 0, .slice none 0 0, .string ⟨#[]⟩, .int .i64 0, .int .i64 v1, .int .i64 v4, .int .i64 v3, .string v2, .string ⟨#[]⟩, .int .i64 0, .slice none 0 0, .string ⟨#[]⟩, .int .i64 0] : Array Value).all (·.oneCell') = true) := Lib.hid (Array.all_eq_true_iff_forall_mem.2 fun v hv => mnTL_one ((x1, x2, x3, x4), (y1, y2, y3, y4), (v1, v2, v3, v4)) v (by simpa [mnTL, idTL] using hv))
  have HI : Hid ((Tryz.prog.info? 47).map (·.size) = some 27) := Lib.hid (by kernel_rfl)
  have HT' := Lib.hid (fun W (hW : Below W2.drew.heap.size W2.drew W) a b c d => HT.out W a b c d)
  have hbd : Below W2.drew.heap.size W2.drew W2.drew := Below.refl _ _
  have HB2 : Hid (Below w.heap.size w W2.drew) := Lib.hid (belowD HB.out)
  obtain ⟨p0, p1, p2, p3, p4, p5, p6, p7, p8, p9, p10, p11, xf⟩ := cells12 hx2
  have hne27 : w.heap.size ≠ w.heap.size + 1 := Nat.ne_of_lt (Nat.lt_succ_self _)
  clear hx2 hz HS HT
  refine wp_region_held_drew (S := fun w' => w'.cell? ⟨w.heap.size, 0, none⟩ = some (.int .i64 x1) ∧ w'.cell? ⟨w.heap.size, 1, none⟩ = some (.string x2) ∧ w'.cell? ⟨w.heap.size, 2, none⟩ = some (.int .i64 x3) ∧ w'.cell? ⟨w.heap.size, 3, none⟩ = some (.int .i64 x4) ∧ w'.cell? ⟨w.heap.size, 4, none⟩ = some (.int .i64 y1) ∧ w'.cell? ⟨w.heap.size, 5, none⟩ = some (.string y2) ∧ w'.cell? ⟨w.heap.size, 6, none⟩ = some (.int .i64 y3) ∧ w'.cell? ⟨w.heap.size, 7, none⟩ = some (.int .i64 y4) ∧ w'.cell? ⟨w.heap.size, 8, none⟩ = some (.int .i64 v1) ∧ w'.cell? ⟨w.heap.size, 9, none⟩ = some (.string v2) ∧ w'.cell? ⟨w.heap.size, 10, none⟩ = some (.int .i64 v3) ∧ w'.cell? ⟨w.heap.size, 11, none⟩ = some (.int .i64 v4)) (by kernel_rfl) ⟨p0, p1, p2, p3, p4, p5, p6, p7, p8, p9, p10, p11⟩ (fun hHeld => ?_)
  refine wpAnyH_take (i := 0) (v := .pointer (some ⟨w.heap.size, 0, none⟩)) (oi := { dst := some 3, op := Op.fieldAddr 162 (Operand.tmp 1) 0, type := 0, pos := "links.go:40", after := #[], guard := none }) rfl (by kernel_rfl) (by kernel_rfl) (by kernel_rfl) (fun _ _ _ h => h) (Or.inl ⟨by rfl, ?tk0⟩) (by assumption) ?rs0
  case tk0 =>
    intro w hSw
    (try dsimp only at hSw)
    go_simp
    (try with_reducible rfl)
  (try simp only [Act.put, List.setIfInBounds_toArray, List.set_cons_zero, List.set_cons_succ])
  refine wpAnyH_take (i := 1) (v := .agg #[.int .i64 x1, .string x2, .int .i64 x3, .int .i64 x4]) (oi := { dst := some 4, op := Op.load 147 (Operand.tmp 3), type := 147, pos := "links.go:40", after := #[{ on := 0, ground := Ground.data }], guard := none }) rfl (by kernel_rfl) (by kernel_rfl) (by kernel_rfl) (fun _ _ _ h => h) (Or.inl ⟨by rfl, ?tk1⟩) (by assumption) ?rs1
  case tk1 =>
    intro w hSw
    (try dsimp only at hSw)
    go_simp
    (try with_reducible rfl)
  (try simp only [Act.put, List.setIfInBounds_toArray, List.set_cons_zero, List.set_cons_succ])
  refine wpAnyH_take (i := 3) (v := .pointer (some ⟨w.heap.size, 4, none⟩)) (oi := { dst := some 6, op := Op.fieldAddr 162 (Operand.tmp 1) 1, type := 0, pos := "links.go:40", after := #[], guard := none }) rfl (by kernel_rfl) (by kernel_rfl) (by kernel_rfl) (fun _ _ _ h => h) (Or.inl ⟨by rfl, ?tk3⟩) (by assumption) ?rs3
  case tk3 =>
    intro w hSw
    (try dsimp only at hSw)
    go_simp
    (try with_reducible rfl)
  (try simp only [Act.put, List.setIfInBounds_toArray, List.set_cons_zero, List.set_cons_succ])
  refine wpAnyH_take (i := 4) (v := .agg #[.int .i64 y1, .string y2, .int .i64 y3, .int .i64 y4]) (oi := { dst := some 7, op := Op.load 147 (Operand.tmp 6), type := 147, pos := "links.go:40", after := #[{ on := 3, ground := Ground.data }], guard := none }) rfl (by kernel_rfl) (by kernel_rfl) (by kernel_rfl) (fun _ _ _ h => h) (Or.inl ⟨by rfl, ?tk4⟩) (by assumption) ?rs4
  case tk4 =>
    intro w hSw
    (try dsimp only at hSw)
    go_simp
    (try with_reducible rfl)
  (try simp only [Act.put, List.setIfInBounds_toArray, List.set_cons_zero, List.set_cons_succ])
  refine wpAnyH_take (i := 6) (v := .pointer (some ⟨w.heap.size, 8, none⟩)) (oi := { dst := some 9, op := Op.fieldAddr 162 (Operand.tmp 1) 2, type := 0, pos := "links.go:40", after := #[], guard := none }) rfl (by kernel_rfl) (by kernel_rfl) (by kernel_rfl) (fun _ _ _ h => h) (Or.inl ⟨by rfl, ?tk6⟩) (by assumption) ?rs6
  case tk6 =>
    intro w hSw
    (try dsimp only at hSw)
    go_simp
    (try with_reducible rfl)
  (try simp only [Act.put, List.setIfInBounds_toArray, List.set_cons_zero, List.set_cons_succ])
  refine wpAnyH_take (i := 7) (v := .agg #[.int .i64 v1, .string v2, .int .i64 v3, .int .i64 v4]) (oi := { dst := some 10, op := Op.load 147 (Operand.tmp 9), type := 147, pos := "links.go:40", after := #[{ on := 6, ground := Ground.data }], guard := none }) rfl (by kernel_rfl) (by kernel_rfl) (by kernel_rfl) (fun _ _ _ h => h) (Or.inl ⟨by rfl, ?tk7⟩) (by assumption) ?rs7
  case tk7 =>
    intro w hSw
    (try dsimp only at hSw)
    go_simp
    (try with_reducible rfl)
  (try simp only [Act.put, List.setIfInBounds_toArray, List.set_cons_zero, List.set_cons_succ])
  refine wpAnyH_ready (rs := [2]) (by kernel_rfl) (by simp) ?_
  refine AllReadyH.cons (o := { dst := some 5, op := Op.call { callee := Callee.value (Operand.func 83), args := #[Operand.tmp 4], argTypes := #[147] }, type := 30, pos := "links.go:40", after := #[{ on := 1, ground := Ground.data }], guard := none }) rfl (fun K hK => ?_) AllReadyH.nil
  go_simp
  refine (HT'.out _ hbd _ _ _ _).mono ?_
  rintro e w1 ⟨rfl, hb⟩
  have hbe := hbd.trans (hb.mono hbd.size)
  clear p0 p1 p2 p3 p4 p5 p6 p7 p8 p9 p10 p11 xf
  obtain ⟨p0, p1, p2, p3, p4, p5, p6, p7, p8, p9, p10, p11, xf⟩ := HXa.out _ hbe
  go_wp2_with fail
  refine hK.out _ _ ?_ (fun hHeld => ?_)
  · exact ⟨p0, p1, p2, p3, p4, p5, p6, p7, p8, p9, p10, p11⟩
  clear hK K
  (try simp only [Act.put, List.setIfInBounds_toArray, List.set_cons_zero, List.set_cons_succ])
  refine wpAnyH_ready (rs := [5]) (by kernel_rfl) (by simp) ?_
  refine AllReadyH.cons (o := { dst := some 8, op := Op.call { callee := Callee.value (Operand.func 83), args := #[Operand.tmp 7], argTypes := #[147] }, type := 30, pos := "links.go:40", after := #[{ on := 4, ground := Ground.data }, { on := 2, ground := Ground.chain }], guard := none }) rfl (fun K hK => ?_) AllReadyH.nil
  go_simp
  refine (HT'.out _ hbe _ _ _ _).mono ?_
  rintro e w2 ⟨rfl, hb2⟩
  have hbf := hbe.trans (hb2.mono hbe.size)
  clear p0 p1 p2 p3 p4 p5 p6 p7 p8 p9 p10 p11 xf
  obtain ⟨p0, p1, p2, p3, p4, p5, p6, p7, p8, p9, p10, p11, xf⟩ := HXa.out _ hbf
  go_wp2_with fail
  refine hK.out _ _ ?_ (fun hHeld => ?_)
  · exact ⟨p0, p1, p2, p3, p4, p5, p6, p7, p8, p9, p10, p11⟩
  clear hK K
  (try simp only [Act.put, List.setIfInBounds_toArray, List.set_cons_zero, List.set_cons_succ])
  refine wpAnyH_ready (rs := [8]) (by kernel_rfl) (by simp) ?_
  refine AllReadyH.cons (o := { dst := some 11, op := Op.call { callee := Callee.value (Operand.func 83), args := #[Operand.tmp 10], argTypes := #[147] }, type := 30, pos := "links.go:40", after := #[{ on := 7, ground := Ground.data }, { on := 5, ground := Ground.chain }], guard := none }) rfl (fun K hK => ?_) AllReadyH.nil
  go_simp
  refine (HT'.out _ hbf _ _ _ _).mono ?_
  rintro e w3 ⟨rfl, hb3⟩
  have hbg := hbf.trans (hb3.mono hbf.size)
  clear p0 p1 p2 p3 p4 p5 p6 p7 p8 p9 p10 p11 xf
  obtain ⟨p0, p1, p2, p3, p4, p5, p6, p7, p8, p9, p10, p11, xf⟩ := HXa.out _ hbg
  go_wp2_with fail
  refine hK.out _ _ ?_ (fun hHeld => ?_)
  · exact ⟨p0, p1, p2, p3, p4, p5, p6, p7, p8, p9, p10, p11⟩
  clear hK K
  (try simp only [Act.put, List.setIfInBounds_toArray, List.set_cons_zero, List.set_cons_succ])
  refine wpAnyH_take (i := 9) (v := .agg #[.int .i64 x1, .int .i64 x4, .int .i64 x3, .string x2, .string ⟨#[]⟩, .int .i64 0, .slice none 0 0, .string ⟨#[]⟩, .int .i64 0, .int .i64 y1, .int .i64 y4, .int .i64 y3, .string y2, .string ⟨#[]⟩, .int .i64 0, .slice none 0 0, .string ⟨#[]⟩, .int .i64 0, .int .i64 v1, .int .i64 v4, .int .i64 v3, .string v2, .string ⟨#[]⟩, .int .i64 0, .slice none 0 0, .string ⟨#[]⟩, .int .i64 0]) (oi := { dst := some 12, op := Op.build 47 #[(0, Operand.tmp 5), (1, Operand.tmp 8), (2, Operand.tmp 11)], type := 47, pos := "links.go:40", after := #[{ on := 2, ground := Ground.data }, { on := 5, ground := Ground.data }, { on := 8, ground := Ground.data }], guard := none }) rfl (by kernel_rfl) (by kernel_rfl) (by kernel_rfl) (fun _ _ _ h => h) (Or.inl ⟨by rfl, ?tk9⟩) (by assumption) ?rs9
  case tk9 =>
    intro w hSw
    (try dsimp only at hSw)
    go_simp
    (try with_reducible rfl)
  (try simp only [Act.put, List.setIfInBounds_toArray, List.set_cons_zero, List.set_cons_succ])
  refine wpAnyH_ready (rs := [10]) (by kernel_rfl) (by simp) ?_
  refine AllReadyH.cons (o := { dst := none, op := Op.store 47 (Operand.tmp 2) (Operand.tmp 12), type := 0, pos := "links.go:40", after := #[{ on := 9, ground := Ground.data }, { on := 8, ground := Ground.chain }, { on := 0, ground := Ground.phase }, { on := 1, ground := Ground.phase }, { on := 2, ground := Ground.phase }, { on := 3, ground := Ground.phase }, { on := 4, ground := Ground.phase }, { on := 5, ground := Ground.phase }, { on := 6, ground := Ground.phase }, { on := 7, ground := Ground.phase }, { on := 8, ground := Ground.phase }, { on := 9, ground := Ground.phase }], guard := none }) rfl (fun K hK => ?_) AllReadyH.nil
  rw [if_pos (by rfl)]
  refine wp_store_row 47 (.tmp 2) (.tmp 12) rfl (w.heap.size + 1) #[.int .i64 x1, .int .i64 x4, .int .i64 x3, .string x2, .string ⟨#[]⟩, .int .i64 0, .slice none 0 0, .string ⟨#[]⟩, .int .i64 0, .int .i64 y1, .int .i64 y4, .int .i64 y3, .string y2, .string ⟨#[]⟩, .int .i64 0, .slice none 0 0, .string ⟨#[]⟩, .int .i64 0, .int .i64 v1, .int .i64 v4, .int .i64 v3, .string v2, .string ⟨#[]⟩, .int .i64 0, .slice none 0 0, .string ⟨#[]⟩, .int .i64 0] rfl rfl 47 _ (HZa.out _ hbg) HI.out rfl HOne.out ?_
  have ht4 : TouchB (fun i => i = w.heap.size + 1) w3 (w3.setRow (w.heap.size + 1) #[.int .i64 x1, .int .i64 x4, .int .i64 x3, .string x2, .string ⟨#[]⟩, .int .i64 0, .slice none 0 0, .string ⟨#[]⟩, .int .i64 0, .int .i64 y1, .int .i64 y4, .int .i64 y3, .string y2, .string ⟨#[]⟩, .int .i64 0, .slice none 0 0, .string ⟨#[]⟩, .int .i64 0, .int .i64 v1, .int .i64 v4, .int .i64 v3, .string v2, .string ⟨#[]⟩, .int .i64 0, .slice none 0 0, .string ⟨#[]⟩, .int .i64 0]) := ⟨rfl, rfl, rfl, by simp, fun k hk hn => by simp [World.setRow, Array.getElem?_modify, show ¬ w.heap.size + 1 = k from fun e => hn e.symm]⟩
  have hr4 := setRow_heap w3 (w.heap.size + 1) _ #[.int .i64 x1, .int .i64 x4, .int .i64 x3, .string x2, .string ⟨#[]⟩, .int .i64 0, .slice none 0 0, .string ⟨#[]⟩, .int .i64 0, .int .i64 y1, .int .i64 y4, .int .i64 y3, .string y2, .string ⟨#[]⟩, .int .i64 0, .slice none 0 0, .string ⟨#[]⟩, .int .i64 0, .int .i64 v1, .int .i64 v4, .int .i64 v3, .string v2, .string ⟨#[]⟩, .int .i64 0, .slice none 0 0, .string ⟨#[]⟩, .int .i64 0] 47 (0, 0) (HZa.out _ hbg)
  have hX4 := HXt.out _ _ hbg ht4
  generalize w3.setRow (w.heap.size + 1) #[.int .i64 x1, .int .i64 x4, .int .i64 x3, .string x2, .string ⟨#[]⟩, .int .i64 0, .slice none 0 0, .string ⟨#[]⟩, .int .i64 0, .int .i64 y1, .int .i64 y4, .int .i64 y3, .string y2, .string ⟨#[]⟩, .int .i64 0, .slice none 0 0, .string ⟨#[]⟩, .int .i64 0, .int .i64 v1, .int .i64 v4, .int .i64 v3, .string v2, .string ⟨#[]⟩, .int .i64 0, .slice none 0 0, .string ⟨#[]⟩, .int .i64 0] = W4 at *
  clear p0 p1 p2 p3 p4 p5 p6 p7 p8 p9 p10 p11 xf
  obtain ⟨p0, p1, p2, p3, p4, p5, p6, p7, p8, p9, p10, p11, xf⟩ := hX4
  refine hK.out _ _ ?_ (fun hHeld => ?_)
  · exact ⟨p0, p1, p2, p3, p4, p5, p6, p7, p8, p9, p10, p11⟩
  clear hK K
  (try simp only [Act.put, List.setIfInBounds_toArray, List.set_cons_zero, List.set_cons_succ])
  refine wpAnyH_done (by kernel_rfl) ?_ _
  obtain ⟨z0, z1, z2, z3, z4, z5, z6, z7, z8, z9, z10, z11, z12, z13, z14, z15, z16, z17, z18, z19, z20, z21, z22, z23, z24, z25, z26, zf⟩ := cells27 hr4
  go_wp2_with fail
  (try simp only [Exit.inBlock, Exit.then])
  refine bodyPost_ret (v := .agg #[.int .i64 x1, .int .i64 x4, .int .i64 x3, .string x2, .string ⟨#[]⟩, .int .i64 0, .slice none 0 0, .string ⟨#[]⟩, .int .i64 0, .int .i64 y1, .int .i64 y4, .int .i64 y3, .string y2, .string ⟨#[]⟩, .int .i64 0, .slice none 0 0, .string ⟨#[]⟩, .int .i64 0, .int .i64 v1, .int .i64 v4, .int .i64 v3, .string v2, .string ⟨#[]⟩, .int .i64 0, .slice none 0 0, .string ⟨#[]⟩, .int .i64 0]) ?_ rfl ⟨rfl, ?_⟩
  · rw [results_cell1 rfl]
    simp only [List.getD_eq_getElem?_getD, List.getElem?_toArray, Array.getD_eq_getD_getElem?, List.getElem?_cons_succ, List.getElem?_cons_zero, Option.getD_some, asAddr, Sem.run_pure, Result.andThen_ok]
    exact run_loadVar_row W4 (w.heap.size + 1) 47 47 _ (0, 0) _ hr4 Tryz.underlying47 rfl (by kernel_rfl)
  · have hw3 := HB2.out.trans (hbg.mono HB2.out.size)
    exact hw3.trans (ht4.below (fun k hk => by rw [hk]; exact Nat.le_succ _) hw3.size)
end Go.Proofs.YtnakbepcalciiaaGreat.lk
