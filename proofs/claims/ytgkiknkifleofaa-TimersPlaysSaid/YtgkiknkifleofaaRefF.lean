/- One step on both wheels. Conditions: both lie in memory. -/
import Derived.Test.YtgkiknkifleofaaRefE
namespace Go.Proofs.Ytgkiknkifleofaa.tm
open Go.RowKit mem TP
set_option linter.unusedVariables false
set_option linter.unusedSimpArgs false
set_option maxHeartbeats 1000000
set_option maxRecDepth 100000
section
variable {w0 w : World} {b r n c : Nat} {A : List TD} {F G : Nat → Prop} {p : Option Addr}
theorem stepDrop (h : Pair w0 w b r A n F A p c G) (due id : Int) : Calls Try.prog 22 #[.pointer (some ⟨b, 0, none⟩), .pointer (some ⟨r, 0, none⟩), .agg #[.int .i64 1, .int .i64 due, .int .i64 id]] w (StepPost w0 b r n) := by
  have h1 := h.on ((Below.refl w.heap.size w).alloc (Nat.le_refl _) (.cells #[.int .i64 1, .int .i64 due, .int .i64 id] 38))
  have hz1 : ¬ F w.heap.size := fun e => by have := h.st.whl.lt _ e; omega
  have hz2 : ¬ G w.heap.size := fun e => by have := h.rf.lt _ e; omega
  have hzs : w.heap.size < (w.alloc (.cells #[.int .i64 1, .int .i64 due, .int .i64 id] 38)).heap.size := by simp
  have hh := (MapKept.heap_alloc w (.cells #[.int .i64 1, .int .i64 due, .int .i64 id] 38)).1
  have k0 : (w.alloc (.cells #[.int .i64 1, .int .i64 due, .int .i64 id] 38)).cell? ⟨w.heap.size, 0, none⟩ = some (.int .i64 1) := by simp only [World.cell?, hh]; simp
  have k1 : (w.alloc (.cells #[.int .i64 1, .int .i64 due, .int .i64 id] 38)).cell? ⟨w.heap.size, 1, none⟩ = some (.int .i64 due) := by simp only [World.cell?, hh]; simp
  have k2 : (w.alloc (.cells #[.int .i64 1, .int .i64 due, .int .i64 id] 38)).cell? ⟨w.heap.size, 2, none⟩ = some (.int .i64 id) := by simp only [World.cell?, hh]; simp
  have hG := h.st.whl.good
  clear h hh
  go_enter Try.func22, Try.ntmps22
  go_wp2_with fail
  generalize w.alloc (.cells #[.int .i64 1, .int .i64 due, .int .i64 id] 38) = w1 at *
  generalize w.heap.size = z at *
  have HG := Lib.hid hG; clear hG
  refine (SDrop h1.st id).mono ?_
  rintro e w2 ⟨rfl, hs⟩
  have q1 : w2.cell? ⟨z, 2, none⟩ = some (.int .i64 id) := (hs.touch.cell (p := ⟨z, 2, none⟩) hzs hz1).trans k2
  have h2 := h1.step hs
  clear hs h1 k0 k1 k2
  go_wp2_with fail
  refine (RDrop h2.rf HG.out.ids id).mono ?_
  rintro e w3 ⟨rfl, hR⟩
  obtain ⟨p', c', G', hP, hT⟩ := h2.ref hR
  have hfin : StepPost w0 b r n (.returned (.bool true)) w3 := ⟨rfl, _, _, _, _, _, _, hP, Nat.le_refl _⟩
  clear hP hR h2 q1
  go_wp2_with fail
  go_ret
  exact hfin
theorem stepTake (h : Pair w0 w b r A n F A p c G) (due id : Int) : Calls Try.prog 22 #[.pointer (some ⟨b, 0, none⟩), .pointer (some ⟨r, 0, none⟩), .agg #[.int .i64 2, .int .i64 due, .int .i64 id]] w (StepPost w0 b r n) := by
  have h1 := h.on ((Below.refl w.heap.size w).alloc (Nat.le_refl _) (.cells #[.int .i64 2, .int .i64 due, .int .i64 id] 38))
  have hz1 : ¬ F w.heap.size := fun e => by have := h.st.whl.lt _ e; omega
  have hz2 : ¬ G w.heap.size := fun e => by have := h.rf.lt _ e; omega
  have hzs : w.heap.size < (w.alloc (.cells #[.int .i64 2, .int .i64 due, .int .i64 id] 38)).heap.size := by simp
  have hh := (MapKept.heap_alloc w (.cells #[.int .i64 2, .int .i64 due, .int .i64 id] 38)).1
  have k0 : (w.alloc (.cells #[.int .i64 2, .int .i64 due, .int .i64 id] 38)).cell? ⟨w.heap.size, 0, none⟩ = some (.int .i64 2) := by simp only [World.cell?, hh]; simp
  have k1 : (w.alloc (.cells #[.int .i64 2, .int .i64 due, .int .i64 id] 38)).cell? ⟨w.heap.size, 1, none⟩ = some (.int .i64 due) := by simp only [World.cell?, hh]; simp
  have k2 : (w.alloc (.cells #[.int .i64 2, .int .i64 due, .int .i64 id] 38)).cell? ⟨w.heap.size, 2, none⟩ = some (.int .i64 id) := by simp only [World.cell?, hh]; simp
  have hG := h.st.whl.good
  clear h hh
  go_enter Try.func22, Try.ntmps22
  go_wp2_with fail
  generalize w.alloc (.cells #[.int .i64 2, .int .i64 due, .int .i64 id] 38) = w1 at *
  generalize w.heap.size = z at *
  have HG := Lib.hid hG; clear hG
  refine (STake h1.st due).mono ?_
  rintro e w2 ⟨rfl, hs⟩
  have q1 : w2.cell? ⟨z, 1, none⟩ = some (.int .i64 due) := (hs.touch.cell (p := ⟨z, 1, none⟩) hzs hz1).trans k1
  have h2 := h1.step hs
  clear hs h1 k0 k1 k2
  go_wp2_with fail
  refine (RTake h2.rf HG.out.ids due).mono ?_
  rintro e w3 ⟨rfl, hR⟩
  obtain ⟨p', c', G', hP, hT⟩ := h2.ref hR
  have hfin : StepPost w0 b r n (.returned (.bool true)) w3 := ⟨rfl, _, _, _, _, _, _, hP, Nat.le_refl _⟩
  clear hP hR h2 q1
  go_wp2_with fail
  go_ret
  exact hfin
theorem stepDue (h : Pair w0 w b r A n F A p c G) (due id : Int) : Calls Try.prog 22 #[.pointer (some ⟨b, 0, none⟩), .pointer (some ⟨r, 0, none⟩), .agg #[.int .i64 3, .int .i64 due, .int .i64 id]] w (StepPost w0 b r n) := by
  have h1 := h.on ((Below.refl w.heap.size w).alloc (Nat.le_refl _) (.cells #[.int .i64 3, .int .i64 due, .int .i64 id] 38))
  have hz1 : ¬ F w.heap.size := fun e => by have := h.st.whl.lt _ e; omega
  have hz2 : ¬ G w.heap.size := fun e => by have := h.rf.lt _ e; omega
  have hzs : w.heap.size < (w.alloc (.cells #[.int .i64 3, .int .i64 due, .int .i64 id] 38)).heap.size := by simp
  have hh := (MapKept.heap_alloc w (.cells #[.int .i64 3, .int .i64 due, .int .i64 id] 38)).1
  have k0 : (w.alloc (.cells #[.int .i64 3, .int .i64 due, .int .i64 id] 38)).cell? ⟨w.heap.size, 0, none⟩ = some (.int .i64 3) := by simp only [World.cell?, hh]; simp
  have k1 : (w.alloc (.cells #[.int .i64 3, .int .i64 due, .int .i64 id] 38)).cell? ⟨w.heap.size, 1, none⟩ = some (.int .i64 due) := by simp only [World.cell?, hh]; simp
  have k2 : (w.alloc (.cells #[.int .i64 3, .int .i64 due, .int .i64 id] 38)).cell? ⟨w.heap.size, 2, none⟩ = some (.int .i64 id) := by simp only [World.cell?, hh]; simp
  have hG := h.st.whl.good
  clear h hh
  go_enter Try.func22, Try.ntmps22
  go_wp2_with fail
  generalize w.alloc (.cells #[.int .i64 3, .int .i64 due, .int .i64 id] 38) = w1 at *
  generalize w.heap.size = z at *
  refine (SDue h1.st id).mono ?_
  rintro e w2 ⟨rfl, rfl⟩
  go_wp2_with fail
  refine (RDue h1.rf hG.ids id).mono ?_
  rintro e w3 ⟨rfl, rfl⟩
  have hfin : StepPost w0 b r n (.returned (.bool true)) w1 := ⟨rfl, _, _, _, _, _, _, h1, Nat.le_refl _⟩
  clear h1 k0 k1 k2
  go_wp2_with fail
  go_ret
  exact hfin
theorem stepLook (h : Pair w0 w b r A n F A p c G) {kd : Int} (hk : kd ≠ 0 ∧ kd ≠ 1 ∧ kd ≠ 2 ∧ kd ≠ 3) (due id : Int) : Calls Try.prog 22 #[.pointer (some ⟨b, 0, none⟩), .pointer (some ⟨r, 0, none⟩), .agg #[.int .i64 kd, .int .i64 due, .int .i64 id]] w (StepPost w0 b r n) := by
  have h1 := h.on ((Below.refl w.heap.size w).alloc (Nat.le_refl _) (.cells #[.int .i64 kd, .int .i64 due, .int .i64 id] 38))
  have hz1 : ¬ F w.heap.size := fun e => by have := h.st.whl.lt _ e; omega
  have hz2 : ¬ G w.heap.size := fun e => by have := h.rf.lt _ e; omega
  have hzs : w.heap.size < (w.alloc (.cells #[.int .i64 kd, .int .i64 due, .int .i64 id] 38)).heap.size := by simp
  have hh := (MapKept.heap_alloc w (.cells #[.int .i64 kd, .int .i64 due, .int .i64 id] 38)).1
  have k0 : (w.alloc (.cells #[.int .i64 kd, .int .i64 due, .int .i64 id] 38)).cell? ⟨w.heap.size, 0, none⟩ = some (.int .i64 kd) := by simp only [World.cell?, hh]; simp
  have k1 : (w.alloc (.cells #[.int .i64 kd, .int .i64 due, .int .i64 id] 38)).cell? ⟨w.heap.size, 1, none⟩ = some (.int .i64 due) := by simp only [World.cell?, hh]; simp
  have k2 : (w.alloc (.cells #[.int .i64 kd, .int .i64 due, .int .i64 id] 38)).cell? ⟨w.heap.size, 2, none⟩ = some (.int .i64 id) := by simp only [World.cell?, hh]; simp
  have hG := h.st.whl.good
  clear h hh
  have hd0 : (kd == 0) = false := by simp [hk.1]
  have hd1 : (kd == 1) = false := by simp [hk.2.1]
  have hd2 : (kd == 2) = false := by simp [hk.2.2.1]
  have hd3 : (kd == 3) = false := by simp [hk.2.2.2]
  clear hk
  go_enter Try.func22, Try.ntmps22
  go_wp2_with fail
  generalize w.alloc (.cells #[.int .i64 kd, .int .i64 due, .int .i64 id] 38) = w1 at *
  generalize w.heap.size = z at *
  refine (SFirst h1.st).mono ?_
  rintro e w2 ⟨rfl, rfl⟩
  go_wp2_with fail
  refine (RFirst h1.rf).mono ?_
  rintro e w3 ⟨rfl, rfl⟩
  clear k0 k1 k2 hz1 hz2 hzs
  go_wp2_with fail
  have h2 : Pair w0 w1.drew b r A n F A p c G := h1.drewN 1
  have c0 : w1.drew.cell? ⟨r, 0, none⟩ = some (.slice p A.length c) := h2.rf.c0.1
  have hrl : r < w1.drew.heap.size := h2.rf.lt r h2.rf.inb
  have hqq : (((A.length : Nat) : Int) == ((A.length : Nat) : Int)) = true := by simp
  go_region_held3 (fun w' => w'.cell? ⟨r, 0, none⟩ = some (.slice p A.length c)) (go_keep)
    (first
      | (go_at_call 16; refine (SLen h2.st).mono ?_; rintro e w2 ⟨rfl, rfl⟩)
      | (go_at_call 14; refine (SList h2.st).mono ?_; rintro e w3 ⟨v3, rfl, hi3, ho3, hb3, hS3⟩; have q1 := (hb3.cell (p := ⟨r, 0, none⟩) hrl).trans c0)
      | (go_at_call 35; refine (RList (h2.on hb3).rf).mono ?_; rintro e w4 ⟨v4, rfl, hr4, hb4⟩; have q2 := (hb4.cell (p := ⟨r, 0, none⟩) (Nat.lt_of_lt_of_le hrl hb3.size)).trans q1)
      | (go_at_call 13; refine (same (hi3.below hb4 (Nat.le_refl _)) (ids_at hr4)).mono ?_; rintro e w5 ⟨rfl, q, rfl⟩; rw [decide_eq_true rfl]; have q5 : (w4.drewN q).cell? ⟨r, 0, none⟩ = some (.slice p A.length c) := q2))
  have hfin : StepPost w0 b r n (.returned (.bool true)) (w4.drewN q) := ⟨rfl, _, _, _, _, _, _, ((h2.on hb3).on hb4).drewN q, Nat.le_refl _⟩
  clear h1 h2 hi3 ho3 hb3 hS3 hr4 hb4
  go_wp2_with fail
  go_ret
  exact hfin
end
end Go.Proofs.Ytgkiknkifleofaa.tm
