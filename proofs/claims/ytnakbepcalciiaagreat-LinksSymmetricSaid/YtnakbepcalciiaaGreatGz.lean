/- Several texts in one, one behind the other: LkZf. No condition beyond theirs. -/
import Derived.Test.YtnakbepcalciiaaGreatGy
import Derived.Deep.RegionHeld3
import Derived.Deep.RegionLaw
/- pass: a signal arrives. Conditions: as said. -/
namespace Go.Proofs.YtnakbepcalciiaaGreat.lk
open Go.RowKit mem rec tm names pm
set_option linter.unusedVariables false
set_option linter.unusedSimpArgs false
set_option maxHeartbeats 4000000
set_option maxRecDepth 100000
theorem f3t : pairB nmN 1 true true true pA pX = true := by decide
theorem f3u : pairB nmM 1 true true true pX pA = true := by decide
theorem pass00 {w : World} {base b z0 h0 m0 z1 h1 m1 : Nat} {v0 v1 : Value} {S0 S1 : LkSt} {q0 q1 : List Sg} (h : ProtAt w base b z0 h0 m0 z1 h1 m1 v0 v1 S0 S1 q0 q1) (he : q0 = []) :
    Calls Tryz.prog 39 #[.pointer (some ⟨b, 0, none⟩), .int .i64 0] w (fun e w' => e = .returned (.bool true) ∧ w = w') := by
  subst he
  obtain ⟨ao0, cap0, rfl, _, _⟩ := h.w0.shape
  obtain ⟨ao1, cap1, rfl, _, _⟩ := h.w1.shape
  obtain ⟨k0_, k1_, k2_, k3_, k4_, k5_, k6_, k7_, k8_, k9_, k10_, k11_, k12_, k13_, k14_, k15_, k16_, k17_, k18_, k19_, k20_, k21_, mf⟩ := cells22 h.blk
  clear h
  go_enter Tryz.func39, Tryz.ntmps39
  go_wp2_with fail
  go_ret
  exact ⟨rfl, rfl⟩
theorem pass01 {w : World} {base b z0 h0 m0 z1 h1 m1 : Nat} {v0 v1 : Value} {S0 S1 : LkSt} {q0 q1 : List Sg} (h : ProtAt w base b z0 h0 m0 z1 h1 m1 v0 v1 S0 S1 q0 q1) (he : q1 = []) :
    Calls Tryz.prog 39 #[.pointer (some ⟨b, 0, none⟩), .int .i64 1] w (fun e w' => e = .returned (.bool true) ∧ w = w') := by
  subst he
  obtain ⟨ao0, cap0, rfl, _, _⟩ := h.w0.shape
  obtain ⟨ao1, cap1, rfl, _, _⟩ := h.w1.shape
  obtain ⟨k0_, k1_, k2_, k3_, k4_, k5_, k6_, k7_, k8_, k9_, k10_, k11_, k12_, k13_, k14_, k15_, k16_, k17_, k18_, k19_, k20_, k21_, mf⟩ := cells22 h.blk
  clear h
  go_enter Tryz.func39, Tryz.ntmps39
  go_wp2_with fail
  go_ret
  exact ⟨rfl, rfl⟩
theorem pass10 {w : World} {base b z0 h0 m0 z1 h1 m1 : Nat} {v0 v1 : Value} {S0 S1 : LkSt} {q1 q' : List Sg} {n : Int} (h : ProtAt w base b z0 h0 m0 z1 h1 m1 v0 v1 S0 S1 ((1, n) :: q') q1) (hbase : base ≤ w.heap.size) (hn : S0.node = nmN ∧ S0.gen = 1) (hq : q1.length ≤ 100000) :
    Calls Tryz.prog 39 #[.pointer (some ⟨b, 0, none⟩), .int .i64 0] w (fun e w' => e = .returned (.bool true) ∧ Below b w w' ∧ ProtE w' base b z0 h0 m0 z1 h1 m1 (cameS S0 pA pX) S1 q' q1) := by
  have HC : Hid (∀ W, LkAt W z0 h0 m0 S0 → Calls Tryz.prog 41 #[.pointer (some ⟨z0, 0, none⟩), .agg #[.int .i64 6, .int .i64 1, .int .i64 1, .string ⟨#[110]⟩, .string ⟨#[]⟩, .int .i64 0, .slice none 0 0, .string ⟨#[]⟩, .int .i64 0], .agg #[.int .i64 6, .int .i64 1, .int .i64 1, .string ⟨#[109]⟩, .string ⟨#[]⟩, .int .i64 0, .slice none 0 0, .string ⟨#[]⟩, .int .i64 0]] W (fun e w' => e = .returned (.int .i64 0) ∧ LkAt w' z0 h0 m0 (cameS S0 pA pX) ∧ TouchB (LkS z0 h0 m0) W w')) := Lib.hid (fun W hW => by
    have hh := cameI hW pA pX
    rw [okA, okX, hn.1, hn.2, f3t] at hh
    exact hh)
  have H0 := Lib.hid h
  have HBs := Lib.hid hbase
  have HQl := Lib.hid hq
  obtain ⟨g, of_, cap, e1, hcl, hcm, hs0, hs1, hQ1, hQ2⟩ := h.w0.head
  obtain ⟨aok, capk, e2, _, _⟩ := h.w1.shape
  subst e1
  subst e2
  obtain ⟨k0_, k1_, k2_, k3_, k4_, k5_, k6_, k7_, k8_, k9_, k10_, k11_, k12_, k13_, k14_, k15_, k16_, k17_, k18_, k19_, k20_, k21_, mf⟩ := cells22 h.blk
  clear h hbase hn hq
  have hlen : ((q'.length + 1 : Nat) : Int) = (q'.length : Int) + 1 := by omega
  go_enter Tryz.func39, Tryz.ntmps39
  simp only at hs0 hs1
  go_upto_region 4 with (fail)
  clear k0_ k1_ k2_ k3_ k4_ k5_ k6_ k7_ k8_ k9_ k10_ k11_ k12_ k13_ k14_ k15_ k16_ k17_ k18_ k19_ k20_ k21_ mf hs0 hs1
  have hbA := belowDA (w := w) (.cells #[.int .i64 1, .int .i64 n] 174)
  have Hp := Lib.hid (H0.out.below hbA)
  have HQ1 := Lib.hid (hQ1.below hbA)
  have HQ2 := Lib.hid (fun h => (hQ2 h).below hbA)
  have HBA : Hid (Below b w _) := Lib.hid (hbA.mono (Nat.le_of_lt H0.out.blt))
  have n0_ : ((w.alloc (.cells #[.int .i64 1, .int .i64 n] 174)).drew).cell? ⟨w.heap.size, 0, none⟩ = some (.int .i64 1) := by simp only [World.cell?, alloc_newD]; rfl
  have n1_ : ((w.alloc (.cells #[.int .i64 1, .int .i64 n] 174)).drew).cell? ⟨w.heap.size, 1, none⟩ = some (.int .i64 n) := by simp only [World.cell?, alloc_newD]; rfl
  have hsz : b < w.heap.size := H0.out.blt
  obtain ⟨ao', hao⟩ : ∃ a, (if cap = 1 then some (⟨g, of_, none⟩ : Addr) else some ⟨g, of_ + 2, none⟩) = a := ⟨_, rfl⟩
  have HQ : Hid (QAt ((w.alloc (.cells #[.int .i64 1, .int .i64 n] 174)).drew) base (.slice ao' q'.length (cap - 1)) q' ∧ (Value.slice ao' q'.length (cap - 1)).ownBlock = some g) := Lib.hid (by
    rw [← hao]
    by_cases hc : cap = 1
    · have e0 : q' = [] := List.length_eq_zero_iff.1 (by omega)
      rw [if_pos hc, hc]; subst e0; exact ⟨HQ1.out, rfl⟩
    · rw [if_neg hc]; exact ⟨HQ2.out (by omega), rfl⟩)
  have h1le : (1 : Int) ≤ (q'.length : Int) + 1 := by omega
  obtain ⟨k0_, k1_, k2_, k3_, k4_, k5_, k6_, k7_, k8_, k9_, k10_, k11_, k12_, k13_, k14_, k15_, k16_, k17_, k18_, k19_, k20_, k21_, mf⟩ := cells22 Hp.out.blk
  clear hbA hQ1 hQ2 HQ1 HQ2 hcl
  go_region_law (fail)
  go_upto_region 5 with (fail)
  generalize hW5 : (((w.setCell ⟨b, 20, none⟩ (.slice ao' q'.length (cap - 1))).alloc (.cells #[.int .i64 1, .int .i64 n] 174)).drew) = W4
  have hW4 : (((w.alloc (.cells #[.int .i64 1, .int .i64 n] 174)).setCell ⟨b, 20, none⟩ (.slice ao' q'.length (cap - 1))).drew) = W4 := by rw [World.setCell_alloc_past _ _ _ _ hsz]; exact hW5
  clear hW5
  have H4 : Hid (ProtAt W4 base b z0 h0 m0 z1 h1 m1 (.slice ao' q'.length (cap - 1)) (.slice aok q1.length capk) S0 S1 q' q1) := Lib.hid (by rw [← hW4]; exact Hp.out.pop0 HQ.out.1 HQ.out.2)
  have HB4 : Hid (Below b w W4) := Lib.hid (by rw [← hW4]; exact HBA.out.setCell (Nat.le_refl _) _)
  have HG : Hid (W4.heap[w.heap.size]? = some (.cells #[.int .i64 1, .int .i64 n] 174)) := Lib.hid (by rw [← hW4]; exact (Below.heap_setCell _ _ _ _ (Nat.ne_of_gt hsz)).trans (alloc_newD _ _))
  have HbA : Hid (base ≤ W4.heap.size) := Lib.hid (Nat.le_trans HBs.out HB4.out.size)
  have HK : Hid (∀ j, (Value.slice aok q1.length capk).ownBlock = some j → j < w.heap.size) := Lib.hid (fun j hj => (H0.out.w1.lt hj).2)
  clear hW4 HBA Hp HQ n0_ n1_ hao k0_ k1_ k2_ k3_ k4_ k5_ k6_ k7_ k8_ k9_ k10_ k11_ k12_ k13_ k14_ k15_ k16_ k17_ k18_ k19_ k20_ k21_ mf H0
  obtain ⟨k0_, k1_, k2_, k3_, k4_, k5_, k6_, k7_, k8_, k9_, k10_, k11_, k12_, k13_, k14_, k15_, k16_, k17_, k18_, k19_, k20_, k21_, mf⟩ := cells22 H4.out.blk
  have n0_ : W4.cell? ⟨w.heap.size, 0, none⟩ = some (.int .i64 1) := by simp only [World.cell?, HG.out]; rfl
  have n1_ : W4.cell? ⟨w.heap.size, 1, none⟩ = some (.int .i64 n) := by simp only [World.cell?, HG.out]; rfl
  go_upto_region 7 with (fail)
  have Hd := Lib.hid (H4.out.below (belowD (Below.refl _ _)))
  have hGd : W4.drew.heap[w.heap.size]? = some (.cells #[.int .i64 1, .int .i64 n] 174) := HG.out
  have hle : b ≤ z0 ∧ b ≤ h0 ∧ b ≤ m0 := by have := H4.out.l0; have := H4.out.l1; omega
  have hne : w.heap.size ≠ z0 ∧ w.heap.size ≠ h0 ∧ w.heap.size ≠ m0 := by have := H4.out.l2; have := H4.out.l1; have := HBs.out; omega
  have HCall := Lib.hid (HC.out _ Hd.out.a0)
  go_region_held3 (fun w' => w'.cell? ⟨b, 0, none⟩ = some (.pointer (some ⟨z0, 0, none⟩)) ∧ w'.cell? ⟨b, 1, none⟩ = some (.pointer (some ⟨z1, 0, none⟩)) ∧ w'.cell? ⟨b, 2, none⟩ = some (.int .i64 6) ∧ w'.cell? ⟨b, 3, none⟩ = some (.int .i64 1) ∧ w'.cell? ⟨b, 4, none⟩ = some (.int .i64 1) ∧ w'.cell? ⟨b, 5, none⟩ = some (.string ⟨#[110]⟩) ∧ w'.cell? ⟨b, 6, none⟩ = some (.string ⟨#[]⟩) ∧ w'.cell? ⟨b, 7, none⟩ = some (.int .i64 0) ∧ w'.cell? ⟨b, 8, none⟩ = some (.slice none 0 0) ∧ w'.cell? ⟨b, 9, none⟩ = some (.string ⟨#[]⟩) ∧ w'.cell? ⟨b, 10, none⟩ = some (.int .i64 0) ∧ w'.cell? ⟨b, 11, none⟩ = some (.int .i64 6) ∧ w'.cell? ⟨b, 12, none⟩ = some (.int .i64 1) ∧ w'.cell? ⟨b, 13, none⟩ = some (.int .i64 1) ∧ w'.cell? ⟨b, 14, none⟩ = some (.string ⟨#[109]⟩) ∧ w'.cell? ⟨b, 15, none⟩ = some (.string ⟨#[]⟩) ∧ w'.cell? ⟨b, 16, none⟩ = some (.int .i64 0) ∧ w'.cell? ⟨b, 17, none⟩ = some (.slice none 0 0) ∧ w'.cell? ⟨b, 18, none⟩ = some (.string ⟨#[]⟩) ∧ w'.cell? ⟨b, 19, none⟩ = some (.int .i64 0) ∧ w'.cell? ⟨w.heap.size, 0, none⟩ = some (.int .i64 1) ∧ w'.cell? ⟨w.heap.size, 1, none⟩ = some (.int .i64 n)) (go_keep)
    (first
      | (go_at_call 41; (with_reducible refine HCall.out.mono ?_); rintro e W6 ⟨rfl, hS, ht⟩; obtain ⟨k0_, k1_, k2_, k3_, k4_, k5_, k6_, k7_, k8_, k9_, k10_, k11_, k12_, k13_, k14_, k15_, k16_, k17_, k18_, k19_, k20_, k21_, mf⟩ := cells22 (Hd.out.side0 hS ht).blk; have hG6 := (ht.block w.heap.size (Array.getElem?_eq_some_iff.1 HG.out).1 (fun e => by rcases e with e | e | e; exact hne.1 e; exact hne.2.1 e; exact hne.2.2 e)).trans hGd; have n0_ : W6.cell? ⟨w.heap.size, 0, none⟩ = some (.int .i64 1) := (by simp only [World.cell?, hG6] <;> rfl); have n1_ : W6.cell? ⟨w.heap.size, 1, none⟩ = some (.int .i64 n) := (by simp only [World.cell?, hG6] <;> rfl)))
  have H6 := Lib.hid (Hd.out.side0 hS ht)
  have HB6 : Hid (Below b w W6) := Lib.hid ((belowD HB4.out).trans (below_of_touch ht hle.1 hle.2.1 hle.2.2 (Nat.le_of_lt H4.out.blt)))
  clear hS ht k0_ k1_ k2_ k3_ k4_ k5_ k6_ k7_ k8_ k9_ k10_ k11_ k12_ k13_ k14_ k15_ k16_ k17_ k18_ k19_ k20_ k21_ mf HCall hle
  go_wp2_with fail
  go_ret
  exact ⟨rfl, HB6.out, _, _, H6.out⟩
theorem pass11 {w : World} {base b z0 h0 m0 z1 h1 m1 : Nat} {v0 v1 : Value} {S0 S1 : LkSt} {q0 q' : List Sg} {n : Int} (h : ProtAt w base b z0 h0 m0 z1 h1 m1 v0 v1 S0 S1 q0 ((1, n) :: q')) (hbase : base ≤ w.heap.size) (hn : S1.node = nmM ∧ S1.gen = 1) (hq : q0.length ≤ 100000) :
    Calls Tryz.prog 39 #[.pointer (some ⟨b, 0, none⟩), .int .i64 1] w (fun e w' => e = .returned (.bool true) ∧ Below b w w' ∧ ProtE w' base b z0 h0 m0 z1 h1 m1 S0 (cameS S1 pX pA) q0 q') := by
  have HC : Hid (∀ W, LkAt W z1 h1 m1 S1 → Calls Tryz.prog 41 #[.pointer (some ⟨z1, 0, none⟩), .agg #[.int .i64 6, .int .i64 1, .int .i64 1, .string ⟨#[109]⟩, .string ⟨#[]⟩, .int .i64 0, .slice none 0 0, .string ⟨#[]⟩, .int .i64 0], .agg #[.int .i64 6, .int .i64 1, .int .i64 1, .string ⟨#[110]⟩, .string ⟨#[]⟩, .int .i64 0, .slice none 0 0, .string ⟨#[]⟩, .int .i64 0]] W (fun e w' => e = .returned (.int .i64 0) ∧ LkAt w' z1 h1 m1 (cameS S1 pX pA) ∧ TouchB (LkS z1 h1 m1) W w')) := Lib.hid (fun W hW => by
    have hh := cameI hW pX pA
    rw [okX, okA, hn.1, hn.2, f3u] at hh
    exact hh)
  have H0 := Lib.hid h
  have HBs := Lib.hid hbase
  have HQl := Lib.hid hq
  obtain ⟨g, of_, cap, e1, hcl, hcm, hs0, hs1, hQ1, hQ2⟩ := h.w1.head
  obtain ⟨aok, capk, e2, _, _⟩ := h.w0.shape
  subst e1
  subst e2
  obtain ⟨k0_, k1_, k2_, k3_, k4_, k5_, k6_, k7_, k8_, k9_, k10_, k11_, k12_, k13_, k14_, k15_, k16_, k17_, k18_, k19_, k20_, k21_, mf⟩ := cells22 h.blk
  clear h hbase hn hq
  have hlen : ((q'.length + 1 : Nat) : Int) = (q'.length : Int) + 1 := by omega
  go_enter Tryz.func39, Tryz.ntmps39
  simp only at hs0 hs1
  go_upto_region 4 with (fail)
  clear k0_ k1_ k2_ k3_ k4_ k5_ k6_ k7_ k8_ k9_ k10_ k11_ k12_ k13_ k14_ k15_ k16_ k17_ k18_ k19_ k20_ k21_ mf hs0 hs1
  have hbA := belowDA (w := w) (.cells #[.int .i64 1, .int .i64 n] 174)
  have Hp := Lib.hid (H0.out.below hbA)
  have HQ1 := Lib.hid (hQ1.below hbA)
  have HQ2 := Lib.hid (fun h => (hQ2 h).below hbA)
  have HBA : Hid (Below b w _) := Lib.hid (hbA.mono (Nat.le_of_lt H0.out.blt))
  have n0_ : ((w.alloc (.cells #[.int .i64 1, .int .i64 n] 174)).drew).cell? ⟨w.heap.size, 0, none⟩ = some (.int .i64 1) := by simp only [World.cell?, alloc_newD]; rfl
  have n1_ : ((w.alloc (.cells #[.int .i64 1, .int .i64 n] 174)).drew).cell? ⟨w.heap.size, 1, none⟩ = some (.int .i64 n) := by simp only [World.cell?, alloc_newD]; rfl
  have hsz : b < w.heap.size := H0.out.blt
  obtain ⟨ao', hao⟩ : ∃ a, (if cap = 1 then some (⟨g, of_, none⟩ : Addr) else some ⟨g, of_ + 2, none⟩) = a := ⟨_, rfl⟩
  have HQ : Hid (QAt ((w.alloc (.cells #[.int .i64 1, .int .i64 n] 174)).drew) base (.slice ao' q'.length (cap - 1)) q' ∧ (Value.slice ao' q'.length (cap - 1)).ownBlock = some g) := Lib.hid (by
    rw [← hao]
    by_cases hc : cap = 1
    · have e0 : q' = [] := List.length_eq_zero_iff.1 (by omega)
      rw [if_pos hc, hc]; subst e0; exact ⟨HQ1.out, rfl⟩
    · rw [if_neg hc]; exact ⟨HQ2.out (by omega), rfl⟩)
  have h1le : (1 : Int) ≤ (q'.length : Int) + 1 := by omega
  obtain ⟨k0_, k1_, k2_, k3_, k4_, k5_, k6_, k7_, k8_, k9_, k10_, k11_, k12_, k13_, k14_, k15_, k16_, k17_, k18_, k19_, k20_, k21_, mf⟩ := cells22 Hp.out.blk
  clear hbA hQ1 hQ2 HQ1 HQ2 hcl
  go_region_law (fail)
  go_upto_region 5 with (fail)
  generalize hW5 : (((w.setCell ⟨b, 21, none⟩ (.slice ao' q'.length (cap - 1))).alloc (.cells #[.int .i64 1, .int .i64 n] 174)).drew) = W4
  have hW4 : (((w.alloc (.cells #[.int .i64 1, .int .i64 n] 174)).setCell ⟨b, 21, none⟩ (.slice ao' q'.length (cap - 1))).drew) = W4 := by rw [World.setCell_alloc_past _ _ _ _ hsz]; exact hW5
  clear hW5
  have H4 : Hid (ProtAt W4 base b z0 h0 m0 z1 h1 m1 (.slice aok q0.length capk) (.slice ao' q'.length (cap - 1)) S0 S1 q0 q') := Lib.hid (by rw [← hW4]; exact Hp.out.pop1 HQ.out.1 HQ.out.2)
  have HB4 : Hid (Below b w W4) := Lib.hid (by rw [← hW4]; exact HBA.out.setCell (Nat.le_refl _) _)
  have HG : Hid (W4.heap[w.heap.size]? = some (.cells #[.int .i64 1, .int .i64 n] 174)) := Lib.hid (by rw [← hW4]; exact (Below.heap_setCell _ _ _ _ (Nat.ne_of_gt hsz)).trans (alloc_newD _ _))
  have HbA : Hid (base ≤ W4.heap.size) := Lib.hid (Nat.le_trans HBs.out HB4.out.size)
  have HK : Hid (∀ j, (Value.slice aok q0.length capk).ownBlock = some j → j < w.heap.size) := Lib.hid (fun j hj => (H0.out.w0.lt hj).2)
  clear hW4 HBA Hp HQ n0_ n1_ hao k0_ k1_ k2_ k3_ k4_ k5_ k6_ k7_ k8_ k9_ k10_ k11_ k12_ k13_ k14_ k15_ k16_ k17_ k18_ k19_ k20_ k21_ mf H0
  obtain ⟨k0_, k1_, k2_, k3_, k4_, k5_, k6_, k7_, k8_, k9_, k10_, k11_, k12_, k13_, k14_, k15_, k16_, k17_, k18_, k19_, k20_, k21_, mf⟩ := cells22 H4.out.blk
  have n0_ : W4.cell? ⟨w.heap.size, 0, none⟩ = some (.int .i64 1) := by simp only [World.cell?, HG.out]; rfl
  have n1_ : W4.cell? ⟨w.heap.size, 1, none⟩ = some (.int .i64 n) := by simp only [World.cell?, HG.out]; rfl
  go_upto_region 7 with (fail)
  have Hd := Lib.hid (H4.out.below (belowD (Below.refl _ _)))
  have hGd : W4.drew.heap[w.heap.size]? = some (.cells #[.int .i64 1, .int .i64 n] 174) := HG.out
  have hle : b ≤ z1 ∧ b ≤ h1 ∧ b ≤ m1 := by have := H4.out.l0; have := H4.out.l1; omega
  have hne : w.heap.size ≠ z1 ∧ w.heap.size ≠ h1 ∧ w.heap.size ≠ m1 := by have := H4.out.l2; have := H4.out.l1; have := HBs.out; omega
  have HCall := Lib.hid (HC.out _ Hd.out.a1)
  go_region_held3 (fun w' => w'.cell? ⟨b, 0, none⟩ = some (.pointer (some ⟨z0, 0, none⟩)) ∧ w'.cell? ⟨b, 1, none⟩ = some (.pointer (some ⟨z1, 0, none⟩)) ∧ w'.cell? ⟨b, 2, none⟩ = some (.int .i64 6) ∧ w'.cell? ⟨b, 3, none⟩ = some (.int .i64 1) ∧ w'.cell? ⟨b, 4, none⟩ = some (.int .i64 1) ∧ w'.cell? ⟨b, 5, none⟩ = some (.string ⟨#[110]⟩) ∧ w'.cell? ⟨b, 6, none⟩ = some (.string ⟨#[]⟩) ∧ w'.cell? ⟨b, 7, none⟩ = some (.int .i64 0) ∧ w'.cell? ⟨b, 8, none⟩ = some (.slice none 0 0) ∧ w'.cell? ⟨b, 9, none⟩ = some (.string ⟨#[]⟩) ∧ w'.cell? ⟨b, 10, none⟩ = some (.int .i64 0) ∧ w'.cell? ⟨b, 11, none⟩ = some (.int .i64 6) ∧ w'.cell? ⟨b, 12, none⟩ = some (.int .i64 1) ∧ w'.cell? ⟨b, 13, none⟩ = some (.int .i64 1) ∧ w'.cell? ⟨b, 14, none⟩ = some (.string ⟨#[109]⟩) ∧ w'.cell? ⟨b, 15, none⟩ = some (.string ⟨#[]⟩) ∧ w'.cell? ⟨b, 16, none⟩ = some (.int .i64 0) ∧ w'.cell? ⟨b, 17, none⟩ = some (.slice none 0 0) ∧ w'.cell? ⟨b, 18, none⟩ = some (.string ⟨#[]⟩) ∧ w'.cell? ⟨b, 19, none⟩ = some (.int .i64 0) ∧ w'.cell? ⟨w.heap.size, 0, none⟩ = some (.int .i64 1) ∧ w'.cell? ⟨w.heap.size, 1, none⟩ = some (.int .i64 n)) (go_keep)
    (first
      | (go_at_call 41; (with_reducible refine HCall.out.mono ?_); rintro e W6 ⟨rfl, hS, ht⟩; obtain ⟨k0_, k1_, k2_, k3_, k4_, k5_, k6_, k7_, k8_, k9_, k10_, k11_, k12_, k13_, k14_, k15_, k16_, k17_, k18_, k19_, k20_, k21_, mf⟩ := cells22 (Hd.out.side1 hS ht).blk; have hG6 := (ht.block w.heap.size (Array.getElem?_eq_some_iff.1 HG.out).1 (fun e => by rcases e with e | e | e; exact hne.1 e; exact hne.2.1 e; exact hne.2.2 e)).trans hGd; have n0_ : W6.cell? ⟨w.heap.size, 0, none⟩ = some (.int .i64 1) := (by simp only [World.cell?, hG6] <;> rfl); have n1_ : W6.cell? ⟨w.heap.size, 1, none⟩ = some (.int .i64 n) := (by simp only [World.cell?, hG6] <;> rfl)))
  have H6 := Lib.hid (Hd.out.side1 hS ht)
  have HB6 : Hid (Below b w W6) := Lib.hid ((belowD HB4.out).trans (below_of_touch ht hle.1 hle.2.1 hle.2.2 (Nat.le_of_lt H4.out.blt)))
  clear hS ht k0_ k1_ k2_ k3_ k4_ k5_ k6_ k7_ k8_ k9_ k10_ k11_ k12_ k13_ k14_ k15_ k16_ k17_ k18_ k19_ k20_ k21_ mf HCall hle
  go_wp2_with fail
  go_ret
  exact ⟨rfl, HB6.out, _, _, H6.out⟩
theorem pass20 {w : World} {base b z0 h0 m0 z1 h1 m1 : Nat} {v0 v1 : Value} {S0 S1 : LkSt} {q1 q' : List Sg} {n : Int} (h : ProtAt w base b z0 h0 m0 z1 h1 m1 v0 v1 S0 S1 ((2, n) :: q') q1) (hbase : base ≤ w.heap.size) (hn : S0.node = nmN ∧ S0.gen = 1) (hq : q1.length ≤ 100000) :
    Calls Tryz.prog 39 #[.pointer (some ⟨b, 0, none⟩), .int .i64 0] w (fun e w' => e = .returned (.bool true) ∧ Below b w w' ∧ ProtE w' base b z0 h0 m0 z1 h1 m1 (fellS S0 pA pX) S1 q' (q1 ++ [(3, n)])) := by
  have HC : Hid (∀ W, LkAt W z0 h0 m0 S0 → Calls Tryz.prog 49 #[.pointer (some ⟨z0, 0, none⟩), .agg #[.int .i64 6, .int .i64 1, .int .i64 1, .string ⟨#[110]⟩, .string ⟨#[]⟩, .int .i64 0, .slice none 0 0, .string ⟨#[]⟩, .int .i64 0], .agg #[.int .i64 6, .int .i64 1, .int .i64 1, .string ⟨#[109]⟩, .string ⟨#[]⟩, .int .i64 0, .slice none 0 0, .string ⟨#[]⟩, .int .i64 0]] W (fun e w' => e = .returned (.int .i64 0) ∧ LkAt w' z0 h0 m0 (fellS S0 pA pX) ∧ TouchB (LkS z0 h0 m0) W w')) := Lib.hid (fun W hW => by
    have hh := leftI hW pA pX
    rw [okA, okX, hn.1, hn.2, f3t] at hh
    exact hh)
  have H0 := Lib.hid h
  have HBs := Lib.hid hbase
  have HQl := Lib.hid hq
  obtain ⟨g, of_, cap, e1, hcl, hcm, hs0, hs1, hQ1, hQ2⟩ := h.w0.head
  obtain ⟨aok, capk, e2, _, _⟩ := h.w1.shape
  subst e1
  subst e2
  obtain ⟨k0_, k1_, k2_, k3_, k4_, k5_, k6_, k7_, k8_, k9_, k10_, k11_, k12_, k13_, k14_, k15_, k16_, k17_, k18_, k19_, k20_, k21_, mf⟩ := cells22 h.blk
  clear h hbase hn hq
  have hlen : ((q'.length + 1 : Nat) : Int) = (q'.length : Int) + 1 := by omega
  go_enter Tryz.func39, Tryz.ntmps39
  simp only at hs0 hs1
  go_upto_region 4 with (fail)
  clear k0_ k1_ k2_ k3_ k4_ k5_ k6_ k7_ k8_ k9_ k10_ k11_ k12_ k13_ k14_ k15_ k16_ k17_ k18_ k19_ k20_ k21_ mf hs0 hs1
  have hbA := belowDA (w := w) (.cells #[.int .i64 2, .int .i64 n] 174)
  have Hp := Lib.hid (H0.out.below hbA)
  have HQ1 := Lib.hid (hQ1.below hbA)
  have HQ2 := Lib.hid (fun h => (hQ2 h).below hbA)
  have HBA : Hid (Below b w _) := Lib.hid (hbA.mono (Nat.le_of_lt H0.out.blt))
  have n0_ : ((w.alloc (.cells #[.int .i64 2, .int .i64 n] 174)).drew).cell? ⟨w.heap.size, 0, none⟩ = some (.int .i64 2) := by simp only [World.cell?, alloc_newD]; rfl
  have n1_ : ((w.alloc (.cells #[.int .i64 2, .int .i64 n] 174)).drew).cell? ⟨w.heap.size, 1, none⟩ = some (.int .i64 n) := by simp only [World.cell?, alloc_newD]; rfl
  have hsz : b < w.heap.size := H0.out.blt
  obtain ⟨ao', hao⟩ : ∃ a, (if cap = 1 then some (⟨g, of_, none⟩ : Addr) else some ⟨g, of_ + 2, none⟩) = a := ⟨_, rfl⟩
  have HQ : Hid (QAt ((w.alloc (.cells #[.int .i64 2, .int .i64 n] 174)).drew) base (.slice ao' q'.length (cap - 1)) q' ∧ (Value.slice ao' q'.length (cap - 1)).ownBlock = some g) := Lib.hid (by
    rw [← hao]
    by_cases hc : cap = 1
    · have e0 : q' = [] := List.length_eq_zero_iff.1 (by omega)
      rw [if_pos hc, hc]; subst e0; exact ⟨HQ1.out, rfl⟩
    · rw [if_neg hc]; exact ⟨HQ2.out (by omega), rfl⟩)
  have h1le : (1 : Int) ≤ (q'.length : Int) + 1 := by omega
  obtain ⟨k0_, k1_, k2_, k3_, k4_, k5_, k6_, k7_, k8_, k9_, k10_, k11_, k12_, k13_, k14_, k15_, k16_, k17_, k18_, k19_, k20_, k21_, mf⟩ := cells22 Hp.out.blk
  clear hbA hQ1 hQ2 HQ1 HQ2 hcl
  go_region_law (fail)
  go_upto_region 5 with (fail)
  generalize hW5 : (((w.setCell ⟨b, 20, none⟩ (.slice ao' q'.length (cap - 1))).alloc (.cells #[.int .i64 2, .int .i64 n] 174)).drew) = W4
  have hW4 : (((w.alloc (.cells #[.int .i64 2, .int .i64 n] 174)).setCell ⟨b, 20, none⟩ (.slice ao' q'.length (cap - 1))).drew) = W4 := by rw [World.setCell_alloc_past _ _ _ _ hsz]; exact hW5
  clear hW5
  have H4 : Hid (ProtAt W4 base b z0 h0 m0 z1 h1 m1 (.slice ao' q'.length (cap - 1)) (.slice aok q1.length capk) S0 S1 q' q1) := Lib.hid (by rw [← hW4]; exact Hp.out.pop0 HQ.out.1 HQ.out.2)
  have HB4 : Hid (Below b w W4) := Lib.hid (by rw [← hW4]; exact HBA.out.setCell (Nat.le_refl _) _)
  have HG : Hid (W4.heap[w.heap.size]? = some (.cells #[.int .i64 2, .int .i64 n] 174)) := Lib.hid (by rw [← hW4]; exact (Below.heap_setCell _ _ _ _ (Nat.ne_of_gt hsz)).trans (alloc_newD _ _))
  have HbA : Hid (base ≤ W4.heap.size) := Lib.hid (Nat.le_trans HBs.out HB4.out.size)
  have HK : Hid (∀ j, (Value.slice aok q1.length capk).ownBlock = some j → j < w.heap.size) := Lib.hid (fun j hj => (H0.out.w1.lt hj).2)
  clear hW4 HBA Hp HQ n0_ n1_ hao k0_ k1_ k2_ k3_ k4_ k5_ k6_ k7_ k8_ k9_ k10_ k11_ k12_ k13_ k14_ k15_ k16_ k17_ k18_ k19_ k20_ k21_ mf H0
  obtain ⟨k0_, k1_, k2_, k3_, k4_, k5_, k6_, k7_, k8_, k9_, k10_, k11_, k12_, k13_, k14_, k15_, k16_, k17_, k18_, k19_, k20_, k21_, mf⟩ := cells22 H4.out.blk
  have n0_ : W4.cell? ⟨w.heap.size, 0, none⟩ = some (.int .i64 2) := by simp only [World.cell?, HG.out]; rfl
  have n1_ : W4.cell? ⟨w.heap.size, 1, none⟩ = some (.int .i64 n) := by simp only [World.cell?, HG.out]; rfl
  go_upto_region 9 with (fail)
  have hbA := belowDA (w := W4) (.cells #[.int .i64 3, .int .i64 n] 174)
  have Hp := Lib.hid (H4.out.below hbA)
  have HgA : Hid ((W4.alloc (.cells #[.int .i64 3, .int .i64 n] 174)).drew.heap[W4.heap.size]? = some (.cells #[.int .i64 3, .int .i64 n] 174)) := Lib.hid (alloc_newD _ _)
  have hlt4 : w.heap.size < W4.heap.size := (Array.getElem?_eq_some_iff.1 HG.out).1
  have HG5 : Hid ((W4.alloc (.cells #[.int .i64 3, .int .i64 n] 174)).drew.heap[w.heap.size]? = some (.cells #[.int .i64 2, .int .i64 n] 174)) := Lib.hid ((hbA.block _ hlt4).trans HG.out)
  have hlt5 := Nat.lt_of_lt_of_le hlt4 hbA.size
  have HbA5 := Lib.hid (Nat.le_trans HbA.out hbA.size)
  have HBA := Lib.hid (HB4.out.trans (hbA.mono (Nat.le_of_lt H4.out.blt)))
  have hkw : ((W4.alloc (.cells #[.int .i64 3, .int .i64 n] 174)).drew).cell? ⟨b, 21, none⟩ = some (.slice aok q1.length capk) := by have hh := Hp.out.blk; simp only [World.cell?, hh]; rfl
  have hn1w : ((W4.alloc (.cells #[.int .i64 3, .int .i64 n] 174)).drew).cell? ⟨w.heap.size, 1, none⟩ = some (.int .i64 n) := by (simp only [World.cell?, HG5.out] <;> rfl)
  clear hbA
  go_region_law (first
        | (refine step_append_q rfl (.tmp 70) (.tmp 74) rfl rfl Hp.out.w1 HbA5.out (3, n) rfl HgA.out (Nat.le_trans HQl.out (by decide)) ?_; intro v' W6 hA; have hblk := (hA.grown.block b Hp.out.blt (fun e => by have := (Hp.out.w1.lt e).1; have := Hp.out.l0; have := Hp.out.l1; have := Hp.out.l2; omega)).trans Hp.out.blk; clear k0_ k1_ k2_ k3_ k4_ k5_ k6_ k7_ k8_ k9_ k10_ k11_ k12_ k13_ k14_ k15_ k16_ k17_ k18_ k19_ k20_ k21_ mf n0_ n1_; obtain ⟨k0_, k1_, k2_, k3_, k4_, k5_, k6_, k7_, k8_, k9_, k10_, k11_, k12_, k13_, k14_, k15_, k16_, k17_, k18_, k19_, k20_, k21_, mf⟩ := cells22 hblk; obtain ⟨aoz, capz, rfl, _, _⟩ := hA.own.shape))
  all_goals
    have hbB : b < base := by have := Hp.out.l0; have := Hp.out.l1; have := Hp.out.l2; omega
    have hw := Hp.out.way1 hA HbA5.out
    have hb6 := HBA.out.trans (hA.grown.below (fun j hj => Nat.le_trans (Nat.le_of_lt hbB) (Hp.out.w1.lt hj).1) (Nat.le_of_lt Hp.out.blt))
    have hG6 := (hA.grown.block w.heap.size hlt5 (fun e => Nat.lt_irrefl _ (HK.out _ e))).trans HG5.out
    simp only [List.length_append, List.length_cons, List.length_nil, Nat.zero_add] at hw
    generalize hW8 : (W6.setCell ⟨b, 21, none⟩ (.slice aoz (q1.length + 1) capz)) = W8
    have H8 := Lib.hid hw
    rw [hW8] at H8
    have HB8 : Hid (Below b w W8) := Lib.hid (by rw [← hW8]; exact hb6.setCell (Nat.le_refl _) _)
    have HG : Hid (W8.heap[w.heap.size]? = some (.cells #[.int .i64 2, .int .i64 n] 174)) := Lib.hid (by rw [← hW8]; exact (Below.heap_setCell _ _ _ _ (Nat.ne_of_gt hsz)).trans hG6)
    clear hW8 hw hb6 hG6 hA HBA HB4 HbA5 hkw hn1w HgA Hp HG5 hblk k0_ k1_ k2_ k3_ k4_ k5_ k6_ k7_ k8_ k9_ k10_ k11_ k12_ k13_ k14_ k15_ k16_ k17_ k18_ k19_ k20_ k21_ mf
    obtain ⟨k0_, k1_, k2_, k3_, k4_, k5_, k6_, k7_, k8_, k9_, k10_, k11_, k12_, k13_, k14_, k15_, k16_, k17_, k18_, k19_, k20_, k21_, mf⟩ := cells22 H8.out.blk
    have n0_ : W8.cell? ⟨w.heap.size, 0, none⟩ = some (.int .i64 2) := by (simp only [World.cell?, HG.out] <;> rfl)
    have n1_ : W8.cell? ⟨w.heap.size, 1, none⟩ = some (.int .i64 n) := by (simp only [World.cell?, HG.out] <;> rfl)
    go_upto_region 10 with (fail)
    have Hd := Lib.hid (H8.out.below (belowD (Below.refl _ _)))
    have hGd : W8.drew.heap[w.heap.size]? = some (.cells #[.int .i64 2, .int .i64 n] 174) := HG.out
    have hle : b ≤ z0 ∧ b ≤ h0 ∧ b ≤ m0 := by have := H4.out.l0; have := H4.out.l1; omega
    have hne : w.heap.size ≠ z0 ∧ w.heap.size ≠ h0 ∧ w.heap.size ≠ m0 := by have := H4.out.l2; have := H4.out.l1; have := HBs.out; omega
    have HCall := Lib.hid (HC.out _ Hd.out.a0)
    go_region_held3 (fun w' => w'.cell? ⟨b, 0, none⟩ = some (.pointer (some ⟨z0, 0, none⟩)) ∧ w'.cell? ⟨b, 1, none⟩ = some (.pointer (some ⟨z1, 0, none⟩)) ∧ w'.cell? ⟨b, 2, none⟩ = some (.int .i64 6) ∧ w'.cell? ⟨b, 3, none⟩ = some (.int .i64 1) ∧ w'.cell? ⟨b, 4, none⟩ = some (.int .i64 1) ∧ w'.cell? ⟨b, 5, none⟩ = some (.string ⟨#[110]⟩) ∧ w'.cell? ⟨b, 6, none⟩ = some (.string ⟨#[]⟩) ∧ w'.cell? ⟨b, 7, none⟩ = some (.int .i64 0) ∧ w'.cell? ⟨b, 8, none⟩ = some (.slice none 0 0) ∧ w'.cell? ⟨b, 9, none⟩ = some (.string ⟨#[]⟩) ∧ w'.cell? ⟨b, 10, none⟩ = some (.int .i64 0) ∧ w'.cell? ⟨b, 11, none⟩ = some (.int .i64 6) ∧ w'.cell? ⟨b, 12, none⟩ = some (.int .i64 1) ∧ w'.cell? ⟨b, 13, none⟩ = some (.int .i64 1) ∧ w'.cell? ⟨b, 14, none⟩ = some (.string ⟨#[109]⟩) ∧ w'.cell? ⟨b, 15, none⟩ = some (.string ⟨#[]⟩) ∧ w'.cell? ⟨b, 16, none⟩ = some (.int .i64 0) ∧ w'.cell? ⟨b, 17, none⟩ = some (.slice none 0 0) ∧ w'.cell? ⟨b, 18, none⟩ = some (.string ⟨#[]⟩) ∧ w'.cell? ⟨b, 19, none⟩ = some (.int .i64 0) ∧ w'.cell? ⟨w.heap.size, 0, none⟩ = some (.int .i64 2) ∧ w'.cell? ⟨w.heap.size, 1, none⟩ = some (.int .i64 n)) (go_keep)
      (first
        | (go_at_call 49; (with_reducible refine HCall.out.mono ?_); rintro e W6 ⟨rfl, hS, ht⟩; obtain ⟨k0_, k1_, k2_, k3_, k4_, k5_, k6_, k7_, k8_, k9_, k10_, k11_, k12_, k13_, k14_, k15_, k16_, k17_, k18_, k19_, k20_, k21_, mf⟩ := cells22 (Hd.out.side0 hS ht).blk; have hG6 := (ht.block w.heap.size (Array.getElem?_eq_some_iff.1 HG.out).1 (fun e => by rcases e with e | e | e; exact hne.1 e; exact hne.2.1 e; exact hne.2.2 e)).trans hGd; have n0_ : W6.cell? ⟨w.heap.size, 0, none⟩ = some (.int .i64 2) := (by simp only [World.cell?, hG6] <;> rfl); have n1_ : W6.cell? ⟨w.heap.size, 1, none⟩ = some (.int .i64 n) := (by simp only [World.cell?, hG6] <;> rfl)))
    have H6 := Lib.hid (Hd.out.side0 hS ht)
    have HB6 : Hid (Below b w W6) := Lib.hid ((belowD HB8.out).trans (below_of_touch ht hle.1 hle.2.1 hle.2.2 (Nat.le_of_lt H8.out.blt)))
    clear hS ht k0_ k1_ k2_ k3_ k4_ k5_ k6_ k7_ k8_ k9_ k10_ k11_ k12_ k13_ k14_ k15_ k16_ k17_ k18_ k19_ k20_ k21_ mf HCall hle
    go_wp2_with fail
    go_ret
    exact ⟨rfl, HB6.out, _, _, H6.out⟩

theorem pass21 {w : World} {base b z0 h0 m0 z1 h1 m1 : Nat} {v0 v1 : Value} {S0 S1 : LkSt} {q0 q' : List Sg} {n : Int} (h : ProtAt w base b z0 h0 m0 z1 h1 m1 v0 v1 S0 S1 q0 ((2, n) :: q')) (hbase : base ≤ w.heap.size) (hn : S1.node = nmM ∧ S1.gen = 1) (hq : q0.length ≤ 100000) :
    Calls Tryz.prog 39 #[.pointer (some ⟨b, 0, none⟩), .int .i64 1] w (fun e w' => e = .returned (.bool true) ∧ Below b w w' ∧ ProtE w' base b z0 h0 m0 z1 h1 m1 S0 (fellS S1 pX pA) (q0 ++ [(3, n)]) q') := by
  have HC : Hid (∀ W, LkAt W z1 h1 m1 S1 → Calls Tryz.prog 49 #[.pointer (some ⟨z1, 0, none⟩), .agg #[.int .i64 6, .int .i64 1, .int .i64 1, .string ⟨#[109]⟩, .string ⟨#[]⟩, .int .i64 0, .slice none 0 0, .string ⟨#[]⟩, .int .i64 0], .agg #[.int .i64 6, .int .i64 1, .int .i64 1, .string ⟨#[110]⟩, .string ⟨#[]⟩, .int .i64 0, .slice none 0 0, .string ⟨#[]⟩, .int .i64 0]] W (fun e w' => e = .returned (.int .i64 0) ∧ LkAt w' z1 h1 m1 (fellS S1 pX pA) ∧ TouchB (LkS z1 h1 m1) W w')) := Lib.hid (fun W hW => by
    have hh := leftI hW pX pA
    rw [okX, okA, hn.1, hn.2, f3u] at hh
    exact hh)
  have H0 := Lib.hid h
  have HBs := Lib.hid hbase
  have HQl := Lib.hid hq
  obtain ⟨g, of_, cap, e1, hcl, hcm, hs0, hs1, hQ1, hQ2⟩ := h.w1.head
  obtain ⟨aok, capk, e2, _, _⟩ := h.w0.shape
  subst e1
  subst e2
  obtain ⟨k0_, k1_, k2_, k3_, k4_, k5_, k6_, k7_, k8_, k9_, k10_, k11_, k12_, k13_, k14_, k15_, k16_, k17_, k18_, k19_, k20_, k21_, mf⟩ := cells22 h.blk
  clear h hbase hn hq
  have hlen : ((q'.length + 1 : Nat) : Int) = (q'.length : Int) + 1 := by omega
  go_enter Tryz.func39, Tryz.ntmps39
  simp only at hs0 hs1
  go_upto_region 4 with (fail)
  clear k0_ k1_ k2_ k3_ k4_ k5_ k6_ k7_ k8_ k9_ k10_ k11_ k12_ k13_ k14_ k15_ k16_ k17_ k18_ k19_ k20_ k21_ mf hs0 hs1
  have hbA := belowDA (w := w) (.cells #[.int .i64 2, .int .i64 n] 174)
  have Hp := Lib.hid (H0.out.below hbA)
  have HQ1 := Lib.hid (hQ1.below hbA)
  have HQ2 := Lib.hid (fun h => (hQ2 h).below hbA)
  have HBA : Hid (Below b w _) := Lib.hid (hbA.mono (Nat.le_of_lt H0.out.blt))
  have n0_ : ((w.alloc (.cells #[.int .i64 2, .int .i64 n] 174)).drew).cell? ⟨w.heap.size, 0, none⟩ = some (.int .i64 2) := by simp only [World.cell?, alloc_newD]; rfl
  have n1_ : ((w.alloc (.cells #[.int .i64 2, .int .i64 n] 174)).drew).cell? ⟨w.heap.size, 1, none⟩ = some (.int .i64 n) := by simp only [World.cell?, alloc_newD]; rfl
  have hsz : b < w.heap.size := H0.out.blt
  obtain ⟨ao', hao⟩ : ∃ a, (if cap = 1 then some (⟨g, of_, none⟩ : Addr) else some ⟨g, of_ + 2, none⟩) = a := ⟨_, rfl⟩
  have HQ : Hid (QAt ((w.alloc (.cells #[.int .i64 2, .int .i64 n] 174)).drew) base (.slice ao' q'.length (cap - 1)) q' ∧ (Value.slice ao' q'.length (cap - 1)).ownBlock = some g) := Lib.hid (by
    rw [← hao]
    by_cases hc : cap = 1
    · have e0 : q' = [] := List.length_eq_zero_iff.1 (by omega)
      rw [if_pos hc, hc]; subst e0; exact ⟨HQ1.out, rfl⟩
    · rw [if_neg hc]; exact ⟨HQ2.out (by omega), rfl⟩)
  have h1le : (1 : Int) ≤ (q'.length : Int) + 1 := by omega
  obtain ⟨k0_, k1_, k2_, k3_, k4_, k5_, k6_, k7_, k8_, k9_, k10_, k11_, k12_, k13_, k14_, k15_, k16_, k17_, k18_, k19_, k20_, k21_, mf⟩ := cells22 Hp.out.blk
  clear hbA hQ1 hQ2 HQ1 HQ2 hcl
  go_region_law (fail)
  go_upto_region 5 with (fail)
  generalize hW5 : (((w.setCell ⟨b, 21, none⟩ (.slice ao' q'.length (cap - 1))).alloc (.cells #[.int .i64 2, .int .i64 n] 174)).drew) = W4
  have hW4 : (((w.alloc (.cells #[.int .i64 2, .int .i64 n] 174)).setCell ⟨b, 21, none⟩ (.slice ao' q'.length (cap - 1))).drew) = W4 := by rw [World.setCell_alloc_past _ _ _ _ hsz]; exact hW5
  clear hW5
  have H4 : Hid (ProtAt W4 base b z0 h0 m0 z1 h1 m1 (.slice aok q0.length capk) (.slice ao' q'.length (cap - 1)) S0 S1 q0 q') := Lib.hid (by rw [← hW4]; exact Hp.out.pop1 HQ.out.1 HQ.out.2)
  have HB4 : Hid (Below b w W4) := Lib.hid (by rw [← hW4]; exact HBA.out.setCell (Nat.le_refl _) _)
  have HG : Hid (W4.heap[w.heap.size]? = some (.cells #[.int .i64 2, .int .i64 n] 174)) := Lib.hid (by rw [← hW4]; exact (Below.heap_setCell _ _ _ _ (Nat.ne_of_gt hsz)).trans (alloc_newD _ _))
  have HbA : Hid (base ≤ W4.heap.size) := Lib.hid (Nat.le_trans HBs.out HB4.out.size)
  have HK : Hid (∀ j, (Value.slice aok q0.length capk).ownBlock = some j → j < w.heap.size) := Lib.hid (fun j hj => (H0.out.w0.lt hj).2)
  clear hW4 HBA Hp HQ n0_ n1_ hao k0_ k1_ k2_ k3_ k4_ k5_ k6_ k7_ k8_ k9_ k10_ k11_ k12_ k13_ k14_ k15_ k16_ k17_ k18_ k19_ k20_ k21_ mf H0
  obtain ⟨k0_, k1_, k2_, k3_, k4_, k5_, k6_, k7_, k8_, k9_, k10_, k11_, k12_, k13_, k14_, k15_, k16_, k17_, k18_, k19_, k20_, k21_, mf⟩ := cells22 H4.out.blk
  have n0_ : W4.cell? ⟨w.heap.size, 0, none⟩ = some (.int .i64 2) := by simp only [World.cell?, HG.out]; rfl
  have n1_ : W4.cell? ⟨w.heap.size, 1, none⟩ = some (.int .i64 n) := by simp only [World.cell?, HG.out]; rfl
  go_upto_region 9 with (fail)
  have hbA := belowDA (w := W4) (.cells #[.int .i64 3, .int .i64 n] 174)
  have Hp := Lib.hid (H4.out.below hbA)
  have HgA : Hid ((W4.alloc (.cells #[.int .i64 3, .int .i64 n] 174)).drew.heap[W4.heap.size]? = some (.cells #[.int .i64 3, .int .i64 n] 174)) := Lib.hid (alloc_newD _ _)
  have hlt4 : w.heap.size < W4.heap.size := (Array.getElem?_eq_some_iff.1 HG.out).1
  have HG5 : Hid ((W4.alloc (.cells #[.int .i64 3, .int .i64 n] 174)).drew.heap[w.heap.size]? = some (.cells #[.int .i64 2, .int .i64 n] 174)) := Lib.hid ((hbA.block _ hlt4).trans HG.out)
  have hlt5 := Nat.lt_of_lt_of_le hlt4 hbA.size
  have HbA5 := Lib.hid (Nat.le_trans HbA.out hbA.size)
  have HBA := Lib.hid (HB4.out.trans (hbA.mono (Nat.le_of_lt H4.out.blt)))
  have hkw : ((W4.alloc (.cells #[.int .i64 3, .int .i64 n] 174)).drew).cell? ⟨b, 20, none⟩ = some (.slice aok q0.length capk) := by have hh := Hp.out.blk; simp only [World.cell?, hh]; rfl
  have hn1w : ((W4.alloc (.cells #[.int .i64 3, .int .i64 n] 174)).drew).cell? ⟨w.heap.size, 1, none⟩ = some (.int .i64 n) := by (simp only [World.cell?, HG5.out] <;> rfl)
  clear hbA
  go_region_law (first
        | (refine step_append_q rfl (.tmp 70) (.tmp 74) rfl rfl Hp.out.w0 HbA5.out (3, n) rfl HgA.out (Nat.le_trans HQl.out (by decide)) ?_; intro v' W6 hA; have hblk := (hA.grown.block b Hp.out.blt (fun e => by have := (Hp.out.w0.lt e).1; have := Hp.out.l0; have := Hp.out.l1; have := Hp.out.l2; omega)).trans Hp.out.blk; clear k0_ k1_ k2_ k3_ k4_ k5_ k6_ k7_ k8_ k9_ k10_ k11_ k12_ k13_ k14_ k15_ k16_ k17_ k18_ k19_ k20_ k21_ mf n0_ n1_; obtain ⟨k0_, k1_, k2_, k3_, k4_, k5_, k6_, k7_, k8_, k9_, k10_, k11_, k12_, k13_, k14_, k15_, k16_, k17_, k18_, k19_, k20_, k21_, mf⟩ := cells22 hblk; obtain ⟨aoz, capz, rfl, _, _⟩ := hA.own.shape))
  all_goals
    have hbB : b < base := by have := Hp.out.l0; have := Hp.out.l1; have := Hp.out.l2; omega
    have hw := Hp.out.way0 hA HbA5.out
    have hb6 := HBA.out.trans (hA.grown.below (fun j hj => Nat.le_trans (Nat.le_of_lt hbB) (Hp.out.w0.lt hj).1) (Nat.le_of_lt Hp.out.blt))
    have hG6 := (hA.grown.block w.heap.size hlt5 (fun e => Nat.lt_irrefl _ (HK.out _ e))).trans HG5.out
    simp only [List.length_append, List.length_cons, List.length_nil, Nat.zero_add] at hw
    generalize hW8 : (W6.setCell ⟨b, 20, none⟩ (.slice aoz (q0.length + 1) capz)) = W8
    have H8 := Lib.hid hw
    rw [hW8] at H8
    have HB8 : Hid (Below b w W8) := Lib.hid (by rw [← hW8]; exact hb6.setCell (Nat.le_refl _) _)
    have HG : Hid (W8.heap[w.heap.size]? = some (.cells #[.int .i64 2, .int .i64 n] 174)) := Lib.hid (by rw [← hW8]; exact (Below.heap_setCell _ _ _ _ (Nat.ne_of_gt hsz)).trans hG6)
    clear hW8 hw hb6 hG6 hA HBA HB4 HbA5 hkw hn1w HgA Hp HG5 hblk k0_ k1_ k2_ k3_ k4_ k5_ k6_ k7_ k8_ k9_ k10_ k11_ k12_ k13_ k14_ k15_ k16_ k17_ k18_ k19_ k20_ k21_ mf
    obtain ⟨k0_, k1_, k2_, k3_, k4_, k5_, k6_, k7_, k8_, k9_, k10_, k11_, k12_, k13_, k14_, k15_, k16_, k17_, k18_, k19_, k20_, k21_, mf⟩ := cells22 H8.out.blk
    have n0_ : W8.cell? ⟨w.heap.size, 0, none⟩ = some (.int .i64 2) := by (simp only [World.cell?, HG.out] <;> rfl)
    have n1_ : W8.cell? ⟨w.heap.size, 1, none⟩ = some (.int .i64 n) := by (simp only [World.cell?, HG.out] <;> rfl)
    go_upto_region 10 with (fail)
    have Hd := Lib.hid (H8.out.below (belowD (Below.refl _ _)))
    have hGd : W8.drew.heap[w.heap.size]? = some (.cells #[.int .i64 2, .int .i64 n] 174) := HG.out
    have hle : b ≤ z1 ∧ b ≤ h1 ∧ b ≤ m1 := by have := H4.out.l0; have := H4.out.l1; omega
    have hne : w.heap.size ≠ z1 ∧ w.heap.size ≠ h1 ∧ w.heap.size ≠ m1 := by have := H4.out.l2; have := H4.out.l1; have := HBs.out; omega
    have HCall := Lib.hid (HC.out _ Hd.out.a1)
    go_region_held3 (fun w' => w'.cell? ⟨b, 0, none⟩ = some (.pointer (some ⟨z0, 0, none⟩)) ∧ w'.cell? ⟨b, 1, none⟩ = some (.pointer (some ⟨z1, 0, none⟩)) ∧ w'.cell? ⟨b, 2, none⟩ = some (.int .i64 6) ∧ w'.cell? ⟨b, 3, none⟩ = some (.int .i64 1) ∧ w'.cell? ⟨b, 4, none⟩ = some (.int .i64 1) ∧ w'.cell? ⟨b, 5, none⟩ = some (.string ⟨#[110]⟩) ∧ w'.cell? ⟨b, 6, none⟩ = some (.string ⟨#[]⟩) ∧ w'.cell? ⟨b, 7, none⟩ = some (.int .i64 0) ∧ w'.cell? ⟨b, 8, none⟩ = some (.slice none 0 0) ∧ w'.cell? ⟨b, 9, none⟩ = some (.string ⟨#[]⟩) ∧ w'.cell? ⟨b, 10, none⟩ = some (.int .i64 0) ∧ w'.cell? ⟨b, 11, none⟩ = some (.int .i64 6) ∧ w'.cell? ⟨b, 12, none⟩ = some (.int .i64 1) ∧ w'.cell? ⟨b, 13, none⟩ = some (.int .i64 1) ∧ w'.cell? ⟨b, 14, none⟩ = some (.string ⟨#[109]⟩) ∧ w'.cell? ⟨b, 15, none⟩ = some (.string ⟨#[]⟩) ∧ w'.cell? ⟨b, 16, none⟩ = some (.int .i64 0) ∧ w'.cell? ⟨b, 17, none⟩ = some (.slice none 0 0) ∧ w'.cell? ⟨b, 18, none⟩ = some (.string ⟨#[]⟩) ∧ w'.cell? ⟨b, 19, none⟩ = some (.int .i64 0) ∧ w'.cell? ⟨w.heap.size, 0, none⟩ = some (.int .i64 2) ∧ w'.cell? ⟨w.heap.size, 1, none⟩ = some (.int .i64 n)) (go_keep)
      (first
        | (go_at_call 49; (with_reducible refine HCall.out.mono ?_); rintro e W6 ⟨rfl, hS, ht⟩; obtain ⟨k0_, k1_, k2_, k3_, k4_, k5_, k6_, k7_, k8_, k9_, k10_, k11_, k12_, k13_, k14_, k15_, k16_, k17_, k18_, k19_, k20_, k21_, mf⟩ := cells22 (Hd.out.side1 hS ht).blk; have hG6 := (ht.block w.heap.size (Array.getElem?_eq_some_iff.1 HG.out).1 (fun e => by rcases e with e | e | e; exact hne.1 e; exact hne.2.1 e; exact hne.2.2 e)).trans hGd; have n0_ : W6.cell? ⟨w.heap.size, 0, none⟩ = some (.int .i64 2) := (by simp only [World.cell?, hG6] <;> rfl); have n1_ : W6.cell? ⟨w.heap.size, 1, none⟩ = some (.int .i64 n) := (by simp only [World.cell?, hG6] <;> rfl)))
    have H6 := Lib.hid (Hd.out.side1 hS ht)
    have HB6 : Hid (Below b w W6) := Lib.hid ((belowD HB8.out).trans (below_of_touch ht hle.1 hle.2.1 hle.2.2 (Nat.le_of_lt H8.out.blt)))
    clear hS ht k0_ k1_ k2_ k3_ k4_ k5_ k6_ k7_ k8_ k9_ k10_ k11_ k12_ k13_ k14_ k15_ k16_ k17_ k18_ k19_ k20_ k21_ mf HCall hle
    go_wp2_with fail
    go_ret
    exact ⟨rfl, HB6.out, _, _, H6.out⟩

theorem pass30 {w : World} {base b z0 h0 m0 z1 h1 m1 : Nat} {v0 v1 : Value} {S0 S1 : LkSt} {q1 q' : List Sg} {n : Int} (h : ProtAt w base b z0 h0 m0 z1 h1 m1 v0 v1 S0 S1 ((3, n) :: q') q1) (hbase : base ≤ w.heap.size) (hn : S0.node = nmN ∧ S0.gen = 1) (hq : q1.length ≤ 100000) :
    Calls Tryz.prog 39 #[.pointer (some ⟨b, 0, none⟩), .int .i64 0] w (fun e w' => e = .returned (.bool true) ∧ Below b w w' ∧ ProtE w' base b z0 h0 m0 z1 h1 m1 (ackS S0 pA pX n) S1 q' q1) := by
  have HC : Hid (∀ W, LkAt W z0 h0 m0 S0 → Calls Tryz.prog 50 #[.pointer (some ⟨z0, 0, none⟩), .agg #[.int .i64 6, .int .i64 1, .int .i64 1, .string ⟨#[110]⟩, .string ⟨#[]⟩, .int .i64 0, .slice none 0 0, .string ⟨#[]⟩, .int .i64 0], .agg #[.int .i64 6, .int .i64 1, .int .i64 1, .string ⟨#[109]⟩, .string ⟨#[]⟩, .int .i64 0, .slice none 0 0, .string ⟨#[]⟩, .int .i64 0], .int .i64 n] W (fun e w' => e = .returned (.int .i64 0) ∧ LkAt w' z0 h0 m0 (ackS S0 pA pX n) ∧ TouchB (LkS z0 h0 m0) W w')) := Lib.hid (fun W hW => by
    have hh := ackedI hW pA pX n
    rw [okA, okX, hn.1, hn.2, f3t] at hh
    exact hh)
  have H0 := Lib.hid h
  have HBs := Lib.hid hbase
  have HQl := Lib.hid hq
  obtain ⟨g, of_, cap, e1, hcl, hcm, hs0, hs1, hQ1, hQ2⟩ := h.w0.head
  obtain ⟨aok, capk, e2, _, _⟩ := h.w1.shape
  subst e1
  subst e2
  obtain ⟨k0_, k1_, k2_, k3_, k4_, k5_, k6_, k7_, k8_, k9_, k10_, k11_, k12_, k13_, k14_, k15_, k16_, k17_, k18_, k19_, k20_, k21_, mf⟩ := cells22 h.blk
  clear h hbase hn hq
  have hlen : ((q'.length + 1 : Nat) : Int) = (q'.length : Int) + 1 := by omega
  go_enter Tryz.func39, Tryz.ntmps39
  simp only at hs0 hs1
  go_upto_region 4 with (fail)
  clear k0_ k1_ k2_ k3_ k4_ k5_ k6_ k7_ k8_ k9_ k10_ k11_ k12_ k13_ k14_ k15_ k16_ k17_ k18_ k19_ k20_ k21_ mf hs0 hs1
  have hbA := belowDA (w := w) (.cells #[.int .i64 3, .int .i64 n] 174)
  have Hp := Lib.hid (H0.out.below hbA)
  have HQ1 := Lib.hid (hQ1.below hbA)
  have HQ2 := Lib.hid (fun h => (hQ2 h).below hbA)
  have HBA : Hid (Below b w _) := Lib.hid (hbA.mono (Nat.le_of_lt H0.out.blt))
  have n0_ : ((w.alloc (.cells #[.int .i64 3, .int .i64 n] 174)).drew).cell? ⟨w.heap.size, 0, none⟩ = some (.int .i64 3) := by simp only [World.cell?, alloc_newD]; rfl
  have n1_ : ((w.alloc (.cells #[.int .i64 3, .int .i64 n] 174)).drew).cell? ⟨w.heap.size, 1, none⟩ = some (.int .i64 n) := by simp only [World.cell?, alloc_newD]; rfl
  have hsz : b < w.heap.size := H0.out.blt
  obtain ⟨ao', hao⟩ : ∃ a, (if cap = 1 then some (⟨g, of_, none⟩ : Addr) else some ⟨g, of_ + 2, none⟩) = a := ⟨_, rfl⟩
  have HQ : Hid (QAt ((w.alloc (.cells #[.int .i64 3, .int .i64 n] 174)).drew) base (.slice ao' q'.length (cap - 1)) q' ∧ (Value.slice ao' q'.length (cap - 1)).ownBlock = some g) := Lib.hid (by
    rw [← hao]
    by_cases hc : cap = 1
    · have e0 : q' = [] := List.length_eq_zero_iff.1 (by omega)
      rw [if_pos hc, hc]; subst e0; exact ⟨HQ1.out, rfl⟩
    · rw [if_neg hc]; exact ⟨HQ2.out (by omega), rfl⟩)
  have h1le : (1 : Int) ≤ (q'.length : Int) + 1 := by omega
  obtain ⟨k0_, k1_, k2_, k3_, k4_, k5_, k6_, k7_, k8_, k9_, k10_, k11_, k12_, k13_, k14_, k15_, k16_, k17_, k18_, k19_, k20_, k21_, mf⟩ := cells22 Hp.out.blk
  clear hbA hQ1 hQ2 HQ1 HQ2 hcl
  go_region_law (fail)
  go_upto_region 5 with (fail)
  generalize hW5 : (((w.setCell ⟨b, 20, none⟩ (.slice ao' q'.length (cap - 1))).alloc (.cells #[.int .i64 3, .int .i64 n] 174)).drew) = W4
  have hW4 : (((w.alloc (.cells #[.int .i64 3, .int .i64 n] 174)).setCell ⟨b, 20, none⟩ (.slice ao' q'.length (cap - 1))).drew) = W4 := by rw [World.setCell_alloc_past _ _ _ _ hsz]; exact hW5
  clear hW5
  have H4 : Hid (ProtAt W4 base b z0 h0 m0 z1 h1 m1 (.slice ao' q'.length (cap - 1)) (.slice aok q1.length capk) S0 S1 q' q1) := Lib.hid (by rw [← hW4]; exact Hp.out.pop0 HQ.out.1 HQ.out.2)
  have HB4 : Hid (Below b w W4) := Lib.hid (by rw [← hW4]; exact HBA.out.setCell (Nat.le_refl _) _)
  have HG : Hid (W4.heap[w.heap.size]? = some (.cells #[.int .i64 3, .int .i64 n] 174)) := Lib.hid (by rw [← hW4]; exact (Below.heap_setCell _ _ _ _ (Nat.ne_of_gt hsz)).trans (alloc_newD _ _))
  have HbA : Hid (base ≤ W4.heap.size) := Lib.hid (Nat.le_trans HBs.out HB4.out.size)
  have HK : Hid (∀ j, (Value.slice aok q1.length capk).ownBlock = some j → j < w.heap.size) := Lib.hid (fun j hj => (H0.out.w1.lt hj).2)
  clear hW4 HBA Hp HQ n0_ n1_ hao k0_ k1_ k2_ k3_ k4_ k5_ k6_ k7_ k8_ k9_ k10_ k11_ k12_ k13_ k14_ k15_ k16_ k17_ k18_ k19_ k20_ k21_ mf H0
  obtain ⟨k0_, k1_, k2_, k3_, k4_, k5_, k6_, k7_, k8_, k9_, k10_, k11_, k12_, k13_, k14_, k15_, k16_, k17_, k18_, k19_, k20_, k21_, mf⟩ := cells22 H4.out.blk
  have n0_ : W4.cell? ⟨w.heap.size, 0, none⟩ = some (.int .i64 3) := by simp only [World.cell?, HG.out]; rfl
  have n1_ : W4.cell? ⟨w.heap.size, 1, none⟩ = some (.int .i64 n) := by simp only [World.cell?, HG.out]; rfl
  go_upto_region 11 with (fail)
  have Hd := Lib.hid (H4.out.below (belowD (Below.refl _ _)))
  have hGd : W4.drew.heap[w.heap.size]? = some (.cells #[.int .i64 3, .int .i64 n] 174) := HG.out
  have hle : b ≤ z0 ∧ b ≤ h0 ∧ b ≤ m0 := by have := H4.out.l0; have := H4.out.l1; omega
  have hne : w.heap.size ≠ z0 ∧ w.heap.size ≠ h0 ∧ w.heap.size ≠ m0 := by have := H4.out.l2; have := H4.out.l1; have := HBs.out; omega
  have HCall := Lib.hid (HC.out _ Hd.out.a0)
  go_region_held3 (fun w' => w'.cell? ⟨b, 0, none⟩ = some (.pointer (some ⟨z0, 0, none⟩)) ∧ w'.cell? ⟨b, 1, none⟩ = some (.pointer (some ⟨z1, 0, none⟩)) ∧ w'.cell? ⟨b, 2, none⟩ = some (.int .i64 6) ∧ w'.cell? ⟨b, 3, none⟩ = some (.int .i64 1) ∧ w'.cell? ⟨b, 4, none⟩ = some (.int .i64 1) ∧ w'.cell? ⟨b, 5, none⟩ = some (.string ⟨#[110]⟩) ∧ w'.cell? ⟨b, 6, none⟩ = some (.string ⟨#[]⟩) ∧ w'.cell? ⟨b, 7, none⟩ = some (.int .i64 0) ∧ w'.cell? ⟨b, 8, none⟩ = some (.slice none 0 0) ∧ w'.cell? ⟨b, 9, none⟩ = some (.string ⟨#[]⟩) ∧ w'.cell? ⟨b, 10, none⟩ = some (.int .i64 0) ∧ w'.cell? ⟨b, 11, none⟩ = some (.int .i64 6) ∧ w'.cell? ⟨b, 12, none⟩ = some (.int .i64 1) ∧ w'.cell? ⟨b, 13, none⟩ = some (.int .i64 1) ∧ w'.cell? ⟨b, 14, none⟩ = some (.string ⟨#[109]⟩) ∧ w'.cell? ⟨b, 15, none⟩ = some (.string ⟨#[]⟩) ∧ w'.cell? ⟨b, 16, none⟩ = some (.int .i64 0) ∧ w'.cell? ⟨b, 17, none⟩ = some (.slice none 0 0) ∧ w'.cell? ⟨b, 18, none⟩ = some (.string ⟨#[]⟩) ∧ w'.cell? ⟨b, 19, none⟩ = some (.int .i64 0) ∧ w'.cell? ⟨w.heap.size, 0, none⟩ = some (.int .i64 3) ∧ w'.cell? ⟨w.heap.size, 1, none⟩ = some (.int .i64 n)) (go_keep)
    (first
      | (go_at_call 50; (with_reducible refine HCall.out.mono ?_); rintro e W6 ⟨rfl, hS, ht⟩; obtain ⟨k0_, k1_, k2_, k3_, k4_, k5_, k6_, k7_, k8_, k9_, k10_, k11_, k12_, k13_, k14_, k15_, k16_, k17_, k18_, k19_, k20_, k21_, mf⟩ := cells22 (Hd.out.side0 hS ht).blk; have hG6 := (ht.block w.heap.size (Array.getElem?_eq_some_iff.1 HG.out).1 (fun e => by rcases e with e | e | e; exact hne.1 e; exact hne.2.1 e; exact hne.2.2 e)).trans hGd; have n0_ : W6.cell? ⟨w.heap.size, 0, none⟩ = some (.int .i64 3) := (by simp only [World.cell?, hG6] <;> rfl); have n1_ : W6.cell? ⟨w.heap.size, 1, none⟩ = some (.int .i64 n) := (by simp only [World.cell?, hG6] <;> rfl)))
  have H6 := Lib.hid (Hd.out.side0 hS ht)
  have HB6 : Hid (Below b w W6) := Lib.hid ((belowD HB4.out).trans (below_of_touch ht hle.1 hle.2.1 hle.2.2 (Nat.le_of_lt H4.out.blt)))
  clear hS ht k0_ k1_ k2_ k3_ k4_ k5_ k6_ k7_ k8_ k9_ k10_ k11_ k12_ k13_ k14_ k15_ k16_ k17_ k18_ k19_ k20_ k21_ mf HCall hle
  go_wp2_with fail
  go_ret
  exact ⟨rfl, HB6.out, _, _, H6.out⟩
theorem pass31 {w : World} {base b z0 h0 m0 z1 h1 m1 : Nat} {v0 v1 : Value} {S0 S1 : LkSt} {q0 q' : List Sg} {n : Int} (h : ProtAt w base b z0 h0 m0 z1 h1 m1 v0 v1 S0 S1 q0 ((3, n) :: q')) (hbase : base ≤ w.heap.size) (hn : S1.node = nmM ∧ S1.gen = 1) (hq : q0.length ≤ 100000) :
    Calls Tryz.prog 39 #[.pointer (some ⟨b, 0, none⟩), .int .i64 1] w (fun e w' => e = .returned (.bool true) ∧ Below b w w' ∧ ProtE w' base b z0 h0 m0 z1 h1 m1 S0 (ackS S1 pX pA n) q0 q') := by
  have HC : Hid (∀ W, LkAt W z1 h1 m1 S1 → Calls Tryz.prog 50 #[.pointer (some ⟨z1, 0, none⟩), .agg #[.int .i64 6, .int .i64 1, .int .i64 1, .string ⟨#[109]⟩, .string ⟨#[]⟩, .int .i64 0, .slice none 0 0, .string ⟨#[]⟩, .int .i64 0], .agg #[.int .i64 6, .int .i64 1, .int .i64 1, .string ⟨#[110]⟩, .string ⟨#[]⟩, .int .i64 0, .slice none 0 0, .string ⟨#[]⟩, .int .i64 0], .int .i64 n] W (fun e w' => e = .returned (.int .i64 0) ∧ LkAt w' z1 h1 m1 (ackS S1 pX pA n) ∧ TouchB (LkS z1 h1 m1) W w')) := Lib.hid (fun W hW => by
    have hh := ackedI hW pX pA n
    rw [okX, okA, hn.1, hn.2, f3u] at hh
    exact hh)
  have H0 := Lib.hid h
  have HBs := Lib.hid hbase
  have HQl := Lib.hid hq
  obtain ⟨g, of_, cap, e1, hcl, hcm, hs0, hs1, hQ1, hQ2⟩ := h.w1.head
  obtain ⟨aok, capk, e2, _, _⟩ := h.w0.shape
  subst e1
  subst e2
  obtain ⟨k0_, k1_, k2_, k3_, k4_, k5_, k6_, k7_, k8_, k9_, k10_, k11_, k12_, k13_, k14_, k15_, k16_, k17_, k18_, k19_, k20_, k21_, mf⟩ := cells22 h.blk
  clear h hbase hn hq
  have hlen : ((q'.length + 1 : Nat) : Int) = (q'.length : Int) + 1 := by omega
  go_enter Tryz.func39, Tryz.ntmps39
  simp only at hs0 hs1
  go_upto_region 4 with (fail)
  clear k0_ k1_ k2_ k3_ k4_ k5_ k6_ k7_ k8_ k9_ k10_ k11_ k12_ k13_ k14_ k15_ k16_ k17_ k18_ k19_ k20_ k21_ mf hs0 hs1
  have hbA := belowDA (w := w) (.cells #[.int .i64 3, .int .i64 n] 174)
  have Hp := Lib.hid (H0.out.below hbA)
  have HQ1 := Lib.hid (hQ1.below hbA)
  have HQ2 := Lib.hid (fun h => (hQ2 h).below hbA)
  have HBA : Hid (Below b w _) := Lib.hid (hbA.mono (Nat.le_of_lt H0.out.blt))
  have n0_ : ((w.alloc (.cells #[.int .i64 3, .int .i64 n] 174)).drew).cell? ⟨w.heap.size, 0, none⟩ = some (.int .i64 3) := by simp only [World.cell?, alloc_newD]; rfl
  have n1_ : ((w.alloc (.cells #[.int .i64 3, .int .i64 n] 174)).drew).cell? ⟨w.heap.size, 1, none⟩ = some (.int .i64 n) := by simp only [World.cell?, alloc_newD]; rfl
  have hsz : b < w.heap.size := H0.out.blt
  obtain ⟨ao', hao⟩ : ∃ a, (if cap = 1 then some (⟨g, of_, none⟩ : Addr) else some ⟨g, of_ + 2, none⟩) = a := ⟨_, rfl⟩
  have HQ : Hid (QAt ((w.alloc (.cells #[.int .i64 3, .int .i64 n] 174)).drew) base (.slice ao' q'.length (cap - 1)) q' ∧ (Value.slice ao' q'.length (cap - 1)).ownBlock = some g) := Lib.hid (by
    rw [← hao]
    by_cases hc : cap = 1
    · have e0 : q' = [] := List.length_eq_zero_iff.1 (by omega)
      rw [if_pos hc, hc]; subst e0; exact ⟨HQ1.out, rfl⟩
    · rw [if_neg hc]; exact ⟨HQ2.out (by omega), rfl⟩)
  have h1le : (1 : Int) ≤ (q'.length : Int) + 1 := by omega
  obtain ⟨k0_, k1_, k2_, k3_, k4_, k5_, k6_, k7_, k8_, k9_, k10_, k11_, k12_, k13_, k14_, k15_, k16_, k17_, k18_, k19_, k20_, k21_, mf⟩ := cells22 Hp.out.blk
  clear hbA hQ1 hQ2 HQ1 HQ2 hcl
  go_region_law (fail)
  go_upto_region 5 with (fail)
  generalize hW5 : (((w.setCell ⟨b, 21, none⟩ (.slice ao' q'.length (cap - 1))).alloc (.cells #[.int .i64 3, .int .i64 n] 174)).drew) = W4
  have hW4 : (((w.alloc (.cells #[.int .i64 3, .int .i64 n] 174)).setCell ⟨b, 21, none⟩ (.slice ao' q'.length (cap - 1))).drew) = W4 := by rw [World.setCell_alloc_past _ _ _ _ hsz]; exact hW5
  clear hW5
  have H4 : Hid (ProtAt W4 base b z0 h0 m0 z1 h1 m1 (.slice aok q0.length capk) (.slice ao' q'.length (cap - 1)) S0 S1 q0 q') := Lib.hid (by rw [← hW4]; exact Hp.out.pop1 HQ.out.1 HQ.out.2)
  have HB4 : Hid (Below b w W4) := Lib.hid (by rw [← hW4]; exact HBA.out.setCell (Nat.le_refl _) _)
  have HG : Hid (W4.heap[w.heap.size]? = some (.cells #[.int .i64 3, .int .i64 n] 174)) := Lib.hid (by rw [← hW4]; exact (Below.heap_setCell _ _ _ _ (Nat.ne_of_gt hsz)).trans (alloc_newD _ _))
  have HbA : Hid (base ≤ W4.heap.size) := Lib.hid (Nat.le_trans HBs.out HB4.out.size)
  have HK : Hid (∀ j, (Value.slice aok q0.length capk).ownBlock = some j → j < w.heap.size) := Lib.hid (fun j hj => (H0.out.w0.lt hj).2)
  clear hW4 HBA Hp HQ n0_ n1_ hao k0_ k1_ k2_ k3_ k4_ k5_ k6_ k7_ k8_ k9_ k10_ k11_ k12_ k13_ k14_ k15_ k16_ k17_ k18_ k19_ k20_ k21_ mf H0
  obtain ⟨k0_, k1_, k2_, k3_, k4_, k5_, k6_, k7_, k8_, k9_, k10_, k11_, k12_, k13_, k14_, k15_, k16_, k17_, k18_, k19_, k20_, k21_, mf⟩ := cells22 H4.out.blk
  have n0_ : W4.cell? ⟨w.heap.size, 0, none⟩ = some (.int .i64 3) := by simp only [World.cell?, HG.out]; rfl
  have n1_ : W4.cell? ⟨w.heap.size, 1, none⟩ = some (.int .i64 n) := by simp only [World.cell?, HG.out]; rfl
  go_upto_region 11 with (fail)
  have Hd := Lib.hid (H4.out.below (belowD (Below.refl _ _)))
  have hGd : W4.drew.heap[w.heap.size]? = some (.cells #[.int .i64 3, .int .i64 n] 174) := HG.out
  have hle : b ≤ z1 ∧ b ≤ h1 ∧ b ≤ m1 := by have := H4.out.l0; have := H4.out.l1; omega
  have hne : w.heap.size ≠ z1 ∧ w.heap.size ≠ h1 ∧ w.heap.size ≠ m1 := by have := H4.out.l2; have := H4.out.l1; have := HBs.out; omega
  have HCall := Lib.hid (HC.out _ Hd.out.a1)
  go_region_held3 (fun w' => w'.cell? ⟨b, 0, none⟩ = some (.pointer (some ⟨z0, 0, none⟩)) ∧ w'.cell? ⟨b, 1, none⟩ = some (.pointer (some ⟨z1, 0, none⟩)) ∧ w'.cell? ⟨b, 2, none⟩ = some (.int .i64 6) ∧ w'.cell? ⟨b, 3, none⟩ = some (.int .i64 1) ∧ w'.cell? ⟨b, 4, none⟩ = some (.int .i64 1) ∧ w'.cell? ⟨b, 5, none⟩ = some (.string ⟨#[110]⟩) ∧ w'.cell? ⟨b, 6, none⟩ = some (.string ⟨#[]⟩) ∧ w'.cell? ⟨b, 7, none⟩ = some (.int .i64 0) ∧ w'.cell? ⟨b, 8, none⟩ = some (.slice none 0 0) ∧ w'.cell? ⟨b, 9, none⟩ = some (.string ⟨#[]⟩) ∧ w'.cell? ⟨b, 10, none⟩ = some (.int .i64 0) ∧ w'.cell? ⟨b, 11, none⟩ = some (.int .i64 6) ∧ w'.cell? ⟨b, 12, none⟩ = some (.int .i64 1) ∧ w'.cell? ⟨b, 13, none⟩ = some (.int .i64 1) ∧ w'.cell? ⟨b, 14, none⟩ = some (.string ⟨#[109]⟩) ∧ w'.cell? ⟨b, 15, none⟩ = some (.string ⟨#[]⟩) ∧ w'.cell? ⟨b, 16, none⟩ = some (.int .i64 0) ∧ w'.cell? ⟨b, 17, none⟩ = some (.slice none 0 0) ∧ w'.cell? ⟨b, 18, none⟩ = some (.string ⟨#[]⟩) ∧ w'.cell? ⟨b, 19, none⟩ = some (.int .i64 0) ∧ w'.cell? ⟨w.heap.size, 0, none⟩ = some (.int .i64 3) ∧ w'.cell? ⟨w.heap.size, 1, none⟩ = some (.int .i64 n)) (go_keep)
    (first
      | (go_at_call 50; (with_reducible refine HCall.out.mono ?_); rintro e W6 ⟨rfl, hS, ht⟩; obtain ⟨k0_, k1_, k2_, k3_, k4_, k5_, k6_, k7_, k8_, k9_, k10_, k11_, k12_, k13_, k14_, k15_, k16_, k17_, k18_, k19_, k20_, k21_, mf⟩ := cells22 (Hd.out.side1 hS ht).blk; have hG6 := (ht.block w.heap.size (Array.getElem?_eq_some_iff.1 HG.out).1 (fun e => by rcases e with e | e | e; exact hne.1 e; exact hne.2.1 e; exact hne.2.2 e)).trans hGd; have n0_ : W6.cell? ⟨w.heap.size, 0, none⟩ = some (.int .i64 3) := (by simp only [World.cell?, hG6] <;> rfl); have n1_ : W6.cell? ⟨w.heap.size, 1, none⟩ = some (.int .i64 n) := (by simp only [World.cell?, hG6] <;> rfl)))
  have H6 := Lib.hid (Hd.out.side1 hS ht)
  have HB6 : Hid (Below b w W6) := Lib.hid ((belowD HB4.out).trans (below_of_touch ht hle.1 hle.2.1 hle.2.2 (Nat.le_of_lt H4.out.blt)))
  clear hS ht k0_ k1_ k2_ k3_ k4_ k5_ k6_ k7_ k8_ k9_ k10_ k11_ k12_ k13_ k14_ k15_ k16_ k17_ k18_ k19_ k20_ k21_ mf HCall hle
  go_wp2_with fail
  go_ret
  exact ⟨rfl, HB6.out, _, _, H6.out⟩
end Go.Proofs.YtnakbepcalciiaaGreat.lk
