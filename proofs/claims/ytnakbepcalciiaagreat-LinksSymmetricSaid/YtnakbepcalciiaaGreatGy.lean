/- Several texts in one, one behind the other: LkZe. No condition beyond theirs. -/
import Derived.Test.YtnakbepcalciiaaGreatGx
import Derived.Deep.RegionHeld3
import Derived.Deep.RegionLaw
/- act: a process links or unlinks. Conditions: as said. -/
namespace Go.Proofs.YtnakbepcalciiaaGreat.lk
open Go.RowKit mem rec tm names pm
set_option linter.unusedVariables false
set_option linter.unusedSimpArgs false
set_option maxHeartbeats 4000000
set_option maxRecDepth 100000
theorem f3m : pairB nmM 1 false true true pX pA = true := by decide
def ProtE (w : World) (base b z0 h0 m0 z1 h1 m1 : Nat) (S0 S1 : LkSt) (q0 q1 : List Sg) : Prop := ∃ v0 v1, ProtAt w base b z0 h0 m0 z1 h1 m1 v0 v1 S0 S1 q0 q1
theorem actJ0 {w : World} {base b z0 h0 m0 z1 h1 m1 : Nat} {v0 v1 : Value} {S0 S1 : LkSt} {q0 q1 : List Sg} (h : ProtAt w base b z0 h0 m0 z1 h1 m1 v0 v1 S0 S1 q0 q1) (hbase : base ≤ w.heap.size) (hn : S0.node = nmN ∧ S0.gen = 1 ∧ 0 ≤ S0.last ∧ S0.last ≤ 1000000) (hq : q1.length ≤ 100000) :
    Calls Tryz.prog 40 #[.pointer (some ⟨b, 0, none⟩), .int .i64 0, .bool true] w (fun e w' => e = .returned (.bool true) ∧ Below b w w' ∧ ProtE w' base b z0 h0 m0 z1 h1 m1 (joinS S0 pA pX) S1 q0 (if sendB S0 pA pX then q1 ++ [(1, 0)] else q1)) := by
  obtain ⟨snd, hsnd⟩ : ∃ r, sendB S0 pA pX = r := ⟨_, rfl⟩
  rw [hsnd]
  have HCall : Hid (Calls Tryz.prog 20 #[.pointer (some ⟨z0, 0, none⟩), .agg #[.int .i64 6, .int .i64 1, .int .i64 1, .string ⟨#[110]⟩, .string ⟨#[]⟩, .int .i64 0, .slice none 0 0, .string ⟨#[]⟩, .int .i64 0], .agg #[.int .i64 6, .int .i64 1, .int .i64 1, .string ⟨#[109]⟩, .string ⟨#[]⟩, .int .i64 0, .slice none 0 0, .string ⟨#[]⟩, .int .i64 0]] w.drew (fun e w' => e = .returned (.tuple #[.bool snd, .int .i64 0]) ∧ LkAt w' z0 h0 m0 (joinS S0 pA pX) ∧ TouchB (LkS z0 h0 m0) w.drew w')) := Lib.hid (by
    have hh := joinI (h.below (belowD (Below.refl _ _))).a0 pA pX
    rw [okA, okX, hn.1, hn.2.1, f3, hsnd] at hh
    exact hh)
  have H0 := Lib.hid h
  have HBs := Lib.hid hbase
  have HQl := Lib.hid hq
  obtain ⟨ao0, cap0, rfl, _, _⟩ := h.w0.shape
  obtain ⟨ao1, cap1, rfl, _, _⟩ := h.w1.shape
  obtain ⟨k0_, k1_, k2_, k3_, k4_, k5_, k6_, k7_, k8_, k9_, k10_, k11_, k12_, k13_, k14_, k15_, k16_, k17_, k18_, k19_, k20_, k21_, mf⟩ := cells22 h.blk
  clear h hbase hq hn hsnd
  go_enter Tryz.func40, Tryz.ntmps40
  go_upto_region 3 with (fail)
  have hle : b ≤ z0 ∧ b ≤ h0 ∧ b ≤ m0 := by have := H0.out.l0; have := H0.out.l1; omega
  have Hd := Lib.hid (H0.out.below (belowD (Below.refl w.heap.size w)))
  go_region_held3 (fun w' => w'.cell? ⟨b, 0, none⟩ = some (.pointer (some ⟨z0, 0, none⟩)) ∧ w'.cell? ⟨b, 1, none⟩ = some (.pointer (some ⟨z1, 0, none⟩)) ∧ w'.cell? ⟨b, 2, none⟩ = some (.int .i64 6) ∧ w'.cell? ⟨b, 3, none⟩ = some (.int .i64 1) ∧ w'.cell? ⟨b, 4, none⟩ = some (.int .i64 1) ∧ w'.cell? ⟨b, 5, none⟩ = some (.string ⟨#[110]⟩) ∧ w'.cell? ⟨b, 6, none⟩ = some (.string ⟨#[]⟩) ∧ w'.cell? ⟨b, 7, none⟩ = some (.int .i64 0) ∧ w'.cell? ⟨b, 8, none⟩ = some (.slice none 0 0) ∧ w'.cell? ⟨b, 9, none⟩ = some (.string ⟨#[]⟩) ∧ w'.cell? ⟨b, 10, none⟩ = some (.int .i64 0) ∧ w'.cell? ⟨b, 11, none⟩ = some (.int .i64 6) ∧ w'.cell? ⟨b, 12, none⟩ = some (.int .i64 1) ∧ w'.cell? ⟨b, 13, none⟩ = some (.int .i64 1) ∧ w'.cell? ⟨b, 14, none⟩ = some (.string ⟨#[109]⟩) ∧ w'.cell? ⟨b, 15, none⟩ = some (.string ⟨#[]⟩) ∧ w'.cell? ⟨b, 16, none⟩ = some (.int .i64 0) ∧ w'.cell? ⟨b, 17, none⟩ = some (.slice none 0 0) ∧ w'.cell? ⟨b, 18, none⟩ = some (.string ⟨#[]⟩) ∧ w'.cell? ⟨b, 19, none⟩ = some (.int .i64 0)) (go_keep)
    (first
      | (go_at_call 20; (with_reducible refine HCall.out.mono ?_); rintro e W2 ⟨rfl, hS, ht⟩; obtain ⟨k0_, k1_, k2_, k3_, k4_, k5_, k6_, k7_, k8_, k9_, k10_, k11_, k12_, k13_, k14_, k15_, k16_, k17_, k18_, k19_, k20_, k21_, mf⟩ := cells22 (Hd.out.side0 hS ht).blk))
  have H2 := Lib.hid (Hd.out.side0 hS ht)
  have HB2 : Hid (Below b w W2) := Lib.hid ((belowD (Below.refl b w)).trans (below_of_touch ht hle.1 hle.2.1 hle.2.2 (Nat.le_of_lt H0.out.blt)))
  have HBs2 : Hid (base ≤ W2.heap.size) := Lib.hid (Nat.le_trans HBs.out ht.size)
  clear hS ht k0_ k1_ k2_ k3_ k4_ k5_ k6_ k7_ k8_ k9_ k10_ k11_ k12_ k13_ k14_ k15_ k16_ k17_ k18_ k19_ k20_ k21_ mf HCall hle
  cases snd
  · go_wp2_with fail
    go_ret
    exact ⟨rfl, HB2.out, _, _, H2.out⟩
  · go_upto_region 5 with (fail)
    obtain ⟨k0_, k1_, k2_, k3_, k4_, k5_, k6_, k7_, k8_, k9_, k10_, k11_, k12_, k13_, k14_, k15_, k16_, k17_, k18_, k19_, k20_, k21_, mf⟩ := cells22 H2.out.blk
    have hbA := belowDA (w := W2) (.cells #[.int .i64 1, .int .i64 (0)] 174)
    have Hp := Lib.hid (H2.out.below hbA)
    have HgA : Hid ((W2.alloc (.cells #[.int .i64 1, .int .i64 (0)] 174)).drew.heap[W2.heap.size]? = some (.cells #[.int .i64 1, .int .i64 (0)] 174)) := Lib.hid (alloc_newD _ _)
    have HbA := Lib.hid (Nat.le_trans HBs2.out hbA.size)
    have HBA := Lib.hid (HB2.out.trans (hbA.mono (Nat.le_of_lt H2.out.blt)))
    have hkw : ((W2.alloc (.cells #[.int .i64 1, .int .i64 (0)] 174)).drew).cell? ⟨b, 21, none⟩ = some (.slice ao1 q1.length cap1) := by have hh := Hp.out.blk; simp only [World.cell?, hh]; rfl
    clear hbA
    go_region_law (first
        | (refine step_append_q rfl (.tmp 46) (.tmp 48) rfl rfl Hp.out.w1 HbA.out (1, 0) rfl HgA.out (Nat.le_trans HQl.out (by decide)) ?_; intro v' W4 hA; have hblk := (hA.grown.block b Hp.out.blt (fun e => by have := (Hp.out.w1.lt e).1; have := Hp.out.l0; have := Hp.out.l1; have := Hp.out.l2; omega)).trans Hp.out.blk; clear k0_ k1_ k2_ k3_ k4_ k5_ k6_ k7_ k8_ k9_ k10_ k11_ k12_ k13_ k14_ k15_ k16_ k17_ k18_ k19_ k20_ k21_ mf; obtain ⟨k0_, k1_, k2_, k3_, k4_, k5_, k6_, k7_, k8_, k9_, k10_, k11_, k12_, k13_, k14_, k15_, k16_, k17_, k18_, k19_, k20_, k21_, mf⟩ := cells22 hblk; obtain ⟨ao', cap', rfl, _, _⟩ := hA.own.shape))
    all_goals
      have hbB : b < base := by have := Hp.out.l0; have := Hp.out.l1; have := Hp.out.l2; omega
      have hw := Hp.out.way1 hA HbA.out
      have hb4 := HBA.out.trans (hA.grown.below (fun j hj => Nat.le_trans (Nat.le_of_lt hbB) (Hp.out.w1.lt hj).1) (Nat.le_of_lt Hp.out.blt))
      simp only [List.length_append, List.length_cons, List.length_nil, Nat.zero_add] at hw
      have HW := Lib.hid hw
      have HB4 := Lib.hid hb4
      clear hw hb4 hA hkw
      go_wp2_with fail
      go_ret
      exact ⟨rfl, HB4.out.setCell (Nat.le_refl _) _, _, _, HW.out⟩
theorem actJ1 {w : World} {base b z0 h0 m0 z1 h1 m1 : Nat} {v0 v1 : Value} {S0 S1 : LkSt} {q0 q1 : List Sg} (h : ProtAt w base b z0 h0 m0 z1 h1 m1 v0 v1 S0 S1 q0 q1) (hbase : base ≤ w.heap.size) (hn : S1.node = nmM ∧ S1.gen = 1 ∧ 0 ≤ S1.last ∧ S1.last ≤ 1000000) (hq : q0.length ≤ 100000) :
    Calls Tryz.prog 40 #[.pointer (some ⟨b, 0, none⟩), .int .i64 1, .bool true] w (fun e w' => e = .returned (.bool true) ∧ Below b w w' ∧ ProtE w' base b z0 h0 m0 z1 h1 m1 S0 (joinS S1 pX pA) (if sendB S1 pX pA then q0 ++ [(1, 0)] else q0) q1) := by
  obtain ⟨snd, hsnd⟩ : ∃ r, sendB S1 pX pA = r := ⟨_, rfl⟩
  rw [hsnd]
  have HCall : Hid (Calls Tryz.prog 20 #[.pointer (some ⟨z1, 0, none⟩), .agg #[.int .i64 6, .int .i64 1, .int .i64 1, .string ⟨#[109]⟩, .string ⟨#[]⟩, .int .i64 0, .slice none 0 0, .string ⟨#[]⟩, .int .i64 0], .agg #[.int .i64 6, .int .i64 1, .int .i64 1, .string ⟨#[110]⟩, .string ⟨#[]⟩, .int .i64 0, .slice none 0 0, .string ⟨#[]⟩, .int .i64 0]] w.drew (fun e w' => e = .returned (.tuple #[.bool snd, .int .i64 0]) ∧ LkAt w' z1 h1 m1 (joinS S1 pX pA) ∧ TouchB (LkS z1 h1 m1) w.drew w')) := Lib.hid (by
    have hh := joinI (h.below (belowD (Below.refl _ _))).a1 pX pA
    rw [okX, okA, hn.1, hn.2.1, f3m, hsnd] at hh
    exact hh)
  have H0 := Lib.hid h
  have HBs := Lib.hid hbase
  have HQl := Lib.hid hq
  obtain ⟨ao0, cap0, rfl, _, _⟩ := h.w0.shape
  obtain ⟨ao1, cap1, rfl, _, _⟩ := h.w1.shape
  obtain ⟨k0_, k1_, k2_, k3_, k4_, k5_, k6_, k7_, k8_, k9_, k10_, k11_, k12_, k13_, k14_, k15_, k16_, k17_, k18_, k19_, k20_, k21_, mf⟩ := cells22 h.blk
  clear h hbase hq hn hsnd
  go_enter Tryz.func40, Tryz.ntmps40
  go_upto_region 3 with (fail)
  have hle : b ≤ z1 ∧ b ≤ h1 ∧ b ≤ m1 := by have := H0.out.l0; have := H0.out.l1; omega
  have Hd := Lib.hid (H0.out.below (belowD (Below.refl w.heap.size w)))
  go_region_held3 (fun w' => w'.cell? ⟨b, 0, none⟩ = some (.pointer (some ⟨z0, 0, none⟩)) ∧ w'.cell? ⟨b, 1, none⟩ = some (.pointer (some ⟨z1, 0, none⟩)) ∧ w'.cell? ⟨b, 2, none⟩ = some (.int .i64 6) ∧ w'.cell? ⟨b, 3, none⟩ = some (.int .i64 1) ∧ w'.cell? ⟨b, 4, none⟩ = some (.int .i64 1) ∧ w'.cell? ⟨b, 5, none⟩ = some (.string ⟨#[110]⟩) ∧ w'.cell? ⟨b, 6, none⟩ = some (.string ⟨#[]⟩) ∧ w'.cell? ⟨b, 7, none⟩ = some (.int .i64 0) ∧ w'.cell? ⟨b, 8, none⟩ = some (.slice none 0 0) ∧ w'.cell? ⟨b, 9, none⟩ = some (.string ⟨#[]⟩) ∧ w'.cell? ⟨b, 10, none⟩ = some (.int .i64 0) ∧ w'.cell? ⟨b, 11, none⟩ = some (.int .i64 6) ∧ w'.cell? ⟨b, 12, none⟩ = some (.int .i64 1) ∧ w'.cell? ⟨b, 13, none⟩ = some (.int .i64 1) ∧ w'.cell? ⟨b, 14, none⟩ = some (.string ⟨#[109]⟩) ∧ w'.cell? ⟨b, 15, none⟩ = some (.string ⟨#[]⟩) ∧ w'.cell? ⟨b, 16, none⟩ = some (.int .i64 0) ∧ w'.cell? ⟨b, 17, none⟩ = some (.slice none 0 0) ∧ w'.cell? ⟨b, 18, none⟩ = some (.string ⟨#[]⟩) ∧ w'.cell? ⟨b, 19, none⟩ = some (.int .i64 0)) (go_keep)
    (first
      | (go_at_call 20; (with_reducible refine HCall.out.mono ?_); rintro e W2 ⟨rfl, hS, ht⟩; obtain ⟨k0_, k1_, k2_, k3_, k4_, k5_, k6_, k7_, k8_, k9_, k10_, k11_, k12_, k13_, k14_, k15_, k16_, k17_, k18_, k19_, k20_, k21_, mf⟩ := cells22 (Hd.out.side1 hS ht).blk))
  have H2 := Lib.hid (Hd.out.side1 hS ht)
  have HB2 : Hid (Below b w W2) := Lib.hid ((belowD (Below.refl b w)).trans (below_of_touch ht hle.1 hle.2.1 hle.2.2 (Nat.le_of_lt H0.out.blt)))
  have HBs2 : Hid (base ≤ W2.heap.size) := Lib.hid (Nat.le_trans HBs.out ht.size)
  clear hS ht k0_ k1_ k2_ k3_ k4_ k5_ k6_ k7_ k8_ k9_ k10_ k11_ k12_ k13_ k14_ k15_ k16_ k17_ k18_ k19_ k20_ k21_ mf HCall hle
  cases snd
  · go_wp2_with fail
    go_ret
    exact ⟨rfl, HB2.out, _, _, H2.out⟩
  · go_upto_region 5 with (fail)
    obtain ⟨k0_, k1_, k2_, k3_, k4_, k5_, k6_, k7_, k8_, k9_, k10_, k11_, k12_, k13_, k14_, k15_, k16_, k17_, k18_, k19_, k20_, k21_, mf⟩ := cells22 H2.out.blk
    have hbA := belowDA (w := W2) (.cells #[.int .i64 1, .int .i64 (0)] 174)
    have Hp := Lib.hid (H2.out.below hbA)
    have HgA : Hid ((W2.alloc (.cells #[.int .i64 1, .int .i64 (0)] 174)).drew.heap[W2.heap.size]? = some (.cells #[.int .i64 1, .int .i64 (0)] 174)) := Lib.hid (alloc_newD _ _)
    have HbA := Lib.hid (Nat.le_trans HBs2.out hbA.size)
    have HBA := Lib.hid (HB2.out.trans (hbA.mono (Nat.le_of_lt H2.out.blt)))
    have hkw : ((W2.alloc (.cells #[.int .i64 1, .int .i64 (0)] 174)).drew).cell? ⟨b, 20, none⟩ = some (.slice ao0 q0.length cap0) := by have hh := Hp.out.blk; simp only [World.cell?, hh]; rfl
    clear hbA
    go_region_law (first
        | (refine step_append_q rfl (.tmp 46) (.tmp 48) rfl rfl Hp.out.w0 HbA.out (1, 0) rfl HgA.out (Nat.le_trans HQl.out (by decide)) ?_; intro v' W4 hA; have hblk := (hA.grown.block b Hp.out.blt (fun e => by have := (Hp.out.w0.lt e).1; have := Hp.out.l0; have := Hp.out.l1; have := Hp.out.l2; omega)).trans Hp.out.blk; clear k0_ k1_ k2_ k3_ k4_ k5_ k6_ k7_ k8_ k9_ k10_ k11_ k12_ k13_ k14_ k15_ k16_ k17_ k18_ k19_ k20_ k21_ mf; obtain ⟨k0_, k1_, k2_, k3_, k4_, k5_, k6_, k7_, k8_, k9_, k10_, k11_, k12_, k13_, k14_, k15_, k16_, k17_, k18_, k19_, k20_, k21_, mf⟩ := cells22 hblk; obtain ⟨ao', cap', rfl, _, _⟩ := hA.own.shape))
    all_goals
      have hbB : b < base := by have := Hp.out.l0; have := Hp.out.l1; have := Hp.out.l2; omega
      have hw := Hp.out.way0 hA HbA.out
      have hb4 := HBA.out.trans (hA.grown.below (fun j hj => Nat.le_trans (Nat.le_of_lt hbB) (Hp.out.w0.lt hj).1) (Nat.le_of_lt Hp.out.blt))
      simp only [List.length_append, List.length_cons, List.length_nil, Nat.zero_add] at hw
      have HW := Lib.hid hw
      have HB4 := Lib.hid hb4
      clear hw hb4 hA hkw
      go_wp2_with fail
      go_ret
      exact ⟨rfl, HB4.out.setCell (Nat.le_refl _) _, _, _, HW.out⟩
theorem actP0 {w : World} {base b z0 h0 m0 z1 h1 m1 : Nat} {v0 v1 : Value} {S0 S1 : LkSt} {q0 q1 : List Sg} (h : ProtAt w base b z0 h0 m0 z1 h1 m1 v0 v1 S0 S1 q0 q1) (hbase : base ≤ w.heap.size) (hn : S0.node = nmN ∧ S0.gen = 1 ∧ 0 ≤ S0.last ∧ S0.last ≤ 1000000) (hq : q1.length ≤ 100000) :
    Calls Tryz.prog 40 #[.pointer (some ⟨b, 0, none⟩), .int .i64 0, .bool false] w (fun e w' => e = .returned (.bool true) ∧ Below b w w' ∧ ProtE w' base b z0 h0 m0 z1 h1 m1 (partS S0 pA pX) S1 q0 (if partB S0 pA pX then q1 ++ [(2, partN S0 pA pX)] else q1)) := by
  obtain ⟨snd, hsnd⟩ : ∃ r, partB S0 pA pX = r := ⟨_, rfl⟩
  rw [hsnd]
  have HCall : Hid (Calls Tryz.prog 18 #[.pointer (some ⟨z0, 0, none⟩), .agg #[.int .i64 6, .int .i64 1, .int .i64 1, .string ⟨#[110]⟩, .string ⟨#[]⟩, .int .i64 0, .slice none 0 0, .string ⟨#[]⟩, .int .i64 0], .agg #[.int .i64 6, .int .i64 1, .int .i64 1, .string ⟨#[109]⟩, .string ⟨#[]⟩, .int .i64 0, .slice none 0 0, .string ⟨#[]⟩, .int .i64 0]] w.drew (fun e w' => e = .returned (.tuple #[.int .i64 (partN S0 pA pX), .bool snd, .int .i64 0]) ∧ LkAt w' z0 h0 m0 (partS S0 pA pX) ∧ TouchB (LkS z0 h0 m0) w.drew w')) := Lib.hid (by
    have hh := partI (h.below (belowD (Below.refl _ _))).a0 pA pX hn.2.2.1 (by have := hn.2.2.2; omega)
    rw [okA, okX, hn.1, hn.2.1, f3, hsnd] at hh
    exact hh)
  have H0 := Lib.hid h
  have HBs := Lib.hid hbase
  have HQl := Lib.hid hq
  obtain ⟨ao0, cap0, rfl, _, _⟩ := h.w0.shape
  obtain ⟨ao1, cap1, rfl, _, _⟩ := h.w1.shape
  obtain ⟨k0_, k1_, k2_, k3_, k4_, k5_, k6_, k7_, k8_, k9_, k10_, k11_, k12_, k13_, k14_, k15_, k16_, k17_, k18_, k19_, k20_, k21_, mf⟩ := cells22 h.blk
  clear h hbase hq hn hsnd
  go_enter Tryz.func40, Tryz.ntmps40
  go_upto_region 7 with (fail)
  have hle : b ≤ z0 ∧ b ≤ h0 ∧ b ≤ m0 := by have := H0.out.l0; have := H0.out.l1; omega
  have Hd := Lib.hid (H0.out.below (belowD (Below.refl w.heap.size w)))
  go_region_held3 (fun w' => w'.cell? ⟨b, 0, none⟩ = some (.pointer (some ⟨z0, 0, none⟩)) ∧ w'.cell? ⟨b, 1, none⟩ = some (.pointer (some ⟨z1, 0, none⟩)) ∧ w'.cell? ⟨b, 2, none⟩ = some (.int .i64 6) ∧ w'.cell? ⟨b, 3, none⟩ = some (.int .i64 1) ∧ w'.cell? ⟨b, 4, none⟩ = some (.int .i64 1) ∧ w'.cell? ⟨b, 5, none⟩ = some (.string ⟨#[110]⟩) ∧ w'.cell? ⟨b, 6, none⟩ = some (.string ⟨#[]⟩) ∧ w'.cell? ⟨b, 7, none⟩ = some (.int .i64 0) ∧ w'.cell? ⟨b, 8, none⟩ = some (.slice none 0 0) ∧ w'.cell? ⟨b, 9, none⟩ = some (.string ⟨#[]⟩) ∧ w'.cell? ⟨b, 10, none⟩ = some (.int .i64 0) ∧ w'.cell? ⟨b, 11, none⟩ = some (.int .i64 6) ∧ w'.cell? ⟨b, 12, none⟩ = some (.int .i64 1) ∧ w'.cell? ⟨b, 13, none⟩ = some (.int .i64 1) ∧ w'.cell? ⟨b, 14, none⟩ = some (.string ⟨#[109]⟩) ∧ w'.cell? ⟨b, 15, none⟩ = some (.string ⟨#[]⟩) ∧ w'.cell? ⟨b, 16, none⟩ = some (.int .i64 0) ∧ w'.cell? ⟨b, 17, none⟩ = some (.slice none 0 0) ∧ w'.cell? ⟨b, 18, none⟩ = some (.string ⟨#[]⟩) ∧ w'.cell? ⟨b, 19, none⟩ = some (.int .i64 0)) (go_keep)
    (first
      | (go_at_call 18; (with_reducible refine HCall.out.mono ?_); rintro e W2 ⟨rfl, hS, ht⟩; obtain ⟨k0_, k1_, k2_, k3_, k4_, k5_, k6_, k7_, k8_, k9_, k10_, k11_, k12_, k13_, k14_, k15_, k16_, k17_, k18_, k19_, k20_, k21_, mf⟩ := cells22 (Hd.out.side0 hS ht).blk))
  have H2 := Lib.hid (Hd.out.side0 hS ht)
  have HB2 : Hid (Below b w W2) := Lib.hid ((belowD (Below.refl b w)).trans (below_of_touch ht hle.1 hle.2.1 hle.2.2 (Nat.le_of_lt H0.out.blt)))
  have HBs2 : Hid (base ≤ W2.heap.size) := Lib.hid (Nat.le_trans HBs.out ht.size)
  clear hS ht k0_ k1_ k2_ k3_ k4_ k5_ k6_ k7_ k8_ k9_ k10_ k11_ k12_ k13_ k14_ k15_ k16_ k17_ k18_ k19_ k20_ k21_ mf HCall hle
  cases snd
  · go_wp2_with fail
    go_ret
    exact ⟨rfl, HB2.out, _, _, H2.out⟩
  · go_upto_region 9 with (fail)
    obtain ⟨k0_, k1_, k2_, k3_, k4_, k5_, k6_, k7_, k8_, k9_, k10_, k11_, k12_, k13_, k14_, k15_, k16_, k17_, k18_, k19_, k20_, k21_, mf⟩ := cells22 H2.out.blk
    have hbA := belowDA (w := W2) (.cells #[.int .i64 2, .int .i64 (partN S0 pA pX)] 174)
    have Hp := Lib.hid (H2.out.below hbA)
    have HgA : Hid ((W2.alloc (.cells #[.int .i64 2, .int .i64 (partN S0 pA pX)] 174)).drew.heap[W2.heap.size]? = some (.cells #[.int .i64 2, .int .i64 (partN S0 pA pX)] 174)) := Lib.hid (alloc_newD _ _)
    have HbA := Lib.hid (Nat.le_trans HBs2.out hbA.size)
    have HBA := Lib.hid (HB2.out.trans (hbA.mono (Nat.le_of_lt H2.out.blt)))
    have hkw : ((W2.alloc (.cells #[.int .i64 2, .int .i64 (partN S0 pA pX)] 174)).drew).cell? ⟨b, 21, none⟩ = some (.slice ao1 q1.length cap1) := by have hh := Hp.out.blk; simp only [World.cell?, hh]; rfl
    clear hbA
    go_region_law (first
        | (refine step_append_q rfl (.tmp 86) (.tmp 89) rfl rfl Hp.out.w1 HbA.out (2, partN S0 pA pX) rfl HgA.out (Nat.le_trans HQl.out (by decide)) ?_; intro v' W4 hA; have hblk := (hA.grown.block b Hp.out.blt (fun e => by have := (Hp.out.w1.lt e).1; have := Hp.out.l0; have := Hp.out.l1; have := Hp.out.l2; omega)).trans Hp.out.blk; clear k0_ k1_ k2_ k3_ k4_ k5_ k6_ k7_ k8_ k9_ k10_ k11_ k12_ k13_ k14_ k15_ k16_ k17_ k18_ k19_ k20_ k21_ mf; obtain ⟨k0_, k1_, k2_, k3_, k4_, k5_, k6_, k7_, k8_, k9_, k10_, k11_, k12_, k13_, k14_, k15_, k16_, k17_, k18_, k19_, k20_, k21_, mf⟩ := cells22 hblk; obtain ⟨ao', cap', rfl, _, _⟩ := hA.own.shape))
    all_goals
      have hbB : b < base := by have := Hp.out.l0; have := Hp.out.l1; have := Hp.out.l2; omega
      have hw := Hp.out.way1 hA HbA.out
      have hb4 := HBA.out.trans (hA.grown.below (fun j hj => Nat.le_trans (Nat.le_of_lt hbB) (Hp.out.w1.lt hj).1) (Nat.le_of_lt Hp.out.blt))
      simp only [List.length_append, List.length_cons, List.length_nil, Nat.zero_add] at hw
      have HW := Lib.hid hw
      have HB4 := Lib.hid hb4
      clear hw hb4 hA hkw
      go_wp2_with fail
      go_ret
      exact ⟨rfl, HB4.out.setCell (Nat.le_refl _) _, _, _, HW.out⟩
theorem actP1 {w : World} {base b z0 h0 m0 z1 h1 m1 : Nat} {v0 v1 : Value} {S0 S1 : LkSt} {q0 q1 : List Sg} (h : ProtAt w base b z0 h0 m0 z1 h1 m1 v0 v1 S0 S1 q0 q1) (hbase : base ≤ w.heap.size) (hn : S1.node = nmM ∧ S1.gen = 1 ∧ 0 ≤ S1.last ∧ S1.last ≤ 1000000) (hq : q0.length ≤ 100000) :
    Calls Tryz.prog 40 #[.pointer (some ⟨b, 0, none⟩), .int .i64 1, .bool false] w (fun e w' => e = .returned (.bool true) ∧ Below b w w' ∧ ProtE w' base b z0 h0 m0 z1 h1 m1 S0 (partS S1 pX pA) (if partB S1 pX pA then q0 ++ [(2, partN S1 pX pA)] else q0) q1) := by
  obtain ⟨snd, hsnd⟩ : ∃ r, partB S1 pX pA = r := ⟨_, rfl⟩
  rw [hsnd]
  have HCall : Hid (Calls Tryz.prog 18 #[.pointer (some ⟨z1, 0, none⟩), .agg #[.int .i64 6, .int .i64 1, .int .i64 1, .string ⟨#[109]⟩, .string ⟨#[]⟩, .int .i64 0, .slice none 0 0, .string ⟨#[]⟩, .int .i64 0], .agg #[.int .i64 6, .int .i64 1, .int .i64 1, .string ⟨#[110]⟩, .string ⟨#[]⟩, .int .i64 0, .slice none 0 0, .string ⟨#[]⟩, .int .i64 0]] w.drew (fun e w' => e = .returned (.tuple #[.int .i64 (partN S1 pX pA), .bool snd, .int .i64 0]) ∧ LkAt w' z1 h1 m1 (partS S1 pX pA) ∧ TouchB (LkS z1 h1 m1) w.drew w')) := Lib.hid (by
    have hh := partI (h.below (belowD (Below.refl _ _))).a1 pX pA hn.2.2.1 (by have := hn.2.2.2; omega)
    rw [okX, okA, hn.1, hn.2.1, f3m, hsnd] at hh
    exact hh)
  have H0 := Lib.hid h
  have HBs := Lib.hid hbase
  have HQl := Lib.hid hq
  obtain ⟨ao0, cap0, rfl, _, _⟩ := h.w0.shape
  obtain ⟨ao1, cap1, rfl, _, _⟩ := h.w1.shape
  obtain ⟨k0_, k1_, k2_, k3_, k4_, k5_, k6_, k7_, k8_, k9_, k10_, k11_, k12_, k13_, k14_, k15_, k16_, k17_, k18_, k19_, k20_, k21_, mf⟩ := cells22 h.blk
  clear h hbase hq hn hsnd
  go_enter Tryz.func40, Tryz.ntmps40
  go_upto_region 7 with (fail)
  have hle : b ≤ z1 ∧ b ≤ h1 ∧ b ≤ m1 := by have := H0.out.l0; have := H0.out.l1; omega
  have Hd := Lib.hid (H0.out.below (belowD (Below.refl w.heap.size w)))
  go_region_held3 (fun w' => w'.cell? ⟨b, 0, none⟩ = some (.pointer (some ⟨z0, 0, none⟩)) ∧ w'.cell? ⟨b, 1, none⟩ = some (.pointer (some ⟨z1, 0, none⟩)) ∧ w'.cell? ⟨b, 2, none⟩ = some (.int .i64 6) ∧ w'.cell? ⟨b, 3, none⟩ = some (.int .i64 1) ∧ w'.cell? ⟨b, 4, none⟩ = some (.int .i64 1) ∧ w'.cell? ⟨b, 5, none⟩ = some (.string ⟨#[110]⟩) ∧ w'.cell? ⟨b, 6, none⟩ = some (.string ⟨#[]⟩) ∧ w'.cell? ⟨b, 7, none⟩ = some (.int .i64 0) ∧ w'.cell? ⟨b, 8, none⟩ = some (.slice none 0 0) ∧ w'.cell? ⟨b, 9, none⟩ = some (.string ⟨#[]⟩) ∧ w'.cell? ⟨b, 10, none⟩ = some (.int .i64 0) ∧ w'.cell? ⟨b, 11, none⟩ = some (.int .i64 6) ∧ w'.cell? ⟨b, 12, none⟩ = some (.int .i64 1) ∧ w'.cell? ⟨b, 13, none⟩ = some (.int .i64 1) ∧ w'.cell? ⟨b, 14, none⟩ = some (.string ⟨#[109]⟩) ∧ w'.cell? ⟨b, 15, none⟩ = some (.string ⟨#[]⟩) ∧ w'.cell? ⟨b, 16, none⟩ = some (.int .i64 0) ∧ w'.cell? ⟨b, 17, none⟩ = some (.slice none 0 0) ∧ w'.cell? ⟨b, 18, none⟩ = some (.string ⟨#[]⟩) ∧ w'.cell? ⟨b, 19, none⟩ = some (.int .i64 0)) (go_keep)
    (first
      | (go_at_call 18; (with_reducible refine HCall.out.mono ?_); rintro e W2 ⟨rfl, hS, ht⟩; obtain ⟨k0_, k1_, k2_, k3_, k4_, k5_, k6_, k7_, k8_, k9_, k10_, k11_, k12_, k13_, k14_, k15_, k16_, k17_, k18_, k19_, k20_, k21_, mf⟩ := cells22 (Hd.out.side1 hS ht).blk))
  have H2 := Lib.hid (Hd.out.side1 hS ht)
  have HB2 : Hid (Below b w W2) := Lib.hid ((belowD (Below.refl b w)).trans (below_of_touch ht hle.1 hle.2.1 hle.2.2 (Nat.le_of_lt H0.out.blt)))
  have HBs2 : Hid (base ≤ W2.heap.size) := Lib.hid (Nat.le_trans HBs.out ht.size)
  clear hS ht k0_ k1_ k2_ k3_ k4_ k5_ k6_ k7_ k8_ k9_ k10_ k11_ k12_ k13_ k14_ k15_ k16_ k17_ k18_ k19_ k20_ k21_ mf HCall hle
  cases snd
  · go_wp2_with fail
    go_ret
    exact ⟨rfl, HB2.out, _, _, H2.out⟩
  · go_upto_region 9 with (fail)
    obtain ⟨k0_, k1_, k2_, k3_, k4_, k5_, k6_, k7_, k8_, k9_, k10_, k11_, k12_, k13_, k14_, k15_, k16_, k17_, k18_, k19_, k20_, k21_, mf⟩ := cells22 H2.out.blk
    have hbA := belowDA (w := W2) (.cells #[.int .i64 2, .int .i64 (partN S1 pX pA)] 174)
    have Hp := Lib.hid (H2.out.below hbA)
    have HgA : Hid ((W2.alloc (.cells #[.int .i64 2, .int .i64 (partN S1 pX pA)] 174)).drew.heap[W2.heap.size]? = some (.cells #[.int .i64 2, .int .i64 (partN S1 pX pA)] 174)) := Lib.hid (alloc_newD _ _)
    have HbA := Lib.hid (Nat.le_trans HBs2.out hbA.size)
    have HBA := Lib.hid (HB2.out.trans (hbA.mono (Nat.le_of_lt H2.out.blt)))
    have hkw : ((W2.alloc (.cells #[.int .i64 2, .int .i64 (partN S1 pX pA)] 174)).drew).cell? ⟨b, 20, none⟩ = some (.slice ao0 q0.length cap0) := by have hh := Hp.out.blk; simp only [World.cell?, hh]; rfl
    clear hbA
    go_region_law (first
        | (refine step_append_q rfl (.tmp 86) (.tmp 89) rfl rfl Hp.out.w0 HbA.out (2, partN S1 pX pA) rfl HgA.out (Nat.le_trans HQl.out (by decide)) ?_; intro v' W4 hA; have hblk := (hA.grown.block b Hp.out.blt (fun e => by have := (Hp.out.w0.lt e).1; have := Hp.out.l0; have := Hp.out.l1; have := Hp.out.l2; omega)).trans Hp.out.blk; clear k0_ k1_ k2_ k3_ k4_ k5_ k6_ k7_ k8_ k9_ k10_ k11_ k12_ k13_ k14_ k15_ k16_ k17_ k18_ k19_ k20_ k21_ mf; obtain ⟨k0_, k1_, k2_, k3_, k4_, k5_, k6_, k7_, k8_, k9_, k10_, k11_, k12_, k13_, k14_, k15_, k16_, k17_, k18_, k19_, k20_, k21_, mf⟩ := cells22 hblk; obtain ⟨ao', cap', rfl, _, _⟩ := hA.own.shape))
    all_goals
      have hbB : b < base := by have := Hp.out.l0; have := Hp.out.l1; have := Hp.out.l2; omega
      have hw := Hp.out.way0 hA HbA.out
      have hb4 := HBA.out.trans (hA.grown.below (fun j hj => Nat.le_trans (Nat.le_of_lt hbB) (Hp.out.w0.lt hj).1) (Nat.le_of_lt Hp.out.blt))
      simp only [List.length_append, List.length_cons, List.length_nil, Nat.zero_add] at hw
      have HW := Lib.hid hw
      have HB4 := Lib.hid hb4
      clear hw hb4 hA hkw
      go_wp2_with fail
      go_ret
      exact ⟨rfl, HB4.out.setCell (Nat.le_refl _) _, _, _, HW.out⟩
end Go.Proofs.YtnakbepcalciiaaGreat.lk
