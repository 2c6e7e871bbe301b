/- The walk of NamesFinds: it returns true. Conditions: the lists are in memory that the call does not own. -/
import Derived.Test.YtlcabmkjacimnaaNamesI
namespace Go.Proofs.Ytlcabmkjacimnaa.names
open Go.RowKit mem
set_option linter.unusedVariables false
set_option linter.unusedSimpArgs false
set_option maxHeartbeats 1000000

/-- a slice of integers reads qs zs -/
def Nums (w : World) (p : Option Addr) (zs : List Int) : Prop := ∀ i, (h : i < zs.length) → ∃ a, p = some a ∧ a.block < w.heap.size ∧ w.cell? (a.add i) = some (.int .i64 zs[i])
theorem Nums.below {w w' : World} {p : Option Addr} {zs : List Int} (h : Nums w p zs) (hb : Below w.heap.size w w') : Nums w' p zs := by
  intro i hi
  obtain ⟨a, ha, hl, hc⟩ := h i hi
  exact ⟨a, ha, Nat.lt_of_lt_of_le hl hb.size, by rw [hb.cell (by rw [add_block]; exact hl)]; exact hc⟩

theorem Own.below {B : Nat} {w w' : World} {b : Nat} {L : List ByteArray} {m : Nat} {p : Option Addr} {c : Nat} (h : Own B w b L m p c) (hb : Below w.heap.size w w') : Own B w' b L m p c := ⟨h.tab.below hb, h.new⟩

set_option maxRecDepth 100000 in
theorem lawFinds (W : World) (pl : Option Addr) (l : List ByteArray) (cl : Nat) (hl : Strs W pl l) (hm : l.length ≤ maxLen) (pa : Option Addr) (qs : List ByteArray) (ca : Nat) (ha : Strs W pa qs) (hma : qs.length ≤ maxLen)
    (pz : Option Addr) (zs : List Int) (cz : Nat) (hz : Nums W pz zs) (hmz : zs.length ≤ maxLen) :
    Calls Try.prog 11 #[.slice pl l.length cl, .slice pa qs.length ca, .slice pz zs.length cz] W fun e w' => e = .returned (.bool true) ∧ Below W.heap.size W w' := by
  unfold maxLen at hm hma hmz
  have big : 300 < l.length ∨ (¬ 300 < l.length ∧ 300 < qs.length) ∨ (¬ 300 < l.length ∧ ¬ 300 < qs.length ∧ 300 < zs.length) ∨ (¬ 300 < l.length ∧ ¬ 300 < qs.length ∧ ¬ 300 < zs.length) := by omega
  rcases big with h1 | ⟨h1, h2⟩ | ⟨h1, h2, h3⟩ | ⟨h1, h2, h3⟩
  · go_enter Try.func11, Try.ntmps11
    go_wp2_with (first | (go_at_call 31; refine (large _ _ _ _).mono ?_; rintro e w' ⟨rfl, rfl⟩) | (go_at_call 19; refine (awake _).mono ?_; rintro e w1 ⟨rfl, hb⟩))
    go_ret
    exact ⟨rfl, hb⟩
  · go_enter Try.func11, Try.ntmps11
    go_wp2_with (first | (go_at_call 31; refine (large _ _ _ _).mono ?_; rintro e w' ⟨rfl, rfl⟩) | (go_at_call 19; refine (awake _).mono ?_; rintro e w1 ⟨rfl, hb⟩))
    go_ret
    exact ⟨rfl, hb⟩
  · go_enter Try.func11, Try.ntmps11
    go_wp2_with (first | (go_at_call 31; refine (large _ _ _ _).mono ?_; rintro e w' ⟨rfl, rfl⟩) | (go_at_call 19; refine (awake _).mono ?_; rintro e w1 ⟨rfl, hb⟩))
    go_ret
    exact ⟨rfl, hb⟩
  · have HL := Lib.hid hl; clear hl
    have HA := Lib.hid ha; clear ha
    have HN := Lib.hid hz; clear hz
    go_enter Try.func11, Try.ntmps11
    go_wp2_with (go_at_call 31; refine (large _ _ _ _).mono ?_; rintro e w' ⟨rfl, rfl⟩)
    refine (new_own _ (Below.refl _ _)).mono ?_
    rintro e w0 ⟨rfl, hT0, hb0, ht0, hz0⟩
    have HZ := Lib.hid hz0; clear hz0
    go_wp2_with fail
    go_loopw [8, 9] (fun all i wr => ∃ (k : Nat) (p : Option Addr) (c : Nat) (q : Option Addr) (d : Nat), i = .int .i64 k ∧ k ≤ l.length ∧ all = .slice q (puts l k).length d ∧ (q = none → d = 0) ∧
      Own W.heap.size wr (W.heap.size + 1) (puts l k) W.heap.size p c ∧ Strs wr q (puts l k) ∧ (∀ a, q = some a → ¬ foot (W.heap.size + 1) W.heap.size p a.block) ∧ (∀ a, q = some a → a.block < wr.heap.size) ∧ Below W.heap.size W wr) (fun _ i _ => l.length - (intOf i).toNat)
    case atStart =>
      exact ⟨0, none, 0, none, 0, rfl, Nat.zero_le _, rfl, fun _ => rfl, hT0, (fun i hi => absurd hi (by simp [puts])), (fun a ha => by cases ha), (fun a ha => by cases ha), hb0⟩
    case round =>
      obtain ⟨k, p, c, q, d, rfl, hk, rfl, hqd, hT, hq, hqf, hqs, hb⟩ := hrel
      have hlen := puts_len l k
      have HQF := Lib.hid hqf; clear hqf
      have HQS := Lib.hid hqs; clear hqs
      have HQD := Lib.hid hqd; clear hqd
      by_cases hlt : k < l.length
      · obtain ⟨a1, rfl, b1, e1⟩ := (HL.out.below hb) k hlt
        have hps := puts_succ l k hlt
        have HPS := Lib.hid hps; clear hps
        go_wp2_with fail
        refine (put_own hT _ (by omega) hb).mono ?_
        rintro e w2 ⟨rfl, p2, c2, hT2, hb2, ht2, hf2⟩
        obtain ⟨a2, ha2, b2, e2⟩ := (HL.out.below hb2) k hlt
        cases ha2
        have hq2 := hq.touch ht2 HQF.out
        go_wp2_with fail
        refine (RPut _ q _ d _ HQD.out hq2 (by omega)).mono ?_
        rintro e w3 ⟨q3, d3, rfl, hqd3, hq3, hb3, hq3n⟩
        have HQD3 := Lib.hid hqd3; clear hqd3
        have HQ3N := Lib.hid hq3n; clear hq3n
        have hT3 : Own W.heap.size w3 (W.heap.size + 1) (putL (puts l k) l[k]) W.heap.size p2 c2 := ⟨hT2.tab.below hb3, hT2.new⟩
        go_wp2_with fail
        go_roundw
        case rel =>
          refine ⟨k + 1, p2, c2, q3, d3, by go_num, by omega, by rw [HPS.out], HQD3.out, by rw [HPS.out]; exact hT3, by rw [HPS.out]; exact hq3, ?_, ?_, hb2.trans (hb3.mono hb2.size)⟩
          · intro a ha hfoot
            rcases HQ3N.out a ha with h | h
            · rcases hf2 _ hfoot with h' | h'
              · exact HQF.out a h h'
              · have := HQS.out a h; omega
            · have := hT2.tab.lt _ hfoot; omega
          · intro a ha
            rcases HQ3N.out a ha with h | h
            · have := HQS.out a h; have := ht2.size; have := hb3.size; omega
            · exact h.2
        case measure => simp [intOf]; omega
      · obtain rfl : k = l.length := by omega
        have HQ := Lib.hid hq; clear hq
        obtain ⟨wo, rfl⟩ : ∃ wo : World, wo = wr := ⟨_, rfl⟩
        go_wp2_with fail
        go_loopw [10] (fun i w1 => ∃ j : Nat, i = .int .i64 j ∧ j ≤ qs.length ∧ Below wo.heap.size wo w1) (fun i _ => qs.length - (intOf i).toNat)
        case atStart => exact ⟨0, rfl, Nat.zero_le _, Below.refl _ _⟩
        case round =>
          obtain ⟨j, rfl, hj, hbj⟩ := hrel
          have hbW := hb.trans (hbj.mono hb.size)
          by_cases hjt : j < qs.length
          · obtain ⟨a1, rfl, b1, e1⟩ := (HA.out.below hbW) j hjt
            go_wp2_with fail
            refine (Find _ _ _ _ _ _ (hT.tab.below hbj) _).mono ?_
            rintro e w2 ⟨rfl, rfl⟩
            go_wp2_with fail
            refine (RFind _ q _ d _ (HQ.out.below hbj) (by unfold maxLen; omega)).mono ?_
            rintro e w3 ⟨rfl, hb3⟩
            go_wp2_with fail
            go_roundw
            case rel => exact ⟨j + 1, by go_num, by omega, hbj.trans (hb3.mono hbj.size)⟩
            case measure => simp [intOf]; omega
          · go_wp2_with fail
            go_loopw [15] (fun i w1 => ∃ j : Nat, i = .int .i64 j ∧ j ≤ zs.length ∧ Below wo.heap.size wo w1) (fun i _ => zs.length - (intOf i).toNat)
            case atStart => exact ⟨0, rfl, Nat.zero_le _, hbj⟩
            case round =>
              obtain ⟨i, rfl, hi, hbi⟩ := hrel
              have hbW := hb.trans (hbi.mono hb.size)
              by_cases hit : i < zs.length
              · obtain ⟨a1, rfl, b1, e1⟩ := (HN.out.below hbW) i hit
                go_wp2_with fail
                refine (Name _ _ _ _ _ _ (hT.tab.below hbi) _ (by unfold maxLen; omega)).mono ?_
                rintro e w2 ⟨rfl, rfl⟩
                go_wp2_with fail
                refine (RName _ q _ d _ (HQ.out.below hbi) (by unfold maxLen; omega)).mono ?_
                rintro e w3 ⟨rfl, rfl⟩
                go_wp2_with fail
                go_roundw
                case rel => exact ⟨i + 1, by go_num, by omega, hbi⟩
                case measure => simp [intOf]; omega
              · go_wp2_with fail
                refine (Len _ _ _ _ _ _ (hT.tab.below hbi)).mono ?_
                rintro e w2 ⟨rfl, rfl⟩
                go_wp2_with fail
                refine (All _ _ _ _ _ _ (hT.tab.below hbi) (by omega) (by unfold maxLen; omega)).mono ?_
                rintro e w2 ⟨v, rfl, hv, hb2⟩
                obtain ⟨q2, d2, rfl⟩ := row_shape hv
                go_wp2_with fail
                refine (SameStrings _ q2 q _ _ d2 d (Strs.ofRow hv) ((HQ.out.below hbi).below hb2) (by unfold maxLen; omega)).mono ?_
                rintro e w3 ⟨rfl, hb3⟩
                go_wp2_with fail
                refine (awake _).mono ?_
                rintro e w4 ⟨rfl, hb4⟩
                go_wp2_with fail
                go_ret
                have s1 := hbW.size
                have s2 := hb2.size
                have s3 := hb3.size
                exact ⟨rfl, hbW.trans ((hb2.mono s1).trans ((hb3.mono (by omega)).trans (hb4.mono (by omega))))⟩
end Go.Proofs.Ytlcabmkjacimnaa.names
