/- The walks of NamesPuts and NamesFinds: each returns true. Conditions: the lists are in memory that the call does not own. -/
import Derived.Test.YtlcabmkjacimnaaNamesG
namespace Go.Proofs.Ytlcabmkjacimnaa.names
open Go.RowKit mem
set_option linter.unusedVariables false
set_option linter.unusedSimpArgs false
set_option maxHeartbeats 1000000

def puts (l : List ByteArray) (k : Nat) : List ByteArray := (l.take k).foldl putL []
theorem puts_succ (l : List ByteArray) (k : Nat) (h : k < l.length) : puts l (k + 1) = putL (puts l k) l[k] := by
  unfold puts; rw [List.take_succ_eq_append_getElem h, List.foldl_append]; rfl
theorem putL_len (L : List ByteArray) (s : ByteArray) : (putL L s).length ≤ L.length + 1 := by
  unfold putL; split
  · split <;> simp
  · omega
theorem puts_len (l : List ByteArray) (k : Nat) : (puts l k).length ≤ k := by
  induction k with
  | zero => simp [puts]
  | succ k ih =>
    by_cases h : k < l.length
    · rw [puts_succ l k h]; have := putL_len (puts l k) l[k]; omega
    · have : puts l (k + 1) = puts l k := by unfold puts; rw [List.take_of_length_le (by omega), List.take_of_length_le (by omega)]
      rw [this]; omega

theorem Strs.touch {w w' : World} {p : Option Addr} {L : List ByteArray} (h : Strs w p L) {S : Nat → Prop} (ht : TouchB S w w') (hS : ∀ a, p = some a → ¬ S a.block) : Strs w' p L := by
  intro i hi
  obtain ⟨a, ha, hl, hc⟩ := h i hi
  exact ⟨a, ha, Nat.lt_of_lt_of_le hl ht.size, by rw [ht.cell (by rw [add_block]; exact hl) (by rw [add_block]; exact hS a ha)]; exact hc⟩

/-- a table of the call's own: its blocks are new -/
structure Own (B : Nat) (w : World) (b : Nat) (L : List ByteArray) (m : Nat) (p : Option Addr) (c : Nat) : Prop where
  tab : Tab w b L m p c
  new : ∀ k, foot b m p k → B ≤ k

theorem put_own {w : World} {b : Nat} {L : List ByteArray} {m : Nat} {p : Option Addr} {c : Nat} {W : World} (hT : Own W.heap.size w b L m p c) (s : ByteArray) (hL : L.length < 1000) (hb : Below W.heap.size W w) :
    Calls Try.prog 33 #[.pointer (some ⟨b, 0, none⟩), .string s] w fun e w' => e = .returned (.tuple #[.int .i64 (putI L s), .int .i64 (putE s)]) ∧
      ∃ p' c', Own W.heap.size w' b (putL L s) m p' c' ∧ Below W.heap.size W w' ∧ TouchB (foot b m p) w w' ∧ ∀ k, foot b m p' k → foot b m p k ∨ w.heap.size ≤ k := by
  refine (Put w b L m p c hT.tab s hL).mono ?_
  rintro e w' ⟨he, p', c', hT', ht, hf'⟩
  have hs := hb.size
  refine ⟨he, p', c', ⟨hT', fun k hk => ?_⟩, hb.trans (ht.below (fun k hk => hT.new k hk) hs), ht, hf'⟩
  rcases hf' k hk with h | h
  · exact hT.new k h
  · omega
theorem new_own (w : World) {W : World} (hb : Below W.heap.size W w) : Calls Try.prog 32 #[] w fun e w' => e = .returned (.pointer (some ⟨w.heap.size + 1, 0, none⟩)) ∧
    Own W.heap.size w' (w.heap.size + 1) [] w.heap.size none 0 ∧ Below W.heap.size W w' ∧ TouchB (fun _ => False) w w' ∧ w'.heap.size = w.heap.size + 2 := by
  refine (New w).mono ?_
  rintro e w1 ⟨rfl, hT1, ht1, hz1⟩
  have hs := hb.size
  refine ⟨rfl, ⟨hT1, ?_⟩, hb.trans (ht1.below (fun k hk => hk.elim) hs), ht1, hz1⟩
  rintro k (rfl | rfl | ⟨a, ha, _⟩)
  · omega
  · omega
  · cases ha

set_option maxRecDepth 100000 in
theorem lawPuts (W : World) (pl : Option Addr) (l : List ByteArray) (cl : Nat) (hl : Strs W pl l) (hm : l.length ≤ maxLen) :
    Calls Try.prog 8 #[.slice pl l.length cl] W fun e w' => e = .returned (.bool true) ∧ Below W.heap.size W w' := by
  unfold maxLen at hm
  by_cases hlg : 300 < l.length
  · go_enter Try.func8, Try.ntmps8
    go_wp2_with fail
    refine (large _ _ _ _).mono ?_
    rintro e w' ⟨rfl, rfl⟩
    go_wp2_with fail
    refine (awake _).mono ?_
    rintro e w1 ⟨rfl, hb⟩
    go_wp2_with fail
    go_ret
    exact ⟨rfl, hb⟩
  · go_enter Try.func8, Try.ntmps8
    go_wp2_with fail
    refine (large _ _ _ _).mono ?_
    rintro e w' ⟨rfl, rfl⟩
    go_wp2_with fail
    refine (new_own _ (Below.refl _ _)).mono ?_
    rintro e w0 ⟨rfl, hT0, hb0, ht0, hz0⟩
    have HZ := Lib.hid hz0; clear hz0
    go_wp2_with fail
    go_loopw [4, 5] (fun all i wr => ∃ (k : Nat) (p : Option Addr) (c : Nat) (q : Option Addr) (d : Nat), i = .int .i64 k ∧ k ≤ l.length ∧ all = .slice q (puts l k).length d ∧ (q = none → d = 0) ∧
      Own W.heap.size wr (W.heap.size + 1) (puts l k) W.heap.size p c ∧ Strs wr q (puts l k) ∧ (∀ a, q = some a → ¬ foot (W.heap.size + 1) W.heap.size p a.block) ∧ (∀ a, q = some a → a.block < wr.heap.size) ∧ Below W.heap.size W wr) (fun _ i _ => l.length - (intOf i).toNat)
    case atStart =>
      exact ⟨0, none, 0, none, 0, rfl, Nat.zero_le _, rfl, fun _ => rfl, hT0, (fun i hi => absurd hi (by simp [puts])), (fun a ha => by cases ha), (fun a ha => by cases ha), hb0⟩
    case round =>
      obtain ⟨k, p, c, q, d, rfl, hk, rfl, hqd, hT, hq, hqf, hqs, hb⟩ := hrel
      have hlen := puts_len l k
      have HL := Lib.hid hl; clear hl
      have HQF := Lib.hid hqf; clear hqf
      have HQS := Lib.hid hqs; clear hqs
      have HQD := Lib.hid hqd; clear hqd
      by_cases hlt : k < l.length
      · obtain ⟨a1, rfl, b1, e1⟩ := (HL.out.below hb) k hlt
        have hps := puts_succ l k hlt
        have HPS := Lib.hid hps; clear hps
        go_wp2_with fail
        refine (put_own hT _ (by omega) hb).mono ?_
        rintro e w2 ⟨rfl, p2, c2, hT2, hb2, ht2, hf2⟩
        obtain ⟨a2, ha2, b2, e2⟩ := (HL.out.below hb2) k hlt
        cases ha2
        have hq2 := hq.touch ht2 HQF.out
        go_wp2_with fail
        refine (RPut _ q _ d _ HQD.out hq2 (by omega)).mono ?_
        rintro e w3 ⟨q3, d3, rfl, hqd3, hq3, hb3, hq3n⟩
        have HQD3 := Lib.hid hqd3; clear hqd3
        have HQ3N := Lib.hid hq3n; clear hq3n
        have hT3 : Own W.heap.size w3 (W.heap.size + 1) (putL (puts l k) l[k]) W.heap.size p2 c2 := ⟨hT2.tab.below hb3, hT2.new⟩
        go_wp2_with fail
        refine (Len _ _ _ _ _ _ hT3.tab).mono ?_
        rintro e w4 ⟨rfl, rfl⟩
        go_wp2_with fail
        go_roundw
        case rel =>
          refine ⟨k + 1, p2, c2, q3, d3, by go_num, by omega, by rw [HPS.out], HQD3.out, by rw [HPS.out]; exact hT3, by rw [HPS.out]; exact hq3, ?_, ?_, hb2.trans (hb3.mono hb2.size)⟩
          · intro a ha hfoot
            rcases HQ3N.out a ha with h | h
            · rcases hf2 _ hfoot with h' | h'
              · exact HQF.out a h h'
              · have := HQS.out a h; omega
            · have := hT2.tab.lt _ hfoot; omega
          · intro a ha
            rcases HQ3N.out a ha with h | h
            · have := HQS.out a h; have := ht2.size; have := hb3.size; omega
            · exact h.2
        case measure => simp [intOf]; omega
      · go_wp2_with fail
        refine (All _ _ _ _ _ _ hT.tab (by omega) (by unfold maxLen; omega)).mono ?_
        rintro e w2 ⟨v, rfl, hv, hb2⟩
        obtain ⟨q2, d2, rfl⟩ := row_shape hv
        go_wp2_with fail
        refine (SameStrings _ q2 q _ _ d2 d (Strs.ofRow hv) (hq.below hb2) (by unfold maxLen; omega)).mono ?_
        rintro e w3 ⟨rfl, hb3⟩
        go_wp2_with fail
        refine (awake _).mono ?_
        rintro e w4 ⟨rfl, hb4⟩
        go_wp2_with fail
        go_ret
        have s1 := hb.size
        have s2 := hb2.size
        have s3 := hb3.size
        exact ⟨rfl, hb.trans ((hb2.mono s1).trans ((hb3.mono (by omega)).trans (hb4.mono (by omega))))⟩
end Go.Proofs.Ytlcabmkjacimnaa.names
