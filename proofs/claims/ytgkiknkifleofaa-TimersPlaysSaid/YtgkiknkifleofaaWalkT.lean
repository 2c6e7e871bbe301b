/- same: two lists of integers are compared. Conditions: the lists lie in memory. -/
import Derived.Test.YtgkiknkifleofaaWalkS
namespace Go.Proofs.Ytgkiknkifleofaa.tm
open Go.RowKit mem TP
set_option linter.unusedVariables false
set_option linter.unusedSimpArgs false
set_option maxHeartbeats 1000000
set_option maxRecDepth 100000

/-- a slice reads as a list of integers -/
def IntsAt (w : World) (v : Value) (l : List Int) : Prop := ∃ p c, v = .slice p l.length c ∧ l.length ≤ c ∧ c ≤ maxLen ∧ (l ≠ [] → ∃ g o, p = some ⟨g, o, none⟩ ∧ g < w.heap.size ∧ ∀ j, (h : j < l.length) → w.cell? ⟨g, o + j, none⟩ = some (.int .i64 l[j]))
theorem IntsAt.ofRow {w : World} {base n : Nat} {v : Value} {l : List Int} (h : w.ownsRow base 2 1 v n (l.map (Value.int .i64))) : IntsAt w v l := by
  obtain ⟨hl, h⟩ := h
  simp at hl
  subst hl
  rcases h with ⟨rfl, h0⟩ | ⟨g, cap, cur, rfl, hb, hg, hn, hc, hs, ht⟩
  · exact ⟨none, 0, by rw [h0], by omega, by unfold maxLen; omega, fun h => absurd (List.eq_nil_of_length_eq_zero h0) h⟩
  · refine ⟨_, cap, rfl, hn, hc, fun _ => ⟨g, 0, rfl, (Array.getElem?_eq_some_iff.1 hg).1, fun j hj => ?_⟩⟩
    simp only [World.cell?, hg, Nat.zero_add]
    have := congrArg (fun x => x[j]?) ht
    simp only [List.getElem?_take, Nat.mul_one, hj, if_true, Array.getElem?_toList, List.getElem?_map, List.getElem?_eq_getElem hj, Option.map_some] at this
    simpa using this
theorem IntsAt.same {w w' : World} {v : Value} {l : List Int} (h : IntsAt w v l) (hz : w.heap.size ≤ w'.heap.size) (hs : ∀ g o n c, v = .slice (some ⟨g, o, none⟩) n c → w'.heap[g]? = w.heap[g]?) : IntsAt w' v l := by
  obtain ⟨p, c, rfl, h1, h2, h3⟩ := h
  refine ⟨p, c, rfl, h1, h2, fun hn => ?_⟩
  obtain ⟨g, o, rfl, hg, hc⟩ := h3 hn
  exact ⟨g, o, rfl, by omega, fun j hj => by rw [World.cell?_of_block (w := w) (hs g o _ _ rfl)]; exact hc j hj⟩
theorem IntsAt.drewN {w : World} {v : Value} {l : List Int} (h : IntsAt w v l) (n : Nat) : IntsAt (w.drewN n) v l := h
theorem IntsAt.below {w w' : World} {v : Value} {l : List Int} (h : IntsAt w v l) {B : Nat} (hb : Below B w w') (hB : w.heap.size ≤ B) : IntsAt w' v l := by
  obtain ⟨p, c, rfl, h1, h2, h3⟩ := h
  refine ⟨p, c, rfl, h1, h2, fun hn => ?_⟩
  obtain ⟨g, o, rfl, hg, hc⟩ := h3 hn
  exact ⟨g, o, rfl, by have := hb.size; omega, fun j hj => by rw [World.cell?_of_block (w := w) (hb.block g (by omega))]; exact hc j hj⟩
theorem IntsAt.touch {w w' : World} {v : Value} {l : List Int} (h : IntsAt w v l) {S : Nat → Prop} (ht : TouchB S w w') (hS : ∀ g o n c, v = .slice (some ⟨g, o, none⟩) n c → ¬ S g) : IntsAt w' v l := by
  obtain ⟨p, c, rfl, h1, h2, h3⟩ := h
  refine ⟨p, c, rfl, h1, h2, fun hn => ?_⟩
  obtain ⟨g, o, rfl, hg, hc⟩ := h3 hn
  exact ⟨g, o, rfl, by have := ht.size; omega, fun j hj => by rw [World.cell?_of_block (w := w) (ht.block g hg (hS g o _ _ rfl))]; exact hc j hj⟩

theorem drewN_two (w : World) (n m : Nat) : (w.drewN n).drewN m = w.drewN (n + m) := by simp [World.drewN, Nat.add_assoc]
def SamePost (a b : List Int) (w : World) (e : Ending) (w' : World) : Prop := e = .returned (.bool (decide (a = b))) ∧ ∃ n, w' = w.drewN n
theorem same_no {a b : List Int} {w w' : World} (h : a ≠ b) (hw : ∃ n, w' = w.drewN n) : SamePost a b w (.returned (.bool false)) w' := ⟨by rw [decide_eq_false h], hw⟩
theorem same_yes {a b : List Int} {w w' : World} (h : a = b) (hw : ∃ n, w' = w.drewN n) : SamePost a b w (.returned (.bool true)) w' := ⟨by rw [decide_eq_true h], hw⟩
theorem take_step {a b : List Int} {k : Nat} (h : a.take k = b.take k) (ha : k < a.length) (hb : k < b.length) (e : a[k] = b[k]) : a.take (k + 1) = b.take (k + 1) := by
  rw [List.take_succ_eq_append_getElem ha, List.take_succ_eq_append_getElem hb, h, e]
theorem take_ne {a b : List Int} {k : Nat} (ha : k < a.length) (hb : k < b.length) (e : a[k] ≠ b[k]) : a ≠ b := by
  intro h; subst h; exact e rfl
theorem same {w : World} {v1 v2 : Value} {a b : List Int} (h1 : IntsAt w v1 a) (h2 : IntsAt w v2 b) : Calls Try.prog 13 #[v1, v2] w (SamePost a b w) := by
  obtain ⟨p1, c1, rfl, hc1, hm1, hp1⟩ := h1
  obtain ⟨p2, c2, rfl, hc2, hm2, hp2⟩ := h2
  unfold maxLen at hm1 hm2
  by_cases hl : a.length = b.length
  · have hd : (((a.length : Nat) : Int) != ((b.length : Nat) : Int)) = false := by simp [hl]
    by_cases ha : a = []
    · subst ha
      have hb : b = [] := List.eq_nil_of_length_eq_zero (by simpa using hl.symm)
      subst hb
      have hfin := same_yes (w := w) (rfl : ([] : List Int) = []) ⟨0, rfl⟩
      have HL := Lib.hid hl; clear hl
      go_enter Try.func13, Try.ntmps13
      go_wp2_with fail
      refine wp_loop_rounds 1 ?_
      rw [rounds_succ]
      go_wp2_with fail
      go_ret
      exact hfin
    · have hb : b ≠ [] := by intro e; subst e; simp at hl; exact ha hl
      obtain ⟨g1, o1, rfl, hg1, hx1⟩ := hp1 ha
      obtain ⟨g2, o2, rfl, hg2, hx2⟩ := hp2 hb
      have HX1 := Lib.hid hx1; clear hx1
      have HX2 := Lib.hid hx2; clear hx2
      have HL := Lib.hid hl; clear hl
      clear hp1 hp2 ha hb
      go_enter Try.func13, Try.ntmps13
      go_wp2_with fail
      go_loopw [5] (fun s wr => ∃ k n : Nat, s = .int .i64 k ∧ k ≤ a.length ∧ Hid (a.take k = b.take k) ∧ wr = w.drewN n) (fun s _ => a.length - (intOf s).toNat)
      case atStart => exact ⟨0, 0, rfl, by omega, Lib.hid rfl, rfl⟩
      case round =>
        obtain ⟨k, n, rfl, hk, ht, rfl⟩ := hrel
        by_cases hlt : k < a.length
        · have hkb : k < b.length := by have := HL.out; omega
          have hx : w.cell? ⟨g1, o1 + k, none⟩ = some (.int .i64 a[k]) := HX1.out k hlt
          have hy : w.cell? ⟨g2, o2 + k, none⟩ = some (.int .i64 b[k]) := HX2.out k hkb
          by_cases he : a[k] = b[k]
          · have hq : (a[k] != b[k]) = false := by simp [he]
            have HT := Lib.hid (take_step ht.out hlt hkb he)
            generalize a[k] = x at *
            generalize b[k] = y at *
            clear he
            go_wp2_with fail
            go_quiet (fail)
            go_wp2_with fail
            go_roundw
            case rel => exact ⟨k + 1, _, by go_num, by omega, HT, rfl⟩
            case measure => simp [intOf]; omega
          · have hq : (a[k] != b[k]) = true := by simp [he]
            have HN := Lib.hid (take_ne hlt hkb he)
            generalize a[k] = x at *
            generalize b[k] = y at *
            clear he
            go_wp2_with fail
            go_quiet (fail)
            go_wp2_with fail
            go_ret
            exact same_no HN.out ⟨n + nq, drewN_two w n nq⟩
        · have hfin : a = b := by
            have := ht.out
            rwa [List.take_of_length_le (by omega), List.take_of_length_le (by have := HL.out; omega)] at this
          have HF := Lib.hid hfin; clear hfin
          go_wp2_with fail
          go_ret
          exact same_yes HF.out ⟨_, rfl⟩
  · have hd : (((a.length : Nat) : Int) != ((b.length : Nat) : Int)) = true := by simp; omega
    have hfin := same_no (w := w) (fun e : a = b => hl (by rw [e])) ⟨0, rfl⟩
    go_enter Try.func13, Try.ntmps13
    go_wp2_with fail
    go_ret
    exact hfin
end Go.Proofs.Ytgkiknkifleofaa.tm
