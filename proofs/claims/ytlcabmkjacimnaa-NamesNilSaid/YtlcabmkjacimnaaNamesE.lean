/- Slices of strings that are read; SameStrings; the specification's Find, Name and Put; a nil table. Conditions: lengths that fit memory. -/
import Derived.Test.YtlcabmkjacimnaaNamesD
import Derived.Deep.QuietTactic
import Derived.BigQuiet
namespace Go.Proofs.Ytlcabmkjacimnaa.names
open Go.RowKit mem
set_option linter.unusedVariables false
set_option linter.unusedSimpArgs false
set_option maxHeartbeats 1000000

theorem add_block (a : Addr) (i : Nat) : (a.add i).block = a.block := by
  unfold Addr.add; split <;> rfl
/-- a slice of strings reads as L -/
def Strs (w : World) (p : Option Addr) (L : List ByteArray) : Prop := ∀ i, (h : i < L.length) → ∃ a, p = some a ∧ a.block < w.heap.size ∧ w.cell? (a.add i) = some (.string L[i])

theorem Strs.below {w w' : World} {p : Option Addr} {L : List ByteArray} (h : Strs w p L) (hb : Below w.heap.size w w') : Strs w' p L := by
  intro i hi
  obtain ⟨a, ha, hl, hc⟩ := h i hi
  exact ⟨a, ha, Nat.lt_of_lt_of_le hl hb.size, by rw [hb.cell (by rw [add_block]; exact hl)]; exact hc⟩
theorem Strs.ofRow {w : World} {base : Nat} {p : Option Addr} {c : Nat} {L : List ByteArray} (h : w.ownsRow base 9 1 (.slice p L.length c) L.length (L.map Value.string)) : Strs w p L := by
  intro i hi
  have hlt := h.lt
  obtain ⟨hl, ⟨hv, hn⟩ | ⟨g, cap, cur, hv, hb, hh, r⟩⟩ := id h
  · omega
  · obtain ⟨rfl, rfl⟩ : p = some ⟨g, 0, none⟩ ∧ c = cap := by simpa using hv
    exact ⟨_, rfl, (hlt g rfl).2, h.cells (g := g) rfl i _ (by simp [hi])⟩
theorem ret2f {x1 x2 : Int} {b1 b2 : Bool} (h1 : x1 = x2) (h2 : b1 = b2) :
    Ending.returned (.tuple #[.int .i64 x1, .bool b1]) = .returned (.tuple #[.int .i64 x2, .bool b2]) := by rw [h1, h2]
theorem below_drewN (w : World) (n : Nat) : Below w.heap.size w (w.drewN n) := (Below.refl _ _).drewN n

theorem SameStrings (w : World) (p1 p2 : Option Addr) (L1 L2 : List ByteArray) (c1 c2 : Nat) (h1 : Strs w p1 L1) (h2 : Strs w p2 L2) (hm : L1.length ≤ maxLen) :
    Calls Try.prog 34 #[.slice p1 L1.length c1, .slice p2 L2.length c2] w fun e w' => e = .returned (.bool (decide (L1 = L2))) ∧ Below w.heap.size w w' := by
  unfold maxLen at hm
  by_cases hl : L1.length = L2.length
  · have hlb : ((L1.length : Int) != (L2.length : Int)) = false := by simp [hl]
    have HL := Lib.hid hl; clear hl
    go_enter Try.func34, Try.ntmps34
    go_wp2_with fail
    go_loopw [5] (fun i wr => ∃ k : Nat, i = .int .i64 k ∧ k ≤ L1.length ∧ Hid (∀ j, j < k → L1[j]? = L2[j]?) ∧ Strs wr p1 L1 ∧ Strs wr p2 L2 ∧ Below w.heap.size w wr) (fun i _ => L1.length - (intOf i).toNat)
    case atStart => exact ⟨0, rfl, Nat.zero_le _, Lib.hid (by omega), h1, h2, Below.refl _ _⟩
    case round =>
      obtain ⟨k, rfl, hk, hall, g1, g2, hb⟩ := hrel
      by_cases hlt : k < L1.length
      · have hlt2 : k < L2.length := by have := HL.out; omega
        obtain ⟨a1, rfl, b1, e1⟩ := g1 k hlt
        obtain ⟨a2, rfl, b2, e2⟩ := g2 k hlt2
        have G1 := Lib.hid g1; clear g1
        have G2 := Lib.hid g2; clear g2
        clear h1 h2
        by_cases he : L1[k] = L2[k]
        · have hq : (L1[k].toList == L2[k].toList) = true := by rw [he]; simp
          have HE := Lib.hid he; clear he
          go_wp2_with fail
          go_quiet (fail)
          go_wp2_with fail
          go_roundw
          case rel =>
            refine ⟨k + 1, by go_num, by omega, Lib.hid fun j hj => ?_, G1.out.below (below_drewN _ _), G2.out.below (below_drewN _ _), hb.drewN _⟩
            by_cases hjk : j < k
            · exact hall.out j hjk
            · obtain rfl : j = k := by omega
              rw [List.getElem?_eq_getElem hlt, List.getElem?_eq_getElem hlt2, HE.out]
          case measure => simp [intOf]; omega
        · have hq : (L1[k].toList == L2[k].toList) = false := by
            rw [beq_eq_false_iff_ne]; intro e; apply he
            rw [ByteArray.toList_eq, ByteArray.toList_eq] at e
            have := Array.toList_inj.1 e
            cases h1 : L1[k]; cases h2 : L2[k]; rw [h1, h2] at this; simp_all
          have HE := Lib.hid he; clear he
          go_wp2_with fail
          go_quiet (fail)
          go_wp2_with fail
          go_ret
          refine ⟨ret1b ?_, hb.drewN _⟩
          symm; rw [decide_eq_false_iff_not]; intro e; subst e; exact HE.out rfl
      · go_wp2_with fail
        go_ret
        refine ⟨ret1b ?_, hb⟩
        symm; rw [decide_eq_true_eq]
        apply List.ext_getElem? 
        intro j
        by_cases hj : j < k
        · exact hall.out j hj
        · have := HL.out
          rw [List.getElem?_eq_none (by omega), List.getElem?_eq_none (by omega)]
  · have hlb : ((L1.length : Int) != (L2.length : Int)) = true := by simp; omega
    go_enter Try.func34, Try.ntmps34
    go_wp2_with fail
    go_ret
    exact ⟨ret1b (by symm; rw [decide_eq_false_iff_not]; intro e; subst e; exact hl rfl), Below.refl _ _⟩

theorem eq_tl {a b : ByteArray} (h : a = b) : (a.toList == b.toList) = true := by rw [h]; simp
theorem ne_tl {a b : ByteArray} (h : a ≠ b) : (a.toList == b.toList) = false := by
  rw [beq_eq_false_iff_ne]; intro e; apply h
  rw [ByteArray.toList_eq, ByteArray.toList_eq] at e
  have := Array.toList_inj.1 e
  cases a; cases b; simp_all

theorem RFind (w : World) (p : Option Addr) (L : List ByteArray) (c : Nat) (s : ByteArray) (h : Strs w p L) (hm : L.length ≤ maxLen) :
    Calls Try.prog 52 #[.slice p L.length c, .string s] w fun e w' => e = .returned (.tuple #[.int .i64 (findI L s), .bool (findB L s)]) ∧ Below w.heap.size w w' := by
  unfold maxLen at hm
  go_enter Try.func52, Try.ntmps52
  go_wp2_with fail
  go_loopw [6] (fun i wr => ∃ k : Nat, i = .int .i64 k ∧ k ≤ L.length ∧ Hid (∀ j, j < k → L[j]? ≠ some s) ∧ Strs wr p L ∧ Below w.heap.size w wr) (fun i _ => L.length - (intOf i).toNat)
  case atStart => exact ⟨0, rfl, Nat.zero_le _, Lib.hid (by omega), h, Below.refl _ _⟩
  case round =>
    obtain ⟨k, rfl, hk, hall, g1, hb⟩ := hrel
    by_cases hlt : k < L.length
    · obtain ⟨a1, rfl, b1, e1⟩ := g1 k hlt
      have G1 := Lib.hid g1; clear g1 h
      by_cases he : L[k] = s
      · have hq := eq_tl he
        have HE := Lib.hid he; clear he
        go_wp2_with fail
        go_ret2
        have hx : ix L s = some k := by
          unfold ix; rw [List.findIdx?_eq_some_iff_getElem]
          refine ⟨hlt, by simp [HE.out], fun j hj => ?_⟩
          have := hall.out j hj
          rw [List.getElem?_eq_getElem (by omega)] at this
          simp; intro e; exact this (by rw [e])
        exact ⟨ret2f (by unfold findI; rw [hx]; rfl) (by unfold findB; rw [hx]; rfl), hb⟩
      · have hq := ne_tl he
        have HE := Lib.hid he; clear he
        go_wp2_with fail
        go_roundw
        case rel =>
          refine ⟨k + 1, by go_num, by omega, Lib.hid fun j hj => ?_, G1.out, hb⟩
          by_cases hjk : j < k
          · exact hall.out j hjk
          · obtain rfl : j = k := by omega
            rw [List.getElem?_eq_getElem hlt]; simp; exact HE.out
        case measure => simp [intOf]; omega
    · go_wp2_with fail
      go_ret2
      have hx : ix L s = none := by
        unfold ix; rw [List.findIdx?_eq_none_iff]
        intro x hx
        obtain ⟨j, hj, rfl⟩ := List.mem_iff_getElem.1 hx
        have := hall.out j (by omega)
        rw [List.getElem?_eq_getElem hj] at this
        simp; intro e; exact this (by rw [e])
      exact ⟨ret2f (by unfold findI; rw [hx]; rfl) (by unfold findB; rw [hx]; rfl), hb⟩

theorem RName (w : World) (p : Option Addr) (L : List ByteArray) (c : Nat) (i : Int) (h : Strs w p L) (hm : L.length ≤ maxLen) :
    Calls Try.prog 53 #[.slice p L.length c, .int .i64 i] w fun e w' => e = .returned (.tuple #[.string (nameS L i), .bool (nameB L i)]) ∧ w = w' := by
  unfold maxLen at hm
  by_cases hi : i < 0
  · go_enter Try.func53, Try.ntmps53
    go_wp2_with fail
    go_ret2
    exact ⟨ret2s (by unfold nameS; rw [if_neg (by omega)]; rfl) (by unfold nameB; symm; rw [decide_eq_false_iff_not]; omega), rfl⟩
  by_cases hj : (L.length : Int) ≤ i
  · go_enter Try.func53, Try.ntmps53
    go_wp2_with fail
    go_ret2
    exact ⟨ret2s (by unfold nameS; rw [if_pos (by omega), List.getElem?_eq_none (by omega)]; rfl) (by unfold nameB; symm; rw [decide_eq_false_iff_not]; omega), rfl⟩
  obtain ⟨n, rfl⟩ := Int.eq_ofNat_of_zero_le (Int.not_lt.1 hi)
  have hn : n < L.length := by omega
  obtain ⟨a1, rfl, b1, e1⟩ := h n hn
  clear h
  go_enter Try.func53, Try.ntmps53
  go_wp2_with fail
  go_ret2
  exact ⟨ret2s (by unfold nameS; rw [if_pos (by omega)]; simp [hn]) (by unfold nameB; symm; rw [decide_eq_true_eq]; omega), rfl⟩

theorem large (w : World) (p : Option Addr) (n c : Nat) : Calls Try.prog 31 #[.slice p n c] w fun e w' => e = .returned (.bool (decide (300 < n))) ∧ w = w' := by
  go_enter Try.func31, Try.ntmps31
  go_wp2_with fail
  go_ret
  exact ⟨ret1b (by rw [decide_eq_decide]; omega), rfl⟩

theorem Put_nil (w : World) (s : ByteArray) : Calls Try.prog 33 #[.pointer none, .string s] w fun e w' => e = .returned (.tuple #[.int .i64 0, .int .i64 1]) ∧ w = w' := by
  go_enter Try.func33, Try.ntmps33
  go_wp2_with (go_at_call 56; refine (made_nil _).mono ?_; rintro e w' ⟨rfl, rfl⟩)
  go_ret2
  exact ⟨rfl, rfl⟩
theorem Find_nil (w : World) (s : ByteArray) : Calls Try.prog 37 #[.pointer none, .string s] w fun e w' => e = .returned (.tuple #[.int .i64 0, .bool false]) ∧ w = w' := by
  go_enter Try.func37, Try.ntmps37
  go_wp2_with (go_at_call 56; refine (made_nil _).mono ?_; rintro e w' ⟨rfl, rfl⟩)
  go_ret2
  exact ⟨rfl, rfl⟩
theorem Name_nil (w : World) (i : Int) : Calls Try.prog 38 #[.pointer none, .int .i64 i] w fun e w' => e = .returned (.tuple #[.string .empty, .bool false]) ∧ w = w' := by
  go_enter Try.func38, Try.ntmps38
  go_wp2_with (go_at_call 56; refine (made_nil _).mono ?_; rintro e w' ⟨rfl, rfl⟩)
  go_ret2
  exact ⟨rfl, rfl⟩
theorem Len_nil (w : World) : Calls Try.prog 36 #[.pointer none] w fun e w' => e = .returned (.int .i64 0) ∧ w = w' := by
  go_enter Try.func36, Try.ntmps36
  go_wp2_with (go_at_call 56; refine (made_nil _).mono ?_; rintro e w' ⟨rfl, rfl⟩)
  go_ret
  exact ⟨rfl, rfl⟩
theorem All_nil (w : World) : Calls Try.prog 35 #[.pointer none] w fun e w' => e = .returned (.slice none 0 0) ∧ w = w' := by
  go_enter Try.func35, Try.ntmps35
  go_wp2_with (go_at_call 56; refine (made_nil _).mono ?_; rintro e w' ⟨rfl, rfl⟩)
  go_ret
  exact ⟨rfl, rfl⟩
end Go.Proofs.Ytlcabmkjacimnaa.names
