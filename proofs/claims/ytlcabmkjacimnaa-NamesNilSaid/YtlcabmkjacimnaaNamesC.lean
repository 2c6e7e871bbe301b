/- The contracts of a table's methods. Conditions: a table that New returned, with fewer than 1000 names; or a nil one. -/
import Derived.Test.YtlcabmkjacimnaaNamesB
namespace Go.Proofs.Ytlcabmkjacimnaa.names
open Go.RowKit mem
set_option linter.unusedVariables false
set_option linter.unusedSimpArgs false
set_option maxHeartbeats 1000000

theorem zero3 (w : World) : (zeroValue 3).run Try.prog w = .ok (.int .i64 0) w := by kernel_rfl
theorem key9 : KeyKind Try.prog 9 Value.string := string_key Try.underlying9
theorem info9 : (Try.prog.info? 9).map (fun i => (i.zero, i.size, i.bytes)) = some (some (.string .empty), 1, 16) := by kernel_rfl

theorem add0 (g j : Nat) : (⟨g, 0, none⟩ : Addr).add j = ⟨g, j, none⟩ := by
  unfold Addr.add
  by_cases h : j = 0 <;> simp [h]
def findI (L : List ByteArray) (s : ByteArray) : Int := (((ix L s).getD 0 : Nat) : Int)
def findB (L : List ByteArray) (s : ByteArray) : Bool := (ix L s).isSome
theorem find_val (L : List ByteArray) (s : ByteArray) : (alFind (kvOf L) s).getD (.int .i64 0) = .int .i64 (findI L s) ∧ (alFind (kvOf L) s).isSome = findB L s := by
  rw [alFind_kv]; unfold findI findB
  cases ix L s <;> simp

theorem ret2i {k1 k2 : IntKind} {x1 x2 y1 y2 : Int} (h1 : x1 = x2) (h2 : y1 = y2) :
    Ending.returned (.tuple #[.int k1 x1, .int k2 y1]) = .returned (.tuple #[.int k1 x2, .int k2 y2]) := by rw [h1, h2]

section
variable (w : World) (b : Nat) (L : List ByteArray) (m : Nat) (p : Option Addr) (c : Nat) (hT : Tab w b L m p c)
include hT

theorem Find (s : ByteArray) : Calls Try.prog 37 #[.pointer (some ⟨b, 0, none⟩), .string s] w fun e w' => e = .returned (.tuple #[.int .i64 (findI L s), .bool (findB L s)]) ∧ w = w' := by
  have h0 := hT.c0
  have hl := run_lookup_ok key9 Try.underlying69 hT.map s (zero3 w)
  rw [(find_val L s).1, (find_val L s).2] at hl
  go_enter Try.func37, Try.ntmps37
  go_wp2_with (go_at_call 56; refine (made b m _ h0).mono ?_; rintro e w' ⟨rfl, rfl⟩)
  go_ret2
  exact ⟨rfl, rfl⟩
theorem Len : Calls Try.prog 36 #[.pointer (some ⟨b, 0, none⟩)] w fun e w' => e = .returned (.int .i64 L.length) ∧ w = w' := by
  have h0 := hT.c0
  have h1 := hT.c1
  go_enter Try.func36, Try.ntmps36
  go_wp2_with (go_at_call 56; refine (made b m _ h0).mono ?_; rintro e w' ⟨rfl, rfl⟩)
  go_ret
  exact ⟨rfl, rfl⟩

def nameS (L : List ByteArray) (i : Int) : ByteArray := if 0 ≤ i then (L[i.toNat]?).getD .empty else .empty
def nameB (L : List ByteArray) (i : Int) : Bool := decide (0 ≤ i ∧ i < L.length)
omit hT in
theorem ret2s {s1 s2 : ByteArray} {b1 b2 : Bool} (h1 : s1 = s2) (h2 : b1 = b2) :
    Ending.returned (.tuple #[.string s1, .bool b1]) = .returned (.tuple #[.string s2, .bool b2]) := by rw [h1, h2]

theorem Name (i : Int) (h63 : L.length ≤ maxLen) : Calls Try.prog 38 #[.pointer (some ⟨b, 0, none⟩), .int .i64 i] w fun e w' => e = .returned (.tuple #[.string (nameS L i), .bool (nameB L i)]) ∧ w = w' := by
  unfold maxLen at h63
  have h0 := hT.c0
  have h1 := hT.c1
  by_cases hi : i < 0
  · go_enter Try.func38, Try.ntmps38
    go_wp2_with (go_at_call 56; refine (made b m _ h0).mono ?_; rintro e w' ⟨rfl, rfl⟩)
    go_ret2
    exact ⟨ret2s (by unfold nameS; rw [if_neg (by omega)]; rfl) (by unfold nameB; symm; rw [decide_eq_false_iff_not]; omega), rfl⟩
  by_cases hj : (L.length : Int) ≤ i
  · go_enter Try.func38, Try.ntmps38
    go_wp2_with (go_at_call 56; refine (made b m _ h0).mono ?_; rintro e w' ⟨rfl, rfl⟩)
    go_ret2
    exact ⟨ret2s (by unfold nameS; rw [if_pos (by omega), List.getElem?_eq_none (by omega)]; rfl) (by unfold nameB; symm; rw [decide_eq_false_iff_not]; omega), rfl⟩
  obtain ⟨n, rfl⟩ := Int.eq_ofNat_of_zero_le (Int.not_lt.1 hi)
  have hn : n < L.length := by omega
  obtain ⟨hl, h | ⟨g, cap, cur, hv, hb, hh, r⟩⟩ := hT.row
  · exfalso; omega
  obtain ⟨rfl, rfl⟩ : p = some ⟨g, 0, none⟩ ∧ c = cap := by simpa using hv
  have hc := hT.row.cells (g := g) rfl n (.string L[n]) (by simp [hn])
  rw [add0] at hc
  go_enter Try.func38, Try.ntmps38
  go_wp2_with (go_at_call 56; refine (made b m _ h0).mono ?_; rintro e w' ⟨rfl, rfl⟩)
  go_ret2
  exact ⟨ret2s (by unfold nameS; rw [if_pos (by omega)]; simp [hn]) (by unfold nameB; symm; rw [decide_eq_true_eq]; omega), rfl⟩
end
theorem Clone (w : World) (p : Option Addr) (c : Nat) (L : List ByteArray) (h : w.ownsRow 0 9 1 (.slice p L.length c) L.length (L.map Value.string)) (hb : L.length * 16 ≤ 140737488355328) (h63 : L.length ≤ maxLen) :
    Calls Try.prog 57 #[.slice p L.length c] w fun e w' => ∃ v, e = .returned v ∧ w'.ownsRow w.heap.size 9 1 v L.length (L.map Value.string) ∧ Below w.heap.size w w' := by
  obtain ⟨i0, hi, hz0, hz1, hz2⟩ := info_parts info9
  obtain ⟨hl, ⟨hv, hn⟩ | ⟨g, cap, cur, hv, hbb, hh, r⟩⟩ := h
  · obtain ⟨rfl, hn', rfl⟩ : p = none ∧ L.length = 0 ∧ c = 0 := by simpa using hv
    have hL : L = [] := List.length_eq_zero_iff.1 hn'
    subst hL
    have hq := fun w => Lib.run_eql_slice_nil (P := Try.prog) w 36 9 none 0 0 0 0 Try.underlying36
    go_enter Try.func57, Try.ntmps57
    go_wp2
    go_ret
    exact ⟨_, rfl, World.ownsRow_nil _ _ _ _, Below.refl _ _⟩
  · obtain ⟨rfl, rfl⟩ : p = some ⟨g, 0, none⟩ ∧ c = cap := by simpa using hv
    have hq := fun w => Lib.run_eql_slice_nil (P := Try.prog) w 36 9 (some ⟨g, 0, none⟩) L.length c 0 0 Try.underlying36
    have hrow : w.ownsRow 0 9 1 (.slice (some ⟨g, 0, none⟩) L.length c) L.length (L.map Value.string) := ⟨hl, .inr ⟨g, c, cur, rfl, hbb, hh, r⟩⟩
    have hown : (w.alloc (.cells #[] 9)).ownsRow w.heap.size 9 1 (.slice (some ⟨w.heap.size, 0, none⟩) 0 0) 0 [] := World.ownsRow_made w #[] 0 (Nat.le_refl _) (by unfold maxLen; omega) (by simp)
    have hnews : ∀ (j : Nat) (u : Value), (L.map Value.string)[j]? = some u → (w.alloc (.cells #[] 9)).cell? ((⟨g, 0, none⟩ : Addr).add j) = some u := by
      intro j u hju
      have h1 := (hrow.alloc (.cells #[] 9)).cells (g := g) rfl j u hju
      exact h1
    have H1 := Lib.hid hnews; clear hnews
    have H2 := Lib.hid hown; clear hown
    clear r hh hl hv hrow
    go_enter Try.func57, Try.ntmps57
    go_wp2_with (at_builtin; refine wpList_append_own _ rfl _ _ 36 rfl w.heap.size 9 i0 (.string .empty) 1 16 Try.underlying36 hi hz0 hz1 hz2 rfl (by decide) _ 0 [] rfl H2.out ⟨g, 0, none⟩ L.length _ (L.map Value.string) rfl ?c1 ?c2 ?c3 ?c4 ?c5 ?c6 ?_)
    case c1 => simp
    case c2 => exact H1.out
    case c3 => intro u hu; simp at hu; obtain ⟨x, _, rfl⟩ := hu; rfl
    case c4 => omega
    case c5 => omega
    case c6 => simp
    intro v' w1 hown' hgrow _
    go_wp2
    go_ret
    refine ⟨_, rfl, ?_, ?_⟩
    · simpa using hown'
    · exact Below.grown ((Below.refl _ _).alloc (Nat.le_refl _) _) hgrow (by simp) (fun k hk => by simp [Value.ownBlock] at hk; omega)
section
variable (w : World) (b : Nat) (L : List ByteArray) (m : Nat) (p : Option Addr) (c : Nat) (hT : Tab w b L m p c)
include hT

/-- a list that a call has made anew -/
theorem All (h63 : L.length * 16 ≤ 140737488355328) (hm : L.length ≤ maxLen) : Calls Try.prog 35 #[.pointer (some ⟨b, 0, none⟩)] w fun e w' => ∃ v, e = .returned v ∧ w'.ownsRow w.heap.size 9 1 v L.length (L.map Value.string) ∧ Below w.heap.size w w' := by
  have h0 := hT.c0
  have h1 := hT.c1
  go_enter Try.func35, Try.ntmps35
  go_wp2_with (first | (go_at_call 56; refine (made b m _ h0).mono ?_; rintro e w' ⟨rfl, rfl⟩) | (go_at_call 57; refine (Clone _ p c L hT.row h63 hm).mono ?_; rintro e w' ⟨v, rfl, hv, hb⟩))
  go_ret
  exact ⟨_, rfl, hv, hb⟩
end
end Go.Proofs.Ytlcabmkjacimnaa.names
