/- Several texts in one, one behind the other: CtB. No condition beyond theirs. -/
import Derived.Test.YtegffanlehaloaaItA
/- The calls of the law CollectKnown. Conditions: as said. -/
namespace Go.Proofs.Ytegffanlehaloaa.cl
open Go.RowKit mem words
set_option linter.unusedVariables false
set_option linter.unusedSimpArgs false
set_option maxHeartbeats 4000000
set_option maxRecDepth 100000
def KnP (n0 n1 : Nat) (n2 : Int) (nT : Nat) (W : World) (e : Ending) (w' : World) : Prop := ∃ q0 c0 q1 c1 qT cT, e = .returned (.tuple #[.agg #[.slice q0 n0 c0, .slice q1 n1 c1, .int .i64 n2], .slice qT nT cT, .int .i64 0]) ∧ Below W.heap.size W w'
def KnE (W : World) (e : Ending) (w' : World) : Prop := e = .returned (.tuple #[.agg #[.slice none 0 0, .slice none 0 0, .int .i64 0], .slice none 0 0, .int .i64 6]) ∧ Below W.heap.size W w'
theorem nil_row (W : World) (B : Nat) : WAt W B (.slice none 0 0) [] := ⟨none, 0, rfl, Nat.le_refl _, by unfold maxLen; omega, fun h => absurd rfl h⟩
theorem wds_of {y : List Int} (h : y.all (fun x => decide (0 ≤ x ∧ x ≤ 18446744073709551615)) = true) : Wds y := fun x hx => of_decide_eq_true (List.all_eq_true.1 h x hx)
section
variable {W : World} {g : Nat} {y : List Int} {mk : Int} {K : Bk} {roots : List Int} {pr : Option Addr} {cr : Nat} {A B O : Nat}
theorem known_minor (hy : W.heap[g]? = some (.cells (y.map (Value.int .u64)).toArray 34)) (hr : WAt W W.heap.size (.slice pr roots.length cr) roots) (hK : shB ⟨y, [], mk⟩ K = true) (hR : roots.all (tmQ K) = true) (hw : y.all (fun x => decide (0 ≤ x ∧ x ≤ 18446744073709551615)) = true) (hw' : roots.all (fun x => decide (0 ≤ x ∧ x ≤ 18446744073709551615)) = true) (hl : y.length ≤ 5000) (hrl : roots.length ≤ 1000) (hA : szAbove ⟨y, [], mk⟩ K (met K roots) = A) (hB : szBelow ⟨y, [], mk⟩ K (met K roots) = B) :
    Calls Try.prog 16 #[.agg #[.slice (some ⟨g, 0, none⟩) y.length y.length, .slice none 0 0, .int .i64 mk], .slice pr roots.length cr] W (KnP A B A roots.length W) := by
  refine (ans16 W W.heap.size _ _ pr cr ⟨y, [], mk⟩ roots (Nat.le_refl _) (lit_row hy (Nat.le_trans hl (by decide))) (nil_row _ _) (wds_of hw) (fun x hx => by simp at hx) (by simpa using hl) hr (wds_of hw') (by omega)).mono ?_
  rintro e w' ⟨q0, m0, c0, q1, m1, c1, n2, qT, mT, cT, er, rfl, h, hb⟩
  obtain ⟨e1, e2, e3, e4, e5⟩ := minor_len h hK hR
  rw [hA] at e2 e3
  rw [hB] at e4
  have e4 : m1 = B := by simpa using e4
  subst e1 e2 e3 e4 e5
  exact ⟨q0, c0, q1, c1, qT, cT, rfl, hb⟩
theorem known_full (hy : W.heap[g]? = some (.cells (y.map (Value.int .u64)).toArray 34)) (hr : WAt W W.heap.size (.slice pr roots.length cr) roots) (hK : shB ⟨y, [], mk⟩ K = true) (hR : roots.all (tmQ K) = true) (hw : y.all (fun x => decide (0 ≤ x ∧ x ≤ 18446744073709551615)) = true) (hw' : roots.all (fun x => decide (0 ≤ x ∧ x ≤ 18446744073709551615)) = true) (hl : y.length ≤ 5000) (hrl : roots.length ≤ 1000) (hA : szBelow ⟨y, [], mk⟩ K (met K roots) + szAbove ⟨y, [], mk⟩ K (met K roots) + szOld K (met K roots) = A) :
    Calls Try.prog 10 #[.agg #[.slice (some ⟨g, 0, none⟩) y.length y.length, .slice none 0 0, .int .i64 mk], .slice pr roots.length cr] W (KnP 0 A 0 roots.length W) := by
  refine (ans10 W W.heap.size _ _ pr cr ⟨y, [], mk⟩ roots (Nat.le_refl _) (lit_row hy (Nat.le_trans hl (by decide))) (nil_row _ _) (wds_of hw) (fun x hx => by simp at hx) (by simpa using hl) hr (wds_of hw') (by omega)).mono ?_
  rintro e w' ⟨q0, m0, c0, q1, m1, c1, n2, qT, mT, cT, er, rfl, h, hb⟩
  obtain ⟨e1, e2, e3, e4, e5⟩ := full_len h hK hR
  rw [hA] at e4
  subst e1 e2 e3 e4 e5
  exact ⟨q0, c0, q1, c1, qT, cT, rfl, hb⟩
theorem known_none (hy : W.heap[g]? = some (.cells (y.map (Value.int .u64)).toArray 34)) (hr : WAt W W.heap.size (.slice pr roots.length cr) roots) (hK : shB ⟨y, [], mk⟩ K = true) (hR : roots.all (tmQ K) = false) (hw : y.all (fun x => decide (0 ≤ x ∧ x ≤ 18446744073709551615)) = true) (hw' : roots.all (fun x => decide (0 ≤ x ∧ x ≤ 18446744073709551615)) = true) (hl : y.length ≤ 5000) (hrl : roots.length ≤ 1000) :
    Calls Try.prog 16 #[.agg #[.slice (some ⟨g, 0, none⟩) y.length y.length, .slice none 0 0, .int .i64 mk], .slice pr roots.length cr] W (KnE W) := by
  refine (ans16 W W.heap.size _ _ pr cr ⟨y, [], mk⟩ roots (Nat.le_refl _) (lit_row hy (Nat.le_trans hl (by decide))) (nil_row _ _) (wds_of hw) (fun x hx => by simp at hx) (by simpa using hl) hr (wds_of hw') (by omega)).mono ?_
  rintro e w' ⟨q0, m0, c0, q1, m1, c1, n2, qT, mT, cT, er, rfl, h, hb⟩
  rcases h with ⟨hf, _⟩ | ⟨_, e1, e2, e3, e4, e5⟩
  · exact absurd hf (no_fits hK hR)
  · rw [e1, e2, e3, e4, e5]
    exact ⟨rfl, hb⟩
end
def PtrP (w : World) (e : Ending) (w' : World) : Prop := ∃ z, e = .returned (.pointer (some ⟨z, 0, none⟩)) ∧ Below w.heap.size w w'
theorem names19 (w : World) : Calls Try.prog 19 #[] w (PtrP w) := by
  have hmm := @run_makeMap Try.prog
  have HB := Lib.hid (fun o o' => belowA (belowA (Below.refl _ w) o) o')
  go_enter Try.func19, Try.ntmps19
  go_wp2_with fail
  go_ret
  exact ⟨_, rfl, HB.out _ _⟩
theorem blobs20 (w : World) : Calls Try.prog 20 #[] w (PtrP w) := by
  have hmm := @run_makeMap Try.prog
  have HB := Lib.hid (fun o o' o'' => belowA (belowA (belowA (Below.refl _ w) o) o') o'')
  go_enter Try.func20, Try.ntmps20
  go_wp2_with fail
  go_ret
  exact ⟨_, rfl, HB.out _ _ _⟩
theorem heap18 (w : World) (a b : Nat) : Calls Try.prog 18 #[.pointer (some ⟨a, 0, none⟩), .pointer (some ⟨b, 0, none⟩), .int .i64 10] w (PtrP w) := by
  have HB := Lib.hid (fun o => belowA (Below.refl _ w) o)
  go_enter Try.func18, Try.ntmps18
  go_wp2_with fail
  go_ret
  exact ⟨_, rfl, HB.out _⟩
theorem room21 (w : World) : Calls Try.prog 21 #[.pointer none, .int .i64 1, .slice none 0 0] w fun e w' => e = .returned (.tuple #[.slice none 0 0, .int .i64 1]) ∧ w = w' := by
  go_enter Try.func21, Try.ntmps21
  go_wp2_with fail
  go_ret2
  exact ⟨rfl, rfl⟩
theorem collect22 (w : World) : Calls Try.prog 22 #[.pointer none, .bool true, .slice none 0 0] w fun e w' => e = .returned (.tuple #[.slice none 0 0, .int .i64 1]) ∧ w = w' := by
  go_enter Try.func22, Try.ntmps22
  go_wp2_with fail
  go_ret2
  exact ⟨rfl, rfl⟩
theorem counts23 (w : World) : Calls Try.prog 23 #[.pointer none] w fun e w' => e = .returned (.tuple #[.int .i64 0, .int .i64 0]) ∧ w = w' := by
  go_enter Try.func23, Try.ntmps23
  go_wp2_with fail
  go_ret2
  exact ⟨rfl, rfl⟩
theorem new24_nil (w : World) : Calls Try.prog 24 #[.pointer none, .agg #[.int .i64 1, .int .i64 0, .bool false]] w fun e w' => e = .returned (.pointer none) ∧ Below w.heap.size w w' := by
  have HB := Lib.hid (fun o => belowA (Below.refl _ w) o)
  go_enter Try.func24, Try.ntmps24
  go_wp2_with fail
  go_ret
  exact ⟨rfl, HB.out _⟩
theorem new24_zero (w : World) (a : Nat) : Calls Try.prog 24 #[.pointer (some ⟨a, 0, none⟩), .agg #[.int .i64 0, .int .i64 0, .bool false]] w fun e w' => e = .returned (.pointer none) ∧ Below w.heap.size w w' := by
  have HB := Lib.hid (fun o => belowA (Below.refl _ w) o)
  go_enter Try.func24, Try.ntmps24
  go_wp2_with fail
  go_ret
  exact ⟨rfl, HB.out _⟩
theorem new24_neg (w : World) (a : Nat) : Calls Try.prog 24 #[.pointer (some ⟨a, 0, none⟩), .agg #[.int .i64 1, .int .i64 (-1), .bool false]] w fun e w' => e = .returned (.pointer none) ∧ Below w.heap.size w w' := by
  have HB := Lib.hid (fun o => belowA (Below.refl _ w) o)
  go_enter Try.func24, Try.ntmps24
  go_wp2_with fail
  go_ret
  exact ⟨rfl, HB.out _⟩
theorem new24_one (w : World) (a : Nat) : Calls Try.prog 24 #[.pointer (some ⟨a, 0, none⟩), .agg #[.int .i64 1, .int .i64 0, .bool false]] w (PtrP w) := by
  have HB := Lib.hid (fun o o' => belowA (belowA (Below.refl _ w) o) o')
  go_enter Try.func24, Try.ntmps24
  go_wp2_with fail
  go_ret
  exact ⟨_, rfl, HB.out _ _⟩
structure Has (bs : List (Nat × Obj)) (V : World) : Prop where
  h : ∀ p ∈ bs, V.heap[p.1]? = some p.2
theorem Has.below {bs : List (Nat × Obj)} {V V' : World} (h : Has bs V) (hb : Below V.heap.size V V') : Has bs V' := ⟨fun p hp => blk_same (h.h p hp) hb⟩
theorem Has.alloc {bs : List (Nat × Obj)} {V : World} (h : Has bs V) (o : Obj) {z : Nat} (hz : z = V.heap.size) : Has ((z, o) :: bs) (V.alloc o) := ⟨fun p hp => by
  rcases List.mem_cons.1 hp with rfl | hp
  · exact blk_new hz
  · exact blk_alloc (h.h p hp) o⟩
end Go.Proofs.Ytegffanlehaloaa.cl
