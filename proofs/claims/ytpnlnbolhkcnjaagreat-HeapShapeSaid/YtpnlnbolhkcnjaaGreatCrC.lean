
/- How the arguments of the laws of collect lie in memory. No condition. -/
import Derived.Test.YtpnlnbolhkcnjaaGreatCqF
import Derived.ChangeSlices
import Derived.Lib.SmallJoins
import Derived.OpenShut
namespace Go.Proofs.YtpnlnbolhkcnjaaGreat.cl
open Go.RowKit mem words Go.ChangeShapes Go.WideShapes Go.ChangeAt Go.Joins
set_option linter.unusedVariables false
set_option linter.unusedSimpArgs false
set_option maxHeartbeats 1000000
set_option maxRecDepth 100000
variable {H : Type} {enc : TypeId × Value → H} {W : World}
theorem wf_u64 {n : Int} (h : (Lit.int .u64 n).wf = true) : 0 ≤ n ∧ n ≤ 18446744073709551615 := by
  simpa [Lit.wf, IntKind.min, IntKind.max, IntKind.signed, IntKind.bits] using h
theorem open_row {fuel : Nat} {v : Value} {x : DataW H × List MemPlace} (h : DataW.trod enc Tryz.prog W 0 (fun _ => true) true fuel 22 [v] = some x) : ∃ p c l, v = .slice p l.length c ∧ WAt W W.heap.size v l ∧ Wds l := by
  rcases open_ints (k := .u64) Tryz.underlying22 Tryz.underlying40 (by kernel_rfl) h with ⟨hcs, _⟩ | ⟨a, len, cap, zs, hcs, hb, hl, hm, hlen, hx, hc, hwf⟩
  · simp only [List.cons.injEq, and_true] at hcs
    subst hcs
    exact ⟨none, 0, [], rfl, ⟨none, 0, rfl, Nat.le_refl _, by unfold maxLen; omega, fun h => absurd rfl h⟩, fun _ h => by simp at h⟩
  · simp only [List.cons.injEq, and_true] at hcs
    subst hcs
    have hlen : zs.length = cap := by simpa using hlen
    have hl2 : (zs.take len).length = len := by rw [List.length_take]; omega
    refine ⟨some a, cap, zs.take len, by rw [hl2], ⟨some a, cap, by rw [hl2], by omega, hm, fun hne => ?_⟩, fun y hy => wf_u64 (hwf y (List.mem_of_mem_take hy))⟩
    have hpos : 0 < len := by have := List.length_pos_iff.2 hne; omega
    obtain ⟨g, o, pth⟩ := a
    have x0 := hc 0 (by omega)
    have hpth : pth = none := by
      cases pth with
      | none => rfl
      | some q =>
        exfalso
        have x1 : W.cell? ⟨g, o, some q⟩ = some _ := x0
        unfold World.cell? at x1
        split at x1 <;> simp at x1
    subst hpth
    refine ⟨g, o, rfl, ?_, fun j hj => ?_⟩
    · have := World.block_lt_of_cell? W _ x0; rw [Addr.add_lit] at this; exact this
    · have := hc j (by omega)
      rw [Addr.add_lit] at this
      rw [this, List.getElem_take, List.getD_eq_getElem?_getD, List.getElem?_eq_getElem (by omega)]
      rfl
theorem open_words {b : Nat} {v : Value} {d : DataW H} {ps : List MemPlace} (hv : Value.okWide Tryz.prog W .any b 22 v) (h : DataW.Trod enc Tryz.prog W 0 (fun _ => true) true 22 v d ps) : ∃ p c l, v = .slice p l.length c ∧ WAt W W.heap.size v l ∧ Wds l := by
  obtain ⟨a0, len, cap, rfl⟩ := okWide_slice Tryz.underlying22 hv
  obtain ⟨fuel, hf⟩ := h
  have hf' : DataW.trod enc Tryz.prog W 0 (fun _ => true) true fuel 22 [.slice a0 len cap] = some (d, ps) := by simpa [Value.cells] using hf
  exact open_row hf'
theorem open_mem {b : Nat} {v : Value} {d : DataW H} {ps : List MemPlace} (hv : Value.okWide Tryz.prog W .any b 24 v) (h : DataW.Trod enc Tryz.prog W 0 (fun _ => true) true 24 v d ps) : ∃ (v1 v2 : Value) (m : Mm), v = .agg #[v1, v2, .int .i64 m.at_] ∧ WAt W W.heap.size v1 m.y ∧ WAt W W.heap.size v2 m.o ∧ Wds m.y ∧ Wds m.o := by
  obtain ⟨c0, c1, c2, y0, y1, y2, n, rfl, rfl, rfl, hy0, hy1, hy2⟩ := open_agg3 Tryz.underlying24 (by kernel_rfl) (by kernel_rfl) hv h
  obtain ⟨x, e, _, _⟩ := DataW.trod_int Tryz.underlying3 hy2
  simp only [List.cons.injEq, and_true] at e
  subst e
  obtain ⟨p1, k1, l1, rfl, g1, w1⟩ := open_row hy0
  obtain ⟨p2, k2, l2, rfl, g2, w2⟩ := open_row hy1
  exact ⟨_, _, ⟨l1, l2, x⟩, rfl, g1, g2, w1, w2⟩
end Go.Proofs.YtpnlnbolhkcnjaaGreat.cl
