/- Several texts in one, one behind the other: LkMg. No condition beyond theirs. -/
import Derived.Test.YtnakbepcalciiaaGreatGv
import Derived.SizedLaws
/- Lists of monitors as they come in, with what is known of their size. Condition: the arguments are no larger than an address space. -/
namespace Go.Proofs.YtnakbepcalciiaaGreat.lk
open Go.RowKit mem rec tm Go.ChangeShapes Go.WideShapes Go.ChangeAt Go.Deep
set_option linter.unusedVariables false
set_option linter.unusedSimpArgs false
set_option maxRecDepth 100000
variable {H : Type} {enc : TypeId × Value → H} {W : World}
theorem open_monsS {b : Nat} {v : Value} {d : DataW H} {ps : List MemPlace} (hv : Value.okWide Tryz.prog W .any b 45 v) (h : DataW.Trod enc Tryz.prog W 0 (fun _ => true) true 45 v d ps) : ∃ n, ∃ l : List (MonE n), RecAt mxL 27 W W.heap.size v l ∧ (∀ e ∈ l, MonIn W W.heap.size e) ∧ (l = [] ∨ ∃ es rs : List (DataW H), d = .slice es rs ∧ es.length = l.length) := by
  obtain ⟨a0, len, cap, rfl⟩ := okWide_slice Tryz.underlying45 hv
  obtain ⟨fuel, hf⟩ := h
  have hf' : DataW.trod enc Tryz.prog W 0 (fun _ => true) true fuel 45 [.slice a0 len cap] = some (d, ps) := by simpa [Value.cells] using hf
  rcases DataW.trod_slice Tryz.underlying45 hf' with ⟨hcs, hx⟩ | ⟨a, len', cap', elems, rest, m, hm, hcs, hx, hb, hlc, hcm, hel, hat, _, _⟩
  · simp only [List.cons.injEq, and_true] at hcs
    rw [hcs]
    exact ⟨0, [], RecAt.nil _ _ _ _ (Nat.zero_le _), fun e he => by simp at he, .inl rfl⟩
  · simp only [List.cons.injEq, and_true] at hcs
    rw [hcs]
    cases len' with
    | zero => exact ⟨0, [], RecAt.nil _ _ _ _ hcm, fun e he => by simp at he, .inl rfl⟩
    | succ len' =>
      have hget : ∀ i, i < len' + 1 → ∃ cs x, W.cells? 0 (a.add (i * 27)) 27 = some cs ∧ DataW.trod enc Tryz.prog W 0 (fun _ => true) true m 47 cs = some x := by
        intro i hi
        have h0 := hat i hi
        have e0 : elems[i]? = some (elems[i]'(by omega)) := List.getElem?_eq_getElem (by omega)
        rw [e0] at h0
        rw [cells47] at h0
        cases hc : W.cells? 0 (a.add (i * 27)) 27 with
        | none => rw [hc] at h0; simp at h0
        | some cs => rw [hc] at h0; exact ⟨cs, _, rfl, h0⟩
      match m, hget with
      | 0, hget => obtain ⟨cs, x, _, h0⟩ := hget 0 (by omega); simp [DataW.trod] at h0
      | 1, hget =>
        exfalso
        obtain ⟨cs, x, _, h0⟩ := hget 0 (by omega)
        obtain ⟨ys, n', hn', hy, hlen, hyl, hf⟩ := DataW.trod_struct Tryz.underlying47 h0
        obtain rfl : 0 = n' := by omega
        have hl : ys.length = 3 := hyl
        match ys, hl with
        | [y0, y1, y2], _ =>
          have t0 := hf 0 _ rfl
          simp [DataW.trod] at t0
      | m + 1 + 1, hget =>
        have hex : ∀ i, i < len' + 1 → ∃ t : MonE m, (∀ k, k < 27 → W.cell? (a.add (i * 27 + k)) = (mxL t)[k]?) ∧ MonIn W W.heap.size t := by
          intro i hi
          obtain ⟨cs, x, hc, h0⟩ := hget i hi
          obtain ⟨t, rfl, h1⟩ := open_mon h0
          refine ⟨t, fun k hk => ?_, h1⟩
          obtain ⟨_, _, hcell⟩ := World.cells?_some hc
          have := hcell k hk
          rw [Go.Deep.add_add] at this
          exact this
        obtain ⟨l, hl, hP⟩ := list_ofT _ (len' + 1) hex
        obtain ⟨g, o, pth⟩ := a
        have hpos : 0 < l.length := by omega
        have x0 := (hP 0 hpos).1 0 (by omega)
        have hpth : pth = none := by
          cases pth with
          | none => rfl
          | some q =>
            exfalso
            have x1 : W.cell? ⟨g, o, some q⟩ = some _ := x0
            unfold World.cell? at x1
            split at x1 <;> simp at x1
        subst hpth
        refine ⟨m, l, ⟨some ⟨g, o, none⟩, cap', by rw [hl], by omega, hcm, fun hne => ⟨g, o, rfl, ?_, fun j e hj k u hu => ?_⟩⟩, fun e he => ?_, .inr ⟨elems.map (·.1), rest.map (·.1), congrArg (·.1) hx, by rw [List.length_map, hel, hl]⟩⟩
        · have := World.block_lt_of_cell? W _ x0; rw [Addr.add_lit] at this; exact this
        · have hjl : j < l.length := by
            rcases Nat.lt_or_ge j l.length with h | h
            · exact h
            · rw [List.getElem?_eq_none h] at hj; cases hj
          rw [List.getElem?_eq_getElem hjl] at hj
          simp only [Option.some.injEq] at hj
          subst hj
          have hk : k < 27 := by
            rcases Nat.lt_or_ge k 27 with h | h
            · exact h
            · rw [List.getElem?_eq_none (by rw [mxL_len]; exact h)] at hu; cases hu
          have := (hP j hjl).1 k hk
          rw [Addr.add_lit] at this
          rw [this, hu]
        · obtain ⟨j, hj, rfl⟩ := List.getElem_of_mem he
          exact (hP j hj).2
theorem bytes47 : Tryz.prog.bytesOf 47 = 336 := by kernel_rfl
theorem mons_small {ts : List TypeId} {ds : List (DataW H)} {d : DataW H} {k : Nat} (h : (DataW.weightsEach Tryz.prog ts ds).all (· ≤ reachBytes) = true) (ht : ts[0]? = some 45) (hd : ds[0]? = some d) (hx : k = 0 ∨ ∃ es rs : List (DataW H), d = .slice es rs ∧ es.length = k) : k * 336 ≤ 140737488355328 := by
  rcases hx with rfl | ⟨es, rs, rfl, rfl⟩
  · decide
  · have := sized_slice h (j := 0) (t := 45) (e := 47) ht hd Tryz.underlying45
    rw [bytes47] at this
    unfold reachBytes at this
    omega
end Go.Proofs.YtnakbepcalciiaaGreat.lk
