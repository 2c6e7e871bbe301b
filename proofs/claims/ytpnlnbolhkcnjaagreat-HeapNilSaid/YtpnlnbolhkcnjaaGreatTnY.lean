
/- How the laws' terms lie in memory. No condition. -/
import Derived.Test.YtpnlnbolhkcnjaaGreatTmA
import Derived.Test.YtpnlnbolhkcnjaaGreatFrame
import Derived.Deep.Slices
import Derived.Deep.Fields
import Derived.ChangeSame
namespace Go.Proofs.YtpnlnbolhkcnjaaGreat.tm
open Go.RowKit mem Go.ChangeShapes Go.WideShapes Go.ChangeAt Go.Deep
set_option maxRecDepth 100000
set_option linter.unusedVariables false
set_option linter.unusedSimpArgs false
variable {H : Type} {enc : TypeId × Value → H} {W : World}
theorem list_ofT {α : Type} (P : Nat → α → Prop) : ∀ n, (∀ i, i < n → ∃ a, P i a) → ∃ l : List α, l.length = n ∧ ∀ i, (h : i < l.length) → P i l[i] := by
  intro n
  induction n with
  | zero => intro _; exact ⟨[], rfl, fun i h => absurd h (by simp)⟩
  | succ n ih =>
    intro h
    obtain ⟨l, hl, hp⟩ := ih (fun i hi => h i (by omega))
    obtain ⟨a, ha⟩ := h n (by omega)
    refine ⟨l ++ [a], by simp [hl], fun i hi => ?_⟩
    by_cases hin : i < l.length
    · rw [List.getElem_append_left hin]; exact hp i hin
    · have : i = n := by simp at hi; omega
      subst this
      rw [List.getElem_append_right (by omega)]
      simpa using ha
/-- nine cells that read as a term -/
theorem open_nine {n : Nat} {cs : List Value} {x : DataW H × List MemPlace} (ih : ∀ v x, DataW.trod enc Tryz.prog W 0 (fun _ => true) true n 36 [v] = some x → ∃ l : List (Tm n), ItemsAt W W.heap.size n v l)
    (h : DataW.trod enc Tryz.prog W 0 (fun _ => true) true (n + 1) 38 cs = some x) : ∃ (t : Tm (n + 1)) (v : Value), cs = [.int .i64 t.f.kind, .int .i64 t.f.int, .int .i64 t.f.gen, .string t.f.name, .string t.f.func, .int .i64 t.f.arity, v, .string t.f.bytes, .int .i64 t.f.bits] ∧ ItemsAt W W.heap.size n v t.items := by
  obtain ⟨ys, n', hn', hy, hlen, hyl, hf⟩ := DataW.trod_struct Tryz.underlying38 h
  obtain rfl : n = n' := by omega
  have hl9 : cs.length = 9 := hlen
  match cs, hl9 with
  | [b0, b1, b2, b3, b4, b5, b6, b7, b8], _ =>
  have hl : ys.length = 9 := hyl
  match ys, hl with
  | [y0, y1, y2, y3, y4, y5, y6, y7, y8], _ =>
  have t0 : DataW.trod enc Tryz.prog W 0 (fun _ => true) true n 3 [b0] = some y0 := hf 0 _ rfl
  have t1 : DataW.trod enc Tryz.prog W 0 (fun _ => true) true n 2 [b1] = some y1 := hf 1 _ rfl
  have t2 : DataW.trod enc Tryz.prog W 0 (fun _ => true) true n 2 [b2] = some y2 := hf 2 _ rfl
  have t3 : DataW.trod enc Tryz.prog W 0 (fun _ => true) true n 9 [b3] = some y3 := hf 3 _ rfl
  have t4 : DataW.trod enc Tryz.prog W 0 (fun _ => true) true n 9 [b4] = some y4 := hf 4 _ rfl
  have t5 : DataW.trod enc Tryz.prog W 0 (fun _ => true) true n 3 [b5] = some y5 := hf 5 _ rfl
  have t6 : DataW.trod enc Tryz.prog W 0 (fun _ => true) true n 36 [b6] = some y6 := hf 6 _ rfl
  have t7 : DataW.trod enc Tryz.prog W 0 (fun _ => true) true n 9 [b7] = some y7 := hf 7 _ rfl
  have t8 : DataW.trod enc Tryz.prog W 0 (fun _ => true) true n 3 [b8] = some y8 := hf 8 _ rfl
  obtain ⟨l, hl⟩ := ih b6 y6 t6
  obtain ⟨k0, e0, _⟩ := DataW.trod_int Tryz.underlying3 t0
  obtain ⟨k1, e1, _⟩ := DataW.trod_int Tryz.underlying2 t1
  obtain ⟨k2, e2, _⟩ := DataW.trod_int Tryz.underlying2 t2
  obtain ⟨k5, e5, _⟩ := DataW.trod_int Tryz.underlying3 t5
  obtain ⟨k8, e8, _⟩ := DataW.trod_int Tryz.underlying3 t8
  obtain ⟨s3, e3, _⟩ := DataW.trod_string Tryz.underlying9 t3
  obtain ⟨s4, e4, _⟩ := DataW.trod_string Tryz.underlying9 t4
  obtain ⟨s7, e7, _⟩ := DataW.trod_string Tryz.underlying9 t7
  simp only [List.cons.injEq, and_true] at e0 e1 e2 e3 e4 e5 e7 e8
  subst e0; subst e1; subst e2; subst e3; subst e4; subst e5; subst e7; subst e8
  exact ⟨Tm.mk ⟨k0, k1, k2, s3, s4, k5, s7, k8⟩ l, b6, rfl, hl⟩
theorem open_items : ∀ (n : Nat) (v : Value) (x : DataW H × List MemPlace), DataW.trod enc Tryz.prog W 0 (fun _ => true) true n 36 [v] = some x → ∃ l : List (Tm n), ItemsAt W W.heap.size n v l := by
  intro n
  induction n using Nat.strongRecOn with
  | ind n ih =>
    intro v x h
    rcases DataW.trod_slice Tryz.underlying36 h with ⟨hcs, hx⟩ | ⟨a, len, cap, elems, rest, m, hm, hcs, hx, hb, hlc, hcm, hel, hat, _, _⟩
    · simp only [List.cons.injEq, and_true] at hcs
      subst hcs
      exact ⟨[], ItemsAt.nil_any (Nat.zero_le _)⟩
    · simp only [List.cons.injEq, and_true] at hcs
      subst hcs
      subst hm
      have hC : Tryz.prog.cellsOf 38 = 9 := by kernel_rfl
      cases m with
      | zero =>
        cases len with
        | zero => exact ⟨[], ItemsAt.nil_any hcm⟩
        | succ len =>
          have h0 := hat 0 (by omega)
          have e0 : elems[0]? = some (elems[0]'(by omega)) := List.getElem?_eq_getElem (by omega)
          rw [e0] at h0
          cases hc : W.cells? 0 (a.add (0 * Tryz.prog.cellsOf 38)) (Tryz.prog.cellsOf 38) with
          | none => rw [hc] at h0; simp at h0
          | some cs => rw [hc] at h0; simp [DataW.trod] at h0
      | succ m =>
        have hex : ∀ i, i < len → ∃ t : Tm (m + 1), ∃ u, (∀ k, k < 9 → W.cell? (a.add (i * 9 + k)) = [Value.int .i64 t.f.kind, .int .i64 t.f.int, .int .i64 t.f.gen, .string t.f.name, .string t.f.func, .int .i64 t.f.arity, u, .string t.f.bytes, .int .i64 t.f.bits][k]?) ∧ ItemsAt W W.heap.size m u t.items := by
          intro i hi
          have h0 := hat i hi
          have e0 : elems[i]? = some (elems[i]'(by omega)) := List.getElem?_eq_getElem (by omega)
          rw [e0] at h0
          cases hc : W.cells? 0 (a.add (i * Tryz.prog.cellsOf 38)) (Tryz.prog.cellsOf 38) with
          | none => rw [hc] at h0; simp at h0
          | some cs =>
            rw [hc] at h0
            simp only [Option.bind_some] at h0
            obtain ⟨t, u, rfl, hI⟩ := open_nine (fun v x => ih m (by omega) v x) h0
            refine ⟨t, u, fun k hk => ?_, hI⟩
            obtain ⟨_, _, hcell⟩ := World.cells?_some hc
            have := hcell k (by rw [hC]; exact hk)
            rw [hC, Go.Deep.add_add] at this
            exact this
        obtain ⟨l, hl, hP⟩ := list_ofT _ len hex
        obtain ⟨g, o, pth⟩ := a
        suffices hs : ItemsAt W W.heap.size (m + 1) (.slice (some ⟨g, o, pth⟩) len cap) l from ⟨_, hs.lift⟩
        refine ⟨some ⟨g, o, pth⟩, cap, by rw [hl], by omega, hcm, fun hne => ?_⟩
        have hpos : 0 < l.length := List.length_pos_iff.2 hne
        obtain ⟨u0, hc0, _⟩ := hP 0 hpos
        have x0 := hc0 0 (by omega)
        have hpth : pth = none := by
          cases pth with
          | none => rfl
          | some q =>
            exfalso
            have x1 : W.cell? ⟨g, o, some q⟩ = some _ := x0
            unfold World.cell? at x1
            split at x1 <;> simp at x1
        subst hpth
        refine ⟨g, o, rfl, ?_, fun j hj => ?_⟩
        · have := World.block_lt_of_cell? W _ x0; rw [Addr.add_lit] at this; exact this
        · obtain ⟨u, hc, hI⟩ := hP j hj
          have hcc := fun k hk => by have := hc k hk; rwa [Addr.add_lit] at this
          refine ⟨u, ⟨?_, ?_, ?_, ?_, ?_, ?_, ?_, ?_, ?_⟩, hI⟩
          · exact hcc 0 (by omega)
          · exact hcc 1 (by omega)
          · exact hcc 2 (by omega)
          · exact hcc 3 (by omega)
          · exact hcc 4 (by omega)
          · exact hcc 5 (by omega)
          · exact hcc 6 (by omega)
          · exact hcc 7 (by omega)
          · exact hcc 8 (by omega)
/-- a list of terms that came in -/
theorem open_list {b : Nat} {v : Value} {d : DataW H} {ps : List MemPlace} (hv : Value.okWide Tryz.prog W .any b 36 v) (h : DataW.Trod enc Tryz.prog W 0 (fun _ => true) true 36 v d ps) : ∃ n, ∃ l : List (Tm n), ItemsAt W W.heap.size n v l := by
  obtain ⟨a0, len, cap, rfl⟩ := okWide_slice Tryz.underlying36 hv
  obtain ⟨fuel, hf⟩ := h
  have hf' : DataW.trod enc Tryz.prog W 0 (fun _ => true) true fuel 36 [.slice a0 len cap] = some (d, ps) := by simpa [Value.cells] using hf
  exact ⟨fuel, open_items fuel _ _ hf'⟩
/-- a term that came in -/
theorem open_term {b : Nat} {v : Value} {d : DataW H} {ps : List MemPlace} (hv : Value.okWide Tryz.prog W .any b 38 v) (h : DataW.Trod enc Tryz.prog W 0 (fun _ => true) true 38 v d ps) : ∃ n, ∃ (t : Tm (n + 1)) (u : Value), v = aggV t.f u ∧ ItemsAt W W.heap.size n u t.items := by
  obtain ⟨cs, rfl, hcs⟩ := okWide_struct Tryz.underlying38 hv
  obtain ⟨fuel, hf⟩ := h
  cases fuel with
  | zero => simp [DataW.trod] at hf
  | succ n =>
    have hf' : DataW.trod enc Tryz.prog W 0 (fun _ => true) true (n + 1) 38 cs.toList = some (d, ps) := by simpa [Value.cells] using hf
    obtain ⟨t, u, e, hI⟩ := open_nine (fun v x => open_items n v x) hf'
    refine ⟨n, t, u, ?_, hI⟩
    unfold aggV
    congr 1
    exact Array.ext' e
/-- two terms at one depth -/
def liftTm {n m : Nat} (h : n ≤ m) (t : Tm (n + 1)) : Prop := True
theorem term_lift {w : World} {B n : Nat} {u : Value} {t : Tm (n + 1)} (h : ItemsAt w B n u t.items) (m : Nat) (hm : n ≤ m) : ∃ t' : Tm (m + 1), t'.f = t.f ∧ ItemsAt w B m u t'.items := by
  obtain ⟨l, hl⟩ := h.to hm
  exact ⟨Tm.mk t.f l, rfl, hl⟩
end Go.Proofs.YtpnlnbolhkcnjaaGreat.tm
