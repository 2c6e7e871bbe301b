/- Texts of this seat, one behind the other: ToJ, ToK, ToL. No condition beyond theirs. -/
import Derived.Test.YtfbggmbmgohiiaaGreatM38
import Derived.Test.YtfbggmbmgohiiaaGreatM40
import Derived.Test.YtfbggmbmgohiiaaGreatM24
import Derived.Test.YtfbggmbmgohiiaaGreatM41
set_option linter.unusedSimpArgs false
set_option linter.unusedVariables false
set_option maxHeartbeats 1000000
set_option maxRecDepth 100000
namespace Go.Proofs.YtfbggmbmgohiiaaGreat.tm
open Go.RowKit mem names
variable {α : Type} {enc : α → TF × Value} {w0 wr w : World} {b n cap : Nat} {d : List α} {S : α → Prop} {c : α → α → Int}
def uniqP (c : α → α → Int) (d : List α) : Nat → List α
  | 0 => []
  | 1 => d.take 1
  | k + 2 => uniqP c d (k + 1) ++ (match d[k + 1]?, d[k]? with | some x, some y => if c x y = 0 then [] else [x] | _, _ => [])
theorem uniqP_keep {k : Nat} {x y : α} (h1 : d[k + 1]? = some x) (h2 : d[k]? = some y) (h : c x y ≠ 0) : uniqP c d (k + 2) = uniqP c d (k + 1) ++ [x] := by
  show uniqP c d (k + 1) ++ _ = _
  rw [h1, h2]; simp [h]
theorem uniqP_skip {k : Nat} {x y : α} (h1 : d[k + 1]? = some x) (h2 : d[k]? = some y) (h : c x y = 0) : uniqP c d (k + 2) = uniqP c d (k + 1) := by
  show uniqP c d (k + 1) ++ _ = _
  rw [h1, h2]; simp [h]
def CInv (c : α → α → Int) (enc : α → TF × Value) (w0 wr : World) (b n cap : Nat) (d : List α) (k i : Nat) : Prop :=
  ∃ Q, RowW enc w0 wr b n cap Q ∧ Q.take k = uniqP c d i ∧ Q.drop (i - 1) = d.drop (i - 1) ∧ (uniqP c d i).length = k
theorem CInv.elt {k i : Nat} (h : CInv c enc w0 wr b n cap d k i) (hi : 1 ≤ i) (hin : i < d.length) :
    ∃ x y, d[i]? = some x ∧ d[i - 1]? = some y ∧ Cells wr b (i * 9) (enc x).1 (enc x).2 ∧ Cells wr b ((i - 1) * 9) (enc y).1 (enc y).2 ∧ (∀ o, wr.frozen? ⟨b, o, none⟩ = false) ∧ b < wr.heap.size ∧ TouchB (fun k => k = b) w0 wr := by
  obtain ⟨Q, h1, h2, h3, h4⟩ := h
  have hg : ∀ j, i - 1 ≤ j → Q[j]? = d[j]? := fun j hj => by
    have := congrArg (fun l => l[j - (i - 1)]?) h3
    simp only [List.getElem?_drop] at this
    rwa [show i - 1 + (j - (i - 1)) = j by omega] at this
  have e1 := List.getElem?_eq_getElem hin
  have e2 := List.getElem?_eq_getElem (l := d) (i := i - 1) (by omega)
  have q1 := (hg i (by omega)).trans e1
  have q2 := (hg (i - 1) (by omega)).trans e2
  have cg : ∀ {j : Nat} {x : α}, Q[j]? = some x → Cells wr b (j * 9) (enc x).1 (enc x).2 := fun {j x} hj => by
    obtain ⟨a1, a2⟩ := List.getElem?_eq_some_iff.1 hj
    have := h1.cells j a1
    rwa [a2] at this
  exact ⟨_, _, e1, e2, cg q1, cg q2, fun o => h1.frozen o, h1.lt, h1.touch⟩
theorem CInv.below {k i : Nat} {w' : World} (h : CInv c enc w0 wr b n cap d k i) (hb : Below wr.heap.size wr w') : CInv c enc w0 w' b n cap d k i := by
  obtain ⟨Q, h1, h2⟩ := h
  exact ⟨Q, h1.below hb h1.touch.size, h2⟩
theorem CInv.skip {k i : Nat} {x y : α} (h : CInv c enc w0 wr b n cap d k i) (hi : 1 ≤ i) (hx : d[i]? = some x) (hy : d[i - 1]? = some y) (hc : c x y = 0) : CInv c enc w0 wr b n cap d k (i + 1) := by
  obtain ⟨j, rfl⟩ : ∃ j, i = j + 1 := ⟨i - 1, by omega⟩
  obtain ⟨Q, h1, h2, h3, h4⟩ := h
  have e := uniqP_skip (c := c) hx hy hc
  refine ⟨Q, h1, by rw [e]; exact h2, ?_, by rw [e]; exact h4⟩
  have := congrArg (List.drop 1) h3
  simpa [List.drop_drop] using this
theorem CInv.keep {k i : Nat} {x y : α} (h : CInv c enc w0 wr b n cap d k i) (hi : 1 ≤ i) (hki : k < i) (hx : d[i]? = some x) (hy : d[i - 1]? = some y) (hc : c x y ≠ 0) : CInv c enc w0 (set9 wr b (k * 9) (enc x).1 (enc x).2) b n cap d (k + 1) (i + 1) := by
  obtain ⟨j, rfl⟩ : ∃ j, i = j + 1 := ⟨i - 1, by omega⟩
  obtain ⟨Q, h1, h2, h3, h4⟩ := h
  have hl := congrArg List.length h3
  simp at hl
  have hjd := (List.getElem?_eq_some_iff.1 hx).1
  have e := uniqP_keep (c := c) hx hy hc
  refine ⟨Q.set k x, h1.set k (by omega) x, ?_, ?_, by rw [e]; simp [h4]⟩
  · rw [e, ← h2, List.take_add_one, List.take_set_of_le (Nat.le_refl _), List.getElem?_set_self (by omega)]
    rfl
  · rw [List.drop_set_of_lt (by omega)]
    have := congrArg (List.drop 1) h3
    simpa [List.drop_drop] using this
theorem CInv.clear {k : Nat} (h : CInv c enc w0 wr b n cap d k n) (hn : n = d.length) (hkn : k < n) : ∃ cur, wr.heap[b]? = some (.cells cur 24 (0, 0)) ∧ k * 9 + (n - k) * 9 ≤ cur.size ∧ k ≤ cap ∧ n ≤ cap ∧
    (TouchB (fun k => k = b) w0 (wr.setRow b (cur.toList.take (k * 9) ++ flatR (List.replicate (n - k) (zeroF, nilV)) ++ cur.toList.drop (k * 9 + (n - k) * 9)).toArray) ∧ (wr.setRow b (cur.toList.take (k * 9) ++ flatR (List.replicate (n - k) (zeroF, nilV)) ++ cur.toList.drop (k * 9 + (n - k) * 9)).toArray).ownsRow 0 24 9 (.slice (some ⟨b, 0, none⟩) n cap) n (flatR ((uniqP c d n).map enc ++ List.replicate (n - k) (zeroF, nilV)))) := by
  obtain ⟨Q, h1, h2, h3, h4⟩ := h
  have hQ := h1.len
  rcases h1.own.2 with ⟨h', _⟩ | ⟨g', cap', cur, h', hbg, hg, hc1, hm, hs, ht⟩
  · simp at h'
  · simp only [Value.slice.injEq, Option.some.injEq, Addr.mk.injEq, and_true, true_and] at h'
    obtain ⟨rfl, rfl⟩ := h'
    refine ⟨cur, hg, by omega, by omega, hc1, (h1.touch.trans (setRow_touch _ _ _) (fun _ _ e => e)), ?_, ?_⟩
    · rw [flatR_len]; simp; omega
    · have hlt : b < wr.heap.size := h1.lt
      refine .inr ⟨b, cap, _, rfl, Nat.zero_le _, setRow_heap wr b cur _ 24 (0, 0) hg, hc1, hm, ?_, ?_⟩
      · have hl := flatR_len (List.replicate (n - k) (zeroF, nilV))
        simp only [List.length_replicate] at hl
        simp [hl, hs]; omega
      · have ek : (flatR (Q.map enc)).take (k * 9) = flatR ((uniqP c d n).map enc) := by
          rw [← h2, List.map_take]
          have : flatR (Q.map enc) = flatR ((Q.map enc).take k) ++ flatR ((Q.map enc).drop k) := by rw [← flatR_append, List.take_append_drop]
          rw [this, List.take_append_of_le_length (by rw [flatR_len]; simp; omega), List.take_of_length_le (by rw [flatR_len]; simp; omega)]
        have et : cur.toList.take (k * 9) = flatR ((uniqP c d n).map enc) := by
          rw [← ek, ← ht, List.take_take, Nat.min_eq_left (by omega)]
        rw [et, flatR_append]
        have hl := flatR_len (List.replicate (n - k) (zeroF, nilV))
        have hl2 := flatR_len ((uniqP c d n).map enc)
        simp only [List.length_replicate, List.length_map] at hl hl2
        rw [List.take_append_of_le_length (by simp [hl, hl2, h4]; omega), List.take_of_length_le (by simp [hl, hl2, h4]; omega)]
theorem CInv.frozen {k i : Nat} (h : CInv c enc w0 wr b n cap d k i) (o : Nat) : wr.frozen? ⟨b, o, none⟩ = false := by
  obtain ⟨Q, h1, _⟩ := h
  exact h1.frozen o
end Go.Proofs.YtfbggmbmgohiiaaGreat.tm
