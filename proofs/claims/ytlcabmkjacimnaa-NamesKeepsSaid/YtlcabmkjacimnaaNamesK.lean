/- The walk of NamesApart: it returns true. Conditions: the lists are in memory that the call does not own. -/
import Derived.Test.YtlcabmkjacimnaaNamesJ
namespace Go.Proofs.Ytlcabmkjacimnaa.names
open Go.RowKit mem
set_option linter.unusedVariables false
set_option linter.unusedSimpArgs false
set_option maxHeartbeats 1000000

theorem puts_stop (l : List ByteArray) (k : Nat) (h : ¬ k < l.length) : puts l (k + 1) = puts l k := by
  unfold puts; rw [List.take_of_length_le (by omega), List.take_of_length_le (by omega)]
theorem puts_end (l : List ByteArray) (k : Nat) (h : l.length ≤ k) : puts l k = puts l l.length := by
  unfold puts; rw [List.take_of_length_le (by omega), List.take_of_length_le (by omega)]
theorem puts_len' (l : List ByteArray) (k : Nat) : (puts l k).length ≤ l.length := by
  by_cases h : l.length ≤ k
  · rw [puts_end l k h]; exact puts_len l l.length
  · have := puts_len l k; omega

/-- four tables of the call's own, no two of which share a block -/
structure TB where
  b : Nat
  L : List ByteArray
  m : Nat
  p : Option Addr
  c : Nat
def TB.foot (t : TB) : Nat → Prop := names.foot t.b t.m t.p
structure Fam (B : Nat) (w : World) (T : Fin 4 → TB) (n : Nat) : Prop where
  own : ∀ i : Fin 4, i.val < n → Own B w (T i).b (T i).L (T i).m (T i).p (T i).c
  dis : ∀ i j : Fin 4, i.val < n → j.val < n → i ≠ j → ∀ k, (T i).foot k → ¬ (T j).foot k

theorem Fam.below {B : Nat} {w w' : World} {T : Fin 4 → TB} {n : Nat} (h : Fam B w T n) (hb : Below w.heap.size w w') : Fam B w' T n :=
  ⟨fun i hi => (h.own i hi).below hb, h.dis⟩

theorem put_fam {W w : World} {T : Fin 4 → TB} (hF : Fam W.heap.size w T 4) (i : Fin 4) {b : Nat} (hb : (T i).b = b) {L : List ByteArray} (hL : (T i).L = L) (hlen : L.length < 1000) (s : ByteArray) (hW : Below W.heap.size W w) :
    Calls Try.prog 33 #[.pointer (some ⟨b, 0, none⟩), .string s] w fun e w' => e = .returned (.tuple #[.int .i64 (putI L s), .int .i64 (putE s)]) ∧ ∃ T', Fam W.heap.size w' T' 4 ∧ (∀ j, (T' j).b = (T j).b) ∧ (T' i).L = putL L s ∧ (∀ j, j ≠ i → (T' j).L = (T j).L) ∧ Below W.heap.size W w' := by
  subst hb hL
  refine (put_own (hF.own i i.isLt) s hlen hW).mono ?_
  rintro e w' ⟨rfl, p', c', hT', hW', ht, hf⟩
  refine ⟨rfl, fun j => if j = i then ⟨(T i).b, putL (T i).L s, (T i).m, p', c'⟩ else T j, ⟨?_, ?_⟩, ?_, by simp, ?_, hW'⟩
  · intro j hj
    by_cases hji : j = i
    · subst hji; simpa using hT'
    · simp only [hji, if_false]
      have hj' := hF.own j hj
      exact ⟨hj'.tab.touch ht (fun k hk hk' => hF.dis i j i.isLt hj (fun e => hji e.symm) k hk' hk), hj'.new⟩
  · intro j1 j2 h1 h2 hne k hk hk'
    by_cases e1 : j1 = i
    · subst e1
      have e2 : j2 ≠ j1 := fun e => hne e.symm
      simp only [if_true] at hk
      simp only [e2, if_false] at hk'
      rcases hf k hk with h | h
      · exact hF.dis j1 j2 h1 h2 hne k h hk'
      · have := (hF.own j2 h2).tab.lt k hk'; omega
    · simp only [e1, if_false] at hk
      by_cases e2 : j2 = i
      · subst e2
        simp only [if_true] at hk'
        rcases hf k hk' with h | h
        · exact hF.dis j1 j2 h1 h2 hne k hk h
        · have := (hF.own j1 h1).tab.lt k hk; omega
      · simp only [e2, if_false] at hk'
        exact hF.dis j1 j2 h1 h2 hne k hk hk'
  · intro j; by_cases hji : j = i
    · subst hji; simp
    · simp [hji]
  · intro j hji; simp [hji]

theorem new_fam {W w : World} {T : Fin 4 → TB} (n : Nat) (hn : n < 4) (hF : Fam W.heap.size w T n) (hW : Below W.heap.size W w) :
    Calls Try.prog 32 #[] w fun e w' => ∃ b, e = .returned (.pointer (some ⟨b, 0, none⟩)) ∧ ∃ T', Fam W.heap.size w' T' (n + 1) ∧ (∀ j : Fin 4, j.val < n → T' j = T j) ∧ (T' ⟨n, hn⟩).b = b ∧ (T' ⟨n, hn⟩).L = [] ∧ Below W.heap.size W w' := by
  refine (new_own w hW).mono ?_
  rintro e w' ⟨rfl, hT', hW', ht, hz⟩
  refine ⟨_, rfl, fun j => if j.val < n then T j else ⟨w.heap.size + 1, [], w.heap.size, none, 0⟩, ⟨?_, ?_⟩, ?_, by simp, by simp, hW'⟩
  · intro j hj
    by_cases hjn : j.val < n
    · simp only [hjn, if_true]
      exact ⟨(hF.own j hjn).tab.touch ht (fun k hk hk' => hk'), (hF.own j hjn).new⟩
    · simp only [hjn, if_false]; exact hT'
  · have hnew : ∀ k, names.foot (w.heap.size + 1) w.heap.size none k → w.heap.size ≤ k := by
      rintro k (rfl | rfl | ⟨a, ha, _⟩)
      · omega
      · omega
      · cases ha
    intro j1 j2 h1 h2 hne k hk hk'
    by_cases e1 : j1.val < n
    · simp only [e1, if_true] at hk
      by_cases e2 : j2.val < n
      · simp only [e2, if_true] at hk'
        exact hF.dis j1 j2 e1 e2 hne k hk hk'
      · simp only [e2, if_false] at hk'
        have := (hF.own j1 e1).tab.lt k hk
        have := hnew k hk'
        omega
    · simp only [e1, if_false] at hk
      by_cases e2 : j2.val < n
      · simp only [e2, if_true] at hk'
        have := (hF.own j2 e2).tab.lt k hk'
        have := hnew k hk
        omega
      · exact hne (Fin.ext (by omega))
  · intro j hj; simp [hj]

theorem all_fam {W w : World} {T : Fin 4 → TB} (hF : Fam W.heap.size w T 4) (i : Fin 4) {b : Nat} (hb : (T i).b = b) {L : List ByteArray} (hL : (T i).L = L) (hlen : L.length < 1000) :
    Calls Try.prog 35 #[.pointer (some ⟨b, 0, none⟩)] w fun e w' => ∃ p c, e = .returned (.slice p L.length c) ∧ Strs w' p L ∧ Below w.heap.size w w' := by
  subst hb hL
  refine (All _ _ _ _ _ _ (hF.own i i.isLt).tab (by omega) (by unfold maxLen; omega)).mono ?_
  rintro e w2 ⟨v, rfl, hv, hb2⟩
  obtain ⟨q2, d2, rfl⟩ := row_shape hv
  exact ⟨_, _, rfl, Strs.ofRow hv, hb2⟩
end Go.Proofs.Ytlcabmkjacimnaa.names
