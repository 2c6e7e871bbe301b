/- Several texts in one, one behind the other: LwE0. No condition beyond theirs. -/
import Derived.Test.YthgfdpamnepnfaaGr
import Derived.Test.YthgfdpamnepnfaaGu
import Derived.Test.YthgfdpamnepnfaaGv
import Derived.Test.YthgfdpamnepnfaaGw
/- Lists that are lent; what a spoilt list leaves. Conditions: as said. -/
namespace Go.Proofs.Ythgfdpamnepnfaa.tm
open Go.RowKit mem names
set_option linter.unusedVariables false
set_option linter.unusedSimpArgs false
set_option maxHeartbeats 4000000
set_option maxRecDepth 100000

theorem LentW.keptL {W : World} {B n : Nat} {v0 v : Value} {l : List (Tm n)} (h : LentW W B n v0 v l) : Calls Try.prog 23 #[v, v0] W (BPost true W) := by
  obtain ⟨F, h1, h2, h3⟩ := h
  exact keptLAll n W B F v0 v l h3 h1 h2
def LLW {n : Nat} (B : Nat) (v0 : Value) (l : List (Tm n)) (w : World) (e : Ending) (w' : World) : Prop := ∃ p' c', e = .returned (.slice p' l.length c') ∧ LentW w' B n v0 (.slice p' l.length c') l ∧ Below w.heap.size w w'
theorem lendLW {n : Nat} (w : World) (B : Nat) (v : Value) (l : List (Tm n)) (hB : B ≤ w.heap.size) (h : ItemsAt w B n v l) (hs : nodesL n l ≤ 100000000) : Calls Try.prog 17 #[v] w (LLW B v l w) := by
  refine (lendLAll n w B v l hB h hs).mono ?_
  rintro e w' ⟨F, p', c', rfl, hn⟩
  exact ⟨p', c', rfl, LentW.of hn hB, hn.below⟩
/-- what was there stays, where a list that was made is spoilt -/
theorem LentW.touch {W W' : World} {B n : Nat} {v0 v : Value} {l : List (Tm n)} {F : Nat → Prop} {H : Nat} (h : LentW W B n v0 v l) (hW : W.heap.size ≤ H) (W1 : World) (hb : Below W.heap.size W W1) (ht : TouchB F W1 W') (hF : ∀ g, F g → H ≤ g) : LentW W' B n v0 v l := by
  obtain ⟨F', h1, h2, h3⟩ := h
  have hs : ∀ g, g < W.heap.size → W'.heap[g]? = W.heap[g]? := fun g hg => (ht.block g (Nat.lt_of_lt_of_le hg hb.size) (fun hf => by have := hF g hf; omega)).trans (hb.block g hg)
  refine ⟨F', fun g hg => Nat.lt_of_lt_of_le (h1 g hg) (Nat.le_trans hb.size ht.size), h2.mono (fun g hg => hs g (h1 g hg)) (fun g hg => hs g (by omega)) (fun _ h => h), Nat.le_trans h3 (Nat.le_trans hb.size ht.size)⟩
theorem below_touch {w W W' : World} {F : Nat → Prop} (hb : Below w.heap.size w W) (ht : TouchB F W W') (hF : ∀ g, F g → w.heap.size ≤ g) : Below w.heap.size w W' :=
  ⟨ht.os.trans hb.os, ht.tape.trans hb.tape, ht.output.trans hb.output, Nat.le_trans hb.size ht.size, fun k hk => (ht.block k (Nat.lt_of_lt_of_le hk hb.size) (fun hf => by have := hF k hf; omega)).trans (hb.block k hk)⟩
/-- the spoiling of a list that was made -/
theorem spoilNew {n : Nat} {X W W1 : World} {F : Nat → Prop} {g : Nat} {l : List (Tm n)} {c : Nat} (h : NewAt X W F n (.slice (some ⟨g, 0, none⟩) l.length c) l) (hb : Below W.heap.size W W1) : Calls Try.prog 24 #[.slice (some ⟨g, 0, none⟩) l.length c] W1 (fun e w' => e = .returned (.tuple #[]) ∧ TouchB F W1 w') := by
  have hs : ∀ g, F g → W1.heap[g]? = W.heap[g]? := fun g hg => hb.block g (h.inr g hg).2
  exact (spoilTop (h.typed.same hs) (fun x hx => Nat.lt_of_lt_of_le (h.inr x hx).2 hb.size) (h.items.mono hs (fun _ h => h))).mono (fun e w' ⟨h1, h2⟩ => ⟨h1, h2.2.2.1⟩)
end Go.Proofs.Ythgfdpamnepnfaa.tm
