/- Several texts in one, one behind the other: CsD. No condition beyond theirs. -/
import Derived.Test.YtegffanlehaloaaIsA
import Derived.Test.YtegffanlehaloaaGv
/- Reach under way, in memory, with boxes. Conditions: as said. -/
namespace Go.Proofs.Ytegffanlehaloaa.cl
open Go.RowKit mem words
set_option linter.unusedVariables false
set_option linter.unusedSimpArgs false
set_option maxHeartbeats 1000000
structure ReAt (V : World) (base zm zl mp : Nat) (vL : Value) (l : List Int) (bx : List (Nat × Obj)) : Prop where
  m : MeetAt V base zm zl mp vL l
  bx : ∀ p ∈ bx, V.heap[p.1]? = some p.2 ∧ ¬ MeetB zl mp vL p.1
section
variable {V V' : World} {base zm zl mp : Nat} {vL vL' : Value} {l l' : List Int} {bx : List (Nat × Obj)}
theorem MeetAt.has {k : Nat} (h : MeetAt V base zm zl mp vL l) (hk : MeetB zl mp vL k) : k < V.heap.size := by
  rcases hk with rfl | rfl | hk
  · exact (Array.getElem?_eq_some_iff.1 h.bl).1
  · exact h.fm.lt
  · exact own_lt h.rl hk
theorem ReAt.below (h : ReAt V base zm zl mp vL l bx) (hb : Below V.heap.size V V') : ReAt V' base zm zl mp vL l bx :=
  ⟨h.m.below hb, fun p hp => ⟨blk_same (h.bx p hp).1 hb, (h.bx p hp).2⟩⟩
theorem ReAt.fewer {bx' : List (Nat × Obj)} (h : ReAt V base zm zl mp vL l bx) (hs : ∀ p ∈ bx', p ∈ bx) : ReAt V base zm zl mp vL l bx' := ⟨h.m, fun p hp => h.bx p (hs p hp)⟩
theorem ReAt.alloc (h : ReAt V base zm zl mp vL l bx) (o : Obj) : ReAt (V.alloc o) base zm zl mp vL l ((V.heap.size, o) :: bx) := by
  have h1 := h.below (belowA (Below.refl _ _) o)
  refine ⟨h1.m, fun p hp => ?_⟩
  rcases List.mem_cons.1 hp with rfl | hp
  · exact ⟨World.alloc_heap_new _ _, fun hc => Nat.lt_irrefl _ (h.m.has hc)⟩
  · exact h1.bx p hp
theorem ColN.meet (h : ColN V vL vL') {k : Nat} (hk : k < V.heap.size) (hc : MeetB zl mp vL' k) : MeetB zl mp vL k := by
  rcases hc with e | e | e
  · exact .inl e
  · exact .inr (.inl e)
  · exact .inr (.inr (h.old e hk))
theorem ReAt.keep (h : ReAt V base zm zl mp vL l bx) (c : MeetAt V' base zm zl mp vL' l') (t : TouchB (MeetB zl mp vL) V V') (n : ColN V vL vL') : ReAt V' base zm zl mp vL' l' bx := by
  refine ⟨c, fun p hp => ?_⟩
  obtain ⟨h1, h2⟩ := h.bx p hp
  have hlt := (Array.getElem?_eq_some_iff.1 h1).1
  exact ⟨(t.block _ hlt h2).trans h1, fun hc => h2 (n.meet hlt hc)⟩
theorem ReAt.mark {k : Nat} (h : ReAt V base zm zl mp vL l bx) (hk : V.heap[k]? = some (.deferred (some []))) (hm : mp < k) : ReAt V base zm zl mp vL l ((k, .deferred (some [])) :: bx) := by
  refine ⟨h.m, fun p hp => ?_⟩
  rcases List.mem_cons.1 hp with rfl | hp
  · refine ⟨hk, ?_⟩
    rintro (e | e | e)
    · have e : k = zl := e
      rw [e, h.m.bl] at hk; cases hk
    · have e : k = mp := e
      omega
    · rcases h.m.rl.2 with ⟨e1, _⟩ | ⟨g, cap, cur, e1, _, hc, _⟩
      · rw [e1] at e; simp [Value.ownBlock] at e
      · rw [e1] at e
        obtain rfl : g = k := by simpa [Value.ownBlock] using e
        rw [hc] at hk; cases hk
  · exact h.bx p hp
theorem MeetAt.frame (h : MeetAt V base zm zl mp vL l) (hs : ∀ k, k < V.heap.size → MeetB zl mp vL k ∨ k = zm → V'.heap[k]? = V.heap[k]?) : MeetAt V' base zm zl mp vL l :=
  ⟨(hs _ (Array.getElem?_eq_some_iff.1 h.bm).1 (.inr rfl)).trans h.bm, (hs _ (h.has (.inl rfl)) (.inl (.inl rfl))).trans h.bl, ownBlock_same h.rl (fun k hk => hs k (h.has (.inr (.inr hk))) (.inl (.inr (.inr hk)))), h.fm.same (hs _ (h.has (.inr (.inl rfl))) (.inl (.inr (.inl rfl)))), h.gm, h.gl, h.gp, h.ml, h.mm, h.lm, h.dm, h.dl, h.dp⟩
theorem ReAt.grown2 {row : Option Nat} {B : Nat} (h : ReAt V base zm zl mp vL l bx) (hg : V.grownBy V' row) (hr : ∀ r, row = some r → B ≤ r ∧ ∃ o : Obj, V.heap[r]? = some o ∧ o.isCells = false) (hbx : ∀ p ∈ bx, p.2.isCells = true ∨ p.1 < B) (hm : mp < B) : ReAt V' base zm zl mp vL l bx := by
  have cells : ∀ {k : Nat} {o : Obj}, V.heap[k]? = some o → o.isCells = true → V'.heap[k]? = V.heap[k]? := fun hk ho => grownBy_keeps_cells hg (fun r e => (hr r e).2) hk ho
  refine ⟨h.m.frame (fun k hlt hk => ?_), fun p hp => ?_⟩
  · rcases hk with (rfl | rfl | hk) | rfl
    · exact cells h.m.bl rfl
    · exact hg.block _ hlt (fun e => by have := (hr _ e.symm).1; omega)
    · rcases h.m.rl.2 with ⟨e1, _⟩ | ⟨g, cap, cur, e1, _, hc, _⟩
      · rw [e1] at hk; simp [Value.ownBlock] at hk
      · rw [e1] at hk
        obtain rfl : g = k := by simpa [Value.ownBlock] using hk
        exact cells hc rfl
    · exact cells h.m.bm rfl
  · obtain ⟨h1, h2⟩ := h.bx p hp
    refine ⟨?_, h2⟩
    rcases hbx p hp with hc | hc
    · exact (cells h1 hc).trans h1
    · exact (hg.block _ (Array.getElem?_eq_some_iff.1 h1).1 (fun e => by have := (hr _ e.symm).1; omega)).trans h1
theorem ReAt.put {k : Nat} {o o' : Obj} (h : ReAt V base zm zl mp vL l ((k, o) :: bx)) (hne : ∀ p ∈ bx, p.1 ≠ k) (hz : k ≠ zm) : ReAt (V.putObj k o') base zm zl mp vL l bx := by
  obtain ⟨x1, x2⟩ := h.bx _ List.mem_cons_self
  refine ⟨h.m.frame (fun j hlt hj => World.putObj_heap_other (fun e => ?_)), fun p hp => ?_⟩
  · rcases hj with hj | hj
    · exact x2 (by rw [← e]; exact hj)
    · exact hz (e ▸ hj)
  · obtain ⟨h1, h2⟩ := h.bx p (List.mem_cons_of_mem _ hp)
    exact ⟨(World.putObj_heap_other (hne p hp)).trans h1, h2⟩
/-- blocks that are no cells, from B on, lie as they lay through meet -/
theorem meet_from {B : Nat} (c : MeetAt V base zm zl mp vL l) (t : TouchB (MeetB zl mp vL) V V') (hm : mp < B) : KeepsFrom B V V' :=
  ⟨t.size, fun k o hB hk ho => by
    refine (t.block k (Array.getElem?_eq_some_iff.1 hk).1 ?_).trans hk
    rintro (e | e | e)
    · rw [e, c.bl] at hk; cases hk; cases ho
    · omega
    · rcases c.rl.2 with ⟨e1, _⟩ | ⟨g, cap, cur, e1, _, hc, _⟩
      · rw [e1] at e; simp [Value.ownBlock] at e
      · rw [e1] at e
        obtain rfl : g = k := by simpa [Value.ownBlock] using e
        rw [hc] at hk; cases hk; cases ho⟩
end
end Go.Proofs.Ytegffanlehaloaa.cl
