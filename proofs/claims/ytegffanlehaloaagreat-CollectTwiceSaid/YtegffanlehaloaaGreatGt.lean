/- Several texts in one, one behind the other: CqK, CqL, CqM, CqN. No condition beyond theirs. -/
import Derived.Test.YtegffanlehaloaaGreatGs

/- A copying, step by step, in plain Lean: sizes; what keep does to the state. Conditions: as said. -/
namespace Go.Proofs.YtegffanlehaloaaGreat.cl
open words
set_option linter.unusedVariables false
set_option linter.unusedSimpArgs false

theorem sum_perm {f : Nat → Nat} {a b : List Nat} (h : a.Perm b) : (a.map f).sum = (b.map f).sum := (h.map f).sum_nat
/-- distinct objects take no more than their area -/
theorem at_sum : ∀ {a : List (List Int)}, Pos a → ∀ {P : List Nat}, P.Nodup → (∀ i ∈ P, ∃ x, At a i x) → (P.map (fun i => (atF a i).length)).sum ≤ a.flatten.length := by
  intro a
  induction a with
  | nil =>
    intro _ P _ h
    cases P with
    | nil => simp
    | cons i P => obtain ⟨x, hx⟩ := h i List.mem_cons_self; exact hx.elim
  | cons o r ih =>
    intro hp P hd h
    have ho := hp.head
    have rest : ∀ Q : List Nat, Q.Nodup → (∀ i ∈ Q, i ≠ 0 ∧ ∃ x, At (o :: r) i x) → (Q.map (fun i => (atF (o :: r) i).length)).sum ≤ r.flatten.length := by
      intro Q hQ hq
      have hsh : ∀ i ∈ Q, o.length ≤ i ∧ ∃ x, At r (i - o.length) x := fun i hi => by
        obtain ⟨h0, x, hx⟩ := hq i hi
        rcases hx with ⟨e, _⟩ | ⟨h1, h2⟩
        · exact absurd e h0
        · exact ⟨h1, x, h2⟩
      have e1 : Q.map (fun i => (atF (o :: r) i).length) = (Q.map (fun i => i - o.length)).map (fun i => (atF r i).length) := by
        rw [List.map_map]
        refine List.map_congr_left (fun i hi => ?_)
        have h1 := (hsh i hi).1
        show (atF (o :: r) i).length = (atF r (i - o.length)).length
        unfold atF
        rw [if_neg (by omega), if_neg (by omega)]
        cases r <;> rfl
      rw [e1]
      refine ih hp.tail ?_ ?_
      · refine List.Pairwise.map _ (R := fun a b => a ≠ b ∧ a ∈ Q ∧ b ∈ Q) ?_ (List.Pairwise.imp_of_mem (fun ha hb hne => ⟨hne, ha, hb⟩) hQ)
        rintro a b ⟨hne, ha, hb⟩ e
        have := (hsh a ha).1
        have := (hsh b hb).1
        exact hne (by omega)
      · intro j hj
        obtain ⟨i, hi, rfl⟩ := List.mem_map.1 hj
        exact (hsh i hi).2
    rw [List.flatten_cons, List.length_append]
    by_cases h0 : 0 ∈ P
    · rw [sum_perm (List.perm_cons_erase h0), List.map_cons, List.sum_cons]
      have := rest (P.erase 0) (hd.erase 0) (fun i hi => ⟨fun e => (List.Nodup.mem_erase_iff hd).1 hi |>.1 e, h i (List.mem_of_mem_erase hi)⟩)
      have e : atF (o :: r) 0 = o := by unfold atF; rw [if_pos rfl]
      rw [e]
      omega
    · have := rest P hd (fun i hi => ⟨fun e => h0 (e ▸ hi), h i hi⟩)
      omega
theorem split_sum {f : Int → Nat} {q : Int → Bool} : ∀ (D : List Int), (D.map f).sum = ((D.filter q).map f).sum + ((D.filter (fun d => !q d)).map f).sum := by
  intro D
  induction D with
  | nil => rfl
  | cons d D ih =>
    cases hq : q d
    · rw [List.filter_cons, List.filter_cons, hq]
      simp only [Bool.not_false, Bool.false_eq_true, if_false, if_true, List.map_cons, List.sum_cons, ih]
      omega
    · rw [List.filter_cons, List.filter_cons, hq]
      simp only [Bool.not_true, Bool.false_eq_true, if_false, if_true, List.map_cons, List.sum_cons, ih]
      omega
theorem area_sum {B : Bk} (hB : B.pos) (b : Bool) {D : List Int} (hd : D.Nodup) (h0 : ∀ d ∈ D, 0 ≤ d) (hp : ∀ d ∈ D, (∃ x, Pt B d x) ∧ pOld d = b) : (D.map (fun d => (ob B d).length)).sum ≤ (B.s b).flatten.length := by
  have e1 : D.map (fun d => (ob B d).length) = (D.map (fun d => (pIx d).toNat)).map (fun i => (atF (B.s b) i).length) := by
    rw [List.map_map]
    refine List.map_congr_left (fun d hdm => ?_)
    show (atF (B.s (pOld d)) _).length = _
    rw [(hp d hdm).2]
    rfl
  rw [e1]
  refine at_sum (hB.s b) ?_ ?_
  · refine List.Pairwise.map _ (R := fun a c => a ≠ c ∧ a ∈ D ∧ c ∈ D) ?_ (List.Pairwise.imp_of_mem (fun ha hb hne => ⟨hne, ha, hb⟩) hd)
    rintro a c ⟨hne, ha, hc⟩ e
    obtain ⟨⟨x, hx⟩, h1⟩ := hp a ha
    obtain ⟨⟨y, hy⟩, h2⟩ := hp c hc
    exact hne (Pt.inj hB hx hy (h0 a ha) (h0 c hc) (by rw [h1, h2]) e)
  · intro i hi
    obtain ⟨d, hdm, rfl⟩ := List.mem_map.1 hi
    obtain ⟨⟨x, hx⟩, h1⟩ := hp d hdm
    have := hx.2.1
    rw [h1] at this
    exact ⟨x, this⟩
theorem obj_sum {B : Bk} (hB : B.pos) {D : List Int} (hd : D.Nodup) (h0 : ∀ d ∈ D, 0 ≤ d) (hp : ∀ d ∈ D, ∃ x, Pt B d x) : (D.map (fun d => (ob B d).length)).sum ≤ B.y.flatten.length + B.o.flatten.length := by
  rw [split_sum (q := pOld) D]
  have h1 := area_sum hB true (D := D.filter pOld) (hd.filter _) (fun d hd => h0 d (List.mem_filter.1 hd).1) (fun d hd => ⟨hp d (List.mem_filter.1 hd).1, (List.mem_filter.1 hd).2⟩)
  have h2 := area_sum hB false (D := D.filter (fun d => !pOld d)) (hd.filter _) (fun d hd => h0 d (List.mem_filter.1 hd).1) (fun d hd => ⟨hp d (List.mem_filter.1 hd).1, by have := (List.mem_filter.1 hd).2; simpa using this⟩)
  have e1 : (B.s true) = B.o := rfl
  have e2 : (B.s false) = B.y := rfl
  rw [e1] at h1
  rw [e2] at h2
  omega
theorem ite_sum {f : Int → Nat} {q : Int → Bool} : ∀ (D : List Int), (D.map (fun d => if q d = true then 0 else f d)).sum + (D.map (fun d => if q d = true then f d else 0)).sum = (D.map f).sum := by
  intro D
  induction D with
  | nil => rfl
  | cons d D ih =>
    simp only [List.map_cons, List.sum_cons]
    split <;> omega
/-- the new memory is no larger than the old one, and what was kept in place -/
theorem Inv.small {B : Bk} {mk : Int} {full : Bool} {base : List (List Int)} {roots : List Int} {S : Bk} {D I : List Int} {i k : Nat} (h : Inv B mk full base roots S D I i k) (hB : B.pos) : S.y.flatten.length + S.o.flatten.length ≤ base.flatten.length + (B.y.flatten.length + B.o.flatten.length) := by
  have h1 := obj_sum hB h.nd (fun d hd => (h.src d hd).2.2.1) (fun d hd => (h.src d hd).1)
  have h2 := ite_sum (f := fun d => (ob B d).length) (q := fun d => age full mk d) D
  rw [h.sy, h.so]
  omega
theorem Inv.few {B : Bk} {mk : Int} {full : Bool} {base : List (List Int)} {roots : List Int} {S : Bk} {D I : List Int} {i k : Nat} (h : Inv B mk full base roots S D I i k) (hB : B.pos) : D.length ≤ B.y.flatten.length + B.o.flatten.length :=
  pts_len hB h.nd (fun d hd => (h.src d hd).2.2.1) (fun d hd => (h.src d hd).1)
/-- keep, in the state -/
theorem Inv.kept {B : Bk} {mk : Int} {full : Bool} {base : List (List Int)} {roots : List Int} {S S' : Bk} {D I D' I' : List Int} {i k : Nat} {v : Int} (h : Inv B mk full base roots S D I i k) (hB : B.pos) (hBo : ∀ b, ∀ o ∈ B.s b, IsObj o) (hlen : S.y.flatten.length < 2147483648 ∧ S.o.flatten.length < 2147483648)
    (v0 : 0 ≤ v) (hr : mov full v = true → Rc B roots v) (hk : Kept B mk full v S D I S' D' I') :
    Inv B mk full base roots S' D' I' i k ∧ (mov full v = true → v ∈ D') ∧ (∀ d ∈ D, d ∈ D') ∧ (∀ u, (mov full u = true → u ∈ D) → lk D' I' u = lk D I u) ∧ (∃ t, D' = D ++ t) ∧ ∃ t, I' = I ++ t := by
  rcases hk with ⟨h1, rfl, rfl, rfl⟩ | ⟨hm, hn, x, t, hx, ht, htw, rfl, rfl, rfl⟩
  · exact ⟨h, h1, fun _ h => h, fun _ _ => rfl, ⟨[], by simp⟩, [], by simp⟩
  · refine ⟨h.more hB hBo hx hm hn v0 (hr hm) (by cases age full mk v; exact hlen.1; exact hlen.2) ht htw, fun _ => by simp, fun d hd => List.mem_append_left _ hd, fun u hu => ?_, ⟨_, rfl⟩, _, rfl⟩
    exact lk_app h.len (fun e => hn (e ▸ hu (e ▸ hm)))
end Go.Proofs.YtegffanlehaloaaGreat.cl

/- A collection under way, with the list of the new roots, boxes, and an object that is being read. Conditions: as said. -/
namespace Go.Proofs.YtegffanlehaloaaGreat.cl
open Go.RowKit mem words
set_option linter.unusedVariables false
set_option linter.unusedSimpArgs false
set_option maxHeartbeats 1000000

theorem ColAt.lt {w : World} {z mp base : Nat} {vY vO vC vF1 vF2 : Value} {m : Mm} {mk : Int} {full : Bool} {S : Bk} {D I J : List Int} (h : ColAt w z mp base vY vO vC vF1 vF2 m mk full S D I J) {k : Nat} (hk : ColB z mp vY vO vC k) : k < w.heap.size := by
  rcases hk with rfl | rfl | hk | hk | hk
  · exact (Array.getElem?_eq_some_iff.1 h.blk).1
  · exact h.fw.lt
  · exact own_lt h.ry hk
  · exact own_lt h.ro hk
  · exact own_lt h.rc hk
theorem ColAt.frame {w w1 : World} {z mp base : Nat} {vY vO vC vF1 vF2 : Value} {m : Mm} {mk : Int} {full : Bool} {S : Bk} {D I J : List Int} (h : ColAt w z mp base vY vO vC vF1 vF2 m mk full S D I J) (hs : ∀ k, k < w.heap.size → ColB z mp vY vO vC k ∨ k < base → w1.heap[k]? = w.heap[k]?) : ColAt w1 z mp base vY vO vC vF1 vF2 m mk full S D I J :=
  have col := fun k hk => hs k (h.lt hk) (.inl hk)
  ⟨(col z (.inl rfl)).trans h.blk, ownBlock_same h.ry (fun k hk => col k (.inr (.inr (.inl hk)))), ownBlock_same h.ro (fun k hk => col k (.inr (.inr (.inr (.inl hk))))), ownBlock_same h.rc (fun k hk => col k (.inr (.inr (.inr (.inr hk))))), h.fw.same (col mp (.inr (.inl rfl))), row_below_same h.f1 (fun k hk => hs k (Nat.lt_trans hk h.le) (.inr hk)), row_below_same h.f2 (fun k hk => hs k (Nat.lt_trans hk h.le) (.inr hk)), h.bz, h.bm, h.zm, h.dz, h.dm, h.dyo, h.dyc, h.doc⟩
theorem ColS.back {w w1 : World} {z mp : Nat} {vY vO vC vY1 vO1 vC1 : Value} {S S1 : Bk} (a : ColS w w1 z mp vY vO vC S vY1 vO1 vC1 S1) {k : Nat} (hk : k < w.heap.size) (hc : ColB z mp vY1 vO1 vC1 k) : ColB z mp vY vO vC k := by
  rcases hc with e | e | e | e | e
  · exact .inl e
  · exact .inr (.inl e)
  · exact .inr (.inr (.inl (a.ny.old e hk)))
  · exact .inr (.inr (.inr (.inl (a.no.old e hk))))
  · exact .inr (.inr (.inr (.inr (a.nc.old e hk))))
structure RunAt (V : World) (z mp base : Nat) (vY vO vC vF1 vF2 vT : Value) (m : Mm) (mk : Int) (full : Bool) (S : Bk) (D I outs : List Int) (bx : List (Nat × Obj)) : Prop where
  col : ColAt V z mp base vY vO vC vF1 vF2 m mk full S D I I
  out : WOwn V base vT outs
  outf : ∀ k, vT.ownBlock = some k → ¬ ColB z mp vY vO vC k
  bx : ∀ p ∈ bx, V.heap[p.1]? = some p.2 ∧ ¬ ColB z mp vY vO vC p.1 ∧ vT.ownBlock ≠ some p.1
section
variable {V V' : World} {z mp base : Nat} {vY vO vC vF1 vF2 vT : Value} {m : Mm} {mk : Int} {full : Bool} {S : Bk} {D I outs : List Int} {bx : List (Nat × Obj)}
theorem RunAt.keep {vY' vO' vC' : Value} {S' : Bk} {D' I' : List Int} (h : RunAt V z mp base vY vO vC vF1 vF2 vT m mk full S D I outs bx) (c : ColAt V' z mp base vY' vO' vC' vF1 vF2 m mk full S' D' I' I') (s : ColS V V' z mp vY vO vC S vY' vO' vC' S') : RunAt V' z mp base vY' vO' vC' vF1 vF2 vT m mk full S' D' I' outs bx := by
  refine ⟨c, ownBlock_same h.out (fun k hk => s.f.t.block k (own_lt h.out hk) (h.outf k hk)), fun k hk hc => h.outf k hk (s.back (own_lt h.out hk) hc), fun p hp => ?_⟩
  obtain ⟨h1, h2, h3⟩ := h.bx p hp
  have hlt := (Array.getElem?_eq_some_iff.1 h1).1
  exact ⟨(s.f.t.block _ hlt h2).trans h1, fun hc => h2 (s.back hlt hc), h3⟩
theorem RunAt.below (h : RunAt V z mp base vY vO vC vF1 vF2 vT m mk full S D I outs bx) (hb : Below V.heap.size V V') : RunAt V' z mp base vY vO vC vF1 vF2 vT m mk full S D I outs bx :=
  ⟨h.col.below hb, h.out.below hb, h.outf, fun p hp => ⟨(hb.block _ (Array.getElem?_eq_some_iff.1 (h.bx p hp).1).1).trans (h.bx p hp).1, (h.bx p hp).2⟩⟩
theorem RunAt.alloc (h : RunAt V z mp base vY vO vC vF1 vF2 vT m mk full S D I outs bx) (o : Obj) : RunAt (V.alloc o) z mp base vY vO vC vF1 vF2 vT m mk full S D I outs (bx ++ [(V.heap.size, o)]) := by
  have h1 := h.below ((Below.refl V.heap.size V).alloc (Nat.le_refl _) o)
  refine ⟨h1.col, h1.out, h1.outf, fun p hp => ?_⟩
  rcases List.mem_append.1 hp with hp | hp
  · exact h1.bx p hp
  · obtain rfl : p = (V.heap.size, o) := by simpa using hp
    exact ⟨(MapKept.heap_alloc V o).1, fun hc => Nat.lt_irrefl _ (h.col.lt hc), fun e => Nat.lt_irrefl _ (own_lt h.out e)⟩
theorem RunAt.append {ys : List Int} {vT' : Value} (h : RunAt V z mp base vY vO vC vF1 vF2 vT m mk full S D I outs bx) (ha : AppW V base vT outs ys vT' V') : RunAt V' z mp base vY vO vC vF1 vF2 vT' m mk full S D I (outs ++ ys) bx := by
  have pl : ∀ k, vT'.ownBlock = some k → vT.ownBlock = some k ∨ k = V.heap.size := fun k hk => by
    rcases ha.at_ with e | e
    · exact .inl (e ▸ hk)
    · exact .inr (by rw [e] at hk; exact (Option.some.inj hk).symm)
  refine ⟨h.col.frame (fun k hlt hk => ha.other hlt (fun e => ?_)), ha.own, fun k hk hc => ?_, fun p hp => ?_⟩
  · rcases hk with hk | hk
    · exact h.outf k e hk
    · have := (h.out.ge k e).1; omega
  · rcases pl k hk with e | rfl
    · exact h.outf k e hc
    · exact Nat.lt_irrefl _ (h.col.lt hc)
  · obtain ⟨h1, h2, h3⟩ := h.bx p hp
    have hlt := (Array.getElem?_eq_some_iff.1 h1).1
    exact ⟨(ha.other hlt h3).trans h1, h2, ha.place hlt h3⟩
theorem RunAt.fewer {bx' : List (Nat × Obj)} (h : RunAt V z mp base vY vO vC vF1 vF2 vT m mk full S D I outs bx) (hs : ∀ p ∈ bx', p ∈ bx) : RunAt V z mp base vY vO vC vF1 vF2 vT m mk full S D I outs bx' := ⟨h.col, h.out, h.outf, fun p hp => h.bx p (hs p hp)⟩
/-- whatever is cells, and the map, lies as it lay -/
theorem RunAt.grown {row : Option Nat} (h : RunAt V z mp base vY vO vC vF1 vF2 vT m mk full S D I outs bx) (hg : V.grownBy V' row) (hr : ∀ r, row = some r → mp < r ∧ ∃ o : Obj, V.heap[r]? = some o ∧ o.isCells = false) (hbx : ∀ p ∈ bx, p.2.isCells = true) (hrow : ∀ r, row = some r → base ≤ r) : RunAt V' z mp base vY vO vC vF1 vF2 vT m mk full S D I outs bx := by
  have cells : ∀ {k : Nat} {o : Obj}, V.heap[k]? = some o → o.isCells = true → V'.heap[k]? = V.heap[k]? := fun hk ho => grownBy_keeps_cells hg (fun r e => (hr r e).2) hk ho
  have own : ∀ {v : Value} {l : List Int}, WOwn V base v l → ∀ k, v.ownBlock = some k → V'.heap[k]? = V.heap[k]? := fun {v l} ho k hk => by
    rcases ho.2 with ⟨rfl, _⟩ | ⟨g, cap, cur, rfl, _, hc, _⟩
    · simp [Value.ownBlock] at hk
    · obtain rfl : g = k := by simpa [Value.ownBlock] using hk
      exact cells hc rfl
  refine ⟨h.col.frame (fun k hlt hk => ?_), ownBlock_same h.out (own h.out), h.outf, fun p hp => ⟨(cells (h.bx p hp).1 (hbx p hp)).trans (h.bx p hp).1, (h.bx p hp).2⟩⟩
  rcases hk with hk | hk
  · rcases hk with rfl | rfl | hk | hk | hk
    · exact cells h.col.blk rfl
    · exact hg.block _ hlt (fun e => by have := (hr _ e.symm).1; omega)
    · exact own h.col.ry k hk
    · exact own h.col.ro k hk
    · exact own h.col.rc k hk
  · exact hg.block _ hlt (fun e => by have := hrow _ e.symm; omega)
end
end Go.Proofs.YtegffanlehaloaaGreat.cl

/- A collection under way: a word of a copy is settled; an object that is being read. Conditions: as said. -/
namespace Go.Proofs.YtegffanlehaloaaGreat.cl
open Go.RowKit mem words
set_option linter.unusedVariables false
set_option linter.unusedSimpArgs false
set_option maxHeartbeats 1000000

theorem WOwn.set {w : World} {base g n c : Nat} {l : List Int} (h : WOwn w base (.slice (some ⟨g, 0, none⟩) n c) l) (q : Nat) (u : Int) : WOwn (w.setCell ⟨g, q, none⟩ (.int .u64 u)) base (.slice (some ⟨g, 0, none⟩) n c) (l.set q u) := by
  have hn : n = l.length := by
    obtain ⟨p, c', e⟩ := h.shape
    simp only [Value.slice.injEq] at e
    exact e.2.1
  subst hn
  have hst := (World.ownsRow.stored h q (.int .u64 u)).1
  unfold WOwn
  rw [List.length_set, List.map_set]
  exact hst
/-- a side of the new memory -/
def sideV (b : Bool) (vY vO : Value) : Value := if b then vO else vY
section
variable {V V' : World} {z mp base : Nat} {vY vO vC vF1 vF2 vT : Value} {m : Mm} {mk : Int} {full : Bool} {S : Bk} {D I outs : List Int} {bx : List (Nat × Obj)}
theorem ColAt.side {J : List Int} (h : ColAt V z mp base vY vO vC vF1 vF2 m mk full S D I J) (b : Bool) : WOwn V base (sideV b vY vO) (S.s b).flatten := by
  cases b
  · exact h.ry
  · exact h.ro
theorem ColAt.side_col {J : List Int} (b : Bool) {k : Nat} (hk : (sideV b vY vO).ownBlock = some k) : ColB z mp vY vO vC k := by
  cases b
  · exact .inr (.inr (.inl hk))
  · exact .inr (.inr (.inr (.inl hk)))
/-- one word of a side is replaced -/
theorem ColAt.stored {J : List Int} (h : ColAt V z mp base vY vO vC vF1 vF2 m mk full S D I J) (b : Bool) {g n c : Nat} (hv : sideV b vY vO = .slice (some ⟨g, 0, none⟩) n c) (q : Nat) (u : Int) {S' : Bk} (hy : S'.y.flatten = if b then S.y.flatten else S.y.flatten.set q u) (ho : S'.o.flatten = if b then S.o.flatten.set q u else S.o.flatten) :
    ColAt (V.setCell ⟨g, q, none⟩ (.int .u64 u)) z mp base vY vO vC vF1 vF2 m mk full S' D I J := by
  have hg : (sideV b vY vO).ownBlock = some g := by rw [hv]; rfl
  have oth : ∀ k, k ≠ g → (V.setCell ⟨g, q, none⟩ (.int .u64 u)).heap[k]? = V.heap[k]? := fun k hk => setC_same V g q _ hk
  have hgb : base ≤ g := ((h.side b).ge g hg).1
  cases b
  · have hv : vY = _ := hv
    have hg : vY.ownBlock = some g := hg
    refine ⟨(oth z (fun e => h.dz.1 (e ▸ hg))).trans h.blk, ?_, ?_, ownBlock_same h.rc (fun k hk => oth k (fun e => h.dyc g hg (e ▸ hk))), h.fw.same (oth mp (fun e => h.dm.1 (e ▸ hg))), row_below_same h.f1 (fun k hk => oth k (by omega)), row_below_same h.f2 (fun k hk => oth k (by omega)), h.bz, h.bm, h.zm, h.dz, h.dm, h.dyo, h.dyc, h.doc⟩
    · rw [hy]
      have := h.ry
      rw [hv] at this ⊢
      exact this.set q u
    · rw [ho]
      exact ownBlock_same h.ro (fun k hk => oth k (fun e => h.dyo g hg (e ▸ hk)))
  · have hv : vO = _ := hv
    have hg : vO.ownBlock = some g := hg
    refine ⟨(oth z (fun e => h.dz.2.1 (e ▸ hg))).trans h.blk, ?_, ?_, ownBlock_same h.rc (fun k hk => oth k (fun e => h.doc g hg (e ▸ hk))), h.fw.same (oth mp (fun e => h.dm.2.1 (e ▸ hg))), row_below_same h.f1 (fun k hk => oth k (by omega)), row_below_same h.f2 (fun k hk => oth k (by omega)), h.bz, h.bm, h.zm, h.dz, h.dm, h.dyo, h.dyc, h.doc⟩
    · rw [hy]
      exact ownBlock_same h.ry (fun k hk => oth k (fun e => h.dyo k hk (e ▸ hg)))
    · rw [ho]
      have := h.ro
      rw [hv] at this ⊢
      exact this.set q u
theorem RunAt.stored (h : RunAt V z mp base vY vO vC vF1 vF2 vT m mk full S D I outs bx) (b : Bool) {g n c : Nat} (hv : sideV b vY vO = .slice (some ⟨g, 0, none⟩) n c) (q : Nat) (u : Int) {S' : Bk} (hy : S'.y.flatten = if b then S.y.flatten else S.y.flatten.set q u) (ho : S'.o.flatten = if b then S.o.flatten.set q u else S.o.flatten) :
    RunAt (V.setCell ⟨g, q, none⟩ (.int .u64 u)) z mp base vY vO vC vF1 vF2 vT m mk full S' D I outs bx := by
  have hg : (sideV b vY vO).ownBlock = some g := by rw [hv]; rfl
  have hc : ColB z mp vY vO vC g := ColAt.side_col (J := []) b hg
  refine ⟨h.col.stored b hv q u hy ho, ownBlock_same h.out (fun k hk => setC_same V g q _ (fun e => h.outf k hk (e ▸ hc))), h.outf, fun p hp => ?_⟩
  obtain ⟨h1, h2, h3⟩ := h.bx p hp
  exact ⟨(setC_same V g q _ (fun e => h2 (by rw [e]; exact hc))).trans h1, h2, h3⟩
/-- a box of one cell takes a value -/
theorem RunAt.set {zx : Nat} {u : Value} {t : TypeId} (h : RunAt V z mp base vY vO vC vF1 vF2 vT m mk full S D I outs ((zx, .cells #[u] t) :: bx)) (hne : ∀ p ∈ bx, p.1 ≠ zx) (hb : base ≤ zx) (u' : Value) :
    RunAt (V.setCell ⟨zx, 0, none⟩ u') z mp base vY vO vC vF1 vF2 vT m mk full S D I outs ((zx, .cells #[u'] t) :: bx) := by
  obtain ⟨x1, x2, x3⟩ := h.bx _ List.mem_cons_self
  refine ⟨h.col.frame (fun k hlt hk => setC_same V zx 0 u' (fun e => ?_)), ownBlock_same h.out (fun k hk => setC_same V zx 0 u' (fun e => x3 (e ▸ hk))), h.outf, fun p hp => ?_⟩
  · rcases hk with hk | hk
    · exact x2 (e ▸ hk)
    · omega
  · rcases List.mem_cons.1 hp with rfl | hp
    · exact ⟨blk_setC x1 u', x2, x3⟩
    · obtain ⟨h1, h2, h3⟩ := h.bx p (List.mem_cons_of_mem _ hp)
      exact ⟨(setC_same V zx 0 u' (hne p hp)).trans h1, h2, h3⟩
/-- the words of an object, from n on, at the place where they lay when the reading began -/
structure Src (V : World) (z mp : Nat) (vY vO vC vT : Value) (S : Bk) (b : Bool) (g o len : Nat) (xs : List Int) (n : Nat) : Prop where
  lt : g < V.heap.size
  own : (sideV b vY vO).ownBlock = some g ∨ ¬ ColB z mp vY vO vC g
  out : vT.ownBlock ≠ some g
  inb : o + len ≤ (S.s b).flatten.length
  ws : ∀ j, n ≤ j → j < len → V.cell? ⟨g, o + j, none⟩ = some (.int .u64 (xs[j]?.getD 0))
variable {b : Bool} {g o len n : Nat} {xs : List Int}
theorem Src.below (h : Src V z mp vY vO vC vT S b g o len xs n) (hb : Below V.heap.size V V') : Src V' z mp vY vO vC vT S b g o len xs n :=
  ⟨Nat.lt_of_lt_of_le h.lt hb.size, h.own, h.out, h.inb, fun j h1 h2 => (hb.cell (p := ⟨g, o + j, none⟩) h.lt).trans (h.ws j h1 h2)⟩
theorem Src.same (h : Src V z mp vY vO vC vT S b g o len xs n) (hs : V.heap.size ≤ V'.heap.size) (hg : V'.heap[g]? = V.heap[g]?) : Src V' z mp vY vO vC vT S b g o len xs n :=
  ⟨Nat.lt_of_lt_of_le h.lt hs, h.own, h.out, h.inb, fun j h1 h2 => (World.cell?_of_block (w := V) (w' := V') (a := ⟨g, o + j, none⟩) hg).trans (h.ws j h1 h2)⟩
theorem Src.keep {vY' vO' vC' : Value} {S' : Bk} {J : List Int} (c : ColAt V z mp base vY vO vC vF1 vF2 m mk full S D I J) (h : Src V z mp vY vO vC vT S b g o len xs n) (s : ColS V V' z mp vY vO vC S vY' vO' vC' S') : Src V' z mp vY' vO' vC' vT S' b g o len xs n := by
  have hsz := s.f.t.size
  have hin : o + len ≤ (S'.s b).flatten.length := by
    refine Nat.le_trans h.inb ?_
    cases b
    · exact s.ly
    · exact s.lo
  have hcell : ∀ j, n ≤ j → j < len → V'.cell? ⟨g, o + j, none⟩ = V.cell? ⟨g, o + j, none⟩ := fun j h1 h2 => by
    rcases h.own with e | e
    · cases b
      · exact s.f.ky g e (o + j) (Nat.lt_of_lt_of_le (by omega) h.inb)
      · exact s.f.ko g e (o + j) (Nat.lt_of_lt_of_le (by omega) h.inb)
    · exact World.cell?_of_block (s.f.t.block g h.lt e)
  refine ⟨Nat.lt_of_lt_of_le h.lt hsz, ?_, h.out, hin, fun j h1 h2 => (hcell j h1 h2).trans (h.ws j h1 h2)⟩
  rcases h.own with e | e
  · by_cases hc : ColB z mp vY' vO' vC' g
    · left
      rcases hc with e' | e' | e' | e' | e'
      · exact absurd e (by cases b; exact fun h => c.dz.1 (e' ▸ h); exact fun h => c.dz.2.1 (e' ▸ h))
      · exact absurd e (by cases b; exact fun h => c.dm.1 (e' ▸ h); exact fun h => c.dm.2.1 (e' ▸ h))
      · have e2 := s.ny.old e' h.lt
        cases b
        · exact e'
        · exact absurd e (c.dyo g e2)
      · have e2 := s.no.old e' h.lt
        cases b
        · exact absurd e2 (c.dyo g e)
        · exact e'
      · have e2 := s.nc.old e' h.lt
        cases b
        · exact absurd e2 (c.dyc g e)
        · exact absurd e2 (c.doc g e)
    · exact .inr hc
  · exact .inr (fun hc => e (s.back h.lt hc))
/-- a word of the copy is settled: what is still to be read is as it was -/
theorem Src.stored {J : List Int} (c : ColAt V z mp base vY vO vC vF1 vF2 m mk full S D I J) (h : Src V z mp vY vO vC vT S b g o len xs n) {g' n' c' : Nat} (hv : sideV b vY vO = .slice (some ⟨g', 0, none⟩) n' c') (k : Nat) (hk : n ≤ k) (hkl : k < len) (u : Int) {S' : Bk} (hS : (S'.s b).flatten.length = (S.s b).flatten.length) :
    Src (V.setCell ⟨g', o + k, none⟩ (.int .u64 u)) z mp vY vO vC vT S' b g o len xs (k + 1) := by
  refine ⟨by rw [show (V.setCell ⟨g', o + k, none⟩ (.int .u64 u)).heap.size = V.heap.size by simp]; exact h.lt, h.own, h.out, by rw [hS]; exact h.inb, fun j h1 h2 => ?_⟩
  refine Eq.trans ?_ (h.ws j (by omega) h2)
  refine World.cell?_setCell_other _ _ _ _ (fun e => ?_)
  injection e with e1 e2
  omega
theorem Src.next (h : Src V z mp vY vO vC vT S b g o len xs n) : Src V z mp vY vO vC vT S b g o len xs (n + 1) := ⟨h.lt, h.own, h.out, h.inb, fun j h1 h2 => h.ws j (by omega) h2⟩
end
end Go.Proofs.YtegffanlehaloaaGreat.cl

/- A collection under way: marks of ranges that are over; rounds of a range. Conditions: as said. -/
namespace Go.Proofs.YtegffanlehaloaaGreat.cl
open Go.RowKit mem words
set_option linter.unusedVariables false
set_option linter.unusedSimpArgs false
set_option maxHeartbeats 1000000

def mkD (Ds : List Nat) : List Deferred := Ds.map fun D => { target := .collected D, args := #[] }
def mkB (Ds : List Nat) : List (Nat × Obj) := Ds.map fun D => (D, .deferred (some []))
theorem leaves_marks {F : Fence} {n : Nat} {P : Program} {fn : Func} {tmps : Array Value} {R : Ending → World → Prop} {Q : List Nat → World → Prop}
    (hstep : ∀ D Ds V, Q (D :: Ds) V → V.heap[D]? = some (.deferred (some [])) ∧ Q Ds (V.putObj D (.deferred none)))
    (hend : ∀ V, Q [] V → ∃ v, (results fn tmps).run P V = .ok v V ∧ R (.returned v) V) : ∀ (Ds : List Nat) (V : World), Q Ds V → LeavesInM F n P fn tmps R (mkD Ds) .returning V := by
  intro Ds
  induction Ds with
  | nil => intro V h; exact hend V h
  | cons D Ds ih =>
    intro V h
    obtain ⟨h1, h2⟩ := hstep D Ds V h
    exact ⟨by simp, .inl ⟨D, _, rfl, run_takeDeferred h1, ih _ h2⟩⟩
section
variable {V V' : World} {z mp base : Nat} {vY vO vC vF1 vF2 vT : Value} {m : Mm} {mk : Int} {full : Bool} {S : Bk} {D I outs : List Int} {bx : List (Nat × Obj)}
theorem RunAt.put {k : Nat} {o o' : Obj} (h : RunAt V z mp base vY vO vC vF1 vF2 vT m mk full S D I outs ((k, o) :: bx)) (hne : ∀ p ∈ bx, p.1 ≠ k) (hb : base ≤ k) : RunAt (V.putObj k o') z mp base vY vO vC vF1 vF2 vT m mk full S D I outs bx := by
  obtain ⟨x1, x2, x3⟩ := h.bx _ List.mem_cons_self
  refine ⟨h.col.frame (fun j hlt hj => World.putObj_heap_other (fun e => ?_)), ownBlock_same h.out (fun j hj => World.putObj_heap_other (fun e => x3 (e ▸ hj))), h.outf, fun p hp => ?_⟩
  · rcases hj with hj | hj
    · exact x2 (by rw [← e]; exact hj)
    · have : k = j := e.symm
      omega
  · obtain ⟨h1, h2, h3⟩ := h.bx p (List.mem_cons_of_mem _ hp)
    exact ⟨(World.putObj_heap_other (hne p hp)).trans h1, h2, h3⟩
theorem RunAt.grown2 {row : Option Nat} {B : Nat} (h : RunAt V z mp base vY vO vC vF1 vF2 vT m mk full S D I outs bx) (hg : V.grownBy V' row) (hr : ∀ r, row = some r → B ≤ r ∧ ∃ o : Obj, V.heap[r]? = some o ∧ o.isCells = false) (hbx : ∀ p ∈ bx, p.2.isCells = true ∨ p.1 < B) (hm : mp < B) (hB : base ≤ B) : RunAt V' z mp base vY vO vC vF1 vF2 vT m mk full S D I outs bx := by
  have h0 := (h.fewer (bx' := []) (fun p hp => by simp at hp)).grown hg (fun r e => ⟨by have := (hr r e).1; omega, (hr r e).2⟩) (fun p hp => by simp at hp) (fun r e => by have := (hr r e).1; omega)
  refine ⟨h0.col, h0.out, h0.outf, fun p hp => ?_⟩
  obtain ⟨h1, h2, h3⟩ := h.bx p hp
  refine ⟨?_, h2, h3⟩
  rcases hbx p hp with hc | hc
  · exact (grownBy_keeps_cells hg (fun r e => (hr r e).2) h1 hc).trans h1
  · exact (hg.block _ (Array.getElem?_eq_some_iff.1 h1).1 (fun e => by have := (hr _ e.symm).1; omega)).trans h1
theorem Src.grown {row : Option Nat} {b : Bool} {g o len n : Nat} {xs : List Int} (h : Src V z mp vY vO vC vT S b g o len xs n) (hg : V.grownBy V' row) (hr : ∀ r, row = some r → ∃ o : Obj, V.heap[r]? = some o ∧ o.isCells = false) : Src V' z mp vY vO vC vT S b g o len xs n :=
  ⟨Nat.lt_of_lt_of_le h.lt hg.size, h.own, h.out, h.inb, fun j h1 h2 => cell_kept (h.ws j h1 h2) hg hr⟩
/-- blocks that are no cells, from B on, lie as they lay through a step of the collection -/
theorem ColS.from {vY' vO' vC' : Value} {S' : Bk} {J : List Int} {B : Nat} (c : ColAt V z mp base vY vO vC vF1 vF2 m mk full S D I J) (s : ColS V V' z mp vY vO vC S vY' vO' vC' S') (hm : mp < B) : KeepsFrom B V V' :=
  ⟨s.f.t.size, fun k o hB hk ho => by
    refine (s.f.t.block k (Array.getElem?_eq_some_iff.1 hk).1 ?_).trans hk
    have row : ∀ {v : Value} {l : List Int}, WOwn V base v l → v.ownBlock ≠ some k := fun {v l} hw e => by
      rcases hw.2 with ⟨rfl, _⟩ | ⟨g, cap, cur, rfl, _, hc, _⟩
      · simp [Value.ownBlock] at e
      · obtain rfl : g = k := by simpa [Value.ownBlock] using e
        rw [hc] at hk; cases hk; cases ho
    rintro (e | e | e | e | e)
    · rw [e, c.blk] at hk; cases hk; cases ho
    · omega
    · exact row c.ry e
    · exact row c.ro e
    · exact row c.rc e⟩
end
end Go.Proofs.YtegffanlehaloaaGreat.cl
