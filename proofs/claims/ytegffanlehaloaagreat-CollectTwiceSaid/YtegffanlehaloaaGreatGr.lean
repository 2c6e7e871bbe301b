/- Several texts in one, one behind the other: CqH, CqI. No condition beyond theirs. -/
import Derived.Test.YtegffanlehaloaaGreatGq

/- A collection under way, in memory: its block, its three rows, its map; words appended to a row. Conditions: as said. -/
namespace Go.Proofs.YtegffanlehaloaaGreat.cl
open Go.RowKit mem words
set_option linter.unusedVariables false
set_option linter.unusedSimpArgs false
set_option maxHeartbeats 1000000

/-- what an append to a row of the call's own leaves -/
structure AppW (w : World) (base : Nat) (v : Value) (l xs : List Int) (v' : Value) (w' : World) : Prop where
  own : WOwn w' base v' (l ++ xs)
  grown : w.grownBy w' v.ownBlock
  at_ : v'.ownBlock = v.ownBlock ∨ v'.ownBlock = some w.heap.size
  kept : ∀ g, v.ownBlock = some g → ∀ j, j < l.length → w'.cell? ⟨g, j, none⟩ = w.cell? ⟨g, j, none⟩
theorem WOwn.cells {w : World} {base g n c : Nat} {l : List Int} (h : WOwn w base (.slice (some ⟨g, 0, none⟩) n c) l) {j : Nat} (hj : j < l.length) : w.cell? ⟨g, j, none⟩ = some (.int .u64 (l[j])) := by
  rcases h.form with ⟨h1, _⟩ | ⟨g', c', e, _⟩
  · simp at h1
  · simp only [Value.slice.injEq, Option.some.injEq, Addr.mk.injEq, and_true] at e
    obtain ⟨rfl, rfl, rfl⟩ := e
    rw [World.ownsRow.cellAt h j (by omega), List.getElem?_map, List.getElem?_eq_getElem hj]
    rfl
theorem run_append_words {w : World} {base : Nat} {v : Value} {l : List Int} (h : WOwn w base v l) (hb : base ≤ w.heap.size) (ty : TypeId) (ad : Addr) (c : Nat) (xs : List Int) (hx : ∀ j x, xs[j]? = some x → w.cell? (ad.add j) = some (.int .u64 x)) (hn : l.length + xs.length ≤ 400000) :
    ∃ v' w', (Builtin.append_ #[22, 22] ty #[v, .slice (some ad) xs.length c]).run Tryz.prog w = .ok v' w' ∧ AppW w base v l xs v' w' := by
  obtain ⟨i, hi, hz, hs, hby⟩ := info_parts info34
  have hnews : ∀ j u, (xs.map (Value.int .u64))[j]? = some u → w.cell? (ad.add j) = some u := by
    intro j u hj
    rw [List.getElem?_map] at hj
    cases hxj : xs[j]? with
    | none => rw [hxj] at hj; simp at hj
    | some x =>
      rw [hxj] at hj
      obtain rfl := Option.some.inj hj
      exact hx j x hxj
  have h1 : ∀ u ∈ xs.map (Value.int .u64), u.oneCell' = true := ints_oneCell _ _
  have h63 : l.length + xs.length ≤ maxLen := by unfold maxLen; omega
  obtain ⟨v', w', hr, hown, hg, _, hat⟩ := run_append_own_at (P := Tryz.prog) w base 22 ty 43 i (.int .u64 0) 1 8 Tryz.underlying22 hi hz hs hby rfl (by decide) v l.length (l.map (Value.int .u64)) h ad xs.length c (xs.map (Value.int .u64)) (by simp) hnews h1 h63 (by omega) hb
  have hown' : WOwn w' base v' (l ++ xs) := by
    unfold WOwn
    rw [List.length_append, List.map_append]
    exact hown
  refine ⟨v', w', hr, hown', hg, hat, fun g hgo j hj => ?_⟩
  rcases h.form with ⟨rfl, rfl⟩ | ⟨g0, cap, rfl, hb0, hlt, hlc, hcm⟩
  · simp at hj
  · obtain rfl : g0 = g := by simpa [Value.ownBlock] using hgo
    have hold := h.cells hj
    rcases hat with hat | hat
    · rcases hown'.form with ⟨_, e⟩ | ⟨g', c', rfl, _⟩
      · have : (l ++ xs).length = 0 := by rw [e]; rfl
        rw [List.length_append] at this
        omega
      · obtain rfl : g' = g0 := by simpa [Value.ownBlock] using hat
        rw [hown'.cells (j := j) (by rw [List.length_append]; omega), hold]
        simp [List.getElem_append_left hj]
    · by_cases hroom : l.length + xs.length ≤ cap
      · obtain ⟨g1, cap1, cur, e1, _, hcur, _, _, hcs, _⟩ := h.2.resolve_left (fun hh => by simp at hh)
        simp only [Value.slice.injEq, Option.some.injEq, Addr.mk.injEq, and_true, true_and] at e1
        obtain ⟨rfl, rfl⟩ := e1
        have hr2 := run_append_room (P := Tryz.prog) w 22 ty 43 i Tryz.underlying22 hi g0 l.length cap cur hcur ad xs.length c (xs.map (Value.int .u64)) (by simp [hs]) hnews h1 hroom (by rw [hs, List.length_map, hcs]; omega)
        rw [hr2] at hr
        simp only [Result.ok.injEq] at hr
        obtain ⟨rfl, rfl⟩ := hr
        simp [Value.ownBlock] at hat
        omega
      · have hr2 := run_append_grow (P := Tryz.prog) w 22 ty 43 i (.int .u64 0) Tryz.underlying22 hi hz ⟨g0, 0, none⟩ l.length cap (l.map (Value.int .u64)) (by simp [hs]) (fun j' u hu => by
            rw [List.getElem?_map] at hu
            cases hlj : l[j']? with
            | none => rw [hlj] at hu; simp at hu
            | some x =>
              rw [hlj] at hu
              obtain rfl := Option.some.inj hu
              obtain ⟨hj', rfl⟩ := List.getElem?_eq_some_iff.1 hlj
              have := h.cells hj'
              cases j' with
              | zero => simpa [Addr.add] using this
              | succ k => simpa [Addr.add] using this) ad xs.length c (xs.map (Value.int .u64)) (by simp [hs]) hnews (by omega) (by omega) (growslice_fits (by omega) (by rw [hby]; omega))
        rw [hr2] at hr
        simp only [Result.ok.injEq] at hr
        obtain ⟨_, rfl⟩ := hr
        exact World.cell?_of_block (heap_alloc_old w.drew _ hlt)
/-- at the operation, for the walk -/
theorem wpList_append_words {w : World} {ops : Array Oper} {rest : List Oper} {o : Oper} {a : Act} {Q : Exit → Act → World → Prop} (hgd : o.guard = none) (s x : Operand)
    (ho : o.op = .call { callee := .builtin .append, args := #[s, x], argTypes := #[22, 22] }) {base : Nat} {v : Value} {l : List Int} (hs : a.eval s = v) (hown : WOwn w base v l) (hb : base ≤ w.heap.size)
    (ad : Addr) (n c : Nat) (xs : List Int) (hx : a.eval x = .slice (some ad) n c) (hnx : n = xs.length) (hnews : ∀ j x, xs[j]? = some x → w.cell? (ad.add j) = some (.int .u64 x)) (hn : l.length + xs.length ≤ 400000)
    (h : ∀ v' w', AppW w base v l xs v' w' → wpList Tryz.prog ops Q rest (a.put o.dst v') w') : wpList Tryz.prog ops Q (o :: rest) a w := by
  subst hnx
  refine wpList_plain hgd fun K hK => ?_
  obtain ⟨v', w', hr, h2⟩ := run_append_words hown hb o.type ad c xs hnews hn
  unfold Oper.wp execOp
  simp only [ho, resolve, invoke, builtin, Sem.run_bind, Sem.run_pure, Result.andThen_ok, List.map_toArray, List.map_cons, List.map_nil, hs, hx, hr]
  exact hK _ _ (h v' w' h2)
/-- the map of a collection, as a list of entries -/
def fwd (D I : List Int) : List (Int × Value) := (D.zip I).map fun p => (p.1, Value.int .u64 p.2)
theorem fwd_find : ∀ {D I : List Int} {v : Int}, D.length = I.length → alFind (fwd D I) v = if v ∈ D then some (.int .u64 (lk D I v)) else none := by
  intro D
  induction D with
  | nil => intro I v _; rfl
  | cons d D ih =>
    intro I v hl
    cases I with
    | nil => simp at hl
    | cons p I =>
      have ih := ih (I := I) (v := v) (by simpa using hl)
      unfold fwd alFind at ih ⊢
      rw [List.zip_cons_cons, List.map_cons, List.find?_cons]
      unfold lk
      by_cases hv : v = d
      · subst hv
        simp
      · rw [if_neg (Ne.symm hv)]
        simp only [hv, decide_false, Bool.false_eq_true, if_false]
        rw [ih]
        simp [hv]
theorem fwd_put {D I : List Int} {v p : Int} (hl : D.length = I.length) (hv : v ∉ D) : alPut (fwd D I) v (.int .u64 p) = fwd (D ++ [v]) (I ++ [p]) := by
  have h1 : alIdx (fwd D I) v = none := by
    have h := alFind_idx (fwd D I) v
    rw [fwd_find hl, if_neg hv] at h
    cases hx : alIdx (fwd D I) v with
    | none => rfl
    | some j => rw [hx] at h; simp at h
  unfold alPut
  rw [h1]
  unfold fwd
  rw [List.zip_append hl, List.map_append]
  rfl
/-- a collection under way: block z, map mp, rows of words in blocks of their own -/
structure ColAt (w : World) (z mp base : Nat) (vY vO vC vF1 vF2 : Value) (m : Mm) (mk : Int) (full : Bool) (S : Bk) (D I J : List Int) : Prop where
  blk : w.heap[z]? = some (.cells #[vY, vO, .int .i64 mk, vF1, vF2, .int .i64 m.at_, .bool full, .map (some mp), vC] 48)
  ry : WOwn w base vY S.y.flatten
  ro : WOwn w base vO S.o.flatten
  rc : WOwn w base vC J
  fw : MapIs (Value.int .u64) w mp (fwd D I)
  f1 : WAt w base vF1 m.y
  f2 : WAt w base vF2 m.o
  bz : base ≤ z
  bm : base ≤ mp
  zm : z ≠ mp
  dz : vY.ownBlock ≠ some z ∧ vO.ownBlock ≠ some z ∧ vC.ownBlock ≠ some z
  dm : vY.ownBlock ≠ some mp ∧ vO.ownBlock ≠ some mp ∧ vC.ownBlock ≠ some mp
  dyo : ∀ k, vY.ownBlock = some k → vO.ownBlock ≠ some k
  dyc : ∀ k, vY.ownBlock = some k → vC.ownBlock ≠ some k
  doc : ∀ k, vO.ownBlock = some k → vC.ownBlock ≠ some k
theorem ColAt.le {w : World} {z mp base : Nat} {vY vO vC vF1 vF2 : Value} {m : Mm} {mk : Int} {full : Bool} {S : Bk} {D I J : List Int} (h : ColAt w z mp base vY vO vC vF1 vF2 m mk full S D I J) : base < w.heap.size :=
  Nat.lt_of_le_of_lt h.bz (Array.getElem?_eq_some_iff.1 h.blk).1
/-- the blocks that a collection writes -/
def ColB (z mp : Nat) (vY vO vC : Value) (k : Nat) : Prop := k = z ∨ k = mp ∨ vY.ownBlock = some k ∨ vO.ownBlock = some k ∨ vC.ownBlock = some k
theorem ColAt.ge {w : World} {z mp base : Nat} {vY vO vC vF1 vF2 : Value} {m : Mm} {mk : Int} {full : Bool} {S : Bk} {D I J : List Int} (h : ColAt w z mp base vY vO vC vF1 vF2 m mk full S D I J) {k : Nat} (hk : ColB z mp vY vO vC k) : base ≤ k := by
  rcases hk with rfl | rfl | hk | hk | hk
  · exact h.bz
  · exact h.bm
  · exact (h.ry.ge k hk).1
  · exact (h.ro.ge k hk).1
  · exact (h.rc.ge k hk).1
/-- what a step of a collection leaves as it was -/
structure ColF (w w' : World) (z mp : Nat) (vY vO vC : Value) (S : Bk) : Prop where
  t : TouchB (ColB z mp vY vO vC) w w'
  ky : ∀ g, vY.ownBlock = some g → ∀ j, j < S.y.flatten.length → w'.cell? ⟨g, j, none⟩ = w.cell? ⟨g, j, none⟩
  ko : ∀ g, vO.ownBlock = some g → ∀ j, j < S.o.flatten.length → w'.cell? ⟨g, j, none⟩ = w.cell? ⟨g, j, none⟩
theorem ColF.refl (w : World) (z mp : Nat) (vY vO vC : Value) (S : Bk) : ColF w w z mp vY vO vC S := ⟨TouchB.refl _ _, fun _ _ _ _ => rfl, fun _ _ _ _ => rfl⟩
theorem blk_setC {W : World} {z i : Nat} {cs : Array Value} {t : TypeId} (h : W.heap[z]? = some (.cells cs t)) (u : Value) : (W.setCell ⟨z, i, none⟩ u).heap[z]? = some (.cells (cs.setIfInBounds i u) t) := heap_setCell_same W z i cs t u h
theorem own_lt {w : World} {base : Nat} {v : Value} {l : List Int} (h : WOwn w base v l) {g : Nat} (hg : v.ownBlock = some g) : g < w.heap.size := (h.ge g hg).2
theorem AppW.size {w : World} {base : Nat} {v : Value} {l xs : List Int} {v' : Value} {w' : World} (h : AppW w base v l xs v' w') : w.heap.size ≤ w'.heap.size := h.grown.size
/-- what lies in another block is as it was -/
theorem AppW.other {w : World} {base : Nat} {v : Value} {l xs : List Int} {v' : Value} {w' : World} (h : AppW w base v l xs v' w') {k : Nat} (hk : k < w.heap.size) (hn : v.ownBlock ≠ some k) : w'.heap[k]? = w.heap[k]? := h.grown.block k hk (fun e => hn e.symm)
theorem AppW.place {w : World} {base : Nat} {v : Value} {l xs : List Int} {v' : Value} {w' : World} (h : AppW w base v l xs v' w') {k : Nat} (hk : k < w.heap.size) (hn : v.ownBlock ≠ some k) : v'.ownBlock ≠ some k := by
  rcases h.at_ with e | e
  · rw [e]; exact hn
  · rw [e]; intro e'; injection e' with e'; omega
theorem setC_same (W : World) (z i : Nat) (u : Value) {k : Nat} (hk : k ≠ z) : (W.setCell ⟨z, i, none⟩ u).heap[k]? = W.heap[k]? := Below.heap_setCell W ⟨z, i, none⟩ u k hk
theorem ownBlock_same {w w' : World} {base : Nat} {v : Value} {l : List Int} (h : WOwn w base v l) (hs : ∀ k, v.ownBlock = some k → w'.heap[k]? = w.heap[k]?) : WOwn w' base v l := row_same h hs
theorem row_below_same {w w' : World} {base : Nat} {v : Value} {l : List Int} (h : WAt w base v l) (hs : ∀ k, k < base → w'.heap[k]? = w.heap[k]?) : WAt w' base v l := h.same hs
/-- an object is appended to the young area -/
theorem ColAt.push_y {w w1 : World} {z mp base : Nat} {vY vO vC vF1 vF2 v' : Value} {m : Mm} {mk : Int} {full : Bool} {S : Bk} {D I J : List Int} {x : List Int} (h : ColAt w z mp base vY vO vC vF1 vF2 m mk full S D I J) (ha : AppW w base vY S.y.flatten x v' w1) :
    ColAt (w1.setCell ⟨z, 0, none⟩ v') z mp base v' vO vC vF1 vF2 m mk full (S.push false x) D I J ∧ ColF w (w1.setCell ⟨z, 0, none⟩ v') z mp vY vO vC S := by
  have hz := (Array.getElem?_eq_some_iff.1 h.blk).1
  have hm := h.fw.lt
  have oth : ∀ {k : Nat}, k < w.heap.size → vY.ownBlock ≠ some k → k ≠ z → (w1.setCell ⟨z, 0, none⟩ v').heap[k]? = w.heap[k]? := fun hk hn hkz => (setC_same w1 z 0 v' hkz).trans (ha.other hk hn)
  have hb1 : (w1.setCell ⟨z, 0, none⟩ v').heap[z]? = _ := blk_setC ((ha.other hz h.dz.1).trans h.blk) v'
  have hown : WOwn (w1.setCell ⟨z, 0, none⟩ v') base v' (S.push false x).y.flatten := by
    have : (S.push false x).y.flatten = S.y.flatten ++ x := by show (S.y ++ [x]).flatten = _; simp
    rw [this]
    exact ownBlock_same ha.own (fun k hk => setC_same w1 z 0 v' (fun e => ha.place hz h.dz.1 (e ▸ hk)))
  refine ⟨⟨hb1, hown, ownBlock_same h.ro (fun k hk => oth (own_lt h.ro hk) (fun e => h.dyo k e hk) (fun e => h.dz.2.1 (e ▸ hk))), ownBlock_same h.rc (fun k hk => oth (own_lt h.rc hk) (fun e => h.dyc k e hk) (fun e => h.dz.2.2 (e ▸ hk))), h.fw.same (oth hm h.dm.1 (Ne.symm h.zm)), row_below_same h.f1 (fun k hk => oth (Nat.lt_trans hk h.le) (fun e => by have := (h.ry.ge k e).1; omega) (by have := h.bz; omega)), row_below_same h.f2 (fun k hk => oth (Nat.lt_trans hk h.le) (fun e => by have := (h.ry.ge k e).1; omega) (by have := h.bz; omega)), h.bz, h.bm, h.zm, ⟨ha.place hz h.dz.1, h.dz.2⟩, ⟨ha.place hm h.dm.1, h.dm.2⟩, fun k hk e => ?_, fun k hk e => ?_, h.doc⟩, ⟨?_, fun g hg j hj => ?_, fun g hg j hj => ?_⟩⟩
  · exact ha.place (own_lt h.ro e) (fun e' => h.dyo k e' e) hk
  · exact ha.place (own_lt h.rc e) (fun e' => h.dyc k e' e) hk
  · refine (TouchB.grown (TouchB.refl _ w) ha.grown (fun k e _ => .inr (.inr (.inl e)))).setCell _ _ (fun _ => .inl rfl)
  · exact (World.cell?_of_block (setC_same w1 z 0 v' (fun e => h.dz.1 (e ▸ hg)))).trans (ha.kept g hg j hj)
  · exact World.cell?_of_block (oth (own_lt h.ro hg) (fun e => h.dyo g e hg) (fun e => h.dz.2.1 (e ▸ hg)))
theorem ColAt.push_o {w w1 : World} {z mp base : Nat} {vY vO vC vF1 vF2 v' : Value} {m : Mm} {mk : Int} {full : Bool} {S : Bk} {D I J : List Int} {x : List Int} (h : ColAt w z mp base vY vO vC vF1 vF2 m mk full S D I J) (ha : AppW w base vO S.o.flatten x v' w1) :
    ColAt (w1.setCell ⟨z, 1, none⟩ v') z mp base vY v' vC vF1 vF2 m mk full (S.push true x) D I J ∧ ColF w (w1.setCell ⟨z, 1, none⟩ v') z mp vY vO vC S := by
  have hz := (Array.getElem?_eq_some_iff.1 h.blk).1
  have hm := h.fw.lt
  have oth : ∀ {k : Nat}, k < w.heap.size → vO.ownBlock ≠ some k → k ≠ z → (w1.setCell ⟨z, 1, none⟩ v').heap[k]? = w.heap[k]? := fun hk hn hkz => (setC_same w1 z 1 v' hkz).trans (ha.other hk hn)
  have hb1 : (w1.setCell ⟨z, 1, none⟩ v').heap[z]? = _ := blk_setC ((ha.other hz h.dz.2.1).trans h.blk) v'
  have hown : WOwn (w1.setCell ⟨z, 1, none⟩ v') base v' (S.push true x).o.flatten := by
    have : (S.push true x).o.flatten = S.o.flatten ++ x := by show (S.o ++ [x]).flatten = _; simp
    rw [this]
    exact ownBlock_same ha.own (fun k hk => setC_same w1 z 1 v' (fun e => ha.place hz h.dz.2.1 (e ▸ hk)))
  refine ⟨⟨hb1, ownBlock_same h.ry (fun k hk => oth (own_lt h.ry hk) (h.dyo k hk) (fun e => h.dz.1 (e ▸ hk))), hown, ownBlock_same h.rc (fun k hk => oth (own_lt h.rc hk) (fun e => h.doc k e hk) (fun e => h.dz.2.2 (e ▸ hk))), h.fw.same (oth hm h.dm.2.1 (Ne.symm h.zm)), row_below_same h.f1 (fun k hk => oth (Nat.lt_trans hk h.le) (fun e => by have := (h.ro.ge k e).1; omega) (by have := h.bz; omega)), row_below_same h.f2 (fun k hk => oth (Nat.lt_trans hk h.le) (fun e => by have := (h.ro.ge k e).1; omega) (by have := h.bz; omega)), h.bz, h.bm, h.zm, ⟨h.dz.1, ha.place hz h.dz.2.1, h.dz.2.2⟩, ⟨h.dm.1, ha.place hm h.dm.2.1, h.dm.2.2⟩, fun k hk => ha.place (own_lt h.ry hk) (h.dyo k hk), h.dyc, fun k hk e => ?_⟩, ⟨?_, fun g hg j hj => ?_, fun g hg j hj => ?_⟩⟩
  · exact ha.place (own_lt h.rc e) (fun e' => h.doc k e' e) hk
  · refine (TouchB.grown (TouchB.refl _ w) ha.grown (fun k e _ => .inr (.inr (.inr (.inl e))))).setCell _ _ (fun _ => .inl rfl)
  · exact World.cell?_of_block (oth (own_lt h.ry hg) (h.dyo g hg) (fun e => h.dz.1 (e ▸ hg)))
  · exact (World.cell?_of_block (setC_same w1 z 1 v' (fun e => h.dz.2.1 (e ▸ hg)))).trans (ha.kept g hg j hj)
/-- a pointer is appended to the copied ones -/
theorem ColAt.push_c {w w1 : World} {z mp base : Nat} {vY vO vC vF1 vF2 v' : Value} {m : Mm} {mk : Int} {full : Bool} {S : Bk} {D I J : List Int} {p : Int} (h : ColAt w z mp base vY vO vC vF1 vF2 m mk full S D I J) (ha : AppW w base vC J [p] v' w1) :
    ColAt (w1.setCell ⟨z, 8, none⟩ v') z mp base vY vO v' vF1 vF2 m mk full S D I (J ++ [p]) ∧ ColF w (w1.setCell ⟨z, 8, none⟩ v') z mp vY vO vC S := by
  have hz := (Array.getElem?_eq_some_iff.1 h.blk).1
  have hm := h.fw.lt
  have oth : ∀ {k : Nat}, k < w.heap.size → vC.ownBlock ≠ some k → k ≠ z → (w1.setCell ⟨z, 8, none⟩ v').heap[k]? = w.heap[k]? := fun hk hn hkz => (setC_same w1 z 8 v' hkz).trans (ha.other hk hn)
  have hb1 : (w1.setCell ⟨z, 8, none⟩ v').heap[z]? = _ := blk_setC ((ha.other hz h.dz.2.2).trans h.blk) v'
  have hown : WOwn (w1.setCell ⟨z, 8, none⟩ v') base v' (J ++ [p]) := ownBlock_same ha.own (fun k hk => setC_same w1 z 8 v' (fun e => ha.place hz h.dz.2.2 (e ▸ hk)))
  refine ⟨⟨hb1, ownBlock_same h.ry (fun k hk => oth (own_lt h.ry hk) (h.dyc k hk) (fun e => h.dz.1 (e ▸ hk))), ownBlock_same h.ro (fun k hk => oth (own_lt h.ro hk) (h.doc k hk) (fun e => h.dz.2.1 (e ▸ hk))), hown, h.fw.same (oth hm h.dm.2.2 (Ne.symm h.zm)), row_below_same h.f1 (fun k hk => oth (Nat.lt_trans hk h.le) (fun e => by have := (h.rc.ge k e).1; omega) (by have := h.bz; omega)), row_below_same h.f2 (fun k hk => oth (Nat.lt_trans hk h.le) (fun e => by have := (h.rc.ge k e).1; omega) (by have := h.bz; omega)), h.bz, h.bm, h.zm, ⟨h.dz.1, h.dz.2.1, ha.place hz h.dz.2.2⟩, ⟨h.dm.1, h.dm.2.1, ha.place hm h.dm.2.2⟩, h.dyo, fun k hk => ha.place (own_lt h.ry hk) (h.dyc k hk), fun k hk => ha.place (own_lt h.ro hk) (h.doc k hk)⟩, ⟨?_, fun g hg j hj => ?_, fun g hg j hj => ?_⟩⟩
  · refine (TouchB.grown (TouchB.refl _ w) ha.grown (fun k e _ => .inr (.inr (.inr (.inr e))))).setCell _ _ (fun _ => .inl rfl)
  · exact World.cell?_of_block (oth (own_lt h.ry hg) (h.dyc g hg) (fun e => h.dz.1 (e ▸ hg)))
  · exact World.cell?_of_block (oth (own_lt h.ro hg) (h.doc g hg) (fun e => h.dz.2.1 (e ▸ hg)))
/-- the map takes an entry -/
theorem ColAt.mapped {w w1 : World} {z mp base : Nat} {vY vO vC vF1 vF2 : Value} {m : Mm} {mk : Int} {full : Bool} {S : Bk} {D I J : List Int} {v p : Int} (h : ColAt w z mp base vY vO vC vF1 vF2 m mk full S D I J) (hl : D.length = I.length) (hv : v ∉ D)
    (hm : MapIs (Value.int .u64) w1 mp (alPut (fwd D I) v (.int .u64 p))) (ht : TouchB (fun i => i = mp) w w1) : ColAt w1 z mp base vY vO vC vF1 vF2 m mk full S (D ++ [v]) (I ++ [p]) J ∧ ColF w w1 z mp vY vO vC S := by
  rw [fwd_put hl hv] at hm
  have hz := (Array.getElem?_eq_some_iff.1 h.blk).1
  have oth : ∀ {k : Nat}, k < w.heap.size → k ≠ mp → w1.heap[k]? = w.heap[k]? := fun hk hn => ht.block _ hk hn
  have hbm := h.bm
  exact ⟨⟨(oth hz h.zm).trans h.blk, ownBlock_same h.ry (fun k hk => oth (own_lt h.ry hk) (fun e => h.dm.1 (e ▸ hk))), ownBlock_same h.ro (fun k hk => oth (own_lt h.ro hk) (fun e => h.dm.2.1 (e ▸ hk))), ownBlock_same h.rc (fun k hk => oth (own_lt h.rc hk) (fun e => h.dm.2.2 (e ▸ hk))), hm, row_below_same h.f1 (fun k hk => oth (Nat.lt_trans hk h.le) (by omega)), row_below_same h.f2 (fun k hk => oth (Nat.lt_trans hk h.le) (by omega)), h.bz, h.bm, h.zm, h.dz, h.dm, h.dyo, h.dyc, h.doc⟩,
    ⟨ht.mono (fun i _ e => .inr (.inl e)), fun g hg j _ => World.cell?_of_block (oth (own_lt h.ry hg) (fun e => h.dm.1 (e ▸ hg))), fun g hg j _ => World.cell?_of_block (oth (own_lt h.ro hg) (fun e => h.dm.2.1 (e ▸ hg)))⟩⟩
/-- whatever writes none of the blocks -/
theorem ColAt.below {w w1 : World} {z mp base : Nat} {vY vO vC vF1 vF2 : Value} {m : Mm} {mk : Int} {full : Bool} {S : Bk} {D I J : List Int} (h : ColAt w z mp base vY vO vC vF1 vF2 m mk full S D I J) (hb : Below w.heap.size w w1) : ColAt w1 z mp base vY vO vC vF1 vF2 m mk full S D I J :=
  have hz := (Array.getElem?_eq_some_iff.1 h.blk).1
  ⟨(hb.block _ hz).trans h.blk, h.ry.below hb, h.ro.below hb, h.rc.below hb, h.fw.same (hb.block _ h.fw.lt), row_below_same h.f1 (fun k hk => hb.block k (Nat.lt_trans hk h.le)), row_below_same h.f2 (fun k hk => hb.block k (Nat.lt_trans hk h.le)), h.bz, h.bm, h.zm, h.dz, h.dm, h.dyo, h.dyc, h.doc⟩
theorem ColF.below {w w1 : World} {z mp base : Nat} {vY vO vC vF1 vF2 : Value} {m : Mm} {mk : Int} {full : Bool} {S : Bk} {D I J : List Int} (h : ColAt w z mp base vY vO vC vF1 vF2 m mk full S D I J) (hb : Below w.heap.size w w1) : ColF w w1 z mp vY vO vC S :=
  ⟨⟨hb.os, hb.tape, hb.output, hb.size, fun k hk _ => hb.block k hk⟩, fun g hg j _ => World.cell?_of_block (hb.block g (own_lt h.ry hg)), fun g hg j _ => World.cell?_of_block (hb.block g (own_lt h.ro hg))⟩
end Go.Proofs.YtegffanlehaloaaGreat.cl

/- Steps of a collection, one after the other, in memory. Conditions: as said. -/
namespace Go.Proofs.YtegffanlehaloaaGreat.cl
open Go.RowKit mem words
set_option linter.unusedVariables false
set_option linter.unusedSimpArgs false
set_option maxHeartbeats 1000000

theorem lk_new : ∀ {D I : List Int} {w p : Int}, D.length = I.length → w ∉ D → lk (D ++ [w]) (I ++ [p]) w = p := by
  intro D
  induction D with
  | nil =>
    intro I w p hl _
    cases I with
    | nil => simp [lk]
    | cons _ _ => simp at hl
  | cons d D ih =>
    intro I w p hl hw
    cases I with
    | nil => simp at hl
    | cons q I =>
      rw [List.cons_append, List.cons_append]
      unfold lk
      rw [if_neg (fun e => hw (by rw [e]; exact List.mem_cons_self)), ih (by simpa using hl) (fun h => hw (List.mem_cons_of_mem _ h))]
/-- a row lies where it lay, or in new memory -/
def ColN (w : World) (v v' : Value) : Prop := v'.ownBlock = v.ownBlock ∨ ∃ k, v'.ownBlock = some k ∧ w.heap.size ≤ k
theorem ColN.refl (w : World) (v : Value) : ColN w v v := .inl rfl
theorem AppW.n {w : World} {base : Nat} {v : Value} {l xs : List Int} {v' : Value} {w' : World} (h : AppW w base v l xs v' w') : ColN w v v' := h.at_.imp id fun e => ⟨_, e, Nat.le_refl _⟩
theorem ColN.trans {w w1 : World} {a b c : Value} (h : ColN w a b) (hs : w.heap.size ≤ w1.heap.size) (k : ColN w1 b c) : ColN w a c := by
  rcases k with e | ⟨g, e, hg⟩
  · rcases h with e' | ⟨g, e', hg⟩
    · exact .inl (e.trans e')
    · exact .inr ⟨g, e.trans e', hg⟩
  · exact .inr ⟨g, e, Nat.le_trans hs hg⟩
theorem ColN.old {w : World} {a b : Value} (h : ColN w a b) {k : Nat} (hk : b.ownBlock = some k) (hlt : k < w.heap.size) : a.ownBlock = some k := by
  rcases h with e | ⟨g, e, hg⟩
  · rw [← e]; exact hk
  · rw [e] at hk; injection hk with hk; omega
/-- what steps of a collection leave -/
structure ColS (w w' : World) (z mp : Nat) (vY vO vC : Value) (S : Bk) (vY' vO' vC' : Value) (S' : Bk) : Prop where
  f : ColF w w' z mp vY vO vC S
  ny : ColN w vY vY'
  no : ColN w vO vO'
  nc : ColN w vC vC'
  ly : S.y.flatten.length ≤ S'.y.flatten.length
  lo : S.o.flatten.length ≤ S'.o.flatten.length
theorem ColS.refl (w : World) (z mp : Nat) (vY vO vC : Value) (S : Bk) : ColS w w z mp vY vO vC S vY vO vC S := ⟨ColF.refl _ _ _ _ _ _ _, ColN.refl _ _, ColN.refl _ _, ColN.refl _ _, Nat.le_refl _, Nat.le_refl _⟩
theorem ColS.trans {w w1 w2 : World} {z mp base : Nat} {vY vO vC vF1 vF2 vY1 vO1 vC1 vY2 vO2 vC2 : Value} {m : Mm} {mk : Int} {full : Bool} {S S1 S2 : Bk} {D I J : List Int} (h : ColAt w z mp base vY vO vC vF1 vF2 m mk full S D I J)
    (a : ColS w w1 z mp vY vO vC S vY1 vO1 vC1 S1) (b : ColS w1 w2 z mp vY1 vO1 vC1 S1 vY2 vO2 vC2 S2) : ColS w w2 z mp vY vO vC S vY2 vO2 vC2 S2 := by
  have hs := a.f.t.size
  have back : ∀ k, k < w.heap.size → ColB z mp vY1 vO1 vC1 k → ColB z mp vY vO vC k := by
    intro k hk hc
    rcases hc with e | e | e | e | e
    · exact .inl e
    · exact .inr (.inl e)
    · exact .inr (.inr (.inl (a.ny.old e hk)))
    · exact .inr (.inr (.inr (.inl (a.no.old e hk))))
    · exact .inr (.inr (.inr (.inr (a.nc.old e hk))))
  refine ⟨⟨a.f.t.trans b.f.t back, fun g hg j hj => ?_, fun g hg j hj => ?_⟩, a.ny.trans hs b.ny, a.no.trans hs b.no, a.nc.trans hs b.nc, Nat.le_trans a.ly b.ly, Nat.le_trans a.lo b.lo⟩
  · have hlt := own_lt h.ry hg
    refine Eq.trans ?_ (a.f.ky g hg j hj)
    by_cases he : vY1.ownBlock = some g
    · exact b.f.ky g he j (Nat.lt_of_lt_of_le hj a.ly)
    · refine World.cell?_of_block (b.f.t.block g (Nat.lt_of_lt_of_le hlt hs) ?_)
      rintro (e | e | e | e | e)
      · exact h.dz.1 (e ▸ hg)
      · exact h.dm.1 (e ▸ hg)
      · exact he e
      · exact h.dyo g hg (a.no.old e hlt)
      · exact h.dyc g hg (a.nc.old e hlt)
  · have hlt := own_lt h.ro hg
    refine Eq.trans ?_ (a.f.ko g hg j hj)
    by_cases he : vO1.ownBlock = some g
    · exact b.f.ko g he j (Nat.lt_of_lt_of_le hj a.lo)
    · refine World.cell?_of_block (b.f.t.block g (Nat.lt_of_lt_of_le hlt hs) ?_)
      rintro (e | e | e | e | e)
      · exact h.dz.2.1 (e ▸ hg)
      · exact h.dm.2.1 (e ▸ hg)
      · exact h.dyo g (a.ny.old e hlt) hg
      · exact he e
      · exact h.doc g hg (a.nc.old e hlt)
theorem ColS.below {w w1 : World} {z mp base : Nat} {vY vO vC vF1 vF2 : Value} {m : Mm} {mk : Int} {full : Bool} {S : Bk} {D I J : List Int} (h : ColAt w z mp base vY vO vC vF1 vF2 m mk full S D I J) (hb : Below w.heap.size w w1) : ColS w w1 z mp vY vO vC S vY vO vC S :=
  ⟨ColF.below h hb, ColN.refl _ _, ColN.refl _ _, ColN.refl _ _, Nat.le_refl _, Nat.le_refl _⟩
/-- and nothing that lay below the collection's own memory -/
theorem ColS.base {w w1 : World} {z mp base : Nat} {vY vO vC vF1 vF2 vY1 vO1 vC1 : Value} {m : Mm} {mk : Int} {full : Bool} {S S1 : Bk} {D I J : List Int} (h : ColAt w z mp base vY vO vC vF1 vF2 m mk full S D I J) (a : ColS w w1 z mp vY vO vC S vY1 vO1 vC1 S1) : Below base w w1 :=
  a.f.t.below (fun k hk => h.ge hk) (Nat.le_of_lt h.le)
theorem push_len (S : Bk) (b c : Bool) (x : List Int) : (S.s c).flatten.length ≤ ((S.push b x).s c).flatten.length := by
  rw [push_s]
  split
  · rw [List.flatten_append, List.length_append]; omega
  · exact Nat.le_refl _
theorem ColAt.stepY {w w1 : World} {z mp base : Nat} {vY vO vC vF1 vF2 v' : Value} {m : Mm} {mk : Int} {full : Bool} {S : Bk} {D I J : List Int} {x : List Int} (h : ColAt w z mp base vY vO vC vF1 vF2 m mk full S D I J) (ha : AppW w base vY S.y.flatten x v' w1) :
    ColAt (w1.setCell ⟨z, 0, none⟩ v') z mp base v' vO vC vF1 vF2 m mk full (S.push false x) D I J ∧ ColS w (w1.setCell ⟨z, 0, none⟩ v') z mp vY vO vC S v' vO vC (S.push false x) := by
  obtain ⟨h1, h2⟩ := h.push_y ha
  exact ⟨h1, h2, ha.n, ColN.refl _ _, ColN.refl _ _, push_len S false false x, push_len S false true x⟩
theorem ColAt.stepO {w w1 : World} {z mp base : Nat} {vY vO vC vF1 vF2 v' : Value} {m : Mm} {mk : Int} {full : Bool} {S : Bk} {D I J : List Int} {x : List Int} (h : ColAt w z mp base vY vO vC vF1 vF2 m mk full S D I J) (ha : AppW w base vO S.o.flatten x v' w1) :
    ColAt (w1.setCell ⟨z, 1, none⟩ v') z mp base vY v' vC vF1 vF2 m mk full (S.push true x) D I J ∧ ColS w (w1.setCell ⟨z, 1, none⟩ v') z mp vY vO vC S vY v' vC (S.push true x) := by
  obtain ⟨h1, h2⟩ := h.push_o ha
  exact ⟨h1, h2, ColN.refl _ _, ha.n, ColN.refl _ _, push_len S true false x, push_len S true true x⟩
theorem ColAt.stepC {w w1 : World} {z mp base : Nat} {vY vO vC vF1 vF2 v' : Value} {m : Mm} {mk : Int} {full : Bool} {S : Bk} {D I J : List Int} {p : Int} (h : ColAt w z mp base vY vO vC vF1 vF2 m mk full S D I J) (ha : AppW w base vC J [p] v' w1) :
    ColAt (w1.setCell ⟨z, 8, none⟩ v') z mp base vY vO v' vF1 vF2 m mk full S D I (J ++ [p]) ∧ ColS w (w1.setCell ⟨z, 8, none⟩ v') z mp vY vO vC S vY vO v' S := by
  obtain ⟨h1, h2⟩ := h.push_c ha
  exact ⟨h1, h2, ColN.refl _ _, ColN.refl _ _, ha.n, Nat.le_refl _, Nat.le_refl _⟩
theorem ColAt.stepM {w w1 : World} {z mp base : Nat} {vY vO vC vF1 vF2 : Value} {m : Mm} {mk : Int} {full : Bool} {S : Bk} {D I J : List Int} {v p : Int} (h : ColAt w z mp base vY vO vC vF1 vF2 m mk full S D I J) (hl : D.length = I.length) (hv : v ∉ D)
    (hm : MapIs (Value.int .u64) w1 mp (alPut (fwd D I) v (.int .u64 p))) (ht : TouchB (fun i => i = mp) w w1) : ColAt w1 z mp base vY vO vC vF1 vF2 m mk full S (D ++ [v]) (I ++ [p]) J ∧ ColS w w1 z mp vY vO vC S vY vO vC S := by
  obtain ⟨h1, h2⟩ := h.mapped hl hv hm ht
  exact ⟨h1, h2, ColN.refl _ _, ColN.refl _ _, ColN.refl _ _, Nat.le_refl _, Nat.le_refl _⟩
/-- what keep does to the lists -/
def Kept (K : Bk) (mk : Int) (full : Bool) (v : Int) (S : Bk) (D I : List Int) (S' : Bk) (D' I' : List Int) : Prop :=
  ((mov full v = true → v ∈ D) ∧ S' = S ∧ D' = D ∧ I' = I) ∨
  (mov full v = true ∧ v ∉ D ∧ ∃ x t, Pt K v x ∧ (t = 1 ∨ t = 2) ∧ v % 4 = t ∧ S' = S.push (age full mk v) x ∧ D' = D ++ [v] ∧ I' = I ++ [ptrW t (age full mk v) (S.s (age full mk v)).flatten.length])
def KeepP (w : World) (z mp base : Nat) (vY vO vC vF1 vF2 : Value) (m : Mm) (K : Bk) (mk : Int) (full : Bool) (S : Bk) (D I : List Int) (v : Int) (e : Ending) (w' : World) : Prop :=
  ∃ vY' vO' vC' S' D' I', e = .returned (.int .u64 (lk D' I' v)) ∧ ColAt w' z mp base vY' vO' vC' vF1 vF2 m mk full S' D' I' I' ∧ ColS w w' z mp vY vO vC S vY' vO' vC' S' ∧ Kept K m.at_ full v S D I S' D' I'
theorem nine_cells {w : World} {z : Nat} {a b c d e f g h i : Value} {t : TypeId} (hh : w.heap[z]? = some (.cells #[a, b, c, d, e, f, g, h, i] t)) :
    w.cell? ⟨z, 0, none⟩ = some a ∧ w.cell? ⟨z, 1, none⟩ = some b ∧ w.cell? ⟨z, 2, none⟩ = some c ∧ w.cell? ⟨z, 3, none⟩ = some d ∧ w.cell? ⟨z, 4, none⟩ = some e ∧ w.cell? ⟨z, 5, none⟩ = some f ∧ w.cell? ⟨z, 6, none⟩ = some g ∧ w.cell? ⟨z, 7, none⟩ = some h ∧ w.cell? ⟨z, 8, none⟩ = some i ∧ ∀ o, w.frozen? ⟨z, o, none⟩ = false := by
  refine ⟨?_, ?_, ?_, ?_, ?_, ?_, ?_, ?_, ?_, fun o => ?_⟩
  · simp only [World.cell?, hh]; rfl
  · simp only [World.cell?, hh]; rfl
  · simp only [World.cell?, hh]; rfl
  · simp only [World.cell?, hh]; rfl
  · simp only [World.cell?, hh]; rfl
  · simp only [World.cell?, hh]; rfl
  · simp only [World.cell?, hh]; rfl
  · simp only [World.cell?, hh]; rfl
  · simp only [World.cell?, hh]; rfl
  · simp only [World.frozen?, hh]; simp
end Go.Proofs.YtegffanlehaloaaGreat.cl
