/- Several texts in one, one behind the other: CqO. No condition beyond theirs. -/
import Derived.Test.YtegffanlehaloaaGreatGt
import Derived.Sort.CutIn

/- The collector: run, its first loop. Conditions: as said. -/
namespace Go.Proofs.YtegffanlehaloaaGreat.cl
open Go.RowKit mem words
set_option linter.unusedVariables false
set_option linter.unusedSimpArgs false
set_option maxHeartbeats 4000000
set_option maxRecDepth 100000
attribute [local go_sem] Oper.semAt_some

/-- what a collection starts from -/
def base0 (full : Bool) (K : Bk) : List (List Int) := if full then [] else K.o
structure RunPre (m : Mm) (K : Bk) (roots : List Int) : Prop where
  sh : Sh m K
  wy : Wds m.y
  wo : Wds m.o
  tot : m.y.length + m.o.length ≤ 5000
  rt : ∀ r ∈ roots, Tm K r ∧ 0 ≤ r ∧ r ≤ 18446744073709551615
  rl : roots.length ≤ 100000
theorem RunPre.objs {m : Mm} {K : Bk} {roots : List Int} (h : RunPre m K roots) : ∀ b, ∀ o ∈ K.s b, IsObj o := fun b => by
  cases b
  · exact h.sh.y.2
  · exact h.sh.o.2
theorem base0_len {m : Mm} {K : Bk} {roots : List Int} (h : RunPre m K roots) (full : Bool) : (base0 full K).flatten.length ≤ 5000 := by
  have := h.tot
  unfold base0
  cases full
  · show K.o.flatten.length ≤ 5000
    rw [h.sh.o.1]
    omega
  · simp
section
variable {w : World} {z mp base : Nat} {vY vO vC vF1 vF2 : Value} {m : Mm} {mk : Int} {full : Bool} {S : Bk} {D I : List Int} {K : Bk} {roots : List Int}
theorem RunPre.lens (h : RunPre m K roots) {i k : Nat} (inv : Inv K m.at_ full (base0 full K) roots S D I i k) : S.y.flatten.length ≤ 10000 ∧ S.o.flatten.length ≤ 10000 ∧ I.length ≤ 5000 ∧ D.length ≤ 5000 := by
  have h1 := inv.small h.sh.pos
  have h2 := base0_len h full
  have h3 := inv.few h.sh.pos
  have e1 : K.y.flatten.length = m.y.length := by rw [h.sh.y.1]
  have e2 : K.o.flatten.length = m.o.length := by rw [h.sh.o.1]
  have := h.tot
  have := inv.len
  omega
/-- keep, where a collection is under way -/
theorem RunPre.keep (h : RunPre m K roots) (col : ColAt w z mp base vY vO vC vF1 vF2 m mk full S D I I) {i k : Nat} (inv : Inv K m.at_ full (base0 full K) roots S D I i k) (v : Int) (v0 : 0 ≤ v) (v1 : v ≤ 18446744073709551615) (tm : Tm K v) :
    Calls Tryz.prog 46 #[.pointer (some ⟨z, 0, none⟩), .int .u64 v] w (KeepP w z mp base vY vO vC vF1 vF2 m K mk full S D I v) := by
  have hl := h.lens inv
  have ht := h.tot
  refine keep56 col inv.len (by omega) (by omega) (by omega) K h.sh.y h.sh.o h.wy h.wo (by omega) (by omega) v v0 v1 (fun d hd => (inv.src d hd).2.1) (fun hm => ?_)
  have hp : pOk v = true := by
    unfold mov at hm
    cases hp : pOk v
    · rw [hp] at hm; simp at hm
    · rfl
  exact tm_ptr tm hp
theorem RunPre.kept (h : RunPre m K roots) {S' : Bk} {D' I' : List Int} {i k : Nat} {v : Int} (inv : Inv K m.at_ full (base0 full K) roots S D I i k) (v0 : 0 ≤ v) (hr : mov full v = true → Rc K roots v) (hk : Kept K m.at_ full v S D I S' D' I') :
    Inv K m.at_ full (base0 full K) roots S' D' I' i k ∧ (mov full v = true → v ∈ D') ∧ (∀ d ∈ D, d ∈ D') ∧ (∀ u, (mov full u = true → u ∈ D) → lk D' I' u = lk D I u) ∧ (∃ t, D' = D ++ t) ∧ ∃ t, I' = I ++ t := by
  have hl := h.lens inv
  exact inv.kept h.sh.pos h.objs ⟨by omega, by omega⟩ v0 hr hk
end
/-- a box more, made while nothing that lay was written -/
theorem run_leaf {V V' : World} {z mp base : Nat} {vY vO vC vF1 vF2 vT : Value} {m : Mm} {mk : Int} {full : Bool} {S : Bk} {D I outs : List Int} {bx : List (Nat × Obj)} {k : Nat} {o : Obj} (h : RunAt V z mp base vY vO vC vF1 vF2 vT m mk full S D I outs bx) (hb : Below V.heap.size V V') (hk : V'.heap[k]? = some o) (hlt : V.heap.size ≤ k) : RunAt V' z mp base vY vO vC vF1 vF2 vT m mk full S D I outs ((k, o) :: bx) := by
  have h1 := h.below hb
  refine ⟨h1.col, h1.out, h1.outf, fun p hp => ?_⟩
  rcases List.mem_cons.1 hp with rfl | hp
  · exact ⟨hk, fun hc => by have := h.col.lt hc; omega, fun e => by have := own_lt h.out e; omega⟩
  · exact h1.bx p hp
theorem lit_end {T : List Value} {ds : List Deferred} (hl : T.length = 85) {p v c : Value} (h2 : T[2]? = some p) (h5 : T[5]? = some v) (h8 : T[8]? = some c) : ∃ U : Nat → Value, U 2 = p ∧ U 5 = v ∧ U 8 = c ∧ ({ tmps := T.toArray, defers := ds } : Act) = { tmps := #[U 0, U 1, U 2, U 3, U 4, U 5, U 6, U 7, U 8, U 9, U 10, U 11, U 12, U 13, U 14, U 15, U 16, U 17, U 18, U 19, U 20, U 21, U 22, U 23, U 24, U 25, U 26, U 27, U 28, U 29, U 30, U 31, U 32, U 33, U 34, U 35, U 36, U 37, U 38, U 39, U 40, U 41, U 42, U 43, U 44, U 45, U 46, U 47, U 48, U 49, U 50, U 51, U 52, U 53, U 54, U 55, U 56, U 57, U 58, U 59, U 60, U 61, U 62, U 63, U 64, U 65, U 66, U 67, U 68, U 69, U 70, U 71, U 72, U 73, U 74, U 75, U 76, U 77, U 78, U 79, U 80, U 81, U 82, U 83, U 84], defers := ds } := by
  refine ⟨fun j => T[j]?.getD undef, by simp [h2], by simp [h5], by simp [h8], ?_⟩
  have e : ∀ U : Nat → Value, ([U 0, U 1, U 2, U 3, U 4, U 5, U 6, U 7, U 8, U 9, U 10, U 11, U 12, U 13, U 14, U 15, U 16, U 17, U 18, U 19, U 20, U 21, U 22, U 23, U 24, U 25, U 26, U 27, U 28, U 29, U 30, U 31, U 32, U 33, U 34, U 35, U 36, U 37, U 38, U 39, U 40, U 41, U 42, U 43, U 44, U 45, U 46, U 47, U 48, U 49, U 50, U 51, U 52, U 53, U 54, U 55, U 56, U 57, U 58, U 59, U 60, U 61, U 62, U 63, U 64, U 65, U 66, U 67, U 68, U 69, U 70, U 71, U 72, U 73, U 74, U 75, U 76, U 77, U 78, U 79, U 80, U 81, U 82, U 83, U 84] : List Value) = (List.range 85).map U := fun U => rfl
  rw [e (fun j => T[j]?.getD undef)]
  congr 1
  congr 1
  refine List.ext_getElem (by simp [hl]) (fun j h1 h3 => ?_)
  simp [List.getElem?_eq_getElem h1]
theorem frm_le {x : List Int} (h : IsObj x) (hok : okO x = true) : frm x ≤ x.length := by
  obtain ⟨y, r, rfl, hk, hl⟩ := h
  unfold frm
  have e : (y :: r).headD 0 = y := rfl
  rw [e]
  by_cases h4 : y % 4 = 0
  · rw [if_neg (by omega)]
    split
    · simp
    · split
      · rename_i h2
        unfold okO at hok
        have e1 : knd (y :: r) = 2 := by unfold knd; rw [e, if_pos h4, h2]
        have e2 : wds (y :: r) = r := by unfold wds; rw [e, if_pos h4]; rfl
        rw [e1, e2] at hok
        unfold fmd at hok
        simp only [Int.reduceEq, if_false, if_true, Bool.and_eq_true, decide_eq_true_eq] at hok
        have := hok.1.1
        simp
        omega
      · exact Nat.le_refl _
  · rw [if_pos h4]
    omega
theorem Src.later {V : World} {z mp : Nat} {vY vO vC vT : Value} {S : Bk} {b : Bool} {g o len n n' : Nat} {xs : List Int} (h : Src V z mp vY vO vC vT S b g o len xs n) (hn : n ≤ n') : Src V z mp vY vO vC vT S b g o len xs n' := ⟨h.lt, h.own, h.out, h.inb, fun j h1 h2 => h.ws j (Nat.le_trans hn h1) h2⟩
theorem mkB_mem {j : Nat} {Ds : List Nat} (hj : j ∈ Ds) : (j, Obj.deferred (some [])) ∈ mkB Ds := List.mem_map_of_mem (f := fun D => (D, Obj.deferred (some []))) hj
theorem RunAt.mark {V : World} {z mp base : Nat} {vY vO vC vF1 vF2 vT : Value} {m : Mm} {mk : Int} {full : Bool} {S : Bk} {D I outs : List Int} {bx : List (Nat × Obj)} {k : Nat} (h : RunAt V z mp base vY vO vC vF1 vF2 vT m mk full S D I outs bx) (hk : V.heap[k]? = some (.deferred (some []))) (hm : mp < k) : RunAt V z mp base vY vO vC vF1 vF2 vT m mk full S D I outs ((k, .deferred (some [])) :: bx) := by
  have row : ∀ {v : Value} {l : List Int}, WOwn V base v l → v.ownBlock ≠ some k := fun {v l} hw e => by
    rcases hw.2 with ⟨rfl, _⟩ | ⟨g, cap, cur, rfl, _, hc, _⟩
    · simp [Value.ownBlock] at e
    · obtain rfl : g = k := by simpa [Value.ownBlock] using e
      rw [hc] at hk; cases hk
  refine ⟨h.col, h.out, h.outf, fun p hp => ?_⟩
  rcases List.mem_cons.1 hp with rfl | hp
  · refine ⟨hk, ?_, row h.out⟩
    rintro (e | e | e | e | e)
    · have e : k = z := e
      rw [e, h.col.blk] at hk; cases hk
    · have e : k = mp := e
      omega
    · exact row h.col.ry e
    · exact row h.col.ro e
    · exact row h.col.rc e
  · exact h.bx p hp
theorem up_flat {S : Bk} (hp : S.pos) (b : Bool) {k j : Nat} {x : List Int} (h : At (S.s b) k x) (hj : j < x.length) (u : Int) : ((S.up b k j u).y.flatten = if b then S.y.flatten else S.y.flatten.set (k + j) u) ∧ (S.up b k j u).o.flatten = if b then S.o.flatten.set (k + j) u else S.o.flatten := by
  cases b
  · exact ⟨upd_flat hp.1 h hj, rfl⟩
  · exact ⟨rfl, upd_flat hp.2 h hj⟩
theorem Inv.lk_bd {B : Bk} {mk : Int} {full : Bool} {base : List (List Int)} {roots : List Int} {S : Bk} {D I : List Int} {i k : Nat} (h : Inv B mk full base roots S D I i k) {v : Int} (hv : 0 ≤ v ∧ v ≤ 18446744073709551615) : 0 ≤ lk D I v ∧ lk D I v ≤ 18446744073709551615 := by
  by_cases hm : v ∈ D
  · obtain ⟨j, p, h1, h2, h3⟩ := lk_mem h.len h.nd hm
    obtain ⟨x', g1, g2, _⟩ := h.cp j v p h1 h2
    have := ((pOk_iff p).1 g1.1).2
    rw [h3]
    omega
  · rw [lk_not hm]
    exact hv
theorem Inv.lk_tag {B : Bk} {mk : Int} {full : Bool} {base : List (List Int)} {roots : List Int} {S : Bk} {D I : List Int} {i k : Nat} (h : Inv B mk full base roots S D I i k) {v : Int} (hv : v % 4 ≠ 0) : lk D I v % 4 ≠ 0 := by
  by_cases hm : v ∈ D
  · obtain ⟨j, p, h1, h2, h3⟩ := lk_mem h.len h.nd hm
    obtain ⟨x', g1, g2, _⟩ := h.cp j v p h1 h2
    have := ((pOk_iff p).1 g1.1).1
    rw [h3]
    omega
  · rw [lk_not hm]
    exact hv
/-- what holds between two rounds of a copy's words -/
def InRun (w : World) (z mp base zx gb k i : Nat) (vF1 vF2 vT : Value) (m : Mm) (mk : Int) (full b : Bool) (K : Bk) (roots os x : List Int) (d p : Int) (bxs : List (Nat × Obj)) (q : Nat) (V : World) : Prop :=
  ∃ vY vO vC S D I pv nv cv, RunAt V z mp base vY vO vC vF1 vF2 vT m mk full S D I os ((zx, .cells #[.slice pv nv cv] 22) :: bxs) ∧ Inv K m.at_ full (base0 full K) roots S D I i (frm x + q) ∧ Src V z mp vY vO vC vT S b gb k x.length x (frm x + q) ∧ D[i]? = some d ∧ I[i]? = some p ∧ (∀ r ∈ roots, mov full r = true → r ∈ D) ∧ roots.map (lk D I) = os ∧ Below base w V
theorem InRun.own_from {w : World} {z mp base zx gb k i : Nat} {vF1 vF2 vT : Value} {m : Mm} {mk : Int} {full b : Bool} {K : Bk} {roots os x : List Int} {d p : Int} {bxs : List (Nat × Obj)} {B : Nat} (hbx : ∀ p ∈ bxs, p.1 < B) (hm : mp < B) (hB : base ≤ B) : OwnFrom B (InRun w z mp base zx gb k i vF1 vF2 vT m mk full b K roots os x d p bxs) := by
  intro q V V' row hs hg hr
  obtain ⟨vY, vO, vC, S, D, I, pv, nv, cv, h1, h2, h3, h4, h5, h6, h7, h8⟩ := hs
  refine ⟨vY, vO, vC, S, D, I, pv, nv, cv, h1.grown2 hg hr (fun p hp => ?_) hm hB, h2, h3.grown hg (fun r e => (hr r e).2), h4, h5, h6, h7, h8.grown hg (Nat.le_of_lt h1.col.le) (fun r e => Nat.le_trans hB (hr r e).1)⟩
  rcases List.mem_cons.1 hp with rfl | hp
  · exact .inl rfl
  · exact .inr (hbx p hp)
/-- what run leaves -/
def RunPost (w : World) (z mp base : Nat) (vF1 vF2 : Value) (m : Mm) (K : Bk) (mk : Int) (full : Bool) (roots : List Int) (e : Ending) (w' : World) : Prop :=
  ∃ vY vO vC vT S D I, e = .returned vT ∧ RunAt w' z mp base vY vO vC vF1 vF2 vT m mk full S D I (roots.map (lk D I)) [] ∧ Inv K m.at_ full (base0 full K) roots S D I D.length 0 ∧ (∀ r ∈ roots, mov full r = true → r ∈ D) ∧ Below base w w'
theorem run30 (w : World) (z mp base : Nat) (vY vO vC vF1 vF2 : Value) (m : Mm) (K : Bk) (mk : Int) (full : Bool) (roots : List Int) (pr : Option Addr) (cr : Nat) (h : ColAt w z mp base vY vO vC vF1 vF2 m mk full ⟨[], base0 full K⟩ [] [] []) (hp : RunPre m K roots) (hr : WAt w base (.slice pr roots.length cr) roots) :
    Calls Tryz.prog 19 #[.pointer (some ⟨z, 0, none⟩), .slice pr roots.length cr] w (RunPost w z mp base vF1 vF2 m K mk full roots) := by
  have HP := Lib.hid hp
  have HR := Lib.hid hr
  have hle := Nat.le_of_lt h.le
  have HW0 : Hid (RunAt (w.alloc (.cells #[.pointer (some ⟨z, 0, none⟩)] 44)) z mp base vY vO vC vF1 vF2 (.slice none 0 0) m mk full ⟨[], base0 full K⟩ [] [] [] [(w.heap.size, .cells #[.pointer (some ⟨z, 0, none⟩)] 44)]) :=
    Lib.hid (RunAt.alloc (V := w) (bx := []) ⟨h, WOwn.nil _ _, fun k hk => by simp [Value.ownBlock] at hk, fun p hp => by simp at hp⟩ _)
  have hb0 : Below base w (w.alloc (.cells #[.pointer (some ⟨z, 0, none⟩)] 44)) := ((Below.refl _ _).alloc (Nat.le_refl _) _).mono hle
  have HB0 := Lib.hid hb0
  have HI0 : Hid (Inv K m.at_ full (base0 full K) roots ⟨[], base0 full K⟩ [] [] 0 0) := Lib.hid (Inv.begin (fun o ho => by
    unfold base0 at ho
    cases full
    · exact hp.sh.o.2 o ho
    · simp at ho))
  have HLe := Lib.hid hle
  clear h hp hr hb0 hle
  refine (callsIn_wide (n := 5)).1 ?_
  refine callsIn_of_wp_marks Tryz.func19 rfl trivial ?_ rfl
  simp only [Tryz.ntmps19, List.size_toArray, List.length_cons, List.length_nil, Nat.reduceAdd, Nat.reduceSub, Array.replicate_succ, Array.replicate_zero, List.push_toArray, List.append_toArray, List.nil_append, List.cons_append]
  refine wpIn_wide.2 ?_
  go_wp2_with fail
  generalize (w.alloc (.cells #[.pointer (some ⟨z, 0, none⟩)] 44)) = W0 at *
  generalize w.heap.size = zb at *
  go_loopw [5, 7, 18] (fun a _ c wr => ∃ (i : Nat) (vY vO vC vT : Value) (S : Bk) (D I : List Int), a = vT ∧ c = .int .i64 i ∧ i ≤ roots.length ∧ Hid (RunAt wr z mp base vY vO vC vF1 vF2 vT m mk full S D I ((roots.take i).map (lk D I)) [(zb, .cells #[.pointer (some ⟨z, 0, none⟩)] 44)]) ∧ Hid (Inv K m.at_ full (base0 full K) roots S D I 0 0) ∧ Hid (∀ r ∈ roots.take i, mov full r = true → r ∈ D) ∧ Hid (Below base w wr)) (fun _ _ c _ => roots.length - (intOf c).toNat)
  case atStart => exact ⟨0, _, _, _, _, _, _, _, rfl, rfl, Nat.zero_le _, HW0, HI0, Lib.hid (fun r hr => by simp at hr), HB0⟩
  case round =>
    clear HW0 HI0 HB0
    obtain ⟨i, vY, vO, vC, vT, S, D, I, rfl, rfl, hi, HW, HIn, HSt, HB⟩ := hrel
    by_cases hlt : i < roots.length
    · have rl : (i : Int) < (roots.length : Int) := by omega
      have rq : decide ((i : Int) < (roots.length : Int)) = true := decide_eq_true rl
      have hrl := HP.out.rl
      obtain ⟨gr, or, e1, hgr, hcr⟩ := RowAt.nth' (HR.out.below HB.out (Nat.le_refl _)) (by omega)
      subst e1
      obtain ⟨r, hri⟩ : ∃ r, roots[i]? = some r := ⟨_, List.getElem?_eq_getElem hlt⟩
      have hcx := hcr i r hri
      obtain ⟨htm, hr0, hr1⟩ := HP.out.rt r (List.mem_of_getElem? hri)
      have HKp := Lib.hid (HP.out.keep HW.out.col HIn.out r hr0 hr1 htm)
      have HKd := Lib.hid (fun S' D' I' (hk : Kept K m.at_ full r S D I S' D' I') => HP.out.kept HIn.out hr0 (fun hm => Rc.root (List.mem_of_getElem? hri) (by
        unfold mov at hm
        cases hp : pOk r
        · rw [hp] at hm; simp at hm
        · rfl)) hk)
      have HTk : Hid (roots.take (i + 1) = roots.take i ++ [r]) := Lib.hid (by
        obtain ⟨hk, he⟩ := List.getElem?_eq_some_iff.1 hri
        rw [List.take_succ_eq_append_getElem hk, he])
      obtain ⟨cb, cbf⟩ := one_cell (HW.out.bx _ (.head _)).1
      clear hcr hri hgr htm
      go_wp2_with fail
      refine HKp.out.mono ?_
      rintro e W1 ⟨vY', vO', vC', S', D', I', rfl, hc1, hs1, hk1⟩
      have HW1 := Lib.hid (HW.out.keep hc1 hs1)
      obtain ⟨hi1, hm1, hd1, hlk1, _, _⟩ := HKd.out _ _ _ hk1
      have HB1 := Lib.hid (HB.out.trans (hs1.base HW.out.col))
      have HI1 := Lib.hid hi1
      have HSt1 : Hid (∀ u ∈ roots.take (i + 1), mov full u = true → u ∈ D') := Lib.hid (fun u hu hm => by
        rw [HTk.out] at hu
        rcases List.mem_append.1 hu with hu | hu
        · exact hd1 u (HSt.out u hu hm)
        · obtain rfl : u = r := by simpa using hu
          exact hm1 hm)
      have HOut : Hid ((roots.take (i + 1)).map (lk D' I') = (roots.take i).map (lk D I) ++ [lk D' I' r]) := Lib.hid (by
        rw [HTk.out, List.map_append, List.map_cons, List.map_nil]
        congr 1
        exact List.map_congr_left (fun u hu => hlk1 u (HSt.out u hu)))
      clear hc1 hs1 hk1 hi1 hm1 hd1 hlk1 HKp HKd HIn HSt cb cbf
      generalize lk D' I' r = r' at *
      have hba := (Below.refl W1.heap.size W1).alloc (Nat.le_refl _) (.cells #[.int .u64 r'] 43)
      have HW2 := Lib.hid (HW1.out.below hba)
      have HB2 := Lib.hid (HB1.out.trans (hba.mono (Nat.le_of_lt HW1.out.col.le)))
      have HBd : Hid (((roots.take i).map (lk D I)).length + [r'].length ≤ 400000) := Lib.hid (by
        have h9 := HP.out.rl
        rw [List.length_map, List.length_take]
        simp
        omega)
      clear hba
      go_wp2_with (at_builtin; refine wpList_append_words rfl (.tmp 22) (.tmp 26) rfl rfl HW2.out.out (Nat.le_of_lt HW2.out.col.le) ⟨W1.heap.size, 0, none⟩ 1 1 [r'] rfl rfl (new_word _ _) HBd.out ?_; intro v' w5 ha; have HW5 := Lib.hid (HW2.out.append ha); have HB5 := Lib.hid (HB2.out.grown ha.grown (Nat.le_of_lt HW2.out.col.le) (fun k hk => (HW2.out.out.ge k hk).1)); clear ha)
      go_roundw
      case rel => exact ⟨i + 1, _, _, _, _, _, _, _, rfl, by go_num, by omega, by rw [HOut.out]; exact HW5, HI1, HSt1, HB5⟩
      case measure => simp [intOf]; omega
    · obtain rfl : i = roots.length := by omega
      have rq : decide (((roots.length : Nat) : Int) < (roots.length : Int)) = false := decide_eq_false (by omega)
      go_wp2_with fail
      refine wp_loop (I := fun a' w' => ∃ (i : Nat) (vY vO vC vT : Value) (S : Bk) (D I : List Int) (Ds : List Nat), Hid (RunAt w' z mp base vY vO vC vF1 vF2 vT m mk full S D I (roots.map (lk D I)) ((zb, .cells #[.pointer (some ⟨z, 0, none⟩)] 44) :: mkB Ds)) ∧ Hid (Inv K m.at_ full (base0 full K) roots S D I i 0) ∧ Hid (∀ r ∈ roots, mov full r = true → r ∈ D) ∧ Hid (Below base w w') ∧ Hid (Ds.Nodup ∧ ∀ k ∈ Ds, base ≤ k ∧ k ≠ zb) ∧ ∃ U : Nat → Value, U 2 = .pointer (some ⟨zb, 0, none⟩) ∧ U 5 = vT ∧ U 8 = .int .i64 i ∧ a' = { tmps := #[U 0, U 1, U 2, U 3, U 4, U 5, U 6, U 7, U 8, U 9, U 10, U 11, U 12, U 13, U 14, U 15, U 16, U 17, U 18, U 19, U 20, U 21, U 22, U 23, U 24, U 25, U 26, U 27, U 28, U 29, U 30, U 31, U 32, U 33, U 34, U 35, U 36, U 37, U 38, U 39, U 40, U 41, U 42, U 43, U 44, U 45, U 46, U 47, U 48, U 49, U 50, U 51, U 52, U 53, U 54, U 55, U 56, U 57, U 58, U 59, U 60, U 61, U 62, U 63, U 64, U 65, U 66, U 67, U 68, U 69, U 70, U 71, U 72, U 73, U 74, U 75, U 76, U 77, U 78, U 79, U 80, U 81, U 82, U 83, U 84], defers := mkD Ds }) (μ := fun a' _ => 5001 - (intOf (a'.tmps.getD 8 undef)).toNat) ?start ?round
      case start =>
        have h1 := HW.out
        rw [List.take_length] at h1
        have h2 := HSt.out
        rw [List.take_length] at h2
        exact ⟨0, _, _, _, _, _, _, _, [], Lib.hid h1, HIn, Lib.hid h2, HB, Lib.hid ⟨List.nodup_nil, fun k h => by simp at h⟩, lit_end rfl rfl rfl rfl⟩
      case round =>
        clear HW HIn HSt HB
        rintro a' wq ⟨i, vY, vO, vC, vT, S, D, I, Ds, HW, HIn, HSt, HB, HDs, U, hU2, hU5, hU8, rfl⟩
        rw [hU2, hU5, hU8]
        clear hU2 hU5 hU8
        obtain ⟨pC, cC, eC⟩ := HW.out.col.rc.shape
        subst eC
        obtain ⟨cb, cbf⟩ := one_cell (HW.out.bx _ (.head _)).1
        have hc8 := (nine_cells HW.out.col.blk).2.2.2.2.2.2.2.2.1
        have hLn := HP.out.lens HIn.out
        by_cases hlt : i < I.length
        · have rq : decide ((i : Int) < (I.length : Int)) = true := decide_eq_true (by omega)
          have rl : (i : Int) < (I.length : Int) := by omega
          obtain ⟨gC, oC, e1, hgC, hcC⟩ := RowAt.nth' HW.out.col.rc.row (by omega)
          subst e1
          obtain ⟨p, hpi⟩ : ∃ p, I[i]? = some p := ⟨_, List.getElem?_eq_getElem hlt⟩
          obtain ⟨d, hdi⟩ : ∃ d, D[i]? = some d := ⟨_, List.getElem?_eq_getElem (by have := HIn.out.len; omega)⟩
          have hcp := hcC i p hpi
          obtain ⟨x', hx', hp0, hpo, hxl, hxh, hxw⟩ := HIn.out.cp i d p hdi hpi
          have hxe : x' = ob K d := by
            refine List.ext_getElem? fun q => ?_
            by_cases hq : q < (ob K d).length
            · rw [hxw q _ (List.getElem?_eq_getElem hq), if_neg (by omega), List.getElem?_eq_getElem hq]
            · rw [List.getElem?_eq_none (by omega), List.getElem?_eq_none (by omega)]
          obtain ⟨⟨xd, hxd⟩, hmd, hd0, hrd⟩ := HIn.out.src d (List.mem_of_getElem? hdi)
          have hobd := hxd.ob HP.out.sh.pos
          have hWx : Wds x' := fun v hv => by
            rw [hxe, hobd] at hv
            have : ∀ c, xd ∈ K.s c → 0 ≤ v ∧ v ≤ 18446744073709551615 := fun c hc => by
              cases c
              · exact HP.out.wy v (by rw [← HP.out.sh.y.1]; exact List.mem_flatten.2 ⟨xd, hc, hv⟩)
              · exact HP.out.wo v (by rw [← HP.out.sh.o.1]; exact List.mem_flatten.2 ⟨xd, hc, hv⟩)
            exact this _ hxd.2.1.mem
          have HWx := Lib.hid hWx
          have HXe := Lib.hid hxe
          have HOk : Hid (okO x' = true) := Lib.hid (by rw [hxe, hobd]; exact (HP.out.sh.ok _ _ _ hxd.2.1).1)
          have HTx : Hid (∀ v ∈ fol x', Tm K v ∧ (mov full v = true → Rc K roots v)) := Lib.hid (fun v hv => by
            rw [hxe] at hv
            have h1 := (HP.out.sh.ok _ _ _ hxd.2.1).2 v (by rw [← hobd]; exact hv)
            refine ⟨h1.1, fun hm => Rc.step hrd hv ?_⟩
            unfold mov at hm
            cases hp : pOk v
            · rw [hp] at hm; simp at hm
            · rfl)
          have hp1 : p ≤ 18446744073709551615 := by
            have := ((pOk_iff p).1 hx'.1).2
            omega
          have HPp := Lib.hid (fun W => Pointer p hp0 hp1 W)
          rw [hx'.1] at HPp
          have hpx : pIx p = ((pIx p).toNat : Int) := by rw [pIx_eq hx'.1]; omega
          rw [hpx] at HPp
          have HX := Lib.hid hx'
          have HXl := Lib.hid hxl
          have HXh := Lib.hid hxh
          have HXw := Lib.hid hxw
          have HPi := Lib.hid hpi
          have HDi := Lib.hid hdi
          obtain ⟨n0, n1, n2, n3, n4, n5, n6, n7, n8, nf⟩ := nine_cells HW.out.col.blk
          clear hcC hgC hx' hp0 hpo hxl hxh hxw hpi hdi hp1 hpx hc8 hxe hWx hobd hxd hmd hd0 hrd
          generalize hbb : pOld p = b at *
          generalize hkk : (pIx p).toNat = k at *
          have HBb := Lib.hid hbb
          have HKk := Lib.hid hkk
          clear hbb hkk
          go_wp2_with fail
          refine (HPp.out _).mono ?_
          rintro e w' ⟨rfl, rfl⟩
          go_wp2_with fail
          have HZ := Lib.hid (RunAt.alloc (RunAt.alloc HW.out (.cells #[.bool b] 4)) (.cells #[.int .i64 k] 3))
          have hBz : Below wq.heap.size wq ((wq.alloc (.cells #[.bool b] 4)).alloc (.cells #[.int .i64 k] 3)) := belowA (belowA (Below.refl _ _) _) _
          have HBz := Lib.hid hBz
          have HBw := Lib.hid (HB.out.trans (hBz.mono (Nat.le_of_lt HW.out.col.le)))
          have HszW : Hid (((wq.alloc (.cells #[.bool b] 4)).alloc (.cells #[.int .i64 k] 3)).heap.size = wq.heap.size + 1 + 1) := Lib.hid (by rw [World.size_alloc, World.size_alloc])
          rw [World.size_alloc] at HZ
          clear hBz HW HB cb cbf n0 n1 n2 n3 n4 n5 n6 n7 n8 nf hcp
          generalize ((wq.alloc (.cells #[.bool b] 4)).alloc (.cells #[.int .i64 k] 3)) = Wa at *
          generalize wq.heap.size = z9 at *
          have HWa : Hid (RunAt Wa z mp base vY vO _ vF1 vF2 vT m mk full S D I (roots.map (lk D I)) ((z9 + 1, .cells #[.int .i64 k] 3) :: (z9, .cells #[.bool b] 4) :: (zb, .cells #[.pointer (some ⟨z, 0, none⟩)] 44) :: mkB Ds)) := Lib.hid (HZ.out.fewer (fun q hq => by
            simp only [List.mem_append, List.mem_cons, List.mem_singleton] at hq ⊢
            rcases hq with h | h | h | h
            · exact .inr (.inl h)
            · exact .inl (.inr (.inl h))
            · exact .inl (.inl (.inl h))
            · exact .inl (.inl (.inr h))))
          have hva : ∀ c : Bool, (if c then vO else vY) = sideV c vY vO := fun c => by cases c <;> rfl
          have hpu := HP.out.lens HIn.out
          obtain ⟨gb, cb, eb, hgb⟩ : ∃ gb cb, sideV b vY vO = .slice (some ⟨gb, 0, none⟩) (S.s b).flatten.length cb ∧ (S.s b).flatten.length ≤ cb := by
            have hs := HWa.out.col.side b
            have hbx := HX.out.2.1.bound
            have hpx := (HIn.out.pos.s _) x' HX.out.2.1.mem
            rw [HBb.out] at hbx
            rcases hs.form with ⟨_, e⟩ | ⟨g, c, e, _, _, hc, _⟩
            · rw [e, List.length_nil] at hbx
              omega
            · exact ⟨g, c, e, hc⟩
          obtain ⟨pY, cY, eY⟩ := HWa.out.col.ry.shape
          obtain ⟨pO, cO, eO⟩ := HWa.out.col.ro.shape
          have hobx : IsObj x' := HIn.out.obj (pOld p) x' HX.out.2.1.mem
          have hat : At (S.s b) k x' := by
            have := HX.out.2.1
            rw [HBb.out, HKk.out] at this
            exact this
          have hbd := hat.bound
          have hxp := hobx.pos
          have hown : WOwn Wa base (.slice (some ⟨gb, 0, none⟩) (S.s b).flatten.length cb) (S.s b).flatten := by rw [← eb]; exact HWa.out.col.side b
          have hcell : ∀ j y, x'[j]? = some y → Wa.cell? ⟨gb, k + j, none⟩ = some (.int .u64 y) := fun j y hj => by
            have h1 := hat.get j (List.getElem?_eq_some_iff.1 hj).1
            rw [hj] at h1
            obtain ⟨h2, rfl⟩ := List.getElem?_eq_some_iff.1 h1
            exact hown.cells h2
          have hglt : gb < Wa.heap.size := own_lt hown rfl
          have hx0 := headD_get hxp
          have hxr : 0 ≤ x'.headD 0 ∧ x'.headD 0 ≤ 18446744073709551615 := HWx.out _ (List.mem_of_getElem? hx0)
          have HOb := Lib.hid (fun W (hb : Below Wa.heap.size Wa W) => object44 W gb 0 (S.s b).flatten.length cb k x' hobx hxr hbd hgb (by cases b; exact Nat.le_trans hpu.1 (by omega); exact Nat.le_trans hpu.2.1 (by omega)) ((hb.cell (p := ⟨gb, 0 + k, none⟩) hglt).trans (by have := hcell 0 _ hx0; rwa [Nat.add_zero, ← Nat.zero_add k] at this)))
          have HAr0 := fun W => area45 W vY vO pY pO S.y.flatten.length cY S.o.flatten.length cO mk b eY eO
          have hifs : (if b then vO else vY) = .slice (some ⟨gb, 0, none⟩) (S.s b).flatten.length cb := by rw [← eb]; cases b <;> rfl
          rw [hifs] at HAr0
          have HAr := Lib.hid HAr0
          have HCw := Lib.hid (fun W (hb : Below Wa.heap.size Wa W) => And.intro (one_cell ((HWa.out.below hb).bx _ (.tail _ (.tail _ (.head _)))).1).1 (And.intro (nine_cells (HWa.out.below hb).col.blk) (And.intro (one_cell ((HWa.out.below hb).bx _ (.tail _ (.head _))).1).1 (one_cell ((HWa.out.below hb).bx _ (.head _)).1).1)))
          have hsrc : Src Wa z mp vY vO (.slice (some ⟨gC, oC, none⟩) I.length cC) vT S b gb k x'.length x' 0 := ⟨hglt, .inl (by rw [eb]; rfl), fun e => HWa.out.outf gb e (ColAt.side_col (J := []) b (by rw [eb]; rfl)), hbd, fun j _ hj => by rw [hcell j _ (List.getElem?_eq_getElem hj), List.getElem?_eq_getElem hj]; rfl⟩
          have HSrc := Lib.hid hsrc
          have HEb := Lib.hid eb
          have hz9 : z9 + 1 < Wa.heap.size := by rw [HszW.out]; omega
          have hzbl : zb < Wa.heap.size := (Array.getElem?_eq_some_iff.1 (HWa.out.bx _ (.tail _ (.tail _ (.head _)))).1).1
          have hzl : z < Wa.heap.size := (Array.getElem?_eq_some_iff.1 HWa.out.col.blk).1
          obtain ⟨q0, ⟨n0, n1, n2, n3, n4, n5, n6, n7, n8, nf⟩, q9, q10⟩ := HCw.out Wa (Below.refl _ _)
          have hbd1 : Below Wa.heap.size Wa Wa.drew := below_drewN (Below.refl _ _) 1
          clear hva hpu hgb eb hobx hat hbd hxp hown hcell hglt hx0 hxr HAr0 hifs hsrc
          subst eY eO
          generalize (S.s b).flatten.length = nB at *
          generalize S.y.flatten.length = nY at *
          generalize S.o.flatten.length = nO at *
          go_cut [12, 13] from 50 to 60 (fun a c wc => ∃ zx, a = .pointer (some ⟨zx, 0, none⟩) ∧ c = .int .i64 (frm x') ∧ Wa.heap.size ≤ zx ∧ Below Wa.heap.size Wa wc ∧ wc.heap[zx]? = some (.cells #[.slice (some ⟨gb, k, none⟩) x'.length (cb - k)] 22))
          case first =>
            go_region_held3 (fun w' => w'.cell? ⟨zb, 0, none⟩ = some (.pointer (some ⟨z, 0, none⟩)) ∧ w'.cell? ⟨z, 0, none⟩ = some (.slice pY nY cY) ∧ w'.cell? ⟨z, 1, none⟩ = some (.slice pO nO cO) ∧ w'.cell? ⟨z, 2, none⟩ = some (.int .i64 mk) ∧ w'.cell? ⟨z9, 0, none⟩ = some (.bool b) ∧ w'.cell? ⟨z9 + 1, 0, none⟩ = some (.int .i64 k) ∧ Below Wa.heap.size Wa w')
              (((refine ⟨?_, ?_, ?_, ?_, ?_, ?_, ?_⟩) <;> (repeat' (first | with_reducible refine keep_alloc ?_ | with_reducible refine keep_drew ?_ | with_reducible refine keep_set ?_ ?_ | with_reducible refine belowA ?_ _ | with_reducible refine belowD ?_ | with_reducible refine Below.setCell ?_ ?_ _ | with_reducible assumption | with_reducible exact Below.refl _ _ | (dsimp only; omega) | (simp; omega)))))
              (first
                | (go_at_call 25; (with_reducible refine (HAr.out _).mono ?_); rintro e3 W5 ⟨rfl, hb3⟩; have hb55 : Below Wa.heap.size Wa W5 := below_call (by ((repeat' (first | with_reducible assumption | with_reducible refine belowD ?_ | with_reducible refine belowA ?_ _ | with_reducible refine Below.setCell ?_ ?_ _ | with_reducible exact Below.refl _ _ | (dsimp only; omega) | (simp; omega))); first | done | fail)) hb3; have hl5 := hb55.size; obtain ⟨s0, ⟨m0, m1, m2, m3, m4, m5, m6, m7, m8, mf⟩, s9, s10⟩ := HCw.out W5 hb55; (first | (have hza : W5.heap[Wa.heap.size]? = some (.cells #[.slice none 0 0] 22) := blk_call hb3 (by ((repeat' (first | with_reducible assumption | with_reducible refine blk_drew ?_ | ((with_reducible refine blk_new ?_) <;> (first | omega | (simp; done) | (simp; omega))) | with_reducible refine blk_alloc ?_ _ | with_reducible refine blk_set ?_ _ | with_reducible refine blk_setO ?_ ?_ _ | omega | (dsimp only; omega) | (simp; done) | (simp; omega))); first | done | fail)); obtain ⟨zca, zfa⟩ := one_cell hza) | skip))
                | (go_at_call 24; (with_reducible refine (HOb.out _ (by ((repeat' (first | with_reducible assumption | with_reducible refine belowD ?_ | with_reducible refine belowA ?_ _ | with_reducible refine Below.setCell ?_ ?_ _ | with_reducible exact Below.refl _ _ | (dsimp only; omega) | (simp; omega))); first | done | fail))).mono ?_); rintro e4 W6 ⟨rfl, rfl⟩))
            all_goals
              go_wp2_with fail
              go_meet
              exact ⟨_, rfl, rfl, (by first | exact Nat.le_refl _ | omega), (by ((repeat' (first | with_reducible assumption | with_reducible refine belowD ?_ | with_reducible refine belowA ?_ _ | with_reducible refine Below.setCell ?_ ?_ _ | with_reducible exact Below.refl _ _ | (dsimp only; omega) | (simp; omega))); first | done | fail)), (by ((repeat' (first | with_reducible assumption | with_reducible refine blk_drew ?_ | ((with_reducible refine blk_new ?_) <;> (first | omega | (simp; done) | (simp; omega))) | with_reducible refine blk_alloc ?_ _ | with_reducible refine blk_set ?_ _ | with_reducible refine blk_setO ?_ ?_ _ | omega | (dsimp only; omega) | (simp; done) | (simp; omega))); first | done | fail))⟩
          case rest =>
            obtain ⟨zx, rfl, rfl, hzx, hbw, hxb⟩ := hcut
            have HWc := Lib.hid (run_leaf HWa.out hbw hxb hzx)
            have HSc := Lib.hid (HSrc.out.below hbw)
            have HBc := Lib.hid (HBw.out.trans (hbw.mono (Nat.le_of_lt HWa.out.col.le)))
            have HF := Lib.hid (followed43 wc (some ⟨gb, k, none⟩) x'.length (cb - k) (frm x'))
            obtain ⟨xc, xcf⟩ := one_cell hxb
            have HzB : Hid (base ≤ zx) := Lib.hid (Nat.le_trans (Nat.le_of_lt HWa.out.col.le) hzx)
            have HNe0 : Hid (∀ q ∈ ((z9 + 1, Obj.cells #[.int .i64 k] 3) :: (z9, .cells #[.bool b] 4) :: (zb, .cells #[.pointer (some ⟨z, 0, none⟩)] 44) :: mkB Ds), q.1 ≠ zx) := Lib.hid (fun q hq => by
              have := (Array.getElem?_eq_some_iff.1 (HWa.out.bx q hq).1).1
              omega)
            clear q0 n0 n1 n2 n3 n4 n5 n6 n7 n8 nf q9 q10 hbd1 hzx hbw hxb HSrc HWa HAr HOb HCw hz9 hzbl hzl
            go_wp2_with fail
            refine HF.out.mono ?_
            rintro e Wf ⟨rfl, hWf⟩
            have HZf := Lib.hid (RunAt.alloc (RunAt.alloc HWc.out (.cells #[.slice (some ⟨gb, k, none⟩) x'.length (cb - k)] 22)) (.cells #[.int .i64 (frm x')] 3))
            rw [← hWf, World.size_alloc] at HZf
            have hbf : Below wc.heap.size wc Wf := by rw [hWf]; exact belowA (belowA (Below.refl _ _) _) _
            have HSf := Lib.hid (HSc.out.below hbf)
            have HBf := Lib.hid (HBc.out.trans (hbf.mono (Nat.le_of_lt HWc.out.col.le)))
            have HszF : Hid (Wf.heap.size = wc.heap.size + 1 + 1) := Lib.hid (by rw [hWf, World.size_alloc, World.size_alloc])
            have HxL : Hid (zx < wc.heap.size ∧ z9 + 1 < wc.heap.size ∧ zb < wc.heap.size) := Lib.hid ⟨(Array.getElem?_eq_some_iff.1 (HWc.out.bx _ (.head _)).1).1, (Array.getElem?_eq_some_iff.1 (HWc.out.bx _ (.tail _ (.head _))).1).1, (Array.getElem?_eq_some_iff.1 (HWc.out.bx _ (.tail _ (.tail _ (.tail _ (.head _))))).1).1⟩
            clear hWf hbf xc xcf HWc HSc HBc HF
            generalize wc.heap.size = zl at *
            go_wp2_with fail
            have HRf : Hid (RunAt Wf z mp base _ _ _ vF1 vF2 vT m mk full S D I (roots.map (lk D I)) ((zx, .cells #[.slice (some ⟨gb, k, none⟩) x'.length (cb - k)] 22) :: (zl + 1, .cells #[.int .i64 (frm x')] 3) :: (zl, .cells #[.slice (some ⟨gb, k, none⟩) x'.length (cb - k)] 22) :: (z9 + 1, .cells #[.int .i64 k] 3) :: (z9, .cells #[.bool b] 4) :: (zb, .cells #[.pointer (some ⟨z, 0, none⟩)] 44) :: mkB Ds)) := Lib.hid (HZf.out.fewer (fun q hq => by
              simp only [List.mem_append, List.mem_cons, List.mem_singleton] at hq ⊢
              rcases hq with h | h | h | h | h | h | h
              · exact .inl (.inl (.inl h))
              · exact .inr (.inl h)
              · exact .inl (.inr (.inl h))
              · exact .inl (.inl (.inr (.inl h)))
              · exact .inl (.inl (.inr (.inr (.inl h))))
              · exact .inl (.inl (.inr (.inr (.inr (.inl h)))))
              · exact .inl (.inl (.inr (.inr (.inr (.inr h)))))))
            have hfle : frm x' ≤ x'.length := frm_le (HIn.out.obj _ x' HX.out.2.1.mem) HOk.out
            have hxl2 : x'.length ≤ 200000 := by
              have h1 := HX.out.2.1.bound
              have h2 := HP.out.lens HIn.out
              have : ∀ c n, n + x'.length ≤ (S.s c).flatten.length → x'.length ≤ 200000 := fun c n h => by
                cases c
                · have h3 : n + x'.length ≤ S.y.flatten.length := h
                  omega
                · have h3 : n + x'.length ≤ S.o.flatten.length := h
                  omega
              exact this _ _ h1
            have HSt0 := Lib.hid (HIn.out.start HDi.out)
            have hfx : frm (ob K d) = frm x' := by rw [HXe.out]
            rw [hfx] at HSt0
            have HFx := Lib.hid hfx
            clear hfx
            refine (wpIn_wide (n := 5)).1 ?_
            refine range_seq rfl (by decide) (gf := 47) (lb := #[.pointer (some ⟨zl + 1, 0, none⟩), .pointer (some ⟨zl, 0, none⟩)]) rfl trivial (enters_of Tryz.func47 (by kernel_rfl) rfl) (followed75 4 (zl + 1) zl gb k x'.length (cb - k) (frm x') (by decide) x' hfle hxl2) (fun _ _ => trivial) (fun _ _ _ _ _ _ => trivial) (fun i => rfl)
              (InRun w z mp base zx gb k i vF1 vF2 vT m mk full b K roots (roots.map (lk D I)) x' d p ((zl + 1, .cells #[.int .i64 (frm x')] 3) :: (zl, .cells #[.slice (some ⟨gb, k, none⟩) x'.length (cb - k)] 22) :: (z9 + 1, .cells #[.int .i64 k] 3) :: (z9, .cells #[.bool b] 4) :: (zb, .cells #[.pointer (some ⟨z, 0, none⟩)] 44) :: mkB Ds)) (fun _ _ _ => False) (InRun.own_from (fun q hq => (Array.getElem?_eq_some_iff.1 (HRf.out.bx q (List.mem_cons_of_mem _ hq)).1).1) HRf.out.col.fw.lt (Nat.le_of_lt HRf.out.col.le)) (fun _ _ _ _ _ h _ _ => h)
              ?rd ⟨_, _, _, S, D, I, _, _, _, HRf.out, HSt0.out, HSf.out.later (Nat.zero_le _), HDi.out, HPi.out, HSt.out, rfl, HBf.out⟩ ?round ?done (fun _ _ _ _ _ h _ => h.elim)
            case rd =>
              rintro q V ⟨vY, vO, vC, S, D, I, pv, nv, cv, h1, h2, h3, _⟩
              exact ⟨(one_cell (h1.bx _ (.tail _ (.head _))).1).1, (one_cell (h1.bx _ (.tail _ (.tail _ (.head _)))).1).1, h3.ws⟩
            case round =>
              intro l q W V hI hq
              obtain ⟨vY1, vO1, vC1, S1, D1, I1, pv, nv, cv, hR, hIn, hSr, hD, hPi, hSt, hOut, hBl⟩ := hI
              have hv : x'[frm x' + q]? = some (x'[frm x' + q]?.getD 0) := by rw [List.getElem?_eq_getElem (by omega)]; rfl
              unfold folEnc
              generalize x'[frm x' + q]?.getD 0 = v at hv ⊢
              have hvf : v ∈ fol x' := by
                unfold fol
                exact List.mem_of_getElem? (show (x'.drop (frm x'))[q]? = some v by rw [List.getElem?_drop]; exact hv)
              obtain ⟨htm, hrc⟩ := HTx.out v hvf
              have hvw := HWx.out v (List.mem_of_getElem? hv)
              have HKp := Lib.hid (HP.out.keep hR.col hIn v hvw.1 hvw.2 htm)
              have HKd := Lib.hid (fun S' D' I' (hk : Kept K m.at_ full v S1 D1 I1 S' D' I') => HP.out.kept hIn hvw.1 hrc hk)
              have hmB : mp < Wf.heap.size := HRf.out.col.fw.lt
              have hgx : gb ≠ zx := fun e => by
                have h1 := hSr.ws (frm x' + q) (Nat.le_refl _) (by omega)
                have h2 := (hR.bx _ (.head _)).1
                have h2 : V.heap[zx]? = some (.cells #[.slice pv nv cv] 22) := h2
                rw [e] at h1
                simp only [World.cell?, h2] at h1
                rcases hj : k + (frm x' + q) with _ | j
                · rw [hj] at h1; simp at h1
                · rw [hj] at h1; simp at h1
              obtain ⟨qb, qbf⟩ := one_cell (hR.bx (zb, _) (.tail _ (.tail _ (.tail _ (.tail _ (.tail _ (.head _))))))).1
              have HA : Hid (RunAt V z mp base vY1 vO1 vC1 vF1 vF2 vT m mk full S1 D1 I1 (roots.map (lk D I)) ((zx, .cells #[.slice pv nv cv] 22) :: (zl + 1, .cells #[.int .i64 (frm x')] 3) :: (zl, .cells #[.slice (some ⟨gb, k, none⟩) x'.length (cb - k)] 22) :: (z9 + 1, .cells #[.int .i64 k] 3) :: (z9, .cells #[.bool b] 4) :: (zb, .cells #[.pointer (some ⟨z, 0, none⟩)] 44) :: mkB Ds) ∧ Src V z mp vY1 vO1 vC1 vT S1 b gb k x'.length x' (frm x' + q) ∧ D1[i]? = some d ∧ I1[i]? = some p ∧ (∀ r ∈ roots, mov full r = true → r ∈ D1) ∧ roots.map (lk D1 I1) = roots.map (lk D I) ∧ Below base w V ∧ x'[frm x' + q]? = some v ∧ Tm K v ∧ (0 ≤ v ∧ v ≤ 18446744073709551615) ∧ gb ≠ zx ∧ mp < Wf.heap.size) := Lib.hid ⟨hR, hSr, hD, hPi, hSt, hOut, hBl, hv, htm, hvw, hgx, hmB⟩
              clear hR hIn hSr hD hPi hSt hOut hBl hv hvf htm hrc hvw hmB hgx
              have hn1 : 1 ≤ 5 - 1 - 1 := by decide
              gi_wp2
              refine ⟨trivial, ?_⟩
              refine (CallsIn.inRound l (callsIn_wide.2 HKp.out)).mono ?_
              rintro e V1 ⟨vY', vO', vC', S', D', I', rfl, hc1, hs1, hk1⟩
              obtain ⟨hi1, hm1, hd1, hlk1, ⟨tD, eD⟩, ⟨tI, eI⟩⟩ := HKd.out _ _ _ hk1
              obtain ⟨hR, hSr, hD, hPi, hSt, hOut, hBl, hv, htm, hvw, hgx, hmB⟩ := HA.out
              have hR1 := hR.keep hc1 hs1
              have hS1 := hSr.keep hR.col hs1
              have hD1 : D'[i]? = some d := by rw [eD, List.getElem?_append_left (List.getElem?_eq_some_iff.1 hD).1]; exact hD
              have hP1 : I'[i]? = some p := by rw [eI, List.getElem?_append_left (List.getElem?_eq_some_iff.1 hPi).1]; exact hPi
              have hSt1 : ∀ r ∈ roots, mov full r = true → r ∈ D' := fun r hr hm => hd1 r (hSt r hr hm)
              have hOut1 : roots.map (lk D' I') = roots.map (lk D I) := (List.map_congr_left (fun r hr => hlk1 r (hSt r hr))).trans hOut
              have hB1 := hBl.trans (hs1.base hR.col)
              have hKf := ColS.from (B := Wf.heap.size) hR.col hs1 hmB
              have hlU := hi1.lk_bd hvw
              have hlT := hi1.lk_tag (tm_tag htm)
              obtain ⟨x2, g1, g2, g3, g4, g5, g6⟩ := hi1.cp i d p hD1 hP1
              have hlx : x2.length = x'.length := by rw [g4, ← HXe.out]
              have hat : At (S'.s b) k x2 := by
                have := g1.2.1
                rw [HBb.out, HKk.out] at this
                exact this
              have hob2 : IsObj x2 := hi1.obj b x2 hat.mem
              have hbd := hat.bound
              have hx0 : x2[0]? = some (x2.headD 0) := headD_get hob2.pos
              have hxr : 0 ≤ x2.headD 0 ∧ x2.headD 0 ≤ 18446744073709551615 := by
                obtain ⟨y, hy⟩ : ∃ y, (ob K d)[0]? = some y := ⟨_, List.getElem?_eq_getElem (by rw [← g4]; exact hob2.pos)⟩
                have h1 := g6 0 y hy
                rw [hx0] at h1
                rw [← HXe.out] at hy
                have h2 := HWx.out y (List.mem_of_getElem? hy)
                rw [Option.some.inj h1]
                split
                · exact hi1.lk_bd h2
                · exact h2
              have hpu := HP.out.lens hi1
              obtain ⟨pY, cY, eY⟩ := hc1.ry.shape
              obtain ⟨pO, cO, eO⟩ := hc1.ro.shape
              obtain ⟨gn, cn, eb, hgb⟩ : ∃ gb cb, sideV b vY' vO' = .slice (some ⟨gb, 0, none⟩) (S'.s b).flatten.length cb ∧ (S'.s b).flatten.length ≤ cb := by
                have hs := hc1.side b
                rcases hs.form with ⟨_, e⟩ | ⟨g, c, e, _, _, hc, _⟩
                · have := hob2.pos
                  rw [e, List.length_nil] at hbd
                  omega
                · exact ⟨g, c, e, hc⟩
              have hown : WOwn V1 base (.slice (some ⟨gn, 0, none⟩) (S'.s b).flatten.length cn) (S'.s b).flatten := by rw [← eb]; exact hc1.side b
              have hcell : V1.cell? ⟨gn, k, none⟩ = some (.int .u64 (x2.headD 0)) := by
                have h1 := hat.get 0 hob2.pos
                rw [hx0] at h1
                obtain ⟨h2, h3⟩ := List.getElem?_eq_some_iff.1 h1
                have h4 := hown.cells h2
                rw [h3] at h4
                exact h4
              have hglt : gn < V1.heap.size := own_lt hown rfl
              have HOb := Lib.hid (fun W (hb : Below V1.heap.size V1 W) => object44 W gn 0 (S'.s b).flatten.length cn k x2 hob2 hxr hbd hgb (by cases b; exact Nat.le_trans hpu.1 (by omega); exact Nat.le_trans hpu.2.1 (by omega)) ((hb.cell (p := ⟨gn, 0 + k, none⟩) hglt).trans (by rw [Nat.zero_add]; exact hcell)))
              have HAr0 := fun W => area45 W vY' vO' pY pO S'.y.flatten.length cY S'.o.flatten.length cO mk b eY eO
              have hifs : (if b then vO' else vY') = .slice (some ⟨gn, 0, none⟩) (S'.s b).flatten.length cn := by rw [← eb]; cases b <;> rfl
              rw [hifs] at HAr0
              have HAr := Lib.hid HAr0
              have HEnd : Hid (∀ V2 V4, Below V1.heap.size V1 V2 → V4 = (V2.setCell ⟨zx, 0, none⟩ (.slice (some ⟨gn, k, none⟩) x2.length (cn - k))).setCell ⟨gn, k + (frm x' + q), none⟩ (.int .u64 (lk D' I' v)) → KeepsFrom Wf.heap.size V V4 ∧ True ∧ InRun w z mp base zx gb k i vF1 vF2 vT m mk full b K roots (roots.map (lk D I)) x' d p ((zl + 1, .cells #[.int .i64 (frm x')] 3) :: (zl, .cells #[.slice (some ⟨gb, k, none⟩) x'.length (cb - k)] 22) :: (z9 + 1, .cells #[.int .i64 k] 3) :: (z9, .cells #[.bool b] 4) :: (zb, .cells #[.pointer (some ⟨z, 0, none⟩)] 44) :: mkB Ds) (q + 1) V4) := Lib.hid (by
                rintro V2 V4 hb rfl
                have hR2 := hR1.below hb
                have hS2 := hS1.below hb
                have hne : ∀ r ∈ ((zl + 1, Obj.cells #[.int .i64 (frm x')] 3) :: (zl, .cells #[.slice (some ⟨gb, k, none⟩) x'.length (cb - k)] 22) :: (z9 + 1, .cells #[.int .i64 k] 3) :: (z9, .cells #[.bool b] 4) :: (zb, .cells #[.pointer (some ⟨z, 0, none⟩)] 44) :: mkB Ds), r.1 ≠ zx := fun r hr => by
                  have hzl := HxL.out.1
                  rcases List.mem_cons.1 hr with rfl | hr
                  · exact fun e => by have e : zl + 1 = zx := e; omega
                  · rcases List.mem_cons.1 hr with rfl | hr
                    · exact fun e => by have e : zl = zx := e; omega
                    · exact HNe0.out r hr
                have hR3 := hR2.set hne HzB.out (.slice (some ⟨gn, k, none⟩) x2.length (cn - k))
                have hS3 := hS2.same (V' := V2.setCell ⟨zx, 0, none⟩ (.slice (some ⟨gn, k, none⟩) x2.length (cn - k))) (Nat.le_of_eq (by simp)) (setC_same V2 zx 0 _ hgx)
                have hfl := up_flat hi1.pos b hat (by rw [hlx]; exact (List.getElem?_eq_some_iff.1 hv).1) (lk D' I' v)
                have hR4 := hR3.stored b eb (k + (frm x' + q)) (lk D' I' v) hfl.1 hfl.2
                have hS4 := Src.stored hR3.col hS3 eb (frm x' + q) (Nat.le_refl _) (List.getElem?_eq_some_iff.1 hv).1 (lk D' I' v) (S' := S'.up b k (frm x' + q) (lk D' I' v)) (by
                  cases b
                  · show (S'.up false k (frm x' + q) (lk D' I' v)).y.flatten.length = S'.y.flatten.length
                    rw [hfl.1]; simp
                  · show (S'.up true k (frm x' + q) (lk D' I' v)).o.flatten.length = S'.o.flatten.length
                    rw [hfl.2]; simp)
                have hI4 := hi1.store HP.out.sh.pos hD1 hP1 (by rw [HFx.out]; exact Nat.le_add_right _ _) (by rw [← HXe.out]; exact hv) hm1 hlT
                rw [HBb.out, HKk.out] at hI4
                have hgb2 : base ≤ gn := (hown.ge gn rfl).1
                refine ⟨hKf.trans ((keepsFrom_below hb).trans (((KeepsOthers.setCell _ _ _).from _).trans ((KeepsOthers.setCell _ _ _).from _))), trivial, vY', vO', vC', _, D', I', _, _, _, hR4, hI4, hS4, hD1, hP1, hSt1, hOut1, ?_⟩
                exact ((hB1.trans (hb.mono (Nat.le_of_lt hR1.col.le))).setCell HzB.out _).setCell hgb2 _)
              have hneS : ∀ r ∈ ((zl + 1, Obj.cells #[.int .i64 (frm x')] 3) :: (zl, .cells #[.slice (some ⟨gb, k, none⟩) x'.length (cb - k)] 22) :: (z9 + 1, .cells #[.int .i64 k] 3) :: (z9, .cells #[.bool b] 4) :: (zb, .cells #[.pointer (some ⟨z, 0, none⟩)] 44) :: mkB Ds), r.1 ≠ zx := fun r hr => by
                have hzl := HxL.out.1
                rcases List.mem_cons.1 hr with rfl | hr
                · exact fun e => by have e : zl + 1 = zx := e; omega
                · rcases List.mem_cons.1 hr with rfl | hr
                  · exact fun e => by have e : zl = zx := e; omega
                  · exact HNe0.out r hr
              have HSto : Hid (∀ V2, Below V1.heap.size V1 V2 → (V2.setCell ⟨zx, 0, none⟩ (.slice (some ⟨gn, k, none⟩) x2.length (cn - k))).cell? ⟨zx, 0, none⟩ = some (.slice (some ⟨gn, k, none⟩) x2.length (cn - k)) ∧ (V2.setCell ⟨zx, 0, none⟩ (.slice (some ⟨gn, k, none⟩) x2.length (cn - k))).frozen? ⟨zx, 0, none⟩ = false ∧ (∃ y, (V2.setCell ⟨zx, 0, none⟩ (.slice (some ⟨gn, k, none⟩) x2.length (cn - k))).cell? ⟨gn, k + (frm x' + q), none⟩ = some y) ∧ ∀ o, (V2.setCell ⟨zx, 0, none⟩ (.slice (some ⟨gn, k, none⟩) x2.length (cn - k))).frozen? ⟨gn, o, none⟩ = false) := Lib.hid (fun V2 hb => by
                have hR3 := (hR1.below hb).set hneS HzB.out (.slice (some ⟨gn, k, none⟩) x2.length (cn - k))
                obtain ⟨h1, h2⟩ := one_cell (hR3.bx _ (.head _)).1
                have hs := hR3.col.side b
                rw [eb] at hs
                have hl : k + (frm x' + q) < (S'.s b).flatten.length := by
                  have := (List.getElem?_eq_some_iff.1 hv).1
                  omega
                refine ⟨h1, h2 0, ⟨_, hs.cells hl⟩, fun o => ?_⟩
                rcases hs.2 with ⟨e, _⟩ | ⟨g, cap, cur, e, _, hc, _⟩
                · cases e
                · cases e
                  simp [World.frozen?, hc])
              have HCw := Lib.hid (fun W (hb : Below V1.heap.size V1 W) => And.intro (one_cell ((hR1.below hb).bx (zb, _) (.tail _ (.tail _ (.tail _ (.tail _ (.tail _ (.head _))))))).1).1 (And.intro (nine_cells (hR1.below hb).col.blk) (And.intro (one_cell ((hR1.below hb).bx (z9, _) (.tail _ (.tail _ (.tail _ (.tail _ (.head _)))))).1).1 (And.intro (one_cell ((hR1.below hb).bx (z9 + 1, _) (.tail _ (.tail _ (.tail _ (.head _))))).1).1 (one_cell ((hR1.below hb).bx (zx, _) (.head _)).1)))))
              have hidx : frm x' + q < x2.length := by rw [hlx]; exact (List.getElem?_eq_some_iff.1 hv).1
              obtain ⟨q0, ⟨n0, n1, n2, n3, n4, n5, n6, n7, n8, nf⟩, q9, q10, qx, qxf⟩ := HCw.out V1 (Below.refl _ _)
              clear hR hSr hD hPi hSt hOut hBl hv htm hvw hgx hmB hR1 hS1 hD1 hP1 hSt1 hOut1 hB1 hKf hlU hlT g1 g2 g3 g4 g5 g6 hlx hat hob2 hbd hx0 hxr hpu eb hgb hown hcell hglt HAr0 hifs hi1 hm1 hd1 hlk1 eD eI hc1 hs1 hk1 HKp HKd
              subst eY eO
              generalize (S'.s b).flatten.length = mB at *
              generalize S'.y.flatten.length = mY at *
              generalize S'.o.flatten.length = mO at *
              gi_wp2
              have hmix : Tryz.prog.follows .mixedOrders = true := by kernel_rfl
              have hbb : Below V1.heap.size V1 V1.drew := below_drewN (Below.refl _ _) 1
              gi_cut [] from 69 (fun wc => ∃ V2, Below V1.heap.size V1 V2 ∧ wc = V2.setCell ⟨zx, 0, none⟩ (.slice (some ⟨gn, k, none⟩) x2.length (cn - k)))
              case first =>
                gi_region_with_o (first
                  | (refine ⟨trivial, ?_⟩; gi_at_call 25; refine (CallsIn.inRound l (callsIn_wide.2 (HAr.out _))).mono ?_; rintro e3 W5 ⟨rfl, hb3⟩; have hb55 : Below V1.heap.size V1 W5 := below_call (by ((repeat' (first | with_reducible assumption | with_reducible refine belowD ?_ | with_reducible refine belowA ?_ _ | with_reducible refine Below.setCell ?_ ?_ _ | with_reducible exact Below.refl _ _ | (dsimp only; omega) | (simp; omega))); first | done | fail)) hb3; obtain ⟨s0, ⟨m0, m1, m2, m3, m4, m5, m6, m7, m8, mf⟩, s9, s10, sx, sxf⟩ := HCw.out W5 hb55)
                  | (refine ⟨trivial, ?_⟩; gi_at_call 24; refine (CallsIn.inRound l (callsIn_wide.2 (HOb.out _ (by ((repeat' (first | with_reducible assumption | with_reducible refine belowD ?_ | with_reducible refine belowA ?_ _ | with_reducible refine Below.setCell ?_ ?_ _ | with_reducible exact Below.refl _ _ | (dsimp only; omega) | (simp; omega))); first | done | fail))))).mono ?_; rintro e4 W6 ⟨rfl, rfl⟩))
                all_goals
                  gi_wp2_with fail
                  gi_meet
                  exact ⟨_, (by ((repeat' (first | with_reducible assumption | with_reducible refine belowD ?_ | with_reducible refine belowA ?_ _ | with_reducible refine Below.setCell ?_ ?_ _ | with_reducible exact Below.refl _ _ | (dsimp only; omega) | (simp; omega))); first | done | fail)), rfl⟩
              case rest =>
                obtain ⟨V2, hb2, rfl⟩ := hcut
                obtain ⟨e1, e2, ⟨y3, e3⟩, e4⟩ := HSto.out V2 hb2
                clear q0 n0 n1 n2 n3 n4 n5 n6 n7 n8 nf q9 q10 qx qxf hbb HAr HOb HCw HSto HA
                have r1 : (0 : Int) ≤ (frm x' : Int) + (q : Int) := by omega
                have r2 : (frm x' : Int) + (q : Int) < (x2.length : Int) := by omega
                have r3 : ((frm x' : Int) + (q : Int)).toNat = frm x' + q := by omega
                gi_wp2
                exact HEnd.out _ _ hb2 rfl
            case done =>
              rintro Dm W hD ⟨vY', vO', vC', S', D', I', pv, nv, cv, h1, h2, h3, h4, h5, h6, h7, h8⟩ hK
              have hn := h2.next h4 (by rw [← HXe.out]; omega)
              have h9 := (h1.fewer (bx' := (zb, .cells #[.pointer (some ⟨z, 0, none⟩)] 44) :: mkB Ds) (fun q hq => by
                rcases List.mem_cons.1 hq with rfl | hq
                · exact .tail _ (.tail _ (.tail _ (.tail _ (.tail _ (.head _)))))
                · exact .tail _ (.tail _ (.tail _ (.tail _ (.tail _ (.tail _ hq))))))).mark hK (Nat.lt_of_lt_of_le HRf.out.col.fw.lt hD)
              have hall : ∀ j ∈ Ds, j < Wf.heap.size := fun j hj => (Array.getElem?_eq_some_iff.1 (HRf.out.bx (j, .deferred (some [])) (.tail _ (.tail _ (.tail _ (.tail _ (.tail _ (.tail _ (mkB_mem hj)))))))).1).1
              have hzbw := (Array.getElem?_eq_some_iff.1 (HRf.out.bx (zb, _) (.tail _ (.tail _ (.tail _ (.tail _ (.tail _ (.head _))))))).1).1
              have HEnd : Hid (RunAt W z mp base vY' vO' vC' vF1 vF2 vT m mk full S' D' I' (roots.map (lk D' I')) ((zb, .cells #[.pointer (some ⟨z, 0, none⟩)] 44) :: mkB (Dm :: Ds)) ∧ Inv K m.at_ full (base0 full K) roots S' D' I' (i + 1) 0 ∧ (∀ r ∈ roots, mov full r = true → r ∈ D') ∧ Below base w W ∧ ((Dm :: Ds).Nodup ∧ ∀ k ∈ Dm :: Ds, base ≤ k ∧ k ≠ zb)) := by
                refine Lib.hid ⟨?_, hn, h6, h8, List.nodup_cons.2 ⟨fun hj => by have := hall Dm hj; omega, HDs.out.1⟩, fun j hj => ?_⟩
                · rw [h7]
                  exact h9.fewer (fun q hq => by
                    rcases List.mem_cons.1 hq with rfl | hq
                    · exact .tail _ (.head _)
                    · rcases List.mem_cons.1 hq with rfl | hq
                      · exact .head _
                      · exact .tail _ (.tail _ hq))
                · rcases List.mem_cons.1 hj with rfl | hj
                  · exact ⟨Nat.le_trans (Nat.le_of_lt HRf.out.col.le) hD, by omega⟩
                  · exact HDs.out.2 j hj
              have hi5 : i < 5000 := Nat.lt_of_lt_of_le hlt hLn.2.2.1
              clear h1 h2 h3 h4 h5 h6 h7 h8 hK hn h9 hall hzbw
              go_wp2_with fail
              exact ⟨⟨i + 1, _, _, _, _, _, _, _, Dm :: Ds, Lib.hid HEnd.out.1, Lib.hid HEnd.out.2.1, Lib.hid HEnd.out.2.2.1, Lib.hid HEnd.out.2.2.2.1, Lib.hid HEnd.out.2.2.2.2, lit_end rfl rfl rfl (by go_num)⟩, by simp [intOf]; omega⟩
        · have rq : decide ((i : Int) < (I.length : Int)) = false := decide_eq_false (by omega)
          have hix := HIn.out.ix.1
          have hil := HIn.out.len
          have hid : i = D.length := by omega
          have hie : Inv K m.at_ full (base0 full K) roots S D I D.length 0 := by rw [← hid]; exact HIn.out
          have HE := Lib.hid (And.intro HW.out (And.intro HDs.out (And.intro HB.out (And.intro hie HSt.out))))
          clear hid hie
          clear HW HDs HB HIn HSt hix hil
          go_wp2_with fail
          refine leaves_marks (Q := fun Ds V => RunAt V z mp base vY vO (.slice pC I.length cC) vF1 vF2 vT m mk full S D I (roots.map (lk D I)) (mkB Ds) ∧ Ds.Nodup ∧ (∀ k ∈ Ds, base ≤ k) ∧ Below base w V) ?_ ?_ Ds wq ⟨HE.out.1.fewer (fun p hp => List.mem_cons_of_mem _ hp), HE.out.2.1.1, fun k hk => (HE.out.2.1.2 k hk).1, HE.out.2.2.1⟩
          · rintro k Ds V ⟨h1, h2, h3, h4⟩
            have hk := (h1.bx _ (.head _)).1
            have hbk := h3 k List.mem_cons_self
            refine ⟨hk, h1.put (fun p hp => ?_) hbk, (List.nodup_cons.1 h2).2, fun j hj => h3 j (List.mem_cons_of_mem _ hj), h4.grown (grownBy_putObj' V k _) (Nat.le_of_lt h1.col.le) (fun r e => by cases e; exact hbk)⟩
            obtain ⟨j, hj, rfl⟩ := List.mem_map.1 hp
            exact fun e => (List.nodup_cons.1 h2).1 (e ▸ hj)
          · rintro V ⟨h1, _, _, h4⟩
            exact ⟨_, results_tmp rfl _ _ _, _, _, _, vT, _, _, _, rfl, h1, HE.out.2.2.2.1, HE.out.2.2.2.2, h4⟩
end Go.Proofs.YtegffanlehaloaaGreat.cl
