/- Several texts in one, one behind the other: CqP, CqQ, CqR, CqV, CqW, CqX, CrB, CrC, CsP, CuA, CqS, CqT. No condition beyond theirs. -/
import Derived.Test.YtegffanlehaloaaGreatGu
import Derived.Test.YtegffanlehaloaaGreatGt
import Derived.Lib.SliceRun
import Derived.Deep.Onto
import Derived.Test.YtegffanlehaloaaGreatGm
import Derived.Test.YtegffanlehaloaaGreatGb
import Derived.ChangeSlices
import Derived.Lib.SmallJoins
import Derived.OpenShut
import Derived.Test.YtegffanlehaloaaGreatGn
import Derived.Deep.LoopGhost

/- Clone, result, Full. Conditions: the areas and roots lie in memory. -/
namespace Go.Proofs.YtegffanlehaloaaGreat.cl
open Go.RowKit mem words
set_option linter.unusedVariables false
set_option linter.unusedSimpArgs false
set_option maxHeartbeats 4000000
set_option maxRecDepth 100000

theorem results_cell3 {fn : Func} {p u v : Tmp} {ty : TypeId} (h : fn.results = #[.cell p ty, .tmp u, .tmp v]) (tmps : Array Value) (P : Program) (w : World) :
    (results fn tmps).run P w = ((asAddr (tmps.getD p undef)).run P w).andThen fun a w₁ => ((loadVar ty a).run P w₁).andThen fun x w₂ => .ok (.tuple #[x, tmps.getD u undef, tmps.getD v undef]) w₂ := by
  simp only [results, h]
  simp [Sem.run_bind, Result.andThen]
theorem result29 (w : World) (z : Nat) (vY vO vC vF1 vF2 : Value) (mk at_ : Int) (full : Bool) (mp : Value) (p : Option Addr) (n c : Nat) (h : w.heap[z]? = some (.cells #[vY, vO, .int .i64 mk, vF1, vF2, .int .i64 at_, .bool full, mp, vC] 48)) (pY pO : Option Addr) (nY cY nO cO : Nat) (eY : vY = .slice pY nY cY) (eO : vO = .slice pO nO cO) :
    Calls Tryz.prog 20 #[.pointer (some ⟨z, 0, none⟩), .slice p n c] w fun e w' => e = .returned (.tuple #[.agg #[vY, vO, .int .i64 mk], .slice p n c, .int .i64 0]) ∧ Below w.heap.size w w' := by
  have hz : z < w.heap.size := (Array.getElem?_eq_some_iff.1 h).1
  have HW := Lib.hid (fun W (hb : Below w.heap.size w W) => nine_cells ((hb.block z hz).trans h))
  obtain ⟨n0, n1, n2, n3, n4, n5, n6, n7, n8, nf⟩ := nine_cells h
  have hne : z ≠ w.heap.size := Nat.ne_of_lt hz
  clear h
  subst eY eO
  go_enter Tryz.func20, Tryz.ntmps20
  go_wp2_with fail
  (try simp only [Exit.inBlock, Exit.then])
  have HB : Hid (Below w.heap.size w (w.alloc (.cells #[.slice pY nY cY, .slice pO nO cO, .int .i64 mk] 24))) := Lib.hid ((Below.refl _ _).alloc (Nat.le_refl _) _)
  refine bodyPost_ret (v := .tuple #[.agg #[.slice pY nY cY, .slice pO nO cO, .int .i64 mk], .slice p n c, .int .i64 0]) ?_ rfl ⟨rfl, HB.out⟩
  rw [results_cell3 rfl]
  go_simp

/-- what Full gives -/
def FullP (m : Mm) (roots : List Int) (w : World) (e : Ending) (w' : World) : Prop :=
  Below w.heap.size w w' ∧ (((∃ K, Sh m K ∧ ∀ v ∈ roots, Tm K v) ∧ ∃ base vY vO vT K S D I, w.heap.size ≤ base ∧ e = .returned (.tuple #[.agg #[vY, vO, .int .i64 0], vT, .int .i64 0]) ∧ WOwn w' base vY S.y.flatten ∧ WOwn w' base vO S.o.flatten ∧ WOwn w' base vT (roots.map (lk D I)) ∧ (∀ k, vY.ownBlock = some k → vO.ownBlock ≠ some k ∧ vT.ownBlock ≠ some k) ∧ (∀ k, vO.ownBlock = some k → vT.ownBlock ≠ some k) ∧ RunPre m K roots ∧ Inv K m.at_ true [] roots S D I D.length 0 ∧ (∀ r ∈ roots, mov true r = true → r ∈ D)) ∨
    ((¬ ∃ K, Sh m K ∧ ∀ v ∈ roots, Tm K v) ∧ e = .returned (.tuple #[.agg #[.slice none 0 0, .slice none 0 0, .int .i64 0], .slice none 0 0, .int .i64 6])))
theorem own_shape {w : World} {base : Nat} {v : Value} {l : List Int} (h : WOwn w base v l) : ∃ p n c, v = .slice p n c := by
  obtain ⟨p, c, e⟩ := h.shape
  exact ⟨p, _, c, e⟩
theorem full10 (w : World) (B : Nat) (v1 v2 : Value) (pr : Option Addr) (cr : Nat) (m : Mm) (roots : List Int) (hB : B ≤ w.heap.size) (h1 : WAt w B v1 m.y) (h2 : WAt w B v2 m.o) (w1 : Wds m.y) (w2 : Wds m.o) (lt : m.y.length + m.o.length ≤ 5000) (hr : WAt w B (.slice pr roots.length cr) roots) (wr : Wds roots) (lr : roots.length ≤ 100000) :
    Calls Tryz.prog 9 #[.agg #[v1, v2, .int .i64 m.at_], .slice pr roots.length cr] w (FullP m roots w) := by
  have HFt := Lib.hid (fun W (hb : Below w.heap.size w W) => fits28 W B v1 v2 (.slice pr roots.length cr) m roots (Nat.le_trans hB hb.size) (h1.below hb hB) (h2.below hb hB) w1 w2 (by omega) (by omega) (hr.below hb hB) wr lr)
  obtain ⟨p1, c1, e1, _⟩ := id h1
  obtain ⟨p2, c2, e2, _⟩ := id h2
  have H1 := Lib.hid h1
  have H2 := Lib.hid h2
  have H3 := Lib.hid hr
  have hmm := @run_makeMap Tryz.prog
  have HBB := Lib.hid hB
  clear h1 h2 hr hB
  subst e1 e2
  have HA0 : Hid (∀ W, Below ((w.alloc (.cells #[.slice p1 m.y.length c1, .slice p2 m.o.length c2, .int .i64 m.at_] 24)).alloc (.cells #[.slice none 0 0, .slice none 0 0, .int .i64 0] 24)).heap.size ((w.alloc (.cells #[.slice p1 m.y.length c1, .slice p2 m.o.length c2, .int .i64 m.at_] 24)).alloc (.cells #[.slice none 0 0, .slice none 0 0, .int .i64 0] 24)) W → W.heap[w.heap.size]? = some (.cells #[.slice p1 m.y.length c1, .slice p2 m.o.length c2, .int .i64 m.at_] 24) ∧ W.heap[w.heap.size + 1]? = some (.cells #[.slice none 0 0, .slice none 0 0, .int .i64 0] 24) ∧ w.heap.size + 1 + 1 ≤ W.heap.size ∧ Below w.heap.size w W) := Lib.hid (fun W hb => by
    have hs := hb.size
    rw [World.size_alloc, World.size_alloc] at hs
    refine ⟨(hb.block _ (by rw [World.size_alloc, World.size_alloc]; omega)).trans ((Below.heap_alloc _ _ _ (by rw [World.size_alloc]; omega)).trans (World.alloc_heap_new w _)), (hb.block _ (by rw [World.size_alloc, World.size_alloc]; omega)).trans ?_, hs, below_call (belowA (belowA (Below.refl _ _) _) _) hb⟩
    have := World.alloc_heap_new (w.alloc (.cells #[.slice p1 m.y.length c1, .slice p2 m.o.length c2, .int .i64 m.at_] 24)) (.cells #[.slice none 0 0, .slice none 0 0, .int .i64 0] 24)
    rw [World.size_alloc] at this
    exact this)
  go_enter Tryz.func9, Tryz.ntmps9
  go_wp2_with fail
  refine (HFt.out _ (belowA (belowA (Below.refl _ _) _) _)).mono ?_
  rintro e W1 ⟨r, rfl, hr, hb⟩
  obtain ⟨hA, hC, hsz, hbw⟩ := HA0.out W1 hb
  obtain ⟨a0, a1, a2, af⟩ := three_cells hA
  obtain ⟨d0, d1, d2, df⟩ := three_cells hC
  clear hb HA0 HFt
  have HC := Lib.hid hC
  have HBw := Lib.hid hbw
  have HR := Lib.hid hr
  clear hA hC hbw hr
  cases r
  · go_wp2_with fail
    (try simp only [Exit.inBlock, Exit.then])
    refine bodyPost_ret (v := .tuple #[.agg #[.slice none 0 0, .slice none 0 0, .int .i64 0], .slice none 0 0, .int .i64 6]) ?_ rfl ⟨?_, .inr ⟨fun h => Bool.noConfusion (HR.out.2 h), rfl⟩⟩
    · rw [results_cell3 rfl]
      go_simp
    · exact ((HBw.out.setCell (Nat.le_succ _) _).setCell (Nat.le_succ _) _).setCell (Nat.le_succ _) _
  · obtain ⟨K, hK, hT⟩ := HR.out.1 rfl
    have HPr : Hid (RunPre m K roots) := Lib.hid ⟨hK, w1, w2, lt, fun r hr => ⟨hT r hr, wr r hr⟩, lr⟩
    have hE := HR.out.1 rfl
    have HE := Lib.hid hE
    clear hK hT hE
    go_wp2_with fail
    have hbZ : Below w.heap.size w ((W1.alloc (.map #[] 0)).alloc (.cells #[.slice none 0 0, .slice none 0 0, .int .i64 0, .slice p1 m.y.length c1, .slice p2 m.o.length c2, .int .i64 m.at_, .bool true, .map (some W1.heap.size), .slice none 0 0] 48)) := belowA (belowA HBw.out _) _
    have hblk := World.alloc_heap_new (W1.alloc (.map #[] 0)) (.cells #[.slice none 0 0, .slice none 0 0, .int .i64 0, .slice p1 m.y.length c1, .slice p2 m.o.length c2, .int .i64 m.at_, .bool true, .map (some W1.heap.size), .slice none 0 0] 48)
    rw [World.size_alloc] at hblk
    have hle : w.heap.size ≤ W1.heap.size := by omega
    have hmp := (MapIs.made (Value.int .u64) W1).same (w' := (W1.alloc (.map #[] 0)).alloc (.cells #[.slice none 0 0, .slice none 0 0, .int .i64 0, .slice p1 m.y.length c1, .slice p2 m.o.length c2, .int .i64 m.at_, .bool true, .map (some W1.heap.size), .slice none 0 0] 48)) (Below.heap_alloc _ _ _ (by rw [World.size_alloc]; omega))
    have HC2 : Hid (((W1.alloc (.map #[] 0)).alloc (.cells #[.slice none 0 0, .slice none 0 0, .int .i64 0, .slice p1 m.y.length c1, .slice p2 m.o.length c2, .int .i64 m.at_, .bool true, .map (some W1.heap.size), .slice none 0 0] 48)).heap[w.heap.size + 1]? = some (.cells #[.slice none 0 0, .slice none 0 0, .int .i64 0] 24)) := Lib.hid ((Below.heap_alloc _ _ _ (by rw [World.size_alloc]; omega)).trans ((Below.heap_alloc _ _ _ (by omega)).trans HC.out))
    generalize ((W1.alloc (.map #[] 0)).alloc (.cells #[.slice none 0 0, .slice none 0 0, .int .i64 0, .slice p1 m.y.length c1, .slice p2 m.o.length c2, .int .i64 m.at_, .bool true, .map (some W1.heap.size), .slice none 0 0] 48)) = W2 at *
    have hcol : ColAt W2 (W1.heap.size + 1) W1.heap.size W1.heap.size (.slice none 0 0) (.slice none 0 0) (.slice none 0 0) (.slice p1 m.y.length c1) (.slice p2 m.o.length c2) m 0 true ⟨[], base0 true K⟩ [] [] [] :=
      ⟨hblk, WOwn.nil _ _, WOwn.nil _ _, WOwn.nil _ _, hmp, (H1.out.below hbZ HBB.out).more (Nat.le_trans HBB.out hle), (H2.out.below hbZ HBB.out).more (Nat.le_trans HBB.out hle), Nat.le_succ _, Nat.le_refl _, Nat.succ_ne_self _, by simp [Value.ownBlock], by simp [Value.ownBlock], by simp [Value.ownBlock], by simp [Value.ownBlock], by simp [Value.ownBlock]⟩
    have HRun := Lib.hid (run30 W2 (W1.heap.size + 1) W1.heap.size W1.heap.size _ _ _ _ _ m K 0 true roots pr cr hcol HPr.out ((H3.out.below hbZ HBB.out).more (Nat.le_trans HBB.out hle)))
    have HBz := Lib.hid hbZ
    have HLe : Hid (w.heap.size + 1 < W1.heap.size) := Lib.hid (by omega)
    clear hblk hcol hbZ hmp hle a0 a1 a2 af d0 d1 d2 df
    refine HRun.out.mono ?_
    rintro e W3 ⟨vY, vO, vC, vT, S, D, I, rfl, hRun, hInv, hSt, hB3⟩
    obtain ⟨pY, nY, cY, eY⟩ := own_shape hRun.col.ry
    obtain ⟨pO, nO, cO, eO⟩ := own_shape hRun.col.ro
    obtain ⟨pT, nT, cT, eT⟩ := own_shape hRun.out
    subst eT
    have HRs := Lib.hid (result29 W3 (W1.heap.size + 1) vY vO vC _ _ 0 m.at_ true _ pT nT cT hRun.col.blk pY pO nY cY nO cO eY eO)
    have HC3 : Hid (∀ W4, Below W3.heap.size W3 W4 → W4.heap[w.heap.size + 1]? = some (.cells #[.slice none 0 0, .slice none 0 0, .int .i64 0] 24)) := Lib.hid (fun W4 hb4 => (hb4.block _ (Nat.lt_trans HLe.out hRun.col.le)).trans ((hB3.block _ HLe.out).trans HC2.out))
    have HEnd : Hid (∀ W4 W5, Below W3.heap.size W3 W4 → W5 = (((W4.setCell ⟨w.heap.size + 1, 0, none⟩ vY).setCell ⟨w.heap.size + 1, 1, none⟩ vO).setCell ⟨w.heap.size + 1, 2, none⟩ (.int .i64 0)) → FullP m roots w (.returned (.tuple #[.agg #[vY, vO, .int .i64 0], .slice pT nT cT, .int .i64 0])) W5) := Lib.hid (by
      rintro W4 W5 hb4 rfl
      have hR4 := hRun.below hb4
      have own : ∀ {v : Value} {l : List Int}, WOwn W4 W1.heap.size v l → WOwn (((W4.setCell ⟨w.heap.size + 1, 0, none⟩ vY).setCell ⟨w.heap.size + 1, 1, none⟩ vO).setCell ⟨w.heap.size + 1, 2, none⟩ (.int .i64 0)) W1.heap.size v l := fun {v l} h => ownBlock_same h (fun k hk => by
        have h1 := (h.ge k hk).1
        have h2 := HLe.out
        have h3 : k ≠ w.heap.size + 1 := by omega
        rw [setC_same _ _ _ _ h3, setC_same _ _ _ _ h3, setC_same _ _ _ _ h3])
      have hle : w.heap.size ≤ W1.heap.size := by have := HLe.out; omega
      refine ⟨((((HBz.out.trans ((hB3.mono hle).trans (hb4.mono (Nat.le_trans hle (Nat.le_of_lt hRun.col.le))))).setCell (Nat.le_succ _) _).setCell (Nat.le_succ _) _).setCell (Nat.le_succ _) _), .inl ⟨HE.out, W1.heap.size, vY, vO, _, K, S, D, I, hle, rfl, own hR4.col.ry, own hR4.col.ro, own hR4.out, fun k hk => ⟨hR4.col.dyo k hk, fun e => hR4.outf k e (.inr (.inr (.inl hk)))⟩, fun k hk e => hR4.outf k e (.inr (.inr (.inr (.inl hk)))), HPr.out, hInv, hSt⟩⟩)
    clear hRun hInv hSt hB3 HRun HBz
    subst eY eO
    go_wp2_with fail
    refine HRs.out.mono ?_
    rintro e W4 ⟨rfl, hb4⟩
    obtain ⟨d0, d1, d2, df⟩ := three_cells (HC3.out W4 hb4)
    have HEn := Lib.hid (HEnd.out W4 _ hb4 rfl)
    clear HC3 HEnd hb4 HRs
    go_wp2_with fail
    (try simp only [Exit.inBlock, Exit.then])
    refine bodyPost_ret (v := .tuple #[.agg #[.slice pY nY cY, .slice pO nO cO, .int .i64 0], .slice pT nT cT, .int .i64 0]) ?_ rfl HEn.out
    rw [results_cell3 rfl]
    go_simp
end Go.Proofs.YtegffanlehaloaaGreat.cl

/- Clone of a row of words. Conditions: the row lies in memory. -/
namespace Go.Proofs.YtegffanlehaloaaGreat.cl
open Go.RowKit mem words
set_option linter.unusedVariables false
set_option linter.unusedSimpArgs false
set_option maxHeartbeats 4000000
set_option maxRecDepth 100000

theorem clone36 (w : World) (B : Nat) (v : Value) (l : List Int) (h : WAt w B v l) (hB : B ≤ w.heap.size) (hl : l.length ≤ 100000) :
    Calls Tryz.prog 18 #[v] w fun e w' => ∃ v', e = .returned v' ∧ WOwn w' w.heap.size v' l ∧ Below w.heap.size w w' := by
  have q22 : ∀ (w : World) (a : Option Addr) (n c n' c' : Nat), (binOp .eql 22 (.slice a n c) (.slice none n' c')).run Tryz.prog w = .ok (.bool a.isNone) w := fun w a n c n' c' => Lib.run_eql_slice_nil w _ _ a n c n' c' Tryz.underlying22
  obtain ⟨p, c, rfl, h1, h2, h3⟩ := h
  cases p with
  | none =>
    have hn : l = [] := by
      cases l with
      | nil => rfl
      | cons x l =>
        obtain ⟨g, o, e, _⟩ := h3 (by simp)
        simp at e
    subst hn
    clear h1 h2 h3
    go_enter Tryz.func18, Tryz.ntmps18
    go_wp2_with fail
    go_ret
    exact ⟨_, rfl, WOwn.nil _ _, Below.refl _ _⟩
  | some ad =>
    have HC : Hid (∀ j x, l[j]? = some x → w.cell? (ad.add j) = some (.int .u64 x)) := Lib.hid (fun j x hj => by
      obtain ⟨hj1, hj2⟩ := List.getElem?_eq_some_iff.1 hj
      obtain ⟨g, o, e, _, hc⟩ := h3 (fun e => by subst e; simp at hj1)
      cases e
      have := hc j hj1
      rw [hj2] at this
      rw [Addr.add_lit]
      exact this)
    clear h1 h2 h3
    have HO : Hid (WOwn (w.alloc (.cells #[] 43)) w.heap.size (.slice (some ⟨w.heap.size, 0, none⟩) 0 0) []) := Lib.hid (World.ownsRow_made w #[] 0 (Nat.le_refl _) (Nat.zero_le _) (by simp))
    go_enter Tryz.func18, Tryz.ntmps18
    go_wp2_with (at_builtin; refine wpList_append_words rfl (.tmp 5) (.tmp 6) rfl rfl HO.out (by simp) ad l.length c l rfl rfl (fun j x hj => Lib.cell?_alloc_some _ (HC.out j x hj)) (by simp; omega) ?_; intro v' w1 ha; have HA := Lib.hid ha; clear ha)
    go_ret
    refine ⟨v', rfl, HA.out.own, ?_⟩
    exact ((Below.refl _ w).alloc (Nat.le_refl _) _).grown HA.out.grown (by simp) (by intro k hk; have hk' : some w.heap.size = some k := hk; cases hk'; exact Nat.le_refl _)
end Go.Proofs.YtegffanlehaloaaGreat.cl

/- Minor. Conditions: the areas and roots lie in memory. -/
namespace Go.Proofs.YtegffanlehaloaaGreat.cl
open Go.RowKit mem words
set_option linter.unusedVariables false
set_option linter.unusedSimpArgs false
set_option maxHeartbeats 4000000
set_option maxRecDepth 100000

/-- what Minor gives -/
def MinorP (m : Mm) (roots : List Int) (w : World) (e : Ending) (w' : World) : Prop :=
  Below w.heap.size w w' ∧ (((∃ K, Sh m K ∧ ∀ v ∈ roots, Tm K v) ∧ ∃ base vY vO vT K S D I, w.heap.size ≤ base ∧ e = .returned (.tuple #[.agg #[vY, vO, .int .i64 S.y.flatten.length], vT, .int .i64 0]) ∧ WOwn w' base vY S.y.flatten ∧ WOwn w' base vO S.o.flatten ∧ WOwn w' base vT (roots.map (lk D I)) ∧ (∀ k, vY.ownBlock = some k → vO.ownBlock ≠ some k ∧ vT.ownBlock ≠ some k) ∧ (∀ k, vO.ownBlock = some k → vT.ownBlock ≠ some k) ∧ RunPre m K roots ∧ Inv K m.at_ false K.o roots S D I D.length 0 ∧ (∀ r ∈ roots, mov false r = true → r ∈ D)) ∨
    ((¬ ∃ K, Sh m K ∧ ∀ v ∈ roots, Tm K v) ∧ e = .returned (.tuple #[.agg #[.slice none 0 0, .slice none 0 0, .int .i64 0], .slice none 0 0, .int .i64 6])))
theorem leafB {W W5 : World} {B2 : Nat} {vO : Value} {l : List Int} (o : Obj) (ho : WOwn W5 B2 vO l) (h2 : W.heap.size ≤ B2) (hb : Below W.heap.size W W5) : ((W5.alloc (.map #[] 0)).alloc o).heap[W5.heap.size + 1]? = some o ∧ WOwn ((W5.alloc (.map #[] 0)).alloc o) W.heap.size vO l ∧ ((W5.alloc (.map #[] 0)).alloc o).heap[W5.heap.size]? = some (.map #[] 0) ∧ Below W.heap.size W ((W5.alloc (.map #[] 0)).alloc o) ∧ W.heap.size ≤ W5.heap.size + 1 ∧ W.heap.size ≤ W5.heap.size ∧ W5.heap.size + 1 ≠ W5.heap.size ∧ vO.ownBlock ≠ some (W5.heap.size + 1) ∧ vO.ownBlock ≠ some W5.heap.size := by
  have hs := hb.size
  have h1 := World.alloc_heap_new (W5.alloc (.map #[] 0)) o
  rw [World.size_alloc] at h1
  refine ⟨h1, World.ownsRow.mono (ho.below (belowA (belowA (Below.refl _ _) _) _)) h2, (Below.heap_alloc _ _ _ (by rw [World.size_alloc]; omega)).trans (World.alloc_heap_new W5 _), belowA (belowA hb _) _, by omega, hs, by omega, fun e => ?_, fun e => ?_⟩
  · have := (ho.ge _ e).2; omega
  · have := (ho.ge _ e).2; omega
theorem leafA {W W5 : World} {B2 : Nat} {vO : Value} {l : List Int} (o : Obj) (ho : WOwn W5 B2 vO l) (h2 : W.heap.size < B2) (hb : Below W.heap.size W W5) (hm : W5.heap[W.heap.size]? = some (.map #[] 0)) : (W5.alloc o).heap[W5.heap.size]? = some o ∧ WOwn (W5.alloc o) W.heap.size vO l ∧ (W5.alloc o).heap[W.heap.size]? = some (.map #[] 0) ∧ Below W.heap.size W (W5.alloc o) ∧ W.heap.size ≤ W5.heap.size ∧ W.heap.size ≤ W.heap.size ∧ W5.heap.size ≠ W.heap.size ∧ vO.ownBlock ≠ some W5.heap.size ∧ vO.ownBlock ≠ some W.heap.size := by
  have hs := hb.size
  have hlt := (Array.getElem?_eq_some_iff.1 hm).1
  refine ⟨World.alloc_heap_new W5 o, World.ownsRow.mono (ho.below (belowA (Below.refl _ _) _)) (Nat.le_of_lt h2), (Below.heap_alloc _ _ _ hlt).trans hm, belowA hb _, hs, Nat.le_refl _, by omega, fun e => ?_, fun e => ?_⟩
  · have := (ho.ge _ e).2; omega
  · have := (ho.ge _ e).1; omega
theorem minor16 (w : World) (B : Nat) (v1 v2 : Value) (pr : Option Addr) (cr : Nat) (m : Mm) (roots : List Int) (hB : B ≤ w.heap.size) (h1 : WAt w B v1 m.y) (h2 : WAt w B v2 m.o) (w1 : Wds m.y) (w2 : Wds m.o) (lt : m.y.length + m.o.length ≤ 5000) (hr : WAt w B (.slice pr roots.length cr) roots) (wr : Wds roots) (lr : roots.length ≤ 100000) :
    Calls Tryz.prog 7 #[.agg #[v1, v2, .int .i64 m.at_], .slice pr roots.length cr] w (MinorP m roots w) := by
  have HFt := Lib.hid (fun W (hb : Below w.heap.size w W) => fits28 W B v1 v2 (.slice pr roots.length cr) m roots (Nat.le_trans hB hb.size) (h1.below hb hB) (h2.below hb hB) w1 w2 (by omega) (by omega) (hr.below hb hB) wr lr)
  have hmm := @run_makeMap Tryz.prog
  obtain ⟨p1, c1, e1, _⟩ := id h1
  obtain ⟨p2, c2, e2, _⟩ := id h2
  have H1 := Lib.hid h1
  have H2 := Lib.hid h2
  have H3 := Lib.hid hr
  have HBB := Lib.hid hB
  have HCl := Lib.hid (fun W (hb : Below w.heap.size w W) => clone36 W B v2 m.o (h2.below hb hB) (Nat.le_trans hB hb.size) (by omega))
  clear h1 h2 hr hB
  subst e1 e2
  have HA0 : Hid (∀ W, Below ((w.alloc (.cells #[.slice p1 m.y.length c1, .slice p2 m.o.length c2, .int .i64 m.at_] 24)).alloc (.cells #[.slice none 0 0, .slice none 0 0, .int .i64 0] 24)).heap.size ((w.alloc (.cells #[.slice p1 m.y.length c1, .slice p2 m.o.length c2, .int .i64 m.at_] 24)).alloc (.cells #[.slice none 0 0, .slice none 0 0, .int .i64 0] 24)) W → W.heap[w.heap.size]? = some (.cells #[.slice p1 m.y.length c1, .slice p2 m.o.length c2, .int .i64 m.at_] 24) ∧ W.heap[w.heap.size + 1]? = some (.cells #[.slice none 0 0, .slice none 0 0, .int .i64 0] 24) ∧ w.heap.size + 1 + 1 ≤ W.heap.size ∧ Below w.heap.size w W) := Lib.hid (fun W hb => by
    have hs := hb.size
    rw [World.size_alloc, World.size_alloc] at hs
    refine ⟨(hb.block _ (by rw [World.size_alloc, World.size_alloc]; omega)).trans ((Below.heap_alloc _ _ _ (by rw [World.size_alloc]; omega)).trans (World.alloc_heap_new w _)), (hb.block _ (by rw [World.size_alloc, World.size_alloc]; omega)).trans ?_, hs, below_call (belowA (belowA (Below.refl _ _) _) _) hb⟩
    have := World.alloc_heap_new (w.alloc (.cells #[.slice p1 m.y.length c1, .slice p2 m.o.length c2, .int .i64 m.at_] 24)) (.cells #[.slice none 0 0, .slice none 0 0, .int .i64 0] 24)
    rw [World.size_alloc] at this
    exact this)
  go_enter Tryz.func7, Tryz.ntmps7
  go_wp2_with fail
  refine (HFt.out _ (belowA (belowA (Below.refl _ _) _) _)).mono ?_
  rintro e W1 ⟨r, rfl, hr, hb⟩
  obtain ⟨hA, hC, hsz, hbw⟩ := HA0.out W1 hb
  obtain ⟨a0, a1, a2, af⟩ := three_cells hA
  obtain ⟨d0, d1, d2, df⟩ := three_cells hC
  clear hb HA0 HFt
  have HC := Lib.hid hC
  have HBw := Lib.hid hbw
  have HR := Lib.hid hr
  clear hA hC hbw hr
  cases r
  · go_wp2_with fail
    (try simp only [Exit.inBlock, Exit.then])
    refine bodyPost_ret (v := .tuple #[.agg #[.slice none 0 0, .slice none 0 0, .int .i64 0], .slice none 0 0, .int .i64 6]) ?_ rfl ⟨?_, .inr ⟨fun h => Bool.noConfusion (HR.out.2 h), rfl⟩⟩
    · rw [results_cell3 rfl]
      go_simp
    · exact ((HBw.out.setCell (Nat.le_succ _) _).setCell (Nat.le_succ _) _).setCell (Nat.le_succ _) _
  · obtain ⟨K, hK, hT⟩ := HR.out.1 rfl
    have HPr : Hid (RunPre m K roots) := Lib.hid ⟨hK, w1, w2, lt, fun r hr => ⟨hT r hr, wr r hr⟩, lr⟩
    have hE := HR.out.1 rfl
    have HE := Lib.hid hE
    clear hK hT hE
    go_wp2_with fail
    have hle : w.heap.size ≤ W1.heap.size := by omega
    have HCl1 := Lib.hid (fun W (hb : Below W1.heap.size W1 W) => HCl.out W (HBw.out.trans (hb.mono hle)))
    have HAc := Lib.hid (fun W (hb : Below W1.heap.size W1 W) => And.intro ((hb.cell (p := ⟨w.heap.size, 0, none⟩) (by show w.heap.size < _; omega)).trans a0) (And.intro ((hb.cell (p := ⟨w.heap.size, 1, none⟩) (by show w.heap.size < _; omega)).trans a1) ((hb.cell (p := ⟨w.heap.size, 2, none⟩) (by show w.heap.size < _; omega)).trans a2)))
    have hbd1 : Below W1.heap.size W1 W1.drew := below_drewN (Below.refl _ _) 1
    go_cut [7] from 14 to 21 (fun a wc => ∃ z mp vO, a = .pointer (some ⟨z, 0, none⟩) ∧ wc.heap[z]? = some (.cells #[.slice none 0 0, vO, .int .i64 0, .slice p1 m.y.length c1, .slice p2 m.o.length c2, .int .i64 m.at_, .bool false, .map (some mp), .slice none 0 0] 48) ∧ WOwn wc W1.heap.size vO m.o ∧ wc.heap[mp]? = some (.map #[] 0) ∧ Below W1.heap.size W1 wc ∧ W1.heap.size ≤ z ∧ W1.heap.size ≤ mp ∧ z ≠ mp ∧ vO.ownBlock ≠ some z ∧ vO.ownBlock ≠ some mp)
    case first =>
      go_region_held3 (fun w' => w'.cell? ⟨w.heap.size, 0, none⟩ = some (.slice p1 m.y.length c1) ∧ w'.cell? ⟨w.heap.size, 1, none⟩ = some (.slice p2 m.o.length c2) ∧ w'.cell? ⟨w.heap.size, 2, none⟩ = some (.int .i64 m.at_) ∧ Below W1.heap.size W1 w')
        ((refine ⟨?_, ?_, ?_, ?_⟩) <;> (repeat' (first | with_reducible refine keep_alloc ?_ | with_reducible refine keep_drew ?_ | with_reducible refine belowA ?_ _ | with_reducible refine belowD ?_ | with_reducible assumption | with_reducible exact Below.refl _ _)))
        (first
          | (go_at_call 18; (with_reducible refine (HCl1.out _ (by ((repeat' (first | with_reducible assumption | with_reducible refine belowD ?_ | with_reducible refine belowA ?_ _ | with_reducible refine Below.setCell ?_ ?_ _ | with_reducible exact Below.refl _ _ | (dsimp only; omega) | (simp; omega))); first | done | fail))).mono ?_); rintro e3 W5 ⟨vO, rfl, ho3, hb3⟩; obtain ⟨pO, nO, cO, rfl⟩ := own_shape ho3; have hb55 : Below W1.heap.size W1 W5 := below_call (by ((repeat' (first | with_reducible assumption | with_reducible refine belowD ?_ | with_reducible refine belowA ?_ _ | with_reducible refine Below.setCell ?_ ?_ _ | with_reducible exact Below.refl _ _ | (dsimp only; omega) | (simp; omega))); first | done | fail)) hb3; have hl5 := hb55.size; obtain ⟨s0, s1, s2⟩ := HAc.out W5 hb55; have hws := hb3.size; (first | (have hza : W5.heap[W1.heap.size]? = some (.map #[] 0) := blk_call hb3 (by ((repeat' (first | with_reducible assumption | with_reducible refine blk_drew ?_ | ((with_reducible refine blk_new ?_) <;> (first | omega | (simp; done) | (simp; omega))) | with_reducible refine blk_alloc ?_ _ | with_reducible refine blk_set ?_ _ | with_reducible refine blk_setO ?_ ?_ _ | omega | (dsimp only; omega) | (simp; done) | (simp; omega))); first | done | fail))) | skip)))
      all_goals
        go_wp2_with fail
        go_meet
        first
          | exact ⟨_, _, _, rfl, leafB _ ho3 (by simp) hb55⟩
          | exact ⟨_, _, _, rfl, leafA _ ho3 (by simp) hb55 hza⟩
    case rest =>
      obtain ⟨z, mp, vO, rfl, hblk, hown, hmap, hbc, hz, hm, hzm, hoz, hom⟩ := hcut
      have hbZ : Below w.heap.size w wc := HBw.out.trans (hbc.mono hle)
      have hcol : ColAt wc z mp W1.heap.size (.slice none 0 0) vO (.slice none 0 0) (.slice p1 m.y.length c1) (.slice p2 m.o.length c2) m 0 false ⟨[], base0 false K⟩ [] [] [] :=
        ⟨hblk, WOwn.nil _ _, by show WOwn wc W1.heap.size vO K.o.flatten; rw [HPr.out.sh.o.1]; exact hown, WOwn.nil _ _, ⟨#[], 0, hmap, rfl⟩, (H1.out.below hbZ HBB.out).more (Nat.le_trans HBB.out hle), (H2.out.below hbZ HBB.out).more (Nat.le_trans HBB.out hle), hz, hm, hzm, ⟨by simp [Value.ownBlock], hoz, by simp [Value.ownBlock]⟩, ⟨by simp [Value.ownBlock], hom, by simp [Value.ownBlock]⟩, by simp [Value.ownBlock], by simp [Value.ownBlock], by simp [Value.ownBlock]⟩
      have HRun := Lib.hid (run30 wc z mp W1.heap.size _ _ _ _ _ m K 0 false roots pr cr hcol HPr.out ((H3.out.below hbZ HBB.out).more (Nat.le_trans HBB.out hle)))
      have HC2 : Hid (wc.heap[w.heap.size + 1]? = some (.cells #[.slice none 0 0, .slice none 0 0, .int .i64 0] 24)) := Lib.hid ((hbc.block _ (by omega)).trans HC.out)
      have HBz := Lib.hid hbZ
      have HLe : Hid (w.heap.size + 1 < W1.heap.size) := Lib.hid (by omega)
      have hzne : z ≠ w.heap.size + 1 := by omega
      have hzn2 : w.heap.size + 1 ≠ z := by omega
      have HZ := Lib.hid hz
      clear hblk hown hmap hbc hz hm hzm hoz hom hbZ hcol a0 a1 a2 af d0 d1 d2 df HAc HCl1 HCl hbd1
      go_wp2_with fail
      refine HRun.out.mono ?_
      rintro e W3 ⟨vY, vO, vC, vT, S, D, I, rfl, hRun, hInv, hSt, hB3⟩
      obtain ⟨pY, cY, eY⟩ := hRun.col.ry.shape
      obtain ⟨pO, nO, cO, eO⟩ := own_shape hRun.col.ro
      obtain ⟨pT, nT, cT, eT⟩ := own_shape hRun.out
      subst eT
      have hC3 : W3.heap[w.heap.size + 1]? = some (.cells #[.slice none 0 0, .slice none 0 0, .int .i64 0] 24) := (hB3.block _ HLe.out).trans HC2.out
      obtain ⟨d0, d1, d2, df⟩ := three_cells hC3
      obtain ⟨n0, n1, n2, n3, n4, n5, n6, n7, n8, nf⟩ := nine_cells hRun.col.blk
      have HEnd : Hid (∀ W5, W5 = ((((W3.setCell ⟨z, 2, none⟩ (.int .i64 S.y.flatten.length)).setCell ⟨w.heap.size + 1, 0, none⟩ vY).setCell ⟨w.heap.size + 1, 1, none⟩ vO).setCell ⟨w.heap.size + 1, 2, none⟩ (.int .i64 S.y.flatten.length)) → MinorP m roots w (.returned (.tuple #[.agg #[vY, vO, .int .i64 S.y.flatten.length], .slice pT nT cT, .int .i64 0])) W5) := Lib.hid (by
        rintro W5 rfl
        have own : ∀ {v : Value} {l : List Int}, WOwn W3 W1.heap.size v l → v.ownBlock ≠ some z → WOwn ((((W3.setCell ⟨z, 2, none⟩ (.int .i64 S.y.flatten.length)).setCell ⟨w.heap.size + 1, 0, none⟩ vY).setCell ⟨w.heap.size + 1, 1, none⟩ vO).setCell ⟨w.heap.size + 1, 2, none⟩ (.int .i64 S.y.flatten.length)) W1.heap.size v l := fun {v l} h hne => ownBlock_same h (fun k hk => by
          have h1 := (h.ge k hk).1
          have h2 := HLe.out
          have h3 : k ≠ w.heap.size + 1 := by omega
          have h4 : k ≠ z := fun e => hne (e ▸ hk)
          rw [setC_same _ _ _ _ h3, setC_same _ _ _ _ h3, setC_same _ _ _ _ h3, setC_same _ _ _ _ h4])
        have hle : w.heap.size ≤ W1.heap.size := by have := HLe.out; omega
        refine ⟨(((((HBz.out.trans (hB3.mono hle)).setCell (Nat.le_trans hle HZ.out) _).setCell (Nat.le_succ _) _).setCell (Nat.le_succ _) _).setCell (Nat.le_succ _) _), .inl ⟨HE.out, W1.heap.size, vY, vO, _, K, S, D, I, hle, rfl, own hRun.col.ry hRun.col.dz.1, own hRun.col.ro hRun.col.dz.2.1, own hRun.out (fun e => hRun.outf z e (.inl rfl)), fun k hk => ⟨hRun.col.dyo k hk, fun e => hRun.outf k e (.inr (.inr (.inl hk)))⟩, fun k hk e => hRun.outf k e (.inr (.inr (.inr (.inl hk)))), HPr.out, hInv, hSt⟩⟩)
      clear hRun hInv hSt hB3 HRun HBz hC3 HC2
      generalize S.y.flatten.length = nY at *
      subst eY eO
      go_wp2_with fail
      (try simp only [Exit.inBlock, Exit.then])
      refine bodyPost_ret (v := .tuple #[.agg #[.slice pY nY cY, .slice pO nO cO, .int .i64 nY], .slice pT nT cT, .int .i64 0]) ?_ rfl (HEnd.out _ rfl)
      rw [results_cell3 rfl]
      go_simp
end Go.Proofs.YtegffanlehaloaaGreat.cl

/- Of what Full and Minor leave: a finished copying. Conditions: as said. -/
namespace Go.Proofs.YtegffanlehaloaaGreat.cl
open Go.RowKit mem words
set_option linter.unusedVariables false
set_option linter.unusedSimpArgs false
set_option maxHeartbeats 1000000
theorem done_of {m : Mm} {K : Bk} {full : Bool} {roots : List Int} {S : Bk} {D I : List Int} (hp : RunPre m K roots) (hi : Inv K m.at_ full (base0 full K) roots S D I D.length 0) (hs : ∀ r ∈ roots, mov full r = true → r ∈ D) : Done m K full roots S D I := by
  refine ⟨hp.sh, ?_, hp.tot, fun r hr => ⟨(hp.rt r hr).1, (hp.rt r hr).2.1⟩, hi, hs⟩
  intro b x hx v hv
  cases b
  · exact (hp.wy v (by rw [← hp.sh.y.1]; exact List.mem_flatten.2 ⟨x, hx, hv⟩)).1
  · exact (hp.wo v (by rw [← hp.sh.o.1]; exact List.mem_flatten.2 ⟨x, hx, hv⟩)).1
end Go.Proofs.YtegffanlehaloaaGreat.cl

/- The words of what Full and Minor leave are in range. Conditions: as said. -/
namespace Go.Proofs.YtegffanlehaloaaGreat.cl
open Go.RowKit mem words
set_option linter.unusedVariables false
set_option linter.unusedSimpArgs false
set_option maxHeartbeats 1000000
theorem RunPre.wdK {m : Mm} {K : Bk} {roots : List Int} (hp : RunPre m K roots) (b : Bool) {x : List Int} (hx : x ∈ K.s b) {v : Int} (hv : v ∈ x) : 0 ≤ v ∧ v ≤ 18446744073709551615 := by
  cases b
  · exact hp.wy v (by rw [← hp.sh.y.1]; exact List.mem_flatten.2 ⟨x, hx, hv⟩)
  · exact hp.wo v (by rw [← hp.sh.o.1]; exact List.mem_flatten.2 ⟨x, hx, hv⟩)
theorem inv_wds {m : Mm} {K : Bk} {full : Bool} {roots : List Int} {S : Bk} {D I : List Int} {i k : Nat} (hp : RunPre m K roots) (hi : Inv K m.at_ full (base0 full K) roots S D I i k) (b : Bool) : Wds (S.s b).flatten := by
  intro v hv
  obtain ⟨x, hx, hvx⟩ := List.mem_flatten.1 hv
  obtain ⟨pos, hat⟩ := At.of_mem hx
  rcases hi.all b pos x hat with ⟨rfl, hb⟩ | ⟨p, hpI, hpo, hpx⟩
  · have h1 := hb.mem
    unfold base0 at h1
    cases full
    · exact hp.wdK true h1 hvx
    · simp at h1
  · obtain ⟨j, hj⟩ := List.getElem?_of_mem hpI
    obtain ⟨d, hd⟩ : ∃ d, D[j]? = some d := ⟨_, List.getElem?_eq_getElem (by have := (List.getElem?_eq_some_iff.1 hj).1; have := hi.len; omega)⟩
    obtain ⟨x', g1, g2, g3, g4, g5, g6⟩ := hi.cp j d p hd hj
    have h1 := g1.2.1
    rw [hpo, hpx] at h1
    obtain rfl : x' = x := At.uniq (hi.pos.s b) h1 hat
    obtain ⟨q, hq⟩ := List.getElem?_of_mem hvx
    obtain ⟨u, hu⟩ : ∃ u, (ob K d)[q]? = some u := ⟨_, List.getElem?_eq_getElem (by have := (List.getElem?_eq_some_iff.1 hq).1; omega)⟩
    have h2 := g6 q u hu
    rw [hq] at h2
    obtain ⟨⟨xd, hxd⟩, _⟩ := hi.src d (List.mem_of_getElem? hd)
    have hob := hxd.ob hp.sh.pos
    have hw : 0 ≤ u ∧ u ≤ 18446744073709551615 := hp.wdK _ hxd.2.1.mem (by rw [← hob]; exact List.mem_of_getElem? hu)
    rw [Option.some.inj h2]
    split
    · exact hi.lk_bd hw
    · exact hw
/-- the memory that Full gives -/
theorem full_mem {w : World} {base : Nat} {vY vO vT : Value} {m : Mm} {K S : Bk} {roots D I : List Int} (hp : RunPre m K roots) (hi : Inv K m.at_ true [] roots S D I D.length 0) (hs : ∀ r ∈ roots, mov true r = true → r ∈ D) (hy : WOwn w base vY S.y.flatten) (ho : WOwn w base vO S.o.flatten) (ht : WOwn w base vT (roots.map (lk D I))) :
    MemAt w w.heap.size vY vO vT ⟨S.y.flatten, S.o.flatten, 0⟩ S (roots.map (lk D I)) := by
  have hd : Done m K true roots S D I := done_of hp hi hs
  have h1 := hi.small hp.sh.pos
  have e1 : K.y.flatten.length = m.y.length := by rw [hp.sh.y.1]
  have e2 : K.o.flatten.length = m.o.length := by rw [hp.sh.o.1]
  have h2 := hp.tot
  have h3 : ([] : List (List Int)).flatten.length = 0 := rfl
  have hsum : S.y.flatten.length + S.o.flatten.length ≤ 5000 := by omega
  refine ⟨hy.row, ho.row, inv_wds hp hi false, inv_wds hp hi true, hsum, hd.sh2 (by omega) (by omega), ht.row, fun v hv => ?_, by rw [List.length_map]; exact hp.rl⟩
  obtain ⟨r, hr, rfl⟩ := List.mem_map.1 hv
  exact ⟨hd.roots2 r hr, hi.lk_bd (hp.rt r hr).2⟩
end Go.Proofs.YtegffanlehaloaaGreat.cl

/- The reference's Full says yes to what Full gives. Conditions: as said. -/
namespace Go.Proofs.YtegffanlehaloaaGreat.cl
open Go.RowKit mem words
set_option linter.unusedVariables false
set_option linter.unusedSimpArgs false
set_option maxHeartbeats 1000000
end Go.Proofs.YtegffanlehaloaaGreat.cl

/- The reference's Minor says yes to what Minor gives. Conditions: as said. -/
namespace Go.Proofs.YtegffanlehaloaaGreat.cl
open Go.RowKit mem words
set_option linter.unusedVariables false
set_option linter.unusedSimpArgs false
set_option maxHeartbeats 1000000
theorem mov_young {d : Int} (h : mov false d = true) : pOld d = false := by
  unfold mov at h
  cases ho : pOld d
  · rfl
  · rw [ho] at h; simp at h
theorem minor_small {K S : Bk} {mk : Int} {roots D I : List Int} {i k : Nat} (h : Inv K mk false K.o roots S D I i k) (hB : K.pos) : S.y.flatten.length + S.o.flatten.length ≤ K.y.flatten.length + K.o.flatten.length := by
  have h1 := area_sum hB false (D := D) h.nd (fun d hd => (h.src d hd).2.2.1) (fun d hd => ⟨(h.src d hd).1, mov_young (h.src d hd).2.1⟩)
  have h2 := ite_sum (f := fun d => (ob K d).length) (q := fun d => age false mk d) D
  have h3 : (K.s false) = K.y := rfl
  rw [h3] at h1
  rw [h.sy, h.so]
  omega
/-- the memory that Minor gives -/
theorem minor_mem {w : World} {base : Nat} {vY vO vT : Value} {m : Mm} {K S : Bk} {roots D I : List Int} (hp : RunPre m K roots) (hi : Inv K m.at_ false K.o roots S D I D.length 0) (hs : ∀ r ∈ roots, mov false r = true → r ∈ D) (hy : WOwn w base vY S.y.flatten) (ho : WOwn w base vO S.o.flatten) (ht : WOwn w base vT (roots.map (lk D I))) :
    MemAt w w.heap.size vY vO vT ⟨S.y.flatten, S.o.flatten, S.y.flatten.length⟩ S (roots.map (lk D I)) := by
  have hd : Done m K false roots S D I := done_of hp hi hs
  have h1 := minor_small hi hp.sh.pos
  have e1 : K.y.flatten.length = m.y.length := by rw [hp.sh.y.1]
  have e2 : K.o.flatten.length = m.o.length := by rw [hp.sh.o.1]
  have h2 := hp.tot
  have hsum : S.y.flatten.length + S.o.flatten.length ≤ 5000 := by omega
  refine ⟨hy.row, ho.row, inv_wds hp hi false, inv_wds hp hi true, hsum, hd.sh2 (by omega) (by omega), ht.row, fun v hv => ?_, by rw [List.length_map]; exact hp.rl⟩
  obtain ⟨r, hr, rfl⟩ := List.mem_map.1 hv
  exact ⟨hd.roots2 r hr, hi.lk_bd (hp.rt r hr).2⟩
end Go.Proofs.YtegffanlehaloaaGreat.cl

/- How the arguments of the laws of collect lie in memory. No condition. -/
namespace Go.Proofs.YtegffanlehaloaaGreat.cl
open Go.RowKit mem words Go.ChangeShapes Go.WideShapes Go.ChangeAt Go.Joins
set_option linter.unusedVariables false
set_option linter.unusedSimpArgs false
set_option maxHeartbeats 1000000
set_option maxRecDepth 100000
variable {H : Type} {enc : TypeId × Value → H} {W : World}
theorem wf_u64 {n : Int} (h : (Lit.int .u64 n).wf = true) : 0 ≤ n ∧ n ≤ 18446744073709551615 := by
  simpa [Lit.wf, IntKind.min, IntKind.max, IntKind.signed, IntKind.bits] using h
theorem open_row {fuel : Nat} {v : Value} {x : DataW H × List MemPlace} (h : DataW.trod enc Tryz.prog W 0 (fun _ => true) true fuel 22 [v] = some x) : ∃ p c l, v = .slice p l.length c ∧ WAt W W.heap.size v l ∧ Wds l := by
  rcases open_ints (k := .u64) Tryz.underlying22 Tryz.underlying43 (by kernel_rfl) h with ⟨hcs, _⟩ | ⟨a, len, cap, zs, hcs, hb, hl, hm, hlen, hx, hc, hwf⟩
  · simp only [List.cons.injEq, and_true] at hcs
    subst hcs
    exact ⟨none, 0, [], rfl, ⟨none, 0, rfl, Nat.le_refl _, by unfold maxLen; omega, fun h => absurd rfl h⟩, fun _ h => by simp at h⟩
  · simp only [List.cons.injEq, and_true] at hcs
    subst hcs
    have hlen : zs.length = cap := by simpa using hlen
    have hl2 : (zs.take len).length = len := by rw [List.length_take]; omega
    refine ⟨some a, cap, zs.take len, by rw [hl2], ⟨some a, cap, by rw [hl2], by omega, hm, fun hne => ?_⟩, fun y hy => wf_u64 (hwf y (List.mem_of_mem_take hy))⟩
    have hpos : 0 < len := by have := List.length_pos_iff.2 hne; omega
    obtain ⟨g, o, pth⟩ := a
    have x0 := hc 0 (by omega)
    have hpth : pth = none := by
      cases pth with
      | none => rfl
      | some q =>
        exfalso
        have x1 : W.cell? ⟨g, o, some q⟩ = some _ := x0
        unfold World.cell? at x1
        split at x1 <;> simp at x1
    subst hpth
    refine ⟨g, o, rfl, ?_, fun j hj => ?_⟩
    · have := World.block_lt_of_cell? W _ x0; rw [Addr.add_lit] at this; exact this
    · have := hc j (by omega)
      rw [Addr.add_lit] at this
      rw [this, List.getElem_take, List.getD_eq_getElem?_getD, List.getElem?_eq_getElem (by omega)]
      rfl
theorem open_words {b : Nat} {v : Value} {d : DataW H} {ps : List MemPlace} (hv : Value.okWide Tryz.prog W .any b 22 v) (h : DataW.Trod enc Tryz.prog W 0 (fun _ => true) true 22 v d ps) : ∃ p c l, v = .slice p l.length c ∧ WAt W W.heap.size v l ∧ Wds l := by
  obtain ⟨a0, len, cap, rfl⟩ := okWide_slice Tryz.underlying22 hv
  obtain ⟨fuel, hf⟩ := h
  have hf' : DataW.trod enc Tryz.prog W 0 (fun _ => true) true fuel 22 [.slice a0 len cap] = some (d, ps) := by simpa [Value.cells] using hf
  exact open_row hf'
theorem open_mem {b : Nat} {v : Value} {d : DataW H} {ps : List MemPlace} (hv : Value.okWide Tryz.prog W .any b 24 v) (h : DataW.Trod enc Tryz.prog W 0 (fun _ => true) true 24 v d ps) : ∃ (v1 v2 : Value) (m : Mm), v = .agg #[v1, v2, .int .i64 m.at_] ∧ WAt W W.heap.size v1 m.y ∧ WAt W W.heap.size v2 m.o ∧ Wds m.y ∧ Wds m.o := by
  obtain ⟨c0, c1, c2, y0, y1, y2, n, rfl, rfl, rfl, hy0, hy1, hy2⟩ := open_agg3 Tryz.underlying24 (by kernel_rfl) (by kernel_rfl) hv h
  obtain ⟨x, e, _, _⟩ := DataW.trod_int Tryz.underlying3 hy2
  simp only [List.cons.injEq, and_true] at e
  subst e
  obtain ⟨p1, k1, l1, rfl, g1, w1⟩ := open_row hy0
  obtain ⟨p2, k2, l2, rfl, g2, w2⟩ := open_row hy1
  exact ⟨_, _, ⟨l1, l2, x⟩, rfl, g1, g2, w1, w2⟩
end Go.Proofs.YtegffanlehaloaaGreat.cl

/- The order of pointers: sorting, in plain Lean. Conditions: as said. -/
namespace Go.Proofs.YtegffanlehaloaaGreat.cl
open words
set_option linter.unusedVariables false
set_option linter.unusedSimpArgs false
def pltB (a b : Int) : Bool := (!pOld a && pOld b) || ((pOld a == pOld b) && decide (pIx a < pIx b))
theorem pltB_irrefl (a : Int) : pltB a a = false := by unfold pltB; cases pOld a <;> simp
theorem pltB_trans {a b c : Int} (h1 : pltB a b = true) (h2 : pltB b c = true) : pltB a c = true := by
  unfold pltB at *
  cases ha : pOld a <;> cases hb : pOld b <;> cases hc : pOld c <;> simp [ha, hb, hc] at * <;> omega
theorem pltB_ntrans {a b c : Int} (h1 : pltB a b = false) (h2 : pltB b c = false) : pltB a c = false := by
  unfold pltB at *
  cases ha : pOld a <;> cases hb : pOld b <;> cases hc : pOld c <;> simp [ha, hb, hc] at * <;> omega
theorem pltB_asymm {a b : Int} (h1 : pltB a b = true) : pltB b a = false := by
  cases h : pltB b a
  · rfl
  · have := pltB_trans h1 h
    rw [pltB_irrefl] at this
    cases this
theorem pltB_same {a b : Int} (h1 : pltB a b = false) (h2 : pltB b a = false) : pOld a = pOld b ∧ pIx a = pIx b := by
  unfold pltB at *
  cases ha : pOld a <;> cases hb : pOld b <;> simp [ha, hb] at * <;> omega
def Srt (l : List Int) : Prop := l.Pairwise (fun a b => pltB b a = false)
def ins (x : Int) : List Int → List Int
  | [] => [x]
  | a :: r => if pltB x a = true then x :: a :: r else a :: ins x r
theorem ins_perm (x : Int) : ∀ l : List Int, (ins x l).Perm (x :: l) := by
  intro l
  induction l with
  | nil => exact List.Perm.refl _
  | cons a r ih =>
    unfold ins
    split
    · exact List.Perm.refl _
    · exact (ih.cons a).trans (List.Perm.swap x a r)
theorem ins_srt {x : Int} : ∀ {l : List Int}, Srt l → Srt (ins x l) := by
  intro l
  induction l with
  | nil => intro _; exact List.pairwise_singleton _ _
  | cons a r ih =>
    intro h
    obtain ⟨h1, h2⟩ := List.pairwise_cons.1 h
    unfold ins
    split
    · rename_i hx
      refine List.pairwise_cons.2 ⟨fun b hb => ?_, h⟩
      rcases List.mem_cons.1 hb with rfl | hb
      · exact pltB_asymm hx
      · exact pltB_ntrans (h1 b hb) (pltB_asymm hx)
    · rename_i hx
      have hx : pltB x a = false := by simpa using hx
      refine List.pairwise_cons.2 ⟨fun b hb => ?_, ih h2⟩
      rcases List.mem_cons.1 ((ins_perm x r).mem_iff.1 hb) with rfl | hb
      · exact hx
      · exact h1 b hb
theorem ins_at {x : Int} : ∀ {out : List Int} {k : Nat}, k ≤ out.length → (∀ j a, j < k → out[j]? = some a → pltB x a = false) → (∀ a, out[k]? = some a → pltB x a = true) → out.take k ++ [x] ++ out.drop k = ins x out := by
  intro out
  induction out with
  | nil => intro k _ _ _; simp [ins]
  | cons a r ih =>
    intro k hk h1 h2
    unfold ins
    cases k with
    | zero =>
      have := h2 a rfl
      rw [if_pos this]
      rfl
    | succ k =>
      have := h1 0 a (by omega) rfl
      rw [if_neg (by rw [this]; decide)]
      rw [← ih (k := k) (by simpa using hk) (fun j b hj hb => h1 (j + 1) b (by omega) (by simpa using hb)) (fun b hb => h2 b (by simpa using hb))]
      rfl
def insAll (l : List Int) : List Int := l.foldl (fun out x => ins x out) []
theorem insAll_aux : ∀ (l out : List Int), Srt out → Srt (l.foldl (fun out x => ins x out) out) ∧ (l.foldl (fun out x => ins x out) out).Perm (out ++ l) := by
  intro l
  induction l with
  | nil => intro out h; exact ⟨h, by simp⟩
  | cons x l ih =>
    intro out h
    obtain ⟨h1, h2⟩ := ih (ins x out) (ins_srt h)
    refine ⟨h1, h2.trans ?_⟩
    refine ((ins_perm x out).append_right l).trans ?_
    rw [List.cons_append]
    exact List.perm_middle.symm
theorem insAll_srt (l : List Int) : Srt (insAll l) := (insAll_aux l [] List.Pairwise.nil).1
theorem insAll_perm (l : List Int) : (insAll l).Perm l := (insAll_aux l [] List.Pairwise.nil).2
theorem insAll_snoc (l : List Int) (x : Int) : insAll (l ++ [x]) = ins x (insAll l) := by unfold insAll; rw [List.foldl_append]; rfl
/-- a sorted row of pointers to objects is determined by its elements -/
theorem srt_uniq {B : Bk} (hB : B.pos) {a b : List Int} (h0 : ∀ w ∈ a, 0 ≤ w ∧ ∃ x, Pt B w x) (ha : Srt a) (hb : Srt b) (hp : a.Perm b) : a = b := by
  refine List.Perm.eq_of_pairwise (le := fun a b => pltB b a = false) (fun x y hx hy h1 h2 => ?_) ha hb hp
  obtain ⟨x0, u, hu⟩ := h0 x hx
  obtain ⟨y0, v, hv⟩ := h0 y (hp.mem_iff.2 hy)
  obtain ⟨e1, e2⟩ := pltB_same h2 h1
  exact Pt.inj hB hu hv x0 y0 e1 (by rw [e2])
def pcmp (a b : Int) : Int := if pOld a = pOld b then pIx a - pIx b else if pOld a = true then 1 else -1
theorem pcmp_lt (a b : Int) : decide (pcmp a b < 0) = pltB a b := by
  unfold pcmp pltB
  cases ha : pOld a <;> cases hb : pOld b <;> simp <;> omega
end Go.Proofs.YtegffanlehaloaaGreat.cl
/- What CollectTwice asks of the collections: the pointers to all objects in order; graphs compose; what a second and a third minor collection leave; after a full one all is reachable. Plain Lean. Conditions: as said. -/
namespace Go.Proofs.YtegffanlehaloaaGreat.cl
open Go.RowKit mem words
set_option linter.unusedVariables false
set_option linter.unusedSimpArgs false
set_option maxHeartbeats 1000000
set_option maxRecDepth 100000
theorem SameG.trans {K S T : Bk} {r o p a b c : List Int} (h : SameG K S r o a b) (g : SameG S T o p b c) : SameG K T r p a c where
  len := g.len.trans h.len
  rlen := g.rlen.trans h.rlen
  rt := fun i x z hx hz => by
    have hi := (List.getElem?_eq_some_iff.1 hx).1
    obtain ⟨y, hy⟩ : ∃ y, o[i]? = some y := ⟨_, List.getElem?_eq_getElem (by rw [h.rlen]; exact hi)⟩
    obtain ⟨e1, e2⟩ := h.rt i x y hx hy
    obtain ⟨e3, e4⟩ := g.rt i y z hy hz
    exact ⟨e3.trans e1, e4.trans e2⟩
  kd := fun i x z hx hz => by
    have hi := (List.getElem?_eq_some_iff.1 hx).1
    obtain ⟨y, hy⟩ : ∃ y, b[i]? = some y := ⟨_, List.getElem?_eq_getElem (by rw [h.len]; exact hi)⟩
    obtain ⟨e1, e2⟩ := h.kd i x y hx hy
    obtain ⟨e3, e4⟩ := g.kd i y z hy hz
    exact ⟨e3.trans e1, e4.trans e2⟩
  eq := fun i x z hx hz q u t hu ht => by
    have hi := (List.getElem?_eq_some_iff.1 hx).1
    obtain ⟨y, hy⟩ : ∃ y, b[i]? = some y := ⟨_, List.getElem?_eq_getElem (by rw [h.len]; exact hi)⟩
    obtain ⟨e1, e2⟩ := h.kd i x y hx hy
    have hq := (List.getElem?_eq_some_iff.1 hu).1
    obtain ⟨v, hv⟩ : ∃ v, (wds (ob S y))[q]? = some v := ⟨_, List.getElem?_eq_getElem (by rw [e2]; exact hq)⟩
    obtain ⟨f1, f2⟩ := h.eq i x y hx hy q u v hu hv
    obtain ⟨f3, f4⟩ := g.eq i y z hy hz q v t hv ht
    rw [e1, e2] at f3 f4
    exact ⟨fun hl => (f3 hl).trans (f1 hl), fun hl => ⟨(f4 hl).1.trans (f2 hl).1, (f4 hl).2.trans (f2 hl).2⟩⟩
theorem ptrF_val (b : Bool) (l : List Int) {i : Nat} (hi : i < 100000) : pOk (ptrF b l i) = true ∧ pOld (ptrF b l i) = b ∧ pIx (ptrF b l i) = i ∧ 0 ≤ ptrF b l i := by
  obtain ⟨h0, h1, h2, h3, h4⟩ := ptrW_val (t := if l.getD i 0 % 4 = 0 then 2 else 1) (by split <;> simp) b (n := i) (by omega)
  have he : ptrF b l i = ptrW (if l.getD i 0 % 4 = 0 then 2 else 1) b i := rfl
  rw [← he] at h0 h1 h2 h3
  clear he h4
  generalize ptrF b l i = p at *
  have hr := (pOk_iff p).1 h1
  refine ⟨h1, h2, ?_, h0⟩
  rw [pIx_eq h1] at h3 ⊢
  omega
theorem ptrU_pair {b : Bool} {l : List Int} {f : List Bool} {n : Nat} (hn : n ≤ 100000) : (ptrU b l f n).Pairwise (fun p q => pltB p q = true) := by
  unfold ptrU
  rw [List.pairwise_map]
  refine List.Pairwise.filter _ ?_
  refine (List.pairwise_lt_range (n := n)).imp_of_mem ?_
  intro i j hi hj hlt
  rw [List.mem_range] at hi hj
  obtain ⟨_, a2, a3, _⟩ := ptrF_val b l (i := i) (by omega)
  obtain ⟨_, b2, b3, _⟩ := ptrF_val b l (i := j) (by omega)
  unfold pltB
  rw [a2, b2, a3, b3]
  have : decide ((i : Int) < (j : Int)) = true := decide_eq_true (by omega)
  rw [this]
  cases b <;> rfl
theorem ptrs_pair {m : Mm} {K : Bk} (ly : m.y.length ≤ 100000) (lo : m.o.length ≤ 100000) : (ptrs m K).Pairwise (fun p q => pltB p q = true) := by
  unfold ptrs
  refine List.pairwise_append.2 ⟨ptrU_pair ly, ptrU_pair lo, fun p hp q hq => ?_⟩
  obtain ⟨i, hi, _, ep⟩ := ptrU_mem.1 hp
  obtain ⟨j, hj, _, eq⟩ := ptrU_mem.1 hq
  rw [ep, eq]
  obtain ⟨_, a2, _, _⟩ := ptrF_val false m.y (i := i) (by omega)
  obtain ⟨_, b2, _, _⟩ := ptrF_val true m.o (i := j) (by omega)
  unfold pltB
  rw [a2, b2]
  rfl
theorem ptrs_srt {m : Mm} {K : Bk} (ly : m.y.length ≤ 100000) (lo : m.o.length ≤ 100000) : Srt (ptrs m K) := (ptrs_pair ly lo).imp fun h => pltB_asymm h
theorem ptrs_nodup {m : Mm} {K : Bk} (ly : m.y.length ≤ 100000) (lo : m.o.length ≤ 100000) : (ptrs m K).Nodup := (ptrs_pair ly lo).imp fun h e => by
  subst e
  rw [pltB_irrefl] at h
  cases h
/-- after a full collection all is reachable -/
theorem full_all {m : Mm} {K S : Bk} {roots D I : List Int} (hp : RunPre m K roots) (hi : Inv K m.at_ true [] roots S D I D.length 0) (hs : ∀ r ∈ roots, mov true r = true → r ∈ D) (hl : Ls S (met S (roots.map (lk D I)))) (hsum : S.y.flatten.length + S.o.flatten.length ≤ 5000) :
    (met S (roots.map (lk D I))).Perm (ptrs ⟨S.y.flatten, S.o.flatten, 0⟩ S) := by
  have hd : Done m K true roots S D I := done_of hp hi hs
  have hsh := hd.sh2 (by omega) (by omega)
  have ly : (⟨S.y.flatten, S.o.flatten, 0⟩ : Mm).y.length ≤ 100000 := by show S.y.flatten.length ≤ 100000; omega
  have lo : (⟨S.y.flatten, S.o.flatten, 0⟩ : Mm).o.length ≤ 100000 := by show S.o.flatten.length ≤ 100000; omega
  have hy : Objs (⟨S.y.flatten, S.o.flatten, 0⟩ : Mm).y S.y := hsh.y
  have ho : Objs (⟨S.y.flatten, S.o.flatten, 0⟩ : Mm).o S.o := hsh.o
  refine (List.perm_ext_iff_of_nodup hl.1 (ptrs_nodup ly lo)).2 (fun w => ?_)
  rw [ptrs_mem hy ho]
  constructor
  · intro hw
    obtain ⟨⟨x, hx⟩, w0, _⟩ := hl.2 w hw
    refine ⟨pOld w, (pIx w).toNat, x, hx.2.1, ?_⟩
    obtain ⟨g1, g2, g3, g4, _⟩ := ptrF_pt hy ho ly lo hx.2.1
    refine ptr_eq hx.1 g1.1 w0 g4 g2.symm (by rw [g3]; omega) (hx.2.2.symm.trans g1.2.2)
  · rintro ⟨b, i, x, hx, ew⟩
    rw [ew]
    obtain ⟨g1, g2, g3, g4, _⟩ := ptrF_pt hy ho ly lo hx
    rcases hi.all b i x hx with ⟨_, h⟩ | ⟨p, hpI, ho', hp'⟩
    · exact h.elim
    · obtain ⟨j, hj⟩ := List.getElem?_of_mem hpI
      obtain ⟨d, hdj⟩ : ∃ d, D[j]? = some d := ⟨_, List.getElem?_eq_getElem (by have := (List.getElem?_eq_some_iff.1 hj).1; have := hi.len; omega)⟩
      have hdD := List.mem_of_getElem? hdj
      have hlk : lk D I d = p := lk_get hi.nd hdj hj
      obtain ⟨_, c2, c3, c4, c5, _⟩ := hd.copy hdD
      rw [hlk] at c2 c3 c4 c5
      have hxe : ob S p = x := by
        have h5 := c5.2.1
        rw [ho', hp'] at h5
        exact At.uniq ((hi.pos).s b) h5 hx
      have hpe : ptrF b ((⟨S.y.flatten, S.o.flatten, 0⟩ : Mm).s b) i = p := by
        refine ptr_eq g1.1 c2 g4 c3 (g2.trans ho'.symm) (by rw [g3, hp']; omega) (g1.2.2.symm.trans ?_)
        rw [← hxe]
        exact c5.2.2
      rw [hpe, hd.met]
      refine List.mem_map.2 ⟨d, ?_, hlk⟩
      have := (hd.mem d).1 hdD
      exact (List.mem_filter.1 this).1
/-- a minor collection of a memory all of whose young words lie below the mark leaves none young -/
theorem none_young {m : Mm} {K S : Bk} {roots D I : List Int} (hd : Done m K false roots S D I) (hm : m.at_ = m.y.length) : S.y.flatten = [] := by
  refine List.eq_nil_of_length_eq_zero ?_
  rw [hd.minorY]
  unfold szAbove
  have : (met K roots).map (fun w => if pOld w = false ∧ ¬ pIx w < m.at_ then (ob K w).length else 0) = (met K roots).map (fun _ => 0) := by
    refine List.map_congr_left (fun w hw => ?_)
    rw [if_neg]
    rintro ⟨h1, h2⟩
    obtain ⟨x, hx⟩ := (hd.met_cl w hw).1
    have hb := hx.2.1.bound
    have hp := (hd.sh.pos.s _) x hx.2.1.mem
    rw [h1] at hb
    have e : (K.s false).flatten.length = m.y.length := by show K.y.flatten.length = _; rw [hd.sh.y.1]
    rw [e] at hb
    omega
  rw [this]
  clear this
  induction met K roots with
  | nil => rfl
  | cons d l ih => rw [List.map_cons, List.sum_cons, ih]
/-- a minor collection of a memory without young words changes nothing -/
theorem none_moves {m : Mm} {K S : Bk} {roots D I : List Int} (hd : Done m K false roots S D I) (hm : m.y = []) : S.y.flatten = [] ∧ S.o.flatten = m.o ∧ roots.map (lk D I) = roots := by
  have hD : D = [] := by
    cases D with
    | nil => rfl
    | cons d D =>
      obtain ⟨⟨x, hx⟩, h2, _⟩ := hd.inv.src d List.mem_cons_self
      have ho := mov_young h2
      have hb := hx.2.1.bound
      have hp := (hd.sh.pos.s _) x hx.2.1.mem
      rw [ho] at hb
      have e : (K.s false).flatten.length = m.y.length := by show K.y.flatten.length = _; rw [hd.sh.y.1]
      have h0 : m.y.length = 0 := by rw [hm]; rfl
      rw [e] at hb
      omega
  subst hD
  have h1 := hd.inv.sy
  have h2 := hd.inv.so
  have h3 := hd.base_flat rfl
  have h2 : S.o.flatten.length = K.o.flatten.length + 0 := h2
  refine ⟨List.eq_nil_of_length_eq_zero h1, ?_, ?_⟩
  · refine List.ext_getElem? (fun i => ?_)
    cases hi : m.o[i]? with
    | some u => exact hd.prefixO i u hi
    | none =>
      have := List.getElem?_eq_none_iff.1 hi
      exact List.getElem?_eq_none_iff.2 (by omega)
  · have : roots.map (lk [] I) = roots.map id := List.map_congr_left (fun r _ => lk_not (by simp))
    rw [this, List.map_id]
end Go.Proofs.YtegffanlehaloaaGreat.cl

/- spoil: words of rows of the call's own are overwritten. Conditions: the rows are the call's own. -/
namespace Go.Proofs.YtegffanlehaloaaGreat.cl
open Go.RowKit mem words
set_option linter.unusedVariables false
set_option linter.unusedSimpArgs false
set_option maxHeartbeats 4000000
set_option maxRecDepth 100000

/-- a row of the call's own that may be overwritten -/
theorem own_store {w : World} {base : Nat} {p : Option Addr} {n c : Nat} {l : List Int} (h : WOwn w base (.slice p n c) l) {i : Nat} (hi : i < n) :
    ∃ g x, p = some ⟨g, 0, none⟩ ∧ n = l.length ∧ base ≤ g ∧ g < w.heap.size ∧ w.cell? ⟨g, i, none⟩ = some (.int .u64 x) ∧ (∀ o, w.frozen? ⟨g, o, none⟩ = false) := by
  rcases h.2 with ⟨e, h2⟩ | ⟨g, cap, cur, e, hg, hc, h4⟩
  · simp only [Value.slice.injEq] at e
    omega
  · simp only [Value.slice.injEq] at e
    obtain ⟨rfl, hn, rfl⟩ := e
    subst hn
    exact ⟨g, _, rfl, rfl, hg, (Array.getElem?_eq_some_iff.1 hc).1, h.cells hi, fun o => by simp [World.frozen?, hc]⟩
/-- three rows of the call's own, in blocks of their own -/
structure Three (w : World) (base : Nat) (v1 v2 v3 : Value) (a b c : List Int) : Prop where
  x1 : WOwn w base v1 a
  x2 : WOwn w base v2 b
  x3 : WOwn w base v3 c
  d12 : ∀ k, v1.ownBlock = some k → v2.ownBlock ≠ some k
  d13 : ∀ k, v1.ownBlock = some k → v3.ownBlock ≠ some k
  d23 : ∀ k, v2.ownBlock = some k → v3.ownBlock ≠ some k
section
variable {w w' : World} {base g n c : Nat} {v1 v2 v3 : Value} {x y z : List Int}
theorem Three.below (h : Three w base v1 v2 v3 x y z) (hb : Below w.heap.size w w') : Three w' base v1 v2 v3 x y z := ⟨h.x1.below hb, h.x2.below hb, h.x3.below hb, h.d12, h.d13, h.d23⟩
theorem Three.set1 (h : Three w base (.slice (some ⟨g, 0, none⟩) n c) v2 v3 x y z) (i : Nat) (u : Int) : Three (w.setCell ⟨g, i, none⟩ (.int .u64 u)) base (.slice (some ⟨g, 0, none⟩) n c) v2 v3 (x.set i u) y z :=
  ⟨h.x1.set i u, ownBlock_same h.x2 (fun k hk => setC_same w g i _ (fun e => h.d12 g rfl (e ▸ hk))), ownBlock_same h.x3 (fun k hk => setC_same w g i _ (fun e => h.d13 g rfl (e ▸ hk))), h.d12, h.d13, h.d23⟩
theorem Three.set2 (h : Three w base v1 (.slice (some ⟨g, 0, none⟩) n c) v3 x y z) (i : Nat) (u : Int) : Three (w.setCell ⟨g, i, none⟩ (.int .u64 u)) base v1 (.slice (some ⟨g, 0, none⟩) n c) v3 x (y.set i u) z :=
  ⟨ownBlock_same h.x1 (fun k hk => setC_same w g i _ (fun e => h.d12 k hk (by rw [e]; rfl))), h.x2.set i u, ownBlock_same h.x3 (fun k hk => setC_same w g i _ (fun e => h.d23 g rfl (e ▸ hk))), h.d12, h.d13, h.d23⟩
theorem Three.set3 (h : Three w base v1 v2 (.slice (some ⟨g, 0, none⟩) n c) x y z) (i : Nat) (u : Int) : Three (w.setCell ⟨g, i, none⟩ (.int .u64 u)) base v1 v2 (.slice (some ⟨g, 0, none⟩) n c) x y (z.set i u) :=
  ⟨ownBlock_same h.x1 (fun k hk => setC_same w g i _ (fun e => h.d13 k hk (by rw [e]; rfl))), ownBlock_same h.x2 (fun k hk => setC_same w g i _ (fun e => h.d23 k hk (by rw [e]; rfl))), h.x3.set i u, h.d12, h.d13, h.d23⟩
end
end Go.Proofs.YtegffanlehaloaaGreat.cl

/- spoil f12. Conditions: the rows are the call's own. -/
namespace Go.Proofs.YtegffanlehaloaaGreat.cl
open Go.RowKit mem words
set_option linter.unusedVariables false
set_option linter.unusedSimpArgs false
set_option maxHeartbeats 4000000
set_option maxRecDepth 100000

/-- the blocks of three rows -/
def OwnS (v1 v2 v3 : Value) (k : Nat) : Prop := v1.ownBlock = some k ∨ v2.ownBlock = some k ∨ v3.ownBlock = some k
end Go.Proofs.YtegffanlehaloaaGreat.cl
