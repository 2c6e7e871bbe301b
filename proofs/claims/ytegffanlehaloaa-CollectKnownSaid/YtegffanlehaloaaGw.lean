/- Several texts in one, one behind the other: CqP, CqQ, CqR, CqS, CqT, CqU, CqV, CqW, CqX, CrA. No condition beyond theirs. -/
import Derived.Test.YtegffanlehaloaaGv
import Derived.Test.YtegffanlehaloaaGu
import Derived.Lib.SliceRun
import Derived.Deep.Onto
import Derived.Deep.LoopGhost
import Derived.Test.YtegffanlehaloaaGm
import Derived.Test.YtegffanlehaloaaGc
/- Clone, result, Full. Conditions: the areas and roots lie in memory. -/
namespace Go.Proofs.Ytegffanlehaloaa.cl
open Go.RowKit mem words
set_option linter.unusedVariables false
set_option linter.unusedSimpArgs false
set_option maxHeartbeats 4000000
set_option maxRecDepth 100000

theorem results_cell3 {fn : Func} {p u v : Tmp} {ty : TypeId} (h : fn.results = #[.cell p ty, .tmp u, .tmp v]) (tmps : Array Value) (P : Program) (w : World) :
    (results fn tmps).run P w = ((asAddr (tmps.getD p undef)).run P w).andThen fun a w₁ => ((loadVar ty a).run P w₁).andThen fun x w₂ => .ok (.tuple #[x, tmps.getD u undef, tmps.getD v undef]) w₂ := by
  simp only [results, h]
  simp [Sem.run_bind, Result.andThen]
theorem result29 (w : World) (z : Nat) (vY vO vC vF1 vF2 : Value) (mk at_ : Int) (full : Bool) (mp : Value) (p : Option Addr) (n c : Nat) (h : w.heap[z]? = some (.cells #[vY, vO, .int .i64 mk, vF1, vF2, .int .i64 at_, .bool full, mp, vC] 56)) (pY pO : Option Addr) (nY cY nO cO : Nat) (eY : vY = .slice pY nY cY) (eO : vO = .slice pO nO cO) :
    Calls Try.prog 29 #[.pointer (some ⟨z, 0, none⟩), .slice p n c] w fun e w' => e = .returned (.tuple #[.agg #[vY, vO, .int .i64 mk], .slice p n c, .int .i64 0]) ∧ Below w.heap.size w w' := by
  have hz : z < w.heap.size := (Array.getElem?_eq_some_iff.1 h).1
  have HW := Lib.hid (fun W (hb : Below w.heap.size w W) => nine_cells ((hb.block z hz).trans h))
  obtain ⟨n0, n1, n2, n3, n4, n5, n6, n7, n8, nf⟩ := nine_cells h
  have hne : z ≠ w.heap.size := Nat.ne_of_lt hz
  clear h
  subst eY eO
  go_enter Try.func29, Try.ntmps29
  go_wp2_with fail
  (try simp only [Exit.inBlock, Exit.then])
  have HB : Hid (Below w.heap.size w (w.alloc (.cells #[.slice pY nY cY, .slice pO nO cO, .int .i64 mk] 24))) := Lib.hid ((Below.refl _ _).alloc (Nat.le_refl _) _)
  refine bodyPost_ret (v := .tuple #[.agg #[.slice pY nY cY, .slice pO nO cO, .int .i64 mk], .slice p n c, .int .i64 0]) ?_ rfl ⟨rfl, HB.out⟩
  rw [results_cell3 rfl]
  go_simp

/-- what Full gives -/
def FullP (m : Mm) (roots : List Int) (w : World) (e : Ending) (w' : World) : Prop :=
  Below w.heap.size w w' ∧ (((∃ K, Sh m K ∧ ∀ v ∈ roots, Tm K v) ∧ ∃ base vY vO vT K S D I, w.heap.size ≤ base ∧ e = .returned (.tuple #[.agg #[vY, vO, .int .i64 0], vT, .int .i64 0]) ∧ WOwn w' base vY S.y.flatten ∧ WOwn w' base vO S.o.flatten ∧ WOwn w' base vT (roots.map (lk D I)) ∧ (∀ k, vY.ownBlock = some k → vO.ownBlock ≠ some k ∧ vT.ownBlock ≠ some k) ∧ (∀ k, vO.ownBlock = some k → vT.ownBlock ≠ some k) ∧ RunPre m K roots ∧ Inv K m.at_ true [] roots S D I D.length 0 ∧ (∀ r ∈ roots, mov true r = true → r ∈ D)) ∨
    ((¬ ∃ K, Sh m K ∧ ∀ v ∈ roots, Tm K v) ∧ e = .returned (.tuple #[.agg #[.slice none 0 0, .slice none 0 0, .int .i64 0], .slice none 0 0, .int .i64 6])))
theorem own_shape {w : World} {base : Nat} {v : Value} {l : List Int} (h : WOwn w base v l) : ∃ p n c, v = .slice p n c := by
  obtain ⟨p, c, e⟩ := h.shape
  exact ⟨p, _, c, e⟩
theorem full10 (w : World) (B : Nat) (v1 v2 : Value) (pr : Option Addr) (cr : Nat) (m : Mm) (roots : List Int) (hB : B ≤ w.heap.size) (h1 : WAt w B v1 m.y) (h2 : WAt w B v2 m.o) (w1 : Wds m.y) (w2 : Wds m.o) (lt : m.y.length + m.o.length ≤ 5000) (hr : WAt w B (.slice pr roots.length cr) roots) (wr : Wds roots) (lr : roots.length ≤ 100000) :
    Calls Try.prog 10 #[.agg #[v1, v2, .int .i64 m.at_], .slice pr roots.length cr] w (FullP m roots w) := by
  have HFt := Lib.hid (fun W (hb : Below w.heap.size w W) => fits28 W B v1 v2 (.slice pr roots.length cr) m roots (Nat.le_trans hB hb.size) (h1.below hb hB) (h2.below hb hB) w1 w2 (by omega) (by omega) (hr.below hb hB) wr lr)
  obtain ⟨p1, c1, e1, _⟩ := id h1
  obtain ⟨p2, c2, e2, _⟩ := id h2
  have H1 := Lib.hid h1
  have H2 := Lib.hid h2
  have H3 := Lib.hid hr
  have hmm := @run_makeMap Try.prog
  have HBB := Lib.hid hB
  clear h1 h2 hr hB
  subst e1 e2
  have HA0 : Hid (∀ W, Below ((w.alloc (.cells #[.slice p1 m.y.length c1, .slice p2 m.o.length c2, .int .i64 m.at_] 24)).alloc (.cells #[.slice none 0 0, .slice none 0 0, .int .i64 0] 24)).heap.size ((w.alloc (.cells #[.slice p1 m.y.length c1, .slice p2 m.o.length c2, .int .i64 m.at_] 24)).alloc (.cells #[.slice none 0 0, .slice none 0 0, .int .i64 0] 24)) W → W.heap[w.heap.size]? = some (.cells #[.slice p1 m.y.length c1, .slice p2 m.o.length c2, .int .i64 m.at_] 24) ∧ W.heap[w.heap.size + 1]? = some (.cells #[.slice none 0 0, .slice none 0 0, .int .i64 0] 24) ∧ w.heap.size + 1 + 1 ≤ W.heap.size ∧ Below w.heap.size w W) := Lib.hid (fun W hb => by
    have hs := hb.size
    rw [World.size_alloc, World.size_alloc] at hs
    refine ⟨(hb.block _ (by rw [World.size_alloc, World.size_alloc]; omega)).trans ((Below.heap_alloc _ _ _ (by rw [World.size_alloc]; omega)).trans (World.alloc_heap_new w _)), (hb.block _ (by rw [World.size_alloc, World.size_alloc]; omega)).trans ?_, hs, below_call (belowA (belowA (Below.refl _ _) _) _) hb⟩
    have := World.alloc_heap_new (w.alloc (.cells #[.slice p1 m.y.length c1, .slice p2 m.o.length c2, .int .i64 m.at_] 24)) (.cells #[.slice none 0 0, .slice none 0 0, .int .i64 0] 24)
    rw [World.size_alloc] at this
    exact this)
  go_enter Try.func10, Try.ntmps10
  go_wp2_with fail
  refine (HFt.out _ (belowA (belowA (Below.refl _ _) _) _)).mono ?_
  rintro e W1 ⟨r, rfl, hr, hb⟩
  obtain ⟨hA, hC, hsz, hbw⟩ := HA0.out W1 hb
  obtain ⟨a0, a1, a2, af⟩ := three_cells hA
  obtain ⟨d0, d1, d2, df⟩ := three_cells hC
  clear hb HA0 HFt
  have HC := Lib.hid hC
  have HBw := Lib.hid hbw
  have HR := Lib.hid hr
  clear hA hC hbw hr
  cases r
  · go_wp2_with fail
    (try simp only [Exit.inBlock, Exit.then])
    refine bodyPost_ret (v := .tuple #[.agg #[.slice none 0 0, .slice none 0 0, .int .i64 0], .slice none 0 0, .int .i64 6]) ?_ rfl ⟨?_, .inr ⟨fun h => Bool.noConfusion (HR.out.2 h), rfl⟩⟩
    · rw [results_cell3 rfl]
      go_simp
    · exact ((HBw.out.setCell (Nat.le_succ _) _).setCell (Nat.le_succ _) _).setCell (Nat.le_succ _) _
  · obtain ⟨K, hK, hT⟩ := HR.out.1 rfl
    have HPr : Hid (RunPre m K roots) := Lib.hid ⟨hK, w1, w2, lt, fun r hr => ⟨hT r hr, wr r hr⟩, lr⟩
    have hE := HR.out.1 rfl
    have HE := Lib.hid hE
    clear hK hT hE
    go_wp2_with fail
    have hbZ : Below w.heap.size w ((W1.alloc (.map #[] 0)).alloc (.cells #[.slice none 0 0, .slice none 0 0, .int .i64 0, .slice p1 m.y.length c1, .slice p2 m.o.length c2, .int .i64 m.at_, .bool true, .map (some W1.heap.size), .slice none 0 0] 56)) := belowA (belowA HBw.out _) _
    have hblk := World.alloc_heap_new (W1.alloc (.map #[] 0)) (.cells #[.slice none 0 0, .slice none 0 0, .int .i64 0, .slice p1 m.y.length c1, .slice p2 m.o.length c2, .int .i64 m.at_, .bool true, .map (some W1.heap.size), .slice none 0 0] 56)
    rw [World.size_alloc] at hblk
    have hle : w.heap.size ≤ W1.heap.size := by omega
    have hmp := (MapIs.made (Value.int .u64) W1).same (w' := (W1.alloc (.map #[] 0)).alloc (.cells #[.slice none 0 0, .slice none 0 0, .int .i64 0, .slice p1 m.y.length c1, .slice p2 m.o.length c2, .int .i64 m.at_, .bool true, .map (some W1.heap.size), .slice none 0 0] 56)) (Below.heap_alloc _ _ _ (by rw [World.size_alloc]; omega))
    have HC2 : Hid (((W1.alloc (.map #[] 0)).alloc (.cells #[.slice none 0 0, .slice none 0 0, .int .i64 0, .slice p1 m.y.length c1, .slice p2 m.o.length c2, .int .i64 m.at_, .bool true, .map (some W1.heap.size), .slice none 0 0] 56)).heap[w.heap.size + 1]? = some (.cells #[.slice none 0 0, .slice none 0 0, .int .i64 0] 24)) := Lib.hid ((Below.heap_alloc _ _ _ (by rw [World.size_alloc]; omega)).trans ((Below.heap_alloc _ _ _ (by omega)).trans HC.out))
    generalize ((W1.alloc (.map #[] 0)).alloc (.cells #[.slice none 0 0, .slice none 0 0, .int .i64 0, .slice p1 m.y.length c1, .slice p2 m.o.length c2, .int .i64 m.at_, .bool true, .map (some W1.heap.size), .slice none 0 0] 56)) = W2 at *
    have hcol : ColAt W2 (W1.heap.size + 1) W1.heap.size W1.heap.size (.slice none 0 0) (.slice none 0 0) (.slice none 0 0) (.slice p1 m.y.length c1) (.slice p2 m.o.length c2) m 0 true ⟨[], base0 true K⟩ [] [] [] :=
      ⟨hblk, WOwn.nil _ _, WOwn.nil _ _, WOwn.nil _ _, hmp, (H1.out.below hbZ HBB.out).more (Nat.le_trans HBB.out hle), (H2.out.below hbZ HBB.out).more (Nat.le_trans HBB.out hle), Nat.le_succ _, Nat.le_refl _, Nat.succ_ne_self _, by simp [Value.ownBlock], by simp [Value.ownBlock], by simp [Value.ownBlock], by simp [Value.ownBlock], by simp [Value.ownBlock]⟩
    have HRun := Lib.hid (run30 W2 (W1.heap.size + 1) W1.heap.size W1.heap.size _ _ _ _ _ m K 0 true roots pr cr hcol HPr.out ((H3.out.below hbZ HBB.out).more (Nat.le_trans HBB.out hle)))
    have HBz := Lib.hid hbZ
    have HLe : Hid (w.heap.size + 1 < W1.heap.size) := Lib.hid (by omega)
    clear hblk hcol hbZ hmp hle a0 a1 a2 af d0 d1 d2 df
    refine HRun.out.mono ?_
    rintro e W3 ⟨vY, vO, vC, vT, S, D, I, rfl, hRun, hInv, hSt, hB3⟩
    obtain ⟨pY, nY, cY, eY⟩ := own_shape hRun.col.ry
    obtain ⟨pO, nO, cO, eO⟩ := own_shape hRun.col.ro
    obtain ⟨pT, nT, cT, eT⟩ := own_shape hRun.out
    subst eT
    have HRs := Lib.hid (result29 W3 (W1.heap.size + 1) vY vO vC _ _ 0 m.at_ true _ pT nT cT hRun.col.blk pY pO nY cY nO cO eY eO)
    have HC3 : Hid (∀ W4, Below W3.heap.size W3 W4 → W4.heap[w.heap.size + 1]? = some (.cells #[.slice none 0 0, .slice none 0 0, .int .i64 0] 24)) := Lib.hid (fun W4 hb4 => (hb4.block _ (Nat.lt_trans HLe.out hRun.col.le)).trans ((hB3.block _ HLe.out).trans HC2.out))
    have HEnd : Hid (∀ W4 W5, Below W3.heap.size W3 W4 → W5 = (((W4.setCell ⟨w.heap.size + 1, 0, none⟩ vY).setCell ⟨w.heap.size + 1, 1, none⟩ vO).setCell ⟨w.heap.size + 1, 2, none⟩ (.int .i64 0)) → FullP m roots w (.returned (.tuple #[.agg #[vY, vO, .int .i64 0], .slice pT nT cT, .int .i64 0])) W5) := Lib.hid (by
      rintro W4 W5 hb4 rfl
      have hR4 := hRun.below hb4
      have own : ∀ {v : Value} {l : List Int}, WOwn W4 W1.heap.size v l → WOwn (((W4.setCell ⟨w.heap.size + 1, 0, none⟩ vY).setCell ⟨w.heap.size + 1, 1, none⟩ vO).setCell ⟨w.heap.size + 1, 2, none⟩ (.int .i64 0)) W1.heap.size v l := fun {v l} h => ownBlock_same h (fun k hk => by
        have h1 := (h.ge k hk).1
        have h2 := HLe.out
        have h3 : k ≠ w.heap.size + 1 := by omega
        rw [setC_same _ _ _ _ h3, setC_same _ _ _ _ h3, setC_same _ _ _ _ h3])
      have hle : w.heap.size ≤ W1.heap.size := by have := HLe.out; omega
      refine ⟨((((HBz.out.trans ((hB3.mono hle).trans (hb4.mono (Nat.le_trans hle (Nat.le_of_lt hRun.col.le))))).setCell (Nat.le_succ _) _).setCell (Nat.le_succ _) _).setCell (Nat.le_succ _) _), .inl ⟨HE.out, W1.heap.size, vY, vO, _, K, S, D, I, hle, rfl, own hR4.col.ry, own hR4.col.ro, own hR4.out, fun k hk => ⟨hR4.col.dyo k hk, fun e => hR4.outf k e (.inr (.inr (.inl hk)))⟩, fun k hk e => hR4.outf k e (.inr (.inr (.inr (.inl hk)))), HPr.out, hInv, hSt⟩⟩)
    clear hRun hInv hSt hB3 HRun HBz
    subst eY eO
    go_wp2_with fail
    refine HRs.out.mono ?_
    rintro e W4 ⟨rfl, hb4⟩
    obtain ⟨d0, d1, d2, df⟩ := three_cells (HC3.out W4 hb4)
    have HEn := Lib.hid (HEnd.out W4 _ hb4 rfl)
    clear HC3 HEnd hb4 HRs
    go_wp2_with fail
    (try simp only [Exit.inBlock, Exit.then])
    refine bodyPost_ret (v := .tuple #[.agg #[.slice pY nY cY, .slice pO nO cO, .int .i64 0], .slice pT nT cT, .int .i64 0]) ?_ rfl HEn.out
    rw [results_cell3 rfl]
    go_simp
end Go.Proofs.Ytegffanlehaloaa.cl
/- Clone of a row of words. Conditions: the row lies in memory. -/
namespace Go.Proofs.Ytegffanlehaloaa.cl
open Go.RowKit mem words
set_option linter.unusedVariables false
set_option linter.unusedSimpArgs false
set_option maxHeartbeats 4000000
set_option maxRecDepth 100000

theorem clone36 (w : World) (B : Nat) (v : Value) (l : List Int) (h : WAt w B v l) (hB : B ≤ w.heap.size) (hl : l.length ≤ 100000) :
    Calls Try.prog 36 #[v] w fun e w' => ∃ v', e = .returned v' ∧ WOwn w' w.heap.size v' l ∧ Below w.heap.size w w' := by
  have q22 : ∀ (w : World) (a : Option Addr) (n c n' c' : Nat), (binOp .eql 22 (.slice a n c) (.slice none n' c')).run Try.prog w = .ok (.bool a.isNone) w := fun w a n c n' c' => Lib.run_eql_slice_nil w _ _ a n c n' c' Try.underlying22
  obtain ⟨p, c, rfl, h1, h2, h3⟩ := h
  cases p with
  | none =>
    have hn : l = [] := by
      cases l with
      | nil => rfl
      | cons x l =>
        obtain ⟨g, o, e, _⟩ := h3 (by simp)
        simp at e
    subst hn
    clear h1 h2 h3
    go_enter Try.func36, Try.ntmps36
    go_wp2_with fail
    go_ret
    exact ⟨_, rfl, WOwn.nil _ _, Below.refl _ _⟩
  | some ad =>
    have HC : Hid (∀ j x, l[j]? = some x → w.cell? (ad.add j) = some (.int .u64 x)) := Lib.hid (fun j x hj => by
      obtain ⟨hj1, hj2⟩ := List.getElem?_eq_some_iff.1 hj
      obtain ⟨g, o, e, _, hc⟩ := h3 (fun e => by subst e; simp at hj1)
      cases e
      have := hc j hj1
      rw [hj2] at this
      rw [Addr.add_lit]
      exact this)
    clear h1 h2 h3
    have HO : Hid (WOwn (w.alloc (.cells #[] 34)) w.heap.size (.slice (some ⟨w.heap.size, 0, none⟩) 0 0) []) := Lib.hid (World.ownsRow_made w #[] 0 (Nat.le_refl _) (Nat.zero_le _) (by simp))
    go_enter Try.func36, Try.ntmps36
    go_wp2_with (at_builtin; refine wpList_append_words rfl (.tmp 5) (.tmp 6) rfl rfl HO.out (by simp) ad l.length c l rfl rfl (fun j x hj => Lib.cell?_alloc_some _ (HC.out j x hj)) (by simp; omega) ?_; intro v' w1 ha; have HA := Lib.hid ha; clear ha)
    go_ret
    refine ⟨v', rfl, HA.out.own, ?_⟩
    exact ((Below.refl _ w).alloc (Nat.le_refl _) _).grown HA.out.grown (by simp) (by intro k hk; have hk' : some w.heap.size = some k := hk; cases hk'; exact Nat.le_refl _)
end Go.Proofs.Ytegffanlehaloaa.cl
/- Minor. Conditions: the areas and roots lie in memory. -/
namespace Go.Proofs.Ytegffanlehaloaa.cl
open Go.RowKit mem words
set_option linter.unusedVariables false
set_option linter.unusedSimpArgs false
set_option maxHeartbeats 4000000
set_option maxRecDepth 100000

/-- what Minor gives -/
def MinorP (m : Mm) (roots : List Int) (w : World) (e : Ending) (w' : World) : Prop :=
  Below w.heap.size w w' ∧ (((∃ K, Sh m K ∧ ∀ v ∈ roots, Tm K v) ∧ ∃ base vY vO vT K S D I, w.heap.size ≤ base ∧ e = .returned (.tuple #[.agg #[vY, vO, .int .i64 S.y.flatten.length], vT, .int .i64 0]) ∧ WOwn w' base vY S.y.flatten ∧ WOwn w' base vO S.o.flatten ∧ WOwn w' base vT (roots.map (lk D I)) ∧ (∀ k, vY.ownBlock = some k → vO.ownBlock ≠ some k ∧ vT.ownBlock ≠ some k) ∧ (∀ k, vO.ownBlock = some k → vT.ownBlock ≠ some k) ∧ RunPre m K roots ∧ Inv K m.at_ false K.o roots S D I D.length 0 ∧ (∀ r ∈ roots, mov false r = true → r ∈ D)) ∨
    ((¬ ∃ K, Sh m K ∧ ∀ v ∈ roots, Tm K v) ∧ e = .returned (.tuple #[.agg #[.slice none 0 0, .slice none 0 0, .int .i64 0], .slice none 0 0, .int .i64 6])))
theorem leafB {W W5 : World} {B2 : Nat} {vO : Value} {l : List Int} (o : Obj) (ho : WOwn W5 B2 vO l) (h2 : W.heap.size ≤ B2) (hb : Below W.heap.size W W5) : ((W5.alloc (.map #[] 0)).alloc o).heap[W5.heap.size + 1]? = some o ∧ WOwn ((W5.alloc (.map #[] 0)).alloc o) W.heap.size vO l ∧ ((W5.alloc (.map #[] 0)).alloc o).heap[W5.heap.size]? = some (.map #[] 0) ∧ Below W.heap.size W ((W5.alloc (.map #[] 0)).alloc o) ∧ W.heap.size ≤ W5.heap.size + 1 ∧ W.heap.size ≤ W5.heap.size ∧ W5.heap.size + 1 ≠ W5.heap.size ∧ vO.ownBlock ≠ some (W5.heap.size + 1) ∧ vO.ownBlock ≠ some W5.heap.size := by
  have hs := hb.size
  have h1 := World.alloc_heap_new (W5.alloc (.map #[] 0)) o
  rw [World.size_alloc] at h1
  refine ⟨h1, World.ownsRow.mono (ho.below (belowA (belowA (Below.refl _ _) _) _)) h2, (Below.heap_alloc _ _ _ (by rw [World.size_alloc]; omega)).trans (World.alloc_heap_new W5 _), belowA (belowA hb _) _, by omega, hs, by omega, fun e => ?_, fun e => ?_⟩
  · have := (ho.ge _ e).2; omega
  · have := (ho.ge _ e).2; omega
theorem leafA {W W5 : World} {B2 : Nat} {vO : Value} {l : List Int} (o : Obj) (ho : WOwn W5 B2 vO l) (h2 : W.heap.size < B2) (hb : Below W.heap.size W W5) (hm : W5.heap[W.heap.size]? = some (.map #[] 0)) : (W5.alloc o).heap[W5.heap.size]? = some o ∧ WOwn (W5.alloc o) W.heap.size vO l ∧ (W5.alloc o).heap[W.heap.size]? = some (.map #[] 0) ∧ Below W.heap.size W (W5.alloc o) ∧ W.heap.size ≤ W5.heap.size ∧ W.heap.size ≤ W.heap.size ∧ W5.heap.size ≠ W.heap.size ∧ vO.ownBlock ≠ some W5.heap.size ∧ vO.ownBlock ≠ some W.heap.size := by
  have hs := hb.size
  have hlt := (Array.getElem?_eq_some_iff.1 hm).1
  refine ⟨World.alloc_heap_new W5 o, World.ownsRow.mono (ho.below (belowA (Below.refl _ _) _)) (Nat.le_of_lt h2), (Below.heap_alloc _ _ _ hlt).trans hm, belowA hb _, hs, Nat.le_refl _, by omega, fun e => ?_, fun e => ?_⟩
  · have := (ho.ge _ e).2; omega
  · have := (ho.ge _ e).1; omega
theorem minor16 (w : World) (B : Nat) (v1 v2 : Value) (pr : Option Addr) (cr : Nat) (m : Mm) (roots : List Int) (hB : B ≤ w.heap.size) (h1 : WAt w B v1 m.y) (h2 : WAt w B v2 m.o) (w1 : Wds m.y) (w2 : Wds m.o) (lt : m.y.length + m.o.length ≤ 5000) (hr : WAt w B (.slice pr roots.length cr) roots) (wr : Wds roots) (lr : roots.length ≤ 100000) :
    Calls Try.prog 16 #[.agg #[v1, v2, .int .i64 m.at_], .slice pr roots.length cr] w (MinorP m roots w) := by
  have HFt := Lib.hid (fun W (hb : Below w.heap.size w W) => fits28 W B v1 v2 (.slice pr roots.length cr) m roots (Nat.le_trans hB hb.size) (h1.below hb hB) (h2.below hb hB) w1 w2 (by omega) (by omega) (hr.below hb hB) wr lr)
  have hmm := @run_makeMap Try.prog
  obtain ⟨p1, c1, e1, _⟩ := id h1
  obtain ⟨p2, c2, e2, _⟩ := id h2
  have H1 := Lib.hid h1
  have H2 := Lib.hid h2
  have H3 := Lib.hid hr
  have HBB := Lib.hid hB
  have HCl := Lib.hid (fun W (hb : Below w.heap.size w W) => clone36 W B v2 m.o (h2.below hb hB) (Nat.le_trans hB hb.size) (by omega))
  clear h1 h2 hr hB
  subst e1 e2
  have HA0 : Hid (∀ W, Below ((w.alloc (.cells #[.slice p1 m.y.length c1, .slice p2 m.o.length c2, .int .i64 m.at_] 24)).alloc (.cells #[.slice none 0 0, .slice none 0 0, .int .i64 0] 24)).heap.size ((w.alloc (.cells #[.slice p1 m.y.length c1, .slice p2 m.o.length c2, .int .i64 m.at_] 24)).alloc (.cells #[.slice none 0 0, .slice none 0 0, .int .i64 0] 24)) W → W.heap[w.heap.size]? = some (.cells #[.slice p1 m.y.length c1, .slice p2 m.o.length c2, .int .i64 m.at_] 24) ∧ W.heap[w.heap.size + 1]? = some (.cells #[.slice none 0 0, .slice none 0 0, .int .i64 0] 24) ∧ w.heap.size + 1 + 1 ≤ W.heap.size ∧ Below w.heap.size w W) := Lib.hid (fun W hb => by
    have hs := hb.size
    rw [World.size_alloc, World.size_alloc] at hs
    refine ⟨(hb.block _ (by rw [World.size_alloc, World.size_alloc]; omega)).trans ((Below.heap_alloc _ _ _ (by rw [World.size_alloc]; omega)).trans (World.alloc_heap_new w _)), (hb.block _ (by rw [World.size_alloc, World.size_alloc]; omega)).trans ?_, hs, below_call (belowA (belowA (Below.refl _ _) _) _) hb⟩
    have := World.alloc_heap_new (w.alloc (.cells #[.slice p1 m.y.length c1, .slice p2 m.o.length c2, .int .i64 m.at_] 24)) (.cells #[.slice none 0 0, .slice none 0 0, .int .i64 0] 24)
    rw [World.size_alloc] at this
    exact this)
  go_enter Try.func16, Try.ntmps16
  go_wp2_with fail
  refine (HFt.out _ (belowA (belowA (Below.refl _ _) _) _)).mono ?_
  rintro e W1 ⟨r, rfl, hr, hb⟩
  obtain ⟨hA, hC, hsz, hbw⟩ := HA0.out W1 hb
  obtain ⟨a0, a1, a2, af⟩ := three_cells hA
  obtain ⟨d0, d1, d2, df⟩ := three_cells hC
  clear hb HA0 HFt
  have HC := Lib.hid hC
  have HBw := Lib.hid hbw
  have HR := Lib.hid hr
  clear hA hC hbw hr
  cases r
  · go_wp2_with fail
    (try simp only [Exit.inBlock, Exit.then])
    refine bodyPost_ret (v := .tuple #[.agg #[.slice none 0 0, .slice none 0 0, .int .i64 0], .slice none 0 0, .int .i64 6]) ?_ rfl ⟨?_, .inr ⟨fun h => Bool.noConfusion (HR.out.2 h), rfl⟩⟩
    · rw [results_cell3 rfl]
      go_simp
    · exact ((HBw.out.setCell (Nat.le_succ _) _).setCell (Nat.le_succ _) _).setCell (Nat.le_succ _) _
  · obtain ⟨K, hK, hT⟩ := HR.out.1 rfl
    have HPr : Hid (RunPre m K roots) := Lib.hid ⟨hK, w1, w2, lt, fun r hr => ⟨hT r hr, wr r hr⟩, lr⟩
    have hE := HR.out.1 rfl
    have HE := Lib.hid hE
    clear hK hT hE
    go_wp2_with fail
    have hle : w.heap.size ≤ W1.heap.size := by omega
    have HCl1 := Lib.hid (fun W (hb : Below W1.heap.size W1 W) => HCl.out W (HBw.out.trans (hb.mono hle)))
    have HAc := Lib.hid (fun W (hb : Below W1.heap.size W1 W) => And.intro ((hb.cell (p := ⟨w.heap.size, 0, none⟩) (by show w.heap.size < _; omega)).trans a0) (And.intro ((hb.cell (p := ⟨w.heap.size, 1, none⟩) (by show w.heap.size < _; omega)).trans a1) ((hb.cell (p := ⟨w.heap.size, 2, none⟩) (by show w.heap.size < _; omega)).trans a2)))
    have hbd1 : Below W1.heap.size W1 W1.drew := below_drewN (Below.refl _ _) 1
    go_cut [7] from 14 to 21 (fun a wc => ∃ z mp vO, a = .pointer (some ⟨z, 0, none⟩) ∧ wc.heap[z]? = some (.cells #[.slice none 0 0, vO, .int .i64 0, .slice p1 m.y.length c1, .slice p2 m.o.length c2, .int .i64 m.at_, .bool false, .map (some mp), .slice none 0 0] 56) ∧ WOwn wc W1.heap.size vO m.o ∧ wc.heap[mp]? = some (.map #[] 0) ∧ Below W1.heap.size W1 wc ∧ W1.heap.size ≤ z ∧ W1.heap.size ≤ mp ∧ z ≠ mp ∧ vO.ownBlock ≠ some z ∧ vO.ownBlock ≠ some mp)
    case first =>
      go_region_held3 (fun w' => w'.cell? ⟨w.heap.size, 0, none⟩ = some (.slice p1 m.y.length c1) ∧ w'.cell? ⟨w.heap.size, 1, none⟩ = some (.slice p2 m.o.length c2) ∧ w'.cell? ⟨w.heap.size, 2, none⟩ = some (.int .i64 m.at_) ∧ Below W1.heap.size W1 w')
        ((refine ⟨?_, ?_, ?_, ?_⟩) <;> (repeat' (first | with_reducible refine keep_alloc ?_ | with_reducible refine keep_drew ?_ | with_reducible refine belowA ?_ _ | with_reducible refine belowD ?_ | with_reducible assumption | with_reducible exact Below.refl _ _)))
        (first
          | (go_at_call 36; (with_reducible refine (HCl1.out _ (by ((repeat' (first | with_reducible assumption | with_reducible refine belowD ?_ | with_reducible refine belowA ?_ _ | with_reducible refine Below.setCell ?_ ?_ _ | with_reducible exact Below.refl _ _ | (dsimp only; omega) | (simp; omega))); first | done | fail))).mono ?_); rintro e3 W5 ⟨vO, rfl, ho3, hb3⟩; obtain ⟨pO, nO, cO, rfl⟩ := own_shape ho3; have hb55 : Below W1.heap.size W1 W5 := below_call (by ((repeat' (first | with_reducible assumption | with_reducible refine belowD ?_ | with_reducible refine belowA ?_ _ | with_reducible refine Below.setCell ?_ ?_ _ | with_reducible exact Below.refl _ _ | (dsimp only; omega) | (simp; omega))); first | done | fail)) hb3; have hl5 := hb55.size; obtain ⟨s0, s1, s2⟩ := HAc.out W5 hb55; have hws := hb3.size; (first | (have hza : W5.heap[W1.heap.size]? = some (.map #[] 0) := blk_call hb3 (by ((repeat' (first | with_reducible assumption | with_reducible refine blk_drew ?_ | ((with_reducible refine blk_new ?_) <;> (first | omega | (simp; done) | (simp; omega))) | with_reducible refine blk_alloc ?_ _ | with_reducible refine blk_set ?_ _ | with_reducible refine blk_setO ?_ ?_ _ | omega | (dsimp only; omega) | (simp; done) | (simp; omega))); first | done | fail))) | skip)))
      all_goals
        go_wp2_with fail
        go_meet
        first
          | exact ⟨_, _, _, rfl, leafB _ ho3 (by simp) hb55⟩
          | exact ⟨_, _, _, rfl, leafA _ ho3 (by simp) hb55 hza⟩
    case rest =>
      obtain ⟨z, mp, vO, rfl, hblk, hown, hmap, hbc, hz, hm, hzm, hoz, hom⟩ := hcut
      have hbZ : Below w.heap.size w wc := HBw.out.trans (hbc.mono hle)
      have hcol : ColAt wc z mp W1.heap.size (.slice none 0 0) vO (.slice none 0 0) (.slice p1 m.y.length c1) (.slice p2 m.o.length c2) m 0 false ⟨[], base0 false K⟩ [] [] [] :=
        ⟨hblk, WOwn.nil _ _, by show WOwn wc W1.heap.size vO K.o.flatten; rw [HPr.out.sh.o.1]; exact hown, WOwn.nil _ _, ⟨#[], 0, hmap, rfl⟩, (H1.out.below hbZ HBB.out).more (Nat.le_trans HBB.out hle), (H2.out.below hbZ HBB.out).more (Nat.le_trans HBB.out hle), hz, hm, hzm, ⟨by simp [Value.ownBlock], hoz, by simp [Value.ownBlock]⟩, ⟨by simp [Value.ownBlock], hom, by simp [Value.ownBlock]⟩, by simp [Value.ownBlock], by simp [Value.ownBlock], by simp [Value.ownBlock]⟩
      have HRun := Lib.hid (run30 wc z mp W1.heap.size _ _ _ _ _ m K 0 false roots pr cr hcol HPr.out ((H3.out.below hbZ HBB.out).more (Nat.le_trans HBB.out hle)))
      have HC2 : Hid (wc.heap[w.heap.size + 1]? = some (.cells #[.slice none 0 0, .slice none 0 0, .int .i64 0] 24)) := Lib.hid ((hbc.block _ (by omega)).trans HC.out)
      have HBz := Lib.hid hbZ
      have HLe : Hid (w.heap.size + 1 < W1.heap.size) := Lib.hid (by omega)
      have hzne : z ≠ w.heap.size + 1 := by omega
      have hzn2 : w.heap.size + 1 ≠ z := by omega
      have HZ := Lib.hid hz
      clear hblk hown hmap hbc hz hm hzm hoz hom hbZ hcol a0 a1 a2 af d0 d1 d2 df HAc HCl1 HCl hbd1
      go_wp2_with fail
      refine HRun.out.mono ?_
      rintro e W3 ⟨vY, vO, vC, vT, S, D, I, rfl, hRun, hInv, hSt, hB3⟩
      obtain ⟨pY, cY, eY⟩ := hRun.col.ry.shape
      obtain ⟨pO, nO, cO, eO⟩ := own_shape hRun.col.ro
      obtain ⟨pT, nT, cT, eT⟩ := own_shape hRun.out
      subst eT
      have hC3 : W3.heap[w.heap.size + 1]? = some (.cells #[.slice none 0 0, .slice none 0 0, .int .i64 0] 24) := (hB3.block _ HLe.out).trans HC2.out
      obtain ⟨d0, d1, d2, df⟩ := three_cells hC3
      obtain ⟨n0, n1, n2, n3, n4, n5, n6, n7, n8, nf⟩ := nine_cells hRun.col.blk
      have HEnd : Hid (∀ W5, W5 = ((((W3.setCell ⟨z, 2, none⟩ (.int .i64 S.y.flatten.length)).setCell ⟨w.heap.size + 1, 0, none⟩ vY).setCell ⟨w.heap.size + 1, 1, none⟩ vO).setCell ⟨w.heap.size + 1, 2, none⟩ (.int .i64 S.y.flatten.length)) → MinorP m roots w (.returned (.tuple #[.agg #[vY, vO, .int .i64 S.y.flatten.length], .slice pT nT cT, .int .i64 0])) W5) := Lib.hid (by
        rintro W5 rfl
        have own : ∀ {v : Value} {l : List Int}, WOwn W3 W1.heap.size v l → v.ownBlock ≠ some z → WOwn ((((W3.setCell ⟨z, 2, none⟩ (.int .i64 S.y.flatten.length)).setCell ⟨w.heap.size + 1, 0, none⟩ vY).setCell ⟨w.heap.size + 1, 1, none⟩ vO).setCell ⟨w.heap.size + 1, 2, none⟩ (.int .i64 S.y.flatten.length)) W1.heap.size v l := fun {v l} h hne => ownBlock_same h (fun k hk => by
          have h1 := (h.ge k hk).1
          have h2 := HLe.out
          have h3 : k ≠ w.heap.size + 1 := by omega
          have h4 : k ≠ z := fun e => hne (e ▸ hk)
          rw [setC_same _ _ _ _ h3, setC_same _ _ _ _ h3, setC_same _ _ _ _ h3, setC_same _ _ _ _ h4])
        have hle : w.heap.size ≤ W1.heap.size := by have := HLe.out; omega
        refine ⟨(((((HBz.out.trans (hB3.mono hle)).setCell (Nat.le_trans hle HZ.out) _).setCell (Nat.le_succ _) _).setCell (Nat.le_succ _) _).setCell (Nat.le_succ _) _), .inl ⟨HE.out, W1.heap.size, vY, vO, _, K, S, D, I, hle, rfl, own hRun.col.ry hRun.col.dz.1, own hRun.col.ro hRun.col.dz.2.1, own hRun.out (fun e => hRun.outf z e (.inl rfl)), fun k hk => ⟨hRun.col.dyo k hk, fun e => hRun.outf k e (.inr (.inr (.inl hk)))⟩, fun k hk e => hRun.outf k e (.inr (.inr (.inr (.inl hk)))), HPr.out, hInv, hSt⟩⟩)
      clear hRun hInv hSt hB3 HRun HBz hC3 HC2
      generalize S.y.flatten.length = nY at *
      subst eY eO
      go_wp2_with fail
      (try simp only [Exit.inBlock, Exit.then])
      refine bodyPost_ret (v := .tuple #[.agg #[.slice pY nY cY, .slice pO nO cO, .int .i64 nY], .slice pT nT cT, .int .i64 0]) ?_ rfl (HEnd.out _ rfl)
      rw [results_cell3 rfl]
      go_simp
end Go.Proofs.Ytegffanlehaloaa.cl
/- spoil: words of rows of the call's own are overwritten. Conditions: the rows are the call's own. -/
namespace Go.Proofs.Ytegffanlehaloaa.cl
open Go.RowKit mem words
set_option linter.unusedVariables false
set_option linter.unusedSimpArgs false
set_option maxHeartbeats 4000000
set_option maxRecDepth 100000

/-- a row of the call's own that may be overwritten -/
theorem own_store {w : World} {base : Nat} {p : Option Addr} {n c : Nat} {l : List Int} (h : WOwn w base (.slice p n c) l) {i : Nat} (hi : i < n) :
    ∃ g x, p = some ⟨g, 0, none⟩ ∧ n = l.length ∧ base ≤ g ∧ g < w.heap.size ∧ w.cell? ⟨g, i, none⟩ = some (.int .u64 x) ∧ (∀ o, w.frozen? ⟨g, o, none⟩ = false) := by
  rcases h.2 with ⟨e, h2⟩ | ⟨g, cap, cur, e, hg, hc, h4⟩
  · simp only [Value.slice.injEq] at e
    omega
  · simp only [Value.slice.injEq] at e
    obtain ⟨rfl, hn, rfl⟩ := e
    subst hn
    exact ⟨g, _, rfl, rfl, hg, (Array.getElem?_eq_some_iff.1 hc).1, h.cells hi, fun o => by simp [World.frozen?, hc]⟩
/-- three rows of the call's own, in blocks of their own -/
structure Three (w : World) (base : Nat) (v1 v2 v3 : Value) (a b c : List Int) : Prop where
  x1 : WOwn w base v1 a
  x2 : WOwn w base v2 b
  x3 : WOwn w base v3 c
  d12 : ∀ k, v1.ownBlock = some k → v2.ownBlock ≠ some k
  d13 : ∀ k, v1.ownBlock = some k → v3.ownBlock ≠ some k
  d23 : ∀ k, v2.ownBlock = some k → v3.ownBlock ≠ some k
section
variable {w w' : World} {base g n c : Nat} {v1 v2 v3 : Value} {x y z : List Int}
theorem Three.below (h : Three w base v1 v2 v3 x y z) (hb : Below w.heap.size w w') : Three w' base v1 v2 v3 x y z := ⟨h.x1.below hb, h.x2.below hb, h.x3.below hb, h.d12, h.d13, h.d23⟩
theorem Three.set1 (h : Three w base (.slice (some ⟨g, 0, none⟩) n c) v2 v3 x y z) (i : Nat) (u : Int) : Three (w.setCell ⟨g, i, none⟩ (.int .u64 u)) base (.slice (some ⟨g, 0, none⟩) n c) v2 v3 (x.set i u) y z :=
  ⟨h.x1.set i u, ownBlock_same h.x2 (fun k hk => setC_same w g i _ (fun e => h.d12 g rfl (e ▸ hk))), ownBlock_same h.x3 (fun k hk => setC_same w g i _ (fun e => h.d13 g rfl (e ▸ hk))), h.d12, h.d13, h.d23⟩
theorem Three.set2 (h : Three w base v1 (.slice (some ⟨g, 0, none⟩) n c) v3 x y z) (i : Nat) (u : Int) : Three (w.setCell ⟨g, i, none⟩ (.int .u64 u)) base v1 (.slice (some ⟨g, 0, none⟩) n c) v3 x (y.set i u) z :=
  ⟨ownBlock_same h.x1 (fun k hk => setC_same w g i _ (fun e => h.d12 k hk (by rw [e]; rfl))), h.x2.set i u, ownBlock_same h.x3 (fun k hk => setC_same w g i _ (fun e => h.d23 g rfl (e ▸ hk))), h.d12, h.d13, h.d23⟩
theorem Three.set3 (h : Three w base v1 v2 (.slice (some ⟨g, 0, none⟩) n c) x y z) (i : Nat) (u : Int) : Three (w.setCell ⟨g, i, none⟩ (.int .u64 u)) base v1 v2 (.slice (some ⟨g, 0, none⟩) n c) x y (z.set i u) :=
  ⟨ownBlock_same h.x1 (fun k hk => setC_same w g i _ (fun e => h.d13 k hk (by rw [e]; rfl))), ownBlock_same h.x2 (fun k hk => setC_same w g i _ (fun e => h.d23 k hk (by rw [e]; rfl))), h.x3.set i u, h.d12, h.d13, h.d23⟩
end
end Go.Proofs.Ytegffanlehaloaa.cl
/- spoil f12. Conditions: the rows are the call's own. -/
namespace Go.Proofs.Ytegffanlehaloaa.cl
open Go.RowKit mem words
set_option linter.unusedVariables false
set_option linter.unusedSimpArgs false
set_option maxHeartbeats 4000000
set_option maxRecDepth 100000

/-- the blocks of three rows -/
def OwnS (v1 v2 v3 : Value) (k : Nat) : Prop := v1.ownBlock = some k ∨ v2.ownBlock = some k ∨ v3.ownBlock = some k
theorem spoil12 (w : World) (base : Nat) (p1 p2 p3 : Option Addr) (n1 n2 n3 c1 c2 c3 : Nat) (mk : Int) (a b c : List Int) (h : Three w base (.slice p1 n1 c1) (.slice p2 n2 c2) (.slice p3 n3 c3) a b c) (hb : base ≤ w.heap.size) (l1 : n1 ≤ 100000) (l2 : n2 ≤ 100000) (l3 : n3 ≤ 100000) :
    Calls Try.prog 12 #[.agg #[.slice p1 n1 c1, .slice p2 n2 c2, .int .i64 mk], .slice p3 n3 c3] w fun e w' => e = .returned (.tuple #[]) ∧ TouchB (OwnS (.slice p1 n1 c1) (.slice p2 n2 c2) (.slice p3 n3 c3)) w w' := by
  have HT : Hid (Three (w.alloc (.cells #[.slice p1 n1 c1, .slice p2 n2 c2, .int .i64 mk] 24)) base (.slice p1 n1 c1) (.slice p2 n2 c2) (.slice p3 n3 c3) a b c) := Lib.hid (h.below (belowA (Below.refl _ _) _))
  have HX : Hid ((w.alloc (.cells #[.slice p1 n1 c1, .slice p2 n2 c2, .int .i64 mk] 24)).heap[w.heap.size]? = some (.cells #[.slice p1 n1 c1, .slice p2 n2 c2, .int .i64 mk] 24)) := Lib.hid (World.alloc_heap_new _ _)
  have HB : Hid (TouchB (OwnS (.slice p1 n1 c1) (.slice p2 n2 c2) (.slice p3 n3 c3)) w (w.alloc (.cells #[.slice p1 n1 c1, .slice p2 n2 c2, .int .i64 mk] 24))) := Lib.hid ((TouchB.refl _ _).alloc _)
  clear h hb
  go_enter Try.func12, Try.ntmps12
  go_wp2_with fail
  generalize (w.alloc (.cells #[.slice p1 n1 c1, .slice p2 n2 c2, .int .i64 mk] 24)) = W0 at *
  generalize w.heap.size = zb at *
  go_loopw [4] (fun a wr => ∃ (i : Nat) (la lb lc : List Int), a = .int .i64 i ∧ i ≤ n1 ∧ Hid (Three wr base (.slice p1 n1 c1) (.slice p2 n2 c2) (.slice p3 n3 c3) la lb lc) ∧ Hid (wr.heap[zb]? = some (.cells #[.slice p1 n1 c1, .slice p2 n2 c2, .int .i64 mk] 24)) ∧ Hid (TouchB (OwnS (.slice p1 n1 c1) (.slice p2 n2 c2) (.slice p3 n3 c3)) w wr)) (fun a _ => n1 - (intOf a).toNat)
  case atStart => exact ⟨0, _, _, _, rfl, Nat.zero_le _, HT, HX, HB⟩
  case round =>
    clear HT HX HB
    obtain ⟨i, la, lb, lc, rfl, hi, HT, HX, HB⟩ := hrel
    obtain ⟨x0, x1, x2, xf⟩ := three_cells HX.out
    by_cases hlt : i < n1
    · have rl : (i : Int) < (n1 : Int) := by omega
      have rq : decide ((i : Int) < (n1 : Int)) = true := decide_eq_true rl
      obtain ⟨g, u, rfl, hn, hg, hgl, hc, hf⟩ := own_store HT.out.x1 hlt
      have hgz : g ≠ zb := fun e => by
        have h1 := hc
        rw [e] at h1
        simp only [World.cell?, HX.out] at h1
        rcases i with _ | _ | _ | i <;> simp at h1
      have hzg : zb ≠ g := fun e => hgz e.symm
      have HT2 := Lib.hid (HT.out.set1 i 0)
      have HX2 := Lib.hid ((setC_same wr g i (.int .u64 0) hzg).trans HX.out)
      have HB2 := Lib.hid (HB.out.setCell ⟨g, i, none⟩ (.int .u64 0) (fun _ => .inl rfl))
      go_wp2_with fail
      go_roundw
      case rel => exact ⟨i + 1, _, _, _, by go_num, by omega, HT2, HX2, HB2⟩
      case measure => simp [intOf]; omega
    · obtain rfl : n1 = i := by omega
      have rq : decide (((n1 : Nat) : Int) < (n1 : Int)) = false := decide_eq_false (by omega)
      go_wp2_with fail
      obtain ⟨wo, rfl⟩ : ∃ wo : World, wo = wr := ⟨_, rfl⟩
      clear x0 x1 x2 xf hlt rq hi
      go_loopw [5] (fun a wr => ∃ (i : Nat) (la lb lc : List Int), a = .int .i64 i ∧ i ≤ n2 ∧ Hid (Three wr base (.slice p1 n1 c1) (.slice p2 n2 c2) (.slice p3 n3 c3) la lb lc) ∧ Hid (wr.heap[zb]? = some (.cells #[.slice p1 n1 c1, .slice p2 n2 c2, .int .i64 mk] 24)) ∧ Hid (TouchB (OwnS (.slice p1 n1 c1) (.slice p2 n2 c2) (.slice p3 n3 c3)) w wr)) (fun a _ => n2 - (intOf a).toNat)
      case atStart => exact ⟨0, _, _, _, rfl, Nat.zero_le _, HT, HX, HB⟩
      case round =>
        clear HT HX HB
        obtain ⟨i, la, lb, lc, rfl, hi, HT, HX, HB⟩ := hrel
        obtain ⟨x0, x1, x2, xf⟩ := three_cells HX.out
        by_cases hlt : i < n2
        · have rl : (i : Int) < (n2 : Int) := by omega
          have rq : decide ((i : Int) < (n2 : Int)) = true := decide_eq_true rl
          obtain ⟨g, u, rfl, hn, hg, hgl, hc, hf⟩ := own_store HT.out.x2 hlt
          have hgz : g ≠ zb := fun e => by
            have h1 := hc
            rw [e] at h1
            simp only [World.cell?, HX.out] at h1
            rcases i with _ | _ | _ | i <;> simp at h1
          have hzg : zb ≠ g := fun e => hgz e.symm
          have HT2 := Lib.hid (HT.out.set2 i 0)
          have HX2 := Lib.hid ((setC_same wr g i (.int .u64 0) hzg).trans HX.out)
          have HB2 := Lib.hid (HB.out.setCell ⟨g, i, none⟩ (.int .u64 0) (fun _ => .inr (.inl rfl)))
          go_wp2_with fail
          go_roundw
          case rel => exact ⟨i + 1, _, _, _, by go_num, by omega, HT2, HX2, HB2⟩
          case measure => simp [intOf]; omega
        · obtain rfl : n2 = i := by omega
          have rq : decide (((n2 : Nat) : Int) < (n2 : Int)) = false := decide_eq_false (by omega)
          go_wp2_with fail
          obtain ⟨wo2, rfl⟩ : ∃ wo : World, wo = wr := ⟨_, rfl⟩
          clear x0 x1 x2 xf hlt rq hi
          go_loopw [6] (fun a wr => ∃ (i : Nat) (la lb lc : List Int), a = .int .i64 i ∧ i ≤ n3 ∧ Hid (Three wr base (.slice p1 n1 c1) (.slice p2 n2 c2) (.slice p3 n3 c3) la lb lc) ∧ Hid (wr.heap[zb]? = some (.cells #[.slice p1 n1 c1, .slice p2 n2 c2, .int .i64 mk] 24)) ∧ Hid (TouchB (OwnS (.slice p1 n1 c1) (.slice p2 n2 c2) (.slice p3 n3 c3)) w wr)) (fun a _ => n3 - (intOf a).toNat)
          case atStart => exact ⟨0, _, _, _, rfl, Nat.zero_le _, HT, HX, HB⟩
          case round =>
            clear HT HX HB
            obtain ⟨i, la, lb, lc, rfl, hi, HT, HX, HB⟩ := hrel
            obtain ⟨x0, x1, x2, xf⟩ := three_cells HX.out
            by_cases hlt : i < n3
            · have rl : (i : Int) < (n3 : Int) := by omega
              have rq : decide ((i : Int) < (n3 : Int)) = true := decide_eq_true rl
              obtain ⟨g, u, rfl, hn, hg, hgl, hc, hf⟩ := own_store HT.out.x3 hlt
              have hgz : g ≠ zb := fun e => by
                have h1 := hc
                rw [e] at h1
                simp only [World.cell?, HX.out] at h1
                rcases i with _ | _ | _ | i <;> simp at h1
              have hzg : zb ≠ g := fun e => hgz e.symm
              have HT2 := Lib.hid (HT.out.set3 i 0)
              have HX2 := Lib.hid ((setC_same wr g i (.int .u64 0) hzg).trans HX.out)
              have HB2 := Lib.hid (HB.out.setCell ⟨g, i, none⟩ (.int .u64 0) (fun _ => .inr (.inr rfl)))
              go_wp2_with fail
              go_roundw
              case rel => exact ⟨i + 1, _, _, _, by go_num, by omega, HT2, HX2, HB2⟩
              case measure => simp [intOf]; omega
            · obtain rfl : n3 = i := by omega
              have rq : decide (((n3 : Nat) : Int) < (n3 : Int)) = false := decide_eq_false (by omega)
              go_wp2_with fail
              go_end0
              exact ⟨rfl, HB.out⟩
end Go.Proofs.Ytegffanlehaloaa.cl
/- append of any row of words, an empty one too. Conditions: the row lies in memory. -/
namespace Go.Proofs.Ytegffanlehaloaa.cl
open Go.RowKit mem words
set_option linter.unusedVariables false
set_option linter.unusedSimpArgs false
set_option maxHeartbeats 1000000
set_option maxRecDepth 100000
theorem run_append_none (w : World) (v : Value) (p : Option Addr) (n c c' : Nat) (hv : v = .slice p n c) (hc : n ≤ c) (ty : TypeId) :
    (Builtin.append_ #[22, 22] ty #[v, .slice none 0 c']).run Try.prog w = .ok v w := by
  subst hv
  obtain ⟨i, hi, hz, hs, hby⟩ := info_parts info34
  unfold Builtin.append_
  simp [go_sem, Try.underlying22, hi, hz, hs, hby, hc]
  cases p <;> rfl
theorem run_append_area {w : World} {base : Nat} {v : Value} {l : List Int} (h : WOwn w base v l) (hb : base ≤ w.heap.size) (ty : TypeId) {B : Nat} {vx : Value} {xs : List Int} (hx : WAt w B vx xs) (hn : l.length + xs.length ≤ 400000) :
    ∃ v' w', (Builtin.append_ #[22, 22] ty #[v, vx]).run Try.prog w = .ok v' w' ∧ AppW w base v l xs v' w' := by
  obtain ⟨p, c, rfl, h1, h2, h3⟩ := hx
  cases p with
  | none =>
    have he : xs = [] := by
      cases xs with
      | nil => rfl
      | cons x l =>
        obtain ⟨g, o, e, _⟩ := h3 (by simp)
        simp at e
    subst he
    have hf : ∃ p c, v = .slice p l.length c ∧ l.length ≤ c := by
      rcases h.form with ⟨e, e2⟩ | ⟨g, c, e, _, _, hc, _⟩
      · exact ⟨none, 0, by rw [e, e2]; rfl, by rw [e2]; exact Nat.le_refl _⟩
      · exact ⟨_, _, e, hc⟩
    obtain ⟨pv, cv, ev, hc⟩ := hf
    exact ⟨v, w, run_append_none w v pv l.length cv _ ev hc ty, by rw [List.append_nil]; exact h, ⟨rfl, rfl, rfl, Nat.le_refl _, fun _ _ _ => rfl⟩, .inl rfl, fun _ _ _ _ => rfl⟩
  | some ad =>
    refine run_append_words h hb ty ad c xs (fun j x hj => ?_) hn
    obtain ⟨hj1, hj2⟩ := List.getElem?_eq_some_iff.1 hj
    obtain ⟨g, o, e, _, hc⟩ := h3 (fun e => by subst e; simp at hj1)
    cases e
    have := hc j hj1
    rw [hj2] at this
    rw [Addr.add_lit]
    exact this
/-- at the operation, for the walk -/
theorem wpList_append_area {w : World} {ops : Array Oper} {rest : List Oper} {o : Oper} {a : Act} {Q : Exit → Act → World → Prop} (hgd : o.guard = none) (s x : Operand)
    (ho : o.op = .call { callee := .builtin .append, args := #[s, x], argTypes := #[22, 22] }) {base : Nat} {v : Value} {l : List Int} (hs : a.eval s = v) (hown : WOwn w base v l) (hb : base ≤ w.heap.size)
    {B : Nat} {vx : Value} {xs : List Int} (hx : a.eval x = vx) (hrow : WAt w B vx xs) (hn : l.length + xs.length ≤ 400000)
    (h : ∀ v' w', AppW w base v l xs v' w' → wpList Try.prog ops Q rest (a.put o.dst v') w') : wpList Try.prog ops Q (o :: rest) a w := by
  refine wpList_plain hgd fun K hK => ?_
  obtain ⟨v', w', hr, h2⟩ := run_append_area hown hb o.type hrow hn
  unfold Oper.wp execOp
  simp only [ho, resolve, invoke, builtin, Sem.run_bind, Sem.run_pure, Result.andThen_ok, List.map_toArray, List.map_cons, List.map_nil, hs, hx, hr]
  exact hK _ _ (h v' w' h2)
end Go.Proofs.Ytegffanlehaloaa.cl
/- Of what Full and Minor leave: a finished copying. Conditions: as said. -/
namespace Go.Proofs.Ytegffanlehaloaa.cl
open Go.RowKit mem words
set_option linter.unusedVariables false
set_option linter.unusedSimpArgs false
set_option maxHeartbeats 1000000
theorem done_of {m : Mm} {K : Bk} {full : Bool} {roots : List Int} {S : Bk} {D I : List Int} (hp : RunPre m K roots) (hi : Inv K m.at_ full (base0 full K) roots S D I D.length 0) (hs : ∀ r ∈ roots, mov full r = true → r ∈ D) : Done m K full roots S D I := by
  refine ⟨hp.sh, ?_, hp.tot, fun r hr => ⟨(hp.rt r hr).1, (hp.rt r hr).2.1⟩, hi, hs⟩
  intro b x hx v hv
  cases b
  · exact (hp.wy v (by rw [← hp.sh.y.1]; exact List.mem_flatten.2 ⟨x, hx, hv⟩)).1
  · exact (hp.wo v (by rw [← hp.sh.o.1]; exact List.mem_flatten.2 ⟨x, hx, hv⟩)).1
end Go.Proofs.Ytegffanlehaloaa.cl
/- The words of what Full and Minor leave are in range. Conditions: as said. -/
namespace Go.Proofs.Ytegffanlehaloaa.cl
open Go.RowKit mem words
set_option linter.unusedVariables false
set_option linter.unusedSimpArgs false
set_option maxHeartbeats 1000000
theorem RunPre.wdK {m : Mm} {K : Bk} {roots : List Int} (hp : RunPre m K roots) (b : Bool) {x : List Int} (hx : x ∈ K.s b) {v : Int} (hv : v ∈ x) : 0 ≤ v ∧ v ≤ 18446744073709551615 := by
  cases b
  · exact hp.wy v (by rw [← hp.sh.y.1]; exact List.mem_flatten.2 ⟨x, hx, hv⟩)
  · exact hp.wo v (by rw [← hp.sh.o.1]; exact List.mem_flatten.2 ⟨x, hx, hv⟩)
theorem inv_wds {m : Mm} {K : Bk} {full : Bool} {roots : List Int} {S : Bk} {D I : List Int} {i k : Nat} (hp : RunPre m K roots) (hi : Inv K m.at_ full (base0 full K) roots S D I i k) (b : Bool) : Wds (S.s b).flatten := by
  intro v hv
  obtain ⟨x, hx, hvx⟩ := List.mem_flatten.1 hv
  obtain ⟨pos, hat⟩ := At.of_mem hx
  rcases hi.all b pos x hat with ⟨rfl, hb⟩ | ⟨p, hpI, hpo, hpx⟩
  · have h1 := hb.mem
    unfold base0 at h1
    cases full
    · exact hp.wdK true h1 hvx
    · simp at h1
  · obtain ⟨j, hj⟩ := List.getElem?_of_mem hpI
    obtain ⟨d, hd⟩ : ∃ d, D[j]? = some d := ⟨_, List.getElem?_eq_getElem (by have := (List.getElem?_eq_some_iff.1 hj).1; have := hi.len; omega)⟩
    obtain ⟨x', g1, g2, g3, g4, g5, g6⟩ := hi.cp j d p hd hj
    have h1 := g1.2.1
    rw [hpo, hpx] at h1
    obtain rfl : x' = x := At.uniq (hi.pos.s b) h1 hat
    obtain ⟨q, hq⟩ := List.getElem?_of_mem hvx
    obtain ⟨u, hu⟩ : ∃ u, (ob K d)[q]? = some u := ⟨_, List.getElem?_eq_getElem (by have := (List.getElem?_eq_some_iff.1 hq).1; omega)⟩
    have h2 := g6 q u hu
    rw [hq] at h2
    obtain ⟨⟨xd, hxd⟩, _⟩ := hi.src d (List.mem_of_getElem? hd)
    have hob := hxd.ob hp.sh.pos
    have hw : 0 ≤ u ∧ u ≤ 18446744073709551615 := hp.wdK _ hxd.2.1.mem (by rw [← hob]; exact List.mem_of_getElem? hu)
    rw [Option.some.inj h2]
    split
    · exact hi.lk_bd hw
    · exact hw
/-- the memory that Full gives -/
theorem full_mem {w : World} {base : Nat} {vY vO vT : Value} {m : Mm} {K S : Bk} {roots D I : List Int} (hp : RunPre m K roots) (hi : Inv K m.at_ true [] roots S D I D.length 0) (hs : ∀ r ∈ roots, mov true r = true → r ∈ D) (hy : WOwn w base vY S.y.flatten) (ho : WOwn w base vO S.o.flatten) (ht : WOwn w base vT (roots.map (lk D I))) :
    MemAt w w.heap.size vY vO vT ⟨S.y.flatten, S.o.flatten, 0⟩ S (roots.map (lk D I)) := by
  have hd : Done m K true roots S D I := done_of hp hi hs
  have h1 := hi.small hp.sh.pos
  have e1 : K.y.flatten.length = m.y.length := by rw [hp.sh.y.1]
  have e2 : K.o.flatten.length = m.o.length := by rw [hp.sh.o.1]
  have h2 := hp.tot
  have h3 : ([] : List (List Int)).flatten.length = 0 := rfl
  have hsum : S.y.flatten.length + S.o.flatten.length ≤ 5000 := by omega
  refine ⟨hy.row, ho.row, inv_wds hp hi false, inv_wds hp hi true, hsum, hd.sh2 (by omega) (by omega), ht.row, fun v hv => ?_, by rw [List.length_map]; exact hp.rl⟩
  obtain ⟨r, hr, rfl⟩ := List.mem_map.1 hv
  exact ⟨hd.roots2 r hr, hi.lk_bd (hp.rt r hr).2⟩
end Go.Proofs.Ytegffanlehaloaa.cl
/- The reference's Full says yes to what Full gives. Conditions: as said. -/
namespace Go.Proofs.Ytegffanlehaloaa.cl
open Go.RowKit mem words
set_option linter.unusedVariables false
set_option linter.unusedSimpArgs false
set_option maxHeartbeats 1000000
theorem full_yes {w : World} {B base : Nat} {v1 v2 vr vY vO vT : Value} {m : Mm} {K S : Bk} {roots D I : List Int} (hB : B ≤ w.heap.size) (h1 : WAt w B v1 m.y) (h2 : WAt w B v2 m.o) (hr : WAt w B vr roots) (hp : RunPre m K roots) (hi : Inv K m.at_ true [] roots S D I D.length 0) (hs : ∀ r ∈ roots, mov true r = true → r ∈ D) (hy : WOwn w base vY S.y.flatten) (ho : WOwn w base vO S.o.flatten) (ht : WOwn w base vT (roots.map (lk D I))) :
    Calls Try.prog 15 #[.agg #[v1, v2, .int .i64 m.at_], vr, .agg #[vY, vO, .int .i64 0], vT] w fun e w' => e = .returned (.bool true) ∧ Below w.heap.size w w' := by
  have hd : Done m K true roots S D I := done_of hp hi hs
  have hM : MemAt w w.heap.size v1 v2 vr m K roots := ⟨h1.more hB, h2.more hB, hp.wy, hp.wo, hp.tot, hp.sh, hr.more hB, hp.rt, hp.rl⟩
  exact full15 w w.heap.size v1 v2 vr vY vO vT m ⟨S.y.flatten, S.o.flatten, 0⟩ K S roots (roots.map (lk D I)) (Nat.le_refl _) hM (full_mem hp hi hs hy ho ht) hd.same rfl hd.fullY hd.fullO
end Go.Proofs.Ytegffanlehaloaa.cl
/- The closed example of the laws of collect: one of two cells is kept. Plain Lean. No condition. -/
namespace Go.Proofs.Ytegffanlehaloaa.cl
open words
set_option linter.unusedVariables false
set_option linter.unusedSimpArgs false
set_option maxHeartbeats 1000000
def aM : Mm := ⟨[19, 11, 35, 11], [], 0⟩
def aK : Bk := ⟨[[19, 11], [35, 11]], []⟩
theorem aK_at {b : Bool} {i : Nat} {x : List Int} (h : At (aK.s b) i x) : b = false ∧ (x = [19, 11] ∨ x = [35, 11]) := by
  have hm := h.mem
  cases b
  · refine ⟨rfl, ?_⟩
    have : x ∈ [[19, 11], [35, 11]] := hm
    simpa using this
  · have : x ∈ ([] : List (List Int)) := hm
    simp at this
theorem a_obj : ∀ o ∈ aK.y, IsObj o := by
  intro o ho
  have : o ∈ [[19, 11], [35, 11]] := ho
  rcases List.mem_cons.1 this with rfl | h
  · exact ⟨19, [11], rfl, by decide, by decide⟩
  · rcases List.mem_cons.1 h with rfl | h
    · exact ⟨35, [11], rfl, by decide, by decide⟩
    · simp at h
theorem a_fol {x : List Int} (h : x = [19, 11] ∨ x = [35, 11]) {v : Int} (hv : v ∈ fol x) : (soOk v = true ∨ v = 11) ∧ pOk v = false := by
  rcases h with rfl | rfl
  · have : v ∈ [(19 : Int), 11] := hv
    rcases List.mem_cons.1 this with rfl | h
    · exact ⟨.inl (by decide), by decide⟩
    · obtain rfl : v = 11 := by simpa using h
      exact ⟨.inr rfl, by decide⟩
  · have : v ∈ [(35 : Int), 11] := hv
    rcases List.mem_cons.1 this with rfl | h
    · exact ⟨.inl (by decide), by decide⟩
    · obtain rfl : v = 11 := by simpa using h
      exact ⟨.inr rfl, by decide⟩
theorem a_sh : Sh aM aK where
  y := ⟨rfl, a_obj⟩
  o := ⟨rfl, fun o ho => by have : o ∈ ([] : List (List Int)) := ho; simp at this⟩
  ly := by decide
  lo := by decide
  m0 := by decide
  m1 := by decide
  m2 := fun _ => ⟨[19, 11], .inl ⟨rfl, rfl⟩⟩
  ok := fun b i x hx => by
    obtain ⟨rfl, h⟩ := aK_at hx
    refine ⟨by rcases h with rfl | rfl <;> decide, fun v hv => ?_⟩
    obtain ⟨h1, h2⟩ := a_fol h hv
    refine ⟨?_, fun hp => by rw [h2] at hp; cases hp⟩
    rcases h1 with h1 | h1
    · exact .inl h1
    · exact .inr (.inr (.inl h1))
theorem a_pt : Pt aK 17 [35, 11] := ⟨by decide, .inr ⟨by decide, .inl ⟨by decide, rfl⟩⟩, by decide⟩
theorem a_tm : ∀ v ∈ [(17 : Int)], Tm aK v := by
  intro v hv
  obtain rfl : v = 17 := by simpa using hv
  exact .inr (.inr (.inr ⟨_, a_pt⟩))
theorem a_ob : ob aK 17 = [35, 11] := a_pt.ob a_sh.pos
theorem a_rc {w : Int} (h : Rc aK [17] w) : w = 17 := by
  induction h with
  | root h _ => simpa using h
  | step h1 h2 h3 ih =>
    subst ih
    unfold folB at h2
    rw [a_ob] at h2
    have := (a_fol (.inr rfl) h2).2
    rw [this] at h3
    cases h3
theorem a_done {K S : Bk} {D I : List Int} (hK : Sh aM K) (hi : Inv K aM.at_ true [] [17] S D I D.length 0) (hs : ∀ r ∈ [(17 : Int)], mov true r = true → r ∈ D) : S.y.flatten = [] ∧ S.o.flatten = [35, 11] ∧ [17].map (lk D I) = [5] := by
  obtain rfl := Sh.book hK a_sh
  have h17 : (17 : Int) ∈ D := hs 17 (by simp) (by decide)
  have hD : D = [17] := by
    cases D with
    | nil => simp at h17
    | cons d D =>
      have e1 := a_rc (hi.src d (by simp)).2.2.2
      cases D with
      | nil => rw [e1]
      | cons d2 D =>
        have e2 := a_rc (hi.src d2 (by simp)).2.2.2
        have := hi.nd
        rw [e1, e2] at this
        simp at this
  subst hD
  have hl := hi.len
  cases I with
  | nil => simp at hl
  | cons p I =>
    cases I with
    | cons q I => simp at hl
    | nil =>
      obtain ⟨x', g1, g2, g3, g4, g5, g6⟩ := hi.cp 0 17 p rfl rfl
      have hsy := hi.sy
      have hso := hi.so
      have a1 : (([17] : List Int).map (fun d => if age true aM.at_ d then 0 else (ob aK d).length)).sum = 0 := by simp [age]
      have a2 : (([17] : List Int).map (fun d => if age true aM.at_ d then (ob aK d).length else 0)).sum = 2 := by simp [age, a_ob]
      rw [a1] at hsy
      rw [a2] at hso
      rw [a_ob] at g4 g5 g6
      have hso : S.o.flatten.length = 2 := by simpa using hso
      have e0 := g6 0 35 rfl
      have e1 := g6 1 11 rfl
      have l35 : lk [17] [p] 35 = 35 := lk_not (by simp)
      have l11 : lk [17] [p] 11 = 11 := lk_not (by simp)
      rw [l35] at e0
      rw [l11] at e1
      have e0 : x'[0]? = some 35 := by rw [e0]; split <;> rfl
      have e1 : x'[1]? = some 11 := by rw [e1]; split <;> rfl
      have hx' : x' = [35, 11] := by
        cases x' with
        | nil => simp at e0
        | cons a x' =>
          cases x' with
          | nil => simp at e1
          | cons b x' =>
            cases x' with
            | nil => simp at e0 e1; rw [e0, e1]
            | cons c x' => simp at g4
      subst hx'
      have hold : pOld p = true := by rw [g3]; rfl
      have hat := g1.2.1
      rw [hold] at hat
      have hat : At S.o (pIx p).toNat [35, 11] := hat
      have hb := hat.bound
      rw [hso] at hb
      have hb : (pIx p).toNat + 2 ≤ 2 := hb
      have hz : (pIx p).toNat = 0 := by omega
      have f0 := hat.get 0 (by simp)
      have f1 := hat.get 1 (by simp)
      rw [hz] at f0 f1
      have hp5 : p = 5 := by
        have q1 := (pOk_iff p).1 g1.1
        have q2 := (pOld_iff g1.1).1 hold
        have q3 := g1.2.2
        rw [pIx_eq g1.1] at hz
        have q4 : ¬ p % 4 = 2 := fun e => by have := q3.2 e; simp at this
        omega
      refine ⟨List.eq_nil_of_length_eq_zero hsy, ?_, ?_⟩
      · generalize S.o.flatten = l at *
        cases l with
        | nil => simp at hso
        | cons a l =>
          cases l with
          | nil => simp at hso
          | cons b l =>
            cases l with
            | nil => simp at f0 f1; rw [f0, f1]
            | cons c l => simp at hso
      · rw [hp5]; rfl
end Go.Proofs.Ytegffanlehaloaa.cl
