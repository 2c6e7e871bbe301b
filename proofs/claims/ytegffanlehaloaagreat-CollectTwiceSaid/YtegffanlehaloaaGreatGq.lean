/- Several texts in one, one behind the other: CqG. No condition beyond theirs. -/
import Derived.Test.YtegffanlehaloaaGreatGp
import Derived.Deep.CutRange
import Derived.Says

/- The collector: fits. Conditions: as said. -/
namespace Go.Proofs.YtegffanlehaloaaGreat.cl
open Go.RowKit mem words
set_option linter.unusedVariables false
set_option linter.unusedSimpArgs false
set_option maxHeartbeats 4000000
set_option maxRecDepth 100000

theorem keep_alloc {w : World} {o : Obj} {a : Addr} {v : Value} (h : w.cell? a = some v) : (w.alloc o).cell? a = some v := (World.cell?_alloc_some w a o (by rw [h]; rfl)).trans h
theorem keep_drew {w : World} {a : Addr} {v : Value} (h : w.cell? a = some v) : w.drew.cell? a = some v := h
theorem keep_set {w : World} {p a : Addr} {u v : Value} (hne : a.block ≠ p.block) (h : w.cell? a = some v) : (w.setCell p u).cell? a = some v :=
  (World.cell?_of_block (w := w) (Below.heap_setCell _ _ _ _ hne)).trans h
theorem belowA {w wr : World} (h : Below w.heap.size w wr) (o : Obj) : Below w.heap.size w (wr.alloc o) := h.alloc h.size _
theorem belowD {w wr : World} (h : Below w.heap.size w wr) : Below w.heap.size w wr.drew := below_drewN h 1
theorem blk_new {W : World} {o : Obj} {z : Nat} (hz : z = W.heap.size) : (W.alloc o).heap[z]? = some o := by
  subst hz
  exact (MapKept.heap_alloc W o).1
theorem blk_alloc {W : World} {o : Obj} {z : Nat} (h : W.heap[z]? = some o) (o' : Obj) : (W.alloc o').heap[z]? = some o := by
  have hz := (Array.getElem?_eq_some_iff.1 h).1
  rw [Below.heap_alloc _ _ _ hz]; exact h
theorem blk_drew {W : World} {o : Obj} {z : Nat} (h : W.heap[z]? = some o) : W.drew.heap[z]? = some o := h
theorem blk_setO {W : World} {o : Obj} {z : Nat} {p : Addr} (h : W.heap[z]? = some o) (hne : z ≠ p.block) (u : Value) : (W.setCell p u).heap[z]? = some o := (Below.heap_setCell W p u z hne).trans h
theorem blk_set {W : World} {z : Nat} {t : TypeId} (h : W.heap[z]? = some (.cells #[.slice none 0 0] t)) (u : Value) : (W.setCell ⟨z, 0, none⟩ u).heap[z]? = some (.cells #[u] t) := by
  obtain ⟨hlt, hk⟩ := Array.getElem?_eq_some_iff.1 h
  show (W.heap.modify z _)[z]? = _
  rw [Array.getElem?_eq_getElem (by rw [Array.size_modify]; exact hlt), Array.getElem_modify_self, hk]
  rfl
theorem row_one {α : Type} {enc : α → Value} {w w' : World} {B B' y n c : Nat} {l : List α} (h : RowAt enc w B (.slice (some ⟨y, 0, none⟩) n c) l) (hs : w'.heap[y]? = w.heap[y]?) (hB : y < B') : RowAt enc w' B' (.slice (some ⟨y, 0, none⟩) n c) l := by
  obtain ⟨p, c', e, h1, h2, h3⟩ := h
  refine ⟨p, c', e, h1, h2, fun hn => ?_⟩
  obtain ⟨g, o, e', hg, hc⟩ := h3 hn
  simp only [Value.slice.injEq] at e
  rw [e'] at e
  simp only [Option.some.injEq, Addr.mk.injEq, and_true] at e
  obtain ⟨⟨rfl, rfl⟩, _⟩ := e
  exact ⟨y, 0, e', hB, fun j hj => (World.cell?_of_block (w := w) (w' := w') (a := ⟨y, 0 + j, none⟩) hs).trans (hc j hj)⟩
theorem fit_leaf {w W2 W3 W4 wc : World} {B z1 z2 y3 y4 : Nat} {p1 p2 : Option Addr} {c1 c2 : Nat} {m : Mm} {K : Bk} {o3 o4 : Obj}
    (hX : W2.heap[w.heap.size]? = some (.cells #[.slice p1 m.y.length c1, .slice p2 m.o.length c2, .int .i64 m.at_] 24)) (hB : B ≤ w.heap.size) (hb0 : Below w.heap.size w W2)
    (h1 : WAt w B (.slice p1 m.y.length c1) m.y) (h2 : WAt w B (.slice p2 m.o.length c2) m.o) (w1 : Wds m.y) (w2 : Wds m.o) (l1 : m.y.length ≤ 100000) (l2 : m.o.length ≤ 100000) (hK : Sh m K)
    (g3 : FAt W3 (y3 + 1) (.slice (some ⟨y3, 0, none⟩) m.y.length m.y.length) (marks K.y)) (o3h : W3.heap[y3]? = some o3) (g4 : FAt W4 (y4 + 1) (.slice (some ⟨y4, 0, none⟩) m.o.length m.o.length) (marks K.o)) (o4h : W4.heap[y4]? = some o4)
    (hb : Below W2.heap.size W2 wc) (hz1 : wc.heap[z1]? = some (.cells #[.slice (some ⟨y3, 0, none⟩) m.y.length m.y.length] 36)) (hz2 : wc.heap[z2]? = some (.cells #[.slice (some ⟨y4, 0, none⟩) m.o.length m.o.length] 36))
    (o3c : wc.heap[y3]? = some o3) (o4c : wc.heap[y4]? = some o4) :
    FitBox wc wc.heap.size w.heap.size z1 z2 p1 c1 p2 c2 (some ⟨y3, 0, none⟩) m.y.length (some ⟨y4, 0, none⟩) m.o.length m K ∧ Below W2.heap.size W2 wc := by
  have hbw := hb0.trans (hb.mono hb0.size)
  have hx := blk_same hX hb
  refine ⟨⟨hx, (one_cell hz1).1, (one_cell hz2).1, (Array.getElem?_eq_some_iff.1 hx).1, (Array.getElem?_eq_some_iff.1 hz1).1, (Array.getElem?_eq_some_iff.1 hz2).1, ?_, Nat.le_refl _⟩, hb⟩
  exact ⟨(h1.below hbw hB).more (Nat.le_trans hB hbw.size), (h2.below hbw hB).more (Nat.le_trans hB hbw.size), row_one g3 (o3c.trans o3h.symm) (Array.getElem?_eq_some_iff.1 o3c).1, row_one g4 (o4c.trans o4h.symm) (Array.getElem?_eq_some_iff.1 o4c).1, hK.y, hK.o, w1, w2, l1, l2⟩
theorem blk_call {V W' : World} {z : Nat} {o : Obj} (hb : Below V.heap.size V W') (h : V.heap[z]? = some o) : W'.heap[z]? = some o := blk_same h hb
theorem blk_ex {z : Nat} {W : World} (h : z < W.heap.size) : ∃ (y : Nat) (o : Obj), y = z ∧ W.heap[y]? = some o := ⟨_, _, rfl, Array.getElem?_eq_getElem h⟩
theorem below_call {W2 V W3 : World} (h : Below W2.heap.size W2 V) (hb : Below V.heap.size V W3) : Below W2.heap.size W2 W3 := h.trans (hb.mono h.size)
def FitsP (m : Mm) (roots : List Int) (w : World) (e : Ending) (w' : World) : Prop := ∃ r, e = .returned (.bool r) ∧ (r = true ↔ ∃ K, Sh m K ∧ ∀ v ∈ roots, Tm K v) ∧ Below w.heap.size w w'
theorem fits28 (w : World) (B : Nat) (v1 v2 vr : Value) (m : Mm) (roots : List Int) (hB : B ≤ w.heap.size) (h1 : WAt w B v1 m.y) (h2 : WAt w B v2 m.o) (w1 : Wds m.y) (w2 : Wds m.o) (l1 : m.y.length ≤ 100000) (l2 : m.o.length ≤ 100000) (hr : WAt w B vr roots) (wr : Wds roots) (lr : roots.length ≤ 100000) :
    Calls Tryz.prog 17 #[.agg #[v1, v2, .int .i64 m.at_], vr] w (FitsP m roots w) := by
  have HS := Lib.hid (fun W (hb : Below w.heap.size w W) => shape50 W B v1 v2 m (Nat.le_trans hB hb.size) (h1.below hb hB) (h2.below hb hB) w1 w2 l1 l2)
  have HY := Lib.hid (fun W (hb : Below w.heap.size w W) K (hK : Sh m K) => begins51 W B v1 m.y K.y (Nat.le_trans hB hb.size) (h1.below hb hB) w1 l1 hK.y)
  have HO := Lib.hid (fun W (hb : Below w.heap.size w W) K (hK : Sh m K) => begins51 W B v2 m.o K.o (Nat.le_trans hB hb.size) (h2.below hb hB) w2 l2 hK.o)
  obtain ⟨p1, c1, rfl, _⟩ := id h1
  obtain ⟨p2, c2, rfl, _⟩ := id h2
  obtain ⟨pr, cr, rfl, _⟩ := id hr
  rename_i R1 R2 R3
  clear R1 R2 R3
  have H1 := Lib.hid h1
  have H2 := Lib.hid h2
  have HR := Lib.hid hr
  have HWr := Lib.hid wr
  clear h1 h2 hr wr
  have HX := Lib.hid (MapKept.heap_alloc w (.cells #[.slice p1 m.y.length c1, .slice p2 m.o.length c2, .int .i64 m.at_] 24)).1
  have hb0 : Below w.heap.size w (w.alloc (.cells #[.slice p1 m.y.length c1, .slice p2 m.o.length c2, .int .i64 m.at_] 24)) := (Below.refl _ _).alloc (Nat.le_refl _) _
  have HB0 := Lib.hid hb0
  clear hb0
  unfold ShapePost at HS
  unfold BegP at HY HO
  go_enter Tryz.func17, Tryz.ntmps17
  go_wp2_with fail
  refine (HS.out _ HB0.out).mono ?_
  generalize (w.alloc (.cells #[.slice p1 m.y.length c1, .slice p2 m.o.length c2, .int .i64 m.at_] 24)) = W1 at *
  rintro e W2 ⟨r, rfl, hr, hb2⟩
  have HB2 := Lib.hid (HB0.out.trans (hb2.mono HB0.out.size))
  have HX2 := Lib.hid (blk_same HX.out hb2)
  have HRs := Lib.hid hr
  clear hb2 hr HB0 HX HS
  cases r
  · have HNo : Hid (¬ ∃ K, Sh m K) := Lib.hid (fun h => Bool.noConfusion (HRs.out.2 h))
    go_wp2_with fail
    go_ret
    exact ⟨false, rfl, ⟨fun h => Bool.noConfusion h, fun ⟨K, hK, _⟩ => absurd ⟨K, hK⟩ HNo.out⟩, HB2.out⟩
  · obtain ⟨K, hK⟩ := HRs.out.1 rfl
    have HK := Lib.hid hK
    have HY1 := Lib.hid (fun W (hb : Below W2.heap.size W2 W) => HY.out W (HB2.out.trans (hb.mono HB2.out.size)) K hK)
    have HO1 := Lib.hid (fun W (hb : Below W2.heap.size W2 W) => HO.out W (HB2.out.trans (hb.mono HB2.out.size)) K hK)
    have HC := Lib.hid (fun W (hb : Below W2.heap.size W2 W) => three_cells (blk_same HX2.out hb))
    obtain ⟨x0, x1, x2, xf⟩ := three_cells HX2.out
    have hbd : Below W2.heap.size W2 W2.drew := below_drewN (Below.refl _ _) 1
    have hlt : w.heap.size < W2.heap.size := (Array.getElem?_eq_some_iff.1 HX2.out).1
    clear hK HRs HY HO
    go_wp2_with fail
    go_cut [5, 6] from 10 to 15 (fun a b wc => ∃ z1 z2 p3 p4, a = .pointer (some ⟨z1, 0, none⟩) ∧ b = .pointer (some ⟨z2, 0, none⟩) ∧ FitBox wc wc.heap.size w.heap.size z1 z2 p1 c1 p2 c2 p3 m.y.length p4 m.o.length m K ∧ Below W2.heap.size W2 wc)
    case first =>
      go_region_held3 (fun w' => w'.cell? ⟨w.heap.size, 0, none⟩ = some (.slice p1 m.y.length c1) ∧ w'.cell? ⟨w.heap.size, 1, none⟩ = some (.slice p2 m.o.length c2) ∧ Below W2.heap.size W2 w')
        (((refine ⟨?_, ?_, ?_⟩) <;> (repeat' (first | with_reducible refine keep_alloc ?_ | with_reducible refine keep_drew ?_ | with_reducible refine keep_set ?_ ?_ | with_reducible refine belowA ?_ _ | with_reducible refine belowD ?_ | with_reducible refine Below.setCell ?_ ?_ _ | with_reducible assumption | with_reducible exact Below.refl _ _ | (dsimp only; omega) | (simp; omega)))))
        (first
          | (go_at_call 41; (with_reducible refine (HY1.out _ (by ((repeat' (first | with_reducible assumption | with_reducible refine belowD ?_ | with_reducible refine belowA ?_ _ | with_reducible refine Below.setCell ?_ ?_ _ | with_reducible exact Below.refl _ _ | (dsimp only; omega) | (simp; omega))); first | done | fail))).mono ?_); rintro e3 W3 ⟨rfl, hf3, hs3, hb3⟩ ; have hb33 : Below W2.heap.size W2 W3 := below_call (by ((repeat' (first | with_reducible assumption | with_reducible refine belowD ?_ | with_reducible refine belowA ?_ _ | with_reducible refine Below.setCell ?_ ?_ _ | with_reducible exact Below.refl _ _ | (dsimp only; omega) | (simp; omega))); first | done | fail)) hb3 ; have hl3 := hb33.size ; obtain ⟨s0, s1, s2, sf⟩ := HC.out W3 hb33 ; obtain ⟨y3, o3, hy3, ho3⟩ := blk_ex hs3 ; have hg3 : FAt W3 (y3 + 1) (.slice (some ⟨y3, 0, none⟩) m.y.length m.y.length) (marks K.y) := (by rw [hy3]; exact hf3) ; clear hf3 ; (try simp at hs3) ; (try simp at hy3) ; have hn3 : W2.heap.size ≠ W3.heap.size := (by omega) ; have hn3r := hn3.symm ; (try (have hn3b : W2.heap.size + 1 ≠ W3.heap.size := (by first | omega | fail))) ; (try (have hn3x : W3.heap.size ≠ W2.heap.size + 1 := (by first | omega | fail))) ; (first | (have hza : W3.heap[W2.heap.size]? = some (.cells #[.slice none 0 0] 36) := blk_call hb3 (by ((repeat' (first | with_reducible assumption | with_reducible refine blk_drew ?_ | ((with_reducible refine blk_new ?_) <;> (first | omega | (simp; done) | (simp; omega))) | with_reducible refine blk_alloc ?_ _ | with_reducible refine blk_set ?_ _ | with_reducible refine blk_setO ?_ ?_ _ | omega | (dsimp only; omega) | (simp; done) | (simp; omega))); first | done | fail)); obtain ⟨zca, zfa⟩ := one_cell hza; have zda := (fun (O : Obj) => (one_cell (blk_alloc hza O)).1); have zga := (fun (O : Obj) => (one_cell (blk_alloc hza O)).2)) | skip) ; (first | (have hzb : W3.heap[W2.heap.size + 1]? = some (.cells #[.slice none 0 0] 36) := blk_call hb3 (by ((repeat' (first | with_reducible assumption | with_reducible refine blk_drew ?_ | ((with_reducible refine blk_new ?_) <;> (first | omega | (simp; done) | (simp; omega))) | with_reducible refine blk_alloc ?_ _ | with_reducible refine blk_set ?_ _ | with_reducible refine blk_setO ?_ ?_ _ | omega | (dsimp only; omega) | (simp; done) | (simp; omega))); first | done | fail)); obtain ⟨zcb, zfb⟩ := one_cell hzb; have zdb := (fun (O : Obj) => (one_cell (blk_alloc hzb O)).1); have zgb := (fun (O : Obj) => (one_cell (blk_alloc hzb O)).2)) | skip))
          | (go_at_call 41; (with_reducible refine (HO1.out _ (by ((repeat' (first | with_reducible assumption | with_reducible refine belowD ?_ | with_reducible refine belowA ?_ _ | with_reducible refine Below.setCell ?_ ?_ _ | with_reducible exact Below.refl _ _ | (dsimp only; omega) | (simp; omega))); first | done | fail))).mono ?_); rintro e4 W4 ⟨rfl, hf4, hs4, hb4⟩ ; have hb44 : Below W2.heap.size W2 W4 := below_call (by ((repeat' (first | with_reducible assumption | with_reducible refine belowD ?_ | with_reducible refine belowA ?_ _ | with_reducible refine Below.setCell ?_ ?_ _ | with_reducible exact Below.refl _ _ | (dsimp only; omega) | (simp; omega))); first | done | fail)) hb4 ; have hl4 := hb44.size ; obtain ⟨t0, t1, t2, tf⟩ := HC.out W4 hb44 ; obtain ⟨y4, o4, hy4, ho4⟩ := blk_ex hs4 ; have ho34 : W4.heap[y3]? = some o3 := blk_call hb4 (by ((repeat' (first | with_reducible assumption | with_reducible refine blk_drew ?_ | ((with_reducible refine blk_new ?_) <;> (first | omega | (simp; done) | (simp; omega))) | with_reducible refine blk_alloc ?_ _ | with_reducible refine blk_set ?_ _ | with_reducible refine blk_setO ?_ ?_ _ | omega | (dsimp only; omega) | (simp; done) | (simp; omega))); first | done | fail)) ; have hg4 : FAt W4 (y4 + 1) (.slice (some ⟨y4, 0, none⟩) m.o.length m.o.length) (marks K.o) := (by rw [hy4]; exact hf4) ; clear hf4 ; (try simp at hs4) ; (try simp at hy4) ; have hn4 : W2.heap.size ≠ W4.heap.size := (by omega) ; have hn4r := hn4.symm ; (try (have hn4b : W2.heap.size + 1 ≠ W4.heap.size := (by first | omega | fail))) ; have hn4c : W3.heap.size ≠ W4.heap.size := (by omega) ; have hn4cr := hn4c.symm ; (try (have hn4x : W4.heap.size ≠ W2.heap.size + 1 := (by first | omega | fail))) ; (try (have hn4y : W4.heap.size ≠ W3.heap.size + 1 := (by first | omega | fail))) ; (try (have hn4d : W3.heap.size + 1 ≠ W4.heap.size := (by first | omega | fail))) ; (first | (have hzc : W4.heap[W2.heap.size]? = some (.cells #[.slice none 0 0] 36) := blk_call hb4 (by ((repeat' (first | with_reducible assumption | with_reducible refine blk_drew ?_ | ((with_reducible refine blk_new ?_) <;> (first | omega | (simp; done) | (simp; omega))) | with_reducible refine blk_alloc ?_ _ | with_reducible refine blk_set ?_ _ | with_reducible refine blk_setO ?_ ?_ _ | omega | (dsimp only; omega) | (simp; done) | (simp; omega))); first | done | fail)); obtain ⟨zcc, zfc⟩ := one_cell hzc; have zdc := (fun (O : Obj) => (one_cell (blk_alloc hzc O)).1); have zgc := (fun (O : Obj) => (one_cell (blk_alloc hzc O)).2)) | (have hzc : W4.heap[W2.heap.size]? = some (.cells #[.slice (some ⟨W2.heap.size, 0, none⟩) m.y.length m.y.length] 36) := blk_call hb4 (by ((repeat' (first | with_reducible assumption | with_reducible refine blk_drew ?_ | ((with_reducible refine blk_new ?_) <;> (first | omega | (simp; done) | (simp; omega))) | with_reducible refine blk_alloc ?_ _ | with_reducible refine blk_set ?_ _ | with_reducible refine blk_setO ?_ ?_ _ | omega | (dsimp only; omega) | (simp; done) | (simp; omega))); first | done | fail))) | (have hzc : W4.heap[W2.heap.size]? = some (.cells #[.slice (some ⟨W2.heap.size + 1, 0, none⟩) m.y.length m.y.length] 36) := blk_call hb4 (by ((repeat' (first | with_reducible assumption | with_reducible refine blk_drew ?_ | ((with_reducible refine blk_new ?_) <;> (first | omega | (simp; done) | (simp; omega))) | with_reducible refine blk_alloc ?_ _ | with_reducible refine blk_set ?_ _ | with_reducible refine blk_setO ?_ ?_ _ | omega | (dsimp only; omega) | (simp; done) | (simp; omega))); first | done | fail))) | (have hzc : W4.heap[W2.heap.size]? = some (.cells #[.slice (some ⟨W2.heap.size + 1 + 1, 0, none⟩) m.y.length m.y.length] 36) := blk_call hb4 (by ((repeat' (first | with_reducible assumption | with_reducible refine blk_drew ?_ | ((with_reducible refine blk_new ?_) <;> (first | omega | (simp; done) | (simp; omega))) | with_reducible refine blk_alloc ?_ _ | with_reducible refine blk_set ?_ _ | with_reducible refine blk_setO ?_ ?_ _ | omega | (dsimp only; omega) | (simp; done) | (simp; omega))); first | done | fail))) | skip) ; (first | (have hzd : W4.heap[W2.heap.size + 1]? = some (.cells #[.slice none 0 0] 36) := blk_call hb4 (by ((repeat' (first | with_reducible assumption | with_reducible refine blk_drew ?_ | ((with_reducible refine blk_new ?_) <;> (first | omega | (simp; done) | (simp; omega))) | with_reducible refine blk_alloc ?_ _ | with_reducible refine blk_set ?_ _ | with_reducible refine blk_setO ?_ ?_ _ | omega | (dsimp only; omega) | (simp; done) | (simp; omega))); first | done | fail)); obtain ⟨zcd, zfd⟩ := one_cell hzd; have zdd := (fun (O : Obj) => (one_cell (blk_alloc hzd O)).1); have zgd := (fun (O : Obj) => (one_cell (blk_alloc hzd O)).2)) | (have hzd : W4.heap[W2.heap.size + 1]? = some (.cells #[.slice (some ⟨W2.heap.size, 0, none⟩) m.y.length m.y.length] 36) := blk_call hb4 (by ((repeat' (first | with_reducible assumption | with_reducible refine blk_drew ?_ | ((with_reducible refine blk_new ?_) <;> (first | omega | (simp; done) | (simp; omega))) | with_reducible refine blk_alloc ?_ _ | with_reducible refine blk_set ?_ _ | with_reducible refine blk_setO ?_ ?_ _ | omega | (dsimp only; omega) | (simp; done) | (simp; omega))); first | done | fail))) | (have hzd : W4.heap[W2.heap.size + 1]? = some (.cells #[.slice (some ⟨W2.heap.size + 1, 0, none⟩) m.y.length m.y.length] 36) := blk_call hb4 (by ((repeat' (first | with_reducible assumption | with_reducible refine blk_drew ?_ | ((with_reducible refine blk_new ?_) <;> (first | omega | (simp; done) | (simp; omega))) | with_reducible refine blk_alloc ?_ _ | with_reducible refine blk_set ?_ _ | with_reducible refine blk_setO ?_ ?_ _ | omega | (dsimp only; omega) | (simp; done) | (simp; omega))); first | done | fail))) | (have hzd : W4.heap[W2.heap.size + 1]? = some (.cells #[.slice (some ⟨W2.heap.size + 1 + 1, 0, none⟩) m.y.length m.y.length] 36) := blk_call hb4 (by ((repeat' (first | with_reducible assumption | with_reducible refine blk_drew ?_ | ((with_reducible refine blk_new ?_) <;> (first | omega | (simp; done) | (simp; omega))) | with_reducible refine blk_alloc ?_ _ | with_reducible refine blk_set ?_ _ | with_reducible refine blk_setO ?_ ?_ _ | omega | (dsimp only; omega) | (simp; done) | (simp; omega))); first | done | fail))) | skip) ; (first | (have hze : W4.heap[W3.heap.size]? = some (.cells #[.slice none 0 0] 36) := blk_call hb4 (by ((repeat' (first | with_reducible assumption | with_reducible refine blk_drew ?_ | ((with_reducible refine blk_new ?_) <;> (first | omega | (simp; done) | (simp; omega))) | with_reducible refine blk_alloc ?_ _ | with_reducible refine blk_set ?_ _ | with_reducible refine blk_setO ?_ ?_ _ | omega | (dsimp only; omega) | (simp; done) | (simp; omega))); first | done | fail)); obtain ⟨zce, zfe⟩ := one_cell hze; have zde := (fun (O : Obj) => (one_cell (blk_alloc hze O)).1); have zge := (fun (O : Obj) => (one_cell (blk_alloc hze O)).2)) | (have hze : W4.heap[W3.heap.size]? = some (.cells #[.slice (some ⟨W2.heap.size, 0, none⟩) m.y.length m.y.length] 36) := blk_call hb4 (by ((repeat' (first | with_reducible assumption | with_reducible refine blk_drew ?_ | ((with_reducible refine blk_new ?_) <;> (first | omega | (simp; done) | (simp; omega))) | with_reducible refine blk_alloc ?_ _ | with_reducible refine blk_set ?_ _ | with_reducible refine blk_setO ?_ ?_ _ | omega | (dsimp only; omega) | (simp; done) | (simp; omega))); first | done | fail))) | (have hze : W4.heap[W3.heap.size]? = some (.cells #[.slice (some ⟨W2.heap.size + 1, 0, none⟩) m.y.length m.y.length] 36) := blk_call hb4 (by ((repeat' (first | with_reducible assumption | with_reducible refine blk_drew ?_ | ((with_reducible refine blk_new ?_) <;> (first | omega | (simp; done) | (simp; omega))) | with_reducible refine blk_alloc ?_ _ | with_reducible refine blk_set ?_ _ | with_reducible refine blk_setO ?_ ?_ _ | omega | (dsimp only; omega) | (simp; done) | (simp; omega))); first | done | fail))) | (have hze : W4.heap[W3.heap.size]? = some (.cells #[.slice (some ⟨W2.heap.size + 1 + 1, 0, none⟩) m.y.length m.y.length] 36) := blk_call hb4 (by ((repeat' (first | with_reducible assumption | with_reducible refine blk_drew ?_ | ((with_reducible refine blk_new ?_) <;> (first | omega | (simp; done) | (simp; omega))) | with_reducible refine blk_alloc ?_ _ | with_reducible refine blk_set ?_ _ | with_reducible refine blk_setO ?_ ?_ _ | omega | (dsimp only; omega) | (simp; done) | (simp; omega))); first | done | fail))) | skip) ; (first | (have hzf : W4.heap[W3.heap.size + 1]? = some (.cells #[.slice none 0 0] 36) := blk_call hb4 (by ((repeat' (first | with_reducible assumption | with_reducible refine blk_drew ?_ | ((with_reducible refine blk_new ?_) <;> (first | omega | (simp; done) | (simp; omega))) | with_reducible refine blk_alloc ?_ _ | with_reducible refine blk_set ?_ _ | with_reducible refine blk_setO ?_ ?_ _ | omega | (dsimp only; omega) | (simp; done) | (simp; omega))); first | done | fail)); obtain ⟨zcf, zff⟩ := one_cell hzf; have zdf := (fun (O : Obj) => (one_cell (blk_alloc hzf O)).1); have zgf := (fun (O : Obj) => (one_cell (blk_alloc hzf O)).2)) | (have hzf : W4.heap[W3.heap.size + 1]? = some (.cells #[.slice (some ⟨W2.heap.size, 0, none⟩) m.y.length m.y.length] 36) := blk_call hb4 (by ((repeat' (first | with_reducible assumption | with_reducible refine blk_drew ?_ | ((with_reducible refine blk_new ?_) <;> (first | omega | (simp; done) | (simp; omega))) | with_reducible refine blk_alloc ?_ _ | with_reducible refine blk_set ?_ _ | with_reducible refine blk_setO ?_ ?_ _ | omega | (dsimp only; omega) | (simp; done) | (simp; omega))); first | done | fail))) | (have hzf : W4.heap[W3.heap.size + 1]? = some (.cells #[.slice (some ⟨W2.heap.size + 1, 0, none⟩) m.y.length m.y.length] 36) := blk_call hb4 (by ((repeat' (first | with_reducible assumption | with_reducible refine blk_drew ?_ | ((with_reducible refine blk_new ?_) <;> (first | omega | (simp; done) | (simp; omega))) | with_reducible refine blk_alloc ?_ _ | with_reducible refine blk_set ?_ _ | with_reducible refine blk_setO ?_ ?_ _ | omega | (dsimp only; omega) | (simp; done) | (simp; omega))); first | done | fail))) | (have hzf : W4.heap[W3.heap.size + 1]? = some (.cells #[.slice (some ⟨W2.heap.size + 1 + 1, 0, none⟩) m.y.length m.y.length] 36) := blk_call hb4 (by ((repeat' (first | with_reducible assumption | with_reducible refine blk_drew ?_ | ((with_reducible refine blk_new ?_) <;> (first | omega | (simp; done) | (simp; omega))) | with_reducible refine blk_alloc ?_ _ | with_reducible refine blk_set ?_ _ | with_reducible refine blk_setO ?_ ?_ _ | omega | (dsimp only; omega) | (simp; done) | (simp; omega))); first | done | fail))) | skip)))
      all_goals
        go_wp2_with fail
        go_meet
        subst hy3 hy4
        exact ⟨_, _, _, _, rfl, rfl, fit_leaf HX2.out hB HB2.out H1.out H2.out w1 w2 l1 l2 HK.out hg3 ho3 hg4 ho4 (by ((repeat' (first | with_reducible assumption | with_reducible refine belowD ?_ | with_reducible refine belowA ?_ _ | with_reducible refine Below.setCell ?_ ?_ _ | with_reducible exact Below.refl _ _ | (dsimp only; omega) | (simp; omega))); first | done | fail)) (by ((repeat' (first | with_reducible assumption | with_reducible refine blk_drew ?_ | ((with_reducible refine blk_new ?_) <;> (first | omega | (simp; done) | (simp; omega))) | with_reducible refine blk_alloc ?_ _ | with_reducible refine blk_set ?_ _ | with_reducible refine blk_setO ?_ ?_ _ | omega | (dsimp only; omega) | (simp; done) | (simp; omega))); first | done | fail)) (by ((repeat' (first | with_reducible assumption | with_reducible refine blk_drew ?_ | ((with_reducible refine blk_new ?_) <;> (first | omega | (simp; done) | (simp; omega))) | with_reducible refine blk_alloc ?_ _ | with_reducible refine blk_set ?_ _ | with_reducible refine blk_setO ?_ ?_ _ | omega | (dsimp only; omega) | (simp; done) | (simp; omega))); first | done | fail)) (by ((repeat' (first | with_reducible assumption | with_reducible refine blk_drew ?_ | ((with_reducible refine blk_new ?_) <;> (first | omega | (simp; done) | (simp; omega))) | with_reducible refine blk_alloc ?_ _ | with_reducible refine blk_set ?_ _ | with_reducible refine blk_setO ?_ ?_ _ | omega | (dsimp only; omega) | (simp; done) | (simp; omega))); first | done | fail)) (by ((repeat' (first | with_reducible assumption | with_reducible refine blk_drew ?_ | ((with_reducible refine blk_new ?_) <;> (first | omega | (simp; done) | (simp; omega))) | with_reducible refine blk_alloc ?_ _ | with_reducible refine blk_set ?_ _ | with_reducible refine blk_setO ?_ ?_ _ | omega | (dsimp only; omega) | (simp; done) | (simp; omega))); first | done | fail))⟩
    case rest =>
      obtain ⟨z1, z2, p3, p4, rfl, rfl, hfb, hbw⟩ := hcut
      have HB5 := Lib.hid (HB2.out.trans (hbw.mono HB2.out.size))
      have HCo := Lib.hid (contains52 wc wc.heap.size w.heap.size z1 z2 p1 c1 p2 c2 p3 m.y.length p4 m.o.length m K hfb pr cr roots ((HR.out.below HB5.out hB).more (Nat.le_trans hB HB5.out.size)) HWr.out lr)
      clear hfb hbw
      go_wp2_with fail
      refine HCo.out.mono ?_
      rintro e W6 ⟨r, rfl, hr, hb6⟩
      have HB6 := Lib.hid (HB5.out.trans (hb6.mono HB5.out.size))
      have HRr := Lib.hid hr
      clear hb6 hr HCo
      go_wp2_with fail
      go_ret
      refine ⟨!r, rfl, ?_, HB6.out⟩
      have h := HRr.out
      unfold AnyNot at h
      cases r
      · simp only [Bool.not_false, true_iff]
        refine ⟨K, HK.out, fun v hv => Classical.byContradiction fun hn => ?_⟩
        exact Bool.noConfusion (h.2 ⟨v, hv, hn⟩)
      · simp only [Bool.not_true, Bool.false_eq_true, false_iff]
        rintro ⟨K', hK', hv⟩
        obtain rfl := sh_uniq hK' HK.out.y HK.out.o
        obtain ⟨v, hm, hn⟩ := h.1 rfl
        exact hn (hv v hm)
end Go.Proofs.YtegffanlehaloaaGreat.cl
