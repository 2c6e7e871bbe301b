
/- The reference's book of a memory: Open, area, object, IsTerm, Object. Conditions: as said. -/
import Derived.Test.YtpnlnbolhkcnjaaGreatCoJ
namespace Go.Proofs.YtpnlnbolhkcnjaaGreat.cl
open Go.RowKit mem words
set_option linter.unusedVariables false
set_option linter.unusedSimpArgs false
set_option maxHeartbeats 1000000
set_option maxRecDepth 100000

theorem area57 (w : World) (p1 p2 : Option Addr) (n1 c1 n2 c2 : Nat) (mk : Int) (b : Bool) : Calls Tryz.prog 62 #[.agg #[.slice p1 n1 c1, .slice p2 n2 c2, .int .i64 mk], .bool b] w fun e w' => e = .returned (if b then .slice p2 n2 c2 else .slice p1 n1 c1) ∧ Below w.heap.size w w' := by
  have HB : Hid (Below w.heap.size w (w.alloc (.cells #[.slice p1 n1 c1, .slice p2 n2 c2, .int .i64 mk] 24))) := Lib.hid ((Below.refl _ _).alloc (Nat.le_refl _) _)
  cases b
  · go_enter Tryz.func62, Tryz.ntmps62
    go_wp2_with fail
    go_ret
    exact ⟨rfl, HB.out⟩
  · go_enter Tryz.func62, Tryz.ntmps62
    go_wp2_with fail
    go_ret
    exact ⟨rfl, HB.out⟩
theorem RowAt.blk {α : Type} {enc : α → Value} {w w' : World} {B B' g o n c : Nat} {l : List α} (h : RowAt enc w B (.slice (some ⟨g, o, none⟩) n c) l) (hs : w'.heap[g]? = w.heap[g]?) (hg : g < B') : RowAt enc w' B' (.slice (some ⟨g, o, none⟩) n c) l := by
  obtain ⟨p, c', e, h1, h2, h3⟩ := h
  refine ⟨p, c', e, h1, h2, fun hn => ?_⟩
  obtain ⟨g', o', e', hg', hc⟩ := h3 hn
  have he : some (⟨g, o, none⟩ : Addr) = some ⟨g', o', none⟩ := by
    simp only [Value.slice.injEq] at e
    rw [e.1, e']
  simp only [Option.some.injEq, Addr.mk.injEq, and_true] at he
  obtain ⟨rfl, rfl⟩ := he
  exact ⟨g, o, e', hg, fun j hj => (World.cell?_of_block (w := w) (w' := w') (a := ⟨g, o + j, none⟩) hs).trans (hc j hj)⟩
theorem three_cells {w : World} {z : Nat} {a b c : Value} {t : TypeId} (h : w.heap[z]? = some (.cells #[a, b, c] t)) : w.cell? ⟨z, 0, none⟩ = some a ∧ w.cell? ⟨z, 1, none⟩ = some b ∧ w.cell? ⟨z, 2, none⟩ = some c ∧ ∀ o, w.frozen? ⟨z, o, none⟩ = false := by
  refine ⟨?_, ?_, ?_, fun o => ?_⟩
  · simp only [World.cell?, h]; rfl
  · simp only [World.cell?, h]; rfl
  · simp only [World.cell?, h]; rfl
  · simp only [World.frozen?, h]; simp
theorem five_cells {w : World} {z : Nat} {a b c d e : Value} {t : TypeId} (h : w.heap[z]? = some (.cells #[a, b, c, d, e] t)) : w.cell? ⟨z, 0, none⟩ = some a ∧ w.cell? ⟨z, 1, none⟩ = some b ∧ w.cell? ⟨z, 2, none⟩ = some c ∧ w.cell? ⟨z, 3, none⟩ = some d ∧ w.cell? ⟨z, 4, none⟩ = some e ∧ ∀ o, w.frozen? ⟨z, o, none⟩ = false := by
  refine ⟨?_, ?_, ?_, ?_, ?_, fun o => ?_⟩
  · simp only [World.cell?, h]; rfl
  · simp only [World.cell?, h]; rfl
  · simp only [World.cell?, h]; rfl
  · simp only [World.cell?, h]; rfl
  · simp only [World.cell?, h]; rfl
  · simp only [World.frozen?, h]; simp
/-- the book of a memory as a value -/
def bookV (v1 v2 : Value) (k : Int) (v3 v4 : Value) : Value := .agg #[v1, v2, .int .i64 k, v3, v4]
structure BookAt (w : World) (B : Nat) (v1 v2 v3 v4 : Value) (m : Mm) (K : Bk) : Prop where
  y : WAt w B v1 m.y
  o : WAt w B v2 m.o
  fy : FAt w B v3 (marks K.y)
  fo : FAt w B v4 (marks K.o)
  oy : Objs m.y K.y
  oo : Objs m.o K.o
  wy : Wds m.y
  wo : Wds m.o
  ly : m.y.length ≤ 100000
  lo : m.o.length ≤ 100000
def OpenPost (v1 v2 : Value) (m : Mm) (w : World) (e : Ending) (w' : World) : Prop :=
  Below w.heap.size w w' ∧ ((∃ K v3 v4, e = .returned (.tuple #[bookV v1 v2 m.at_ v3 v4, .bool true]) ∧ BookAt w' w'.heap.size v1 v2 v3 v4 m K) ∨
    ((¬ ∃ K : Bk, Objs m.y K.y ∧ Objs m.o K.o) ∧ ∃ p3 n3 c3 p4 n4 c4, e = .returned (.tuple #[bookV v1 v2 m.at_ (.slice p3 n3 c3) (.slice p4 n4 c4), .bool false])))
theorem open32 (w : World) (B : Nat) (v1 v2 : Value) (m : Mm) (hB : B ≤ w.heap.size) (h1 : WAt w B v1 m.y) (h2 : WAt w B v2 m.o) (w1 : Wds m.y) (w2 : Wds m.o) (l1 : m.y.length ≤ 100000) (l2 : m.o.length ≤ 100000) : Calls Tryz.prog 59 #[.agg #[v1, v2, .int .i64 m.at_]] w (OpenPost v1 v2 m w) := by
  have HY := Lib.hid (fun W (hb : Below w.heap.size w W) => begins59 W B v1 m.y (Nat.le_trans hB hb.size) (h1.below hb hB) w1 l1)
  have HO := Lib.hid (fun W (hb : Below w.heap.size w W) => begins59 W B v2 m.o (Nat.le_trans hB hb.size) (h2.below hb hB) w2 l2)
  have H1 := Lib.hid h1
  have H2 := Lib.hid h2
  obtain ⟨p1, c1, rfl, _, _, _⟩ := h1
  obtain ⟨p2, c2, rfl, _, _, _⟩ := h2
  have hx1 := (MapKept.heap_alloc w (.cells #[.slice p1 m.y.length c1, .slice p2 m.o.length c2, .int .i64 m.at_] 24)).1
  have hz1 := (MapKept.heap_alloc (w.alloc (.cells #[.slice p1 m.y.length c1, .slice p2 m.o.length c2, .int .i64 m.at_] 24)) (.cells #[.slice none 0 0, .slice none 0 0, .int .i64 0, .slice none 0 0, .slice none 0 0] 101)).1
  have hx2 : ((w.alloc (.cells #[.slice p1 m.y.length c1, .slice p2 m.o.length c2, .int .i64 m.at_] 24)).alloc (.cells #[.slice none 0 0, .slice none 0 0, .int .i64 0, .slice none 0 0, .slice none 0 0] 101)).heap[w.heap.size]? = some (.cells #[.slice p1 m.y.length c1, .slice p2 m.o.length c2, .int .i64 m.at_] 24) := by rw [Below.heap_alloc _ _ _ (by simp)]; exact hx1
  have hz2 : ((w.alloc (.cells #[.slice p1 m.y.length c1, .slice p2 m.o.length c2, .int .i64 m.at_] 24)).alloc (.cells #[.slice none 0 0, .slice none 0 0, .int .i64 0, .slice none 0 0, .slice none 0 0] 101)).heap[w.heap.size + 1]? = some (.cells #[.slice none 0 0, .slice none 0 0, .int .i64 0, .slice none 0 0, .slice none 0 0] 101) := by simpa using hz1
  have hb0 : Below w.heap.size w ((w.alloc (.cells #[.slice p1 m.y.length c1, .slice p2 m.o.length c2, .int .i64 m.at_] 24)).alloc (.cells #[.slice none 0 0, .slice none 0 0, .int .i64 0, .slice none 0 0, .slice none 0 0] 101)) := ((Below.refl w.heap.size w).alloc (Nat.le_refl _) (.cells #[.slice p1 m.y.length c1, .slice p2 m.o.length c2, .int .i64 m.at_] 24)).alloc (by simp) (.cells #[.slice none 0 0, .slice none 0 0, .int .i64 0, .slice none 0 0, .slice none 0 0] 101)
  have hs0 : w.heap.size + 1 < ((w.alloc (.cells #[.slice p1 m.y.length c1, .slice p2 m.o.length c2, .int .i64 m.at_] 24)).alloc (.cells #[.slice none 0 0, .slice none 0 0, .int .i64 0, .slice none 0 0, .slice none 0 0] 101)).heap.size := by simp
  go_enter Tryz.func59, Tryz.ntmps59
  go_wp2_with fail
  have HX := Lib.hid hx2
  have HZ := Lib.hid hz2
  have HB := Lib.hid hb0
  have HS := Lib.hid hs0
  clear hx1 hz1 hx2 hz2 hb0 hs0
  generalize ((w.alloc (.cells #[.slice p1 m.y.length c1, .slice p2 m.o.length c2, .int .i64 m.at_] 24)).alloc (.cells #[.slice none 0 0, .slice none 0 0, .int .i64 0, .slice none 0 0, .slice none 0 0] 101)) = W0 at *
  refine (HY.out W0 HB.out).mono ?_
  rintro e W1 ⟨hb1, hlt, hY⟩
  have HB1 := Lib.hid (HB.out.trans (hb1.mono HB.out.size))
  have HX1 := Lib.hid ((hb1.block _ (show w.heap.size < W0.heap.size by have := HS.out; omega)).trans HX.out)
  have HZ1 := Lib.hid ((hb1.block _ HS.out).trans HZ.out)
  have HS1 : Hid (w.heap.size + 1 < W1.heap.size) := Lib.hid (Nat.lt_of_lt_of_le HS.out hb1.size)
  have HI1 : Hid (∃ v3 ok, e = .returned (.tuple #[v3, .bool ok]) ∧ (∃ p n c, v3 = .slice p n c) ∧ (ok = true → ∃ a, Objs m.y a ∧ ∀ W', W'.heap[W0.heap.size]? = W1.heap[W0.heap.size]? → W0.heap.size < W'.heap.size → FAt W' W'.heap.size v3 (marks a)) ∧ (ok = false → ¬ ∃ a, Objs m.y a)) := Lib.hid (by
    rcases hY with ⟨a, h1, rfl, h2⟩ | ⟨h1, rfl⟩
    · exact ⟨_, true, rfl, ⟨_, _, _, rfl⟩, fun _ => ⟨a, h1, fun W' e1 e2 => h2.blk e1 e2⟩, fun h => Bool.noConfusion h⟩
    · exact ⟨_, false, rfl, ⟨_, _, _, rfl⟩, fun h => Bool.noConfusion h, fun _ => h1⟩)
  have HS0 := Lib.hid HS.out
  have HL01 : Hid (W0.heap.size < W1.heap.size) := Lib.hid hlt
  clear hb1 hY HX HZ HB HS HY
  obtain ⟨v3, ok1, rfl, ⟨q3, n3, d3, rfl⟩, h3, h3'⟩ := HI1.out
  have H3 := Lib.hid h3
  have H3' := Lib.hid h3'
  clear HI1 h3 h3'
  obtain ⟨x0, x1, x2, xf⟩ := three_cells HX1.out
  go_wp2_with fail
  refine (HO.out W1 HB1.out).mono ?_
  rintro e W2 ⟨hb2, hlt2, hO⟩
  have HB2 := Lib.hid (HB1.out.trans (hb2.mono HB1.out.size))
  have HX2 := Lib.hid ((hb2.block _ (show w.heap.size < W1.heap.size by have := HS1.out; omega)).trans HX1.out)
  have HZ2 := Lib.hid ((hb2.block _ HS1.out).trans HZ1.out)
  have HS2 : Hid (w.heap.size + 1 < W2.heap.size) := Lib.hid (Nat.lt_of_lt_of_le HS1.out hb2.size)
  have HW12 := Lib.hid hb2
  have HI2 : Hid (∃ v4 ok, e = .returned (.tuple #[v4, .bool ok]) ∧ (∃ p n c, v4 = .slice p n c) ∧ (ok = true → ∃ a, Objs m.o a ∧ ∀ W', W'.heap[W1.heap.size]? = W2.heap[W1.heap.size]? → W1.heap.size < W'.heap.size → FAt W' W'.heap.size v4 (marks a)) ∧ (ok = false → ¬ ∃ a, Objs m.o a)) := Lib.hid (by
    rcases hO with ⟨a, h1, rfl, h2⟩ | ⟨h1, rfl⟩
    · exact ⟨_, true, rfl, ⟨_, _, _, rfl⟩, fun _ => ⟨a, h1, fun W' e1 e2 => h2.blk e1 e2⟩, fun h => Bool.noConfusion h⟩
    · exact ⟨_, false, rfl, ⟨_, _, _, rfl⟩, fun h => Bool.noConfusion h, fun _ => h1⟩)
  have HSS := Lib.hid HS1.out
  have HL12 : Hid (W1.heap.size < W2.heap.size) := Lib.hid hlt2
  clear hb2 hO HX1 HZ1 HB1 HS1 HO x0 x1 x2 xf
  obtain ⟨v4, ok2, rfl, ⟨q4, n4, d4, rfl⟩, h4, h4'⟩ := HI2.out
  have H4 := Lib.hid h4
  have H4' := Lib.hid h4'
  clear HI2 h4 h4'
  obtain ⟨x0, x1, x2, xf⟩ := three_cells HX2.out
  obtain ⟨z0, z1, z2, z3, z4, zf⟩ := five_cells HZ2.out
  have hbF : Below (w.heap.size + 1) W2 (((((W2.setCell ⟨w.heap.size + 1, 0, none⟩ (.slice p1 m.y.length c1)).setCell ⟨w.heap.size + 1, 1, none⟩ (.slice p2 m.o.length c2)).setCell ⟨w.heap.size + 1, 2, none⟩ (.int .i64 m.at_)).setCell ⟨w.heap.size + 1, 3, none⟩ (.slice q3 n3 d3)).setCell ⟨w.heap.size + 1, 4, none⟩ (.slice q4 n4 d4)) := ((((((Below.refl (w.heap.size + 1) W2).setCell (Nat.le_refl _) _).setCell (Nat.le_refl _) _).setCell (Nat.le_refl _) _).setCell (Nat.le_refl _) _).setCell (Nat.le_refl _) _)
  have HBF := Lib.hid (HB2.out.trans (hbF.mono (Nat.le_succ _)))
  have HOut : Hid (∀ k, k ≠ w.heap.size + 1 → (((((W2.setCell ⟨w.heap.size + 1, 0, none⟩ (.slice p1 m.y.length c1)).setCell ⟨w.heap.size + 1, 1, none⟩ (.slice p2 m.o.length c2)).setCell ⟨w.heap.size + 1, 2, none⟩ (.int .i64 m.at_)).setCell ⟨w.heap.size + 1, 3, none⟩ (.slice q3 n3 d3)).setCell ⟨w.heap.size + 1, 4, none⟩ (.slice q4 n4 d4)).heap[k]? = W2.heap[k]?) := Lib.hid (fun k hk => by rw [Below.heap_setCell _ _ _ _ hk, Below.heap_setCell _ _ _ _ hk, Below.heap_setCell _ _ _ _ hk, Below.heap_setCell _ _ _ _ hk, Below.heap_setCell _ _ _ _ hk])
  have HSz := Lib.hid hbF.size
  have HNZ0 : Hid (W0.heap.size ≠ w.heap.size + 1) := Lib.hid (by have := HS0.out; omega)
  have HNZ1 : Hid (W1.heap.size ≠ w.heap.size + 1) := Lib.hid (by have := HSS.out; omega)
  clear hbF
  cases ok1
  · have HNo : Hid (¬ ∃ K : Bk, Objs m.y K.y ∧ Objs m.o K.o) := Lib.hid (fun ⟨K, h1, _⟩ => H3'.out rfl ⟨_, h1⟩)
    go_wp2_with fail
    exact bodyPost_ret (v := .tuple #[bookV (.slice p1 m.y.length c1) (.slice p2 m.o.length c2) m.at_ (.slice q3 n3 d3) (.slice q4 n4 d4), .bool false]) (by simp [results, Tryz.results59, go_sem, bookV, *]) rfl ⟨HBF.out, .inr ⟨HNo.out, _, _, _, _, _, _, rfl⟩⟩
  · cases ok2
    · have HNo : Hid (¬ ∃ K : Bk, Objs m.y K.y ∧ Objs m.o K.o) := Lib.hid (fun ⟨K, _, h1⟩ => H4'.out rfl ⟨_, h1⟩)
      go_wp2_with fail
      exact bodyPost_ret (v := .tuple #[bookV (.slice p1 m.y.length c1) (.slice p2 m.o.length c2) m.at_ (.slice q3 n3 d3) (.slice q4 n4 d4), .bool false]) (by simp [results, Tryz.results59, go_sem, bookV, *]) rfl ⟨HBF.out, .inr ⟨HNo.out, _, _, _, _, _, _, rfl⟩⟩
    · obtain ⟨a, ha, ha'⟩ := H3.out rfl
      obtain ⟨b, hb, hb'⟩ := H4.out rfl
      have HA := Lib.hid ha
      have HA' := Lib.hid ha'
      have HBb := Lib.hid hb
      have HB' := Lib.hid hb'
      clear ha ha' hb hb'
      go_wp2_with fail
      refine bodyPost_ret (v := .tuple #[bookV (.slice p1 m.y.length c1) (.slice p2 m.o.length c2) m.at_ (.slice q3 n3 d3) (.slice q4 n4 d4), .bool true]) (by simp [results, Tryz.results59, go_sem, bookV, *]) rfl ⟨HBF.out, .inl ⟨⟨a, b⟩, _, _, rfl, ?_⟩⟩
      have e0 : W2.heap[W0.heap.size]? = W1.heap[W0.heap.size]? := HW12.out.block _ HL01.out
      refine ⟨(H1.out.below HBF.out hB).more (Nat.le_trans hB HBF.out.size), (H2.out.below HBF.out hB).more (Nat.le_trans hB HBF.out.size), HA'.out _ ((HOut.out _ HNZ0.out).trans e0) ?_, HB'.out _ (HOut.out _ HNZ1.out) ?_, HA.out, HBb.out, w1, w2, l1, l2⟩
      · exact Nat.lt_of_lt_of_le HL01.out (Nat.le_trans HW12.out.size HSz.out)
      · exact Nat.lt_of_lt_of_le HL12.out HSz.out
/-- the object of a pointer, as the reference reads it -/
def ObR (K : Bk) (w : World) (v : Int) (e : Ending) : Prop :=
  (∃ x p n c, Pt K v x ∧ e = .returned (.tuple #[.int .i64 (knd x), .slice p n c, .bool (pOld v), .int .i64 (pIx v), .bool true]) ∧ WAt w w.heap.size (.slice p n c) (wds x)) ∨ ((¬ ∃ x, Pt K v x) ∧ e = .returned (.tuple #[.int .i64 0, .slice none 0 0, .bool false, .int .i64 0, .bool false]))
end Go.Proofs.YtpnlnbolhkcnjaaGreat.cl
