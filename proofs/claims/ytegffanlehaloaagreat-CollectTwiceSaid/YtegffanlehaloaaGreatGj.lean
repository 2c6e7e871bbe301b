/- Several texts in one, one behind the other: CoQ, CoR, CoS. No condition beyond theirs. -/
import Derived.Test.YtegffanlehaloaaGreatGi
import Derived.Maps.AppendAt

/- The reference's Shape. Conditions: as said. -/
namespace Go.Proofs.YtegffanlehaloaaGreat.cl
open Go.RowKit mem words
set_option linter.unusedVariables false
set_option linter.unusedSimpArgs false
set_option maxHeartbeats 4000000
set_option maxRecDepth 100000

theorem sh_uniq {m : Mm} {K K' : Bk} (h : Sh m K') (hy : Objs m.y K.y) (ho : Objs m.o K.o) : K' = K := by
  obtain ⟨a, b⟩ := K
  obtain ⟨a', b'⟩ := K'
  have e1 : a' = a := Objs.uniq h.y hy
  have e2 : b' = b := Objs.uniq h.o ho
  rw [e1, e2]
theorem RowAt.cellB {w : World} {B : Nat} {p : Option Addr} {n c : Nat} {l : List Bool} (h : FAt w B (.slice p n c) l) (h0 : 0 < l.length) : ∃ g o, p = some ⟨g, o, none⟩ ∧ n = l.length ∧ g < B ∧ ∀ j, j < l.length → w.cell? ⟨g, o + j, none⟩ = some (.bool (l.getD j false)) := by
  obtain ⟨p', c', e, h1, h2, h3⟩ := h
  simp only [Value.slice.injEq] at e
  obtain ⟨rfl, rfl, rfl⟩ := e
  obtain ⟨g, o, e, hg, hc⟩ := h3 (List.length_pos_iff.1 h0)
  refine ⟨g, o, e, rfl, hg, fun j hj => ?_⟩
  rw [hc j hj, List.getD_eq_getElem?_getD, List.getElem?_eq_getElem hj]
  rfl
theorem marks_getD {a : List (List Int)} (ha : Pos a) {i : Nat} (hi : i < (marks a).length) : (marks a).getD i false = true ↔ ∃ x, At a i x := by
  rw [← marks_iff ha, List.getD_eq_getElem?_getD, List.getElem?_eq_getElem hi]
  simp
def ShapePost (m : Mm) (w : World) (e : Ending) (w' : World) : Prop := ∃ r, e = .returned (.bool r) ∧ (r = true ↔ ∃ K, Sh m K) ∧ Below w.heap.size w w'
theorem shape31 (w : World) (B : Nat) (v1 v2 : Value) (m : Mm) (hB : B ≤ w.heap.size) (h1 : WAt w B v1 m.y) (h2 : WAt w B v2 m.o) (w1 : Wds m.y) (w2 : Wds m.o) (l1 : m.y.length ≤ 100000) (l2 : m.o.length ≤ 100000) :
    Calls Tryz.prog 14 #[.agg #[v1, v2, .int .i64 m.at_]] w (ShapePost m w) := by
  have HOp := Lib.hid (fun W (hb : Below w.heap.size w W) => open32 W B v1 v2 m (Nat.le_trans hB hb.size) (h1.below hb hB) (h2.below hb hB) w1 w2 l1 l2)
  obtain ⟨p1, c1, rfl, _⟩ := id h1
  obtain ⟨p2, c2, rfl, _⟩ := id h2
  unfold OpenPost bookV at HOp
  have hx := (MapKept.heap_alloc w (.cells #[.slice p1 m.y.length c1, .slice p2 m.o.length c2, .int .i64 m.at_] 24)).1
  have hb0 : Below w.heap.size w (w.alloc (.cells #[.slice p1 m.y.length c1, .slice p2 m.o.length c2, .int .i64 m.at_] 24)) := (Below.refl _ _).alloc (Nat.le_refl _) _
  have HX := Lib.hid hx
  have HB := Lib.hid hb0
  clear hx hb0 h1 h2
  have q1 : decide ((2147483647 : Int) < (m.y.length : Int)) = false := decide_eq_false (by omega)
  have q2 : decide ((2147483647 : Int) < (m.o.length : Int)) = false := decide_eq_false (by omega)
  by_cases hm0 : 0 ≤ m.at_
  · have q3 : decide (m.at_ < 0) = false := decide_eq_false (by omega)
    by_cases hm1 : m.at_ ≤ (m.y.length : Int)
    · have q4 : decide ((m.y.length : Int) < m.at_) = false := decide_eq_false (by omega)
      go_enter Tryz.func14, Tryz.ntmps14
      go_wp2_with fail
      refine (HOp.out _ HB.out).mono ?_
      rintro e W2 ⟨hb2, hop⟩
      have HB2 := Lib.hid (HB.out.trans (hb2.mono HB.out.size))
      have HX2 := Lib.hid (blk_same HX.out hb2)
      clear hb2 HX HB HOp
      rcases hop with ⟨K, v3, v4, rfl, hbk⟩ | ⟨hno, p3, n3, c3, p4, n4, c4, rfl⟩
      · have HBk := Lib.hid hbk
        obtain ⟨_, _, _, _, p3, c3, p4, c4, e1, e2, rfl, rfl⟩ := hbk.form
        clear e1 e2
        obtain ⟨x0, x1, x2, xf⟩ := three_cells HX2.out
        have HOby := Lib.hid hbk.oy
        have HObo := Lib.hid hbk.oo
        have HPosy : Hid (Pos K.y) := Lib.hid hbk.oy.pos
        have HPoso : Hid (Pos K.o) := Lib.hid hbk.oo.pos
        have HFLy : Hid (K.y.flatten.length = m.y.length) := Lib.hid (by rw [hbk.oy.1])
        have HFLo : Hid (K.o.flatten.length = m.o.length) := Lib.hid (by rw [hbk.oo.1])
        have HMLy : Hid ((marks K.y).length = m.y.length) := Lib.hid (by rw [marks_len hbk.oy.pos, hbk.oy.1])
        have HMLo : Hid ((marks K.o).length = m.o.length) := Lib.hid (by rw [marks_len hbk.oo.pos, hbk.oo.1])
        have HFm := Lib.hid (fun W (hb : Below W2.heap.size W2 W) b i x hx => formed58 W W2.heap.size _ _ _ _ m K hb.size (hbk.below hb (Nat.le_refl _)) b i x hx)
        have hb3 : Below W2.heap.size W2 (W2.alloc (.cells #[.slice p1 m.y.length c1, .slice p2 m.o.length c2, .int .i64 m.at_, .slice p3 m.y.length c3, .slice p4 m.o.length c4] 38)) := (Below.refl _ _).alloc (Nat.le_refl _) _
        have HB23 := Lib.hid hb3
        have HZs := Lib.hid hb3.size
        have HZ3 := Lib.hid (MapKept.heap_alloc W2 (.cells #[.slice p1 m.y.length c1, .slice p2 m.o.length c2, .int .i64 m.at_, .slice p3 m.y.length c3, .slice p4 m.o.length c4] 38)).1
        have HX3 := Lib.hid (blk_same HX2.out hb3)
        have HB03 := Lib.hid (HB2.out.trans (hb3.mono HB2.out.size))
        have HF3 := Lib.hid ((hbk.fy.below hb3 (Nat.le_refl _)).more hb3.size)
        have HF4 := Lib.hid ((hbk.fo.below hb3 (Nat.le_refl _)).more hb3.size)
        have HFy2 := Lib.hid hbk.fy
        clear hbk HBk hb3 x0 x1 x2 xf
        obtain ⟨x0, x1, x2, xf⟩ := three_cells HX3.out
        obtain ⟨z0, z1, z2, z3, z4, zf⟩ := five_cells HZ3.out
        by_cases hm2 : m.at_ < (m.y.length : Int)
        case' neg =>
          have q5 : decide (m.at_ < (m.y.length : Int)) = false := decide_eq_false hm2
          have HMk : Hid (m.at_ < (m.y.length : Int) → ∃ x, At K.y m.at_.toNat x) := Lib.hid (fun h => absurd h hm2)
          go_wp2_with fail
        case' pos =>
          have q5 : decide (m.at_ < (m.y.length : Int)) = true := decide_eq_true hm2
          have hmli : m.at_.toNat < (marks K.y).length := by rw [HMLy.out]; omega
          obtain ⟨g3, o3, e3, en3, hg3, hc3⟩ := RowAt.cellB (l := marks K.y) (HFy2.out) (by omega)
          clear en3
          subst e3
          have hne3 : g3 ≠ W2.heap.size := by omega
          have hne3' : W2.heap.size ≠ g3 := by omega
          have hf' := fun h => (World.cell?_alloc_lt W2 (.cells #[.slice p1 m.y.length c1, .slice p2 m.o.length c2, .int .i64 m.at_, .slice (some ⟨g3, o3, none⟩) m.y.length c3, .slice p4 m.o.length c4] 38) ⟨g3, o3 + m.at_.toNat, none⟩ h).trans (hc3 m.at_.toNat hmli)
          have hf3 := hf' hg3
          clear hf'
          have hf := hc3 m.at_.toNat hmli
          have hmk := marks_getD HPosy.out hmli
          generalize (marks K.y).getD m.at_.toNat false = f at hf hmk hf3
          clear hc3
          cases f
          case' true =>
            have HMk : Hid (m.at_ < (m.y.length : Int) → ∃ x, At K.y m.at_.toNat x) := Lib.hid (fun _ => hmk.1 rfl)
            clear hmk
            go_wp2_with fail
          case' false =>
            have HNo : Hid (¬ ∃ K, Sh m K) := Lib.hid (fun ⟨K', h⟩ => by
              obtain rfl := sh_uniq h HOby.out HObo.out
              exact Bool.noConfusion (hmk.2 (h.m2 hm2)))
            clear hmk
            go_wp2_with fail
            go_ret
            exact ⟨false, rfl, by simp [HNo.out], HB03.out⟩
        all_goals
          try clear hf hf3 hne3 hne3'
          clear x0 x1 x2 xf z0 z1 z2 z3 z4 zf
          first
            | generalize (W2.alloc (.cells #[.slice p1 m.y.length c1, .slice p2 m.o.length c2, .int .i64 m.at_, .slice p3 m.y.length c3, .slice p4 m.o.length c4] 38)) = W3 at *
            | generalize (W2.alloc (.cells #[.slice p1 m.y.length c1, .slice p2 m.o.length c2, .int .i64 m.at_, .slice (some ⟨g3, o3, none⟩) m.y.length c3, .slice p4 m.o.length c4] 38)) = W3 at *
          generalize W2.heap.size = zz at *
          go_loopw [5, 6, 7, 8] (fun a _ _ _ wr => ∃ k : Nat, a = .int .i64 k ∧ k ≤ 2 ∧ Hid (∀ b i x, (b = false → 0 < k) → (b = true → 1 < k) → At (K.s b) i x → okAt m K b i x) ∧ Hid (Below W3.heap.size W3 wr)) (fun a _ _ _ _ => 2 - (intOf a).toNat)
          case atStart => exact ⟨0, by go_num, by omega, Lib.hid (fun b i x h1 h2 _ => by cases b; exact absurd (h1 rfl) (by omega); exact absurd (h2 rfl) (by omega)), Lib.hid (Below.refl _ _)⟩
          case round =>
            obtain ⟨k, rfl, hk, HK, HBr⟩ := hrel
            have hk3 : k = 0 ∨ k = 1 ∨ k = 2 := by omega
            rcases hk3 with rfl | rfl | rfl
            · have HAr := Lib.hid (area57 wr p1 p2 m.y.length c1 m.o.length c2 m.at_ false)
              simp only [Bool.false_eq_true, ↓reduceIte] at HAr
              obtain ⟨x0, x1, x2, xf⟩ := three_cells (blk_same HX3.out HBr.out)
              go_wp2_with fail
              refine HAr.out.mono ?_
              rintro e W5 ⟨rfl, hb5⟩
              have HB5 := Lib.hid (HBr.out.trans (hb5.mono HBr.out.size))
              clear hb5 HAr x0 x1 x2 xf
              obtain ⟨z0, z1, z2, z3, z4, zf⟩ := five_cells (blk_same HZ3.out HB5.out)
              go_wp2_with fail
              clear z0 z1 z2 z3 z4 zf
              obtain ⟨wo, rfl⟩ : ∃ wo : World, wo = wr := ⟨_, rfl⟩
              go_loopw [8] (fun a wr => ∃ i : Nat, a = .int .i64 i ∧ i ≤ m.y.length ∧ Hid (∀ i' x, i' < i → At K.y i' x → okAt m K false i' x) ∧ Hid (Below W3.heap.size W3 wr)) (fun a _ => m.y.length - (intOf a).toNat)
              case atStart => exact ⟨0, by go_num, Nat.zero_le _, Lib.hid (fun i' x h => by omega), HB5⟩
              case round =>
                obtain ⟨i, rfl, hi, HI, HBi⟩ := hrel
                by_cases hlt : i < m.y.length
                · have hmli : i < (marks K.y).length := by rw [HMLy.out]; exact hlt
                  obtain ⟨g9, o9, e9, en9, hg9, hc9⟩ := RowAt.cellB (l := marks K.y) (HF3.out) (by omega)
                  clear en9
                  have hf := hc9 i hmli
                  have hmk := marks_getD HPosy.out hmli
                  generalize (marks K.y).getD i false = f at hf hmk
                  have hfi := (HBi.out.cell (p := ⟨g9, o9 + i, none⟩) hg9).trans hf
                  first | subst e9 | cases e9
                  have ri : (0 : Int) ≤ (i : Int) := by omega
                  have rl : (i : Int) < (m.y.length : Int) := by omega
                  have rq : decide ((i : Int) < (m.y.length : Int)) = true := decide_eq_true rl
                  clear hc9 hf
                  cases f
                  · have HNx : Hid (∀ i' x, i' < i + 1 → At K.y i' x → okAt m K false i' x) := Lib.hid (fun i' x h1 h2 => by
                      by_cases he : i' = i
                      · subst he
                        exact Bool.noConfusion (hmk.2 ⟨x, h2⟩)
                      · exact HI.out i' x (by omega) h2)
                    clear hmk
                    go_wp2_with fail
                    go_roundw
                    case rel => exact ⟨i + 1, by go_num, by omega, HNx, HBi⟩
                    case measure => simp [intOf]; omega
                  · obtain ⟨x, hx⟩ := hmk.1 rfl
                    have HF8 := Lib.hid (HFm.out wr (HB23.out.trans (HBi.out.mono HZs.out)) false i x hx)
                    have HXA := Lib.hid hx
                    obtain ⟨z0, z1, z2, z3, z4, zf⟩ := five_cells (blk_same HZ3.out HBi.out)
                    unfold bookV at HF8
                    clear hmk hx
                    go_wp2_with fail
                    refine HF8.out.mono ?_
                    rintro e W6 ⟨r, rfl, hr, hb6⟩
                    have HB6 := Lib.hid (HBi.out.trans (hb6.mono HBi.out.size))
                    have HR := Lib.hid hr
                    clear hb6 hr HF8 z0 z1 z2 z3 z4 zf
                    cases r
                    · have HNo : Hid (¬ ∃ K, Sh m K) := Lib.hid (fun ⟨K', h⟩ => by
                        obtain rfl := sh_uniq h HOby.out HObo.out
                        have := HR.out.2 (h.ok false i x HXA.out)
                        exact Bool.noConfusion this)
                      have HB9 := Lib.hid (HB03.out.trans (HB6.out.mono HB03.out.size))
                      clear HR
                      go_wp2_with fail
                      go_ret
                      exact ⟨false, rfl, by simp [HNo.out], HB9.out⟩
                    · have HNx : Hid (∀ i' x, i' < i + 1 → At K.y i' x → okAt m K false i' x) := Lib.hid (fun i' x' h1 h2 => by
                        by_cases he : i' = i
                        · subst he
                          obtain rfl := At.uniq HPosy.out h2 HXA.out
                          exact HR.out.1 rfl
                        · exact HI.out i' x' (by omega) h2)
                      clear HR
                      go_wp2_with fail
                      go_roundw
                      case rel => exact ⟨i + 1, by go_num, by omega, HNx, HB6⟩
                      case measure => simp [intOf]; omega
                · have HNx : Hid (∀ b i x, (b = false → 0 < 1) → (b = true → 1 < 1) → At (K.s b) i x → okAt m K b i x) := Lib.hid (fun b i' x h1 h2 h3 => by
                    by_cases hb : b = false
                    · subst hb
                      refine HI.out i' x ?_ h3
                      have := h3.bound
                      have h4 : (K.s false).flatten.length = m.y.length := HFLy.out
                      have h5 := HPosy.out x h3.mem
                      omega
                    · cases b
                      · exact HK.out false i' x (fun _ => by first | omega | (exact absurd rfl hb)) (fun h => Bool.noConfusion h) h3
                      · exact absurd (h2 rfl) (by first | omega | (exact fun _ => hb rfl)))
                  have rq : decide ((i : Int) < (m.y.length : Int)) = false := decide_eq_false (by omega)
                  go_wp2_with fail
                  go_roundw
                  case rel => exact ⟨1, by go_num, by omega, HNx, HBi⟩
                  case measure => simp [intOf]
            · have HAr := Lib.hid (area57 wr p1 p2 m.y.length c1 m.o.length c2 m.at_ true)
              simp only [Bool.false_eq_true, ↓reduceIte] at HAr
              obtain ⟨x0, x1, x2, xf⟩ := three_cells (blk_same HX3.out HBr.out)
              go_wp2_with fail
              refine HAr.out.mono ?_
              rintro e W5 ⟨rfl, hb5⟩
              have HB5 := Lib.hid (HBr.out.trans (hb5.mono HBr.out.size))
              clear hb5 HAr x0 x1 x2 xf
              obtain ⟨z0, z1, z2, z3, z4, zf⟩ := five_cells (blk_same HZ3.out HB5.out)
              go_wp2_with fail
              clear z0 z1 z2 z3 z4 zf
              obtain ⟨wo, rfl⟩ : ∃ wo : World, wo = wr := ⟨_, rfl⟩
              go_loopw [8] (fun a wr => ∃ i : Nat, a = .int .i64 i ∧ i ≤ m.o.length ∧ Hid (∀ i' x, i' < i → At K.o i' x → okAt m K true i' x) ∧ Hid (Below W3.heap.size W3 wr)) (fun a _ => m.o.length - (intOf a).toNat)
              case atStart => exact ⟨0, by go_num, Nat.zero_le _, Lib.hid (fun i' x h => by omega), HB5⟩
              case round =>
                obtain ⟨i, rfl, hi, HI, HBi⟩ := hrel
                by_cases hlt : i < m.o.length
                · have hmli : i < (marks K.o).length := by rw [HMLo.out]; exact hlt
                  obtain ⟨g9, o9, e9, en9, hg9, hc9⟩ := RowAt.cellB (l := marks K.o) (HF4.out) (by omega)
                  clear en9
                  have hf := hc9 i hmli
                  have hmk := marks_getD HPoso.out hmli
                  generalize (marks K.o).getD i false = f at hf hmk
                  have hfi := (HBi.out.cell (p := ⟨g9, o9 + i, none⟩) hg9).trans hf
                  first | subst e9 | cases e9
                  have ri : (0 : Int) ≤ (i : Int) := by omega
                  have rl : (i : Int) < (m.o.length : Int) := by omega
                  have rq : decide ((i : Int) < (m.o.length : Int)) = true := decide_eq_true rl
                  clear hc9 hf
                  cases f
                  · have HNx : Hid (∀ i' x, i' < i + 1 → At K.o i' x → okAt m K true i' x) := Lib.hid (fun i' x h1 h2 => by
                      by_cases he : i' = i
                      · subst he
                        exact Bool.noConfusion (hmk.2 ⟨x, h2⟩)
                      · exact HI.out i' x (by omega) h2)
                    clear hmk
                    go_wp2_with fail
                    go_roundw
                    case rel => exact ⟨i + 1, by go_num, by omega, HNx, HBi⟩
                    case measure => simp [intOf]; omega
                  · obtain ⟨x, hx⟩ := hmk.1 rfl
                    have HF8 := Lib.hid (HFm.out wr (HB23.out.trans (HBi.out.mono HZs.out)) true i x hx)
                    have HXA := Lib.hid hx
                    obtain ⟨z0, z1, z2, z3, z4, zf⟩ := five_cells (blk_same HZ3.out HBi.out)
                    unfold bookV at HF8
                    clear hmk hx
                    go_wp2_with fail
                    refine HF8.out.mono ?_
                    rintro e W6 ⟨r, rfl, hr, hb6⟩
                    have HB6 := Lib.hid (HBi.out.trans (hb6.mono HBi.out.size))
                    have HR := Lib.hid hr
                    clear hb6 hr HF8 z0 z1 z2 z3 z4 zf
                    cases r
                    · have HNo : Hid (¬ ∃ K, Sh m K) := Lib.hid (fun ⟨K', h⟩ => by
                        obtain rfl := sh_uniq h HOby.out HObo.out
                        have := HR.out.2 (h.ok true i x HXA.out)
                        exact Bool.noConfusion this)
                      have HB9 := Lib.hid (HB03.out.trans (HB6.out.mono HB03.out.size))
                      clear HR
                      go_wp2_with fail
                      go_ret
                      exact ⟨false, rfl, by simp [HNo.out], HB9.out⟩
                    · have HNx : Hid (∀ i' x, i' < i + 1 → At K.o i' x → okAt m K true i' x) := Lib.hid (fun i' x' h1 h2 => by
                        by_cases he : i' = i
                        · subst he
                          obtain rfl := At.uniq HPoso.out h2 HXA.out
                          exact HR.out.1 rfl
                        · exact HI.out i' x' (by omega) h2)
                      clear HR
                      go_wp2_with fail
                      go_roundw
                      case rel => exact ⟨i + 1, by go_num, by omega, HNx, HB6⟩
                      case measure => simp [intOf]; omega
                · have HNx : Hid (∀ b i x, (b = false → 0 < 2) → (b = true → 1 < 2) → At (K.s b) i x → okAt m K b i x) := Lib.hid (fun b i' x h1 h2 h3 => by
                    by_cases hb : b = true
                    · subst hb
                      refine HI.out i' x ?_ h3
                      have := h3.bound
                      have h4 : (K.s true).flatten.length = m.o.length := HFLo.out
                      have h5 := HPoso.out x h3.mem
                      omega
                    · cases b
                      · exact HK.out false i' x (fun _ => by first | omega | (exact absurd rfl hb)) (fun h => Bool.noConfusion h) h3
                      · exact absurd (h2 rfl) (by first | omega | (exact fun _ => hb rfl)))
                  have rq : decide ((i : Int) < (m.o.length : Int)) = false := decide_eq_false (by omega)
                  go_wp2_with fail
                  go_roundw
                  case rel => exact ⟨2, by go_num, by omega, HNx, HBi⟩
                  case measure => simp [intOf]
            · have HYes : Hid (∃ K, Sh m K) := Lib.hid ⟨K, HOby.out, HObo.out, by omega, by omega, hm0, hm1, HMk.out, fun b i x h => HK.out b i x (fun _ => by omega) (fun _ => by omega) h⟩
              have HB9 := Lib.hid (HB03.out.trans (HBr.out.mono HB03.out.size))
              go_wp2_with fail
              go_ret
              exact ⟨true, rfl, by simp [HYes.out], HB9.out⟩
      · have HNo : Hid (¬ ∃ K, Sh m K) := Lib.hid (fun ⟨K, h⟩ => hno ⟨K, h.y, h.o⟩)
        clear hno
        obtain ⟨x0, x1, x2, xf⟩ := three_cells HX2.out
        have HB3 : Hid (Below w.heap.size w (W2.alloc (.cells #[.slice p1 m.y.length c1, .slice p2 m.o.length c2, .int .i64 m.at_, .slice p3 n3 c3, .slice p4 n4 c4] 38))) := Lib.hid (HB2.out.alloc HB2.out.size _)
        go_wp2_with fail
        go_ret
        exact ⟨false, rfl, by simp [HNo.out], HB3.out⟩
    · have q4 : decide ((m.y.length : Int) < m.at_) = true := decide_eq_true (by omega)
      have HNo : Hid (¬ ∃ K, Sh m K) := Lib.hid (fun ⟨K, h⟩ => hm1 h.m1)
      go_enter Tryz.func14, Tryz.ntmps14
      go_wp2_with fail
      go_ret
      exact ⟨false, rfl, by simp [HNo.out], HB.out⟩
  · have q3 : decide (m.at_ < 0) = true := decide_eq_true (by omega)
    have HNo : Hid (¬ ∃ K, Sh m K) := Lib.hid (fun ⟨K, h⟩ => hm0 h.m0)
    go_enter Tryz.func14, Tryz.ntmps14
    go_wp2_with fail
    go_ret
    exact ⟨false, rfl, by simp [HNo.out], HB.out⟩
end Go.Proofs.YtegffanlehaloaaGreat.cl

/- The reference's find, meet, follow. Conditions: as said. -/
namespace Go.Proofs.YtegffanlehaloaaGreat.cl
open Go.RowKit mem words
set_option linter.unusedVariables false
set_option linter.unusedSimpArgs false
set_option maxHeartbeats 2000000
set_option maxRecDepth 100000

/-- words in a row of the call's own -/
def WOwn (w : World) (base : Nat) (v : Value) (l : List Int) : Prop := w.ownsRow base 43 1 v l.length (l.map (Value.int .u64))
theorem WOwn.nil (w : World) (base : Nat) : WOwn w base (.slice none 0 0) [] := World.ownsRow_nil _ _ _ _
theorem WOwn.form {w : World} {base : Nat} {v : Value} {l : List Int} (h : WOwn w base v l) : (v = .slice none 0 0 ∧ l = []) ∨ ∃ g c, v = .slice (some ⟨g, 0, none⟩) l.length c ∧ base ≤ g ∧ g < w.heap.size ∧ l.length ≤ c ∧ c ≤ maxLen := by
  rcases h.2 with ⟨h1, h2⟩ | ⟨g, cap, cur, h1, h2, h3, h4, h5, _⟩
  · exact .inl ⟨h1, List.eq_nil_of_length_eq_zero h2⟩
  · exact .inr ⟨g, cap, h1, h2, (Array.getElem?_eq_some_iff.1 h3).1, h4, h5⟩
theorem WOwn.shape {w : World} {base : Nat} {v : Value} {l : List Int} (h : WOwn w base v l) : ∃ p c, v = .slice p l.length c := by
  rcases h.form with ⟨rfl, rfl⟩ | ⟨g, c, rfl, _⟩
  · exact ⟨_, _, rfl⟩
  · exact ⟨_, _, rfl⟩
theorem WOwn.row {w : World} {base : Nat} {v : Value} {l : List Int} (h : WOwn w base v l) : WAt w w.heap.size v l := by
  rcases h.form with ⟨rfl, rfl⟩ | ⟨g, c, rfl, h1, h2, h3, h4⟩
  · exact ⟨none, 0, rfl, Nat.le_refl _, by unfold maxLen; omega, fun hn => absurd rfl hn⟩
  · refine ⟨_, _, rfl, h3, h4, fun _ => ⟨g, 0, rfl, h2, fun j hj => ?_⟩⟩
    rw [Nat.zero_add, World.ownsRow.cellAt h j (by omega)]
    rw [List.getElem?_map, List.getElem?_eq_getElem hj]
    rfl
theorem WOwn.ge {w : World} {base : Nat} {v : Value} {l : List Int} (h : WOwn w base v l) : ∀ k, v.ownBlock = some k → base ≤ k ∧ k < w.heap.size := by
  intro k hk
  rcases h.form with ⟨rfl, rfl⟩ | ⟨g, c, rfl, h1, h2, _⟩
  · simp [Value.ownBlock] at hk
  · simp only [Value.ownBlock, Option.some.injEq] at hk
    subst hk
    exact ⟨h1, h2⟩
theorem WOwn.below {w w' : World} {base : Nat} {v : Value} {l : List Int} (h : WOwn w base v l) (hb : Below w.heap.size w w') : WOwn w' base v l :=
  row_same h fun k hk => hb.block k (h.ge k hk).2
def fnd : List Int → Int → Int
  | [], _ => -1
  | x :: r, u => if x = u then 0 else if fnd r u = -1 then -1 else fnd r u + 1
theorem fnd_at : ∀ {l : List Int} {u : Int} {i : Nat}, l[i]? = some u → (∀ j, j < i → l[j]? ≠ some u) → fnd l u = i := by
  intro l
  induction l with
  | nil => intro u i h; simp at h
  | cons x r ih =>
    intro u i h h2
    cases i with
    | zero =>
      simp at h
      unfold fnd
      rw [if_pos h]
      rfl
    | succ i =>
      have hx : x ≠ u := fun e => h2 0 (by omega) (by rw [e]; rfl)
      have h3 := ih (u := u) (i := i) (by simpa using h) (fun j hj => by simpa using h2 (j + 1) (by omega))
      unfold fnd
      rw [if_neg hx, h3, if_neg (by omega)]
      omega
theorem fnd_no : ∀ {l : List Int} {u : Int}, u ∉ l → fnd l u = -1 := by
  intro l
  induction l with
  | nil => intro u _; rfl
  | cons x r ih =>
    intro u h
    rw [List.mem_cons] at h
    unfold fnd
    rw [if_neg (fun e => h (.inl e.symm)), ih (fun e => h (.inr e)), if_pos rfl]
theorem fnd_rng : ∀ (l : List Int) (u : Int), -1 ≤ fnd l u ∧ fnd l u < l.length := by
  intro l
  induction l with
  | nil => intro u; unfold fnd; simp
  | cons x r ih =>
    intro u
    have := ih u
    unfold fnd
    rw [List.length_cons]
    split
    · omega
    · split <;> omega
theorem fnd_mem {l : List Int} {u : Int} : 0 ≤ fnd l u ↔ u ∈ l := by
  constructor
  · intro h
    apply Classical.byContradiction
    intro hn
    rw [fnd_no hn] at h
    omega
  · induction l with
    | nil => intro h; simp at h
    | cons x r ih =>
      intro h
      unfold fnd
      split
      · omega
      · rename_i hx
        have := ih ((List.mem_cons.1 h).resolve_left (fun e => hx e.symm))
        rw [if_neg (by omega)]
        omega
theorem RowAt.nth' {w : World} {B : Nat} {p : Option Addr} {n c : Nat} {l : List Int} (h : WAt w B (.slice p n c) l) (h0 : 0 < l.length) : ∃ g o, p = some ⟨g, o, none⟩ ∧ g < B ∧ ∀ j x, l[j]? = some x → w.cell? ⟨g, o + j, none⟩ = some (.int .u64 x) := by
  obtain ⟨p', c', e, h1, h2, h3⟩ := h
  simp only [Value.slice.injEq] at e
  obtain ⟨rfl, rfl, rfl⟩ := e
  obtain ⟨g, o, e, hg, hc⟩ := h3 (List.length_pos_iff.1 h0)
  refine ⟨g, o, e, hg, fun j x hx => ?_⟩
  obtain ⟨hj, rfl⟩ := List.getElem?_eq_some_iff.1 hx
  exact hc j hj
theorem find94 (w : World) (B : Nat) (p : Option Addr) (c : Nat) (l : List Int) (u : Int) (h : WAt w B (.slice p l.length c) l) (hl : l.length ≤ 100000) :
    Calls Tryz.prog 56 #[.slice p l.length c, .int .u64 u] w fun e w' => e = .returned (.int .i64 (fnd l u)) ∧ w = w' := by
  have HAt := Lib.hid (fun i => fnd_at (l := l) (u := u) (i := i))
  have HNo := Lib.hid (fnd_no (l := l) (u := u))
  have HN := Lib.hid (fun h0 => RowAt.nth' h h0)
  clear h
  generalize fnd l u = r at *
  go_enter Tryz.func56, Tryz.ntmps56
  go_wp2_with fail
  go_loop [5] (fun a => ∃ i : Nat, a = .int .i64 i ∧ i ≤ l.length ∧ Hid (∀ j, j < i → l[j]? ≠ some u)) (fun a => l.length - (intOf a).toNat)
  case atStart => exact ⟨0, rfl, Nat.zero_le _, Lib.hid (fun j h => by omega)⟩
  case round =>
    obtain ⟨i, rfl, hi, HI⟩ := hrel
    by_cases hlt : i < l.length
    · obtain ⟨g, o, e, hg, hc⟩ := HN.out (by omega)
      obtain ⟨x, hx⟩ : ∃ x, l[i]? = some x := ⟨_, List.getElem?_eq_getElem hlt⟩
      have hcx := hc i x hx
      have rl : (i : Int) < (l.length : Int) := by omega
      have rq : decide ((i : Int) < (l.length : Int)) = true := decide_eq_true rl
      have HX := Lib.hid hx
      have HP := Lib.hid e
      clear hc hx
      by_cases hxu : x = u
      · have q1 : (x == u) = true := by simpa using hxu
        have HR : Hid (r = (i : Int)) := Lib.hid (HAt.out i (by rw [HX.out, hxu]) HI.out)
        clear hxu HAt
        subst e
        go_wp2_with fail
        go_ret
        exact ⟨by rw [HR.out]; rfl, rfl⟩
      · have q1 : (x == u) = false := by simpa using hxu
        have HI2 : Hid (∀ j, j < i + 1 → l[j]? ≠ some u) := Lib.hid (fun j hj e => by
          by_cases he : j = i
          · rw [he, HX.out] at e
            exact hxu (Option.some.inj e)
          · exact HI.out j (by omega) e)
        clear hxu
        subst e
        go_wp2_with fail
        go_round
        case rel => exact ⟨i + 1, by go_num, by omega, HI2⟩
        case measure => simp [intOf]; omega
    · have rq : decide ((i : Int) < (l.length : Int)) = false := decide_eq_false (by omega)
      have HR : Hid (r = -1) := Lib.hid (HNo.out (fun hm => by
        obtain ⟨j, hj⟩ := List.getElem?_of_mem hm
        have := (List.getElem?_eq_some_iff.1 hj).1
        exact HI.out j (by omega) hj))
      clear HAt HNo
      go_wp2_with fail
      go_ret
      exact ⟨by rw [HR.out]; rfl, rfl⟩
theorem meet79 (w : World) (base : Nat) (v : Value) (l : List Int) (u : Int) (h : WOwn w base v l) (hb : base ≤ w.heap.size) (hl : l.length ≤ 50000) (u0 : 0 ≤ u) (u1 : u ≤ 18446744073709551615) :
    Calls Tryz.prog 54 #[v, .int .u64 u] w fun e w' => ∃ v', e = .returned v' ∧ WOwn w' base v' (metW l u) ∧ Below base w w' := by
  obtain ⟨p, c, rfl⟩ := h.shape
  have HF := Lib.hid (find94 w w.heap.size p c l u h.row (by omega))
  have HP := Lib.hid (fun W => RPointer u u0 u1 W)
  have HM : Hid (metW l u = if pOk u = true ∧ ¬ (0 ≤ fnd l u) then l ++ [u] else l) := Lib.hid (by unfold metW; simp only [fnd_mem])
  have HR := Lib.hid (fnd_rng l u)
  generalize metW l u = l' at *
  have HO := Lib.hid h
  clear h
  generalize pOk u = b at *
  generalize pIx u = ix at *
  generalize pOld u = o at *
  generalize fnd l u = r at *
  cases b
  · have HM' : Hid (l' = l) := Lib.hid (by rw [HM.out]; simp)
    clear HM HR
    go_enter Tryz.func54, Tryz.ntmps54
    go_wp2_with fail
    refine (HP.out _).mono ?_
    rintro e w' ⟨rfl, rfl⟩
    go_wp2_with fail
    go_ret
    exact ⟨_, rfl, by rw [HM'.out]; exact HO.out, Below.refl _ _⟩
  · by_cases hr : 0 ≤ r
    · have HM' : Hid (l' = l) := Lib.hid (by rw [HM.out, if_neg (fun h => h.2 hr)])
      have q1 : decide (0 ≤ r) = true := decide_eq_true hr
      clear HM HR
      go_enter Tryz.func54, Tryz.ntmps54
      go_wp2_with fail
      refine (HP.out _).mono ?_
      rintro e w' ⟨rfl, rfl⟩
      go_wp2_with fail
      refine HF.out.mono ?_
      rintro e w' ⟨rfl, rfl⟩
      go_wp2_with fail
      go_ret
      exact ⟨_, rfl, by rw [HM'.out]; exact HO.out, Below.refl _ _⟩
    · have HM' : Hid (l' = l ++ [u]) := Lib.hid (by rw [HM.out, if_pos ⟨rfl, hr⟩])
      have q1 : decide (0 ≤ r) = false := decide_eq_false hr
      obtain ⟨i0, hi0, hz0, hz1, hz2⟩ := info_parts info34
      have HOw : Hid (WOwn (w.alloc (.cells #[.int .u64 u] 43)) base (.slice p l.length c) l) := Lib.hid (HO.out.below ((Below.refl _ _).alloc (Nat.le_refl _) _))
      have HB1 : Hid (Below base w (w.alloc (.cells #[.int .u64 u] 43))) := Lib.hid (((Below.refl _ _).alloc (Nat.le_refl _) _).mono hb)
      have HG := Lib.hid (fun k hk => (HOw.out.ge k hk).1)
      unfold WOwn at HOw
      clear HM HR
      go_enter Tryz.func54, Tryz.ntmps54
      go_wp2_with fail
      refine (HP.out _).mono ?_
      rintro e w' ⟨rfl, rfl⟩
      go_wp2_with fail
      refine HF.out.mono ?_
      rintro e w' ⟨rfl, rfl⟩
      go_wp2_with (at_builtin; refine wpList_append_own _ rfl (.tmp 23) (.tmp 25) 22 rfl base 43 i0 (.int .u64 0) 1 8 Tryz.underlying22 hi0 hz0 hz1 hz2 rfl (by decide) (.slice p l.length c) l.length (l.map (Value.int .u64)) rfl HOw.out ⟨w.heap.size, 0, none⟩ 1 1 [.int .u64 u] rfl rfl (cell_one_new _ _ _) (by simp [Value.oneCell']) (by unfold maxLen; omega) (by omega) (Nat.le_trans hb HB1.out.size) ?_; intro v' w4 hown4 hg4 _; have HW4 := Lib.hid hown4; have HG4 := Lib.hid hg4; clear hown4 hg4)
      go_ret
      refine ⟨_, rfl, ?_, HB1.out.grown HG4.out (Nat.le_trans hb HB1.out.size) HG.out⟩
      rw [HM'.out]
      unfold WOwn
      rw [List.length_append, List.map_append]
      exact HW4.out
theorem follow80 (w : World) (B : Nat) (v1 v2 v3 v4 : Value) (m : Mm) (K : Bk) (hB : B ≤ w.heap.size) (h : BookAt w B v1 v2 v3 v4 m K) (v : Int) (l0 : 0 ≤ v) (l1 : v ≤ 18446744073709551615) (x : List Int) (hx : Pt K v x) (hok : okO x = true) :
    Calls Tryz.prog 55 #[bookV v1 v2 m.at_ v3 v4, .int .u64 v] w fun e w' => Below w.heap.size w w' ∧ ∃ p c, e = .returned (.slice p (fol x).length c) ∧ WAt w' B (.slice p (fol x).length c) (fol x) := by
  have hobj := hx.2.1.mem
  have hobj : IsObj x := by
    have : ∀ b, x ∈ K.s b → IsObj x := fun b hb => by
      cases b
      · exact h.oy.2 x hb
      · exact h.oo.2 x hb
    exact this _ hobj
  have hbd := hx.2.1.bound
  have hlen : x.length ≤ 100000 := by
    have : ∀ b i, i + x.length ≤ (K.s b).flatten.length → x.length ≤ 100000 := fun b i hb => by
      cases b
      · have e : K.y.flatten.length = m.y.length := by rw [h.oy.1]
        have := h.ly
        have hb : i + x.length ≤ K.y.flatten.length := hb
        omega
      · have e : K.o.flatten.length = m.o.length := by rw [h.oo.1]
        have := h.lo
        have hb : i + x.length ≤ K.o.flatten.length := hb
        omega
    exact this _ _ hbd
  have hwd : Wds (wds x) := by
    have : ∀ b i, At (K.s b) i x → Wds (wds x) := fun b i hb v hv => by
      cases b
      · refine h.wy v ?_
        rw [← h.oy.1]
        exact List.mem_flatten.2 ⟨x, hb.mem, wds_mem hv⟩
      · refine h.wo v ?_
        rw [← h.oo.1]
        exact List.mem_flatten.2 ⟨x, hb.mem, wds_mem hv⟩
    exact this _ _ hx.2.1
  have HO := Lib.hid (fun W (hb : Below w.heap.size w W) => obj66 W B v1 v2 v3 v4 m K (Nat.le_trans hB hb.size) (h.below hb hB) v l0 l1 x hx)
  have HFo := Lib.hid (fun W p c (hb : B ≤ W.heap.size) (hu : WAt W B (.slice p (wds x).length c) (wds x)) => follow67 W B p c (knd x) (wds x) hb hu hwd (Nat.le_trans (wds_len hobj) hlen) (knd_rng hobj).1 (knd_rng hobj).2 hok)
  have HE := Lib.hid (fol_eq hobj)
  have hfl : fxd (knd x) (wds x).length ≤ (wds x).length := fxd_le _ _
  obtain ⟨p1, c1, p2, c2, p3, c3, p4, c4, rfl, rfl, rfl, rfl⟩ := h.form
  have HB0 : Hid (Below w.heap.size w (w.alloc (.cells #[.slice p1 m.y.length c1, .slice p2 m.o.length c2, .int .i64 m.at_, .slice p3 m.y.length c3, .slice p4 m.o.length c4] 38))) := Lib.hid ((Below.refl _ _).alloc (Nat.le_refl _) _)
  unfold bookV at *
  clear h hx hobj hbd hlen hwd hok
  generalize fol x = f at *
  generalize fxd (knd x) (wds x).length = q at *
  generalize wds x = l at *
  generalize knd x = k at *
  go_enter Tryz.func55, Tryz.ntmps55
  go_wp2_with fail
  refine (HO.out _ HB0.out).mono ?_
  rintro e W2 ⟨hb2, p, c, rfl, hu⟩
  have HB2 := Lib.hid (HB0.out.trans (hb2.mono HB0.out.size))
  have HU := Lib.hid hu
  have HF2 := Lib.hid (HFo.out W2 p c (Nat.le_trans hB HB2.out.size) hu)
  obtain ⟨_, _, e1, hc1, hc2, hq⟩ := hu
  simp only [Value.slice.injEq, true_and] at e1
  obtain ⟨rfl, rfl⟩ := e1
  have hfl' : (q : Int) ≤ (l.length : Int) := by omega
  have hfl2 : (l.length : Int) ≤ (c : Int) := by omega
  have hq0 : (0 : Int) ≤ (q : Int) := by omega
  have HQ := Lib.hid hq
  clear hb2 HO HFo hq
  by_cases hn : l = []
  · subst hn
    have hq00 : q = 0 := by simpa using hfl
    subst hq00
    have HE' : Hid (f = []) := Lib.hid (by rw [← HE.out]; rfl)
    cases p with
    | none =>
      have HF : Hid (WAt W2 B (.slice none 0 c) []) := Lib.hid ⟨_, _, rfl, Nat.zero_le _, hc2, fun h => absurd rfl h⟩
      go_wp2_with fail
      refine HF2.out.mono ?_
      rintro e W3 ⟨rfl, hb3⟩
      have HB3 := Lib.hid (HB2.out.trans (hb3.mono HB2.out.size))
      have HF' := Lib.hid (HF.out.below hb3 (Nat.le_trans hB HB2.out.size))
      clear hb3
      go_wp2_with fail
      go_ret
      exact ⟨HB3.out, _, _, by rw [HE'.out]; rfl, by rw [HE'.out]; exact HF'.out⟩
    | some a =>
      have HF : Hid (WAt W2 B (.slice (some a) 0 c) []) := Lib.hid ⟨_, _, rfl, Nat.zero_le _, hc2, fun h => absurd rfl h⟩
      go_wp2_with fail
      refine HF2.out.mono ?_
      rintro e W3 ⟨rfl, hb3⟩
      have HB3 := Lib.hid (HB2.out.trans (hb3.mono HB2.out.size))
      have HF' := Lib.hid (HF.out.below hb3 (Nat.le_trans hB HB2.out.size))
      clear hb3
      go_wp2_with fail
      go_ret
      exact ⟨HB3.out, _, _, by rw [HE'.out]; rfl, by rw [HE'.out]; exact HF'.out⟩
  · obtain ⟨g, o, rfl, hg, _⟩ := HQ.out hn
    have HLn : Hid (f.length = l.length - q) := Lib.hid (by rw [← HE.out, List.length_drop])
    have HTk : Hid ((l.drop q).take (l.length - q) = f) := Lib.hid (by rw [HE.out, ← HLn.out, List.take_length])
    clear HQ
    by_cases hcq : c = q
    · have HCut := Lib.hid (fun W (h : WAt W B (.slice (some ⟨g, o, none⟩) l.length c) l) => by
        have := h.cut q (l.length - q) (by omega)
        rwa [HTk.out, if_pos hcq] at this)
      subst hcq
      go_wp2_with fail
      refine HF2.out.mono ?_
      rintro e W3 ⟨rfl, hb3⟩
      have HB3 := Lib.hid (HB2.out.trans (hb3.mono HB2.out.size))
      have HU3 := Lib.hid (HCut.out W3 (HU.out.below hb3 (Nat.le_trans hB HB2.out.size)))
      clear hb3
      go_wp2_with fail
      go_ret
      have e0 : l.length - c = 0 := by omega
      rw [e0, Nat.sub_self] at HU3
      exact ⟨HB3.out, _, _, by rw [HLn.out, e0]; rfl, by rw [HLn.out, e0]; exact HU3.out⟩
    · have HCut := Lib.hid (fun W (h : WAt W B (.slice (some ⟨g, o, none⟩) l.length c) l) => by
        have := h.cut q (l.length - q) (by omega)
        rwa [HTk.out, if_neg hcq] at this)
      go_wp2_with fail
      refine HF2.out.mono ?_
      rintro e W3 ⟨rfl, hb3⟩
      have HB3 := Lib.hid (HB2.out.trans (hb3.mono HB2.out.size))
      have HU3 := Lib.hid (HCut.out W3 (HU.out.below hb3 (Nat.le_trans hB HB2.out.size)))
      clear hb3
      go_wp2_with fail
      go_ret
      exact ⟨HB3.out, _, _, by rw [HLn.out]; rfl, by rw [HLn.out]; exact HU3.out⟩
end Go.Proofs.YtegffanlehaloaaGreat.cl

/- The reference's Met. Conditions: as said. -/
namespace Go.Proofs.YtegffanlehaloaaGreat.cl
open Go.RowKit mem words
set_option linter.unusedVariables false
set_option linter.unusedSimpArgs false
set_option maxHeartbeats 4000000
set_option maxRecDepth 100000

def Wk (K : Bk) : Prop := ∀ b, ∀ o ∈ K.s b, Wds o
theorem Wk.nn {K : Bk} (h : Wk K) : Nn K := fun b o ho v hv => (h b o ho v hv).1
theorem BookAt.wk {w : World} {B : Nat} {v1 v2 v3 v4 : Value} {m : Mm} {K : Bk} (h : BookAt w B v1 v2 v3 v4 m K) : Wk K := fun b o ho v hv => by
  cases b
  · refine h.wy v ?_
    rw [← h.oy.1]
    exact List.mem_flatten.2 ⟨o, ho, hv⟩
  · refine h.wo v ?_
    rw [← h.oo.1]
    exact List.mem_flatten.2 ⟨o, ho, hv⟩
def Pw (K : Bk) (v : Int) : Prop := (∃ x, Pt K v x) ∧ 0 ≤ v ∧ v ≤ 18446744073709551615
theorem pw_ob {m : Mm} {K : Bk} (h : Sh m K) {w : Int} (hw : Pw K w) : Pt K w (ob K w) := ob_pt h.pos hw.1
theorem pw_fol {m : Mm} {K : Bk} (h : Sh m K) (hk : Wk K) {w v : Int} (hw : Pw K w) (hv : v ∈ folB K w) : Tm K v ∧ 0 ≤ v ∧ v ≤ 18446744073709551615 :=
  ⟨(h.fol hk.nn hw.1 hw.2.1 hv).1, hk _ _ (pw_ob h hw).2.1.mem v (fol_sub hv)⟩
def Ls (K : Bk) (L : List Int) : Prop := L.Nodup ∧ ∀ v ∈ L, Pw K v
theorem Ls.len {m : Mm} {K : Bk} (h : Sh m K) {L : List Int} (hl : Ls K L) : L.length ≤ m.y.length + m.o.length := h.len hl.1 fun w hw => ⟨(hl.2 w hw).1, (hl.2 w hw).2.1⟩
theorem Ls.nil (K : Bk) : Ls K [] := ⟨List.nodup_nil, fun v h => by simp at h⟩
theorem Ls.fold {K : Bk} {L ws : List Int} (hl : Ls K L) (hw : ∀ v ∈ ws, Tm K v ∧ 0 ≤ v ∧ v ≤ 18446744073709551615) : Ls K (ws.foldl metW L) :=
  ⟨fold_nodup hl.1, fun v hv => by
    rcases fold_mem.1 hv with h | ⟨h1, h2⟩
    · exact hl.2 v h
    · exact ⟨tm_ptr (hw v h1).1 h2, (hw v h1).2⟩⟩
theorem fold_take {ws L : List Int} {k : Nat} {x : Int} (h : ws[k]? = some x) : (ws.take (k + 1)).foldl metW L = metW ((ws.take k).foldl metW L) x := by
  obtain ⟨hk, rfl⟩ := List.getElem?_eq_some_iff.1 h
  rw [List.take_succ_eq_append_getElem hk, List.foldl_append]
  rfl
theorem bfs_step {f : Int → List Int} {n i : Nat} {L : List Int} {x : Int} (h : L[i]? = some x) : bfs f (n + 1) i L = bfs f n (i + 1) ((f x).foldl metW L) := by
  show (match L[i]? with | none => L | some w => bfs f n (i + 1) ((f w).foldl metW L)) = _
  rw [h]
theorem bfs_end {f : Int → List Int} {n i : Nat} {L : List Int} (h : L.length ≤ i) : bfs f n i L = L := by
  cases n with
  | zero => rfl
  | succ n =>
    show (match L[i]? with | none => L | some w => bfs f n (i + 1) ((f w).foldl metW L)) = _
    rw [List.getElem?_eq_none h]
def MetPost (K : Bk) (roots : List Int) (w : World) (e : Ending) (w' : World) : Prop := ∃ v, e = .returned v ∧ WOwn w' w.heap.size v (met K roots) ∧ Below w.heap.size w w'
theorem met48 (w : World) (B : Nat) (v1 v2 vr : Value) (m : Mm) (K : Bk) (roots : List Int) (hB : B ≤ w.heap.size) (h1 : WAt w B v1 m.y) (h2 : WAt w B v2 m.o) (w1 : Wds m.y) (w2 : Wds m.o) (ht : m.y.length + m.o.length ≤ 5000) (hs : Sh m K) (hr : WAt w B vr roots) (hrt : ∀ v ∈ roots, Tm K v ∧ 0 ≤ v ∧ v ≤ 18446744073709551615) (hrl : roots.length ≤ 100000) :
    Calls Tryz.prog 29 #[.agg #[v1, v2, .int .i64 m.at_], vr] w (MetPost K roots w) := by
  have HOp := Lib.hid (fun W (hb : Below w.heap.size w W) => open32 W B v1 v2 m (Nat.le_trans hB hb.size) (h1.below hb hB) (h2.below hb hB) w1 w2 (by omega) (by omega))
  have HRow := Lib.hid (fun W (hb : Below w.heap.size w W) (h0 : 0 < roots.length) => hr.below hb hB)
  obtain ⟨p1, c1, rfl, _⟩ := id h1
  obtain ⟨p2, c2, rfl, _⟩ := id h2
  obtain ⟨pr, cr, rfl, _⟩ := id hr
  unfold OpenPost bookV at HOp
  have HX := Lib.hid (MapKept.heap_alloc w (.cells #[.slice p1 m.y.length c1, .slice p2 m.o.length c2, .int .i64 m.at_] 24)).1
  have HB : Hid (Below w.heap.size w (w.alloc (.cells #[.slice p1 m.y.length c1, .slice p2 m.o.length c2, .int .i64 m.at_] 24))) := Lib.hid ((Below.refl _ _).alloc (Nat.le_refl _) _)
  have HRt := Lib.hid hrt
  have HS := Lib.hid hs
  clear h1 h2 hr hrt
  go_enter Tryz.func29, Tryz.ntmps29
  go_wp2_with fail
  refine (HOp.out _ HB.out).mono ?_
  rintro e W2 ⟨hb2, hop⟩
  have HB2 := Lib.hid (HB.out.trans (hb2.mono HB.out.size))
  clear hb2 HX HB HOp
  rcases hop with ⟨K', v3, v4, rfl, hbk⟩ | ⟨hno, _⟩
  case' inr => exact absurd ⟨K, hs.y, hs.o⟩ hno
  obtain rfl := sh_uniq hs hbk.oy hbk.oo
  have HWk := Lib.hid hbk.wk
  have HFw := Lib.hid (fun W (hb : Below W2.heap.size W2 W) v l0 l1 x hx hok => follow80 W W2.heap.size _ _ _ _ m K hb.size (hbk.below hb (Nat.le_refl _)) v l0 l1 x hx hok)
  obtain ⟨_, _, _, _, p3, c3, p4, c4, e1, e2, rfl, rfl⟩ := hbk.form
  clear e1 e2
  have hb3 : Below W2.heap.size W2 (W2.alloc (.cells #[.slice p1 m.y.length c1, .slice p2 m.o.length c2, .int .i64 m.at_, .slice p3 m.y.length c3, .slice p4 m.o.length c4] 38)) := (Below.refl _ _).alloc (Nat.le_refl _) _
  have HB23 := Lib.hid hb3
  have HZs := Lib.hid hb3.size
  have HZ3 := Lib.hid (MapKept.heap_alloc W2 (.cells #[.slice p1 m.y.length c1, .slice p2 m.o.length c2, .int .i64 m.at_, .slice p3 m.y.length c3, .slice p4 m.o.length c4] 38)).1
  have HB03 := Lib.hid (HB2.out.trans (hb3.mono HB2.out.size))
  have HZw := Lib.hid HB2.out.size
  unfold bookV at *
  clear hbk hb3 HB2 hs
  go_wp2_with fail
  generalize (W2.alloc (.cells #[.slice p1 m.y.length c1, .slice p2 m.o.length c2, .int .i64 m.at_, .slice p3 m.y.length c3, .slice p4 m.o.length c4] 38)) = W3 at *
  generalize W2.heap.size = zz at *
  go_loopw [5, 8] (fun a b wr => ∃ (i : Nat) (p : Option Addr) (c : Nat) (L : _root_.List Int), a = .slice p L.length c ∧ b = .int .i64 i ∧ i ≤ roots.length ∧ Hid (L = (roots.take i).foldl metW []) ∧ Hid (WOwn wr W3.heap.size (.slice p L.length c) L) ∧ Hid (Below W3.heap.size W3 wr)) (fun _ b _ => roots.length - (intOf b).toNat)
  case atStart => exact ⟨0, none, 0, [], rfl, by go_num, Nat.zero_le _, Lib.hid rfl, Lib.hid (WOwn.nil _ _), Lib.hid (Below.refl _ _)⟩
  case round =>
    obtain ⟨i, p, c, L, rfl, rfl, hi, HL, HO, HBi⟩ := hrel
    have HLs : Hid (Ls K L) := Lib.hid (by
      rw [HL.out]
      exact (Ls.nil K).fold (fun v hv => HRt.out v (List.mem_of_mem_take hv)))
    have hLl : L.length ≤ 5000 := Nat.le_trans (HLs.out.len HS.out) ht
    by_cases hlt : i < roots.length
    · obtain ⟨g9, o9, e9, hg9, hc9⟩ := RowAt.nth' (HRow.out wr (HB03.out.trans (HBi.out.mono HB03.out.size)) (by omega)) (by omega)
      obtain ⟨x, hx⟩ : ∃ x, roots[i]? = some x := ⟨_, List.getElem?_eq_getElem hlt⟩
      have hcx := hc9 i x hx
      have hxr := HRt.out x (List.mem_of_getElem? hx)
      have rl : (i : Int) < (roots.length : Int) := by omega
      have rq : decide ((i : Int) < (roots.length : Int)) = true := decide_eq_true rl
      have HMt := Lib.hid (meet79 wr W3.heap.size (.slice p L.length c) L x HO.out HBi.out.size (by omega) hxr.2.1 hxr.2.2)
      have HNx : Hid (metW L x = (roots.take (i + 1)).foldl metW []) := Lib.hid (by rw [fold_take hx, ← HL.out])
      subst e9
      clear hc9 hx hxr
      go_wp2_with fail
      refine HMt.out.mono ?_
      rintro e W5 ⟨v', rfl, ho, hb5⟩
      obtain ⟨p', c', rfl⟩ := ho.shape
      have HO5 := Lib.hid ho
      have HB5 := Lib.hid (HBi.out.trans hb5)
      clear ho hb5 HMt
      generalize metW L x = L5 at *
      go_wp2_with fail
      go_roundw
      case rel => exact ⟨i + 1, p', c', L5, rfl, by go_num, by omega, HNx, HO5, HB5⟩
      case measure => simp [intOf]; omega
    · have rq : decide ((i : Int) < (roots.length : Int)) = false := decide_eq_false (by omega)
      have HL0 : Hid (bfs (folB K) 5001 0 L = met K roots) := Lib.hid (by
        rw [HL.out, List.take_of_length_le (by omega)]
        rfl)
      clear HL
      go_wp2_with fail
      go_loopw [5, 9, 10, 11] (fun a b _ _ wr => ∃ (i : Nat) (p : Option Addr) (c : Nat) (L : _root_.List Int), a = .slice p L.length c ∧ b = .int .i64 i ∧ i ≤ L.length ∧ Hid (bfs (folB K) (5001 - i) i L = met K roots) ∧ Hid (Ls K L) ∧ Hid (WOwn wr W3.heap.size (.slice p L.length c) L) ∧ Hid (Below W3.heap.size W3 wr)) (fun _ b _ _ _ => 5001 - (intOf b).toNat)
      case atStart => exact ⟨0, p, c, L, rfl, by go_num, Nat.zero_le _, HL0, HLs, HO, HBi⟩
      case round =>
        clear HL0 HLs HO HBi hLl hlt rq hi
        obtain ⟨i, p, c, L, rfl, rfl, hi, HBf, HLs, HO, HBi⟩ := hrel
        have hLl : L.length ≤ 5000 := Nat.le_trans (HLs.out.len HS.out) ht
        by_cases hlt : i < L.length
        · obtain ⟨g9, o9, e9, hg9, hc9⟩ := RowAt.nth' HO.out.row (by omega)
          obtain ⟨x, hx⟩ : ∃ x, L[i]? = some x := ⟨_, List.getElem?_eq_getElem hlt⟩
          have hcx := hc9 i x hx
          have hpx := HLs.out.2 x (List.mem_of_getElem? hx)
          have rl : (i : Int) < (L.length : Int) := by omega
          have rq : decide ((i : Int) < (L.length : Int)) = true := decide_eq_true rl
          have hbd : Below W3.heap.size W3 (wr.drewN 1) := below_drewN HBi.out 1
          have HOd : Hid (WOwn (wr.drewN 1) W3.heap.size (.slice p L.length c) L) := HO
          have hpt := pw_ob HS.out hpx
          have HFo := Lib.hid (HFw.out (wr.drewN 1) (HB23.out.trans (hbd.mono HZs.out)) x hpx.2.1 hpx.2.2 (ob K x) hpt (HS.out.ok _ _ _ hpt.2.1).1)
          have HWs : Hid (∀ v ∈ folB K x, Tm K v ∧ 0 ≤ v ∧ v ≤ 18446744073709551615) := Lib.hid (fun v hv => pw_fol HS.out HWk.out hpx hv)
          have HSt : Hid (bfs (folB K) (5001 - (i + 1)) (i + 1) ((folB K x).foldl metW L) = met K roots) := Lib.hid (by
            rw [← HBf.out, show 5001 - i = (5001 - (i + 1)) + 1 by omega, bfs_step hx])
          have HFl : Hid ((fol (ob K x)).length ≤ 5000) := Lib.hid (by
            have h1 := hpt.2.1.bound
            have h2 : (fol (ob K x)).length ≤ (ob K x).length := by unfold fol; rw [List.length_drop]; omega
            have e1 : K.y.flatten.length = m.y.length := by rw [HS.out.y.1]
            have e2 : K.o.flatten.length = m.o.length := by rw [HS.out.o.1]
            have h3 : ∀ b i, i + (ob K x).length ≤ (K.s b).flatten.length → (ob K x).length ≤ m.y.length + m.o.length := fun b i h => by
              cases b
              · have h : i + (ob K x).length ≤ K.y.flatten.length := h
                omega
              · have h : i + (ob K x).length ≤ K.o.flatten.length := h
                omega
            have := h3 _ _ h1
            omega)
          unfold folB at HWs HSt
          generalize fol (ob K x) = F at *
          subst e9
          obtain ⟨z0, z1, z2, z3, z4, zf⟩ := five_cells (blk_same HZ3.out HBi.out)
          clear hc9 hx hpx hpt
          have HCx := Lib.hid (fun W (hb : Below (wr.drewN 1).heap.size (wr.drewN 1) W) => (hb.cell (p := ⟨g9, o9 + i, none⟩) (show g9 < wr.heap.size from hg9)).trans hcx)
          have HZd := Lib.hid (fun W (hb : Below W3.heap.size W3 W) => five_cells (blk_same HZ3.out hb))
          go_wp2_with fail
          go_region_held3 (fun w' => w'.cell? ⟨zz, 0, none⟩ = some (.slice p1 m.y.length c1) ∧ w'.cell? ⟨zz, 1, none⟩ = some (.slice p2 m.o.length c2) ∧ w'.cell? ⟨zz, 2, none⟩ = some (.int .i64 m.at_) ∧ w'.cell? ⟨zz, 3, none⟩ = some (.slice p3 m.y.length c3) ∧ w'.cell? ⟨zz, 4, none⟩ = some (.slice p4 m.o.length c4) ∧ w'.cell? ⟨g9, o9 + i, none⟩ = some (.int .u64 x)) (go_keep)
            ((go_at_call 55; refine HFo.out.mono ?_; rintro e W6 ⟨hb6, pw, cw, rfl, hu6⟩; have HU6 := Lib.hid hu6; have HB6r := Lib.hid hb6; have HB6 := Lib.hid (hbd.trans (hb6.mono hbd.size)); have hv6 := HCx.out W6 hb6; obtain ⟨y0, y1, y2, y3, y4, yf⟩ := HZd.out W6 HB6.out; clear hb6 hu6))
          have HO6 := Lib.hid (HOd.out.below HB6r.out)
          have HRW := Lib.hid (fun W (hb : Below W3.heap.size W6 W) h0 => RowAt.nth' (HU6.out.below hb HZs.out) h0)
          clear HCx HZd hbd HOd HFo z0 z1 z2 z3 z4 zf y0 y1 y2 y3 y4 yf hcx hv6 HU6 HB6r
          go_wp2_with fail
          go_loopw [5, 11] (fun a b wr => ∃ (k : Nat) (p : Option Addr) (c : Nat) (L' : _root_.List Int), a = .slice p L'.length c ∧ b = .int .i64 k ∧ k ≤ F.length ∧ Hid (L' = (F.take k).foldl metW L) ∧ Hid (WOwn wr W3.heap.size (.slice p L'.length c) L') ∧ Hid (Below W3.heap.size W6 wr)) (fun _ b _ => F.length - (intOf b).toNat)
          case atStart => exact ⟨0, _, c, L, rfl, by go_num, Nat.zero_le _, Lib.hid rfl, HO6, Lib.hid (Below.refl _ _)⟩
          case round =>
            obtain ⟨k, p, c, L', rfl, rfl, hk, HL', HO', HBk⟩ := hrel
            have HLs' : Hid (Ls K L') := Lib.hid (by
              rw [HL'.out]
              exact HLs.out.fold (fun v hv => HWs.out v (List.mem_of_mem_take hv)))
            have hLl' : L'.length ≤ 5000 := Nat.le_trans (HLs'.out.len HS.out) ht
            have HB9 := Lib.hid (HB6.out.trans HBk.out)
            have hFl := HFl.out
            by_cases hlk : k < F.length
            · obtain ⟨g8, o8, e8, hg8, hc8⟩ := HRW.out wr HBk.out (by omega)
              obtain ⟨u, hu⟩ : ∃ u, F[k]? = some u := ⟨_, List.getElem?_eq_getElem hlk⟩
              have hcu := hc8 k u hu
              have hur := HWs.out u (List.mem_of_getElem? hu)
              have rlk : (k : Int) < (F.length : Int) := by omega
              have rqk : decide ((k : Int) < (F.length : Int)) = true := decide_eq_true rlk
              have HMt := Lib.hid (meet79 wr W3.heap.size (.slice p L'.length c) L' u HO'.out HB9.out.size (by omega) hur.2.1 hur.2.2)
              have HNx : Hid (metW L' u = (F.take (k + 1)).foldl metW L) := Lib.hid (by rw [fold_take hu, ← HL'.out])
              subst e8
              clear hc8 hu hur
              go_wp2_with fail
              refine HMt.out.mono ?_
              rintro e W5 ⟨v', rfl, ho, hb5⟩
              obtain ⟨p', c', rfl⟩ := ho.shape
              have HO5 := Lib.hid ho
              have HB5 := Lib.hid (HBk.out.trans hb5)
              clear ho hb5 HMt
              generalize metW L' u = L5 at *
              go_wp2_with fail
              go_roundw
              case rel => exact ⟨k + 1, p', c', L5, rfl, by go_num, by omega, HNx, HO5, HB5⟩
              case measure => simp [intOf]; omega
            · have rqk : decide ((k : Int) < (F.length : Int)) = false := decide_eq_false (by omega)
              have HL2 : Hid (L' = F.foldl metW L) := Lib.hid (by rw [HL'.out, List.take_of_length_le (by omega)])
              have hLL : L.length ≤ L'.length := by
                obtain ⟨t, ht⟩ := fold_pre (ws := F) L
                rw [HL2.out, ht, List.length_append]
                omega
              have HSt' : Hid (bfs (folB K) (5001 - (i + 1)) (i + 1) L' = met K roots) := Lib.hid (by rw [HL2.out]; exact HSt.out)
              clear HL' HL2 HSt
              go_wp2_with fail
              go_roundw
              case rel => exact ⟨i + 1, p, c, L', rfl, by go_num, by omega, HSt', HLs', HO', HB9⟩
              case measure => simp [intOf]; omega
        · have rq : decide ((i : Int) < (L.length : Int)) = false := decide_eq_false (by omega)
          have HE : Hid (L = met K roots) := Lib.hid (by rw [← HBf.out, bfs_end (by omega)])
          have HB9 := Lib.hid (HB03.out.trans (HBi.out.mono HB03.out.size))
          have HO9 : Hid (WOwn wr w.heap.size (.slice p L.length c) L) := Lib.hid (row_base HO.out fun k hk => Nat.le_trans HB03.out.size (HO.out.ge k hk).1)
          clear HBf HO
          go_wp2_with fail
          go_ret
          exact ⟨_, rfl, by rw [← HE.out]; exact HO9.out, HB9.out⟩
end Go.Proofs.YtegffanlehaloaaGreat.cl
