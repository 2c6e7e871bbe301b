
/- The reference's Shape. Conditions: as said. -/
import Derived.Test.YtpnlnbolhkcnjaaGreatCoP
namespace Go.Proofs.YtpnlnbolhkcnjaaGreat.cl
open Go.RowKit mem words
set_option linter.unusedVariables false
set_option linter.unusedSimpArgs false
set_option maxHeartbeats 4000000
set_option maxRecDepth 100000

theorem sh_uniq {m : Mm} {K K' : Bk} (h : Sh m K') (hy : Objs m.y K.y) (ho : Objs m.o K.o) : K' = K := by
  obtain ⟨a, b⟩ := K
  obtain ⟨a', b'⟩ := K'
  have e1 : a' = a := Objs.uniq h.y hy
  have e2 : b' = b := Objs.uniq h.o ho
  rw [e1, e2]
theorem RowAt.cellB {w : World} {B : Nat} {p : Option Addr} {n c : Nat} {l : List Bool} (h : FAt w B (.slice p n c) l) (h0 : 0 < l.length) : ∃ g o, p = some ⟨g, o, none⟩ ∧ n = l.length ∧ g < B ∧ ∀ j, j < l.length → w.cell? ⟨g, o + j, none⟩ = some (.bool (l.getD j false)) := by
  obtain ⟨p', c', e, h1, h2, h3⟩ := h
  simp only [Value.slice.injEq] at e
  obtain ⟨rfl, rfl, rfl⟩ := e
  obtain ⟨g, o, e, hg, hc⟩ := h3 (List.length_pos_iff.1 h0)
  refine ⟨g, o, e, rfl, hg, fun j hj => ?_⟩
  rw [hc j hj, List.getD_eq_getElem?_getD, List.getElem?_eq_getElem hj]
  rfl
theorem marks_getD {a : List (List Int)} (ha : Pos a) {i : Nat} (hi : i < (marks a).length) : (marks a).getD i false = true ↔ ∃ x, At a i x := by
  rw [← marks_iff ha, List.getD_eq_getElem?_getD, List.getElem?_eq_getElem hi]
  simp
def ShapePost (m : Mm) (w : World) (e : Ending) (w' : World) : Prop := ∃ r, e = .returned (.bool r) ∧ (r = true ↔ ∃ K, Sh m K) ∧ Below w.heap.size w w'
theorem shape31 (w : World) (B : Nat) (v1 v2 : Value) (m : Mm) (hB : B ≤ w.heap.size) (h1 : WAt w B v1 m.y) (h2 : WAt w B v2 m.o) (w1 : Wds m.y) (w2 : Wds m.o) (l1 : m.y.length ≤ 100000) (l2 : m.o.length ≤ 100000) :
    Calls Tryz.prog 13 #[.agg #[v1, v2, .int .i64 m.at_]] w (ShapePost m w) := by
  have HOp := Lib.hid (fun W (hb : Below w.heap.size w W) => open32 W B v1 v2 m (Nat.le_trans hB hb.size) (h1.below hb hB) (h2.below hb hB) w1 w2 l1 l2)
  obtain ⟨p1, c1, rfl, _⟩ := id h1
  obtain ⟨p2, c2, rfl, _⟩ := id h2
  unfold OpenPost bookV at HOp
  have hx := (MapKept.heap_alloc w (.cells #[.slice p1 m.y.length c1, .slice p2 m.o.length c2, .int .i64 m.at_] 24)).1
  have hb0 : Below w.heap.size w (w.alloc (.cells #[.slice p1 m.y.length c1, .slice p2 m.o.length c2, .int .i64 m.at_] 24)) := (Below.refl _ _).alloc (Nat.le_refl _) _
  have HX := Lib.hid hx
  have HB := Lib.hid hb0
  clear hx hb0 h1 h2
  have q1 : decide ((2147483647 : Int) < (m.y.length : Int)) = false := decide_eq_false (by omega)
  have q2 : decide ((2147483647 : Int) < (m.o.length : Int)) = false := decide_eq_false (by omega)
  by_cases hm0 : 0 ≤ m.at_
  · have q3 : decide (m.at_ < 0) = false := decide_eq_false (by omega)
    by_cases hm1 : m.at_ ≤ (m.y.length : Int)
    · have q4 : decide ((m.y.length : Int) < m.at_) = false := decide_eq_false (by omega)
      go_enter Tryz.func13, Tryz.ntmps13
      go_wp2_with fail
      refine (HOp.out _ HB.out).mono ?_
      rintro e W2 ⟨hb2, hop⟩
      have HB2 := Lib.hid (HB.out.trans (hb2.mono HB.out.size))
      have HX2 := Lib.hid (blk_same HX.out hb2)
      clear hb2 HX HB HOp
      rcases hop with ⟨K, v3, v4, rfl, hbk⟩ | ⟨hno, p3, n3, c3, p4, n4, c4, rfl⟩
      · have HBk := Lib.hid hbk
        obtain ⟨_, _, _, _, p3, c3, p4, c4, e1, e2, rfl, rfl⟩ := hbk.form
        clear e1 e2
        obtain ⟨x0, x1, x2, xf⟩ := three_cells HX2.out
        have HOby := Lib.hid hbk.oy
        have HObo := Lib.hid hbk.oo
        have HPosy : Hid (Pos K.y) := Lib.hid hbk.oy.pos
        have HPoso : Hid (Pos K.o) := Lib.hid hbk.oo.pos
        have HFLy : Hid (K.y.flatten.length = m.y.length) := Lib.hid (by rw [hbk.oy.1])
        have HFLo : Hid (K.o.flatten.length = m.o.length) := Lib.hid (by rw [hbk.oo.1])
        have HMLy : Hid ((marks K.y).length = m.y.length) := Lib.hid (by rw [marks_len hbk.oy.pos, hbk.oy.1])
        have HMLo : Hid ((marks K.o).length = m.o.length) := Lib.hid (by rw [marks_len hbk.oo.pos, hbk.oo.1])
        have HFm := Lib.hid (fun W (hb : Below W2.heap.size W2 W) b i x hx => formed58 W W2.heap.size _ _ _ _ m K hb.size (hbk.below hb (Nat.le_refl _)) b i x hx)
        have hb3 : Below W2.heap.size W2 (W2.alloc (.cells #[.slice p1 m.y.length c1, .slice p2 m.o.length c2, .int .i64 m.at_, .slice p3 m.y.length c3, .slice p4 m.o.length c4] 101)) := (Below.refl _ _).alloc (Nat.le_refl _) _
        have HB23 := Lib.hid hb3
        have HZs := Lib.hid hb3.size
        have HZ3 := Lib.hid (MapKept.heap_alloc W2 (.cells #[.slice p1 m.y.length c1, .slice p2 m.o.length c2, .int .i64 m.at_, .slice p3 m.y.length c3, .slice p4 m.o.length c4] 101)).1
        have HX3 := Lib.hid (blk_same HX2.out hb3)
        have HB03 := Lib.hid (HB2.out.trans (hb3.mono HB2.out.size))
        have HF3 := Lib.hid ((hbk.fy.below hb3 (Nat.le_refl _)).more hb3.size)
        have HF4 := Lib.hid ((hbk.fo.below hb3 (Nat.le_refl _)).more hb3.size)
        have HFy2 := Lib.hid hbk.fy
        clear hbk HBk hb3 x0 x1 x2 xf
        obtain ⟨x0, x1, x2, xf⟩ := three_cells HX3.out
        obtain ⟨z0, z1, z2, z3, z4, zf⟩ := five_cells HZ3.out
        by_cases hm2 : m.at_ < (m.y.length : Int)
        case' neg =>
          have q5 : decide (m.at_ < (m.y.length : Int)) = false := decide_eq_false hm2
          have HMk : Hid (m.at_ < (m.y.length : Int) → ∃ x, At K.y m.at_.toNat x) := Lib.hid (fun h => absurd h hm2)
          go_wp2_with fail
        case' pos =>
          have q5 : decide (m.at_ < (m.y.length : Int)) = true := decide_eq_true hm2
          have hmli : m.at_.toNat < (marks K.y).length := by rw [HMLy.out]; omega
          obtain ⟨g3, o3, e3, en3, hg3, hc3⟩ := RowAt.cellB (l := marks K.y) (HFy2.out) (by omega)
          clear en3
          subst e3
          have hne3 : g3 ≠ W2.heap.size := by omega
          have hne3' : W2.heap.size ≠ g3 := by omega
          have hf' := fun h => (World.cell?_alloc_lt W2 (.cells #[.slice p1 m.y.length c1, .slice p2 m.o.length c2, .int .i64 m.at_, .slice (some ⟨g3, o3, none⟩) m.y.length c3, .slice p4 m.o.length c4] 101) ⟨g3, o3 + m.at_.toNat, none⟩ h).trans (hc3 m.at_.toNat hmli)
          have hf3 := hf' hg3
          clear hf'
          have hf := hc3 m.at_.toNat hmli
          have hmk := marks_getD HPosy.out hmli
          generalize (marks K.y).getD m.at_.toNat false = f at hf hmk hf3
          clear hc3
          cases f
          case' true =>
            have HMk : Hid (m.at_ < (m.y.length : Int) → ∃ x, At K.y m.at_.toNat x) := Lib.hid (fun _ => hmk.1 rfl)
            clear hmk
            go_wp2_with fail
          case' false =>
            have HNo : Hid (¬ ∃ K, Sh m K) := Lib.hid (fun ⟨K', h⟩ => by
              obtain rfl := sh_uniq h HOby.out HObo.out
              exact Bool.noConfusion (hmk.2 (h.m2 hm2)))
            clear hmk
            go_wp2_with fail
            go_ret
            exact ⟨false, rfl, by simp [HNo.out], HB03.out⟩
        all_goals
          try clear hf hf3 hne3 hne3'
          clear x0 x1 x2 xf z0 z1 z2 z3 z4 zf
          first
            | generalize (W2.alloc (.cells #[.slice p1 m.y.length c1, .slice p2 m.o.length c2, .int .i64 m.at_, .slice p3 m.y.length c3, .slice p4 m.o.length c4] 101)) = W3 at *
            | generalize (W2.alloc (.cells #[.slice p1 m.y.length c1, .slice p2 m.o.length c2, .int .i64 m.at_, .slice (some ⟨g3, o3, none⟩) m.y.length c3, .slice p4 m.o.length c4] 101)) = W3 at *
          generalize W2.heap.size = zz at *
          go_loopw [5, 6, 7, 8] (fun a _ _ _ wr => ∃ k : Nat, a = .int .i64 k ∧ k ≤ 2 ∧ Hid (∀ b i x, (b = false → 0 < k) → (b = true → 1 < k) → At (K.s b) i x → okAt m K b i x) ∧ Hid (Below W3.heap.size W3 wr)) (fun a _ _ _ _ => 2 - (intOf a).toNat)
          case atStart => exact ⟨0, by go_num, by omega, Lib.hid (fun b i x h1 h2 _ => by cases b; exact absurd (h1 rfl) (by omega); exact absurd (h2 rfl) (by omega)), Lib.hid (Below.refl _ _)⟩
          case round =>
            obtain ⟨k, rfl, hk, HK, HBr⟩ := hrel
            have hk3 : k = 0 ∨ k = 1 ∨ k = 2 := by omega
            rcases hk3 with rfl | rfl | rfl
            · have HAr := Lib.hid (area57 wr p1 p2 m.y.length c1 m.o.length c2 m.at_ false)
              simp only [Bool.false_eq_true, ↓reduceIte] at HAr
              obtain ⟨x0, x1, x2, xf⟩ := three_cells (blk_same HX3.out HBr.out)
              go_wp2_with fail
              refine HAr.out.mono ?_
              rintro e W5 ⟨rfl, hb5⟩
              have HB5 := Lib.hid (HBr.out.trans (hb5.mono HBr.out.size))
              clear hb5 HAr x0 x1 x2 xf
              obtain ⟨z0, z1, z2, z3, z4, zf⟩ := five_cells (blk_same HZ3.out HB5.out)
              go_wp2_with fail
              clear z0 z1 z2 z3 z4 zf
              obtain ⟨wo, rfl⟩ : ∃ wo : World, wo = wr := ⟨_, rfl⟩
              go_loopw [8] (fun a wr => ∃ i : Nat, a = .int .i64 i ∧ i ≤ m.y.length ∧ Hid (∀ i' x, i' < i → At K.y i' x → okAt m K false i' x) ∧ Hid (Below W3.heap.size W3 wr)) (fun a _ => m.y.length - (intOf a).toNat)
              case atStart => exact ⟨0, by go_num, Nat.zero_le _, Lib.hid (fun i' x h => by omega), HB5⟩
              case round =>
                obtain ⟨i, rfl, hi, HI, HBi⟩ := hrel
                by_cases hlt : i < m.y.length
                · have hmli : i < (marks K.y).length := by rw [HMLy.out]; exact hlt
                  obtain ⟨g9, o9, e9, en9, hg9, hc9⟩ := RowAt.cellB (l := marks K.y) (HF3.out) (by omega)
                  clear en9
                  have hf := hc9 i hmli
                  have hmk := marks_getD HPosy.out hmli
                  generalize (marks K.y).getD i false = f at hf hmk
                  have hfi := (HBi.out.cell (p := ⟨g9, o9 + i, none⟩) hg9).trans hf
                  first | subst e9 | cases e9
                  have ri : (0 : Int) ≤ (i : Int) := by omega
                  have rl : (i : Int) < (m.y.length : Int) := by omega
                  have rq : decide ((i : Int) < (m.y.length : Int)) = true := decide_eq_true rl
                  clear hc9 hf
                  cases f
                  · have HNx : Hid (∀ i' x, i' < i + 1 → At K.y i' x → okAt m K false i' x) := Lib.hid (fun i' x h1 h2 => by
                      by_cases he : i' = i
                      · subst he
                        exact Bool.noConfusion (hmk.2 ⟨x, h2⟩)
                      · exact HI.out i' x (by omega) h2)
                    clear hmk
                    go_wp2_with fail
                    go_roundw
                    case rel => exact ⟨i + 1, by go_num, by omega, HNx, HBi⟩
                    case measure => simp [intOf]; omega
                  · obtain ⟨x, hx⟩ := hmk.1 rfl
                    have HF8 := Lib.hid (HFm.out wr (HB23.out.trans (HBi.out.mono HZs.out)) false i x hx)
                    have HXA := Lib.hid hx
                    obtain ⟨z0, z1, z2, z3, z4, zf⟩ := five_cells (blk_same HZ3.out HBi.out)
                    unfold bookV at HF8
                    clear hmk hx
                    go_wp2_with fail
                    refine HF8.out.mono ?_
                    rintro e W6 ⟨r, rfl, hr, hb6⟩
                    have HB6 := Lib.hid (HBi.out.trans (hb6.mono HBi.out.size))
                    have HR := Lib.hid hr
                    clear hb6 hr HF8 z0 z1 z2 z3 z4 zf
                    cases r
                    · have HNo : Hid (¬ ∃ K, Sh m K) := Lib.hid (fun ⟨K', h⟩ => by
                        obtain rfl := sh_uniq h HOby.out HObo.out
                        have := HR.out.2 (h.ok false i x HXA.out)
                        exact Bool.noConfusion this)
                      have HB9 := Lib.hid (HB03.out.trans (HB6.out.mono HB03.out.size))
                      clear HR
                      go_wp2_with fail
                      go_ret
                      exact ⟨false, rfl, by simp [HNo.out], HB9.out⟩
                    · have HNx : Hid (∀ i' x, i' < i + 1 → At K.y i' x → okAt m K false i' x) := Lib.hid (fun i' x' h1 h2 => by
                        by_cases he : i' = i
                        · subst he
                          obtain rfl := At.uniq HPosy.out h2 HXA.out
                          exact HR.out.1 rfl
                        · exact HI.out i' x' (by omega) h2)
                      clear HR
                      go_wp2_with fail
                      go_roundw
                      case rel => exact ⟨i + 1, by go_num, by omega, HNx, HB6⟩
                      case measure => simp [intOf]; omega
                · have HNx : Hid (∀ b i x, (b = false → 0 < 1) → (b = true → 1 < 1) → At (K.s b) i x → okAt m K b i x) := Lib.hid (fun b i' x h1 h2 h3 => by
                    by_cases hb : b = false
                    · subst hb
                      refine HI.out i' x ?_ h3
                      have := h3.bound
                      have h4 : (K.s false).flatten.length = m.y.length := HFLy.out
                      have h5 := HPosy.out x h3.mem
                      omega
                    · cases b
                      · exact HK.out false i' x (fun _ => by first | omega | (exact absurd rfl hb)) (fun h => Bool.noConfusion h) h3
                      · exact absurd (h2 rfl) (by first | omega | (exact fun _ => hb rfl)))
                  have rq : decide ((i : Int) < (m.y.length : Int)) = false := decide_eq_false (by omega)
                  go_wp2_with fail
                  go_roundw
                  case rel => exact ⟨1, by go_num, by omega, HNx, HBi⟩
                  case measure => simp [intOf]
            · have HAr := Lib.hid (area57 wr p1 p2 m.y.length c1 m.o.length c2 m.at_ true)
              simp only [Bool.false_eq_true, ↓reduceIte] at HAr
              obtain ⟨x0, x1, x2, xf⟩ := three_cells (blk_same HX3.out HBr.out)
              go_wp2_with fail
              refine HAr.out.mono ?_
              rintro e W5 ⟨rfl, hb5⟩
              have HB5 := Lib.hid (HBr.out.trans (hb5.mono HBr.out.size))
              clear hb5 HAr x0 x1 x2 xf
              obtain ⟨z0, z1, z2, z3, z4, zf⟩ := five_cells (blk_same HZ3.out HB5.out)
              go_wp2_with fail
              clear z0 z1 z2 z3 z4 zf
              obtain ⟨wo, rfl⟩ : ∃ wo : World, wo = wr := ⟨_, rfl⟩
              go_loopw [8] (fun a wr => ∃ i : Nat, a = .int .i64 i ∧ i ≤ m.o.length ∧ Hid (∀ i' x, i' < i → At K.o i' x → okAt m K true i' x) ∧ Hid (Below W3.heap.size W3 wr)) (fun a _ => m.o.length - (intOf a).toNat)
              case atStart => exact ⟨0, by go_num, Nat.zero_le _, Lib.hid (fun i' x h => by omega), HB5⟩
              case round =>
                obtain ⟨i, rfl, hi, HI, HBi⟩ := hrel
                by_cases hlt : i < m.o.length
                · have hmli : i < (marks K.o).length := by rw [HMLo.out]; exact hlt
                  obtain ⟨g9, o9, e9, en9, hg9, hc9⟩ := RowAt.cellB (l := marks K.o) (HF4.out) (by omega)
                  clear en9
                  have hf := hc9 i hmli
                  have hmk := marks_getD HPoso.out hmli
                  generalize (marks K.o).getD i false = f at hf hmk
                  have hfi := (HBi.out.cell (p := ⟨g9, o9 + i, none⟩) hg9).trans hf
                  first | subst e9 | cases e9
                  have ri : (0 : Int) ≤ (i : Int) := by omega
                  have rl : (i : Int) < (m.o.length : Int) := by omega
                  have rq : decide ((i : Int) < (m.o.length : Int)) = true := decide_eq_true rl
                  clear hc9 hf
                  cases f
                  · have HNx : Hid (∀ i' x, i' < i + 1 → At K.o i' x → okAt m K true i' x) := Lib.hid (fun i' x h1 h2 => by
                      by_cases he : i' = i
                      · subst he
                        exact Bool.noConfusion (hmk.2 ⟨x, h2⟩)
                      · exact HI.out i' x (by omega) h2)
                    clear hmk
                    go_wp2_with fail
                    go_roundw
                    case rel => exact ⟨i + 1, by go_num, by omega, HNx, HBi⟩
                    case measure => simp [intOf]; omega
                  · obtain ⟨x, hx⟩ := hmk.1 rfl
                    have HF8 := Lib.hid (HFm.out wr (HB23.out.trans (HBi.out.mono HZs.out)) true i x hx)
                    have HXA := Lib.hid hx
                    obtain ⟨z0, z1, z2, z3, z4, zf⟩ := five_cells (blk_same HZ3.out HBi.out)
                    unfold bookV at HF8
                    clear hmk hx
                    go_wp2_with fail
                    refine HF8.out.mono ?_
                    rintro e W6 ⟨r, rfl, hr, hb6⟩
                    have HB6 := Lib.hid (HBi.out.trans (hb6.mono HBi.out.size))
                    have HR := Lib.hid hr
                    clear hb6 hr HF8 z0 z1 z2 z3 z4 zf
                    cases r
                    · have HNo : Hid (¬ ∃ K, Sh m K) := Lib.hid (fun ⟨K', h⟩ => by
                        obtain rfl := sh_uniq h HOby.out HObo.out
                        have := HR.out.2 (h.ok true i x HXA.out)
                        exact Bool.noConfusion this)
                      have HB9 := Lib.hid (HB03.out.trans (HB6.out.mono HB03.out.size))
                      clear HR
                      go_wp2_with fail
                      go_ret
                      exact ⟨false, rfl, by simp [HNo.out], HB9.out⟩
                    · have HNx : Hid (∀ i' x, i' < i + 1 → At K.o i' x → okAt m K true i' x) := Lib.hid (fun i' x' h1 h2 => by
                        by_cases he : i' = i
                        · subst he
                          obtain rfl := At.uniq HPoso.out h2 HXA.out
                          exact HR.out.1 rfl
                        · exact HI.out i' x' (by omega) h2)
                      clear HR
                      go_wp2_with fail
                      go_roundw
                      case rel => exact ⟨i + 1, by go_num, by omega, HNx, HB6⟩
                      case measure => simp [intOf]; omega
                · have HNx : Hid (∀ b i x, (b = false → 0 < 2) → (b = true → 1 < 2) → At (K.s b) i x → okAt m K b i x) := Lib.hid (fun b i' x h1 h2 h3 => by
                    by_cases hb : b = true
                    · subst hb
                      refine HI.out i' x ?_ h3
                      have := h3.bound
                      have h4 : (K.s true).flatten.length = m.o.length := HFLo.out
                      have h5 := HPoso.out x h3.mem
                      omega
                    · cases b
                      · exact HK.out false i' x (fun _ => by first | omega | (exact absurd rfl hb)) (fun h => Bool.noConfusion h) h3
                      · exact absurd (h2 rfl) (by first | omega | (exact fun _ => hb rfl)))
                  have rq : decide ((i : Int) < (m.o.length : Int)) = false := decide_eq_false (by omega)
                  go_wp2_with fail
                  go_roundw
                  case rel => exact ⟨2, by go_num, by omega, HNx, HBi⟩
                  case measure => simp [intOf]
            · have HYes : Hid (∃ K, Sh m K) := Lib.hid ⟨K, HOby.out, HObo.out, by omega, by omega, hm0, hm1, HMk.out, fun b i x h => HK.out b i x (fun _ => by omega) (fun _ => by omega) h⟩
              have HB9 := Lib.hid (HB03.out.trans (HBr.out.mono HB03.out.size))
              go_wp2_with fail
              go_ret
              exact ⟨true, rfl, by simp [HYes.out], HB9.out⟩
      · have HNo : Hid (¬ ∃ K, Sh m K) := Lib.hid (fun ⟨K, h⟩ => hno ⟨K, h.y, h.o⟩)
        clear hno
        obtain ⟨x0, x1, x2, xf⟩ := three_cells HX2.out
        have HB3 : Hid (Below w.heap.size w (W2.alloc (.cells #[.slice p1 m.y.length c1, .slice p2 m.o.length c2, .int .i64 m.at_, .slice p3 n3 c3, .slice p4 n4 c4] 101))) := Lib.hid (HB2.out.alloc HB2.out.size _)
        go_wp2_with fail
        go_ret
        exact ⟨false, rfl, by simp [HNo.out], HB3.out⟩
    · have q4 : decide ((m.y.length : Int) < m.at_) = true := decide_eq_true (by omega)
      have HNo : Hid (¬ ∃ K, Sh m K) := Lib.hid (fun ⟨K, h⟩ => hm1 h.m1)
      go_enter Tryz.func13, Tryz.ntmps13
      go_wp2_with fail
      go_ret
      exact ⟨false, rfl, by simp [HNo.out], HB.out⟩
  · have q3 : decide (m.at_ < 0) = true := decide_eq_true (by omega)
    have HNo : Hid (¬ ∃ K, Sh m K) := Lib.hid (fun ⟨K, h⟩ => hm0 h.m0)
    go_enter Tryz.func13, Tryz.ntmps13
    go_wp2_with fail
    go_ret
    exact ⟨false, rfl, by simp [HNo.out], HB.out⟩
end Go.Proofs.YtpnlnbolhkcnjaaGreat.cl
