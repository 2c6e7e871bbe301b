
/- The reference's order: cells, formed, Compare. Conditions: the terms lie in memory. -/
import Derived.Test.YtfbggmbmgohiiaaGreatTnE
import Derived.Test.YtfbggmbmgohiiaaGreatTmS
namespace Go.Proofs.YtfbggmbmgohiiaaGreat.tm
open Go.RowKit mem names
set_option linter.unusedVariables false
set_option linter.unusedSimpArgs false
set_option maxHeartbeats 4000000
set_option maxRecDepth 100000

theorem GoodC.all {α : Type} {S : α → Prop} {kd : α → Int} : ∀ {l : List α} {a : α}, GoodC S kd a l → ∀ x ∈ a :: l, S x
  | [], a, h, x, hx => by simp at hx; subst hx; exact h.1
  | b :: l, a, h, x, hx => by
    rcases List.mem_cons.1 hx with rfl | hx
    · exact h.1
    · exact GoodC.all h.2 x hx
theorem GoodL.all {α : Type} {S : α → Prop} {kd : α → Int} {l : List α} (h : GoodL S kd l) : ∀ x ∈ l, S x := by
  cases l with
  | nil => simp
  | cons a l => exact GoodC.all h
theorem GoodL.tail {α : Type} {S : α → Prop} {kd : α → Int} {l : List α} (h : GoodL S kd l) : GoodL S kd (l.drop 1) := by
  cases l with
  | nil => trivial
  | cons a l => cases l with
    | nil => trivial
    | cons b l => exact h.2
theorem GoodL.last {α : Type} {S : α → Prop} {kd : α → Int} {l : List α} (h : GoodL S kd l) (h2 : l.length = 2) : kd (l[1]'(by omega)) ≠ 9 := by
  match l, h, h2 with
  | [a, b], h, _ => exact h.2.2
theorem ItemsAt.tail {w : World} {B n a x g o : Nat} {l : List (Tm (n + 1))} (h : ItemsAt w B (n + 1) (.slice (some ⟨g, o, none⟩) (a + 3) (x + 3)) l) : ItemsAt w B (n + 1) (.slice (some ⟨g, o + 9, none⟩) (a + 2) (x + 2)) (l.drop 1) := by
  obtain ⟨p, c, e, h1, h2, h3⟩ := h
  simp only [Value.slice.injEq] at e
  obtain ⟨rfl, e2, rfl⟩ := e
  have hl : (l.drop 1).length = a + 2 := by simp; omega
  refine ⟨some ⟨g, o + 9, none⟩, x + 2, by rw [hl], by omega, by omega, fun _ => ?_⟩
  obtain ⟨g', o', e, hg, hc⟩ := h3 (by intro e; subst e; simp at e2)
  simp only [Option.some.injEq, Addr.mk.injEq] at e
  obtain ⟨rfl, rfl, _⟩ := e
  refine ⟨g, o + 9, rfl, hg, fun j hj => ?_⟩
  obtain ⟨u, hc1, hc2⟩ := hc (j + 1) (by omega)
  have e : (l.drop 1)[j] = l[j + 1]'(by omega) := by simp [Nat.add_comm]
  rw [e, show o + 9 + j * 9 = o + (j + 1) * 9 by omega]
  exact ⟨u, hc1, hc2⟩
theorem cellsF (g1 o1 g2 o2 a b x y : Nat) (x1 x2 : TF) (q1 q2 : Option Addr) (m1 d1 m2 d2 : Nat) (w : World) (z r : Int) (r1 r2 : Value) (hz : z ≠ 0 → r = z)
    (hC1 : Cells w g1 o1 x1 (.slice q1 m1 d1)) (hC2 : Cells w g2 o2 x2 (.slice q2 m2 d2)) (hax : a ≤ x) (hby : b ≤ y) (hxm : x + 2 ≤ maxLen) (hym : y + 2 ≤ maxLen)
    (hCall : ∀ W, Below w.heap.size w W → Calls Tryz.prog 86 #[aggV x1 (.slice q1 m1 d1), aggV x2 (.slice q2 m2 d2)] W (IPostC z W))
    (hR1 : ∀ W, Below w.heap.size w W → Calls Tryz.prog 125 #[.slice (some ⟨g1, o1, none⟩) (a + 2) (x + 2)] W (VPost r1 W))
    (hR2 : ∀ W, Below w.heap.size w W → Calls Tryz.prog 125 #[.slice (some ⟨g2, o2, none⟩) (b + 2) (y + 2)] W (VPost r2 W))
    (hF : z = 0 → ∀ W, Below w.heap.size w W → Calls Tryz.prog 86 #[r1, r2] W (IPostC r W)) (hs1 : ∃ f v, r1 = aggV f v) (hs2 : ∃ f v, r2 = aggV f v) :
    Calls Tryz.prog 112 #[.slice (some ⟨g1, o1, none⟩) (a + 2) (x + 2), .slice (some ⟨g2, o2, none⟩) (b + 2) (y + 2)] w (IPostC r w) := by
  obtain ⟨f1, v1, rfl⟩ := hs1
  obtain ⟨f2, v2, rfl⟩ := hs2
  unfold maxLen at hxm hym
  have HR1 := Lib.hid hR1
  have HR2 := Lib.hid hR2
  have HF := Lib.hid hF
  have HZ := Lib.hid hz
  have hb' : Below w.heap.size w w.drew := (Below.refl _ w).drewN 1
  have HC := Lib.hid (hCall w.drew hb')
  clear hR1 hR2 hF hz hCall
  obtain ⟨x10, x11, x12, x13, x14, x15, x16, x17, x18⟩ := hC1
  obtain ⟨y10, y11, y12, y13, y14, y15, y16, y17, y18⟩ := hC2
  unfold aggV IPostC VPost at *
  have ha2 : (0 : Int) < (a : Int) + 2 := by omega
  have hb2 : (0 : Int) < (b : Int) + 2 := by omega
  have ha2n : 0 < a + 2 := by omega
  have hb2n : 0 < b + 2 := by omega
  go_enter Tryz.func112, Tryz.ntmps112
  go_wp2_with fail
  go_still_tail 6, (by kernel_rfl)
  change wpList _ _ _ _ _ w.drew
  clear x10 x11 x12 x13 x14 x15 x16 x17 x18 y10 y11 y12 y13 y14 y15 y16 y17 y18
  have HB' := Lib.hid hb'
  clear hb'
  generalize w.drew = w2 at *
  go_wp2_with fail
  refine HC.out.mono ?_
  rintro e w3 ⟨rfl, hb3⟩
  have hb4 : Below w.heap.size w w3 := HB'.out.trans (hb3.mono HB'.out.size)
  by_cases hx : z = 0
  · subst hx
    have HF2 := Lib.hid (HF.out rfl)
    have HR1' := Lib.hid (HR1.out w3 hb4)
    clear HF HZ HR1
    go_wp2_with fail
    refine HR1'.out.mono ?_
    rintro e w4 ⟨rfl, hb5⟩
    have hb6 := hb4.trans (hb5.mono hb4.size)
    have HR2' := Lib.hid (HR2.out w4 hb6)
    go_wp2_with fail
    refine HR2'.out.mono ?_
    rintro e w5 ⟨rfl, hb7⟩
    have hb8 := hb6.trans (hb7.mono hb6.size)
    have HF3 := Lib.hid (HF2.out w5 hb8)
    go_wp2_with fail
    refine HF3.out.mono ?_
    rintro e w6 ⟨rfl, hb9⟩
    go_wp2_with fail
    go_ret
    exact ⟨rfl, hb8.trans (hb9.mono hb8.size)⟩
  · have q : (z != 0) = true := by simp [hx]
    have HF := Lib.hid (HZ.out hx)
    clear hx HZ
    go_wp2_with fail
    go_ret
    exact ⟨ret1i HF.out.symm, hb4⟩
theorem fNe' (f1 f2 : TF) (p1 p2 : Option Addr) (m1 c1 m2 c2 : Nat) (w : World) (h : f1.kind ≠ f2.kind) : Calls Tryz.prog 86 #[aggV f1 (.slice p1 m1 c1), aggV f2 (.slice p2 m2 c2)] w (IPostC (cmpI f1.kind f2.kind) w) := by
  obtain ⟨k1, i1, g1, n1, fn1, a1, b1, s1⟩ := f1
  obtain ⟨k2, i2, g2, n2, fn2, a2, b2, s2⟩ := f2
  exact fNe _ _ _ _ _ _ _ _ _ _ _ _ _ _ _ _ _ _ _ _ w k1 k2 h
theorem cellsR {n : Nat} (ih : ∀ m, n = m + 1 → RCmpS m) : ∀ (N : Nat) (w : World) (B : Nat) (v1 v2 : Value) (l1 l2 : List (Tm n)), l1.length ≤ N → B ≤ w.heap.size → ItemsAt w B n v1 l1 → ItemsAt w B n v2 l2 → GoodL (FT n) (kdT n) l1 → GoodL (FT n) (kdT n) l2 → 2 ≤ l1.length → 2 ≤ l2.length →
    Calls Tryz.prog 112 #[v1, v2] w (IPostC (listsC (kdT n) (cmpTm n) l1 l2) w) := by
  cases n with
  | zero => intro N w B v1 v2 l1 l2 _ _ _ _ _ _ h; rw [Tm.nil0 l1] at h; simp at h
  | succ n =>
  intro N
  induction N with
  | zero => intro w B v1 v2 l1 l2 h _ _ _ _ _ h2; omega
  | succ N ihN =>
    intro w B v1 v2 l1 l2 hN hB h1 h2 f1 f2 e1 e2
    obtain ⟨g1, o1, c1, rfl, hc1, hm1, hg1, hx1⟩ := h1.at_ (by intro e; subst e; simp at e1)
    obtain ⟨g2, o2, c2, rfl, hc2, hm2, hg2, hx2⟩ := h2.at_ (by intro e; subst e; simp at e2)
    obtain ⟨u1, hC1, hI1⟩ := hx1 0 (by omega)
    obtain ⟨u2, hC2, hI2⟩ := hx2 0 (by omega)
    obtain ⟨u3, hC3, hI3⟩ := hx1 1 (by omega)
    obtain ⟨u4, hC4, hI4⟩ := hx2 1 (by omega)
    obtain ⟨q1, d1, rfl, _, _⟩ := hI1.shape
    obtain ⟨q2, d2, rfl, _, _⟩ := hI2.shape
    obtain ⟨q3, d3, rfl, _, _⟩ := hI3.shape
    obtain ⟨q4, d4, rfl, _, _⟩ := hI4.shape
    have F1 := f1.all
    have F2 := f2.all
    have HA := lists_at (kdT (n + 1)) (cmpTm (n + 1)) l1 l2 0 (by omega) (by omega)
    simp only [List.drop_zero, Nat.zero_add] at HA
    obtain ⟨A1, A2, A3, A4, A5⟩ := HA
    have hCall := fun W (hb : Below w.heap.size w W) => ih n rfl W B _ _ l1[0] l2[0] (Nat.le_trans hB hb.size) (hI1.below hb hB) (hI2.below hb hB) (F1 _ (List.getElem_mem _)) (F2 _ (List.getElem_mem _))
    have hCall2 := fun W (hb : Below w.heap.size w W) => ih n rfl W B _ _ l1[1] l2[1] (Nat.le_trans hB hb.size) (hI3.below hb hB) (hI4.below hb hB) (F1 _ (List.getElem_mem _)) (F2 _ (List.getElem_mem _))
    obtain ⟨a, ha⟩ : ∃ a, l1.length = a + 2 := ⟨l1.length - 2, by omega⟩
    obtain ⟨b, hb⟩ : ∃ b, l2.length = b + 2 := ⟨l2.length - 2, by omega⟩
    obtain ⟨x, rfl⟩ : ∃ x, c1 = x + 2 := ⟨c1 - 2, by omega⟩
    obtain ⟨y, rfl⟩ : ∃ y, c2 = y + 2 := ⟨c2 - 2, by omega⟩
    rw [ha] at h1 hc1 ⊢
    rw [hb] at h2 hc2 ⊢
    have r1 : ∃ R1, (∃ f v, R1 = aggV f v) ∧ (∀ W, Below w.heap.size w W → Calls Tryz.prog 125 #[.slice (some ⟨g1, o1, none⟩) (a + 2) (x + 2)] W (VPost R1 W)) ∧ (a = 0 → R1 = aggV l1[1].f (.slice q3 l1[1].items.length d3)) ∧ (a ≠ 0 → ∃ s, x = s + 1 ∧ R1 = aggV listF (.slice (some ⟨g1, o1 + 9, none⟩) (a + 1) (s + 2)) ∧ ItemsAt w B (n + 1) (.slice (some ⟨g1, o1 + 9, none⟩) (a + 1) (s + 2)) (l1.drop 1)) := by
      cases a with
      | zero => exact ⟨_, ⟨_, _, rfl⟩, fun W hb => rest2 g1 o1 _ _ q3 _ d3 W (Nat.lt_of_lt_of_le (Nat.lt_of_lt_of_le hg1 hB) hb.size) ((show o1 + 1 * 9 = o1 + 9 by omega) ▸ hC3.same (hb.block g1 (by omega))), fun _ => rfl, fun h => absurd rfl h⟩
      | succ a =>
        obtain ⟨s, rfl⟩ : ∃ s, x = s + 1 := ⟨x - 1, by omega⟩
        exact ⟨_, ⟨_, _, rfl⟩, fun W hb => rest3 g1 o1 a s W (by omega) (by omega), fun h => by omega, fun _ => ⟨s, rfl, rfl, h1.tail⟩⟩
    have r2 : ∃ R2, (∃ f v, R2 = aggV f v) ∧ (∀ W, Below w.heap.size w W → Calls Tryz.prog 125 #[.slice (some ⟨g2, o2, none⟩) (b + 2) (y + 2)] W (VPost R2 W)) ∧ (b = 0 → R2 = aggV l2[1].f (.slice q4 l2[1].items.length d4)) ∧ (b ≠ 0 → ∃ s, y = s + 1 ∧ R2 = aggV listF (.slice (some ⟨g2, o2 + 9, none⟩) (b + 1) (s + 2)) ∧ ItemsAt w B (n + 1) (.slice (some ⟨g2, o2 + 9, none⟩) (b + 1) (s + 2)) (l2.drop 1)) := by
      cases b with
      | zero => exact ⟨_, ⟨_, _, rfl⟩, fun W hb => rest2 g2 o2 _ _ q4 _ d4 W (Nat.lt_of_lt_of_le (Nat.lt_of_lt_of_le hg2 hB) hb.size) ((show o2 + 1 * 9 = o2 + 9 by omega) ▸ hC4.same (hb.block g2 (by omega))), fun _ => rfl, fun h => absurd rfl h⟩
      | succ b =>
        obtain ⟨s, rfl⟩ : ∃ s, y = s + 1 := ⟨y - 1, by omega⟩
        exact ⟨_, ⟨_, _, rfl⟩, fun W hb => rest3 g2 o2 b s W (by omega) (by omega), fun h => by omega, fun _ => ⟨s, rfl, rfl, h2.tail⟩⟩
    obtain ⟨R1, hs1, hR1, hr10, hr11⟩ := r1
    obtain ⟨R2, hs2, hR2, hr20, hr21⟩ := r2
    refine cellsF g1 o1 g2 o2 a b x y l1[0].f l2[0].f q1 q2 _ d1 _ d2 w (cmpTm (n + 1) l1[0] l2[0]) _ R1 R2 (fun h => A1 h) ((show o1 + 0 * 9 = o1 by omega) ▸ hC1) ((show o2 + 0 * 9 = o2 by omega) ▸ hC2) (by omega) (by omega) hm1 hm2 hCall hR1 hR2 (fun hz W hb => ?_) hs1 hs2
    rw [A2 hz]
    by_cases ea : a = 0
    · rw [hr10 ea]
      have k1 : l1[1].f.kind ≠ 9 := f1.last (by omega)
      by_cases eb : b = 0
      · rw [hr20 eb, A3 (by omega) (by omega)]
        exact hCall2 W hb
      · obtain ⟨s, _, e, _⟩ := hr21 eb
        rw [e, A4 (by omega) (by omega)]
        exact fNe' _ listF _ _ _ _ _ _ W k1
    · obtain ⟨s, _, e, hT1⟩ := hr11 ea
      rw [e]
      by_cases eb : b = 0
      · have k2 : l2[1].f.kind ≠ 9 := f2.last (by omega)
        rw [hr20 eb, A5 (by omega) (by omega)]
        exact fNe' listF _ _ _ _ _ _ _ W (Ne.symm k2)
      · obtain ⟨s2, _, e2, hT2⟩ := hr21 eb
        rw [e2]
        exact f9 0 0 0 0 _ _ _ _ 0 0 _ _ 0 0 _ _ _ _ _ _ W _ (fun W' hb' => ihN W' B _ _ (l1.drop 1) (l2.drop 1) (by simp; omega) (Nat.le_trans hB (Nat.le_trans hb.size hb'.size)) ((hT1.below hb hB).below hb' (Nat.le_trans hB hb.size)) ((hT2.below hb hB).below hb' (Nat.le_trans hB hb.size)) f1.tail f2.tail (by simp; omega) (by simp; omega))
end Go.Proofs.YtfbggmbmgohiiaaGreat.tm
