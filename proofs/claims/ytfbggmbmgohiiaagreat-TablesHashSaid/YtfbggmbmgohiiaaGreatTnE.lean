
/- The reference's order: counted, rest. Conditions: the terms lie in memory, and are formed. -/
import Derived.Test.YtfbggmbmgohiiaaGreatTnD
namespace Go.Proofs.YtfbggmbmgohiiaaGreat.tm
open Go.RowKit mem names
set_option linter.unusedVariables false
set_option linter.unusedSimpArgs false
set_option maxHeartbeats 4000000
set_option maxRecDepth 100000

def RCmpS (n : Nat) : Prop := ∀ (w : World) (B : Nat) (v1 v2 : Value) (a b : Tm (n + 1)), B ≤ w.heap.size → ItemsAt w B n v1 a.items → ItemsAt w B n v2 b.items → formedT a = true → formedT b = true → Calls Tryz.prog 86 #[aggV a.f v1, aggV b.f v2] w (IPostC (cmpTm (n + 1) a b) w)
/-- two elements -/
theorem pairElR {n : Nat} (ih : ∀ m, n = m + 1 → RCmpS m) (w : World) (B : Nat) (p1 p2 : Option Addr) (n1 n2 c1 c2 : Nat) (l1 l2 : List (Tm n)) (hB : B ≤ w.heap.size) (h1 : ItemsAt w B n (.slice p1 n1 c1) l1) (h2 : ItemsAt w B n (.slice p2 n2 c2) l2) (f1 : ∀ x ∈ l1, FT n x) (f2 : ∀ x ∈ l2, FT n x) :
    ∀ i j, (hi : i < l1.length) → (hj : j < l2.length) → ∃ g1 o1 x1 q1 m1 d1 g2 o2 x2 q2 m2 d2, p1 = some ⟨g1, o1, none⟩ ∧ g1 < w.heap.size ∧ Cells w g1 (o1 + i * 9) x1 (.slice q1 m1 d1) ∧ p2 = some ⟨g2, o2, none⟩ ∧ g2 < w.heap.size ∧ Cells w g2 (o2 + j * 9) x2 (.slice q2 m2 d2) ∧
      x1.kind = kdT n l1[i] ∧ x2.kind = kdT n l2[j] ∧ ∀ W, Below w.heap.size w W → Calls Tryz.prog 86 #[aggV x1 (.slice q1 m1 d1), aggV x2 (.slice q2 m2 d2)] W (IPostC (cmpTm n l1[i] l2[j]) W) := by
  cases n with
  | zero => intro i j hi; rw [Tm.nil0 l1] at hi; exact absurd hi (by simp)
  | succ n =>
    intro i j hi hj
    obtain ⟨g1, o1, d1, e1, _, _, hg1, hx1⟩ := h1.at_ (by intro e; subst e; simp at hi)
    obtain ⟨u1, hC1, hI1⟩ := hx1 i hi
    obtain ⟨g2, o2, d2, e2, _, _, hg2, hx2⟩ := h2.at_ (by intro e; subst e; simp at hj)
    obtain ⟨u2, hC2, hI2⟩ := hx2 j hj
    simp only [Value.slice.injEq] at e1 e2
    obtain ⟨q1, c1', rfl, _, _⟩ := hI1.shape
    obtain ⟨q2, c2', rfl, _, _⟩ := hI2.shape
    refine ⟨g1, o1, l1[i].f, q1, _, c1', g2, o2, l2[j].f, q2, _, c2', e1.1, by omega, hC1, e2.1, by omega, hC2, rfl, rfl, fun W hb => ?_⟩
    exact ih n rfl W B _ _ l1[i] l2[j] (Nat.le_trans hB hb.size) (hI1.below hb hB) (hI2.below hb hB) (f1 _ (List.getElem_mem hi)) (f2 _ (List.getElem_mem hj))
theorem countedR {n : Nat} (ih : ∀ m, n = m + 1 → RCmpS m) (w : World) (B : Nat) (v1 v2 : Value) (l1 l2 : List (Tm n)) (hB : B ≤ w.heap.size) (h1 : ItemsAt w B n v1 l1) (h2 : ItemsAt w B n v2 l2) (f1 : ∀ x ∈ l1, FT n x) (f2 : ∀ x ∈ l2, FT n x) :
    Calls Tryz.prog 111 #[v1, v2] w (IPostC (itemsC (cmpTm n) l1 l2) w) := by
  obtain ⟨p1, c1, rfl, hc1, hm1⟩ := h1.shape
  obtain ⟨p2, c2, rfl, hc2, hm2⟩ := h2.shape
  unfold maxLen at hm1 hm2
  by_cases hl : l1.length = l2.length
  · rw [show itemsC (cmpTm n) l1 l2 = eachC (cmpTm n) l1 l2 by unfold itemsC; rw [if_pos hl]]
    have HP := Lib.hid (pairElR ih w B p1 p2 _ _ c1 c2 l1 l2 hB h1 h2 f1 f2)
    have HAt := Lib.hid (each_at (cmpTm n) l1 l2)
    have HZ := Lib.hid (each_zero (cmpTm n) l1 l2 hl)
    generalize eachC (cmpTm n) l1 l2 = r at *
    have HL := Lib.hid hl
    rw [← hl] at hc2
    rw [← hl]
    clear ih h1 h2 f1 f2 hl
    go_enter Tryz.func111, Tryz.ntmps111
    go_wp2_with fail
    go_loopw [5] (fun s wr => ∃ k : Nat, s = .int .i64 k ∧ k ≤ l1.length ∧ Hid (∀ j, (a : j < l1.length) → (b : j < l2.length) → j < k → cmpTm n l1[j] l2[j] = 0) ∧ Below w.heap.size w wr) (fun s _ => l1.length - (intOf s).toNat)
    case atStart => exact ⟨0, rfl, by omega, Lib.hid (fun j _ _ h => by omega), Below.refl _ _⟩
    case round =>
      obtain ⟨k, rfl, hk, HA, hb⟩ := hrel
      by_cases hlt : k < l1.length
      · have hkb : k < l2.length := by have := HL.out; omega
        obtain ⟨g1, o1, x1, q1, m1, d1, g2, o2, x2, q2, m2, d2, rfl, hg1, hC1, rfl, hg2, hC2, ek1, ek2, hCall⟩ := HP.out k k hlt hkb
        clear ek1 ek2
        have hC1 := hC1.same (hb.block g1 hg1)
        have hC2 := hC2.same (hb.block g2 hg2)
        obtain ⟨x10, x11, x12, x13, x14, x15, x16, x17, x18⟩ := hC1
        obtain ⟨y10, y11, y12, y13, y14, y15, y16, y17, y18⟩ := hC2
        have hb' : Below w.heap.size w wr.drew := hb.drewN 1
        have HC := Lib.hid (hCall wr.drew hb')
        clear hCall
        have HA1 := Lib.hid (HAt.out k hlt hkb HA.out)
        have HA2 : Hid (cmpTm n l1[k] l2[k] = 0 → ∀ j, (a : j < l1.length) → (b : j < l2.length) → j < k + 1 → cmpTm n l1[j] l2[j] = 0) := Lib.hid (fun e j a b hj => by
          by_cases e2 : j = k
          · subst e2; exact e
          · exact HA.out j a b (by omega))
        generalize cmpTm n l1[k] l2[k] = x at *
        unfold aggV IPostC at HC
        go_wp2_with fail
        go_still_tail 8, (by kernel_rfl)
        change wpList _ _ _ _ _ wr.drew
        clear x10 x11 x12 x13 x14 x15 x16 x17 x18 y10 y11 y12 y13 y14 y15 y16 y17 y18
        generalize wr.drew = w2 at *
        go_wp2_with fail
        refine HC.out.mono ?_
        rintro e w3 ⟨rfl, hb3⟩
        have hb4 : Below w.heap.size w w3 := hb'.trans (hb3.mono hb'.size)
        by_cases hx : x = 0
        · subst hx
          have H2 := Lib.hid (HA2.out rfl)
          clear HA1 HA2
          go_wp2_with fail
          go_roundw
          case rel => exact ⟨k + 1, by go_num, by omega, H2, hb4⟩
          case measure => simp [intOf]; omega
        · have q : (x != 0) = true := by simp [hx]
          have HF := Lib.hid (HA1.out hx)
          clear HA1 HA2 hx
          go_wp2_with fail
          go_ret
          exact ⟨ret1i HF.out.symm, hb4⟩
      · have HF := Lib.hid (HZ.out (fun j a b => HA.out j a b (by omega)))
        go_wp2_with fail
        go_ret
        exact ⟨ret1i HF.out.symm, hb⟩
  · rw [show itemsC (cmpTm n) l1 l2 = cmpI l1.length l2.length by unfold itemsC; rw [if_neg hl]]
    have HI := Lib.hid (fun W => ints (l1.length : Int) (l2.length : Int) W)
    have q : ((l1.length : Int) != (l2.length : Int)) = true := by simp; omega
    clear ih h1 h2 f1 f2 hl
    generalize cmpI (l1.length : Int) (l2.length : Int) = z at *
    generalize l1.length = a at *
    generalize l2.length = b at *
    go_enter Tryz.func111, Tryz.ntmps111
    go_wp2_with fail
    refine (HI.out _).mono ?_
    rintro e w' ⟨rfl, rfl⟩
    go_wp2_with fail
    go_ret
    exact ⟨rfl, Below.refl _ _⟩
def VPost (v : Value) (w : World) (e : Ending) (w' : World) : Prop := e = .returned v ∧ Below w.heap.size w w'
def listF : TF := ⟨9, 0, 0, ⟨#[]⟩, ⟨#[]⟩, 0, ⟨#[]⟩, 0⟩
theorem rest2 (g o c : Nat) (f : TF) (q : Option Addr) (m d : Nat) (w : World) (hg : g < w.heap.size) (hC : Cells w g (o + 9) f (.slice q m d)) :
    Calls Tryz.prog 125 #[.slice (some ⟨g, o, none⟩) 2 c] w (VPost (aggV f (.slice q m d)) w) := by
  obtain ⟨k, i, gg, nm, fn, ar, by_, bt⟩ := f
  obtain ⟨x0, x1, x2, x3, x4, x5, x6, x7, x8⟩ := hC
  dsimp only at x0 x1 x2 x3 x4 x5 x6 x7 x8
  unfold VPost aggV
  dsimp only
  go_enter Tryz.func125, Tryz.ntmps125
  go_wp2_with fail
  exact bodyPost_ret (v := (.agg #[.int .i64 k, .int .i64 i, .int .i64 gg, .string nm, .string fn, .int .i64 ar, .slice q m d, .string by_, .int .i64 bt])) (by simp [results, Tryz.results125, go_sem, *]) rfl ⟨rfl, by (repeat' (first | with_reducible exact Below.refl _ _ | with_reducible refine Below.alloc ?_ ?_ _ | with_reducible exact Nat.le_refl _ | with_reducible refine Below.setCell ?_ ?_ _))⟩
theorem rest3 (g o a x : Nat) (w : World) (hx : a ≤ x) (hm : x + 3 ≤ maxLen) :
    Calls Tryz.prog 125 #[.slice (some ⟨g, o, none⟩) (a + 3) (x + 3)] w (VPost (aggV listF (.slice (some ⟨g, o + 9, none⟩) (a + 2) (x + 2))) w) := by
  unfold maxLen at hm
  unfold VPost aggV listF
  dsimp only
  have q : ((a : Int) + 3 == 2) = false := by simp; omega
  have q2 : ((a + 3 : Nat) : Int) = (a : Int) + 3 := by omega
  go_enter Tryz.func125, Tryz.ntmps125
  go_wp2_with fail
  exact bodyPost_ret (v := (.agg #[.int .i64 9, .int .i64 0, .int .i64 0, .string ⟨#[]⟩, .string ⟨#[]⟩, .int .i64 0, .slice (some ⟨g, o + 9, none⟩) (a + 2) (x + 2), .string ⟨#[]⟩, .int .i64 0])) (by simp [results, Tryz.results125, go_sem, *]) rfl ⟨rfl, by (repeat' (first | with_reducible exact Below.refl _ _ | with_reducible refine Below.alloc ?_ ?_ _ | with_reducible exact Nat.le_refl _ | with_reducible refine Below.setCell ?_ ?_ _))⟩
end Go.Proofs.YtfbggmbmgohiiaaGreat.tm
