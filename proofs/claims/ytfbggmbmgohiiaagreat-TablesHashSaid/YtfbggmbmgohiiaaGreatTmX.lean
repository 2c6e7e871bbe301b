
/- The order of terms: lists. Conditions: as before. -/
import Derived.Test.YtfbggmbmgohiiaaGreatTmW
import Derived.Deep.QuietTactic
namespace Go.Proofs.YtfbggmbmgohiiaaGreat.tm
open Go.RowKit mem names
set_option linter.unusedVariables false
set_option linter.unusedSimpArgs false
set_option maxHeartbeats 4000000
set_option maxRecDepth 100000

theorem listsW {n : Nat} (ih : ∀ m, n = m + 1 → CmpS m) (w : World) (B : Nat) (v1 v2 : Value) (l1 l2 : List (Tm n)) (hB : B ≤ w.heap.size) (h1 : ItemsAt w B n v1 l1) (h2 : ItemsAt w B n v2 l2) (f1 : formedL n l1 = true) (f2 : formedL n l2 = true) (hl1 : 2 ≤ l1.length) (hl2 : 2 ≤ l2.length) :
    Calls Tryz.prog 132 #[v1, v2] w (IPostC (listsC (kdT n) (cmpTm n) l1 l2) w) := by
  obtain ⟨p1, c1, rfl, hc1, hm1⟩ := h1.shape
  obtain ⟨p2, c2, rfl, hc2, hm2⟩ := h2.shape
  unfold maxLen at hm1 hm2
  have HP := Lib.hid (pairEl ih w B p1 p2 _ _ c1 c2 l1 l2 hB h1 h2 f1 f2)
  have HA := Lib.hid (lists_at (kdT n) (cmpTm n) l1 l2)
  obtain ⟨g1, o1, zx1, zq1, zm1, zd1, g2, o2, zx2, zq2, zm2, zd2, rfl, hg1, zC1, rfl, hg2, zrest⟩ := HP.out 0 0 (by omega) (by omega)
  clear zrest zC1
  have H0 : Hid (listsC (kdT n) (cmpTm n) l1 l2 = listsC (kdT n) (cmpTm n) (l1.drop 0) (l2.drop 0)) := Lib.hid rfl
  generalize listsC (kdT n) (cmpTm n) l1 l2 = r at *
  clear ih h1 h2 f1 f2
  obtain ⟨a0, ha0⟩ : ∃ a, l1.length = a + 2 := ⟨l1.length - 2, by omega⟩
  obtain ⟨b0, hb0⟩ : ∃ a, l2.length = a + 2 := ⟨l2.length - 2, by omega⟩
  obtain ⟨x0, hx0⟩ : ∃ a, c1 = a + 2 := ⟨c1 - 2, by omega⟩
  obtain ⟨y0, hy0⟩ : ∃ a, c2 = a + 2 := ⟨c2 - 2, by omega⟩
  subst hx0
  subst hy0
  rw [ha0, hb0]
  have HL1 := Lib.hid ha0
  have HL2 := Lib.hid hb0
  rw [ha0] at hc1
  rw [hb0] at hc2
  clear ha0 hb0 hl1 hl2
  go_enter Tryz.func132, Tryz.ntmps132
  go_wp2_with fail
  go_loopw [0, 1] (fun s t wr => ∃ k a b x y ga gb : Nat, s = .slice (some ⟨g1, ga, none⟩) (a + 2) (x + 2) ∧ t = .slice (some ⟨g2, gb, none⟩) (b + 2) (y + 2) ∧ Hid (ga = o1 + k * 9) ∧ Hid (gb = o2 + k * 9) ∧ Hid (k + a + 2 = l1.length) ∧ Hid (k + b + 2 = l2.length) ∧ a ≤ x ∧ b ≤ y ∧ x + 2 ≤ 9223372036854775807 ∧ y + 2 ≤ 9223372036854775807 ∧ Hid (r = listsC (kdT n) (cmpTm n) (l1.drop k) (l2.drop k)) ∧ Below w.heap.size w wr) (fun s _ _ => match s with | .slice _ m _ => m | _ => 0)
  case atStart => exact ⟨0, a0, b0, x0, y0, o1, o2, rfl, rfl, Lib.hid (by omega), Lib.hid (by omega), Lib.hid (by have := HL1.out; omega), Lib.hid (by have := HL2.out; omega), by omega, by omega, by omega, by omega, H0, Below.refl _ _⟩
  case round =>
    obtain ⟨k, a, b, x, y, ga, gb, rfl, rfl, hga, hgb, hka, hkb, hax, hby, hxm, hym, hr, hb⟩ := hrel
    have hlt1 : k < l1.length := by have := hka.out; omega
    have hlt2 : k < l2.length := by have := hkb.out; omega
    have hn1 : k + 1 < l1.length := by have := hka.out; omega
    have hn2 : k + 1 < l2.length := by have := hkb.out; omega
    have HN1 := Lib.hid hn1
    have HN2 := Lib.hid hn2
    obtain ⟨_, _, x1, q1, m1, d1, _, _, x2, q2, m2, d2, e1, _, hC1, e2, _, hC2, ek1, ek2, hCall⟩ := HP.out k k hlt1 hlt2
    simp only [Option.some.injEq, Addr.mk.injEq] at e1 e2
    obtain ⟨rfl, rfl, _⟩ := e1
    obtain ⟨rfl, rfl, _⟩ := e2
    clear ek1 ek2
    have hC1 := hC1.same (hb.block g1 hg1)
    have hC2 := hC2.same (hb.block g2 hg2)
    rw [← hga.out] at hC1
    rw [← hgb.out] at hC2
    obtain ⟨x10, x11, x12, x13, x14, x15, x16, x17, x18⟩ := hC1
    obtain ⟨y10, y11, y12, y13, y14, y15, y16, y17, y18⟩ := hC2
    obtain ⟨A1, A2, A3, A4, A5⟩ := HA.out k hn1 hn2
    obtain ⟨_, _, x3, q3, m3, d3, _, _, x4, q4, m4, d4, e1, _, hC3, e2, _, hC4, ek1, ek2, hCall2⟩ := HP.out (k + 1) (k + 1) hn1 hn2
    simp only [Option.some.injEq, Addr.mk.injEq] at e1 e2
    obtain ⟨rfl, rfl, _⟩ := e1
    obtain ⟨rfl, rfl, _⟩ := e2
    rw [show o1 + (k + 1) * 9 = ga + 9 by have := hga.out; omega] at hC3
    rw [show o2 + (k + 1) * 9 = gb + 9 by have := hgb.out; omega] at hC4
    have HK1 := Lib.hid ek1
    have HK2 := Lib.hid ek2
    clear ek1 ek2
    have HC3 := Lib.hid hC3
    have HC4 := Lib.hid hC4
    clear hC3 hC4
    rw [← hr.out] at A1 A2
    have hb' : Below w.heap.size w wr.drew := hb.drewN 1
    have HC := Lib.hid (hCall wr.drew hb')
    clear hCall
    have HA1 := Lib.hid A1
    have HA2 := Lib.hid A2
    have HA3 := Lib.hid A3
    have HA4 := Lib.hid A4
    have HA5 := Lib.hid A5
    clear A1 A2 A3 A4 A5 hr
    have HCall2 := Lib.hid hCall2
    clear hCall2
    generalize cmpTm n l1[k] l2[k] = z at *
    unfold aggV IPostC at HC HCall2
    have ha2 : (0 : Int) < (a : Int) + 2 := by omega
    have hb2 : (0 : Int) < (b : Int) + 2 := by omega
    have ha2n : 0 < a + 2 := by omega
    have hb2n : 0 < b + 2 := by omega
    go_wp2_with fail
    go_still_tail 6, (by kernel_rfl)
    change wpList _ _ _ _ _ wr.drew
    clear x10 x11 x12 x13 x14 x15 x16 x17 x18 y10 y11 y12 y13 y14 y15 y16 y17 y18
    generalize wr.drew = w2 at *
    go_wp2_with fail
    refine HC.out.mono ?_
    rintro e w3 ⟨rfl, hb3⟩
    have hb4 : Below w.heap.size w w3 := hb'.trans (hb3.mono hb'.size)
    clear HC hb3 hb hb'
    by_cases hz : z = 0
    · subst hz
      have hr1 := HA2.out rfl
      have hb5 : Below w.heap.size w w3.drew := hb4.drewN 1
      go_wp2_with fail
      go_quiet (fail)
      have hb5 : Below w.heap.size w (w3.drewN nq) := hb4.drewN nq
      generalize w3.drewN nq = w4 at *
      clear HA1 HA2 hb4
      rcases a with _ | a
      · rcases b with _ | b
        · have hfin : r = cmpTm n (l1[k + 1]'HN1.out) (l2[k + 1]'HN2.out) := hr1.trans (HA3.out (by have := hka.out; omega) (by have := hkb.out; omega))
          have HFin := Lib.hid hfin
          have hC3 := HC3.out.same (hb5.block g1 hg1)
          have hC4 := HC4.out.same (hb5.block g2 hg2)
          obtain ⟨x10, x11, x12, x13, x14, x15, x16, x17, x18⟩ := hC3
          obtain ⟨y10, y11, y12, y13, y14, y15, y16, y17, y18⟩ := hC4
          have hb6 : Below w.heap.size w w4.drew := hb5.drewN 1
          have HC := Lib.hid (HCall2.out w4.drew hb6)
          clear hfin hr1 HA3 HA4 HA5 HCall2
          generalize cmpTm n (l1[k + 1]'HN1.out) (l2[k + 1]'HN2.out) = zz at *
          go_wp2_with fail
          go_still_tail 6, (by kernel_rfl)
          change wpList _ _ _ _ _ w4.drew
          clear x10 x11 x12 x13 x14 x15 x16 x17 x18 y10 y11 y12 y13 y14 y15 y16 y17 y18
          generalize w4.drew = w5 at *
          go_wp2_with fail
          refine HC.out.mono ?_
          rintro e w6 ⟨rfl, hb7⟩
          go_wp2_with fail
          go_ret
          exact ⟨ret1i HFin.out.symm, hb6.trans (hb7.mono hb6.size)⟩
        · have hfin : r = cmpI (kdT n (l1[k + 1]'HN1.out)) 9 := hr1.trans (HA4.out (by have := hka.out; omega) (by have := hkb.out; omega))
          rw [← HK1.out] at hfin
          have HFin := Lib.hid hfin
          have hC3 := HC3.out.same (hb5.block g1 hg1)
          obtain ⟨x10, x11, x12, x13, x14, x15, x16, x17, x18⟩ := hC3
          have HI := Lib.hid (fun W => cmpInt x3.kind 9 W)
          have qb : ((b : Int) + 1 + 1 == 1) = false := by simp; omega
          have qb' : ((b : Int) + 1 = 0) = False := by simp; omega
          clear hfin hr1 HA3 HA4 HA5 HCall2 x11 x12 x13 x14 x15 x16 x17 x18
          go_wp2_with fail
          refine (HI.out _).mono ?_
          rintro e w6 ⟨rfl, rfl⟩
          go_wp2_with fail
          go_ret
          exact ⟨ret1i HFin.out.symm, hb5⟩
      · have qa : ((a : Int) + 1 + 1 == 1) = false := by simp; omega
        have qa' : ((a : Int) + 1 = 0) = False := by simp; omega
        rcases b with _ | b
        · have hfin : r = cmpI 9 (kdT n (l2[k + 1]'HN2.out)) := hr1.trans (HA5.out (by have := hka.out; omega) (by have := hkb.out; omega))
          rw [← HK2.out] at hfin
          have HFin := Lib.hid hfin
          have hC4 := HC4.out.same (hb5.block g2 hg2)
          obtain ⟨x10, x11, x12, x13, x14, x15, x16, x17, x18⟩ := hC4
          have HI := Lib.hid (fun W => cmpInt 9 x4.kind W)
          clear hfin hr1 HA3 HA4 HA5 HCall2 x11 x12 x13 x14 x15 x16 x17 x18
          go_wp2_with fail
          refine (HI.out _).mono ?_
          rintro e w6 ⟨rfl, rfl⟩
          go_wp2_with fail
          go_ret
          exact ⟨ret1i HFin.out.symm, hb5⟩
        · have qb : ((b : Int) + 1 + 1 == 1) = false := by simp; omega
          have qb' : ((b : Int) + 1 = 0) = False := by simp; omega
          have HR1 := Lib.hid hr1
          clear hr1 HA3 HA4 HA5 HCall2
          obtain ⟨x, rfl⟩ : ∃ x', x = x' + 1 := ⟨x - 1, by omega⟩
          obtain ⟨y, rfl⟩ : ∃ y', y = y' + 1 := ⟨y - 1, by omega⟩
          go_wp2_with fail
          go_roundw
          case rel => exact ⟨k + 1, a, b, x, y, ga + 9, gb + 9, rfl, rfl, Lib.hid (by have := hga.out; omega), Lib.hid (by have := hgb.out; omega), Lib.hid (by have := hka.out; omega), Lib.hid (by have := hkb.out; omega), by omega, by omega, by omega, by omega, HR1, hb5⟩
          case measure => simp
    · have q : (z != 0) = true := by simp [hz]
      have HF := Lib.hid (HA1.out hz)
      go_wp2_with fail
      go_ret
      exact ⟨ret1i HF.out.symm, hb4⟩
end Go.Proofs.YtfbggmbmgohiiaaGreat.tm
