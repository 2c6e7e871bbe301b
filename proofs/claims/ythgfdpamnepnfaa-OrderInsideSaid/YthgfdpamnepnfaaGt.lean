/- Several texts in one, one behind the other: ToC. No condition beyond theirs. -/
import Derived.Test.YthgfdpamnepnfaaGs
import Derived.Deep.CutRange
/- slices.symMergeCmpFunc: one element on the right. Conditions: as said. -/
namespace Go.Proofs.Ythgfdpamnepnfaa.tm
open Go.RowKit mem names
set_option linter.unusedVariables false
set_option linter.unusedSimpArgs false
set_option maxHeartbeats 1000000
set_option maxRecDepth 100000

variable {α : Type} {enc : α → TF × Value} {w0 wr w : World} {b n cap : Nat} {d : List α} {S : α → Prop} {c : α → α → Int} {tg : α → Nat}
set_option maxHeartbeats 8000000 in
theorem symTwo (hC : CmpW enc w0 b 14 S c) (htp : TP S c) (A L C : List α) (x : α) (hS : ∀ z ∈ L ++ [x], S z) (hL : L.Pairwise (tlt c tg)) (ht : ∀ z ∈ L, tg z < tg x) (h : RowW enc w0 w b n cap (A ++ (L ++ (x :: C)))) (a m e : Nat) (ha : A.length = a) (hm : a + L.length = m) (he : m + 1 = e) (hl : a + 1 < m) (hn : n ≤ 1000000) :
    Calls Try.prog 83 #[.slice (some ⟨b, 0, none⟩) n cap, .int .i64 a, .int .i64 m, .int .i64 e, .func (.func 14) #[] #[]] w (MergePost c tg enc w0 b n cap A (L ++ [x]) C) := by
  have hlen := h.len
  have hen : e ≤ n := by rw [← hlen]; simp; omega
  have HFin := Lib.hid (fun i hB => one_right (A := A) (L := L) (C := C) (y := x) (tg := tg) (i := i) htp ha hm hS hL ht hB)
  have HStart : Hid (Bin (fun h => ¬ LTi c (A ++ (L ++ (x :: C))) m h) a m a m) := Lib.hid ⟨Nat.le_refl _, by omega, Nat.le_refl _, .inl rfl, .inl rfl⟩
  have hmx : (A ++ (L ++ (x :: C)))[m]? = some x := by rw [← hm, ← ha, ← List.length_append, ← List.append_assoc, List.getElem?_append_right (Nat.le_refl _)]; simp
  have HGet : Hid (∀ i, a ≤ i → i < m → ∃ y, (A ++ (L ++ (x :: C)))[i]? = some y ∧ S y) := Lib.hid (fun i h1 h2 => by
    have hg : (A ++ (L ++ (x :: C)))[i]? = L[i - a]? := by
      rw [List.getElem?_append_right (by omega), show i - A.length = i - a by omega, List.getElem?_append_left (by omega)]
    have hx := List.getElem?_eq_getElem (l := L) (i := i - a) (by omega)
    exact ⟨L[i - a], by rw [hg, hx], hS _ (by simp)⟩)
  have HX := Lib.hid hmx
  have HRow0 := Lib.hid h
  obtain ⟨D, hD⟩ : ∃ D, D = A ++ (L ++ (x :: C)) := ⟨_, rfl⟩
  have HD := Lib.hid hD
  rw [← hD] at HFin HStart HGet HX HRow0
  have hSx : S x := hS x (by simp)
  have hSL : Hid (∀ z ∈ L, S z) := Lib.hid (fun z hz => hS z (by simp [hz]))
  have HSh := Lib.hid hC.shape
  have HCall := Lib.hid hC.call
  have HA := Lib.hid ha
  have HM := Lib.hid hm
  obtain ⟨l0, hl0⟩ : ∃ l0 : Nat, a + l0 = m := ⟨L.length, hm⟩
  clear hS hL ht h ha hlen hmx hD hC htp hm
  have r0 : (m : Int) - (a : Int) = (l0 : Int) := by omega
  have t0 : ¬ ((l0 : Int) = 1) := by omega
  have t1 : ((l0 : Int) == 1) = false := by simpa using t0
  have r1 : (e : Int) - (m : Int) = 1 := by omega
  clear hl0
  have hme : m < e := by omega
  clear he
  go_enter Try.func83, Try.ntmps83
  go_wp2_with fail
  clear r0 r1 t0 t1
  go_loopw [14, 15] (fun s t wr => ∃ i j : Nat, s = .int .i64 i ∧ t = .int .i64 j ∧ a ≤ i ∧ i ≤ j ∧ j ≤ m ∧ Hid (Bin (fun h => ¬ LTi c D m h) a m i j) ∧ Hid (RowW enc w0 wr b n cap D)) (fun s t _ => (intOf t).toNat - (intOf s).toNat)
  case atStart => exact ⟨a, m, rfl, rfl, by omega, by omega, by omega, HStart, HRow0⟩
  case round =>
    obtain ⟨i, j, rfl, rfl, hmi, hij, hje, HB, HRow⟩ := hrel
    by_cases hlt : i < j
    · obtain ⟨h, hh⟩ : ∃ h : Nat, (i + j) / 2 = h := ⟨_, rfl⟩
      have e1 : ((i : Int) + (j : Int)) / 2 = (h : Int) := by omega
      obtain ⟨y, hy, hSy⟩ := HGet.out h (by omega) (by omega)
      have hcx := HRow.out.cellsGet HX.out
      have hcy := HRow.out.cellsGet hy
      have HR1 := Lib.hid (fun hz : ¬ c x y < 0 => HB.out.right (h := h) (by omega) (by omega) (fun hq => hz ((LTi_iff HX.out hy).1 hq)))
      have HR2 := Lib.hid (fun hz : c x y < 0 => HB.out.left (h := h) (by omega) (by omega) (fun hq => hq ((LTi_iff HX.out hy).2 hz)))
      clear hy
      have hbl : b < wr.heap.size := HRow.out.lt
      have HC := Lib.hid (HCall.out wr.drew x y (HRow.out.touch.drewN 1) hSx hSy)
      have hsx := HSh.out x hSx
      have hsy := HSh.out y hSy
      obtain ⟨z, hz⟩ : ∃ z, c x y = z := ⟨_, rfl⟩
      have HZ := Lib.hid hz
      rw [hz] at HC
      clear hz
      obtain ⟨p1, m1, c1, ex⟩ := hsx
      obtain ⟨p2, m2, c2, ey⟩ := hsy
      obtain ⟨X9, eX⟩ : ∃ X9, enc x = X9 := ⟨_, rfl⟩
      obtain ⟨Y9, eY⟩ : ∃ Y9, enc y = Y9 := ⟨_, rfl⟩
      rw [eX] at hcx ex HC
      rw [eY] at hcy ey HC
      clear eX eY
      obtain ⟨⟨k1, i1, g1, n1, fn1, a1, by1, s1⟩, v1⟩ := X9
      obtain ⟨⟨k2, i2, g2, n2, fn2, a2, by2, s2⟩, v2⟩ := Y9
      dsimp only at hcx hcy HC ex ey
      subst ex
      subst ey
      have HA1 := Lib.hid hcx
      have HB1 := Lib.hid hcy
      unfold aggV IPostC at HC
      dsimp only at HC
      obtain ⟨x0, x1, x2, x3, x4, x5, x6, x7, x8⟩ := hcx
      obtain ⟨y0, y1, y2, y3, y4, y5, y6, y7, y8⟩ := hcy
      dsimp only at x0 x1 x2 x3 x4 x5 x6 x7 x8 y0 y1 y2 y3 y4 y5 y6 y7 y8
      rw [HZ.out] at HR1 HR2
      have r1 : (h : Int) < (n : Int) := by omega
      have r2 : (0 : Int) ≤ (h : Int) := by omega
      have r3 : (m : Int) < (n : Int) := by omega
      have b1 : i ≤ h := by omega
      have b2 : h < j := by omega
      clear hh
      by_cases hlz : z < 0
      · have q1 : decide (z < 0) = true := decide_eq_true hlz
        have HB' := Lib.hid (HR2.out hlz)
        clear HR1 HR2 HB
        go_wp2_with fail
        go_region_held3 (fun w' => (w'.cell? ⟨b, m * 9, none⟩ = some (.int .i64 k1) ∧ w'.cell? ⟨b, m * 9 + 1, none⟩ = some (.int .i64 i1) ∧ w'.cell? ⟨b, m * 9 + 1 + 1, none⟩ = some (.int .i64 g1) ∧ w'.cell? ⟨b, m * 9 + 1 + 1 + 1, none⟩ = some (.string n1) ∧ w'.cell? ⟨b, m * 9 + 1 + 1 + 1 + 1, none⟩ = some (.string fn1) ∧ w'.cell? ⟨b, m * 9 + 1 + 1 + 1 + 1 + 1, none⟩ = some (.int .i64 a1) ∧ w'.cell? ⟨b, m * 9 + 1 + 1 + 1 + 1 + 1 + 1, none⟩ = some (.slice p1 m1 c1) ∧ w'.cell? ⟨b, m * 9 + 1 + 1 + 1 + 1 + 1 + 1 + 1, none⟩ = some (.string by1) ∧ w'.cell? ⟨b, m * 9 + 1 + 1 + 1 + 1 + 1 + 1 + 1 + 1, none⟩ = some (.int .i64 s1)) ∧ w'.cell? ⟨b, h * 9, none⟩ = some (.int .i64 k2) ∧ w'.cell? ⟨b, h * 9 + 1, none⟩ = some (.int .i64 i2) ∧ w'.cell? ⟨b, h * 9 + 1 + 1, none⟩ = some (.int .i64 g2) ∧ w'.cell? ⟨b, h * 9 + 1 + 1 + 1, none⟩ = some (.string n2) ∧ w'.cell? ⟨b, h * 9 + 1 + 1 + 1 + 1, none⟩ = some (.string fn2) ∧ w'.cell? ⟨b, h * 9 + 1 + 1 + 1 + 1 + 1, none⟩ = some (.int .i64 a2) ∧ w'.cell? ⟨b, h * 9 + 1 + 1 + 1 + 1 + 1 + 1, none⟩ = some (.slice p2 m2 c2) ∧ w'.cell? ⟨b, h * 9 + 1 + 1 + 1 + 1 + 1 + 1 + 1, none⟩ = some (.string by2) ∧ w'.cell? ⟨b, h * 9 + 1 + 1 + 1 + 1 + 1 + 1 + 1 + 1, none⟩ = some (.int .i64 s2)) (go_keep)
          (first
            | (go_at_call 14; (with_reducible refine HC.out.mono ?_); rintro e5 w5 ⟨rfl, hb5⟩; have HA5 := Lib.hid (HA1.out.same (hb5.block b hbl)); have HB5 := Lib.hid (HB1.out.same (hb5.block b hbl)); obtain ⟨z0, z1, z2, z3, z4, z5, z6, z7, z8⟩ := HA5.out; obtain ⟨t0, t1, t2, t3, t4, t5, t6, t7, t8⟩ := HB5.out; dsimp only at z0 z1 z2 z3 z4 z5 z6 z7 z8 t0 t1 t2 t3 t4 t5 t6 t7 t8))
        have HR5 := Lib.hid ((HRow.out.drewN 1).below hb5 HRow.out.touch.size)
        clear hb5 HC HA1 HB1 HA5 HB5 HRow x0 x1 x2 x3 x4 x5 x6 x7 x8 y0 y1 y2 y3 y4 y5 y6 y7 y8 hbl
        go_wp2_with fail
        go_roundw
        case rel => exact ⟨i, h, rfl, rfl, hmi, by omega, by omega, HB', HR5⟩
        case measure => simp [intOf]; omega
      · have q1 : decide (z < 0) = false := decide_eq_false hlz
        have HB' := Lib.hid (HR1.out hlz)
        clear HR1 HR2 HB
        go_wp2_with fail
        go_region_held3 (fun w' => (w'.cell? ⟨b, m * 9, none⟩ = some (.int .i64 k1) ∧ w'.cell? ⟨b, m * 9 + 1, none⟩ = some (.int .i64 i1) ∧ w'.cell? ⟨b, m * 9 + 1 + 1, none⟩ = some (.int .i64 g1) ∧ w'.cell? ⟨b, m * 9 + 1 + 1 + 1, none⟩ = some (.string n1) ∧ w'.cell? ⟨b, m * 9 + 1 + 1 + 1 + 1, none⟩ = some (.string fn1) ∧ w'.cell? ⟨b, m * 9 + 1 + 1 + 1 + 1 + 1, none⟩ = some (.int .i64 a1) ∧ w'.cell? ⟨b, m * 9 + 1 + 1 + 1 + 1 + 1 + 1, none⟩ = some (.slice p1 m1 c1) ∧ w'.cell? ⟨b, m * 9 + 1 + 1 + 1 + 1 + 1 + 1 + 1, none⟩ = some (.string by1) ∧ w'.cell? ⟨b, m * 9 + 1 + 1 + 1 + 1 + 1 + 1 + 1 + 1, none⟩ = some (.int .i64 s1)) ∧ w'.cell? ⟨b, h * 9, none⟩ = some (.int .i64 k2) ∧ w'.cell? ⟨b, h * 9 + 1, none⟩ = some (.int .i64 i2) ∧ w'.cell? ⟨b, h * 9 + 1 + 1, none⟩ = some (.int .i64 g2) ∧ w'.cell? ⟨b, h * 9 + 1 + 1 + 1, none⟩ = some (.string n2) ∧ w'.cell? ⟨b, h * 9 + 1 + 1 + 1 + 1, none⟩ = some (.string fn2) ∧ w'.cell? ⟨b, h * 9 + 1 + 1 + 1 + 1 + 1, none⟩ = some (.int .i64 a2) ∧ w'.cell? ⟨b, h * 9 + 1 + 1 + 1 + 1 + 1 + 1, none⟩ = some (.slice p2 m2 c2) ∧ w'.cell? ⟨b, h * 9 + 1 + 1 + 1 + 1 + 1 + 1 + 1, none⟩ = some (.string by2) ∧ w'.cell? ⟨b, h * 9 + 1 + 1 + 1 + 1 + 1 + 1 + 1 + 1, none⟩ = some (.int .i64 s2)) (go_keep)
          (first
            | (go_at_call 14; (with_reducible refine HC.out.mono ?_); rintro e5 w5 ⟨rfl, hb5⟩; have HA5 := Lib.hid (HA1.out.same (hb5.block b hbl)); have HB5 := Lib.hid (HB1.out.same (hb5.block b hbl)); obtain ⟨z0, z1, z2, z3, z4, z5, z6, z7, z8⟩ := HA5.out; obtain ⟨t0, t1, t2, t3, t4, t5, t6, t7, t8⟩ := HB5.out; dsimp only at z0 z1 z2 z3 z4 z5 z6 z7 z8 t0 t1 t2 t3 t4 t5 t6 t7 t8))
        have HR5 := Lib.hid ((HRow.out.drewN 1).below hb5 HRow.out.touch.size)
        clear hb5 HC HA1 HB1 HA5 HB5 HRow x0 x1 x2 x3 x4 x5 x6 x7 x8 y0 y1 y2 y3 y4 y5 y6 y7 y8 hbl
        go_wp2_with fail
        go_roundw
        case rel => exact ⟨h + 1, j, by go_num, rfl, by omega, by omega, hje, HB', HR5⟩
        case measure => simp [intOf]; omega
    · obtain rfl : i = j := by omega
      obtain ⟨L1, L2, hL, hl', hs⟩ := HFin.out i HB.out
      have hrow := HRow.out
      rw [HD.out, hL] at hrow
      have HStart2 : Hid (∃ T1 T2, L2 = T1 ++ T2 ∧ i + T1.length = m ∧ RowW enc w0 wr b n cap (A ++ (L1 ++ (T1 ++ (x :: (T2 ++ C)))))) := Lib.hid ⟨L2, [], by simp, by have := HM.out; rw [hL] at this; simp at this; omega, by simpa using hrow⟩
      have HTake : Hid (∀ (w' : World) (k : Nat), i < k → (∃ T1 T2, L2 = T1 ++ T2 ∧ i + T1.length = k ∧ RowW enc w0 w' b n cap (A ++ (L1 ++ (T1 ++ (x :: (T2 ++ C)))))) → ∃ jp P y Q, k = jp + 1 ∧ S y ∧ P.length = jp ∧ RowW enc w0 w' b n cap (P ++ y :: x :: Q) ∧ ∀ w'', RowW enc w0 w'' b n cap (P ++ x :: y :: Q) → ∃ T1 T2, L2 = T1 ++ T2 ∧ i + T1.length = jp ∧ RowW enc w0 w'' b n cap (A ++ (L1 ++ (T1 ++ (x :: (T2 ++ C)))))) := Lib.hid (by
        rintro w' k h1 ⟨T1, T2, g1, g2, g3⟩
        rcases List.eq_nil_or_concat T1 with rfl | ⟨T1, y, rfl⟩
        · simp at g2; omega
        · rw [List.concat_eq_append] at *
          refine ⟨i + T1.length, A ++ (L1 ++ T1), y, T2 ++ C, by simp at g2; omega, hSL.out y (by rw [hL, g1]; simp), by have := HA.out; simp; omega, by simpa using g3, fun w'' hw => ?_⟩
          exact ⟨T1, y :: T2, by simp [g1], rfl, by simpa using hw⟩)
      have HDone : Hid (∀ (w' : World), (∃ T1 T2, L2 = T1 ++ T2 ∧ i + T1.length = i ∧ RowW enc w0 w' b n cap (A ++ (L1 ++ (T1 ++ (x :: (T2 ++ C)))))) → ∃ M', M'.Perm (L ++ [x]) ∧ M'.Pairwise (tlt c tg) ∧ RowW enc w0 w' b n cap (A ++ (M' ++ C))) := Lib.hid (by
        rintro w' ⟨T1, T2, g1, g2, g3⟩
        have hT : T1 = [] := List.eq_nil_of_length_eq_zero (by omega)
        subst hT
        rw [List.nil_append] at g1
        subst g1
        exact ⟨L1 ++ x :: L2, by rw [hL]; exact (List.perm_middle).trans (List.perm_append_singleton x (L1 ++ L2)).symm, hs, by simpa using g3⟩)
      clear hL hl' hs hrow HFin HB HRow HGet HX HD HRow0 HStart HCall
      go_wp2_with fail
      obtain ⟨wo, rfl⟩ : ∃ wo : World, wo = wr := ⟨_, rfl⟩
      go_loopw [17] (fun s wr => ∃ k : Nat, s = .int .i64 k ∧ i ≤ k ∧ k ≤ m ∧ Hid (∃ T1 T2, L2 = T1 ++ T2 ∧ i + T1.length = k ∧ RowW enc w0 wr b n cap (A ++ (L1 ++ (T1 ++ (x :: (T2 ++ C))))))) (fun s _ => (intOf s).toNat)
      case atStart => exact ⟨m, rfl, by omega, by omega, HStart2⟩
      case round =>
        obtain ⟨k, rfl, hak, hki, HR⟩ := hrel
        by_cases hlk : i < k
        · obtain ⟨jp, P, y, Q, rfl, hSy, hP, hRow, hNext⟩ := HTake.out wr k hlk HR.out
          have HNext := Lib.hid hNext
          have hsx := HSh.out x hSx
          have hsy := HSh.out y hSy
          have hcx : Cells wr b ((jp + 1) * 9) (enc x).1 (enc x).2 := RowW.cellsAt (P := P ++ [y]) (Q := Q) (by simpa using hRow) (by simp [hP])
          have hcy : Cells wr b (jp * 9) (enc y).1 (enc y).2 := hRow.cellsAt hP
          have HFz : Hid (∀ o, wr.frozen? ⟨b, o, none⟩ = false) := Lib.hid (fun o => hRow.frozen o)
          have hbl : b < wr.heap.size := hRow.lt
          have hfin := hRow.swapAdj hP
          obtain ⟨p1, m1, c1, ex⟩ := hsx
          obtain ⟨p2, m2, c2, ey⟩ := hsy
          obtain ⟨X9, eX⟩ : ∃ X9, enc x = X9 := ⟨_, rfl⟩
          obtain ⟨Y9, eY⟩ : ∃ Y9, enc y = Y9 := ⟨_, rfl⟩
          have HEX := Lib.hid eX
          have HEY := Lib.hid eY
          rw [eX] at hcx ex
          rw [eY] at hcy ey
          obtain ⟨⟨k1, i1, g1, n1, fn1, a1, by1, s1⟩, v1⟩ := X9
          obtain ⟨⟨k2, i2, g2, n2, fn2, a2, by2, s2⟩, v2⟩ := Y9
          dsimp only at hcx hcy ex ey
          subst ex
          subst ey
          clear eX eY
          rw [HEX.out, HEY.out] at hfin
          unfold set9 at hfin
          dsimp only at hfin
          have HF := Lib.hid (HNext.out _ hfin)
          obtain ⟨x0, x1, x2, x3, x4, x5, x6, x7, x8⟩ := hcx
          obtain ⟨y0, y1, y2, y3, y4, y5, y6, y7, y8⟩ := hcy
          dsimp only at x0 x1 x2 x3 x4 x5 x6 x7 x8 y0 y1 y2 y3 y4 y5 y6 y7 y8
          have hfz := HFz.out
          have r1 : (i : Int) < (jp : Int) + 1 := by omega
          have r2 : (jp : Int) + 1 < (n : Int) := by omega
          have r3 : (jp : Int) < (n : Int) := by omega
          have r4 : (0 : Int) ≤ (jp : Int) + 1 := by omega
          have r5 : ((jp : Int) + 1).toNat = jp + 1 := by omega
          have r6 : IntKind.i64.wrap (jp : Int) = (jp : Int) := IntWalk.i64_in _ (by omega)
          clear hP hRow hNext hfin HFz HEX HEY HNext HTake HDone
          go_wp2_with fail
          go_big_region
          go_wp2_with fail
          go_roundw
          case rel => exact ⟨jp, by go_num, by omega, by omega, HF⟩
          case measure => simp [intOf]
        · obtain rfl : i = k := by omega
          have HF := Lib.hid (HDone.out wr HR.out)
          clear HDone HTake
          go_wp2_with fail
          go_end0
          exact ⟨rfl, HF.out⟩
end Go.Proofs.Ythgfdpamnepnfaa.tm
