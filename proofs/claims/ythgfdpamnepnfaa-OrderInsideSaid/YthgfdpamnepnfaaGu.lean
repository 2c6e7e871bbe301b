/- Several texts in one, one behind the other: ToD, ToE. No condition beyond theirs. -/
import Derived.Test.YthgfdpamnepnfaaGt
import Derived.Deep.CutRange
import Derived.Test.YthgfdpamnepnfaaGo
/- slices.symMergeCmpFunc: the halves, the whole. Conditions: as said. -/
namespace Go.Proofs.Ythgfdpamnepnfaa.tm
open Go.RowKit mem names
set_option linter.unusedVariables false
set_option linter.unusedSimpArgs false
set_option maxHeartbeats 1000000
set_option maxRecDepth 100000

variable {α : Type} {enc : α → TF × Value} {w0 wr w : World} {b n cap : Nat} {d : List α} {S : α → Prop} {c : α → α → Int} {tg : α → Nat}
set_option maxHeartbeats 8000000 in
theorem symStep (hC : CmpW enc w0 b 14 S c) (htp : TP S c) (N : Nat)
    (ih : ∀ (w : World) (A L R C : List α) (hS : ∀ z ∈ L ++ R, S z) (hL : L.Pairwise (tlt c tg)) (hR : R.Pairwise (tlt c tg)) (ht : ∀ z ∈ L, ∀ y ∈ R, tg z < tg y) (h : RowW enc w0 w b n cap (A ++ (L ++ (R ++ C)))) (a m e : Nat) (ha : A.length = a) (hm : a + L.length = m) (he : m + R.length = e) (hl : a < m) (hr : m < e) (hN : e < a + N),
      Calls Try.prog 83 #[.slice (some ⟨b, 0, none⟩) n cap, .int .i64 a, .int .i64 m, .int .i64 e, .func (.func 14) #[] #[]] w (MergePost c tg enc w0 b n cap A (L ++ R) C))
    (A L R C : List α) (hS : ∀ z ∈ L ++ R, S z) (hL : L.Pairwise (tlt c tg)) (hR : R.Pairwise (tlt c tg)) (ht : ∀ z ∈ L, ∀ y ∈ R, tg z < tg y) (h : RowW enc w0 w b n cap (A ++ (L ++ (R ++ C)))) (a m e : Nat) (ha : A.length = a) (hm : a + L.length = m) (he : m + R.length = e) (hl : a + 1 < m) (hr : m + 1 < e) (hN : e ≤ a + N) (hn : n ≤ 1000000) :
    Calls Try.prog 83 #[.slice (some ⟨b, 0, none⟩) n cap, .int .i64 a, .int .i64 m, .int .i64 e, .func (.func 14) #[] #[]] w (MergePost c tg enc w0 b n cap A (L ++ R) C) := by
  have hlen := h.len
  have hen : e ≤ n := by rw [← hlen]; simp; omega
  have hSL : ∀ z ∈ L, S z := fun z hz => hS z (by simp [hz])
  have hSR : ∀ z ∈ R, S z := fun z hz => hS z (by simp [hz])
  obtain ⟨mid, hmid⟩ : ∃ mid, mid = (a + e) / 2 := ⟨_, rfl⟩
  obtain ⟨nn, hnn⟩ : ∃ nn, nn = mid + m := ⟨_, rfl⟩
  obtain ⟨p, hp⟩ : ∃ p, p + 1 = nn := ⟨nn - 1, by omega⟩
  have HSym := Lib.hid (fun (w : World) (A' L' R' C' : List α) (hL1 : ∀ z ∈ L', z ∈ L) (hR1 : ∀ z ∈ R', z ∈ R) (hL : L'.Pairwise (tlt c tg)) (hR : R'.Pairwise (tlt c tg)) (h : RowW enc w0 w b n cap (A' ++ (L' ++ (R' ++ C')))) (a m e : Nat) (ha : A'.length = a) (hm : a + L'.length = m) (he : m + R'.length = e) (hl : a < m) (hr : m < e) (hN : e < a + N) => ih w A' L' R' C' (fun z hz => by rcases List.mem_append.1 hz with hz | hz; exact hSL z (hL1 z hz); exact hSR z (hR1 z hz)) hL hR (fun z hz y hy => ht z (hL1 z hz) y (hR1 y hy)) h a m e ha hm he hl hr hN)
  have HRot := Lib.hid (fun (w : World) (A' U V C' : List α) (hS' : ∀ x ∈ U ++ V, x ∈ L ∨ x ∈ R) (h : RowW enc w0 w b n cap (A' ++ (U ++ (V ++ C')))) (a m e : Nat) (ha : A'.length = a) (hm : a + U.length = m) (he : m + V.length = e) (hU : a < m) (hV : m < e) => rotate (w := w) hC.shape A' U V C' (fun x hx => (hS' x hx).elim (hSL x) (hSR x)) h a m e ha hm he hU hV hn (.func (.func 14) #[] #[]))
  have HGet : Hid (∀ i, a ≤ i → i < e → ∃ y, (A ++ (L ++ (R ++ C)))[i]? = some y ∧ S y) := Lib.hid (fun i h1 h2 => by
    have hg : (A ++ (L ++ (R ++ C)))[i]? = (L ++ R)[i - a]? := by
      rw [List.getElem?_append_right (by omega), show i - A.length = i - a by omega, ← List.append_assoc, List.getElem?_append_left (by simp; omega)]
    have hx := List.getElem?_eq_getElem (l := L ++ R) (i := i - a) (by simp; omega)
    exact ⟨(L ++ R)[i - a]'(by simp; omega), by rw [hg, hx], hS _ (List.getElem_mem _)⟩)
  have HRow0 := Lib.hid h
  have HSh := Lib.hid hC.shape
  have HCall := Lib.hid hC.call
  have HA := Lib.hid ha
  have HM := Lib.hid hm
  have HE := Lib.hid he
  have HL := Lib.hid hL
  have HRR := Lib.hid hR
  have HPartsG := Lib.hid (fun lo0 hi0 i h0 hB => parts (A := A) (L := L) (R := R) (C := C) (tg := tg) (lo0 := lo0) (hi0 := hi0) (i := i) (p := p) htp ha hm he hS hL hR ht h0 (by omega) hB)
  rw [← hmid] at HPartsG
  obtain ⟨D, hD⟩ : ∃ D, D = A ++ (L ++ (R ++ C)) := ⟨_, rfl⟩
  have HD := Lib.hid hD
  rw [← hD] at HPartsG HGet HRow0
  obtain ⟨l0, hl0⟩ : ∃ l0 : Nat, a + l0 = m := ⟨L.length, hm⟩
  obtain ⟨l1, hl1⟩ : ∃ l1 : Nat, m + l1 = e := ⟨R.length, he⟩
  have r0 : (m : Int) - (a : Int) = (l0 : Int) := by omega
  have t0 : ¬ ((l0 : Int) = 1) := by omega
  have t1 : ((l0 : Int) == 1) = false := by simpa using t0
  have r1 : (e : Int) - (m : Int) = (l1 : Int) := by omega
  have t2 : ¬ ((l1 : Int) = 1) := by omega
  have t3 : ((l1 : Int) == 1) = false := by simpa using t2
  have r2 : ((a : Int) + (e : Int)) / 2 = (mid : Int) := by omega
  have r3 : (mid : Int) + (m : Int) = (nn : Int) := by omega
  have r4 : (nn : Int) - 1 = (p : Int) := by omega
  have m1 : a + e ≤ 2 * mid + 1 := by omega
  have m2 : 2 * mid ≤ a + e := by omega
  have m3 : p + 1 ≤ mid + m := by omega
  have m4 : mid + m ≤ p + 1 := by omega
  have m5 : nn ≤ mid + m := by omega
  have m6 : mid + m ≤ nn := by omega
  clear hS hL hR ht h ha hlen hD hC htp hm hl0 hl1 hmid hnn hp hSL hSR ih he
  by_cases hb : mid < m
  · obtain ⟨lo0, hlo⟩ : ∃ lo0 : Nat, lo0 + e = nn := ⟨nn - e, by omega⟩
    have r5 : (nn : Int) - (e : Int) = (lo0 : Int) := by omega
    have HParts := Lib.hid (fun i (hx : i ≤ i) hB => HPartsG.out lo0 mid i (.inr ⟨by omega, rfl, hb⟩) hB)
    have m7 : lo0 + e ≤ nn := by omega
    have m8 : nn ≤ lo0 + e := by omega
    clear hlo HPartsG
    go_enter Try.func83, Try.ntmps83
    go_wp2_with fail
    clear r0 r1 r2 r3 r4 r5 t0 t1 t2 t3
    go_loopw [20, 21] (fun s t wr => ∃ i j : Nat, s = .int .i64 i ∧ t = .int .i64 j ∧ lo0 ≤ i ∧ i ≤ j ∧ j ≤ mid ∧ Hid (Bin (fun h => ¬ LTi c D (p - h) h) lo0 mid i j) ∧ Hid (RowW enc w0 wr b n cap D)) (fun s t _ => (intOf t).toNat - (intOf s).toNat)
    case atStart => exact ⟨lo0, mid, rfl, rfl, by omega, by omega, by omega, Lib.hid ⟨Nat.le_refl _, by omega, Nat.le_refl _, .inl rfl, .inl rfl⟩, HRow0⟩
    case round =>
      obtain ⟨i, j, rfl, rfl, hmi, hij, hje, HB, HRow⟩ := hrel
      by_cases hlt : i < j
      · obtain ⟨h, hh⟩ : ∃ h : Nat, (i + j) / 2 = h := ⟨_, rfl⟩
        have e1 : ((i : Int) + (j : Int)) / 2 = (h : Int) := by omega
        obtain ⟨q, hq⟩ : ∃ q : Nat, p - h = q := ⟨_, rfl⟩
        have e2 : (p : Int) - (h : Int) = (q : Int) := by omega
        obtain ⟨x, hx, hSx⟩ := HGet.out q (by omega) (by omega)
        obtain ⟨y, hy, hSy⟩ := HGet.out h (by omega) (by omega)
        have hcx := HRow.out.cellsGet hx
        have hcy := HRow.out.cellsGet hy
        have HR1 := Lib.hid (fun hz : ¬ c x y < 0 => HB.out.right (h := h) (by omega) (by omega) (fun hw => hz ((LTi_iff hx hy).1 (by rw [← hq]; exact hw))))
        have HR2 := Lib.hid (fun hz : c x y < 0 => HB.out.left (h := h) (by omega) (by omega) (fun hw => hw (by rw [hq]; exact (LTi_iff hx hy).2 hz)))
        clear hx hy
        have hbl : b < wr.heap.size := HRow.out.lt
        have HC := Lib.hid (HCall.out wr.drew x y (HRow.out.touch.drewN 1) hSx hSy)
        have hsx := HSh.out x hSx
        have hsy := HSh.out y hSy
        obtain ⟨z, hz⟩ : ∃ z, c x y = z := ⟨_, rfl⟩
        have HZ := Lib.hid hz
        rw [hz] at HC
        clear hz
        obtain ⟨p1, m1, c1, ex⟩ := hsx
        obtain ⟨p2, m2, c2, ey⟩ := hsy
        obtain ⟨X9, eX⟩ : ∃ X9, enc x = X9 := ⟨_, rfl⟩
        obtain ⟨Y9, eY⟩ : ∃ Y9, enc y = Y9 := ⟨_, rfl⟩
        rw [eX] at hcx ex HC
        rw [eY] at hcy ey HC
        clear eX eY
        obtain ⟨⟨k1, i1, g1, n1, fn1, a1, by1, s1⟩, v1⟩ := X9
        obtain ⟨⟨k2, i2, g2, n2, fn2, a2, by2, s2⟩, v2⟩ := Y9
        dsimp only at hcx hcy HC ex ey
        subst ex
        subst ey
        have HA1 := Lib.hid hcx
        have HB1 := Lib.hid hcy
        unfold aggV IPostC at HC
        dsimp only at HC
        obtain ⟨x0, x1, x2, x3, x4, x5, x6, x7, x8⟩ := hcx
        obtain ⟨y0, y1, y2, y3, y4, y5, y6, y7, y8⟩ := hcy
        dsimp only at x0 x1 x2 x3 x4 x5 x6 x7 x8 y0 y1 y2 y3 y4 y5 y6 y7 y8
        rw [HZ.out] at HR1 HR2
        have r1 : (h : Int) < (n : Int) := by omega
        have r2 : (0 : Int) ≤ (h : Int) := by omega
        have r3 : (q : Int) < (n : Int) := by omega
        have r4 : (0 : Int) ≤ (q : Int) := by omega
        have r5 : IntKind.i64.wrap (q : Int) = (q : Int) := IntWalk.i64_in _ (by omega)
        have b1 : i ≤ h := by omega
        have b2 : h < j := by omega
        clear hh hq HParts HSym HRot
        by_cases hlz : z < 0
        · have q1 : decide (z < 0) = true := decide_eq_true hlz
          have HB' := Lib.hid (HR2.out hlz)
          clear HR1 HR2 HB
          go_wp2_with fail
          go_region_held3 (fun w' => (w'.cell? ⟨b, q * 9, none⟩ = some (.int .i64 k1) ∧ w'.cell? ⟨b, q * 9 + 1, none⟩ = some (.int .i64 i1) ∧ w'.cell? ⟨b, q * 9 + 1 + 1, none⟩ = some (.int .i64 g1) ∧ w'.cell? ⟨b, q * 9 + 1 + 1 + 1, none⟩ = some (.string n1) ∧ w'.cell? ⟨b, q * 9 + 1 + 1 + 1 + 1, none⟩ = some (.string fn1) ∧ w'.cell? ⟨b, q * 9 + 1 + 1 + 1 + 1 + 1, none⟩ = some (.int .i64 a1) ∧ w'.cell? ⟨b, q * 9 + 1 + 1 + 1 + 1 + 1 + 1, none⟩ = some (.slice p1 m1 c1) ∧ w'.cell? ⟨b, q * 9 + 1 + 1 + 1 + 1 + 1 + 1 + 1, none⟩ = some (.string by1) ∧ w'.cell? ⟨b, q * 9 + 1 + 1 + 1 + 1 + 1 + 1 + 1 + 1, none⟩ = some (.int .i64 s1)) ∧ w'.cell? ⟨b, h * 9, none⟩ = some (.int .i64 k2) ∧ w'.cell? ⟨b, h * 9 + 1, none⟩ = some (.int .i64 i2) ∧ w'.cell? ⟨b, h * 9 + 1 + 1, none⟩ = some (.int .i64 g2) ∧ w'.cell? ⟨b, h * 9 + 1 + 1 + 1, none⟩ = some (.string n2) ∧ w'.cell? ⟨b, h * 9 + 1 + 1 + 1 + 1, none⟩ = some (.string fn2) ∧ w'.cell? ⟨b, h * 9 + 1 + 1 + 1 + 1 + 1, none⟩ = some (.int .i64 a2) ∧ w'.cell? ⟨b, h * 9 + 1 + 1 + 1 + 1 + 1 + 1, none⟩ = some (.slice p2 m2 c2) ∧ w'.cell? ⟨b, h * 9 + 1 + 1 + 1 + 1 + 1 + 1 + 1, none⟩ = some (.string by2) ∧ w'.cell? ⟨b, h * 9 + 1 + 1 + 1 + 1 + 1 + 1 + 1 + 1, none⟩ = some (.int .i64 s2)) (go_keep)
            (first
              | (go_at_call 14; (with_reducible refine HC.out.mono ?_); rintro e5 w5 ⟨rfl, hb5⟩; have HA5 := Lib.hid (HA1.out.same (hb5.block b hbl)); have HB5 := Lib.hid (HB1.out.same (hb5.block b hbl)); obtain ⟨z0, z1, z2, z3, z4, z5, z6, z7, z8⟩ := HA5.out; obtain ⟨t0, t1, t2, t3, t4, t5, t6, t7, t8⟩ := HB5.out; dsimp only at z0 z1 z2 z3 z4 z5 z6 z7 z8 t0 t1 t2 t3 t4 t5 t6 t7 t8))
          have HR5 := Lib.hid ((HRow.out.drewN 1).below hb5 HRow.out.touch.size)
          clear hb5 HC HA1 HB1 HA5 HB5 HRow x0 x1 x2 x3 x4 x5 x6 x7 x8 y0 y1 y2 y3 y4 y5 y6 y7 y8 hbl
          go_wp2_with fail
          go_roundw
          case rel => exact ⟨i, h, rfl, rfl, hmi, by omega, by omega, HB', HR5⟩
          case measure => simp [intOf]; omega
        · have q1 : decide (z < 0) = false := decide_eq_false hlz
          have HB' := Lib.hid (HR1.out hlz)
          clear HR1 HR2 HB
          go_wp2_with fail
          go_region_held3 (fun w' => (w'.cell? ⟨b, q * 9, none⟩ = some (.int .i64 k1) ∧ w'.cell? ⟨b, q * 9 + 1, none⟩ = some (.int .i64 i1) ∧ w'.cell? ⟨b, q * 9 + 1 + 1, none⟩ = some (.int .i64 g1) ∧ w'.cell? ⟨b, q * 9 + 1 + 1 + 1, none⟩ = some (.string n1) ∧ w'.cell? ⟨b, q * 9 + 1 + 1 + 1 + 1, none⟩ = some (.string fn1) ∧ w'.cell? ⟨b, q * 9 + 1 + 1 + 1 + 1 + 1, none⟩ = some (.int .i64 a1) ∧ w'.cell? ⟨b, q * 9 + 1 + 1 + 1 + 1 + 1 + 1, none⟩ = some (.slice p1 m1 c1) ∧ w'.cell? ⟨b, q * 9 + 1 + 1 + 1 + 1 + 1 + 1 + 1, none⟩ = some (.string by1) ∧ w'.cell? ⟨b, q * 9 + 1 + 1 + 1 + 1 + 1 + 1 + 1 + 1, none⟩ = some (.int .i64 s1)) ∧ w'.cell? ⟨b, h * 9, none⟩ = some (.int .i64 k2) ∧ w'.cell? ⟨b, h * 9 + 1, none⟩ = some (.int .i64 i2) ∧ w'.cell? ⟨b, h * 9 + 1 + 1, none⟩ = some (.int .i64 g2) ∧ w'.cell? ⟨b, h * 9 + 1 + 1 + 1, none⟩ = some (.string n2) ∧ w'.cell? ⟨b, h * 9 + 1 + 1 + 1 + 1, none⟩ = some (.string fn2) ∧ w'.cell? ⟨b, h * 9 + 1 + 1 + 1 + 1 + 1, none⟩ = some (.int .i64 a2) ∧ w'.cell? ⟨b, h * 9 + 1 + 1 + 1 + 1 + 1 + 1, none⟩ = some (.slice p2 m2 c2) ∧ w'.cell? ⟨b, h * 9 + 1 + 1 + 1 + 1 + 1 + 1 + 1, none⟩ = some (.string by2) ∧ w'.cell? ⟨b, h * 9 + 1 + 1 + 1 + 1 + 1 + 1 + 1 + 1, none⟩ = some (.int .i64 s2)) (go_keep)
            (first
              | (go_at_call 14; (with_reducible refine HC.out.mono ?_); rintro e5 w5 ⟨rfl, hb5⟩; have HA5 := Lib.hid (HA1.out.same (hb5.block b hbl)); have HB5 := Lib.hid (HB1.out.same (hb5.block b hbl)); obtain ⟨z0, z1, z2, z3, z4, z5, z6, z7, z8⟩ := HA5.out; obtain ⟨t0, t1, t2, t3, t4, t5, t6, t7, t8⟩ := HB5.out; dsimp only at z0 z1 z2 z3 z4 z5 z6 z7 z8 t0 t1 t2 t3 t4 t5 t6 t7 t8))
          have HR5 := Lib.hid ((HRow.out.drewN 1).below hb5 HRow.out.touch.size)
          clear hb5 HC HA1 HB1 HA5 HB5 HRow x0 x1 x2 x3 x4 x5 x6 x7 x8 y0 y1 y2 y3 y4 y5 y6 y7 y8 hbl
          go_wp2_with fail
          go_roundw
          case rel => exact ⟨h + 1, j, by go_num, rfl, by omega, by omega, hje, HB', HR5⟩
          case measure => simp [intOf]; omega
      · obtain rfl : i = j := by omega
        obtain ⟨L1, L2, R1, R2, hL, hR, hl1, hl2, hJ⟩ := HParts.out i (by omega) HB.out
        have hrow := HRow.out
        rw [HD.out, hL, hR] at hrow
        have hm' := HM.out
        have he' := HE.out
        have ha' := HA.out
        rw [hL] at hm'
        rw [hR] at he'
        rw [List.length_append] at hm' he'
        have sL1 : ∀ z ∈ L1, z ∈ L := fun z hz => by rw [hL]; simp [hz]
        have sL2 : ∀ z ∈ L2, z ∈ L := fun z hz => by rw [hL]; simp [hz]
        have sR1 : ∀ z ∈ R1, z ∈ R := fun z hz => by rw [hR]; simp [hz]
        have sR2 : ∀ z ∈ R2, z ∈ R := fun z hz => by rw [hR]; simp [hz]
        have hLs := HL.out
        have hRs := HRR.out
        rw [hL] at hLs
        rw [hR] at hRs
        have hLs := List.pairwise_append.1 hLs
        have hRs := List.pairwise_append.1 hRs
        obtain ⟨en, hen⟩ : ∃ en : Nat, en = m + R1.length := ⟨_, rfl⟩
        have r1 : (nn : Int) - (i : Int) = (en : Int) := by omega
        have c1 : i ≤ m := by omega
        have c2 : m ≤ en := by omega
        have c3 : a ≤ i := by omega
        have c4 : i ≤ mid := by omega
        have c5 : mid ≤ en := by omega
        have c6 : en ≤ e := by omega
        have HJ := Lib.hid hJ
        have HC1 : Hid (i < m ∧ m < en → Calls Try.prog 88 #[.slice (some ⟨b, 0, none⟩) n cap, .int .i64 i, .int .i64 m, .int .i64 en, .func (.func 14) #[] #[]] wr (UnitRow enc w0 b n cap (A ++ (L1 ++ (R1 ++ (L2 ++ (R2 ++ C))))))) := Lib.hid (fun hc => by
          have := HRot.out wr (A ++ L1) L2 R1 (R2 ++ C) (fun z hz => by rcases List.mem_append.1 hz with hz | hz; exact .inl (sL2 z hz); exact .inr (sR1 z hz)) (by simpa using hrow) i m en (by simp; omega) (by omega) (by omega) hc.1 hc.2
          simpa using this)
        have HN1 : Hid (¬ (i < m ∧ m < en) → RowW enc w0 wr b n cap (A ++ (L1 ++ (R1 ++ (L2 ++ (R2 ++ C)))))) := Lib.hid (fun hc => by
          have : L2 = [] ∨ R1 = [] := by
            by_cases hq : i < m
            · exact .inr (List.eq_nil_of_length_eq_zero (by omega))
            · exact .inl (List.eq_nil_of_length_eq_zero (by omega))
          rcases this with rfl | rfl
          · simpa using hrow
          · simpa using hrow)
        have HC2 : Hid (∀ W, RowW enc w0 W b n cap (A ++ (L1 ++ (R1 ++ (L2 ++ (R2 ++ C))))) → a < i ∧ i < mid → Calls Try.prog 83 #[.slice (some ⟨b, 0, none⟩) n cap, .int .i64 a, .int .i64 i, .int .i64 mid, .func (.func 14) #[] #[]] W (MergePost c tg enc w0 b n cap A (L1 ++ R1) (L2 ++ (R2 ++ C)))) := Lib.hid (fun W hw hc => HSym.out W A L1 R1 (L2 ++ (R2 ++ C)) (fun z hz => sL1 z hz) (fun z hz => sR1 z hz) hLs.1 hRs.1 hw a i mid (by omega) (by omega) (by omega) hc.1 hc.2 (by omega))
        have HN2 : Hid (¬ (a < i ∧ i < mid) → (L1 ++ R1).Pairwise (tlt c tg)) := Lib.hid (fun hc => by
          have : L1 = [] ∨ R1 = [] := by
            by_cases hq : a < i
            · exact .inr (List.eq_nil_of_length_eq_zero (by omega))
            · exact .inl (List.eq_nil_of_length_eq_zero (by omega))
          rcases this with rfl | rfl
          · simpa using hRs.1
          · simpa using hLs.1)
        have HC3 : Hid (∀ W (M1 : List α), M1.Perm (L1 ++ R1) → RowW enc w0 W b n cap (A ++ (M1 ++ (L2 ++ (R2 ++ C)))) → mid < en ∧ en < e → Calls Try.prog 83 #[.slice (some ⟨b, 0, none⟩) n cap, .int .i64 mid, .int .i64 en, .int .i64 e, .func (.func 14) #[] #[]] W (MergePost c tg enc w0 b n cap (A ++ M1) (L2 ++ R2) C)) := Lib.hid (fun W M1 hp hw hc => HSym.out W (A ++ M1) L2 R2 C (fun z hz => sL2 z hz) (fun z hz => sR2 z hz) hLs.2.1 hRs.2.1 (by simpa using hw) mid en e (by have := hp.length_eq; simp at this ⊢; omega) (by omega) (by omega) hc.1 hc.2 (by omega))
        have HN3 : Hid (¬ (mid < en ∧ en < e) → (L2 ++ R2).Pairwise (tlt c tg)) := Lib.hid (fun hc => by
          have : L2 = [] ∨ R2 = [] := by
            by_cases hq : mid < en
            · exact .inr (List.eq_nil_of_length_eq_zero (by omega))
            · exact .inl (List.eq_nil_of_length_eq_zero (by omega))
          rcases this with rfl | rfl
          · simpa using hRs.2.1
          · simpa using hLs.2.1)
        clear hL hR hl1 hl2 hJ hrow hm' he' ha' sL1 sL2 sR1 sR2 hLs hRs hen HParts HSym HRot HB HRow HGet HD HRow0 HCall HSh
        by_cases h0 : i < m ∧ m < en
        · have u1 : (i : Int) < (m : Int) := by omega
          have u2 : (m : Int) < (en : Int) := by omega
          have u3 : decide (i < m) = true := decide_eq_true (by omega)
          have u4 : decide (m < en) = true := decide_eq_true (by omega)
          have HCC := Lib.hid (HC1.out h0)
          go_wp2_with fail
          refine HCC.out.mono ?_
          rintro e1 v0 ⟨rfl, hr⟩
          have HRW := Lib.hid hr
          clear hr HCC u1 u2 u3 u4 h0
          by_cases h1 : a < i ∧ i < mid
          · have u1 : (a : Int) < (i : Int) := by omega
            have u2 : (i : Int) < (mid : Int) := by omega
            have u3 : decide (a < i) = true := decide_eq_true (by omega)
            have u4 : decide (i < mid) = true := decide_eq_true (by omega)
            have HCC := Lib.hid (HC2.out v0 HRW.out h1)
            go_wp2_with fail
            refine HCC.out.mono ?_
            rintro e1 v1 ⟨rfl, M1, hp, hs, hr⟩
            have HP1 := Lib.hid hp
            have HS1 := Lib.hid hs
            clear HRW
            have HRW := Lib.hid hr
            clear hp hs
            clear hr HCC u1 u2 u3 u4 h1
            by_cases h2 : mid < en ∧ en < e
            · have u1 : (mid : Int) < (en : Int) := by omega
              have u2 : (en : Int) < (e : Int) := by omega
              have u3 : decide (mid < en) = true := decide_eq_true (by omega)
              have u4 : decide (en < e) = true := decide_eq_true (by omega)
              have HCC := Lib.hid (HC3.out v1 M1 HP1.out HRW.out h2)
              go_wp2_with fail
              refine HCC.out.mono ?_
              rintro e1 v2 ⟨rfl, M2, hp, hs, hr⟩
              have HP2 := Lib.hid hp
              have HS2 := Lib.hid hs
              clear HRW
              have HRW := Lib.hid hr
              clear hp hs
              clear hr HCC u1 u2 u3 u4 h2
              go_wp2_with fail
              go_end0
              exact ⟨rfl, M1 ++ M2, (HJ.out M1 M2 HP1.out HP2.out HS1.out HS2.out).1, (HJ.out M1 M2 HP1.out HP2.out HS1.out HS2.out).2, by simpa using HRW.out⟩
            · have HBF : Hid (¬ (mid < en ∧ en < e)) := Lib.hid h2
              obtain ⟨M2, hM2⟩ : ∃ M2, M2 = L2 ++ R2 := ⟨_, rfl⟩
              have HP2 : Hid (M2.Perm (L2 ++ R2)) := Lib.hid (by rw [hM2])
              have HS2 : Hid (M2.Pairwise (tlt c tg)) := Lib.hid (by rw [hM2]; exact HN3.out h2)
              have hrw := HRW.out
              rw [← List.append_assoc L2, ← hM2, ← List.append_assoc A] at hrw
              clear HRW
              have HRW := Lib.hid hrw
              clear hrw hM2
              clear h2
              go_upto_region 43 with fail
              go_cut [213] from 206 to 213 (fun v wx => v = .bool false ∧ wx = v1)
              case first =>
                by_cases hu : mid < en
                · have u2 : ¬ en < e := by have := HBF.out; omega
                  have u3 : decide (mid < en) = true := decide_eq_true hu
                  have u4 : decide (en < e) = false := decide_eq_false u2
                  have u5 : (mid : Int) < (en : Int) := by omega
                  have u6 : ¬ (en : Int) < (e : Int) := by omega
                  have u7 : decide ((en : Int) < (e : Int)) = false := decide_eq_false u6
                  go_wp2_with fail
                  go_meet
                  exact ⟨rfl, rfl⟩
                · have u3 : decide (mid < en) = false := decide_eq_false hu
                  have u6 : ¬ (mid : Int) < (en : Int) := by omega
                  have u7 : decide ((mid : Int) < (en : Int)) = false := decide_eq_false u6
                  go_wp2_with fail
                  go_meet
                  exact ⟨rfl, rfl⟩
              case rest =>
                obtain ⟨rfl, rfl⟩ := hcut
                clear HBF
                obtain ⟨y2, rfl⟩ : ∃ y2 : World, y2 = wc := ⟨_, rfl⟩
                go_wp2_with fail
                go_end0
                exact ⟨rfl, M1 ++ M2, (HJ.out M1 M2 HP1.out HP2.out HS1.out HS2.out).1, (HJ.out M1 M2 HP1.out HP2.out HS1.out HS2.out).2, by simpa using HRW.out⟩
          · have HBF : Hid (¬ (a < i ∧ i < mid)) := Lib.hid h1
            obtain ⟨M1, hM1⟩ : ∃ M1, M1 = L1 ++ R1 := ⟨_, rfl⟩
            have HP1 : Hid (M1.Perm (L1 ++ R1)) := Lib.hid (by rw [hM1])
            have HS1 : Hid (M1.Pairwise (tlt c tg)) := Lib.hid (by rw [hM1]; exact HN2.out h1)
            have hrw := HRW.out
            rw [← List.append_assoc L1, ← hM1] at hrw
            clear HRW
            have HRW := Lib.hid hrw
            clear hrw hM1
            clear h1
            go_upto_region 41 with fail
            go_cut [199] from 192 to 199 (fun v wx => v = .bool false ∧ wx = v0)
            case first =>
              by_cases hu : a < i
              · have u2 : ¬ i < mid := by have := HBF.out; omega
                have u3 : decide (a < i) = true := decide_eq_true hu
                have u4 : decide (i < mid) = false := decide_eq_false u2
                have u5 : (a : Int) < (i : Int) := by omega
                have u6 : ¬ (i : Int) < (mid : Int) := by omega
                have u7 : decide ((i : Int) < (mid : Int)) = false := decide_eq_false u6
                go_wp2_with fail
                go_meet
                exact ⟨rfl, rfl⟩
              · have u3 : decide (a < i) = false := decide_eq_false hu
                have u6 : ¬ (a : Int) < (i : Int) := by omega
                have u7 : decide ((a : Int) < (i : Int)) = false := decide_eq_false u6
                go_wp2_with fail
                go_meet
                exact ⟨rfl, rfl⟩
            case rest =>
              obtain ⟨rfl, rfl⟩ := hcut
              clear HBF
              obtain ⟨y1, rfl⟩ : ∃ y1 : World, y1 = wc := ⟨_, rfl⟩
              by_cases h2 : mid < en ∧ en < e
              · have u1 : (mid : Int) < (en : Int) := by omega
                have u2 : (en : Int) < (e : Int) := by omega
                have u3 : decide (mid < en) = true := decide_eq_true (by omega)
                have u4 : decide (en < e) = true := decide_eq_true (by omega)
                have HCC := Lib.hid (HC3.out y1 M1 HP1.out HRW.out h2)
                go_wp2_with fail
                refine HCC.out.mono ?_
                rintro e1 v2 ⟨rfl, M2, hp, hs, hr⟩
                have HP2 := Lib.hid hp
                have HS2 := Lib.hid hs
                clear HRW
                have HRW := Lib.hid hr
                clear hp hs
                clear hr HCC u1 u2 u3 u4 h2
                go_wp2_with fail
                go_end0
                exact ⟨rfl, M1 ++ M2, (HJ.out M1 M2 HP1.out HP2.out HS1.out HS2.out).1, (HJ.out M1 M2 HP1.out HP2.out HS1.out HS2.out).2, by simpa using HRW.out⟩
              · have HBF : Hid (¬ (mid < en ∧ en < e)) := Lib.hid h2
                obtain ⟨M2, hM2⟩ : ∃ M2, M2 = L2 ++ R2 := ⟨_, rfl⟩
                have HP2 : Hid (M2.Perm (L2 ++ R2)) := Lib.hid (by rw [hM2])
                have HS2 : Hid (M2.Pairwise (tlt c tg)) := Lib.hid (by rw [hM2]; exact HN3.out h2)
                have hrw := HRW.out
                rw [← List.append_assoc L2, ← hM2, ← List.append_assoc A] at hrw
                clear HRW
                have HRW := Lib.hid hrw
                clear hrw hM2
                clear h2
                go_upto_region 43 with fail
                go_cut [213] from 206 to 213 (fun v wx => v = .bool false ∧ wx = y1)
                case first =>
                  by_cases hu : mid < en
                  · have u2 : ¬ en < e := by have := HBF.out; omega
                    have u3 : decide (mid < en) = true := decide_eq_true hu
                    have u4 : decide (en < e) = false := decide_eq_false u2
                    have u5 : (mid : Int) < (en : Int) := by omega
                    have u6 : ¬ (en : Int) < (e : Int) := by omega
                    have u7 : decide ((en : Int) < (e : Int)) = false := decide_eq_false u6
                    go_wp2_with fail
                    go_meet
                    exact ⟨rfl, rfl⟩
                  · have u3 : decide (mid < en) = false := decide_eq_false hu
                    have u6 : ¬ (mid : Int) < (en : Int) := by omega
                    have u7 : decide ((mid : Int) < (en : Int)) = false := decide_eq_false u6
                    go_wp2_with fail
                    go_meet
                    exact ⟨rfl, rfl⟩
                case rest =>
                  obtain ⟨rfl, rfl⟩ := hcut
                  clear HBF
                  obtain ⟨y2, rfl⟩ : ∃ y2 : World, y2 = wc := ⟨_, rfl⟩
                  go_wp2_with fail
                  go_end0
                  exact ⟨rfl, M1 ++ M2, (HJ.out M1 M2 HP1.out HP2.out HS1.out HS2.out).1, (HJ.out M1 M2 HP1.out HP2.out HS1.out HS2.out).2, by simpa using HRW.out⟩
        · have HBF : Hid (¬ (i < m ∧ m < en)) := Lib.hid h0
          have HRW := Lib.hid (HN1.out h0)
          clear h0
          go_upto_region 39 with fail
          go_cut [185] from 178 to 185 (fun v wx => v = .bool false ∧ wx = wr)
          case first =>
            by_cases hu : i < m
            · have u2 : ¬ m < en := by have := HBF.out; omega
              have u3 : decide (i < m) = true := decide_eq_true hu
              have u4 : decide (m < en) = false := decide_eq_false u2
              have u5 : (i : Int) < (m : Int) := by omega
              have u6 : ¬ (m : Int) < (en : Int) := by omega
              have u7 : decide ((m : Int) < (en : Int)) = false := decide_eq_false u6
              go_wp2_with fail
              go_meet
              exact ⟨rfl, rfl⟩
            · have u3 : decide (i < m) = false := decide_eq_false hu
              have u6 : ¬ (i : Int) < (m : Int) := by omega
              have u7 : decide ((i : Int) < (m : Int)) = false := decide_eq_false u6
              go_wp2_with fail
              go_meet
              exact ⟨rfl, rfl⟩
          case rest =>
            obtain ⟨rfl, rfl⟩ := hcut
            clear HBF
            obtain ⟨y0, rfl⟩ : ∃ y0 : World, y0 = wc := ⟨_, rfl⟩
            by_cases h1 : a < i ∧ i < mid
            · have u1 : (a : Int) < (i : Int) := by omega
              have u2 : (i : Int) < (mid : Int) := by omega
              have u3 : decide (a < i) = true := decide_eq_true (by omega)
              have u4 : decide (i < mid) = true := decide_eq_true (by omega)
              have HCC := Lib.hid (HC2.out y0 HRW.out h1)
              go_wp2_with fail
              refine HCC.out.mono ?_
              rintro e1 v1 ⟨rfl, M1, hp, hs, hr⟩
              have HP1 := Lib.hid hp
              have HS1 := Lib.hid hs
              clear HRW
              have HRW := Lib.hid hr
              clear hp hs
              clear hr HCC u1 u2 u3 u4 h1
              by_cases h2 : mid < en ∧ en < e
              · have u1 : (mid : Int) < (en : Int) := by omega
                have u2 : (en : Int) < (e : Int) := by omega
                have u3 : decide (mid < en) = true := decide_eq_true (by omega)
                have u4 : decide (en < e) = true := decide_eq_true (by omega)
                have HCC := Lib.hid (HC3.out v1 M1 HP1.out HRW.out h2)
                go_wp2_with fail
                refine HCC.out.mono ?_
                rintro e1 v2 ⟨rfl, M2, hp, hs, hr⟩
                have HP2 := Lib.hid hp
                have HS2 := Lib.hid hs
                clear HRW
                have HRW := Lib.hid hr
                clear hp hs
                clear hr HCC u1 u2 u3 u4 h2
                go_wp2_with fail
                go_end0
                exact ⟨rfl, M1 ++ M2, (HJ.out M1 M2 HP1.out HP2.out HS1.out HS2.out).1, (HJ.out M1 M2 HP1.out HP2.out HS1.out HS2.out).2, by simpa using HRW.out⟩
              · have HBF : Hid (¬ (mid < en ∧ en < e)) := Lib.hid h2
                obtain ⟨M2, hM2⟩ : ∃ M2, M2 = L2 ++ R2 := ⟨_, rfl⟩
                have HP2 : Hid (M2.Perm (L2 ++ R2)) := Lib.hid (by rw [hM2])
                have HS2 : Hid (M2.Pairwise (tlt c tg)) := Lib.hid (by rw [hM2]; exact HN3.out h2)
                have hrw := HRW.out
                rw [← List.append_assoc L2, ← hM2, ← List.append_assoc A] at hrw
                clear HRW
                have HRW := Lib.hid hrw
                clear hrw hM2
                clear h2
                go_upto_region 43 with fail
                go_cut [213] from 206 to 213 (fun v wx => v = .bool false ∧ wx = v1)
                case first =>
                  by_cases hu : mid < en
                  · have u2 : ¬ en < e := by have := HBF.out; omega
                    have u3 : decide (mid < en) = true := decide_eq_true hu
                    have u4 : decide (en < e) = false := decide_eq_false u2
                    have u5 : (mid : Int) < (en : Int) := by omega
                    have u6 : ¬ (en : Int) < (e : Int) := by omega
                    have u7 : decide ((en : Int) < (e : Int)) = false := decide_eq_false u6
                    go_wp2_with fail
                    go_meet
                    exact ⟨rfl, rfl⟩
                  · have u3 : decide (mid < en) = false := decide_eq_false hu
                    have u6 : ¬ (mid : Int) < (en : Int) := by omega
                    have u7 : decide ((mid : Int) < (en : Int)) = false := decide_eq_false u6
                    go_wp2_with fail
                    go_meet
                    exact ⟨rfl, rfl⟩
                case rest =>
                  obtain ⟨rfl, rfl⟩ := hcut
                  clear HBF
                  obtain ⟨y2, rfl⟩ : ∃ y2 : World, y2 = wc := ⟨_, rfl⟩
                  go_wp2_with fail
                  go_end0
                  exact ⟨rfl, M1 ++ M2, (HJ.out M1 M2 HP1.out HP2.out HS1.out HS2.out).1, (HJ.out M1 M2 HP1.out HP2.out HS1.out HS2.out).2, by simpa using HRW.out⟩
            · have HBF : Hid (¬ (a < i ∧ i < mid)) := Lib.hid h1
              obtain ⟨M1, hM1⟩ : ∃ M1, M1 = L1 ++ R1 := ⟨_, rfl⟩
              have HP1 : Hid (M1.Perm (L1 ++ R1)) := Lib.hid (by rw [hM1])
              have HS1 : Hid (M1.Pairwise (tlt c tg)) := Lib.hid (by rw [hM1]; exact HN2.out h1)
              have hrw := HRW.out
              rw [← List.append_assoc L1, ← hM1] at hrw
              clear HRW
              have HRW := Lib.hid hrw
              clear hrw hM1
              clear h1
              go_upto_region 41 with fail
              go_cut [199] from 192 to 199 (fun v wx => v = .bool false ∧ wx = y0)
              case first =>
                by_cases hu : a < i
                · have u2 : ¬ i < mid := by have := HBF.out; omega
                  have u3 : decide (a < i) = true := decide_eq_true hu
                  have u4 : decide (i < mid) = false := decide_eq_false u2
                  have u5 : (a : Int) < (i : Int) := by omega
                  have u6 : ¬ (i : Int) < (mid : Int) := by omega
                  have u7 : decide ((i : Int) < (mid : Int)) = false := decide_eq_false u6
                  go_wp2_with fail
                  go_meet
                  exact ⟨rfl, rfl⟩
                · have u3 : decide (a < i) = false := decide_eq_false hu
                  have u6 : ¬ (a : Int) < (i : Int) := by omega
                  have u7 : decide ((a : Int) < (i : Int)) = false := decide_eq_false u6
                  go_wp2_with fail
                  go_meet
                  exact ⟨rfl, rfl⟩
              case rest =>
                obtain ⟨rfl, rfl⟩ := hcut
                clear HBF
                obtain ⟨y1, rfl⟩ : ∃ y1 : World, y1 = wc := ⟨_, rfl⟩
                by_cases h2 : mid < en ∧ en < e
                · have u1 : (mid : Int) < (en : Int) := by omega
                  have u2 : (en : Int) < (e : Int) := by omega
                  have u3 : decide (mid < en) = true := decide_eq_true (by omega)
                  have u4 : decide (en < e) = true := decide_eq_true (by omega)
                  have HCC := Lib.hid (HC3.out y1 M1 HP1.out HRW.out h2)
                  go_wp2_with fail
                  refine HCC.out.mono ?_
                  rintro e1 v2 ⟨rfl, M2, hp, hs, hr⟩
                  have HP2 := Lib.hid hp
                  have HS2 := Lib.hid hs
                  clear HRW
                  have HRW := Lib.hid hr
                  clear hp hs
                  clear hr HCC u1 u2 u3 u4 h2
                  go_wp2_with fail
                  go_end0
                  exact ⟨rfl, M1 ++ M2, (HJ.out M1 M2 HP1.out HP2.out HS1.out HS2.out).1, (HJ.out M1 M2 HP1.out HP2.out HS1.out HS2.out).2, by simpa using HRW.out⟩
                · have HBF : Hid (¬ (mid < en ∧ en < e)) := Lib.hid h2
                  obtain ⟨M2, hM2⟩ : ∃ M2, M2 = L2 ++ R2 := ⟨_, rfl⟩
                  have HP2 : Hid (M2.Perm (L2 ++ R2)) := Lib.hid (by rw [hM2])
                  have HS2 : Hid (M2.Pairwise (tlt c tg)) := Lib.hid (by rw [hM2]; exact HN3.out h2)
                  have hrw := HRW.out
                  rw [← List.append_assoc L2, ← hM2, ← List.append_assoc A] at hrw
                  clear HRW
                  have HRW := Lib.hid hrw
                  clear hrw hM2
                  clear h2
                  go_upto_region 43 with fail
                  go_cut [213] from 206 to 213 (fun v wx => v = .bool false ∧ wx = y1)
                  case first =>
                    by_cases hu : mid < en
                    · have u2 : ¬ en < e := by have := HBF.out; omega
                      have u3 : decide (mid < en) = true := decide_eq_true hu
                      have u4 : decide (en < e) = false := decide_eq_false u2
                      have u5 : (mid : Int) < (en : Int) := by omega
                      have u6 : ¬ (en : Int) < (e : Int) := by omega
                      have u7 : decide ((en : Int) < (e : Int)) = false := decide_eq_false u6
                      go_wp2_with fail
                      go_meet
                      exact ⟨rfl, rfl⟩
                    · have u3 : decide (mid < en) = false := decide_eq_false hu
                      have u6 : ¬ (mid : Int) < (en : Int) := by omega
                      have u7 : decide ((mid : Int) < (en : Int)) = false := decide_eq_false u6
                      go_wp2_with fail
                      go_meet
                      exact ⟨rfl, rfl⟩
                  case rest =>
                    obtain ⟨rfl, rfl⟩ := hcut
                    clear HBF
                    obtain ⟨y2, rfl⟩ : ∃ y2 : World, y2 = wc := ⟨_, rfl⟩
                    go_wp2_with fail
                    go_end0
                    exact ⟨rfl, M1 ++ M2, (HJ.out M1 M2 HP1.out HP2.out HS1.out HS2.out).1, (HJ.out M1 M2 HP1.out HP2.out HS1.out HS2.out).2, by simpa using HRW.out⟩
  · have HParts := Lib.hid (fun i (hx : i ≤ i) hB => HPartsG.out a m i (.inl ⟨rfl, rfl, by omega⟩) hB)
    have hb' : ¬ ((mid : Int) < (m : Int)) := by omega
    clear HPartsG
    go_enter Try.func83, Try.ntmps83
    go_wp2_with fail
    clear r0 r1 r2 r3 r4 t0 t1 t2 t3
    go_loopw [20, 21] (fun s t wr => ∃ i j : Nat, s = .int .i64 i ∧ t = .int .i64 j ∧ a ≤ i ∧ i ≤ j ∧ j ≤ m ∧ Hid (Bin (fun h => ¬ LTi c D (p - h) h) a m i j) ∧ Hid (RowW enc w0 wr b n cap D)) (fun s t _ => (intOf t).toNat - (intOf s).toNat)
    case atStart => exact ⟨a, m, rfl, rfl, by omega, by omega, by omega, Lib.hid ⟨Nat.le_refl _, by omega, Nat.le_refl _, .inl rfl, .inl rfl⟩, HRow0⟩
    case round =>
      obtain ⟨i, j, rfl, rfl, hmi, hij, hje, HB, HRow⟩ := hrel
      by_cases hlt : i < j
      · obtain ⟨h, hh⟩ : ∃ h : Nat, (i + j) / 2 = h := ⟨_, rfl⟩
        have e1 : ((i : Int) + (j : Int)) / 2 = (h : Int) := by omega
        obtain ⟨q, hq⟩ : ∃ q : Nat, p - h = q := ⟨_, rfl⟩
        have e2 : (p : Int) - (h : Int) = (q : Int) := by omega
        obtain ⟨x, hx, hSx⟩ := HGet.out q (by omega) (by omega)
        obtain ⟨y, hy, hSy⟩ := HGet.out h (by omega) (by omega)
        have hcx := HRow.out.cellsGet hx
        have hcy := HRow.out.cellsGet hy
        have HR1 := Lib.hid (fun hz : ¬ c x y < 0 => HB.out.right (h := h) (by omega) (by omega) (fun hw => hz ((LTi_iff hx hy).1 (by rw [← hq]; exact hw))))
        have HR2 := Lib.hid (fun hz : c x y < 0 => HB.out.left (h := h) (by omega) (by omega) (fun hw => hw (by rw [hq]; exact (LTi_iff hx hy).2 hz)))
        clear hx hy
        have hbl : b < wr.heap.size := HRow.out.lt
        have HC := Lib.hid (HCall.out wr.drew x y (HRow.out.touch.drewN 1) hSx hSy)
        have hsx := HSh.out x hSx
        have hsy := HSh.out y hSy
        obtain ⟨z, hz⟩ : ∃ z, c x y = z := ⟨_, rfl⟩
        have HZ := Lib.hid hz
        rw [hz] at HC
        clear hz
        obtain ⟨p1, m1, c1, ex⟩ := hsx
        obtain ⟨p2, m2, c2, ey⟩ := hsy
        obtain ⟨X9, eX⟩ : ∃ X9, enc x = X9 := ⟨_, rfl⟩
        obtain ⟨Y9, eY⟩ : ∃ Y9, enc y = Y9 := ⟨_, rfl⟩
        rw [eX] at hcx ex HC
        rw [eY] at hcy ey HC
        clear eX eY
        obtain ⟨⟨k1, i1, g1, n1, fn1, a1, by1, s1⟩, v1⟩ := X9
        obtain ⟨⟨k2, i2, g2, n2, fn2, a2, by2, s2⟩, v2⟩ := Y9
        dsimp only at hcx hcy HC ex ey
        subst ex
        subst ey
        have HA1 := Lib.hid hcx
        have HB1 := Lib.hid hcy
        unfold aggV IPostC at HC
        dsimp only at HC
        obtain ⟨x0, x1, x2, x3, x4, x5, x6, x7, x8⟩ := hcx
        obtain ⟨y0, y1, y2, y3, y4, y5, y6, y7, y8⟩ := hcy
        dsimp only at x0 x1 x2 x3 x4 x5 x6 x7 x8 y0 y1 y2 y3 y4 y5 y6 y7 y8
        rw [HZ.out] at HR1 HR2
        have r1 : (h : Int) < (n : Int) := by omega
        have r2 : (0 : Int) ≤ (h : Int) := by omega
        have r3 : (q : Int) < (n : Int) := by omega
        have r4 : (0 : Int) ≤ (q : Int) := by omega
        have r5 : IntKind.i64.wrap (q : Int) = (q : Int) := IntWalk.i64_in _ (by omega)
        have b1 : i ≤ h := by omega
        have b2 : h < j := by omega
        clear hh hq HParts HSym HRot
        by_cases hlz : z < 0
        · have q1 : decide (z < 0) = true := decide_eq_true hlz
          have HB' := Lib.hid (HR2.out hlz)
          clear HR1 HR2 HB
          go_wp2_with fail
          go_region_held3 (fun w' => (w'.cell? ⟨b, q * 9, none⟩ = some (.int .i64 k1) ∧ w'.cell? ⟨b, q * 9 + 1, none⟩ = some (.int .i64 i1) ∧ w'.cell? ⟨b, q * 9 + 1 + 1, none⟩ = some (.int .i64 g1) ∧ w'.cell? ⟨b, q * 9 + 1 + 1 + 1, none⟩ = some (.string n1) ∧ w'.cell? ⟨b, q * 9 + 1 + 1 + 1 + 1, none⟩ = some (.string fn1) ∧ w'.cell? ⟨b, q * 9 + 1 + 1 + 1 + 1 + 1, none⟩ = some (.int .i64 a1) ∧ w'.cell? ⟨b, q * 9 + 1 + 1 + 1 + 1 + 1 + 1, none⟩ = some (.slice p1 m1 c1) ∧ w'.cell? ⟨b, q * 9 + 1 + 1 + 1 + 1 + 1 + 1 + 1, none⟩ = some (.string by1) ∧ w'.cell? ⟨b, q * 9 + 1 + 1 + 1 + 1 + 1 + 1 + 1 + 1, none⟩ = some (.int .i64 s1)) ∧ w'.cell? ⟨b, h * 9, none⟩ = some (.int .i64 k2) ∧ w'.cell? ⟨b, h * 9 + 1, none⟩ = some (.int .i64 i2) ∧ w'.cell? ⟨b, h * 9 + 1 + 1, none⟩ = some (.int .i64 g2) ∧ w'.cell? ⟨b, h * 9 + 1 + 1 + 1, none⟩ = some (.string n2) ∧ w'.cell? ⟨b, h * 9 + 1 + 1 + 1 + 1, none⟩ = some (.string fn2) ∧ w'.cell? ⟨b, h * 9 + 1 + 1 + 1 + 1 + 1, none⟩ = some (.int .i64 a2) ∧ w'.cell? ⟨b, h * 9 + 1 + 1 + 1 + 1 + 1 + 1, none⟩ = some (.slice p2 m2 c2) ∧ w'.cell? ⟨b, h * 9 + 1 + 1 + 1 + 1 + 1 + 1 + 1, none⟩ = some (.string by2) ∧ w'.cell? ⟨b, h * 9 + 1 + 1 + 1 + 1 + 1 + 1 + 1 + 1, none⟩ = some (.int .i64 s2)) (go_keep)
            (first
              | (go_at_call 14; (with_reducible refine HC.out.mono ?_); rintro e5 w5 ⟨rfl, hb5⟩; have HA5 := Lib.hid (HA1.out.same (hb5.block b hbl)); have HB5 := Lib.hid (HB1.out.same (hb5.block b hbl)); obtain ⟨z0, z1, z2, z3, z4, z5, z6, z7, z8⟩ := HA5.out; obtain ⟨t0, t1, t2, t3, t4, t5, t6, t7, t8⟩ := HB5.out; dsimp only at z0 z1 z2 z3 z4 z5 z6 z7 z8 t0 t1 t2 t3 t4 t5 t6 t7 t8))
          have HR5 := Lib.hid ((HRow.out.drewN 1).below hb5 HRow.out.touch.size)
          clear hb5 HC HA1 HB1 HA5 HB5 HRow x0 x1 x2 x3 x4 x5 x6 x7 x8 y0 y1 y2 y3 y4 y5 y6 y7 y8 hbl
          go_wp2_with fail
          go_roundw
          case rel => exact ⟨i, h, rfl, rfl, hmi, by omega, by omega, HB', HR5⟩
          case measure => simp [intOf]; omega
        · have q1 : decide (z < 0) = false := decide_eq_false hlz
          have HB' := Lib.hid (HR1.out hlz)
          clear HR1 HR2 HB
          go_wp2_with fail
          go_region_held3 (fun w' => (w'.cell? ⟨b, q * 9, none⟩ = some (.int .i64 k1) ∧ w'.cell? ⟨b, q * 9 + 1, none⟩ = some (.int .i64 i1) ∧ w'.cell? ⟨b, q * 9 + 1 + 1, none⟩ = some (.int .i64 g1) ∧ w'.cell? ⟨b, q * 9 + 1 + 1 + 1, none⟩ = some (.string n1) ∧ w'.cell? ⟨b, q * 9 + 1 + 1 + 1 + 1, none⟩ = some (.string fn1) ∧ w'.cell? ⟨b, q * 9 + 1 + 1 + 1 + 1 + 1, none⟩ = some (.int .i64 a1) ∧ w'.cell? ⟨b, q * 9 + 1 + 1 + 1 + 1 + 1 + 1, none⟩ = some (.slice p1 m1 c1) ∧ w'.cell? ⟨b, q * 9 + 1 + 1 + 1 + 1 + 1 + 1 + 1, none⟩ = some (.string by1) ∧ w'.cell? ⟨b, q * 9 + 1 + 1 + 1 + 1 + 1 + 1 + 1 + 1, none⟩ = some (.int .i64 s1)) ∧ w'.cell? ⟨b, h * 9, none⟩ = some (.int .i64 k2) ∧ w'.cell? ⟨b, h * 9 + 1, none⟩ = some (.int .i64 i2) ∧ w'.cell? ⟨b, h * 9 + 1 + 1, none⟩ = some (.int .i64 g2) ∧ w'.cell? ⟨b, h * 9 + 1 + 1 + 1, none⟩ = some (.string n2) ∧ w'.cell? ⟨b, h * 9 + 1 + 1 + 1 + 1, none⟩ = some (.string fn2) ∧ w'.cell? ⟨b, h * 9 + 1 + 1 + 1 + 1 + 1, none⟩ = some (.int .i64 a2) ∧ w'.cell? ⟨b, h * 9 + 1 + 1 + 1 + 1 + 1 + 1, none⟩ = some (.slice p2 m2 c2) ∧ w'.cell? ⟨b, h * 9 + 1 + 1 + 1 + 1 + 1 + 1 + 1, none⟩ = some (.string by2) ∧ w'.cell? ⟨b, h * 9 + 1 + 1 + 1 + 1 + 1 + 1 + 1 + 1, none⟩ = some (.int .i64 s2)) (go_keep)
            (first
              | (go_at_call 14; (with_reducible refine HC.out.mono ?_); rintro e5 w5 ⟨rfl, hb5⟩; have HA5 := Lib.hid (HA1.out.same (hb5.block b hbl)); have HB5 := Lib.hid (HB1.out.same (hb5.block b hbl)); obtain ⟨z0, z1, z2, z3, z4, z5, z6, z7, z8⟩ := HA5.out; obtain ⟨t0, t1, t2, t3, t4, t5, t6, t7, t8⟩ := HB5.out; dsimp only at z0 z1 z2 z3 z4 z5 z6 z7 z8 t0 t1 t2 t3 t4 t5 t6 t7 t8))
          have HR5 := Lib.hid ((HRow.out.drewN 1).below hb5 HRow.out.touch.size)
          clear hb5 HC HA1 HB1 HA5 HB5 HRow x0 x1 x2 x3 x4 x5 x6 x7 x8 y0 y1 y2 y3 y4 y5 y6 y7 y8 hbl
          go_wp2_with fail
          go_roundw
          case rel => exact ⟨h + 1, j, by go_num, rfl, by omega, by omega, hje, HB', HR5⟩
          case measure => simp [intOf]; omega
      · obtain rfl : i = j := by omega
        obtain ⟨L1, L2, R1, R2, hL, hR, hl1, hl2, hJ⟩ := HParts.out i (by omega) HB.out
        have hrow := HRow.out
        rw [HD.out, hL, hR] at hrow
        have hm' := HM.out
        have he' := HE.out
        have ha' := HA.out
        rw [hL] at hm'
        rw [hR] at he'
        rw [List.length_append] at hm' he'
        have sL1 : ∀ z ∈ L1, z ∈ L := fun z hz => by rw [hL]; simp [hz]
        have sL2 : ∀ z ∈ L2, z ∈ L := fun z hz => by rw [hL]; simp [hz]
        have sR1 : ∀ z ∈ R1, z ∈ R := fun z hz => by rw [hR]; simp [hz]
        have sR2 : ∀ z ∈ R2, z ∈ R := fun z hz => by rw [hR]; simp [hz]
        have hLs := HL.out
        have hRs := HRR.out
        rw [hL] at hLs
        rw [hR] at hRs
        have hLs := List.pairwise_append.1 hLs
        have hRs := List.pairwise_append.1 hRs
        obtain ⟨en, hen⟩ : ∃ en : Nat, en = m + R1.length := ⟨_, rfl⟩
        have r1 : (nn : Int) - (i : Int) = (en : Int) := by omega
        have c1 : i ≤ m := by omega
        have c2 : m ≤ en := by omega
        have c3 : a ≤ i := by omega
        have c4 : i ≤ mid := by omega
        have c5 : mid ≤ en := by omega
        have c6 : en ≤ e := by omega
        have HJ := Lib.hid hJ
        have HC1 : Hid (i < m ∧ m < en → Calls Try.prog 88 #[.slice (some ⟨b, 0, none⟩) n cap, .int .i64 i, .int .i64 m, .int .i64 en, .func (.func 14) #[] #[]] wr (UnitRow enc w0 b n cap (A ++ (L1 ++ (R1 ++ (L2 ++ (R2 ++ C))))))) := Lib.hid (fun hc => by
          have := HRot.out wr (A ++ L1) L2 R1 (R2 ++ C) (fun z hz => by rcases List.mem_append.1 hz with hz | hz; exact .inl (sL2 z hz); exact .inr (sR1 z hz)) (by simpa using hrow) i m en (by simp; omega) (by omega) (by omega) hc.1 hc.2
          simpa using this)
        have HN1 : Hid (¬ (i < m ∧ m < en) → RowW enc w0 wr b n cap (A ++ (L1 ++ (R1 ++ (L2 ++ (R2 ++ C)))))) := Lib.hid (fun hc => by
          have : L2 = [] ∨ R1 = [] := by
            by_cases hq : i < m
            · exact .inr (List.eq_nil_of_length_eq_zero (by omega))
            · exact .inl (List.eq_nil_of_length_eq_zero (by omega))
          rcases this with rfl | rfl
          · simpa using hrow
          · simpa using hrow)
        have HC2 : Hid (∀ W, RowW enc w0 W b n cap (A ++ (L1 ++ (R1 ++ (L2 ++ (R2 ++ C))))) → a < i ∧ i < mid → Calls Try.prog 83 #[.slice (some ⟨b, 0, none⟩) n cap, .int .i64 a, .int .i64 i, .int .i64 mid, .func (.func 14) #[] #[]] W (MergePost c tg enc w0 b n cap A (L1 ++ R1) (L2 ++ (R2 ++ C)))) := Lib.hid (fun W hw hc => HSym.out W A L1 R1 (L2 ++ (R2 ++ C)) (fun z hz => sL1 z hz) (fun z hz => sR1 z hz) hLs.1 hRs.1 hw a i mid (by omega) (by omega) (by omega) hc.1 hc.2 (by omega))
        have HN2 : Hid (¬ (a < i ∧ i < mid) → (L1 ++ R1).Pairwise (tlt c tg)) := Lib.hid (fun hc => by
          have : L1 = [] ∨ R1 = [] := by
            by_cases hq : a < i
            · exact .inr (List.eq_nil_of_length_eq_zero (by omega))
            · exact .inl (List.eq_nil_of_length_eq_zero (by omega))
          rcases this with rfl | rfl
          · simpa using hRs.1
          · simpa using hLs.1)
        have HC3 : Hid (∀ W (M1 : List α), M1.Perm (L1 ++ R1) → RowW enc w0 W b n cap (A ++ (M1 ++ (L2 ++ (R2 ++ C)))) → mid < en ∧ en < e → Calls Try.prog 83 #[.slice (some ⟨b, 0, none⟩) n cap, .int .i64 mid, .int .i64 en, .int .i64 e, .func (.func 14) #[] #[]] W (MergePost c tg enc w0 b n cap (A ++ M1) (L2 ++ R2) C)) := Lib.hid (fun W M1 hp hw hc => HSym.out W (A ++ M1) L2 R2 C (fun z hz => sL2 z hz) (fun z hz => sR2 z hz) hLs.2.1 hRs.2.1 (by simpa using hw) mid en e (by have := hp.length_eq; simp at this ⊢; omega) (by omega) (by omega) hc.1 hc.2 (by omega))
        have HN3 : Hid (¬ (mid < en ∧ en < e) → (L2 ++ R2).Pairwise (tlt c tg)) := Lib.hid (fun hc => by
          have : L2 = [] ∨ R2 = [] := by
            by_cases hq : mid < en
            · exact .inr (List.eq_nil_of_length_eq_zero (by omega))
            · exact .inl (List.eq_nil_of_length_eq_zero (by omega))
          rcases this with rfl | rfl
          · simpa using hRs.2.1
          · simpa using hLs.2.1)
        clear hL hR hl1 hl2 hJ hrow hm' he' ha' sL1 sL2 sR1 sR2 hLs hRs hen HParts HSym HRot HB HRow HGet HD HRow0 HCall HSh
        by_cases h0 : i < m ∧ m < en
        · have u1 : (i : Int) < (m : Int) := by omega
          have u2 : (m : Int) < (en : Int) := by omega
          have u3 : decide (i < m) = true := decide_eq_true (by omega)
          have u4 : decide (m < en) = true := decide_eq_true (by omega)
          have HCC := Lib.hid (HC1.out h0)
          go_wp2_with fail
          refine HCC.out.mono ?_
          rintro e1 v0 ⟨rfl, hr⟩
          have HRW := Lib.hid hr
          clear hr HCC u1 u2 u3 u4 h0
          by_cases h1 : a < i ∧ i < mid
          · have u1 : (a : Int) < (i : Int) := by omega
            have u2 : (i : Int) < (mid : Int) := by omega
            have u3 : decide (a < i) = true := decide_eq_true (by omega)
            have u4 : decide (i < mid) = true := decide_eq_true (by omega)
            have HCC := Lib.hid (HC2.out v0 HRW.out h1)
            go_wp2_with fail
            refine HCC.out.mono ?_
            rintro e1 v1 ⟨rfl, M1, hp, hs, hr⟩
            have HP1 := Lib.hid hp
            have HS1 := Lib.hid hs
            clear HRW
            have HRW := Lib.hid hr
            clear hp hs
            clear hr HCC u1 u2 u3 u4 h1
            by_cases h2 : mid < en ∧ en < e
            · have u1 : (mid : Int) < (en : Int) := by omega
              have u2 : (en : Int) < (e : Int) := by omega
              have u3 : decide (mid < en) = true := decide_eq_true (by omega)
              have u4 : decide (en < e) = true := decide_eq_true (by omega)
              have HCC := Lib.hid (HC3.out v1 M1 HP1.out HRW.out h2)
              go_wp2_with fail
              refine HCC.out.mono ?_
              rintro e1 v2 ⟨rfl, M2, hp, hs, hr⟩
              have HP2 := Lib.hid hp
              have HS2 := Lib.hid hs
              clear HRW
              have HRW := Lib.hid hr
              clear hp hs
              clear hr HCC u1 u2 u3 u4 h2
              go_wp2_with fail
              go_end0
              exact ⟨rfl, M1 ++ M2, (HJ.out M1 M2 HP1.out HP2.out HS1.out HS2.out).1, (HJ.out M1 M2 HP1.out HP2.out HS1.out HS2.out).2, by simpa using HRW.out⟩
            · have HBF : Hid (¬ (mid < en ∧ en < e)) := Lib.hid h2
              obtain ⟨M2, hM2⟩ : ∃ M2, M2 = L2 ++ R2 := ⟨_, rfl⟩
              have HP2 : Hid (M2.Perm (L2 ++ R2)) := Lib.hid (by rw [hM2])
              have HS2 : Hid (M2.Pairwise (tlt c tg)) := Lib.hid (by rw [hM2]; exact HN3.out h2)
              have hrw := HRW.out
              rw [← List.append_assoc L2, ← hM2, ← List.append_assoc A] at hrw
              clear HRW
              have HRW := Lib.hid hrw
              clear hrw hM2
              clear h2
              go_upto_region 43 with fail
              go_cut [213] from 206 to 213 (fun v wx => v = .bool false ∧ wx = v1)
              case first =>
                by_cases hu : mid < en
                · have u2 : ¬ en < e := by have := HBF.out; omega
                  have u3 : decide (mid < en) = true := decide_eq_true hu
                  have u4 : decide (en < e) = false := decide_eq_false u2
                  have u5 : (mid : Int) < (en : Int) := by omega
                  have u6 : ¬ (en : Int) < (e : Int) := by omega
                  have u7 : decide ((en : Int) < (e : Int)) = false := decide_eq_false u6
                  go_wp2_with fail
                  go_meet
                  exact ⟨rfl, rfl⟩
                · have u3 : decide (mid < en) = false := decide_eq_false hu
                  have u6 : ¬ (mid : Int) < (en : Int) := by omega
                  have u7 : decide ((mid : Int) < (en : Int)) = false := decide_eq_false u6
                  go_wp2_with fail
                  go_meet
                  exact ⟨rfl, rfl⟩
              case rest =>
                obtain ⟨rfl, rfl⟩ := hcut
                clear HBF
                obtain ⟨y2, rfl⟩ : ∃ y2 : World, y2 = wc := ⟨_, rfl⟩
                go_wp2_with fail
                go_end0
                exact ⟨rfl, M1 ++ M2, (HJ.out M1 M2 HP1.out HP2.out HS1.out HS2.out).1, (HJ.out M1 M2 HP1.out HP2.out HS1.out HS2.out).2, by simpa using HRW.out⟩
          · have HBF : Hid (¬ (a < i ∧ i < mid)) := Lib.hid h1
            obtain ⟨M1, hM1⟩ : ∃ M1, M1 = L1 ++ R1 := ⟨_, rfl⟩
            have HP1 : Hid (M1.Perm (L1 ++ R1)) := Lib.hid (by rw [hM1])
            have HS1 : Hid (M1.Pairwise (tlt c tg)) := Lib.hid (by rw [hM1]; exact HN2.out h1)
            have hrw := HRW.out
            rw [← List.append_assoc L1, ← hM1] at hrw
            clear HRW
            have HRW := Lib.hid hrw
            clear hrw hM1
            clear h1
            go_upto_region 41 with fail
            go_cut [199] from 192 to 199 (fun v wx => v = .bool false ∧ wx = v0)
            case first =>
              by_cases hu : a < i
              · have u2 : ¬ i < mid := by have := HBF.out; omega
                have u3 : decide (a < i) = true := decide_eq_true hu
                have u4 : decide (i < mid) = false := decide_eq_false u2
                have u5 : (a : Int) < (i : Int) := by omega
                have u6 : ¬ (i : Int) < (mid : Int) := by omega
                have u7 : decide ((i : Int) < (mid : Int)) = false := decide_eq_false u6
                go_wp2_with fail
                go_meet
                exact ⟨rfl, rfl⟩
              · have u3 : decide (a < i) = false := decide_eq_false hu
                have u6 : ¬ (a : Int) < (i : Int) := by omega
                have u7 : decide ((a : Int) < (i : Int)) = false := decide_eq_false u6
                go_wp2_with fail
                go_meet
                exact ⟨rfl, rfl⟩
            case rest =>
              obtain ⟨rfl, rfl⟩ := hcut
              clear HBF
              obtain ⟨y1, rfl⟩ : ∃ y1 : World, y1 = wc := ⟨_, rfl⟩
              by_cases h2 : mid < en ∧ en < e
              · have u1 : (mid : Int) < (en : Int) := by omega
                have u2 : (en : Int) < (e : Int) := by omega
                have u3 : decide (mid < en) = true := decide_eq_true (by omega)
                have u4 : decide (en < e) = true := decide_eq_true (by omega)
                have HCC := Lib.hid (HC3.out y1 M1 HP1.out HRW.out h2)
                go_wp2_with fail
                refine HCC.out.mono ?_
                rintro e1 v2 ⟨rfl, M2, hp, hs, hr⟩
                have HP2 := Lib.hid hp
                have HS2 := Lib.hid hs
                clear HRW
                have HRW := Lib.hid hr
                clear hp hs
                clear hr HCC u1 u2 u3 u4 h2
                go_wp2_with fail
                go_end0
                exact ⟨rfl, M1 ++ M2, (HJ.out M1 M2 HP1.out HP2.out HS1.out HS2.out).1, (HJ.out M1 M2 HP1.out HP2.out HS1.out HS2.out).2, by simpa using HRW.out⟩
              · have HBF : Hid (¬ (mid < en ∧ en < e)) := Lib.hid h2
                obtain ⟨M2, hM2⟩ : ∃ M2, M2 = L2 ++ R2 := ⟨_, rfl⟩
                have HP2 : Hid (M2.Perm (L2 ++ R2)) := Lib.hid (by rw [hM2])
                have HS2 : Hid (M2.Pairwise (tlt c tg)) := Lib.hid (by rw [hM2]; exact HN3.out h2)
                have hrw := HRW.out
                rw [← List.append_assoc L2, ← hM2, ← List.append_assoc A] at hrw
                clear HRW
                have HRW := Lib.hid hrw
                clear hrw hM2
                clear h2
                go_upto_region 43 with fail
                go_cut [213] from 206 to 213 (fun v wx => v = .bool false ∧ wx = y1)
                case first =>
                  by_cases hu : mid < en
                  · have u2 : ¬ en < e := by have := HBF.out; omega
                    have u3 : decide (mid < en) = true := decide_eq_true hu
                    have u4 : decide (en < e) = false := decide_eq_false u2
                    have u5 : (mid : Int) < (en : Int) := by omega
                    have u6 : ¬ (en : Int) < (e : Int) := by omega
                    have u7 : decide ((en : Int) < (e : Int)) = false := decide_eq_false u6
                    go_wp2_with fail
                    go_meet
                    exact ⟨rfl, rfl⟩
                  · have u3 : decide (mid < en) = false := decide_eq_false hu
                    have u6 : ¬ (mid : Int) < (en : Int) := by omega
                    have u7 : decide ((mid : Int) < (en : Int)) = false := decide_eq_false u6
                    go_wp2_with fail
                    go_meet
                    exact ⟨rfl, rfl⟩
                case rest =>
                  obtain ⟨rfl, rfl⟩ := hcut
                  clear HBF
                  obtain ⟨y2, rfl⟩ : ∃ y2 : World, y2 = wc := ⟨_, rfl⟩
                  go_wp2_with fail
                  go_end0
                  exact ⟨rfl, M1 ++ M2, (HJ.out M1 M2 HP1.out HP2.out HS1.out HS2.out).1, (HJ.out M1 M2 HP1.out HP2.out HS1.out HS2.out).2, by simpa using HRW.out⟩
        · have HBF : Hid (¬ (i < m ∧ m < en)) := Lib.hid h0
          have HRW := Lib.hid (HN1.out h0)
          clear h0
          go_upto_region 39 with fail
          go_cut [185] from 178 to 185 (fun v wx => v = .bool false ∧ wx = wr)
          case first =>
            by_cases hu : i < m
            · have u2 : ¬ m < en := by have := HBF.out; omega
              have u3 : decide (i < m) = true := decide_eq_true hu
              have u4 : decide (m < en) = false := decide_eq_false u2
              have u5 : (i : Int) < (m : Int) := by omega
              have u6 : ¬ (m : Int) < (en : Int) := by omega
              have u7 : decide ((m : Int) < (en : Int)) = false := decide_eq_false u6
              go_wp2_with fail
              go_meet
              exact ⟨rfl, rfl⟩
            · have u3 : decide (i < m) = false := decide_eq_false hu
              have u6 : ¬ (i : Int) < (m : Int) := by omega
              have u7 : decide ((i : Int) < (m : Int)) = false := decide_eq_false u6
              go_wp2_with fail
              go_meet
              exact ⟨rfl, rfl⟩
          case rest =>
            obtain ⟨rfl, rfl⟩ := hcut
            clear HBF
            obtain ⟨y0, rfl⟩ : ∃ y0 : World, y0 = wc := ⟨_, rfl⟩
            by_cases h1 : a < i ∧ i < mid
            · have u1 : (a : Int) < (i : Int) := by omega
              have u2 : (i : Int) < (mid : Int) := by omega
              have u3 : decide (a < i) = true := decide_eq_true (by omega)
              have u4 : decide (i < mid) = true := decide_eq_true (by omega)
              have HCC := Lib.hid (HC2.out y0 HRW.out h1)
              go_wp2_with fail
              refine HCC.out.mono ?_
              rintro e1 v1 ⟨rfl, M1, hp, hs, hr⟩
              have HP1 := Lib.hid hp
              have HS1 := Lib.hid hs
              clear HRW
              have HRW := Lib.hid hr
              clear hp hs
              clear hr HCC u1 u2 u3 u4 h1
              by_cases h2 : mid < en ∧ en < e
              · have u1 : (mid : Int) < (en : Int) := by omega
                have u2 : (en : Int) < (e : Int) := by omega
                have u3 : decide (mid < en) = true := decide_eq_true (by omega)
                have u4 : decide (en < e) = true := decide_eq_true (by omega)
                have HCC := Lib.hid (HC3.out v1 M1 HP1.out HRW.out h2)
                go_wp2_with fail
                refine HCC.out.mono ?_
                rintro e1 v2 ⟨rfl, M2, hp, hs, hr⟩
                have HP2 := Lib.hid hp
                have HS2 := Lib.hid hs
                clear HRW
                have HRW := Lib.hid hr
                clear hp hs
                clear hr HCC u1 u2 u3 u4 h2
                go_wp2_with fail
                go_end0
                exact ⟨rfl, M1 ++ M2, (HJ.out M1 M2 HP1.out HP2.out HS1.out HS2.out).1, (HJ.out M1 M2 HP1.out HP2.out HS1.out HS2.out).2, by simpa using HRW.out⟩
              · have HBF : Hid (¬ (mid < en ∧ en < e)) := Lib.hid h2
                obtain ⟨M2, hM2⟩ : ∃ M2, M2 = L2 ++ R2 := ⟨_, rfl⟩
                have HP2 : Hid (M2.Perm (L2 ++ R2)) := Lib.hid (by rw [hM2])
                have HS2 : Hid (M2.Pairwise (tlt c tg)) := Lib.hid (by rw [hM2]; exact HN3.out h2)
                have hrw := HRW.out
                rw [← List.append_assoc L2, ← hM2, ← List.append_assoc A] at hrw
                clear HRW
                have HRW := Lib.hid hrw
                clear hrw hM2
                clear h2
                go_upto_region 43 with fail
                go_cut [213] from 206 to 213 (fun v wx => v = .bool false ∧ wx = v1)
                case first =>
                  by_cases hu : mid < en
                  · have u2 : ¬ en < e := by have := HBF.out; omega
                    have u3 : decide (mid < en) = true := decide_eq_true hu
                    have u4 : decide (en < e) = false := decide_eq_false u2
                    have u5 : (mid : Int) < (en : Int) := by omega
                    have u6 : ¬ (en : Int) < (e : Int) := by omega
                    have u7 : decide ((en : Int) < (e : Int)) = false := decide_eq_false u6
                    go_wp2_with fail
                    go_meet
                    exact ⟨rfl, rfl⟩
                  · have u3 : decide (mid < en) = false := decide_eq_false hu
                    have u6 : ¬ (mid : Int) < (en : Int) := by omega
                    have u7 : decide ((mid : Int) < (en : Int)) = false := decide_eq_false u6
                    go_wp2_with fail
                    go_meet
                    exact ⟨rfl, rfl⟩
                case rest =>
                  obtain ⟨rfl, rfl⟩ := hcut
                  clear HBF
                  obtain ⟨y2, rfl⟩ : ∃ y2 : World, y2 = wc := ⟨_, rfl⟩
                  go_wp2_with fail
                  go_end0
                  exact ⟨rfl, M1 ++ M2, (HJ.out M1 M2 HP1.out HP2.out HS1.out HS2.out).1, (HJ.out M1 M2 HP1.out HP2.out HS1.out HS2.out).2, by simpa using HRW.out⟩
            · have HBF : Hid (¬ (a < i ∧ i < mid)) := Lib.hid h1
              obtain ⟨M1, hM1⟩ : ∃ M1, M1 = L1 ++ R1 := ⟨_, rfl⟩
              have HP1 : Hid (M1.Perm (L1 ++ R1)) := Lib.hid (by rw [hM1])
              have HS1 : Hid (M1.Pairwise (tlt c tg)) := Lib.hid (by rw [hM1]; exact HN2.out h1)
              have hrw := HRW.out
              rw [← List.append_assoc L1, ← hM1] at hrw
              clear HRW
              have HRW := Lib.hid hrw
              clear hrw hM1
              clear h1
              go_upto_region 41 with fail
              go_cut [199] from 192 to 199 (fun v wx => v = .bool false ∧ wx = y0)
              case first =>
                by_cases hu : a < i
                · have u2 : ¬ i < mid := by have := HBF.out; omega
                  have u3 : decide (a < i) = true := decide_eq_true hu
                  have u4 : decide (i < mid) = false := decide_eq_false u2
                  have u5 : (a : Int) < (i : Int) := by omega
                  have u6 : ¬ (i : Int) < (mid : Int) := by omega
                  have u7 : decide ((i : Int) < (mid : Int)) = false := decide_eq_false u6
                  go_wp2_with fail
                  go_meet
                  exact ⟨rfl, rfl⟩
                · have u3 : decide (a < i) = false := decide_eq_false hu
                  have u6 : ¬ (a : Int) < (i : Int) := by omega
                  have u7 : decide ((a : Int) < (i : Int)) = false := decide_eq_false u6
                  go_wp2_with fail
                  go_meet
                  exact ⟨rfl, rfl⟩
              case rest =>
                obtain ⟨rfl, rfl⟩ := hcut
                clear HBF
                obtain ⟨y1, rfl⟩ : ∃ y1 : World, y1 = wc := ⟨_, rfl⟩
                by_cases h2 : mid < en ∧ en < e
                · have u1 : (mid : Int) < (en : Int) := by omega
                  have u2 : (en : Int) < (e : Int) := by omega
                  have u3 : decide (mid < en) = true := decide_eq_true (by omega)
                  have u4 : decide (en < e) = true := decide_eq_true (by omega)
                  have HCC := Lib.hid (HC3.out y1 M1 HP1.out HRW.out h2)
                  go_wp2_with fail
                  refine HCC.out.mono ?_
                  rintro e1 v2 ⟨rfl, M2, hp, hs, hr⟩
                  have HP2 := Lib.hid hp
                  have HS2 := Lib.hid hs
                  clear HRW
                  have HRW := Lib.hid hr
                  clear hp hs
                  clear hr HCC u1 u2 u3 u4 h2
                  go_wp2_with fail
                  go_end0
                  exact ⟨rfl, M1 ++ M2, (HJ.out M1 M2 HP1.out HP2.out HS1.out HS2.out).1, (HJ.out M1 M2 HP1.out HP2.out HS1.out HS2.out).2, by simpa using HRW.out⟩
                · have HBF : Hid (¬ (mid < en ∧ en < e)) := Lib.hid h2
                  obtain ⟨M2, hM2⟩ : ∃ M2, M2 = L2 ++ R2 := ⟨_, rfl⟩
                  have HP2 : Hid (M2.Perm (L2 ++ R2)) := Lib.hid (by rw [hM2])
                  have HS2 : Hid (M2.Pairwise (tlt c tg)) := Lib.hid (by rw [hM2]; exact HN3.out h2)
                  have hrw := HRW.out
                  rw [← List.append_assoc L2, ← hM2, ← List.append_assoc A] at hrw
                  clear HRW
                  have HRW := Lib.hid hrw
                  clear hrw hM2
                  clear h2
                  go_upto_region 43 with fail
                  go_cut [213] from 206 to 213 (fun v wx => v = .bool false ∧ wx = y1)
                  case first =>
                    by_cases hu : mid < en
                    · have u2 : ¬ en < e := by have := HBF.out; omega
                      have u3 : decide (mid < en) = true := decide_eq_true hu
                      have u4 : decide (en < e) = false := decide_eq_false u2
                      have u5 : (mid : Int) < (en : Int) := by omega
                      have u6 : ¬ (en : Int) < (e : Int) := by omega
                      have u7 : decide ((en : Int) < (e : Int)) = false := decide_eq_false u6
                      go_wp2_with fail
                      go_meet
                      exact ⟨rfl, rfl⟩
                    · have u3 : decide (mid < en) = false := decide_eq_false hu
                      have u6 : ¬ (mid : Int) < (en : Int) := by omega
                      have u7 : decide ((mid : Int) < (en : Int)) = false := decide_eq_false u6
                      go_wp2_with fail
                      go_meet
                      exact ⟨rfl, rfl⟩
                  case rest =>
                    obtain ⟨rfl, rfl⟩ := hcut
                    clear HBF
                    obtain ⟨y2, rfl⟩ : ∃ y2 : World, y2 = wc := ⟨_, rfl⟩
                    go_wp2_with fail
                    go_end0
                    exact ⟨rfl, M1 ++ M2, (HJ.out M1 M2 HP1.out HP2.out HS1.out HS2.out).1, (HJ.out M1 M2 HP1.out HP2.out HS1.out HS2.out).2, by simpa using HRW.out⟩
theorem symAll (hC : CmpW enc w0 b 14 S c) (htp : TP S c) (hn : n ≤ 1000000) : ∀ (N : Nat) (w : World) (A L R C : List α) (hS : ∀ z ∈ L ++ R, S z) (hL : L.Pairwise (tlt c tg)) (hR : R.Pairwise (tlt c tg)) (ht : ∀ z ∈ L, ∀ y ∈ R, tg z < tg y) (h : RowW enc w0 w b n cap (A ++ (L ++ (R ++ C)))) (a m e : Nat) (ha : A.length = a) (hm : a + L.length = m) (he : m + R.length = e) (hl : a < m) (hr : m < e) (hN : e < a + N),
      Calls Try.prog 83 #[.slice (some ⟨b, 0, none⟩) n cap, .int .i64 a, .int .i64 m, .int .i64 e, .func (.func 14) #[] #[]] w (MergePost c tg enc w0 b n cap A (L ++ R) C)
  | 0, _, _, _, _, _, _, _, _, _, _, a, m, e, _, _, _, _, _, hN => by omega
  | N + 1, w, A, L, R, C, hS, hL, hR, ht, h, a, m, e, ha, hm, he, hl, hr, hN => by
    by_cases h1 : a + 1 = m
    · have hl1 : L.length = 1 := by omega
      obtain ⟨y, rfl⟩ := List.length_eq_one_iff.1 hl1
      exact symOne hC htp A R C y (by simpa using hS) hR (fun z hz => ht y (by simp) z hz) h a m e ha h1 he hr hn
    · by_cases h2 : m + 1 = e
      · have hl1 : R.length = 1 := by omega
        obtain ⟨x, rfl⟩ := List.length_eq_one_iff.1 hl1
        exact symTwo hC htp A L C x hS hL (fun z hz => ht z hz x (by simp)) h a m e ha hm h2 (by omega) hn
      · exact symStep hC htp N (fun w A L R C hS hL hR ht h a m e ha hm he hl hr hN => symAll hC htp hn N w A L R C hS hL hR ht h a m e ha hm he hl hr hN) A L R C hS hL hR ht h a m e ha hm he (by omega) (by omega) (by omega) hn
end Go.Proofs.Ythgfdpamnepnfaa.tm
/- slices.SortStableFunc at terms. Conditions: as said. -/
namespace Go.Proofs.Ythgfdpamnepnfaa.tm
open Go.RowKit mem names
set_option linter.unusedVariables false
set_option linter.unusedSimpArgs false
set_option maxHeartbeats 1000000
set_option maxRecDepth 100000

variable {α : Type} {enc : α → TF × Value} {w0 wr w : World} {b n cap : Nat} {M : List α} {S : α → Prop} {c : α → α → Int} {tg : α → Nat}
def SInv1 (c : α → α → Int) (tg : α → Nat) (enc : α → TF × Value) (w0 wr : World) (b n cap : Nat) (M : List α) (a : Nat) : Prop :=
  ∃ D U M1, M = M1 ++ U ∧ Full (tlt c tg) 20 D M1 ∧ D.length = a ∧ RowW enc w0 wr b n cap (D ++ U)
def SOut (c : α → α → Int) (tg : α → Nat) (enc : α → TF × Value) (w0 wr : World) (b n cap : Nat) (M : List α) (bs : Nat) : Prop :=
  ∃ D, Blks (tlt c tg) bs D M ∧ RowW enc w0 wr b n cap D
def SInv2 (c : α → α → Int) (tg : α → Nat) (enc : α → TF × Value) (w0 wr : World) (b n cap : Nat) (M : List α) (bs a : Nat) : Prop :=
  ∃ D1 D2 M1 M2, M = M1 ++ M2 ∧ Full (tlt c tg) (2 * bs) D1 M1 ∧ Blks (tlt c tg) bs D2 M2 ∧ D1.length = a ∧ RowW enc w0 wr b n cap (D1 ++ D2)
theorem SInv1.take {a : Nat} (h : SInv1 c tg enc w0 wr b n cap M a) (hS : ∀ x ∈ M, S x) (hT : M.Pairwise (fun x y => tg x < tg y)) (ha : a + 20 ≤ n) :
    ∃ A X C, RowW enc w0 wr b n cap (A ++ X ++ C) ∧ A.length = a ∧ X.length = 20 ∧ (∀ x ∈ X, S x) ∧ X.Pairwise (fun x y => tg x < tg y) ∧ (∀ w' X', X'.Perm X → X'.Pairwise (tlt c tg) → RowW enc w0 w' b n cap (A ++ X' ++ C) → SInv1 c tg enc w0 w' b n cap M (a + 20)) := by
  obtain ⟨D, U, M1, h1, h2, h3, h4⟩ := h
  have hl := h4.len
  simp at hl
  have hU : U = U.take 20 ++ U.drop 20 := (List.take_append_drop _ _).symm
  have hM : M = M1 ++ (U.take 20 ++ U.drop 20) := by rw [← hU]; exact h1
  rw [hM] at hS hT
  refine ⟨D, U.take 20, U.drop 20, by rw [List.append_assoc, ← hU]; exact h4, h3, by simp; omega, fun x hx => hS x (List.mem_append.2 (.inr (List.mem_append.2 (.inl hx)))), (List.pairwise_append.1 (List.pairwise_append.1 hT).2.1).1, fun w' X' p s r => ?_⟩
  refine ⟨D ++ X', U.drop 20, M1 ++ U.take 20, by rw [List.append_assoc]; exact hM, h2.snoc (by rw [p.length_eq]; simp; omega) p s, by simp [p.length_eq]; omega, r⟩
theorem SInv1.rest {a : Nat} (h : SInv1 c tg enc w0 wr b n cap M a) (hS : ∀ x ∈ M, S x) (hT : M.Pairwise (fun x y => tg x < tg y)) (ha : n ≤ a + 20) :
    ∃ A X, RowW enc w0 wr b n cap (A ++ X ++ []) ∧ A.length = a ∧ a + X.length = n ∧ (∀ x ∈ X, S x) ∧ X.Pairwise (fun x y => tg x < tg y) ∧ (∀ w' X', X'.Perm X → X'.Pairwise (tlt c tg) → RowW enc w0 w' b n cap (A ++ X' ++ []) → SOut c tg enc w0 w' b n cap M 20) := by
  obtain ⟨D, U, M1, h1, h2, h3, h4⟩ := h
  have hl := h4.len
  simp at hl
  subst h1
  refine ⟨D, U, by simpa using h4, h3, by omega, fun x hx => hS x (by simp [hx]), (List.pairwise_append.1 hT).2.1, fun w' X' p s r => ?_⟩
  exact ⟨D ++ X', h2.blks (.last (by have := p.length_eq; omega) p s), by simpa using r⟩
theorem SOut.start {bs : Nat} (h : SOut c tg enc w0 wr b n cap M bs) : SInv2 c tg enc w0 wr b n cap M bs 0 := by
  obtain ⟨D, h1, h2⟩ := h
  exact ⟨[], D, [], M, rfl, .nil, h1, rfl, h2⟩
theorem SInv2.take {bs a : Nat} (h : SInv2 c tg enc w0 wr b n cap M bs a) (hS : ∀ x ∈ M, S x) (hT : M.Pairwise (fun x y => tg x < tg y)) (hb : 0 < bs) (ha : a + 2 * bs ≤ n) :
    ∃ A L R C, RowW enc w0 wr b n cap (A ++ (L ++ (R ++ C))) ∧ A.length = a ∧ L.length = bs ∧ R.length = bs ∧ (∀ x ∈ L ++ R, S x) ∧ L.Pairwise (tlt c tg) ∧ R.Pairwise (tlt c tg) ∧ (∀ x ∈ L, ∀ y ∈ R, tg x < tg y) ∧ (∀ w' X, X.Perm (L ++ R) → X.Pairwise (tlt c tg) → RowW enc w0 w' b n cap (A ++ (X ++ C)) → SInv2 c tg enc w0 w' b n cap M bs (a + 2 * bs)) := by
  obtain ⟨D1, D2, M1, M2, h1, h2, h3, h4, h5⟩ := h
  have hl := h5.len
  simp at hl
  obtain ⟨x1, x2, D', y1, y2, M', e1, e2, l1, l2, p1, p2, s1, s2, hr⟩ := h3.two hb (by omega)
  subst e1 e2 h1
  refine ⟨D1, x1, x2, D', h5, h4, l1, l2, fun x hx => hS x ?_, s1, s2, fun x hx y hy => ?_, fun w' X p s r => ?_⟩
  · rcases List.mem_append.1 hx with hx | hx
    · have := p1.mem_iff.1 hx; simp [this]
    · have := p2.mem_iff.1 hx; simp [this]
  · have := (List.pairwise_append.1 (List.pairwise_append.1 hT).2.1).2.2 x (p1.mem_iff.1 hx) y
    exact this (List.mem_append.2 (.inl (p2.mem_iff.1 hy)))
  · refine ⟨D1 ++ X, D', M1 ++ (y1 ++ y2), M', by simp, h2.snoc (by rw [p.length_eq]; simp; omega) (p.trans (p1.append p2)) s, hr, by simp [p.length_eq]; omega, by simpa using r⟩
theorem SInv2.rest {bs a : Nat} (h : SInv2 c tg enc w0 wr b n cap M bs a) (hS : ∀ x ∈ M, S x) (hT : M.Pairwise (fun x y => tg x < tg y)) (hb : 0 < bs) (h1n : n < a + 2 * bs) (h2n : a + bs < n) :
    ∃ A L R, RowW enc w0 wr b n cap (A ++ (L ++ (R ++ []))) ∧ A.length = a ∧ L.length = bs ∧ a + bs + R.length = n ∧ (∀ x ∈ L ++ R, S x) ∧ L.Pairwise (tlt c tg) ∧ R.Pairwise (tlt c tg) ∧ (∀ x ∈ L, ∀ y ∈ R, tg x < tg y) ∧ (∀ w' X, X.Perm (L ++ R) → X.Pairwise (tlt c tg) → RowW enc w0 w' b n cap (A ++ (X ++ [])) → SOut c tg enc w0 w' b n cap M (2 * bs)) := by
  obtain ⟨D1, D2, M1, M2, h1, h2, h3, h4, h5⟩ := h
  have hl := h5.len
  simp at hl
  obtain ⟨x1, x2, y1, y2, e1, e2, l1, l2, p1, p2, s1, s2⟩ := h3.rest hb (by omega) (by omega)
  subst e1 e2 h1
  simp at hl
  refine ⟨D1, x1, x2, by simpa using h5, h4, l1, by omega, fun x hx => hS x ?_, s1, s2, fun x hx y hy => ?_, fun w' X p s r => ?_⟩
  · rcases List.mem_append.1 hx with hx | hx
    · have := p1.mem_iff.1 hx; simp [this]
    · have := p2.mem_iff.1 hx; simp [this]
  · exact (List.pairwise_append.1 (List.pairwise_append.1 hT).2.1).2.2 x (p1.mem_iff.1 hx) y (p2.mem_iff.1 hy)
  · exact ⟨D1 ++ X, h2.blks (.last (by have := p.length_eq; simp at this; omega) (p.trans (p1.append p2)) s), by simpa using r⟩
theorem SInv2.none {bs a : Nat} (h : SInv2 c tg enc w0 wr b n cap M bs a) (h1n : n ≤ a + bs) : SOut c tg enc w0 wr b n cap M (2 * bs) := by
  obtain ⟨D1, D2, M1, M2, h1, h2, h3, h4, h5⟩ := h
  have hl := h5.len
  simp at hl
  subst h1
  obtain ⟨p, s⟩ := h3.one (by omega)
  exact ⟨D1 ++ D2, h2.blks (.last (by omega) p s), h5⟩
theorem SOut.done {bs : Nat} (h : SOut c tg enc w0 wr b n cap M bs) (hn : n ≤ bs) : ∃ M', M'.Perm M ∧ M'.Pairwise (tlt c tg) ∧ RowW enc w0 wr b n cap ([] ++ M' ++ []) := by
  obtain ⟨D, h1, h2⟩ := h
  obtain ⟨p, s⟩ := h1.one (by have := h2.len; omega)
  exact ⟨D, p, s, by simpa using h2⟩
set_option maxHeartbeats 8000000 in
theorem stable67 (hC : CmpW enc w0 b 14 S c) (htp : TP S c) (hS : ∀ x ∈ M, S x) (hT : M.Pairwise (fun x y => tg x < tg y)) (h : RowW enc w0 w b n cap M) (hn : n ≤ 100000) :
    Calls Try.prog 67 #[.slice (some ⟨b, 0, none⟩) n cap, .int .i64 n, .func (.func 14) #[] #[]] w (SortPost c tg enc w0 b n cap [] M []) := by
  have HIns := Lib.hid (fun (w : World) (A X C : List α) (hS : ∀ x ∈ X, S x) (hT : X.Pairwise (fun x y => tg x < tg y)) (h : RowW enc w0 w b n cap (A ++ X ++ C)) (a e : Nat) (ha : A.length = a) (he : a + X.length = e) => insSort (w := w) hC htp A X C hS hT h a e ha he (by omega))
  have HSym := Lib.hid (fun (w : World) (A L R C : List α) (hS : ∀ z ∈ L ++ R, S z) (hL : L.Pairwise (tlt c tg)) (hR : R.Pairwise (tlt c tg)) (ht : ∀ z ∈ L, ∀ y ∈ R, tg z < tg y) (h : RowW enc w0 w b n cap (A ++ (L ++ (R ++ C)))) (a m e : Nat) (ha : A.length = a) (hm : a + L.length = m) (he : m + R.length = e) (hl : a < m) (hr : m < e) => symAll (b := b) (n := n) (cap := cap) hC htp (by omega) (e + 1) w A L R C hS hL hR ht h a m e ha hm he hl hr (by omega))
  have HTake1 := Lib.hid (fun wr a (h : SInv1 c tg enc w0 wr b n cap M a) ha => h.take hS hT ha)
  have HRest1 := Lib.hid (fun wr a (h : SInv1 c tg enc w0 wr b n cap M a) ha => h.rest hS hT ha)
  have HTake2 := Lib.hid (fun wr bs a (h : SInv2 c tg enc w0 wr b n cap M bs a) hb ha => h.take hS hT hb ha)
  have HRest2 := Lib.hid (fun wr bs a (h : SInv2 c tg enc w0 wr b n cap M bs a) hb h1 h2 => h.rest hS hT hb h1 h2)
  have HStart : Hid (SInv1 c tg enc w0 w b n cap M 0) := Lib.hid ⟨[], M, [], rfl, .nil, rfl, h⟩
  clear hS hT h hC htp
  go_enter Try.func67, Try.ntmps67
  go_wp2_with fail
  go_loopw [7, 8] (fun s t wr => ∃ a e : Nat, s = .int .i64 a ∧ t = .int .i64 e ∧ a + 20 ≤ e ∧ e ≤ a + 20 ∧ a ≤ n ∧ Hid (SInv1 c tg enc w0 wr b n cap M a)) (fun s _ _ => n - (intOf s).toNat)
  case atStart => exact ⟨0, 20, by go_num, by go_num, by omega, by omega, by omega, HStart⟩
  case round =>
    obtain ⟨a, e, rfl, rfl, hae, hea, han, HR⟩ := hrel
    by_cases hlt : e ≤ n
    · obtain ⟨A, X, C, q1, q2, q3, q4, q5, q6⟩ := HTake1.out wr a HR.out (by omega)
      have HCall := Lib.hid (HIns.out wr A X C q4 q5 q1 a e q2 (by omega))
      have HN := Lib.hid q6
      clear q1 q2 q3 q4 q5 q6
      go_wp2_with fail
      refine HCall.out.mono ?_
      rintro e1 w1 ⟨rfl, M', hp, hs, hr⟩
      obtain ⟨a2, ha2⟩ : ∃ a2, a2 = a + 20 := ⟨_, rfl⟩
      have HF := Lib.hid (HN.out w1 M' hp hs hr)
      rw [← ha2] at HF
      have hee : a2 = e := by omega
      subst hee
      clear hp hs hr HCall HN ha2
      go_wp2_with fail
      go_roundw
      case rel => exact ⟨a2, a2 + 20, rfl, by go_num, by omega, by omega, by omega, HF⟩
      case measure => simp [intOf]; omega
    · obtain ⟨A, X, q1, q2, q3, q4, q5, q6⟩ := HRest1.out wr a HR.out (by omega)
      have HCall := Lib.hid (HIns.out wr A X [] q4 q5 q1 a n q2 q3)
      have HN := Lib.hid q6
      clear q1 q2 q3 q4 q5 q6
      go_wp2_with fail
      refine HCall.out.mono ?_
      rintro e1 w1 ⟨rfl, M', hp, hs, hr⟩
      have HF := Lib.hid (HN.out w1 M' hp hs hr)
      clear hp hs hr HCall HN HR
      go_wp2_with fail
      obtain ⟨wo, rfl⟩ : ∃ wo : World, wo = wr := ⟨_, rfl⟩
      go_loopw [6, 7, 8, 9] (fun s x y z wr => ∃ bs : Nat, s = .int .i64 bs ∧ 20 ≤ bs ∧ bs ≤ 2 * n + 20 ∧ Hid (SOut c tg enc w0 wr b n cap M bs)) (fun s _ _ _ _ => n - (intOf s).toNat)
      case atStart => exact ⟨20, by go_num, by omega, by omega, HF⟩
      case round =>
        obtain ⟨bs, rfl, hb1, hb2, HR⟩ := hrel
        by_cases hbn : bs < n
        · have HS2 := Lib.hid HR.out.start
          clear HR HF
          obtain ⟨bb, hbb⟩ : ∃ bb : Nat, bb = 2 * bs := ⟨_, rfl⟩
          have r0 : 2 * (bs : Int) = (bb : Int) := by omega
          have g1 : bb ≤ 2 * bs := by omega
          have g2 : 2 * bs ≤ bb := by omega
          clear hbb
          go_wp2_with fail
          obtain ⟨wq, rfl⟩ : ∃ wq : World, wq = wr := ⟨_, rfl⟩
          go_loopw [7, 8] (fun s t wr => ∃ a e : Nat, s = .int .i64 a ∧ t = .int .i64 e ∧ a + bb ≤ e ∧ e ≤ a + bb ∧ a ≤ n ∧ Hid (SInv2 c tg enc w0 wr b n cap M bs a)) (fun s _ _ => n - (intOf s).toNat)
          case atStart => exact ⟨0, bb, by go_num, by first | rfl | go_num, by omega, by omega, by omega, HS2⟩
          case round =>
            obtain ⟨a, e, rfl, rfl, hae', hea', han', HQ⟩ := hrel
            obtain ⟨m, hm⟩ : ∃ m : Nat, m = a + bs := ⟨_, rfl⟩
            have r1 : (a : Int) + (bs : Int) = (m : Int) := by omega
            by_cases hen : e ≤ n
            · obtain ⟨A, L, R, C, q1, q2, q3, q4, q5, q6, q7, q8, q9⟩ := HTake2.out wr bs a HQ.out (by omega) (by omega)
              have HCall := Lib.hid (HSym.out wr A L R C q5 q6 q7 q8 q1 a m e q2 (by omega) (by omega) (by omega) (by omega))
              have HN := Lib.hid q9
              clear q1 q2 q3 q4 q5 q6 q7 q8 q9 hm
              go_wp2_with fail
              refine HCall.out.mono ?_
              rintro e2 w2 ⟨rfl, M2', hp, hs, hr⟩
              have HG := Lib.hid (HN.out w2 M2' hp hs hr)
              obtain ⟨a2, ha2⟩ : ∃ a2, a2 = a + 2 * bs := ⟨_, rfl⟩
              rw [← ha2] at HG
              have hee : a2 = e := by omega
              subst hee
              clear hp hs hr HCall HN ha2
              go_wp2_with fail
              go_roundw
              case rel => exact ⟨a2, a2 + bb, rfl, by go_num, by omega, by omega, by omega, HG⟩
              case measure => simp [intOf]; omega
            · by_cases hmn : m < n
              · obtain ⟨A, L, R, q1, q2, q3, q4, q5, q6, q7, q8, q9⟩ := HRest2.out wr bs a HQ.out (by omega) (by omega) (by omega)
                have HCall := Lib.hid (HSym.out wr A L R [] q5 q6 q7 q8 q1 a m n q2 (by omega) (by omega) (by omega) (by omega))
                have HN := Lib.hid q9
                clear q1 q2 q3 q4 q5 q6 q7 q8 q9 hm
                go_wp2_with fail
                refine HCall.out.mono ?_
                rintro e2 w2 ⟨rfl, M2', hp, hs, hr⟩
                have HG := Lib.hid (HN.out w2 M2' hp hs hr)
                clear hp hs hr HCall HN
                go_wp2_with fail
                go_roundw
                case rel => exact ⟨2 * bs, by go_num, by omega, by omega, HG⟩
                case measure => simp [intOf]; omega
              · have HG := Lib.hid (HQ.out.none (by omega))
                clear hm
                go_wp2_with fail
                go_roundw
                case rel => exact ⟨2 * bs, by go_num, by omega, by omega, HG⟩
                case measure => simp [intOf]; omega
        · have HG := Lib.hid (HR.out.done (by omega))
          go_wp2_with fail
          go_end0
          exact ⟨rfl, HG.out⟩
theorem stableN (N : Nat) (hN : N ≤ 100000) : StableS N := by
  intro α enc w0 w b n cap S c tg M hC htp hS hT h hn
  have H67 := Lib.hid (stable67 (w := w) (cap := cap) hC htp hS hT h (by omega))
  clear h hS hT htp hC
  go_enter Try.func43, Try.ntmps43
  go_wp2_with fail
  refine H67.out.mono ?_
  rintro e w1 ⟨rfl, hp⟩
  go_wp2_with fail
  go_end0
  exact ⟨rfl, hp⟩
end Go.Proofs.Ythgfdpamnepnfaa.tm
