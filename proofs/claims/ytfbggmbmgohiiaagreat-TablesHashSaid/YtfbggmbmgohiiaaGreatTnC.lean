
/- The reference's order: bits. Conditions: the bits are formed. -/
import Derived.Test.YtfbggmbmgohiiaaGreatTnB
namespace Go.Proofs.YtfbggmbmgohiiaaGreat.tm
open Go.RowKit mem names
set_option linter.unusedVariables false
set_option linter.unusedSimpArgs false
set_option maxHeartbeats 4000000
set_option maxRecDepth 100000

theorem lexN_stop (x y : Nat → Int) (k : Nat) (h : lexN x y (k + 1) ≠ 0) : ∀ n, k + 1 ≤ n → lexN x y n = lexN x y (k + 1)
  | 0, hn => by omega
  | n + 1, hn => by
    by_cases e : n = k
    · rw [e]
    · have ih := lexN_stop x y k h n (by omega)
      rw [lexN, ih, if_neg h]
theorem bitsR (f1 f2 : TF) (p1 p2 : Option Addr) (m1 c1 m2 c2 : Nat) (w : World) (h1 : BitsOK f1) (h2 : BitsOK f2) :
    Calls Tryz.prog 113 #[aggV f1 (.slice p1 m1 c1), aggV f2 (.slice p2 m2 c2)] w (IPostC (bitsC f1 f2) w) := by
  rw [bits_lexN f1 f2 h1 h2]
  obtain ⟨q1, q0, q2, q3⟩ := h1
  obtain ⟨r1, r0, r2, r3⟩ := h2
  have hB1 := fun (i : Nat) (h : (i : Int) < f1.bits) (W : World) => bitR f1 p1 m1 c1 i W (by omega) (by omega)
  have hB2 := fun (i : Nat) (h : (i : Int) < f2.bits) (W : World) => bitR f2 p2 m2 c2 i W (by omega) (by omega)
  obtain ⟨t1, ht1⟩ : ∃ n : Nat, f1.bits = n := ⟨f1.bits.toNat, by omega⟩
  obtain ⟨t2, ht2⟩ : ∃ n : Nat, f2.bits = n := ⟨f2.bits.toNat, by omega⟩
  have hmin : (min f1.bits f2.bits).toNat = min t1 t2 := by omega
  rw [hmin]
  have hst := Lib.hid (lexN_stop (bitAt f1.bytes.data.toList) (bitAt f2.bytes.data.toList))
  have hsu := Lib.hid (fun k => show lexN (bitAt f1.bytes.data.toList) (bitAt f2.bytes.data.toList) (k + 1) = (if lexN (bitAt f1.bytes.data.toList) (bitAt f2.bytes.data.toList) k = 0 then cmpI (bitAt f1.bytes.data.toList k) (bitAt f2.bytes.data.toList k) else lexN (bitAt f1.bytes.data.toList) (bitAt f2.bytes.data.toList) k) from rfl)
  have h00 := Lib.hid (show lexN (bitAt f1.bytes.data.toList) (bitAt f2.bytes.data.toList) 0 = 0 from rfl)
  clear q2 r2 q3 r3 hmin
  unfold IPostC at *
  obtain ⟨k1, i1, g1, n1, fn1, a1, by1, s1⟩ := f1
  obtain ⟨k2, i2, g2, n2, fn2, a2, by2, s2⟩ := f2
  dsimp only at *
  subst ht1
  subst ht2
  generalize lexN (bitAt by1.data.toList) (bitAt by2.data.toList) = L at *
  generalize bitAt by1.data.toList = X at *
  generalize bitAt by2.data.toList = Y at *
  have hIn := Lib.hid (fun W => ints t1 t2 W)
  generalize hres : (if L (min t1 t2) = 0 then cmpI (t1 : Int) t2 else L (min t1 t2)) = res at *
  have HRes := Lib.hid hres
  clear q1 r1
  have HB1 := Lib.hid hB1
  have HB2 := Lib.hid hB2
  clear hres hB1 hB2
  unfold aggV at *
  dsimp only at *
  go_enter Tryz.func113, Tryz.ntmps113
  go_wp2_with fail
  obtain ⟨hN1, hN2, hbw, hsz⟩ := boxes2 w ⟨k1, i1, g1, n1, fn1, a1, by1, (t1 : Int)⟩ ⟨k2, i2, g2, n2, fn2, a2, by2, (t2 : Int)⟩ (.slice p1 m1 c1) (.slice p2 m2 c2)
  unfold cells9 at hN1 hN2 hbw hsz
  dsimp only at hN1 hN2 hbw hsz
  generalize ((w.alloc (.cells #[.int .i64 k1, .int .i64 i1, .int .i64 g1, .string n1, .string fn1, .int .i64 a1, .slice p1 m1 c1, .string by1, .int .i64 t1] 24)).alloc (.cells #[.int .i64 k2, .int .i64 i2, .int .i64 g2, .string n2, .string fn2, .int .i64 a2, .slice p2 m2 c2, .string by2, .int .i64 t2] 24)) = W0 at *
  have HZ1 : Hid (w.heap.size < W0.heap.size) := Lib.hid (by omega)
  have HZ2 : Hid (w.heap.size + 1 < W0.heap.size) := Lib.hid (by omega)
  clear hsz
  have HN1 := Lib.hid hN1
  have HN2 := Lib.hid hN2
  clear hN1 hN2
  go_loopw [5] (fun s wr => ∃ (k : Nat), s = .int .i64 k ∧ k ≤ t1 ∧ k ≤ t2 ∧ Hid (L k = 0) ∧ Below W0.heap.size W0 wr) (fun s _ => t1 - (intOf s).toNat)
  case atStart => exact ⟨0, rfl, by omega, by omega, h00, Below.refl _ _⟩
  case round =>
    obtain ⟨k, rfl, hk1, hk2, HL, hb⟩ := hrel
    have HP1 := Lib.hid (HN1.out.below hb HZ1.out)
    have HP2 := Lib.hid (HN2.out.below hb HZ2.out)
    obtain ⟨x0, x1, x2, x3, x4, x5, x6, x7, x8, xz⟩ := HP1.out
    obtain ⟨y0, y1, y2, y3, y4, y5, y6, y7, y8, yz⟩ := HP2.out
    dsimp only at x0 x1 x2 x3 x4 x5 x6 x7 x8 y0 y1 y2 y3 y4 y5 y6 y7 y8
    by_cases hlt : k < t1 ∧ k < t2
    · obtain ⟨l1, l2⟩ := hlt
      have HC1 := Lib.hid (fun W => HB1.out k (by omega) W)
      have HC2 := Lib.hid (fun W => HB2.out k (by omega) W)
      have HC3 := Lib.hid (fun W => ints (X k) (Y k) W)
      have HS1 := Lib.hid (hsu.out k)
      generalize X k = x at *
      generalize Y k = y at *
      have HD1 := Lib.hid (show Nine (wr.drewN 1) w.heap.size ⟨k1, i1, g1, n1, fn1, a1, by1, (t1 : Int)⟩ (.slice p1 m1 c1) from nine_drew HP1.out)
      have HD2 := Lib.hid (show Nine (wr.drewN 1) (w.heap.size + 1) ⟨k2, i2, g2, n2, fn2, a2, by2, (t2 : Int)⟩ (.slice p2 m2 c2) from nine_drew HP2.out)
      have hzz1 : w.heap.size < (wr.drewN 1).heap.size := Nat.lt_of_lt_of_le HZ1.out hb.size
      have hzz2 : w.heap.size + 1 < (wr.drewN 1).heap.size := Nat.lt_of_lt_of_le HZ2.out hb.size
      go_wp2_with fail
      go_region_held3 (fun w' => (w'.cell? ⟨w.heap.size, 0, none⟩ = some (.int .i64 k1) ∧ w'.cell? ⟨w.heap.size, 1, none⟩ = some (.int .i64 i1) ∧ w'.cell? ⟨w.heap.size, 2, none⟩ = some (.int .i64 g1) ∧ w'.cell? ⟨w.heap.size, 3, none⟩ = some (.string n1) ∧ w'.cell? ⟨w.heap.size, 4, none⟩ = some (.string fn1) ∧ w'.cell? ⟨w.heap.size, 5, none⟩ = some (.int .i64 a1) ∧ w'.cell? ⟨w.heap.size, 6, none⟩ = some (.slice p1 m1 c1) ∧ w'.cell? ⟨w.heap.size, 7, none⟩ = some (.string by1) ∧ w'.cell? ⟨w.heap.size, 8, none⟩ = some (.int .i64 t1)) ∧ w'.cell? ⟨w.heap.size + 1, 0, none⟩ = some (.int .i64 k2) ∧ w'.cell? ⟨w.heap.size + 1, 1, none⟩ = some (.int .i64 i2) ∧ w'.cell? ⟨w.heap.size + 1, 2, none⟩ = some (.int .i64 g2) ∧ w'.cell? ⟨w.heap.size + 1, 3, none⟩ = some (.string n2) ∧ w'.cell? ⟨w.heap.size + 1, 4, none⟩ = some (.string fn2) ∧ w'.cell? ⟨w.heap.size + 1, 5, none⟩ = some (.int .i64 a2) ∧ w'.cell? ⟨w.heap.size + 1, 6, none⟩ = some (.slice p2 m2 c2) ∧ w'.cell? ⟨w.heap.size + 1, 7, none⟩ = some (.string by2) ∧ w'.cell? ⟨w.heap.size + 1, 8, none⟩ = some (.int .i64 t2)) (go_keep)
        (first
          | (go_at_call 126; (with_reducible refine (HC1.out wr.drew).mono ?_); rintro e w1 ⟨rfl, hbq⟩; have Hq1 := Lib.hid (HD1.out.below hbq (hzz1)); have Hq2 := Lib.hid (HD2.out.below hbq (hzz2)); obtain ⟨aq0, aq1, aq2, aq3, aq4, aq5, aq6, aq7, aq8, aqz⟩ := Hq1.out; obtain ⟨bq0, bq1, bq2, bq3, bq4, bq5, bq6, bq7, bq8, bqz⟩ := Hq2.out; dsimp only at aq0 aq1 aq2 aq3 aq4 aq5 aq6 aq7 aq8 bq0 bq1 bq2 bq3 bq4 bq5 bq6 bq7 bq8)
          | (go_at_call 126; (with_reducible refine (HC2.out wr.drew).mono ?_); rintro e w1 ⟨rfl, hbq⟩; have Hq1 := Lib.hid (HD1.out.below hbq (hzz1)); have Hq2 := Lib.hid (HD2.out.below hbq (hzz2)); obtain ⟨aq0, aq1, aq2, aq3, aq4, aq5, aq6, aq7, aq8, aqz⟩ := Hq1.out; obtain ⟨bq0, bq1, bq2, bq3, bq4, bq5, bq6, bq7, bq8, bqz⟩ := Hq2.out; dsimp only at aq0 aq1 aq2 aq3 aq4 aq5 aq6 aq7 aq8 bq0 bq1 bq2 bq3 bq4 bq5 bq6 bq7 bq8)
          | (go_at_call 126; (with_reducible refine (HC1.out w1).mono ?_); rintro e w2 ⟨rfl, hbr⟩; have Hr1 := Lib.hid (Hq1.out.below hbr (Nat.lt_of_lt_of_le hzz1 hbq.size)); have Hr2 := Lib.hid (Hq2.out.below hbr (Nat.lt_of_lt_of_le hzz2 hbq.size)); obtain ⟨ar0, ar1, ar2, ar3, ar4, ar5, ar6, ar7, ar8, arz⟩ := Hr1.out; obtain ⟨br0, br1, br2, br3, br4, br5, br6, br7, br8, brz⟩ := Hr2.out; dsimp only at ar0 ar1 ar2 ar3 ar4 ar5 ar6 ar7 ar8 br0 br1 br2 br3 br4 br5 br6 br7 br8)
          | (go_at_call 126; (with_reducible refine (HC2.out w1).mono ?_); rintro e w2 ⟨rfl, hbr⟩; have Hr1 := Lib.hid (Hq1.out.below hbr (Nat.lt_of_lt_of_le hzz1 hbq.size)); have Hr2 := Lib.hid (Hq2.out.below hbr (Nat.lt_of_lt_of_le hzz2 hbq.size)); obtain ⟨ar0, ar1, ar2, ar3, ar4, ar5, ar6, ar7, ar8, arz⟩ := Hr1.out; obtain ⟨br0, br1, br2, br3, br4, br5, br6, br7, br8, brz⟩ := Hr2.out; dsimp only at ar0 ar1 ar2 ar3 ar4 ar5 ar6 ar7 ar8 br0 br1 br2 br3 br4 br5 br6 br7 br8)
          | (go_at_call 108; refine (HC3.out _).mono ?_; rintro e w3 ⟨rfl, rfl⟩))
      have hbn : Below W0.heap.size W0 w2 := ((hb.drewN 1).trans (hbq.mono hb.size)).trans (hbr.mono (Nat.le_trans hb.size hbq.size))
      have HZ3 : Hid (L (k + 1) = cmpI x y) := Lib.hid (by rw [HS1.out, if_pos HL.out])
      clear HS1 HC1 HC2 HC3 HD1 HD2 Hq1 Hq2 Hr1 Hr2 hbq hbr hzz1 hzz2
      generalize cmpI x y = zc at *
      by_cases hz : zc = 0
      · subst hz
        go_wp2_with fail
        go_roundw
        case rel => exact ⟨k + 1, by go_num, by omega, by omega, HZ3, hbn⟩
        case measure => simp [intOf]; omega
      · have q : (zc != 0) = true := by simp [hz]
        have HF : Hid (zc = res) := Lib.hid (by
          rw [← HRes.out, hst.out k (by rw [HZ3.out]; exact hz) (min t1 t2) (by omega), if_neg (by rw [HZ3.out]; exact hz), HZ3.out])
        clear hz
        go_wp2_with fail
        go_ret
        exact ⟨ret1i HF.out, hbw.trans (hbn.mono hbw.size)⟩
    · have HF : Hid (cmpI (t1 : Int) t2 = res) := Lib.hid (by
        rw [← HRes.out, show min t1 t2 = k by omega, if_pos HL.out])
      by_cases l1 : k < t1
      · have l2 : ¬ k < t2 := fun h => hlt ⟨l1, h⟩
        clear hlt
        go_wp2_with fail
        refine (hIn.out _).mono ?_
        rintro e w3 ⟨rfl, rfl⟩
        go_wp2_with fail
        go_ret
        exact ⟨ret1i HF.out, hbw.trans (hb.mono hbw.size)⟩
      · clear hlt
        go_wp2_with fail
        refine (hIn.out _).mono ?_
        rintro e w3 ⟨rfl, rfl⟩
        go_wp2_with fail
        go_ret
        exact ⟨ret1i HF.out, hbw.trans (hb.mono hbw.size)⟩
end Go.Proofs.YtfbggmbmgohiiaaGreat.tm
