
/- The reference's order: formed at every depth, Compare. Conditions: the terms lie in memory. -/
import Derived.Test.YtfbggmbmgohiiaaGreatTnF
namespace Go.Proofs.YtfbggmbmgohiiaaGreat.tm
open Go.RowKit mem names
set_option linter.unusedVariables false
set_option linter.unusedSimpArgs false
set_option maxHeartbeats 4000000
set_option maxRecDepth 100000

theorem cmpI_self (a : Int) : cmpI a a = 0 := cmpI_0 rfl
theorem cmpB_self (a : ByteArray) : cmpB a a = 0 := tpB.refl a
theorem firstL_1 (a : Int) : firstL [a] = a := by
  unfold firstL firstL; split
  next e => exact e.symm
  next => rfl
theorem firstL_c (a : Int) (l : List Int) : firstL (a :: l) = if a = 0 then firstL l else a := rfl
/-- what the reference's formed returns, beside lists, tuples and bits -/
def refH (f1 f2 : TF) (ri : Int) : Int :=
  if f1.kind = 1 then cmpI f1.int f2.int
  else if f1.kind = 2 then cmpB f1.name f2.name
  else if f1.kind = 3 ∨ f1.kind = 6 then firstL [cmpB f1.name f2.name, cmpI f1.gen f2.gen, cmpI f1.int f2.int]
  else if f1.kind = 4 then firstL [cmpB f1.name f2.name, cmpI f1.gen f2.gen, cmpI f1.int f2.int, cmpI f1.arity f2.arity, ri]
  else if f1.kind = 5 then firstL [cmpB f1.name f2.name, cmpB f1.func f2.func, cmpI f1.arity f2.arity]
  else 0
theorem head_ref (f1 f2 : TF) (ri : Int) (hk : f1.kind = f2.kind) (z1 : ({ bareF f1 with kind := 0 } : TF) = zeroF) (z2 : ({ bareF f2 with kind := 0 } : TF) = zeroF) (h7 : f1.kind ≠ 7) (h9 : f1.kind ≠ 9) (h10 : f1.kind ≠ 10) (h0 : f1.kind ≠ 4 → ri = 0) :
    (if headC f1 f2 = 0 then ri else headC f1 f2) = refH f1 f2 ri := by
  obtain ⟨k1, i1, g1, n1, fn1, a1, b1, s1⟩ := f1
  obtain ⟨k2, i2, g2, n2, fn2, a2, b2, s2⟩ := f2
  dsimp only at hk h7 h9 h10 h0
  subst hk
  unfold bareF zeroF at z1 z2
  unfold headC refH
  dsimp only at z1 z2 ⊢
  by_cases h1 : k1 = 1
  · rw [h0 (by omega)]
    rw [if_pos h1] at z1 z2
    simp at z1 z2
    simp only [z1, z2, cmpB_self, cmpI_self, firstL_c, if_pos h1, if_true]
    split <;> simp_all [firstL]
  rw [if_neg h1] at z1 z2 ⊢
  by_cases h2 : k1 = 2
  · rw [h0 (by omega)]
    rw [if_pos h2] at z1 z2
    simp at z1 z2
    simp only [z1, z2, cmpB_self, cmpI_self, firstL_c, if_pos h2, if_true]
    split <;> simp_all [firstL]
  rw [if_neg h2] at z1 z2 ⊢
  by_cases h3 : k1 = 3 ∨ k1 = 6
  · rw [h0 (by omega)]
    rw [if_pos h3] at z1 z2
    simp at z1 z2
    simp only [z1, z2, cmpB_self, cmpI_self, firstL_c, if_pos h3, if_true, firstL]
    generalize cmpB n1 n2 = x
    generalize cmpI g1 g2 = y
    generalize cmpI i1 i2 = z
    repeat' split
    all_goals first | rfl | omega | simp_all
  rw [if_neg h3] at z1 z2 ⊢
  by_cases h4 : k1 = 4
  · rw [if_pos h4] at z1 z2
    simp at z1 z2
    simp only [z1, z2, cmpB_self, cmpI_self, firstL_c, if_pos h4, if_true, firstL]
    generalize cmpB n1 n2 = x
    generalize cmpI g1 g2 = y
    generalize cmpI i1 i2 = z
    generalize cmpI a1 a2 = t
    repeat' split
    all_goals first | rfl | omega | simp_all
  rw [if_neg h4] at z1 z2 ⊢
  by_cases h5 : k1 = 5
  · rw [h0 h4]
    rw [if_pos h5] at z1 z2
    simp at z1 z2
    simp only [z1, z2, cmpB_self, cmpI_self, firstL_c, if_pos h5, if_true, firstL]
    generalize cmpB n1 n2 = x
    generalize cmpB fn1 fn2 = y
    generalize cmpI a1 a2 = z
    repeat' split
    all_goals first | rfl | omega | simp_all
  · rw [h0 h4]
    rw [if_neg h5, if_neg h10] at z1 z2
    simp at z1 z2
    simp only [z1, z2, cmpB_self, cmpI_self, firstL_c, if_neg h5, if_true, firstL]
theorem formedF (x y : TF) (p1 p2 : Option Addr) (m1 c1 m2 c2 : Nat) (ri rl : Int) (w : World)
    (hItems : ∀ W, Below w.heap.size w W → Calls Tryz.prog 111 #[.slice p1 m1 c1, .slice p2 m2 c2] W (IPostC ri W))
    (hLists : x.kind = 9 → y.kind = 9 → ∀ W, Below w.heap.size w W → Calls Tryz.prog 112 #[.slice p1 m1 c1, .slice p2 m2 c2] W (IPostC rl W))
    (hb1 : x.kind = 10 → BitsOK x) (hb2 : y.kind = 10 → BitsOK y) (hkk : 1 ≤ x.kind ∧ x.kind ≤ 10) :
    Calls Tryz.prog 86 #[aggV x (.slice p1 m1 c1), aggV y (.slice p2 m2 c2)] w (IPostC (if x.kind = y.kind then (if x.kind = 7 then ri else if x.kind = 9 then rl else if x.kind = 10 then bitsC x y else refH x y ri) else cmpI x.kind y.kind) w) := by
  by_cases hk : x.kind = y.kind
  case neg => rw [if_neg hk]; exact fNe' _ _ _ _ _ _ _ _ w hk
  rw [if_pos hk]
  have hbb : ∀ W : World, x.kind = 10 → Calls Tryz.prog 113 #[aggV x (.slice p1 m1 c1), aggV y (.slice p2 m2 c2)] W (IPostC (bitsC x y) W) := fun W h => bitsR x y _ _ _ _ _ _ W (hb1 h) (hb2 (by omega))
  unfold refH
  obtain ⟨k1, i1, g1, n1, fn1, a1, b1, s1⟩ := x
  obtain ⟨k2, i2, g2, n2, fn2, a2, b2, s2⟩ := y
  dsimp only at *
  subst hk
  generalize bitsC ⟨k1, i1, g1, n1, fn1, a1, b1, s1⟩ ⟨k1, i2, g2, n2, fn2, a2, b2, s2⟩ = rb at *
  rcases (show k1 = 1 ∨ k1 = 2 ∨ k1 = 3 ∨ k1 = 4 ∨ k1 = 5 ∨ k1 = 6 ∨ k1 = 7 ∨ k1 = 8 ∨ k1 = 9 ∨ k1 = 10 by omega) with rfl | rfl | rfl | rfl | rfl | rfl | rfl | rfl | rfl | rfl
  · exact f1 _ _ _ _ _ _ _ _ _ _ _ _ _ _ _ _ _ _ _ _ w
  · exact f2 _ _ _ _ _ _ _ _ _ _ _ _ _ _ _ _ _ _ _ _ w
  · exact f3 _ _ _ _ _ _ _ _ _ _ _ _ _ _ _ _ _ _ _ _ w
  · exact f4 _ _ _ _ _ _ _ _ _ _ _ _ _ _ _ _ _ _ _ _ w ri hItems
  · exact f5 _ _ _ _ _ _ _ _ _ _ _ _ _ _ _ _ _ _ _ _ w
  · exact f6 _ _ _ _ _ _ _ _ _ _ _ _ _ _ _ _ _ _ _ _ w
  · exact f7 _ _ _ _ _ _ _ _ _ _ _ _ _ _ _ _ _ _ _ _ w ri hItems
  · exact f8 _ _ _ _ _ _ _ _ _ _ _ _ _ _ _ _ _ _ _ _ w
  · exact f9 _ _ _ _ _ _ _ _ _ _ _ _ _ _ _ _ _ _ _ _ w rl (hLists rfl rfl)
  · exact f10 _ _ _ _ _ _ _ _ _ _ _ _ _ _ _ _ _ _ _ _ w rb (fun W _ => hbb W rfl)
theorem ft_kind {n : Nat} {t : Tm (n + 1)} (h : formedT t = true) : 1 ≤ t.f.kind ∧ t.f.kind ≤ 10 := by
  obtain ⟨h1, h2, _, _⟩ := ft_ok h
  have h3 := of_decide_eq_true (show decide _ = true from h1)
  refine ⟨?_, h3.2⟩
  by_cases e : t.f.kind = 0
  · unfold okF at h2
    rw [if_neg (by omega), if_neg (by omega), if_neg (by omega), if_neg (by omega), if_neg (by omega), if_neg (by omega), if_neg (by omega), if_neg (by omega)] at h2
    cases h2
  · omega
theorem formedStep {n : Nat} (ih : ∀ m, n = m + 1 → RCmpS m) : RCmpS n := by
  intro w B v1 v2 a b hB h1 h2 f1 f2
  have F1 := ft_items f1
  have F2 := ft_items f2
  have hItems := fun W (hb : Below w.heap.size w W) => countedR ih W B v1 v2 a.items b.items (Nat.le_trans hB hb.size) (h1.below hb hB) (h2.below hb hB) F1 F2
  have hLists := fun e1 e2 W (hb : Below w.heap.size w W) => cellsR ih a.items.length W B v1 v2 a.items b.items (Nat.le_refl _) (Nat.le_trans hB hb.size) (h1.below hb hB) (h2.below hb hB) (ft_list f1 e1).2 (ft_list f2 e2).2 (ft_list f1 e1).1 (ft_list f2 e2).1
  obtain ⟨p1, c1, rfl, _, _⟩ := h1.shape
  obtain ⟨p2, c2, rfl, _, _⟩ := h2.shape
  have hr : cmpTm (n + 1) a b = (if a.f.kind = b.f.kind then (if a.f.kind = 7 then itemsC (cmpTm n) a.items b.items else if a.f.kind = 9 then listsC (kdT n) (cmpTm n) a.items b.items else if a.f.kind = 10 then bitsC a.f b.f else refH a.f b.f (itemsC (cmpTm n) a.items b.items)) else cmpI a.f.kind b.f.kind) := by
    rw [cmp_body]
    by_cases hk : a.f.kind = b.f.kind
    · rw [if_pos hk, if_pos hk]
      unfold bodyC thenC
      dsimp only
      by_cases h7 : a.f.kind = 7
      · rw [if_pos h7, if_pos h7]
      rw [if_neg h7, if_neg h7]
      by_cases h9 : a.f.kind = 9
      · rw [if_pos h9, if_pos h9]
      rw [if_neg h9, if_neg h9]
      by_cases h10 : a.f.kind = 10
      · rw [if_pos h10, if_pos h10]
      rw [if_neg h10, if_neg h10]
      obtain ⟨_, _, z1, y1⟩ := ft_ok f1
      obtain ⟨_, _, z2, y2⟩ := ft_ok f2
      refine head_ref a.f b.f _ hk z1 z2 h7 h9 h10 (fun h4 => ?_)
      rw [if_neg (by omega)] at y1 y2
      rw [List.length_eq_zero_iff.1 y1, List.length_eq_zero_iff.1 y2]; rfl
    · rw [if_neg hk, if_neg hk]
  rw [hr]
  exact formedF a.f b.f p1 p2 _ c1 _ c2 _ _ w hItems hLists (fun h => ft_bits f1 h) (fun h => ft_bits f2 h) (ft_kind f1)
theorem formedAll : ∀ n, RCmpS n
  | 0 => formedStep (fun m h => by omega)
  | n + 1 => formedStep (fun m h => by obtain rfl : n = m := by omega
                                       exact formedAll n)
theorem compareRF (x y : TF) (p1 p2 : Option Addr) (m1 c1 m2 c2 : Nat) (va vb : Bool) (r : Int) (w : World)
    (hV1 : ∀ W, Below w.heap.size w W → Calls Tryz.prog 28 #[aggV x (.slice p1 m1 c1)] W (BPost va W))
    (hV2 : ∀ W, Below w.heap.size w W → Calls Tryz.prog 28 #[aggV y (.slice p2 m2 c2)] W (BPost vb W))
    (hC : va = true → vb = true → ∀ W, Below w.heap.size w W → Calls Tryz.prog 86 #[aggV x (.slice p1 m1 c1), aggV y (.slice p2 m2 c2)] W (IPostC r W)) :
    Calls Tryz.prog 54 #[aggV x (.slice p1 m1 c1), aggV y (.slice p2 m2 c2)] w (IPostC (if va = true then (if vb = true then r else 1) else (if vb = true then -1 else 0)) w) := by
  generalize hres : (if va = true then (if vb = true then r else 1) else (if vb = true then -1 else 0)) = res
  have HRes := Lib.hid hres
  clear hres
  have HV1 := Lib.hid hV1
  have HV2 := Lib.hid hV2
  have HC := Lib.hid hC
  clear hV1 hV2 hC
  obtain ⟨k1, i1, g1, n1, fn1, a1, b1, s1⟩ := x
  obtain ⟨k2, i2, g2, n2, fn2, a2, b2, s2⟩ := y
  unfold aggV BPost IPostC at *
  dsimp only at *
  go_enter Tryz.func54, Tryz.ntmps54
  go_wp2_with fail
  obtain ⟨hN1, hN2, hbw, hsz⟩ := boxes2 w ⟨k1, i1, g1, n1, fn1, a1, b1, s1⟩ ⟨k2, i2, g2, n2, fn2, a2, b2, s2⟩ (.slice p1 m1 c1) (.slice p2 m2 c2)
  unfold cells9 at hN1 hN2 hbw hsz
  dsimp only at hN1 hN2 hbw hsz
  generalize ((w.alloc (.cells #[.int .i64 k1, .int .i64 i1, .int .i64 g1, .string n1, .string fn1, .int .i64 a1, .slice p1 m1 c1, .string b1, .int .i64 s1] 24)).alloc (.cells #[.int .i64 k2, .int .i64 i2, .int .i64 g2, .string n2, .string fn2, .int .i64 a2, .slice p2 m2 c2, .string b2, .int .i64 s2] 24)) = W0 at *
  have HZ1 : Hid (w.heap.size < W0.heap.size) := Lib.hid (by omega)
  have HZ2 : Hid (w.heap.size + 1 < W0.heap.size) := Lib.hid (by omega)
  clear hsz
  have HN1 := Lib.hid hN1
  have HN2 := Lib.hid hN2
  obtain ⟨x0, x1, x2, x3, x4, x5, x6, x7, x8, xz⟩ := hN1
  obtain ⟨y0, y1, y2, y3, y4, y5, y6, y7, y8, yz⟩ := hN2
  dsimp only at x0 x1 x2 x3 x4 x5 x6 x7 x8 y0 y1 y2 y3 y4 y5 y6 y7 y8
  have hbd : Below w.heap.size w (W0.drewN 1) := hbw.drewN 1
  have HD1 := Lib.hid (show Nine (W0.drewN 1) w.heap.size ⟨k1, i1, g1, n1, fn1, a1, b1, s1⟩ (.slice p1 m1 c1) from nine_drew HN1.out)
  have HD2 := Lib.hid (show Nine (W0.drewN 1) (w.heap.size + 1) ⟨k2, i2, g2, n2, fn2, a2, b2, s2⟩ (.slice p2 m2 c2) from nine_drew HN2.out)
  go_region_held3 (fun w' => (w'.cell? ⟨w.heap.size, 0, none⟩ = some (.int .i64 k1) ∧ w'.cell? ⟨w.heap.size, 1, none⟩ = some (.int .i64 i1) ∧ w'.cell? ⟨w.heap.size, 2, none⟩ = some (.int .i64 g1) ∧ w'.cell? ⟨w.heap.size, 3, none⟩ = some (.string n1) ∧ w'.cell? ⟨w.heap.size, 4, none⟩ = some (.string fn1) ∧ w'.cell? ⟨w.heap.size, 5, none⟩ = some (.int .i64 a1) ∧ w'.cell? ⟨w.heap.size, 6, none⟩ = some (.slice p1 m1 c1) ∧ w'.cell? ⟨w.heap.size, 7, none⟩ = some (.string b1) ∧ w'.cell? ⟨w.heap.size, 8, none⟩ = some (.int .i64 s1)) ∧ w'.cell? ⟨w.heap.size + 1, 0, none⟩ = some (.int .i64 k2) ∧ w'.cell? ⟨w.heap.size + 1, 1, none⟩ = some (.int .i64 i2) ∧ w'.cell? ⟨w.heap.size + 1, 2, none⟩ = some (.int .i64 g2) ∧ w'.cell? ⟨w.heap.size + 1, 3, none⟩ = some (.string n2) ∧ w'.cell? ⟨w.heap.size + 1, 4, none⟩ = some (.string fn2) ∧ w'.cell? ⟨w.heap.size + 1, 5, none⟩ = some (.int .i64 a2) ∧ w'.cell? ⟨w.heap.size + 1, 6, none⟩ = some (.slice p2 m2 c2) ∧ w'.cell? ⟨w.heap.size + 1, 7, none⟩ = some (.string b2) ∧ w'.cell? ⟨w.heap.size + 1, 8, none⟩ = some (.int .i64 s2)) (go_keep)
    (first
      | (go_at_call 28; refine (HV1.out _ hbd).mono ?_; rintro e w1 ⟨rfl, hb⟩; have hbe := hbd.trans (hb.mono hbd.size); have HM1 := Lib.hid (HD1.out.below hb HZ1.out); have HM2 := Lib.hid (HD2.out.below hb HZ2.out); obtain ⟨z0, z1, z2, z3, z4, z5, z6, z7, z8, zz⟩ := HM1.out; obtain ⟨t0, t1, t2, t3, t4, t5, t6, t7, t8, tz⟩ := HM2.out; dsimp only at z0 z1 z2 z3 z4 z5 z6 z7 z8 t0 t1 t2 t3 t4 t5 t6 t7 t8)
      | (go_at_call 28; refine (HV2.out _ hbd).mono ?_; rintro e w1 ⟨rfl, hb⟩; have hbe := hbd.trans (hb.mono hbd.size); have HM1 := Lib.hid (HD1.out.below hb HZ1.out); have HM2 := Lib.hid (HD2.out.below hb HZ2.out); obtain ⟨z0, z1, z2, z3, z4, z5, z6, z7, z8, zz⟩ := HM1.out; obtain ⟨t0, t1, t2, t3, t4, t5, t6, t7, t8, tz⟩ := HM2.out; dsimp only at z0 z1 z2 z3 z4 z5 z6 z7 z8 t0 t1 t2 t3 t4 t5 t6 t7 t8)
      | (go_at_call 28; refine (HV1.out _ hbe).mono ?_; rintro e w2 ⟨rfl, hb2⟩; have hbf := hbe.trans (hb2.mono hbe.size); have hz1 := Nat.lt_of_lt_of_le HZ1.out hb.size; have hz2 := Nat.lt_of_lt_of_le HZ2.out hb.size; have HL1 := Lib.hid (HM1.out.below hb2 hz1); have HL2 := Lib.hid (HM2.out.below hb2 hz2); obtain ⟨z0, z1, z2, z3, z4, z5, z6, z7, z8, zz⟩ := HL1.out; obtain ⟨t0, t1, t2, t3, t4, t5, t6, t7, t8, tz⟩ := HL2.out; dsimp only at z0 z1 z2 z3 z4 z5 z6 z7 z8 t0 t1 t2 t3 t4 t5 t6 t7 t8)
      | (go_at_call 28; refine (HV2.out _ hbe).mono ?_; rintro e w2 ⟨rfl, hb2⟩; have hbf := hbe.trans (hb2.mono hbe.size); have hz1 := Nat.lt_of_lt_of_le HZ1.out hb.size; have hz2 := Nat.lt_of_lt_of_le HZ2.out hb.size; have HL1 := Lib.hid (HM1.out.below hb2 hz1); have HL2 := Lib.hid (HM2.out.below hb2 hz2); obtain ⟨z0, z1, z2, z3, z4, z5, z6, z7, z8, zz⟩ := HL1.out; obtain ⟨t0, t1, t2, t3, t4, t5, t6, t7, t8, tz⟩ := HL2.out; dsimp only at z0 z1 z2 z3 z4 z5 z6 z7 z8 t0 t1 t2 t3 t4 t5 t6 t7 t8))
  · clear HM1 HM2 HL1 HL2 HN1 HN2 x0 x1 x2 x3 x4 x5 x6 x7 x8 xz y0 y1 y2 y3 y4 y5 y6 y7 y8 yz HV1 HV2
    cases va
    · cases vb
      · have HF := Lib.hid (show 0 = res from HRes.out)
        go_wp2_with fail
        go_ret
        exact ⟨ret1i HF.out, by assumption⟩
      · have HF := Lib.hid (show -1 = res from HRes.out)
        go_wp2_with fail
        go_ret
        exact ⟨ret1i HF.out, by assumption⟩
    · cases vb
      · have HF := Lib.hid (show 1 = res from HRes.out)
        go_wp2_with fail
        go_ret
        exact ⟨ret1i HF.out, by assumption⟩
      · have HF := Lib.hid (show r = res from HRes.out)
        have HC2 := Lib.hid (HC.out rfl rfl _ hbf)
        clear HC
        go_wp2_with fail
        refine HC2.out.mono ?_
        rintro e w3 ⟨rfl, hb3⟩
        go_wp2_with fail
        go_ret
        exact ⟨ret1i HF.out, hbf.trans (hb3.mono hbf.size)⟩
theorem RCompare {n : Nat} (w : World) (B : Nat) (v1 v2 : Value) (a b : Tm (n + 1)) (hB : B ≤ w.heap.size) (h1 : ItemsAt w B n v1 a.items) (h2 : ItemsAt w B n v2 b.items) (s1 : 300 * (nodesT a : Int) ≤ 1000000000000) (s2 : 300 * (nodesT b : Int) ≤ 1000000000000) :
    Calls Tryz.prog 54 #[aggV a.f v1, aggV b.f v2] w (IPostC (cmpV a b) w) := by
  have hV1 := fun W (hb : Below w.heap.size w W) => RValid W B v1 a (Nat.le_trans hB hb.size) (h1.below hb hB) s1
  have hV2 := fun W (hb : Below w.heap.size w W) => RValid W B v2 b (Nat.le_trans hB hb.size) (h2.below hb hB) s2
  have hC := fun f1 f2 W (hb : Below w.heap.size w W) => formedAll n W B v1 v2 a b (Nat.le_trans hB hb.size) (h1.below hb hB) (h2.below hb hB) (valid_formed f1) (valid_formed f2)
  obtain ⟨p1, c1, rfl, _, _⟩ := h1.shape
  obtain ⟨p2, c2, rfl, _, _⟩ := h2.shape
  exact compareRF a.f b.f p1 p2 _ c1 _ c2 (validT a) (validT b) _ w hV1 hV2 hC
end Go.Proofs.YtfbggmbmgohiiaaGreat.tm
