/- Several texts in one, one behind the other: LwI. No condition beyond theirs. -/
import Derived.Test.YthgfdpamnepnfaaHe
import Derived.Test.YthgfdpamnepnfaaGy
/- OrderMerges: the walk. Conditions: the terms lie in memory. -/
namespace Go.Proofs.Ythgfdpamnepnfaa.tm
open Go.RowKit mem names
set_option linter.unusedVariables false
set_option linter.unusedSimpArgs false
set_option maxHeartbeats 4000000
set_option maxRecDepth 100000

theorem RRowF.own_ge {n : Nat} {wr : World} {F : Nat → Prop} {base : Nat} {v : Value} {rs : List (TF × Value)} {O : List (Tm (n + 1))} (h : RRowF wr F base v rs O) : ∀ k, v.ownBlock = some k → base ≤ k := by
  intro k hk
  rcases h.own.2 with ⟨rfl, h0⟩ | ⟨g, cap, cur, rfl, hbg, hg, _⟩
  · simp [Value.ownBlock] at hk
  · simp [Value.ownBlock] at hk
    omega
theorem count_take {n : Nat} {L : List (Tm (n + 1))} {p : Tm (n + 1) → Bool} {k : Nat} {x : Tm (n + 1)} (h : L[k]? = some x) : (L.take (k + 1)).countP p = (L.take k).countP p + if p x = true then 1 else 0 := by
  rw [List.take_add_one, h, List.countP_append]
  simp [List.countP_cons]
theorem lawMerges {n : Nat} (w : World) (va vb : Value) (a b : List (Tm (n + 1))) (IA : ItemsAt w w.heap.size (n + 1) va a) (IB : ItemsAt w w.heap.size (n + 1) vb b) :
    Calls Try.prog 9 #[va, vb] w fun e w' => e = .returned (.bool true) ∧ Below w.heap.size w w' := by
  have HSh := Lib.hid (fun W => shownW W)
  have HGA := Lib.hid (fun W (hb : Below w.heap.size w W) => Great W w.heap.size va a 4000 hb.size (by omega) (by omega) (IA.below hb (Nat.le_refl _)))
  have HGB := Lib.hid (fun W (hb : Below w.heap.size w W) => Great W w.heap.size vb b 4000 hb.size (by omega) (by omega) (IB.below hb (Nat.le_refl _)))
  have HNA := Lib.hid (fun (h : greatS (n + 1) a 4000 = false) => great_nodes h)
  have HNB := Lib.hid (fun (h : greatS (n + 1) b 4000 = false) => great_nodes h)
  have HIA := Lib.hid (fun W (hb : Below w.heap.size w W) => (IA.below hb (Nat.le_refl _)))
  have HIB := Lib.hid (fun W (hb : Below w.heap.size w W) => (IB.below hb (Nat.le_refl _)))
  have HSA := Lib.hid (fun (h : nodesL (n + 1) a ≤ 4000) (h60 : a.length ≤ 60) W (hb : Below w.heap.size w W) => (sortRowW (stableN 100 (by omega)) W w.heap.size va a hb.size (IA.below hb (Nat.le_refl _)) (by omega) (by omega) (by omega)).mono (fun e w' hp => hp.rrow))
  have HSB := Lib.hid (fun (h : nodesL (n + 1) b ≤ 4000) (h60 : b.length ≤ 60) W (hb : Below w.heap.size w W) => sortW (stableN 100 (by omega)) W w.heap.size vb b hb.size (IB.below hb (Nat.le_refl _)) (by omega) (by omega) (by omega))
  have HSL := Lib.hid (fun (h : nodesL (n + 1) a ≤ 4000) (h' : nodesL (n + 1) b ≤ 4000) (ha : a.length ≤ 60) (hb' : b.length ≤ 60) W u (hi : ItemsAt W W.heap.size (n + 1) u (a ++ b)) => sortW (stableN 200 (by omega)) W W.heap.size u (a ++ b) (Nat.le_refl _) hi (by rw [nodesL_append]; omega) (by simp; omega) (by omega))
  have HSC := Lib.hid (fun (h : nodesL (n + 1) a ≤ 4000) (h' : nodesL (n + 1) b ≤ 4000) (ha : a.length ≤ 60) (hb' : b.length ≤ 60) W u (hi : ItemsAt W W.heap.size (n + 1) u (sortL a ++ sortL b)) => by
    have := sortW (stableN 200 (by omega)) W W.heap.size u (sortL a ++ sortL b) (Nat.le_refl _) hi (by rw [nodesL_append, sortL_nodes, sortL_nodes]; omega) (by simp [sortL_len]; omega) (by omega)
    rwa [sort_concat] at this)
  have HSame := Lib.hid (fun W v1 v2 (h1 : ItemsAt W W.heap.size (n + 1) v1 (sortL (a ++ b))) (h2 : ItemsAt W W.heap.size (n + 1) v2 (sortL (a ++ b))) => by have := sameList (n + 1) W W.heap.size v1 v2 _ _ (Nat.le_refl _) h1 h2; rwa [eqB_t rfl] at this)
  have HLess := Lib.hid (fun (h : nodesL (n + 1) a ≤ 4000) (h' : nodesL (n + 1) b ≤ 4000) (i k : Nat) (x y : Tm (n + 1)) (hx : (a ++ b)[i]? = some x) (hy : (a ++ b)[k]? = some y) W u1 u2 (i1 : ItemsAt W W.heap.size n u1 x.items) (i2 : ItemsAt W W.heap.size n u2 y.items) => by
    have k1 := nodes_get hx
    have k2 := nodes_get hy
    rw [nodesL_append] at k1 k2
    exact Less W W.heap.size u1 u2 x y (Nat.le_refl _) i1 i2 (by omega) (by omega))
  have HSearch := Lib.hid (fun (h : nodesL (n + 1) a ≤ 4000) (h' : nodesL (n + 1) b ≤ 4000) (i : Nat) (x : Tm (n + 1)) (hx : (a ++ b)[i]? = some x) W u u1 (i1 : ItemsAt W W.heap.size n u1 x.items) (i2 : ItemsAt W W.heap.size (n + 1) u (sortL (a ++ b))) => by
    have k1 := nodes_get hx
    have := searchW W W.heap.size u u1 (sortL (a ++ b)) x (Nat.le_refl _) i2 i1 (by rw [sortL_nodes, nodesL_append]; omega) (by rw [nodesL_append] at k1; omega)
    rw [ord_sortL, if_pos rfl, if_pos rfl, (merges_plain (a ++ b) x (List.mem_of_getElem? hx)).1, (merges_plain (a ++ b) x (List.mem_of_getElem? hx)).2] at this
    exact this)
  obtain ⟨pa, ca, rfl, _, _⟩ := IA.shape
  obtain ⟨pb, cb, rfl, _, _⟩ := IB.shape
  clear IA IB
  unfold LPost at HSB HSL HSC
  unfold SPost2 at HSearch
  unfold BPost at *
  generalize greatS (n + 1) a 4000 = G1 at *
  generalize greatS (n + 1) b 4000 = G2 at *
  obtain ⟨S, hS⟩ : ∃ S, sortL (a ++ b) = S := ⟨_, rfl⟩
  obtain ⟨SA, hSA⟩ : ∃ S, sortL a = S := ⟨_, rfl⟩
  obtain ⟨SB, hSB⟩ : ∃ S, sortL b = S := ⟨_, rfl⟩
  have HLA : Hid (SA.length = a.length) := Lib.hid (by rw [← hSA, sortL_len])
  have HLB : Hid (SB.length = b.length) := Lib.hid (by rw [← hSB, sortL_len])
  rw [hS] at HSL HSC HSame HSearch
  rw [hSA] at HSA HSC
  rw [hSB] at HSB HSC
  clear hS hSA hSB
  go_enter Try.func9, Try.ntmps9
  go_wp2_with fail
  refine (HSh.out w).mono ?_
  rintro e w1 ⟨rfl, hb1⟩
  have HB1 := Lib.hid hb1
  clear hb1 HSh
  by_cases ha60 : a.length ≤ 60
  · have q0 : ¬ (60 : Int) < (a.length : Int) := by omega
    have q1 : decide ((60 : Int) < (a.length : Int)) = false := decide_eq_false q0
    by_cases hb60 : b.length ≤ 60
    · have q2 : ¬ (60 : Int) < (b.length : Int) := by omega
      have q3 : decide ((60 : Int) < (b.length : Int)) = false := decide_eq_false q2
      have HGW := Lib.hid (HGA.out w1 HB1.out)
      go_wp2_with fail
      refine HGW.out.mono ?_
      rintro e w2 ⟨rfl, hb2⟩
      have HB2 := Lib.hid (HB1.out.trans (hb2.mono HB1.out.size))
      clear hb2 HGW HB1 HGA
      cases G1
      · have hn1 := HNA.out rfl
        have HGW := Lib.hid (HGB.out w2 HB2.out)
        go_wp2_with fail
        refine HGW.out.mono ?_
        rintro e w3 ⟨rfl, hb3⟩
        have HB3 := Lib.hid (HB2.out.trans (hb3.mono HB2.out.size))
        clear hb3 HGW HB2 HGB
        cases G2
        · have hn2 := HNB.out rfl
          have hn1' : nodesL (n + 1) a ≤ 4000 := by omega
          have hn2' : nodesL (n + 1) b ≤ 4000 := by omega
          have HSA' := Lib.hid (HSA.out hn1' ha60)
          have HSB' := Lib.hid (HSB.out hn2' hb60)
          have HSL' := Lib.hid (HSL.out hn1' hn2' ha60 hb60)
          have HSC' := Lib.hid (HSC.out hn1' hn2' ha60 hb60)
          have HLess' := Lib.hid (HLess.out hn1' hn2')
          have HSearch' := Lib.hid (HSearch.out hn1' hn2')
          clear hn1 hn2 hn1' hn2' HNA HNB HSA HSB HSL HSC HLess HSearch q0 q1 q2 q3
          have hLn : (a ++ b).length ≤ 120 := by simp; omega
          obtain ⟨L, hL⟩ : ∃ L, a ++ b = L := ⟨_, rfl⟩
          have HLL := Lib.hid hL
          rw [hL] at HSL' HLess' HSearch' hLn
          clear hL
          obtain ⟨T, hT⟩ : ∃ T, SA ++ SB = T := ⟨_, rfl⟩
          have HTT := Lib.hid hT
          rw [hT] at HSC'
          clear hT
          have HE : Hid (RRowF (n := n) (w3.alloc (.cells #[] 24)) (fun _ => False) w3.heap.size (.slice (some ⟨w3.heap.size, 0, none⟩) 0 0) [] []) := Lib.hid (RRowF.empty _ _ (Nat.le_refl _))
          have HB4 : Hid (Below w.heap.size w (w3.alloc (.cells #[] 24))) := Lib.hid (HB3.out.alloc HB3.out.size _)
          have HW3 : Hid (w.heap.size ≤ w3.heap.size) := Lib.hid HB3.out.size
          have HI0 := Lib.hid (HIA.out _ HB4.out).in_
          have HF0 : Hid (∀ g, g < w.heap.size → g < (w3.alloc (.cells #[] 24)).heap.size ∧ (Value.slice (some ⟨w3.heap.size, 0, none⟩) 0 0).ownBlock ≠ some g) := Lib.hid (fun g hg => ⟨Nat.lt_of_lt_of_le hg HB4.out.size, by simp [Value.ownBlock]; have := HW3.out; omega⟩)
          have HD0 : Hid (([] : List (Tm (n + 1))).length + a.length ≤ 1000000000) := Lib.hid (by simp; omega)
          have HD1 : Hid (a.length + b.length ≤ 1000000000) := Lib.hid (by omega)
          have HC0 : Hid (w3.heap.size ≤ (w3.alloc (.cells #[] 24)).heap.size) := Lib.hid (by simp)
          have HI1 : Hid (∀ W, Below w.heap.size w W → ItemsIn W (fun g => g < w.heap.size) (n + 1) (.slice pb b.length cb) b) := Lib.hid (fun W h => (HIB.out W h).in_)
          have HF1 : Hid (∀ (W : World) (F : Nat → Prop) v rs (O : List (Tm (n + 1))), Below w.heap.size w W → RRowF W F w3.heap.size v rs O → ∀ g, g < w.heap.size → g < W.heap.size ∧ v.ownBlock ≠ some g) := Lib.hid (fun W F v rs O hb hr g hg => ⟨Nat.lt_of_lt_of_le hg hb.size, fun e => by have := hr.own_ge g e; have := HW3.out; omega⟩)
          have HT1 : Hid (∀ (W W' : World) (F : Nat → Prop) v rs (O : List (Tm (n + 1))), Below w.heap.size w W → RRowF W F w3.heap.size v rs O → TouchB (fun k => v.ownBlock = some k) W W' → Below w.heap.size w W') := Lib.hid (fun W W' F v rs O hb hr ht => below_touch hb ht (fun g hg => by have := hr.own_ge g hg; have := HW3.out; omega))
          go_wp2_with (first
            | (at_builtin; refine wpList_append_items rfl (.tmp 30) (.tmp 31) rfl rfl HE.out pa a.length ca a rfl rfl HI0.out HF0.out HD0.out HC0.out ?_; intro p5 c5 w5 rs5 hr5 ht5; rw [List.nil_append] at hr5 ⊢; have HR5 := Lib.hid hr5; have HB5 := Lib.hid (HT1.out _ _ _ _ _ _ HB4.out HE.out ht5); have HC5 := Lib.hid (Nat.le_trans HC0.out ht5.size); clear hr5 ht5)
            | (at_builtin; refine wpList_append_items rfl (.tmp 32) (.tmp 33) rfl rfl HR5.out pb b.length cb b rfl rfl (HI1.out _ HB5.out) (HF1.out _ _ _ _ _ HB5.out HR5.out) HD1.out HC5.out ?_; intro p6 c6 w6 rs6 hr6 ht6; rw [HLL.out] at hr6 ⊢; have HR6 := Lib.hid hr6; have HB6 := Lib.hid (HT1.out _ _ _ _ _ _ HB5.out HR5.out ht6); clear hr6 ht6))
          clear HR5 HB5 HC5 HE HB4 HB3 HI0 HF0 HD0 HC0 HI1 HF1 HT1 HIA HIB
          have HI6 := Lib.hid HR6.out.items
          have HSW := Lib.hid (HSL'.out w6 _ HI6.out)
          clear HR6 HSL'
          go_wp2_with fail
          refine HSW.out.mono ?_
          rintro e w7 ⟨F7, g7, rfl, hN7, _⟩
          have HN7 := Lib.hid hN7
          have HB7 := Lib.hid (HB6.out.trans (hN7.below.mono HB6.out.size))
          have HL7 := Lib.hid (HI6.out.below hN7.below (Nat.le_refl _))
          have HS7 := Lib.hid (hN7.items.toAt (fun x hx => (hN7.inr x hx).2))
          have HAW := Lib.hid (HSA'.out w7 HB7.out)
          have H67 := Lib.hid hN7.below
          have HZ67 : Hid (w6.heap.size ≤ w7.heap.size) := Lib.hid hN7.below.size
          have HZ07 : Hid (w.heap.size ≤ w7.heap.size) := Lib.hid HB7.out.size
          clear hN7 HSW HSA' HN7 HB6
          go_wp2_with fail
          refine HAW.out.mono ?_
          rintro e w8 ⟨rfl, F8, rs8, hr8, hF8, hb8⟩
          have HR8 := Lib.hid hr8
          have HB8 := Lib.hid (HB7.out.trans (hb8.mono HB7.out.size))
          have H68 := Lib.hid (H67.out.trans (hb8.mono H67.out.size))
          have HS8 := Lib.hid (HS7.out.below hb8 (Nat.le_refl _))
          have H78 := Lib.hid hb8.size
          have HBW := Lib.hid (HSB'.out w8 HB8.out)
          have HSz8 : Hid (w7.heap.size < w8.heap.size) := Lib.hid (own_block_lt hr8.own w7.heap.size (by simp [Value.ownBlock]))
          clear hr8 hF8 hb8 HAW HSB' HB7 H67 HS7
          go_wp2_with fail
          refine HBW.out.mono ?_
          rintro e w9 ⟨F9, g9, rfl, hN9, _⟩
          have HR9 := Lib.hid (HR8.out.below hN9.below)
          have HB9 := Lib.hid (HB8.out.trans (hN9.below.mono HB8.out.size))
          have H69 := Lib.hid (H68.out.trans (hN9.below.mono H68.out.size))
          have HS9 := Lib.hid (HS8.out.below hN9.below H78.out)
          have H79 : Hid (w7.heap.size ≤ w9.heap.size) := Lib.hid (Nat.le_trans H78.out hN9.below.size)
          have HI9 := Lib.hid hN9.items
          have HF9 : Hid (∀ g, F9 g → g < w9.heap.size ∧ (Value.slice (some ⟨w7.heap.size, 0, none⟩) a.length a.length).ownBlock ≠ some g) := Lib.hid (fun g hg => ⟨(hN9.inr g hg).2, by simp [Value.ownBlock]; have := (hN9.inr g hg).1; have := HSz8.out; omega⟩)
          have HD9 : Hid (SA.length + SB.length ≤ 1000000000) := Lib.hid (by rw [HLA.out, HLB.out]; omega)
          have HC9 : Hid (w7.heap.size ≤ w9.heap.size) := Lib.hid (by have := hN9.below.size; have := HSz8.out; omega)
          have HT9 : Hid (∀ W', TouchB (fun k => (Value.slice (some ⟨w7.heap.size, 0, none⟩) a.length a.length).ownBlock = some k) w9 W' → Below w7.heap.size w9 W') := Lib.hid (fun W' ht => ht.below (fun k hk => by simp [Value.ownBlock] at hk; omega) HC9.out)
          clear hN9 HBW HB8 H68 HS8 HR8 HSz8
          go_wp2_with (at_builtin; refine wpList_append_items rfl (.tmp 39) (.tmp 41) rfl rfl HR9.out (some ⟨g9, 0, none⟩) SB.length SB.length SB rfl rfl HI9.out HF9.out HD9.out HC9.out ?_; intro pA cA wA rsA hrA htA; rw [HTT.out] at hrA ⊢; have HRA := Lib.hid hrA; have hbA := HT9.out wA htA; clear hrA htA)
          have HBA : Hid (Below w.heap.size w wA) := Lib.hid (HB9.out.trans (hbA.mono HZ07.out))
          have H6A : Hid (Below w6.heap.size w6 wA) := Lib.hid (H69.out.trans (hbA.mono HZ67.out))
          have HSAt := Lib.hid (HS9.out.below hbA (Nat.le_refl _))
          have H7A : Hid (w7.heap.size ≤ wA.heap.size) := Lib.hid (Nat.le_trans H79.out hbA.size)
          have HSCW := Lib.hid (HSC'.out wA _ HRA.out.items)
          clear hbA HB9 H69 HS9 HRA HSC' HR9 HI9 HF9 HD9 HC9 HT9 H79 H78 HLA HLB HTT
          go_wp2_with fail
          refine HSCW.out.mono ?_
          rintro e w10 ⟨F10, g10, rfl, hN10, _⟩
          have HB10 := Lib.hid (HBA.out.trans (hN10.below.mono HBA.out.size))
          have H610 := Lib.hid (H6A.out.trans (hN10.below.mono H6A.out.size))
          have HS10 := Lib.hid (HSAt.out.below hN10.below H7A.out)
          have H710 : Hid (w7.heap.size ≤ w10.heap.size) := Lib.hid (Nat.le_trans H7A.out hN10.below.size)
          have HSaW := Lib.hid (HSame.out w10 _ _ (HS10.out.more H710.out) (hN10.items.toAt (fun x hx => (hN10.inr x hx).2)))
          clear hN10 HSCW HSame HBA H6A HSAt H7A
          go_wp2_with fail
          refine HSaW.out.mono ?_
          rintro e w11 ⟨rfl, hb11⟩
          have HB11 := Lib.hid (HB10.out.trans (hb11.mono HB10.out.size))
          have HL11 := Lib.hid (HI6.out.below (H610.out.trans (hb11.mono H610.out.size)) (Nat.le_refl _))
          have HZ6 : Hid (w6.heap.size ≤ w11.heap.size) := Lib.hid (Nat.le_trans H610.out.size hb11.size)
          have HS11 := Lib.hid (HS10.out.below hb11 H710.out)
          have HZ7 : Hid (w7.heap.size ≤ w11.heap.size) := Lib.hid (Nat.le_trans H710.out hb11.size)
          clear hb11 HSaW HB10 H610 HS10 H710 HI6 HL7 HZ67 HZ07 HW3
          have HL12 := Lib.hid (HL11.out.more HZ6.out)
          have HS12 := Lib.hid (HS11.out.more HZ7.out)
          clear HL11 HS11 HZ6 HZ7
          go_wp2_with fail
          go_loopw [7, 8, 9, 10, 11] (fun s _ _ _ _ wr => ∃ i : Nat, s = .int .i64 i ∧ i ≤ L.length ∧ Hid (Below w11.heap.size w11 wr)) (fun s _ _ _ _ _ => L.length - (intOf s).toNat)
          case atStart => exact ⟨0, by go_num, by omega, Lib.hid (Below.refl _ _)⟩
          case round =>
            obtain ⟨i, rfl, hiL, HB⟩ := hrel
            by_cases hlt : i < L.length
            · obtain ⟨gA, oA, rfl, hgA⟩ := HL12.out.addr (by omega)
              obtain ⟨t2, x2, p2, m2, c2, hA2, hf2, hC2, hI2⟩ := HL12.out.elt i hlt
              have HA2 := Lib.hid hA2
              have HF2 := Lib.hid hf2
              have HC2 := Lib.hid hC2
              have HI2 := Lib.hid hI2
              obtain ⟨k2, i2, g2, n2, fn2, a2, by2, s2⟩ := x2
              obtain ⟨cnt, hcnt⟩ : ∃ cnt : Nat → Nat, cnt = fun k => (L.take k).countP (fun x => decide (cmpV x t2 < 0)) := ⟨_, rfl⟩
              have HC0 : Hid (cnt 0 = 0) := Lib.hid (by rw [hcnt]; rfl)
              have HCs : Hid (∀ k x, L[k]? = some x → cnt (k + 1) = cnt k + if decide (cmpV x t2 < 0) = true then 1 else 0) := Lib.hid (fun k x h => by rw [hcnt]; exact count_take h)
              have HCb : Hid (∀ k, cnt k ≤ k) := Lib.hid (fun k => by rw [hcnt]; exact Nat.le_trans List.countP_le_length (by simp; omega))
              have HCn : Hid (L.countP (fun x => decide (cmpV x t2 < 0)) = cnt L.length) := Lib.hid (by rw [hcnt]; simp)
              clear hcnt hA2 hf2 hC2 hI2
              go_wp2_with fail
              obtain ⟨wo, rfl⟩ : ∃ wo : World, wo = wr := ⟨_, rfl⟩
              go_loopw [8, 9] (fun s t wr => ∃ k : Nat, s = .int .i64 (cnt k) ∧ t = .int .i64 k ∧ k ≤ L.length ∧ Hid (Below w11.heap.size w11 wr)) (fun _ t _ => L.length - (intOf t).toNat)
              case atStart => exact ⟨0, by rw [HC0.out]; go_num, by go_num, by omega, HB⟩
              case round =>
                obtain ⟨k, rfl, rfl, hkL, HBk⟩ := hrel
                have hck := HCb.out k
                by_cases hk : k < L.length
                · obtain ⟨t1, x1, p1, m1, c1, hA1, hf1, hC1, hI1⟩ := HL12.out.elt k hk
                  have HA1 := Lib.hid hA1
                  have hC1 := hC1.same (HBk.out.block gA hgA)
                  have hC2 := HC2.out.same (HBk.out.block gA hgA)
                  obtain ⟨k1, i1, g1, n1, fn1, a1, by1, s1⟩ := x1
                  have hb' : Below w11.heap.size w11 wr.drew := HBk.out.drewN 1
                  have hLs := HLess'.out k i t1 t2 hA1 HA2.out wr.drew _ _ ((hI1.below hb' (Nat.le_refl _)).more hb'.size) ((HI2.out.below hb' (Nat.le_refl _)).more hb'.size)
                  have hcs := HCs.out k t1 hA1
                  rw [hf1, HF2.out] at hLs
                  generalize decide (cmpV t1 t2 < 0) = B at *
                  have HLs := Lib.hid hLs
                  have HCS := Lib.hid hcs
                  have HB' := Lib.hid hb'
                  unfold aggV at HLs
                  dsimp only at HLs
                  clear hA1 hf1 hI1 hLs hcs hb'
                  obtain ⟨x0, x1, x2, x3, x4, x5, x6, x7, x8⟩ := hC1
                  obtain ⟨y0, y1, y2, y3, y4, y5, y6, y7, y8⟩ := hC2
                  dsimp only at x0 x1 x2 x3 x4 x5 x6 x7 x8 y0 y1 y2 y3 y4 y5 y6 y7 y8
                  have r1 : (k : Int) < (L.length : Int) := by omega
                  have r2 : (i : Int) < (L.length : Int) := by omega
                  have r3 : (0 : Int) ≤ (k : Int) := by omega
                  have r4 : (0 : Int) ≤ (i : Int) := by omega
                  go_wp2_with fail
                  go_still_tail 8, (by kernel_rfl)
                  change wpList _ _ _ _ _ wr.drew
                  clear x0 x1 x2 x3 x4 x5 x6 x7 x8 y0 y1 y2 y3 y4 y5 y6 y7 y8
                  generalize wr.drew = w2 at *
                  go_wp2_with fail
                  refine HLs.out.mono ?_
                  rintro e w3 ⟨rfl, hb3⟩
                  have HB3 : Hid (Below w11.heap.size w11 w3) := Lib.hid (HB'.out.trans (hb3.mono HB'.out.size))
                  clear hb3 HLs
                  cases B
                  · have HCS2 : Hid (cnt (k + 1) = cnt k) := Lib.hid (by rw [HCS.out]; simp)
                    go_wp2_with fail
                    go_roundw
                    case rel => exact ⟨k + 1, by rw [HCS2.out], by go_num, by omega, HB3⟩
                    case measure => simp [intOf]; omega
                  · have HCS2 : Hid (cnt (k + 1) = cnt k + 1) := Lib.hid (by rw [HCS.out]; simp)
                    go_wp2_with fail
                    go_roundw
                    case rel => exact ⟨k + 1, by rw [HCS2.out]; go_num, by go_num, by omega, HB3⟩
                    case measure => simp [intOf]; omega
                · obtain rfl : k = L.length := by omega
                  have hSr := HSearch'.out i t2 HA2.out wr _ _ ((HI2.out.below HBk.out (Nat.le_refl _)).more HBk.out.size) ((HS12.out.below HBk.out (Nat.le_refl _)).more HBk.out.size)
                  rw [HCn.out, HF2.out] at hSr
                  have HSr := Lib.hid hSr
                  unfold aggV at HSr
                  dsimp only at HSr
                  have hC2 := HC2.out.same (HBk.out.block gA hgA)
                  obtain ⟨y0, y1, y2, y3, y4, y5, y6, y7, y8⟩ := hC2
                  dsimp only at y0 y1 y2 y3 y4 y5 y6 y7 y8
                  have f1 : ((cnt L.length : Int) != (cnt L.length : Int)) = false := by simp
                  have r2 : (i : Int) < (L.length : Int) := by omega
                  have r4 : (0 : Int) ≤ (i : Int) := by omega
                  clear hSr HCs HCb HC0
                  go_wp2_with fail
                  refine HSr.out.mono ?_
                  rintro e w3 ⟨rfl, hb3⟩
                  have HB3 : Hid (Below w11.heap.size w11 w3) := Lib.hid (HBk.out.trans (hb3.mono HBk.out.size))
                  clear hb3 HSr y0 y1 y2 y3 y4 y5 y6 y7 y8
                  go_wp2_with fail
                  go_roundw
                  case rel => exact ⟨i + 1, by go_num, by omega, HB3⟩
                  case measure => simp [intOf]; omega
            · have HBf := Lib.hid (HB11.out.trans (HB.out.mono HB11.out.size))
              go_wp2_with fail
              go_ret
              exact ⟨rfl, HBf.out⟩
        · go_wp2_with fail
          go_ret
          exact ⟨rfl, HB3.out⟩
      · go_wp2_with fail
        go_ret
        exact ⟨rfl, HB2.out⟩
    · have q2 : (60 : Int) < (b.length : Int) := by omega
      have q3 : decide ((60 : Int) < (b.length : Int)) = true := decide_eq_true q2
      go_wp2_with fail
      go_ret
      exact ⟨rfl, HB1.out⟩
  · have q0 : (60 : Int) < (a.length : Int) := by omega
    have q1 : decide ((60 : Int) < (a.length : Int)) = true := decide_eq_true q0
    go_wp2_with fail
    go_ret
    exact ⟨rfl, HB1.out⟩
theorem lawMergesR {n1 n2 : Nat} (w : World) (va vb : Value) (a : List (Tm n1)) (b : List (Tm n2)) (I1 : ItemsAt w w.heap.size n1 va a) (I2 : ItemsAt w w.heap.size n2 vb b) :
    Calls Try.prog 9 #[va, vb] w fun e w' => e = .returned (.bool true) ∧ Below w.heap.size w w' := by
  obtain ⟨a', J1⟩ := I1.to (m := n1 + n2 + 1) (by omega)
  obtain ⟨b', J2⟩ := I2.to (m := n1 + n2 + 1) (by omega)
  exact lawMerges w va vb a' b' J1 J2
end Go.Proofs.Ythgfdpamnepnfaa.tm
