
/- The reference's object of a pointer. Conditions: as said. -/
import Derived.Test.YtpnlnbolhkcnjaaGreatCoK
namespace Go.Proofs.YtpnlnbolhkcnjaaGreat.cl
open Go.RowKit mem words
set_option linter.unusedVariables false
set_option linter.unusedSimpArgs false
set_option maxHeartbeats 2000000
set_option maxRecDepth 100000

theorem below_drewN {B : Nat} {a w : World} (h : Below B a w) (n : Nat) : Below B a (w.drewN n) := ⟨h.os, h.tape, h.output, h.size, h.block⟩
theorem part_cut {w : World} {B g o c : Nat} {l : List Int} {a : List (List Int)} (h : WAt w B (.slice (some ⟨g, o, none⟩) l.length c) l) (ho : Objs l a) {i : Nat} {x : List Int} (hx : At a i x) (k n : Nat) (hk : k + n = x.length) : WAt w B (.slice (if c = i + k then some ⟨g, o, none⟩ else some ⟨g, o + (i + k), none⟩) n (c - (i + k))) (x.drop k) := by
  have hb := hx.bound
  rw [ho.1] at hb
  have := h.cut (i + k) n (by omega)
  rwa [at_part ho hx k n hk] at this
/-- the same, the words below a block -/
def ObB (K : Bk) (B : Nat) (w : World) (v : Int) (e : Ending) : Prop :=
  (∃ x p n c, Pt K v x ∧ e = .returned (.tuple #[.int .i64 (knd x), .slice p n c, .bool (pOld v), .int .i64 (pIx v), .bool true]) ∧ WAt w B (.slice p n c) (wds x)) ∨ ((¬ ∃ x, Pt K v x) ∧ e = .returned (.tuple #[.int .i64 0, .slice none 0 0, .bool false, .int .i64 0, .bool false]))
theorem ObB.r {K : Bk} {B : Nat} {w : World} {v : Int} {e : Ending} (h : ObB K B w v e) (hB : B ≤ w.heap.size) : ObR K w v e := by
  rcases h with ⟨x, p, n, c, h1, h2, h3⟩ | h
  · exact .inl ⟨x, p, n, c, h1, h2, h3.more hB⟩
  · exact .inr h
theorem object62_false (w : World) (B : Nat) (p1 p2 p3 p4 : Option Addr) (c1 c2 c3 c4 : Nat) (m : Mm) (K : Bk) (hB : B ≤ w.heap.size) (h : BookAt w B (.slice p1 m.y.length c1) (.slice p2 m.o.length c2) (.slice p3 (marks K.y).length c3) (.slice p4 (marks K.o).length c4) m K) (v : Int) (v0 : 0 ≤ v) (v1 : v ≤ 18446744073709551615) (hp : pOk v = true) (hold : pOld v = false) :
    Calls Tryz.prog 136 #[(bookV (.slice p1 m.y.length c1) (.slice p2 m.o.length c2) m.at_ (.slice p3 (marks K.y).length c3) (.slice p4 (marks K.o).length c4)), .int .u64 v] w fun e w' => Below w.heap.size w w' ∧ ObB K B w' v e := by
  unfold bookV
  have HP := Lib.hid (fun W => RPointer v v0 v1 W)
  have HT := Lib.hid (fun W => RTag v v0 v1 W)
  have HB0 : Hid (Below w.heap.size w (w.alloc (.cells #[.slice p1 m.y.length c1, .slice p2 m.o.length c2, .int .i64 m.at_, .slice p3 (marks K.y).length c3, .slice p4 (marks K.o).length c4] 101))) := Lib.hid ((Below.refl _ _).alloc (Nat.le_refl _) _)
  have HAr := Lib.hid (area57 (w.alloc (.cells #[.slice p1 m.y.length c1, .slice p2 m.o.length c2, .int .i64 m.at_, .slice p3 (marks K.y).length c3, .slice p4 (marks K.o).length c4] 101)) p1 p2 m.y.length c1 m.o.length c2 m.at_ false)
  simp only [Bool.false_eq_true, ↓reduceIte] at HAr
  have hiff := (pOk_iff v).1 hp
  have hix : pIx v = ((pIx v).toNat : Int) := by rw [pIx_eq hp]; omega
  have HPt : Hid (∀ x, Pt K v x ↔ At K.y (pIx v).toNat x ∧ (x.headD 0 % 4 = 0 ↔ v % 4 = 2)) := Lib.hid (fun x => by
    have e : K.s (pOld v) = K.y := by rw [hold]; rfl
    constructor
    · intro h
      exact ⟨e ▸ h.2.1, h.2.2⟩
    · intro h
      exact ⟨hp, e.symm ▸ h.1, h.2⟩)
  have HXx := Lib.hid hix
  have HOl := Lib.hid hold
  rw [hp, hold, hix] at HP
  generalize (pIx v).toNat = i at *
  have hml : (marks K.y).length = m.y.length := by rw [marks_len h.oy.pos, h.oy.1]
  have HW := Lib.hid h.y
  obtain ⟨_, _, e1, hlw, hcw, hq1⟩ := h.y
  simp only [Value.slice.injEq, true_and] at e1
  obtain ⟨rfl, rfl⟩ := e1
  obtain ⟨_, _, e2, hlb, hcb, hq2⟩ := h.fy
  simp only [Value.slice.injEq, true_and] at e2
  obtain ⟨rfl, rfl⟩ := e2
  have hlen := h.ly
  by_cases hi : i < m.y.length
  · obtain ⟨g2, o2, rfl, hg2, hcl2⟩ := hq2 (by intro e; rw [e] at hml; simp at hml; omega)
    have hmk := hcl2 i (by omega)
    have hbeg := marks_iff h.oy.pos (i := i)
    rw [List.getElem?_eq_getElem (by omega)] at hbeg
    generalize (marks K.y)[i]'(by omega) = f at hmk hbeg
    obtain ⟨g1, o1, rfl, hg1, hcl1⟩ := hq1 (by intro e; rw [e] at hi; simp at hi)
    have hwd := hcl1 i hi
    have hwr := h.wy _ (List.getElem_mem hi)
    have hwe : m.y[i]? = some m.y[i] := List.getElem?_eq_getElem hi
    generalize m.y[i] = u at hwd hwr hwe
    have HObj := Lib.hid h.oy
    have ri : (0 : Int) ≤ (i : Int) := by omega
    have q1 : decide ((marks K.y).length ≤ i) = false := decide_eq_false (by omega)
    have q1' : decide (((marks K.y).length : Int) ≤ (i : Int)) = false := decide_eq_false (by omega)
    have q1'' : decide (m.y.length ≤ i) = false := decide_eq_false (by omega)
    have q2 : (i : Int) < ((marks K.y).length : Int) := by omega
    have q2' : (i : Int) < (m.y.length : Int) := by omega
    have HMl := Lib.hid hml
    have HMK := Lib.hid (fun W2 (hb : Below w.heap.size w W2) => (hb.cell (p := ⟨g2, o2 + i, none⟩) (show g2 < w.heap.size by omega)).trans hmk)
    have HWD := Lib.hid (fun W2 (hb : Below w.heap.size w W2) => (hb.cell (p := ⟨g1, o1 + i, none⟩) (show g1 < w.heap.size by omega)).trans hwd)
    cases f
    · have HNo : Hid (¬ ∃ x, Pt K v x) := Lib.hid (by
        rintro ⟨x, hx⟩
        have := hbeg.2 ⟨x, ((HPt.out x).1 hx).1⟩
        simp at this)
      clear hbeg h hq1 hq2 hcl2 hcl1 hml hmk hwd
      go_enter Tryz.func136, Tryz.ntmps136
      go_wp2_with (first | (go_at_call 27; refine (HP.out _).mono ?_; rintro e w' ⟨rfl, rfl⟩) | (go_at_call 20; refine (HT.out _).mono ?_; rintro e w' ⟨rfl, rfl⟩))
      refine HAr.out.mono ?_
      rintro e W2 ⟨rfl, hb2⟩
      have HB2 : Hid (Below w.heap.size w W2) := Lib.hid (HB0.out.trans (hb2.mono HB0.out.size))
      clear hb2
      have hmk := HMK.out W2 HB2.out
      go_wp2_with fail
      exact bodyPost_ret (v := .tuple #[.int .i64 0, .slice none 0 0, .bool false, .int .i64 0, .bool false]) (by simp [results, Tryz.results136, go_sem, *]) rfl ⟨HB2.out, .inr ⟨HNo.out, rfl⟩⟩
    · obtain ⟨x, hx⟩ := hbeg.1 rfl
      have hobj := h.oy.2 x hx.mem
      have hhead : x.headD 0 = u := by
        have h0 := hx.get 0 hobj.pos
        rw [h.oy.1, Nat.add_zero, hwe, headD_get hobj.pos] at h0
        exact (Option.some.inj h0).symm
      have HX := Lib.hid hx
      have HU := Lib.hid (fun y => At.uniq h.oy.pos (i := i) (x := x) (y := y))
      have HH := Lib.hid (fun W => RHeaderOf u hwr.1 hwr.2 W)
      have hN := hoN_rng u hwr.1
      have hxb := hx.bound
      rw [h.oy.1] at hxb
      have hok : hok u = true ∧ x.length = osz u := by
        obtain ⟨y, r, rfl, a, b⟩ := hobj
        simp only [List.headD_cons] at hhead
        subst hhead
        exact ⟨a, b⟩
      have HCut := Lib.hid (fun W2 (hb : Below w.heap.size w W2) k n (hk : k + n = x.length) => part_cut ((HW.out).below hb hB) HObj.out hx k n hk)
      unfold maxLen at hcw
      clear hbeg h hx hq1 hq2 hcl2 hcl1 hml hmk hwd hobj
      rcases hok_cases u with ⟨h4, hk, hs⟩ | ⟨h4, ho, hk, hs⟩ | ⟨h4, ho, hk⟩
      · -- a cell
        have ho : hoOk u = false := by unfold hoOk; simp [h4]
        have HKd : Hid (knd x = 0 ∧ wds x = x) := Lib.hid (by unfold knd wds; rw [hhead]; simp [h4])
        rw [hs] at hok
        have hxl := hok.2
        have HXL := Lib.hid hok.2
        by_cases hm : v % 4 = 2
        · have HNo : Hid (¬ ∃ x, Pt K v x) := Lib.hid (by
            rintro ⟨x', hx'⟩
            obtain ⟨a1, a2⟩ := (HPt.out x').1 hx'
            obtain rfl := HU.out _ HX.out a1
            exact h4 (by rw [← hhead]; exact a2.2 hm))
          have q3 : (v % 4 == 2) = true := by simpa using hm
          rw [ho] at HH
          clear HPt HU hiff hm ho h4 hk hs hok hxl hhead HKd
          go_enter Tryz.func136, Tryz.ntmps136
          go_wp2_with (first | (go_at_call 27; refine (HP.out _).mono ?_; rintro e w' ⟨rfl, rfl⟩) | (go_at_call 20; refine (HT.out _).mono ?_; rintro e w' ⟨rfl, rfl⟩))
          refine HAr.out.mono ?_
          rintro e W2 ⟨rfl, hb2⟩
          have HB2 : Hid (Below w.heap.size w W2) := Lib.hid (HB0.out.trans (hb2.mono HB0.out.size))
          clear hb2
          have hmk := HMK.out W2 HB2.out
          have hwd := HWD.out W2 HB2.out
          go_wp2_with (go_at_call 182; refine (HH.out _).mono ?_; rintro e w' ⟨rfl, rfl⟩)
          refine (HT.out _).mono ?_
          rintro e w' ⟨rfl, rfl⟩
          go_wp2_with fail
          exact bodyPost_ret (v := .tuple #[.int .i64 0, .slice none 0 0, .bool false, .int .i64 0, .bool false]) (by simp [results, Tryz.results136, go_sem, *]) rfl ⟨HB2.out, .inr ⟨HNo.out, rfl⟩⟩
        · have HYes : Hid (Pt K v x) := Lib.hid ((HPt.out x).2 ⟨HX.out, ⟨fun h => absurd (hhead ▸ h) h4, fun h => absurd h hm⟩⟩)
          have q3 : (v % 4 == 2) = false := by simpa using hm
          rw [ho] at HH
          have e1 : IntKind.i64.wrap ((i : Int) + 2) = (i : Int) + 2 := IntWalk.i64_in _ (by omega)
          have e5 : (i : Int) ≤ (i : Int) + 2 := by omega
          have e6 : (i : Int) + 2 ≤ (c1 : Int) := by omega
          have e7 : ((i : Int) + 2).toNat = i + 2 := by omega
          have hci : ¬ c1 = i := by omega
          clear HPt HU hiff hm ho h4 hk hs hok hxl hhead
          go_enter Tryz.func136, Tryz.ntmps136
          go_wp2_with (first | (go_at_call 27; refine (HP.out _).mono ?_; rintro e w' ⟨rfl, rfl⟩) | (go_at_call 20; refine (HT.out _).mono ?_; rintro e w' ⟨rfl, rfl⟩))
          refine HAr.out.mono ?_
          rintro e W2 ⟨rfl, hb2⟩
          have HB2 : Hid (Below w.heap.size w W2) := Lib.hid (HB0.out.trans (hb2.mono HB0.out.size))
          clear hb2
          have hmk := HMK.out W2 HB2.out
          have hwd := HWD.out W2 HB2.out
          go_wp2_with (go_at_call 182; refine (HH.out _).mono ?_; rintro e w' ⟨rfl, rfl⟩)
          refine (HT.out _).mono ?_
          rintro e w' ⟨rfl, rfl⟩
          go_wp2_with fail
          go_quiet (fail)
          go_wp2_with fail
          have hcut := HCut.out W2 HB2.out 0 2 (by rw [HXL.out])
          rw [Nat.add_zero, if_neg hci] at hcut
          refine bodyPost_ret (v := .tuple #[.int .i64 0, .slice (some ⟨g1, o1 + i, none⟩) 2 (c1 - i), .bool false, .int .i64 i, .bool true]) (by simp [results, Tryz.results136, go_sem, *]) rfl ⟨below_drewN HB2.out _, .inl ⟨x, _, _, _, HYes.out, by rw [HKd.out.1, HOl.out, HXx.out], ?_⟩⟩
          rw [HKd.out.2]
          exact hcut
      · -- an object with a header
        have HKd : Hid (knd x = hoK u ∧ wds x = x.tail) := Lib.hid (by unfold knd wds; rw [hhead]; simp [h4])
        rw [hs] at hok
        have hxl := hok.2
        have HXL := Lib.hid hok.2
        by_cases hm : v % 4 = 2
        · have HYes : Hid (Pt K v x) := Lib.hid ((HPt.out x).2 ⟨HX.out, ⟨fun _ => hm, fun _ => hhead.symm ▸ h4⟩⟩)
          have q3 : (v % 4 == 2) = true := by simpa using hm
          rw [ho] at HH
          have e1 : IntKind.i64.wrap ((i : Int) + 1) = (i : Int) + 1 := IntWalk.i64_in _ (by omega)
          have e2 : IntKind.i64.wrap ((i : Int) + 1 + hoN u) = (i : Int) + 1 + hoN u := IntWalk.i64_in _ (by omega)
          have e3 : (0 : Int) ≤ (i : Int) + 1 := by omega
          have e4 : ((i : Int) + 1).toNat = i + 1 := by omega
          have e5 : (i : Int) + 1 ≤ (i : Int) + 1 + hoN u := by omega
          have e6 : (i : Int) + 1 + hoN u ≤ (c1 : Int) := by omega
          have e7 : ((i : Int) + 1 + hoN u).toNat = i + 1 + (x.length - 1) := by omega
          clear HPt HU hiff hm ho h4 hk hs hok hxl hhead
          go_enter Tryz.func136, Tryz.ntmps136
          go_wp2_with (first | (go_at_call 27; refine (HP.out _).mono ?_; rintro e w' ⟨rfl, rfl⟩) | (go_at_call 20; refine (HT.out _).mono ?_; rintro e w' ⟨rfl, rfl⟩))
          refine HAr.out.mono ?_
          rintro e W2 ⟨rfl, hb2⟩
          have HB2 : Hid (Below w.heap.size w W2) := Lib.hid (HB0.out.trans (hb2.mono HB0.out.size))
          clear hb2
          have hmk := HMK.out W2 HB2.out
          have hwd := HWD.out W2 HB2.out
          go_wp2_with (go_at_call 182; refine (HH.out _).mono ?_; rintro e w' ⟨rfl, rfl⟩)
          refine (HT.out _).mono ?_
          rintro e w' ⟨rfl, rfl⟩
          go_wp2_with fail
          go_quiet (fail)
          go_wp2_with fail
          all_goals
            have hcut := HCut.out W2 HB2.out 1 (x.length - 1) (by have := HXL.out; omega)
            rw [List.drop_one] at hcut
            have hb9 := below_drewN HB2.out nq
            first
              | (have hne : ¬ c1 = i + 1 := by assumption
                 rw [if_neg hne] at hcut
                 refine bodyPost_ret (v := .tuple #[.int .i64 (hoK u), .slice (some ⟨g1, o1 + (i + 1), none⟩) (x.length - 1) (c1 - (i + 1)), .bool false, .int .i64 i, .bool true]) (by simp [results, Tryz.results136, go_sem, *]) rfl ⟨hb9, .inl ⟨x, _, _, _, HYes.out, by rw [HKd.out.1, HOl.out, HXx.out], ?_⟩⟩
                 rw [HKd.out.2]
                 exact hcut)
              | (have hne : c1 = i + 1 := by assumption
                 subst hne
                 rw [if_pos rfl, Nat.sub_self] at hcut
                 refine bodyPost_ret (v := .tuple #[.int .i64 (hoK u), .slice (some ⟨g1, o1, none⟩) (x.length - 1) 0, .bool false, .int .i64 i, .bool true]) (by simp [results, Tryz.results136, go_sem, *]) rfl ⟨hb9, .inl ⟨x, _, _, _, HYes.out, by rw [HKd.out.1, HOl.out, HXx.out], ?_⟩⟩
                 rw [HKd.out.2]
                 exact hcut)
        · have HNo : Hid (¬ ∃ x, Pt K v x) := Lib.hid (by
            rintro ⟨x', hx'⟩
            obtain ⟨a1, a2⟩ := (HPt.out x').1 hx'
            obtain rfl := HU.out _ HX.out a1
            exact hm (a2.1 (hhead.symm ▸ h4)))
          have q3 : (v % 4 == 2) = false := by simpa using hm
          rw [ho] at HH
          clear HPt HU hiff hm ho h4 hk hs hok hxl hhead HKd
          go_enter Tryz.func136, Tryz.ntmps136
          go_wp2_with (first | (go_at_call 27; refine (HP.out _).mono ?_; rintro e w' ⟨rfl, rfl⟩) | (go_at_call 20; refine (HT.out _).mono ?_; rintro e w' ⟨rfl, rfl⟩))
          refine HAr.out.mono ?_
          rintro e W2 ⟨rfl, hb2⟩
          have HB2 : Hid (Below w.heap.size w W2) := Lib.hid (HB0.out.trans (hb2.mono HB0.out.size))
          clear hb2
          have hmk := HMK.out W2 HB2.out
          have hwd := HWD.out W2 HB2.out
          go_wp2_with (go_at_call 182; refine (HH.out _).mono ?_; rintro e w' ⟨rfl, rfl⟩)
          refine (HT.out _).mono ?_
          rintro e w' ⟨rfl, rfl⟩
          go_wp2_with fail
          exact bodyPost_ret (v := .tuple #[.int .i64 0, .slice none 0 0, .bool false, .int .i64 0, .bool false]) (by simp [results, Tryz.results136, go_sem, *]) rfl ⟨HB2.out, .inr ⟨HNo.out, rfl⟩⟩
      · rw [hk] at hok; exact Bool.noConfusion hok.1
  · have q1 : decide ((marks K.y).length ≤ i) = true := decide_eq_true (by omega)
    have q1' : decide (((marks K.y).length : Int) ≤ (i : Int)) = true := decide_eq_true (by omega)
    have q1'' : decide (m.y.length ≤ i) = true := decide_eq_true (by omega)
    have HNo : Hid (¬ ∃ x, Pt K v x) := Lib.hid (by
      rintro ⟨x, hx⟩
      have h1 := ((HPt.out x).1 hx).1
      have h2 := h1.bound
      rw [h.oy.1] at h2
      have h3 := h.oy.pos x h1.mem
      omega)
    have HMl := Lib.hid hml
    clear h hq1 hq2 hml
    go_enter Tryz.func136, Tryz.ntmps136
    go_wp2_with (first | (go_at_call 27; refine (HP.out _).mono ?_; rintro e w' ⟨rfl, rfl⟩) | (go_at_call 20; refine (HT.out _).mono ?_; rintro e w' ⟨rfl, rfl⟩))
    refine HAr.out.mono ?_
    rintro e W2 ⟨rfl, hb2⟩
    have HB2 : Hid (Below w.heap.size w W2) := Lib.hid (HB0.out.trans (hb2.mono HB0.out.size))
    clear hb2
    go_wp2_with fail
    exact bodyPost_ret (v := .tuple #[.int .i64 0, .slice none 0 0, .bool false, .int .i64 0, .bool false]) (by simp [results, Tryz.results136, go_sem, *]) rfl ⟨HB2.out, .inr ⟨HNo.out, rfl⟩⟩
theorem object62_true (w : World) (B : Nat) (p1 p2 p3 p4 : Option Addr) (c1 c2 c3 c4 : Nat) (m : Mm) (K : Bk) (hB : B ≤ w.heap.size) (h : BookAt w B (.slice p1 m.y.length c1) (.slice p2 m.o.length c2) (.slice p3 (marks K.y).length c3) (.slice p4 (marks K.o).length c4) m K) (v : Int) (v0 : 0 ≤ v) (v1 : v ≤ 18446744073709551615) (hp : pOk v = true) (hold : pOld v = true) :
    Calls Tryz.prog 136 #[(bookV (.slice p1 m.y.length c1) (.slice p2 m.o.length c2) m.at_ (.slice p3 (marks K.y).length c3) (.slice p4 (marks K.o).length c4)), .int .u64 v] w fun e w' => Below w.heap.size w w' ∧ ObB K B w' v e := by
  unfold bookV
  have HP := Lib.hid (fun W => RPointer v v0 v1 W)
  have HT := Lib.hid (fun W => RTag v v0 v1 W)
  have HB0 : Hid (Below w.heap.size w (w.alloc (.cells #[.slice p1 m.y.length c1, .slice p2 m.o.length c2, .int .i64 m.at_, .slice p3 (marks K.y).length c3, .slice p4 (marks K.o).length c4] 101))) := Lib.hid ((Below.refl _ _).alloc (Nat.le_refl _) _)
  have HAr := Lib.hid (area57 (w.alloc (.cells #[.slice p1 m.y.length c1, .slice p2 m.o.length c2, .int .i64 m.at_, .slice p3 (marks K.y).length c3, .slice p4 (marks K.o).length c4] 101)) p1 p2 m.y.length c1 m.o.length c2 m.at_ true)
  simp only [Bool.false_eq_true, ↓reduceIte] at HAr
  have hiff := (pOk_iff v).1 hp
  have hix : pIx v = ((pIx v).toNat : Int) := by rw [pIx_eq hp]; omega
  have HPt : Hid (∀ x, Pt K v x ↔ At K.o (pIx v).toNat x ∧ (x.headD 0 % 4 = 0 ↔ v % 4 = 2)) := Lib.hid (fun x => by
    have e : K.s (pOld v) = K.o := by rw [hold]; rfl
    constructor
    · intro h
      exact ⟨e ▸ h.2.1, h.2.2⟩
    · intro h
      exact ⟨hp, e.symm ▸ h.1, h.2⟩)
  have HXx := Lib.hid hix
  have HOl := Lib.hid hold
  rw [hp, hold, hix] at HP
  generalize (pIx v).toNat = i at *
  have hml : (marks K.o).length = m.o.length := by rw [marks_len h.oo.pos, h.oo.1]
  have HW := Lib.hid h.o
  obtain ⟨_, _, e1, hlw, hcw, hq1⟩ := h.o
  simp only [Value.slice.injEq, true_and] at e1
  obtain ⟨rfl, rfl⟩ := e1
  obtain ⟨_, _, e2, hlb, hcb, hq2⟩ := h.fo
  simp only [Value.slice.injEq, true_and] at e2
  obtain ⟨rfl, rfl⟩ := e2
  have hlen := h.lo
  by_cases hi : i < m.o.length
  · obtain ⟨g2, o2, rfl, hg2, hcl2⟩ := hq2 (by intro e; rw [e] at hml; simp at hml; omega)
    have hmk := hcl2 i (by omega)
    have hbeg := marks_iff h.oo.pos (i := i)
    rw [List.getElem?_eq_getElem (by omega)] at hbeg
    generalize (marks K.o)[i]'(by omega) = f at hmk hbeg
    obtain ⟨g1, o1, rfl, hg1, hcl1⟩ := hq1 (by intro e; rw [e] at hi; simp at hi)
    have hwd := hcl1 i hi
    have hwr := h.wo _ (List.getElem_mem hi)
    have hwe : m.o[i]? = some m.o[i] := List.getElem?_eq_getElem hi
    generalize m.o[i] = u at hwd hwr hwe
    have HObj := Lib.hid h.oo
    have ri : (0 : Int) ≤ (i : Int) := by omega
    have q1 : decide ((marks K.o).length ≤ i) = false := decide_eq_false (by omega)
    have q1' : decide (((marks K.o).length : Int) ≤ (i : Int)) = false := decide_eq_false (by omega)
    have q1'' : decide (m.o.length ≤ i) = false := decide_eq_false (by omega)
    have q2 : (i : Int) < ((marks K.o).length : Int) := by omega
    have q2' : (i : Int) < (m.o.length : Int) := by omega
    have HMl := Lib.hid hml
    have HMK := Lib.hid (fun W2 (hb : Below w.heap.size w W2) => (hb.cell (p := ⟨g2, o2 + i, none⟩) (show g2 < w.heap.size by omega)).trans hmk)
    have HWD := Lib.hid (fun W2 (hb : Below w.heap.size w W2) => (hb.cell (p := ⟨g1, o1 + i, none⟩) (show g1 < w.heap.size by omega)).trans hwd)
    cases f
    · have HNo : Hid (¬ ∃ x, Pt K v x) := Lib.hid (by
        rintro ⟨x, hx⟩
        have := hbeg.2 ⟨x, ((HPt.out x).1 hx).1⟩
        simp at this)
      clear hbeg h hq1 hq2 hcl2 hcl1 hml hmk hwd
      go_enter Tryz.func136, Tryz.ntmps136
      go_wp2_with (first | (go_at_call 27; refine (HP.out _).mono ?_; rintro e w' ⟨rfl, rfl⟩) | (go_at_call 20; refine (HT.out _).mono ?_; rintro e w' ⟨rfl, rfl⟩))
      refine HAr.out.mono ?_
      rintro e W2 ⟨rfl, hb2⟩
      have HB2 : Hid (Below w.heap.size w W2) := Lib.hid (HB0.out.trans (hb2.mono HB0.out.size))
      clear hb2
      have hmk := HMK.out W2 HB2.out
      go_wp2_with fail
      exact bodyPost_ret (v := .tuple #[.int .i64 0, .slice none 0 0, .bool false, .int .i64 0, .bool false]) (by simp [results, Tryz.results136, go_sem, *]) rfl ⟨HB2.out, .inr ⟨HNo.out, rfl⟩⟩
    · obtain ⟨x, hx⟩ := hbeg.1 rfl
      have hobj := h.oo.2 x hx.mem
      have hhead : x.headD 0 = u := by
        have h0 := hx.get 0 hobj.pos
        rw [h.oo.1, Nat.add_zero, hwe, headD_get hobj.pos] at h0
        exact (Option.some.inj h0).symm
      have HX := Lib.hid hx
      have HU := Lib.hid (fun y => At.uniq h.oo.pos (i := i) (x := x) (y := y))
      have HH := Lib.hid (fun W => RHeaderOf u hwr.1 hwr.2 W)
      have hN := hoN_rng u hwr.1
      have hxb := hx.bound
      rw [h.oo.1] at hxb
      have hok : hok u = true ∧ x.length = osz u := by
        obtain ⟨y, r, rfl, a, b⟩ := hobj
        simp only [List.headD_cons] at hhead
        subst hhead
        exact ⟨a, b⟩
      have HCut := Lib.hid (fun W2 (hb : Below w.heap.size w W2) k n (hk : k + n = x.length) => part_cut ((HW.out).below hb hB) HObj.out hx k n hk)
      unfold maxLen at hcw
      clear hbeg h hx hq1 hq2 hcl2 hcl1 hml hmk hwd hobj
      rcases hok_cases u with ⟨h4, hk, hs⟩ | ⟨h4, ho, hk, hs⟩ | ⟨h4, ho, hk⟩
      · -- a cell
        have ho : hoOk u = false := by unfold hoOk; simp [h4]
        have HKd : Hid (knd x = 0 ∧ wds x = x) := Lib.hid (by unfold knd wds; rw [hhead]; simp [h4])
        rw [hs] at hok
        have hxl := hok.2
        have HXL := Lib.hid hok.2
        by_cases hm : v % 4 = 2
        · have HNo : Hid (¬ ∃ x, Pt K v x) := Lib.hid (by
            rintro ⟨x', hx'⟩
            obtain ⟨a1, a2⟩ := (HPt.out x').1 hx'
            obtain rfl := HU.out _ HX.out a1
            exact h4 (by rw [← hhead]; exact a2.2 hm))
          have q3 : (v % 4 == 2) = true := by simpa using hm
          rw [ho] at HH
          clear HPt HU hiff hm ho h4 hk hs hok hxl hhead HKd
          go_enter Tryz.func136, Tryz.ntmps136
          go_wp2_with (first | (go_at_call 27; refine (HP.out _).mono ?_; rintro e w' ⟨rfl, rfl⟩) | (go_at_call 20; refine (HT.out _).mono ?_; rintro e w' ⟨rfl, rfl⟩))
          refine HAr.out.mono ?_
          rintro e W2 ⟨rfl, hb2⟩
          have HB2 : Hid (Below w.heap.size w W2) := Lib.hid (HB0.out.trans (hb2.mono HB0.out.size))
          clear hb2
          have hmk := HMK.out W2 HB2.out
          have hwd := HWD.out W2 HB2.out
          go_wp2_with (go_at_call 182; refine (HH.out _).mono ?_; rintro e w' ⟨rfl, rfl⟩)
          refine (HT.out _).mono ?_
          rintro e w' ⟨rfl, rfl⟩
          go_wp2_with fail
          exact bodyPost_ret (v := .tuple #[.int .i64 0, .slice none 0 0, .bool false, .int .i64 0, .bool false]) (by simp [results, Tryz.results136, go_sem, *]) rfl ⟨HB2.out, .inr ⟨HNo.out, rfl⟩⟩
        · have HYes : Hid (Pt K v x) := Lib.hid ((HPt.out x).2 ⟨HX.out, ⟨fun h => absurd (hhead ▸ h) h4, fun h => absurd h hm⟩⟩)
          have q3 : (v % 4 == 2) = false := by simpa using hm
          rw [ho] at HH
          have e1 : IntKind.i64.wrap ((i : Int) + 2) = (i : Int) + 2 := IntWalk.i64_in _ (by omega)
          have e5 : (i : Int) ≤ (i : Int) + 2 := by omega
          have e6 : (i : Int) + 2 ≤ (c2 : Int) := by omega
          have e7 : ((i : Int) + 2).toNat = i + 2 := by omega
          have hci : ¬ c2 = i := by omega
          clear HPt HU hiff hm ho h4 hk hs hok hxl hhead
          go_enter Tryz.func136, Tryz.ntmps136
          go_wp2_with (first | (go_at_call 27; refine (HP.out _).mono ?_; rintro e w' ⟨rfl, rfl⟩) | (go_at_call 20; refine (HT.out _).mono ?_; rintro e w' ⟨rfl, rfl⟩))
          refine HAr.out.mono ?_
          rintro e W2 ⟨rfl, hb2⟩
          have HB2 : Hid (Below w.heap.size w W2) := Lib.hid (HB0.out.trans (hb2.mono HB0.out.size))
          clear hb2
          have hmk := HMK.out W2 HB2.out
          have hwd := HWD.out W2 HB2.out
          go_wp2_with (go_at_call 182; refine (HH.out _).mono ?_; rintro e w' ⟨rfl, rfl⟩)
          refine (HT.out _).mono ?_
          rintro e w' ⟨rfl, rfl⟩
          go_wp2_with fail
          go_quiet (fail)
          go_wp2_with fail
          have hcut := HCut.out W2 HB2.out 0 2 (by rw [HXL.out])
          rw [Nat.add_zero, if_neg hci] at hcut
          refine bodyPost_ret (v := .tuple #[.int .i64 0, .slice (some ⟨g1, o1 + i, none⟩) 2 (c2 - i), .bool true, .int .i64 i, .bool true]) (by simp [results, Tryz.results136, go_sem, *]) rfl ⟨below_drewN HB2.out _, .inl ⟨x, _, _, _, HYes.out, by rw [HKd.out.1, HOl.out, HXx.out], ?_⟩⟩
          rw [HKd.out.2]
          exact hcut
      · -- an object with a header
        have HKd : Hid (knd x = hoK u ∧ wds x = x.tail) := Lib.hid (by unfold knd wds; rw [hhead]; simp [h4])
        rw [hs] at hok
        have hxl := hok.2
        have HXL := Lib.hid hok.2
        by_cases hm : v % 4 = 2
        · have HYes : Hid (Pt K v x) := Lib.hid ((HPt.out x).2 ⟨HX.out, ⟨fun _ => hm, fun _ => hhead.symm ▸ h4⟩⟩)
          have q3 : (v % 4 == 2) = true := by simpa using hm
          rw [ho] at HH
          have e1 : IntKind.i64.wrap ((i : Int) + 1) = (i : Int) + 1 := IntWalk.i64_in _ (by omega)
          have e2 : IntKind.i64.wrap ((i : Int) + 1 + hoN u) = (i : Int) + 1 + hoN u := IntWalk.i64_in _ (by omega)
          have e3 : (0 : Int) ≤ (i : Int) + 1 := by omega
          have e4 : ((i : Int) + 1).toNat = i + 1 := by omega
          have e5 : (i : Int) + 1 ≤ (i : Int) + 1 + hoN u := by omega
          have e6 : (i : Int) + 1 + hoN u ≤ (c2 : Int) := by omega
          have e7 : ((i : Int) + 1 + hoN u).toNat = i + 1 + (x.length - 1) := by omega
          clear HPt HU hiff hm ho h4 hk hs hok hxl hhead
          go_enter Tryz.func136, Tryz.ntmps136
          go_wp2_with (first | (go_at_call 27; refine (HP.out _).mono ?_; rintro e w' ⟨rfl, rfl⟩) | (go_at_call 20; refine (HT.out _).mono ?_; rintro e w' ⟨rfl, rfl⟩))
          refine HAr.out.mono ?_
          rintro e W2 ⟨rfl, hb2⟩
          have HB2 : Hid (Below w.heap.size w W2) := Lib.hid (HB0.out.trans (hb2.mono HB0.out.size))
          clear hb2
          have hmk := HMK.out W2 HB2.out
          have hwd := HWD.out W2 HB2.out
          go_wp2_with (go_at_call 182; refine (HH.out _).mono ?_; rintro e w' ⟨rfl, rfl⟩)
          refine (HT.out _).mono ?_
          rintro e w' ⟨rfl, rfl⟩
          go_wp2_with fail
          go_quiet (fail)
          go_wp2_with fail
          all_goals
            have hcut := HCut.out W2 HB2.out 1 (x.length - 1) (by have := HXL.out; omega)
            rw [List.drop_one] at hcut
            have hb9 := below_drewN HB2.out nq
            first
              | (have hne : ¬ c2 = i + 1 := by assumption
                 rw [if_neg hne] at hcut
                 refine bodyPost_ret (v := .tuple #[.int .i64 (hoK u), .slice (some ⟨g1, o1 + (i + 1), none⟩) (x.length - 1) (c2 - (i + 1)), .bool true, .int .i64 i, .bool true]) (by simp [results, Tryz.results136, go_sem, *]) rfl ⟨hb9, .inl ⟨x, _, _, _, HYes.out, by rw [HKd.out.1, HOl.out, HXx.out], ?_⟩⟩
                 rw [HKd.out.2]
                 exact hcut)
              | (have hne : c2 = i + 1 := by assumption
                 subst hne
                 rw [if_pos rfl, Nat.sub_self] at hcut
                 refine bodyPost_ret (v := .tuple #[.int .i64 (hoK u), .slice (some ⟨g1, o1, none⟩) (x.length - 1) 0, .bool true, .int .i64 i, .bool true]) (by simp [results, Tryz.results136, go_sem, *]) rfl ⟨hb9, .inl ⟨x, _, _, _, HYes.out, by rw [HKd.out.1, HOl.out, HXx.out], ?_⟩⟩
                 rw [HKd.out.2]
                 exact hcut)
        · have HNo : Hid (¬ ∃ x, Pt K v x) := Lib.hid (by
            rintro ⟨x', hx'⟩
            obtain ⟨a1, a2⟩ := (HPt.out x').1 hx'
            obtain rfl := HU.out _ HX.out a1
            exact hm (a2.1 (hhead.symm ▸ h4)))
          have q3 : (v % 4 == 2) = false := by simpa using hm
          rw [ho] at HH
          clear HPt HU hiff hm ho h4 hk hs hok hxl hhead HKd
          go_enter Tryz.func136, Tryz.ntmps136
          go_wp2_with (first | (go_at_call 27; refine (HP.out _).mono ?_; rintro e w' ⟨rfl, rfl⟩) | (go_at_call 20; refine (HT.out _).mono ?_; rintro e w' ⟨rfl, rfl⟩))
          refine HAr.out.mono ?_
          rintro e W2 ⟨rfl, hb2⟩
          have HB2 : Hid (Below w.heap.size w W2) := Lib.hid (HB0.out.trans (hb2.mono HB0.out.size))
          clear hb2
          have hmk := HMK.out W2 HB2.out
          have hwd := HWD.out W2 HB2.out
          go_wp2_with (go_at_call 182; refine (HH.out _).mono ?_; rintro e w' ⟨rfl, rfl⟩)
          refine (HT.out _).mono ?_
          rintro e w' ⟨rfl, rfl⟩
          go_wp2_with fail
          exact bodyPost_ret (v := .tuple #[.int .i64 0, .slice none 0 0, .bool false, .int .i64 0, .bool false]) (by simp [results, Tryz.results136, go_sem, *]) rfl ⟨HB2.out, .inr ⟨HNo.out, rfl⟩⟩
      · rw [hk] at hok; exact Bool.noConfusion hok.1
  · have q1 : decide ((marks K.o).length ≤ i) = true := decide_eq_true (by omega)
    have q1' : decide (((marks K.o).length : Int) ≤ (i : Int)) = true := decide_eq_true (by omega)
    have q1'' : decide (m.o.length ≤ i) = true := decide_eq_true (by omega)
    have HNo : Hid (¬ ∃ x, Pt K v x) := Lib.hid (by
      rintro ⟨x, hx⟩
      have h1 := ((HPt.out x).1 hx).1
      have h2 := h1.bound
      rw [h.oo.1] at h2
      have h3 := h.oo.pos x h1.mem
      omega)
    have HMl := Lib.hid hml
    clear h hq1 hq2 hml
    go_enter Tryz.func136, Tryz.ntmps136
    go_wp2_with (first | (go_at_call 27; refine (HP.out _).mono ?_; rintro e w' ⟨rfl, rfl⟩) | (go_at_call 20; refine (HT.out _).mono ?_; rintro e w' ⟨rfl, rfl⟩))
    refine HAr.out.mono ?_
    rintro e W2 ⟨rfl, hb2⟩
    have HB2 : Hid (Below w.heap.size w W2) := Lib.hid (HB0.out.trans (hb2.mono HB0.out.size))
    clear hb2
    go_wp2_with fail
    exact bodyPost_ret (v := .tuple #[.int .i64 0, .slice none 0 0, .bool false, .int .i64 0, .bool false]) (by simp [results, Tryz.results136, go_sem, *]) rfl ⟨HB2.out, .inr ⟨HNo.out, rfl⟩⟩
theorem object62_no (w : World) (B : Nat) (p1 p2 p3 p4 : Option Addr) (c1 c2 c3 c4 : Nat) (m : Mm) (K : Bk) (v : Int) (v0 : 0 ≤ v) (v1 : v ≤ 18446744073709551615) (hp : pOk v = false) :
    Calls Tryz.prog 136 #[(bookV (.slice p1 m.y.length c1) (.slice p2 m.o.length c2) m.at_ (.slice p3 (marks K.y).length c3) (.slice p4 (marks K.o).length c4)), .int .u64 v] w fun e w' => Below w.heap.size w w' ∧ ObB K B w' v e := by
  unfold bookV
  have HP := Lib.hid (fun W => RPointer v v0 v1 W)
  have HB0 : Hid (Below w.heap.size w (w.alloc (.cells #[.slice p1 m.y.length c1, .slice p2 m.o.length c2, .int .i64 m.at_, .slice p3 (marks K.y).length c3, .slice p4 (marks K.o).length c4] 101))) := Lib.hid ((Below.refl _ _).alloc (Nat.le_refl _) _)
  have HAr := Lib.hid (area57 (w.alloc (.cells #[.slice p1 m.y.length c1, .slice p2 m.o.length c2, .int .i64 m.at_, .slice p3 (marks K.y).length c3, .slice p4 (marks K.o).length c4] 101)) p1 p2 m.y.length c1 m.o.length c2 m.at_ false)
  have HNo : Hid (¬ ∃ x, Pt K v x) := Lib.hid (by rintro ⟨x, hx⟩; rw [hx.1] at hp; exact Bool.noConfusion hp)
  have eo : pOld v = false := by unfold pOld; rw [hp]; rfl
  have ei : pIx v = 0 := by unfold pIx; rw [hp]; rfl
  rw [hp, eo, ei] at HP
  clear hp eo ei
  go_enter Tryz.func136, Tryz.ntmps136
  go_wp2_with (go_at_call 27; refine (HP.out _).mono ?_; rintro e w' ⟨rfl, rfl⟩)
  refine HAr.out.mono ?_
  rintro e W2 ⟨rfl, hb2⟩
  have HB2 : Hid (Below w.heap.size w W2) := Lib.hid (HB0.out.trans (hb2.mono HB0.out.size))
  clear hb2
  go_wp2_with fail
  exact bodyPost_ret (v := .tuple #[.int .i64 0, .slice none 0 0, .bool false, .int .i64 0, .bool false]) (by simp [results, Tryz.results136, go_sem, *]) rfl ⟨HB2.out, .inr ⟨HNo.out, rfl⟩⟩
theorem object62B (w : World) (B : Nat) (v1 v2 v3 v4 : Value) (m : Mm) (K : Bk) (hB : B ≤ w.heap.size) (h : BookAt w B v1 v2 v3 v4 m K) (v : Int) (l0 : 0 ≤ v) (l1 : v ≤ 18446744073709551615) :
    Calls Tryz.prog 136 #[bookV v1 v2 m.at_ v3 v4, .int .u64 v] w fun e w' => Below w.heap.size w w' ∧ ObB K B w' v e := by
  obtain ⟨p1, c1, rfl, _⟩ := id h.y
  obtain ⟨p2, c2, rfl, _⟩ := id h.o
  obtain ⟨p3, c3, rfl, _⟩ := id h.fy
  obtain ⟨p4, c4, rfl, _⟩ := id h.fo
  cases hp : pOk v
  · exact object62_no w B p1 p2 p3 p4 c1 c2 c3 c4 m K v l0 l1 hp
  · cases ho : pOld v
    · exact object62_false w B p1 p2 p3 p4 c1 c2 c3 c4 m K hB h v l0 l1 hp ho
    · exact object62_true w B p1 p2 p3 p4 c1 c2 c3 c4 m K hB h v l0 l1 hp ho
theorem object62 (w : World) (B : Nat) (v1 v2 v3 v4 : Value) (m : Mm) (K : Bk) (hB : B ≤ w.heap.size) (h : BookAt w B v1 v2 v3 v4 m K) (v : Int) (l0 : 0 ≤ v) (l1 : v ≤ 18446744073709551615) :
    Calls Tryz.prog 136 #[bookV v1 v2 m.at_ v3 v4, .int .u64 v] w fun e w' => Below w.heap.size w w' ∧ ObR K w' v e :=
  (object62B w B v1 v2 v3 v4 m K hB h v l0 l1).mono fun e w' ⟨h1, h2⟩ => ⟨h1, h2.r (Nat.le_trans hB h1.size)⟩
end Go.Proofs.YtpnlnbolhkcnjaaGreat.cl
