/- Texts of this seat, one behind the other: TbQ, TbR. No condition beyond theirs. -/
import Derived.Test.YtfbggmbmgohiiaaGreatL27
import Derived.Test.YtfbggmbmgohiiaaGreatL19
/- table, Size. Conditions: the object lies in memory. -/
namespace Go.Proofs.YtfbggmbmgohiiaaGreat.tb
open Go.RowKit mem rec tm names
set_option linter.unusedVariables false
set_option linter.unusedSimpArgs false
set_option maxHeartbeats 4000000
set_option maxRecDepth 100000
section
variable {N : Nat} {w w' : World} {B : Nat} {F : Nat → Prop} {s : TbSt N}
theorem refAt_lt {l : List (TabE N)} {r : Tm (N + 1)} {i : Nat} (h : refAt l r = some i) : ∃ hi : i < l.length, l[i].ref = r := by
  unfold refAt at h
  rw [List.findIdx?_eq_some_iff_getElem] at h
  obtain ⟨hi, hp, _⟩ := h
  exact ⟨hi, of_eqB hp⟩
/-- what table hands back: where the table lies, and the error -/
def TabR (l : List (TabE N)) (r : Tm (N + 1)) (po : Option Addr) (er : Int) : Prop := (refAt l r = none ∧ po = none ∧ er = 4) ∨ ∃ i, ∃ hi : i < l.length, refAt l r = some i ∧ po = some ⟨(l[i]).b, 0, none⟩ ∧ er = 0
theorem TabR.of (l : List (TabE N)) (r : Tm (N + 1)) : ∃ po er, TabR l r po er := by
  cases h : refAt l r with
  | none => exact ⟨none, 4, .inl ⟨h, rfl, rfl⟩⟩
  | some i => obtain ⟨hi, _⟩ := refAt_lt h; exact ⟨_, 0, .inr ⟨i, hi, h, rfl, rfl⟩⟩
theorem table49 (h : TbAt w B F s) (hlen : s.tabs.length ≤ 1000) {r : Tm (N + 1)} {u : Value} {B2 : Nat} (hB : B2 ≤ w.heap.size) (hI : ItemsAt w B2 N u r.items) {po : Option Addr} {er : Int} (hR : TabR s.tabs r po er) :
    Calls Tryz.prog 49 #[.pointer (some ⟨s.z, 0, none⟩), aggV r.f u] w fun e w' => e = .returned (.tuple #[.pointer po, .int .i64 er]) ∧ Below w.heap.size w w' := by
  have hb0 := belowA (Below.refl w.heap.size w) (cells9 r.f u) (Nat.le_refl _)
  have hx0 := index81 (h.below hb0) hlen (Nat.le_trans hB hb0.size) (hI.below hb0 hB) (alloc_new w (cells9 r.f u))
  have HO := Lib.hid (fun (W : World) (hW : Below w.heap.size w W) => two_cells (h.below hW).obj)
  have HPt := Lib.hid (fun (W : World) (hW : Below w.heap.size w W) (i : Nat) (hi : i < s.tabs.length) => (h.below hW).ptr hi)
  obtain ⟨pl, cl, hv, _, _⟩ := h.l.shape
  rw [List.length_map] at hv
  obtain ⟨pu, cu, eu, _, _⟩ := hI.shape
  generalize s.z = z at *
  unfold TabR at hR
  generalize hq : refAt s.tabs r = q at *
  generalize s.tabs = l at *
  rw [hv] at hx0 HO HPt
  rw [eu] at hx0 hb0 ⊢
  clear h hB hI hv eu hq
  generalize r.items.length = nr at *
  generalize r.f = f at *
  obtain ⟨fk, fi, fg, fn, ff, fa, fb, fs⟩ := f
  unfold aggV
  unfold cells9 at hx0 hb0
  dsimp only at hx0 hb0 ⊢
  obtain ⟨o0, o1, of⟩ := HO.out _ hb0
  have HB0 := Lib.hid hb0
  have HX := Lib.hid hx0
  have HR := Lib.hid hR
  clear hx0 hb0 hR
  rcases HR.out with ⟨rfl, rfl, rfl⟩ | ⟨i, hi, rfl, rfl, rfl⟩
  · clear HPt HR
    unfold optI at HX
    dsimp only at HX
    go_enter Tryz.func49, Tryz.ntmps49
    go_upto_region 1 with (fail)
    generalize (w.alloc (.cells #[.int .i64 fk, .int .i64 fi, .int .i64 fg, .string fn, .string ff, .int .i64 fa, .slice pu nr cu, .string fb, .int .i64 fs] 24)) = W1 at *
    go_wp2_with fail
    refine HX.out.mono ?_
    rintro e w2 ⟨rfl, hb2⟩
    have hbw := HB0.out.trans (hb2.mono HB0.out.size)
    have HB2 := Lib.hid hbw
    obtain ⟨o0, o1, of⟩ := HO.out _ hbw
    clear hb2
    go_wp2_with fail
    go_ret2
    exact ⟨rfl, HB2.out⟩
  · have HPi := Lib.hid (fun W hW => HPt.out W hW i hi)
    clear HPt HR
    unfold optI at HX
    dsimp only at HX
    generalize (l[i]).b = tb at *
    go_enter Tryz.func49, Tryz.ntmps49
    go_upto_region 1 with (fail)
    generalize (w.alloc (.cells #[.int .i64 fk, .int .i64 fi, .int .i64 fg, .string fn, .string ff, .int .i64 fa, .slice pu nr cu, .string fb, .int .i64 fs] 24)) = W1 at *
    go_wp2_with fail
    refine HX.out.mono ?_
    rintro e w2 ⟨rfl, hb2⟩
    have hbw := HB0.out.trans (hb2.mono HB0.out.size)
    have HB2 := Lib.hid hbw
    obtain ⟨o0, o1, of⟩ := HO.out _ hbw
    clear hb2
    obtain ⟨g, c, hv, hg, hp⟩ := HPi.out w2 hbw
    simp only [Value.slice.injEq] at hv
    obtain ⟨rfl, _, rfl⟩ := hv
    clear hbw hg
    go_wp2_with fail
    go_ret2
    exact ⟨rfl, HB2.out⟩
theorem size31 (h : TbAt w B F s) (hlen : s.tabs.length ≤ 1000) {r : Tm (N + 1)} {u : Value} {B2 : Nat} (hB : B2 ≤ w.heap.size) (hI : ItemsAt w B2 N u r.items) {n er : Int} (hr : (refAt s.tabs r = none ∧ n = 0 ∧ er = 4) ∨ ∃ i, ∃ hi : i < s.tabs.length, refAt s.tabs r = some i ∧ n = (s.tabs[i]).rows.length ∧ er = 0) :
    Calls Tryz.prog 31 #[.pointer (some ⟨s.z, 0, none⟩), aggV r.f u] w fun e w' => e = .returned (.tuple #[.int .i64 n, .int .i64 er]) ∧ Below w.heap.size w w' := by
  have hb0 := belowA (Below.refl w.heap.size w) (cells9 r.f u) (Nat.le_refl _)
  have hx0 := fun po er hR => table49 (h.below hb0) hlen (Nat.le_trans hB hb0.size) (hI.below hb0 hB) (po := po) (er := er) hR
  have hn := nine_of (alloc_new w (cells9 r.f u))
  have HTb := Lib.hid (fun (W : World) (hW : Below w.heap.size w W) (i : Nat) (hi : i < s.tabs.length) => (tab_cells ((h.below hW).tabs _ (List.getElem_mem hi)).blk).2.2.2.1)
  have HVr := Lib.hid (fun (i : Nat) (hi : i < s.tabs.length) => (h.tabs _ (List.getElem_mem hi)).rows.shape)
  obtain ⟨pu, cu, eu, _, _⟩ := hI.shape
  unfold TabR at hx0
  generalize hq : refAt s.tabs r = q at *
  generalize s.tabs = l at *
  generalize s.z = z at *
  rw [eu] at hx0 hb0 hn ⊢
  clear h hB hI eu hq
  generalize r.items.length = nr at *
  generalize r.f = f at *
  obtain ⟨fk, fi, fg, fn, ff, fa, fb, fs⟩ := f
  obtain ⟨x0, x1, x2, x3, x4, x5, x6, x7, x8, xf⟩ := hn
  unfold aggV at hx0 ⊢
  unfold cells9 at hx0 hb0 x0 x1 x2 x3 x4 x5 x6 x7 x8 xf
  dsimp only at hx0 hb0 x0 x1 x2 x3 x4 x5 x6 x7 x8 xf ⊢
  have HB0 := Lib.hid hb0
  have HX := Lib.hid hx0
  clear hx0 hb0
  rcases hr with ⟨rfl, rfl, rfl⟩ | ⟨i, hi, rfl, rfl, rfl⟩
  · have HT := Lib.hid (HX.out none 4 (by simp))
    clear HX HTb HVr
    go_enter Tryz.func31, Tryz.ntmps31
    go_wp2_with fail
    refine HT.out.mono ?_
    rintro e w2 ⟨rfl, hb2⟩
    have hbw := HB0.out.trans (hb2.mono HB0.out.size)
    have HB2 := Lib.hid hbw
    clear hb2 x0 x1 x2 x3 x4 x5 x6 x7 x8 xf
    go_wp2_with fail
    go_ret2
    exact ⟨rfl, HB2.out⟩
  · have HT := Lib.hid (HX.out _ 0 (.inr ⟨i, hi, rfl, rfl, rfl⟩))
    have HTi := Lib.hid (fun W hW => HTb.out W hW i hi)
    obtain ⟨pr, cr, hvr, _, _⟩ := HVr.out i hi
    rw [hvr] at HTi
    clear HX HTb HVr hvr
    generalize (l[i]).rows.length = nrw at *
    generalize (l[i]).b = tb at *
    go_enter Tryz.func31, Tryz.ntmps31
    go_wp2_with fail
    refine HT.out.mono ?_
    rintro e w2 ⟨rfl, hb2⟩
    have hbw := HB0.out.trans (hb2.mono HB0.out.size)
    have HB2 := Lib.hid hbw
    clear hb2 x0 x1 x2 x3 x4 x5 x6 x7 x8 xf
    have hc := HTi.out w2 hbw
    go_wp2_with fail
    go_ret2
    exact ⟨rfl, HB2.out⟩
end
end Go.Proofs.YtfbggmbmgohiiaaGreat.tb
/- before. Conditions: the terms lie in memory. -/
namespace Go.Proofs.YtfbggmbmgohiiaaGreat.tb
open Go.RowKit mem rec tm names
set_option linter.unusedVariables false
set_option linter.unusedSimpArgs false
set_option maxHeartbeats 4000000
set_option maxRecDepth 100000
/-- is a key before another one? -/
noncomputable def befB {N : Nat} (hs : Bool) (x y : Tm (N + 1)) (a b : Int) : Bool := if hs then (decide (a < b) || ((a == b) && decide (cmpV x y < 0))) else decide (cmpV x y < 0)
theorem two_boxes (w : World) (o1 o2 : Obj) : Below w.heap.size w ((w.alloc o1).alloc o2) ∧ ((w.alloc o1).alloc o2).heap[w.heap.size]? = some o1 ∧ ((w.alloc o1).alloc o2).heap[w.heap.size + 1]? = some o2 := by
  have h1 := belowA (Below.refl w.heap.size w) o1 (Nat.le_refl _)
  refine ⟨belowA h1 o2 h1.size, (Below.heap_alloc _ _ _ (by rw [World.size_alloc]; omega)).trans (alloc_new w o1), ?_⟩
  have := alloc_new (w.alloc o1) o2
  rwa [World.size_alloc] at this
theorem bef177 {N : Nat} (w : World) (B : Nat) (u1 u2 : Value) (x y : Tm (N + 1)) (a b : Int) (hB : B ≤ w.heap.size) (h1 : ItemsAt w B N u1 x.items) (h2 : ItemsAt w B N u2 y.items) (s1 : 300 * (nodesT x : Int) ≤ 1000000000000) (s2 : 300 * (nodesT y : Int) ≤ 1000000000000) :
    Calls Tryz.prog 177 #[.agg #[], aggV x.f u1, aggV y.f u2, .int .u32 a, .int .u32 b] w (BPost (befB false x y a b) w) := by
  have HL := Lib.hid (fun W (hW : Below w.heap.size w W) => Less W B u1 u2 x y (Nat.le_trans hB hW.size) (h1.below hW hB) (h2.below hW hB) s1 s2)
  have hbf : befB false x y a b = decide (cmpV x y < 0) := rfl
  rw [hbf]
  obtain ⟨pa, ca, rfl, _, _⟩ := h1.shape
  obtain ⟨pb, cb, rfl, _, _⟩ := h2.shape
  generalize decide (cmpV x y < 0) = q at *
  generalize x.items.length = na at *
  generalize y.items.length = nb at *
  generalize x.f = fa at *
  generalize y.f = fb at *
  clear h1 h2 s1 s2 hB hbf
  obtain ⟨k1, i1, j1, n1, f1, a1, b1, t1⟩ := fa
  obtain ⟨k2, i2, j2, n2, f2, a2, b2, t2⟩ := fb
  unfold aggV at *
  dsimp only at HL ⊢
  have hb0 := belowA (Below.refl w.heap.size w) (.cells #[] 93) (Nat.le_refl _)
  obtain ⟨hb1, hc1, hc2⟩ := two_boxes (w.alloc (.cells #[] 93)) (.cells #[.int .i64 k1, .int .i64 i1, .int .i64 j1, .string n1, .string f1, .int .i64 a1, .slice pa na ca, .string b1, .int .i64 t1] 24) (.cells #[.int .i64 k2, .int .i64 i2, .int .i64 j2, .string n2, .string f2, .int .i64 a2, .slice pb nb cb, .string b2, .int .i64 t2] 24)
  rw [World.size_alloc] at hc1 hc2
  have HB := Lib.hid (hb0.trans (hb1.mono hb0.size))
  have HN1 := Lib.hid (nine_of (f := ⟨k1, i1, j1, n1, f1, a1, b1, t1⟩) (v := .slice pa na ca) hc1)
  have HN2 := Lib.hid (nine_of (f := ⟨k2, i2, j2, n2, f2, a2, b2, t2⟩) (v := .slice pb nb cb) hc2)
  clear hb0 hb1 hc1 hc2
  go_enter Tryz.func177, Tryz.ntmps177
  go_upto_region 1 with (fail)
  generalize (((w.alloc (.cells #[] 93)).alloc (.cells #[.int .i64 k1, .int .i64 i1, .int .i64 j1, .string n1, .string f1, .int .i64 a1, .slice pa na ca, .string b1, .int .i64 t1] 24)).alloc (.cells #[.int .i64 k2, .int .i64 i2, .int .i64 j2, .string n2, .string f2, .int .i64 a2, .slice pb nb cb, .string b2, .int .i64 t2] 24)) = W1 at *
  obtain ⟨x0, x1, x2, x3, x4, x5, x6, x7, x8, xf⟩ := HN1.out
  obtain ⟨y0, y1, y2, y3, y4, y5, y6, y7, y8, yf⟩ := HN2.out
  dsimp only at x0 x1 x2 x3 x4 x5 x6 x7 x8 y0 y1 y2 y3 y4 y5 y6 y7 y8
  go_wp2_with fail
  refine (HL.out _ HB.out).mono ?_
  rintro e w2 ⟨rfl, hb2⟩
  have HB2 := Lib.hid (HB.out.trans (hb2.mono HB.out.size))
  clear hb2 x0 x1 x2 x3 x4 x5 x6 x7 x8 xf y0 y1 y2 y3 y4 y5 y6 y7 y8 yf
  go_wp2_with fail
  go_ret
  exact ⟨rfl, HB2.out⟩
theorem bef179 {N : Nat} (w : World) (B : Nat) (u1 u2 : Value) (x y : Tm (N + 1)) (a b : Int) (hB : B ≤ w.heap.size) (h1 : ItemsAt w B N u1 x.items) (h2 : ItemsAt w B N u2 y.items) (s1 : 300 * (nodesT x : Int) ≤ 1000000000000) (s2 : 300 * (nodesT y : Int) ≤ 1000000000000) :
    Calls Tryz.prog 179 #[.agg #[], aggV x.f u1, aggV y.f u2, .int .u32 a, .int .u32 b] w (BPost (befB true x y a b) w) := by
  have HL := Lib.hid (fun W (hW : Below w.heap.size w W) => Less W B u1 u2 x y (Nat.le_trans hB hW.size) (h1.below hW hB) (h2.below hW hB) s1 s2)
  have hbf : befB true x y a b = (decide (a < b) || ((a == b) && decide (cmpV x y < 0))) := rfl
  rw [hbf]
  obtain ⟨pa, ca, rfl, _, _⟩ := h1.shape
  obtain ⟨pb, cb, rfl, _, _⟩ := h2.shape
  generalize decide (cmpV x y < 0) = q at *
  generalize x.items.length = na at *
  generalize y.items.length = nb at *
  generalize x.f = fa at *
  generalize y.f = fb at *
  clear h1 h2 s1 s2 hB hbf
  obtain ⟨k1, i1, j1, n1, f1, a1, b1, t1⟩ := fa
  obtain ⟨k2, i2, j2, n2, f2, a2, b2, t2⟩ := fb
  unfold aggV at *
  dsimp only at HL ⊢
  have hb0 := belowA (Below.refl w.heap.size w) (.cells #[] 99) (Nat.le_refl _)
  obtain ⟨hb1, hc1, hc2⟩ := two_boxes (w.alloc (.cells #[] 99)) (.cells #[.int .i64 k1, .int .i64 i1, .int .i64 j1, .string n1, .string f1, .int .i64 a1, .slice pa na ca, .string b1, .int .i64 t1] 24) (.cells #[.int .i64 k2, .int .i64 i2, .int .i64 j2, .string n2, .string f2, .int .i64 a2, .slice pb nb cb, .string b2, .int .i64 t2] 24)
  rw [World.size_alloc] at hc1 hc2
  have HB := Lib.hid (hb0.trans (hb1.mono hb0.size))
  have HN1 := Lib.hid (nine_of (f := ⟨k1, i1, j1, n1, f1, a1, b1, t1⟩) (v := .slice pa na ca) hc1)
  have HN2 := Lib.hid (nine_of (f := ⟨k2, i2, j2, n2, f2, a2, b2, t2⟩) (v := .slice pb nb cb) hc2)
  clear hb0 hb1 hc1 hc2
  by_cases c1 : a < b
  · have hd : decide (a < b) = true := decide_eq_true c1
    rw [hd, Bool.true_or]
    go_enter Tryz.func179, Tryz.ntmps179
    go_upto_region 1 with (fail)
    generalize (((w.alloc (.cells #[] 99)).alloc (.cells #[.int .i64 k1, .int .i64 i1, .int .i64 j1, .string n1, .string f1, .int .i64 a1, .slice pa na ca, .string b1, .int .i64 t1] 24)).alloc (.cells #[.int .i64 k2, .int .i64 i2, .int .i64 j2, .string n2, .string f2, .int .i64 a2, .slice pb nb cb, .string b2, .int .i64 t2] 24)) = W1 at *
    obtain ⟨x0, x1, x2, x3, x4, x5, x6, x7, x8, xf⟩ := HN1.out
    obtain ⟨y0, y1, y2, y3, y4, y5, y6, y7, y8, yf⟩ := HN2.out
    dsimp only at x0 x1 x2 x3 x4 x5 x6 x7 x8 y0 y1 y2 y3 y4 y5 y6 y7 y8
    go_wp2_with fail
    go_ret
    exact ⟨rfl, HB.out⟩
  · have hd : decide (a < b) = false := decide_eq_false c1
    rw [hd, Bool.false_or]
    by_cases c2 : a = b
    · have he : (a == b) = true := by simp [c2]
      rw [he, Bool.true_and]
      clear c1 c2
      go_enter Tryz.func179, Tryz.ntmps179
      go_upto_region 1 with (fail)
      generalize (((w.alloc (.cells #[] 99)).alloc (.cells #[.int .i64 k1, .int .i64 i1, .int .i64 j1, .string n1, .string f1, .int .i64 a1, .slice pa na ca, .string b1, .int .i64 t1] 24)).alloc (.cells #[.int .i64 k2, .int .i64 i2, .int .i64 j2, .string n2, .string f2, .int .i64 a2, .slice pb nb cb, .string b2, .int .i64 t2] 24)) = W1 at *
      obtain ⟨x0, x1, x2, x3, x4, x5, x6, x7, x8, xf⟩ := HN1.out
      obtain ⟨y0, y1, y2, y3, y4, y5, y6, y7, y8, yf⟩ := HN2.out
      dsimp only at x0 x1 x2 x3 x4 x5 x6 x7 x8 y0 y1 y2 y3 y4 y5 y6 y7 y8
      go_wp2_with fail
      refine (HL.out _ HB.out).mono ?_
      rintro e w2 ⟨rfl, hb2⟩
      have HB2 := Lib.hid (HB.out.trans (hb2.mono HB.out.size))
      clear hb2 x0 x1 x2 x3 x4 x5 x6 x7 x8 xf y0 y1 y2 y3 y4 y5 y6 y7 y8 yf
      go_wp2_with fail
      go_ret
      exact ⟨rfl, HB2.out⟩
    · have he : (a == b) = false := by simp [c2]
      rw [he, Bool.false_and]
      clear c1 c2
      go_enter Tryz.func179, Tryz.ntmps179
      go_upto_region 1 with (fail)
      generalize (((w.alloc (.cells #[] 99)).alloc (.cells #[.int .i64 k1, .int .i64 i1, .int .i64 j1, .string n1, .string f1, .int .i64 a1, .slice pa na ca, .string b1, .int .i64 t1] 24)).alloc (.cells #[.int .i64 k2, .int .i64 i2, .int .i64 j2, .string n2, .string f2, .int .i64 a2, .slice pb nb cb, .string b2, .int .i64 t2] 24)) = W1 at *
      obtain ⟨x0, x1, x2, x3, x4, x5, x6, x7, x8, xf⟩ := HN1.out
      obtain ⟨y0, y1, y2, y3, y4, y5, y6, y7, y8, yf⟩ := HN2.out
      dsimp only at x0 x1 x2 x3 x4 x5 x6 x7 x8 y0 y1 y2 y3 y4 y5 y6 y7 y8
      go_wp2_with fail
      go_ret
      exact ⟨rfl, HB.out⟩
end Go.Proofs.YtfbggmbmgohiiaaGreat.tb
