/- Texts of this seat, one behind the other: TbO, TbP, TbQ, TbR. No condition beyond theirs. -/
import Derived.Test.YtfbggmbmgohiiaaGreatM24
import Derived.Test.YtfbggmbmgohiiaaGreatM19
set_option linter.unusedSimpArgs false
set_option linter.unusedVariables false
set_option maxHeartbeats 4000000
set_option maxRecDepth 100000
namespace Go.Proofs.YtfbggmbmgohiiaaGreat.tb
open Go.RowKit mem rec tm names
theorem results_cell1 {fn : Func} {p : Tmp} {ty : TypeId} (h : fn.results = #[.cell p ty]) (tmps : Array Value) (P : Program) (w : World) :
    (results fn tmps).run P w = ((asAddr (tmps.getD p undef)).run P w).andThen fun a w₁ => (loadVar ty a).run P w₁ := by
  simp only [results, h]
  simp [Sem.run_bind, Result.andThen]
def nmN : ByteArray := ⟨#[110]⟩
def refT {N : Nat} (n : Int) : Tm (N + 1) := Tm.mk ⟨3, n, 1, nmN, ⟨#[]⟩, 0, ⟨#[]⟩, 0⟩ []
def pidT {N : Nat} (n : Int) : Tm (N + 1) := Tm.mk ⟨6, n, 1, nmN, ⟨#[]⟩, 0, ⟨#[]⟩, 0⟩ []
def intT {N : Nat} (n : Int) : Tm (N + 1) := Tm.mk ⟨1, n, 0, ⟨#[]⟩, ⟨#[]⟩, 0, ⟨#[]⟩, 0⟩ []
def atomT {N : Nat} (s : ByteArray) : Tm (N + 1) := Tm.mk ⟨2, 0, 0, s, ⟨#[]⟩, 0, ⟨#[]⟩, 0⟩ []
theorem flat_items {N : Nat} (w : World) (B : Nat) : ItemsAt w B N nilV ([] : List (Tm N)) := ItemsAt.nil_any (Nat.zero_le _)
def VQ (v : Value) (w : World) (e : Ending) (w' : World) : Prop := e = .returned v ∧ Below w.heap.size w w'
theorem ref18 {N : Nat} (n : Int) (w : World) : Calls Tryz.prog 18 #[.int .i64 n] w (VQ (aggV (refT (N := N) n).f nilV) w) := by
  have HB := Lib.hid (fun o => belowA (Below.refl w.heap.size w) o (Nat.le_refl _))
  go_enter Tryz.func18, Tryz.ntmps18
  go_wp2_with fail
  (try simp only [Exit.inBlock, Exit.then])
  refine bodyPost_ret (v := .agg #[.int .i64 3, .int .i64 n, .int .i64 1, .string ⟨#[110]⟩, .string ⟨#[]⟩, .int .i64 0, .slice none 0 0, .string ⟨#[]⟩, .int .i64 0]) ?_ rfl ⟨rfl, ?_⟩
  · rw [results_cell1 rfl]
    go_simp
  · exact HB.out _
theorem pid19 {N : Nat} (n : Int) (w : World) : Calls Tryz.prog 19 #[.int .i64 n] w (VQ (aggV (pidT (N := N) n).f nilV) w) := by
  have HB := Lib.hid (fun o => belowA (Below.refl w.heap.size w) o (Nat.le_refl _))
  go_enter Tryz.func19, Tryz.ntmps19
  go_wp2_with fail
  (try simp only [Exit.inBlock, Exit.then])
  refine bodyPost_ret (v := .agg #[.int .i64 6, .int .i64 n, .int .i64 1, .string ⟨#[110]⟩, .string ⟨#[]⟩, .int .i64 0, .slice none 0 0, .string ⟨#[]⟩, .int .i64 0]) ?_ rfl ⟨rfl, ?_⟩
  · rw [results_cell1 rfl]
    go_simp
  · exact HB.out _
theorem int29 {N : Nat} (n : Int) (w : World) : Calls Tryz.prog 29 #[.int .i64 n] w (VQ (aggV (intT (N := N) n).f nilV) w) := by
  have HB := Lib.hid (fun o => belowA (Below.refl w.heap.size w) o (Nat.le_refl _))
  go_enter Tryz.func29, Tryz.ntmps29
  go_wp2_with fail
  (try simp only [Exit.inBlock, Exit.then])
  refine bodyPost_ret (v := .agg #[.int .i64 1, .int .i64 n, .int .i64 0, .string ⟨#[]⟩, .string ⟨#[]⟩, .int .i64 0, .slice none 0 0, .string ⟨#[]⟩, .int .i64 0]) ?_ rfl ⟨rfl, ?_⟩
  · rw [results_cell1 rfl]
    go_simp
  · exact HB.out _
theorem atom43 {N : Nat} (s : ByteArray) (w : World) : Calls Tryz.prog 43 #[.string s] w (VQ (aggV (atomT (N := N) s).f nilV) w) := by
  have HB := Lib.hid (fun o => belowA (Below.refl w.heap.size w) o (Nat.le_refl _))
  go_enter Tryz.func43, Tryz.ntmps43
  go_wp2_with fail
  (try simp only [Exit.inBlock, Exit.then])
  refine bodyPost_ret (v := .agg #[.int .i64 2, .int .i64 0, .int .i64 0, .string s, .string ⟨#[]⟩, .int .i64 0, .slice none 0 0, .string ⟨#[]⟩, .int .i64 0]) ?_ rfl ⟨rfl, ?_⟩
  · rw [results_cell1 rfl]
    go_simp
  · exact HB.out _
theorem new16 {N : Nat} (w : World) (B : Nat) (hB : B ≤ w.heap.size) : Calls Tryz.prog 16 #[] w fun e w' => e = .returned (.pointer (some ⟨w.heap.size, 0, none⟩)) ∧ TbAt (N := N) w' B (fun _ => False) ⟨w.heap.size, nilV, []⟩ ∧ Below w.heap.size w w' := by
  have HB := Lib.hid (belowA (Below.refl w.heap.size w) (.cells #[.bool true, .slice none 0 0] 74) (Nat.le_refl _))
  have HZ := Lib.hid (alloc_new w (.cells #[.bool true, .slice none 0 0] 74))
  go_enter Tryz.func16, Tryz.ntmps16
  go_wp2_with fail
  go_ret
  exact ⟨rfl, ⟨HZ.out, RecOwn.nil _ _ _, fun t ht => absurd ht List.not_mem_nil, List.nodup_nil, fun i j ti tj h => by simp at h, hB, fun g hg => hg.elim, fun g hg => hg.elim⟩, HB.out⟩
section
variable {N : Nat} {w w' : World} {B : Nat} {F : Nat → Prop}
theorem tab_cells {t : TabE N} (h : w.heap[t.b]? = some (.cells (tabL t).toArray 98)) : Cells w t.b 0 t.ref.f t.ur ∧ Cells w t.b 9 t.own.f t.uo ∧ w.cell? ⟨t.b, 18, none⟩ = some (kindV t.hs) ∧ w.cell? ⟨t.b, 19, none⟩ = some t.vr ∧ ∀ o, w.frozen? ⟨t.b, o, none⟩ = false := by
  have e : ∀ i, w.cell? ⟨t.b, i, none⟩ = (tabL t)[i]? := fun i => by simp only [World.cell?, h]; simp
  refine ⟨⟨e 0, e 1, e 2, e 3, e 4, e 5, e 6, e 7, e 8⟩, ⟨e 9, e 10, e 11, e 12, e 13, e 14, e 15, e 16, e 17⟩, e 18, e 19, fun o => by simp only [World.frozen?, h]; simp⟩
theorem same_in {n : Nat} {a b : Tm (n + 1)} {u1 u2 : Value} {B2 : Nat} (hF : ∀ g, F g → g < w.heap.size) (h1 : ItemsIn w F n u1 a.items) (hB : B2 ≤ w.heap.size) (h2 : ItemsAt w B2 n u2 b.items) : Calls Tryz.prog 66 #[aggV a.f u1, aggV b.f u2] w (BPost (eqB a b) w) :=
  Same66 w w.heap.size u1 u2 a b (Nat.le_refl _) (h1.toAt hF) (h2.more hB)
theorem clos82 {t : TabE N} {r : Tm (N + 1)} {u : Value} {zb B2 : Nat} (h : TabAt w B F t) (hF : ∀ g, F g → g < w.heap.size) (hB : B2 ≤ w.heap.size) (hI : ItemsAt w B2 N u r.items) (hz : w.heap[zb]? = some (cells9 r.f u)) :
    Calls Tryz.prog 82 #[.pointer (some ⟨t.b, 0, none⟩), .pointer (some ⟨zb, 0, none⟩)] w (BPost (eqB t.ref r) w) := by
  have HC : Hid (Calls Tryz.prog 66 #[aggV t.ref.f t.ur, aggV r.f u] w.drew (BPost (eqB t.ref r) w.drew)) := Lib.hid (same_in (w := w.drew) hF (ItemsIn.mono (w := w) (w' := w.drew) (F := F) (F' := F) (fun _ _ => rfl) (fun _ hg => hg) h.iref) hB (ItemsAt.same (w := w) (w' := w.drew) (fun _ _ => rfl) hI))
  obtain ⟨⟨x0, x1, x2, x3, x4, x5, x6, x7, x8⟩, _, _, _, _⟩ := tab_cells h.blk
  obtain ⟨y0, y1, y2, y3, y4, y5, y6, y7, y8, yf⟩ := nine_of hz
  obtain ⟨pa, ca, ea, _, _⟩ := ItemsIn.shape h.iref
  obtain ⟨pb, cb, eb, _, _⟩ := hI.shape
  clear h hF hB hI hz
  generalize eqB t.ref r = q at *
  rw [ea] at x6 HC
  rw [eb] at y6 HC
  generalize t.ref.items.length = na at *
  generalize r.items.length = nb at *
  generalize t.ref.f = fa at *
  generalize r.f = fb at *
  generalize t.b = tb at *
  clear ea eb
  obtain ⟨k1, i1, j1, n1, f1, a1, b1, s1⟩ := fa
  obtain ⟨k2, i2, j2, n2, f2, a2, b2, s2⟩ := fb
  unfold aggV at HC
  dsimp only at HC x0 x1 x2 x3 x4 x5 x6 x7 x8 y0 y1 y2 y3 y4 y5 y6 y7 y8
  simp only [Nat.reduceAdd] at x0 x1 x2 x3 x4 x5 x6 x7 x8
  go_enter Tryz.func82, Tryz.ntmps82
  go_wp2_with fail
  go_still_tail 5, (by kernel_rfl)
  change wpList _ _ _ _ _ w.drew
  clear x0 x1 x2 x3 x4 x5 x6 x7 x8 y0 y1 y2 y3 y4 y5 y6 y7 y8 yf
  have HBd := Lib.hid (belowD (Below.refl w.heap.size w))
  go_wp2_with fail
  refine HC.out.mono ?_
  rintro e w3 ⟨rfl, hb3⟩
  have HB4 := Lib.hid (HBd.out.trans (hb3.mono HBd.out.size))
  clear hb3
  go_wp2_with fail
  go_ret
  exact ⟨rfl, HB4.out⟩
end
noncomputable def refAt {N : Nat} (l : List (TabE N)) (r : Tm (N + 1)) : Option Nat := l.findIdx? (fun t => eqB t.ref r)
def optI (o : Option Nat) : Int := match o with
  | none => -1
  | some i => i
section
variable {N : Nat} {w w' : World} {B : Nat} {F : Nat → Prop} {s : TbSt N}
theorem find_none {α : Type} {p : α → Bool} {l : List α} (h : ∀ j, (hj : j < l.length) → p l[j] = false) : l.findIdx? p = none := by
  rw [List.findIdx?_eq_none_iff]
  intro x hx
  obtain ⟨j, hj, rfl⟩ := List.mem_iff_getElem.1 hx
  exact h j hj
theorem find_some {α : Type} {p : α → Bool} {l : List α} {i : Nat} (hi : i < l.length) (h : ∀ j, (hj : j < i) → p (l[j]'(by omega)) = false) (hp : p l[i] = true) : l.findIdx? p = some i := by
  rw [List.findIdx?_eq_some_iff_getElem]
  exact ⟨hi, hp, fun j hj => by rw [h j hj]; simp⟩
theorem TbAt.ptr (h : TbAt w B F s) {i : Nat} (hi : i < s.tabs.length) : ∃ g c, s.vl = .slice (some ⟨g, 0, none⟩) s.tabs.length c ∧ g < w.heap.size ∧ w.cell? ⟨g, i, none⟩ = some (.pointer (some ⟨(s.tabs[i]).b, 0, none⟩)) := by
  have hr := h.l
  rcases id hr.2 with ⟨_, h0⟩ | ⟨g, cap, cur, h1, _, hh, _⟩
  · rw [List.length_map] at h0; omega
  · rw [List.length_map] at h1
    have hrow := hr.row (ptrL_ok _)
    rw [h1] at hrow
    obtain ⟨g', o, e, _, hg, hc⟩ := hrow.nth (by rw [List.length_map]; omega)
    simp only [Option.some.injEq, Addr.mk.injEq, and_true] at e
    obtain ⟨rfl, rfl⟩ := e
    refine ⟨g, cap, h1, hg, ?_⟩
    have := hc i (s.tabs[i]).b (by rw [List.getElem?_map, List.getElem?_eq_getElem hi]; rfl) 0 _ rfl
    simpa using this
def IdxI (l : List (TabE N)) (r : Tm (N + 1)) (w : World) (m : Nat) (iv : Value) (wr : World) : Prop := ∃ i : Nat, iv = .int .i64 (i : Int) ∧ i ≤ l.length ∧ m = l.length - i ∧ (∀ j, (hj : j < i) → (hl : j < l.length) → eqB (l[j]).ref r = false) ∧ Below w.heap.size w wr
theorem index81 (h : TbAt w B F s) (hlen : s.tabs.length ≤ 1000) {r : Tm (N + 1)} {u : Value} {zb B2 : Nat} (hB : B2 ≤ w.heap.size) (hI : ItemsAt w B2 N u r.items) (hz : w.heap[zb]? = some (cells9 r.f u)) :
    Calls Tryz.prog 81 #[s.vl, .func (.func 82) #[] #[.pointer (some ⟨zb, 0, none⟩)]] w fun e w' => e = .returned (.int .i64 (optI (refAt s.tabs r))) ∧ Below w.heap.size w w' := by
  have hzl := (Array.getElem?_eq_some_iff.1 hz).1
  obtain ⟨pl, cl, hv, _, _⟩ := h.l.shape
  rw [List.length_map] at hv
  have HC := Lib.hid (fun (W : World) (hW : Below w.heap.size w W) (i : Nat) (hi : i < s.tabs.length) => clos82 ((h.below hW).tabs _ (List.getElem_mem hi)) (h.below hW).fl (Nat.le_trans hB hW.size) (hI.below hW hB) ((hW.block _ hzl).trans hz))
  have HPt := Lib.hid (fun (W : World) (hW : Below w.heap.size w W) (i : Nat) (hi : i < s.tabs.length) => (h.below hW).ptr hi)
  clear h hB hI hz hzl
  generalize s.tabs = l at *
  rw [hv] at HPt ⊢
  clear hv
  have H00 : Hid (IdxI l r w l.length (.int .i64 0) w) := Lib.hid ⟨0, rfl, Nat.zero_le _, rfl, fun j hj => by omega, Below.refl _ _⟩
  go_enter Tryz.func81, Tryz.ntmps81
  go_wp2_with fail
  go_loopg [8] l.length (fun m iv wr => Hid (IdxI l r w m iv wr))
  case atStart => exact H00
  case round =>
    obtain ⟨i, rfl, hi, hm, hno, hb⟩ := hrel.out
    clear hrel H00
    have HM := Lib.hid hm
    have HNo := Lib.hid hno
    have HB := Lib.hid hb
    clear hm hno
    by_cases hlt : i < l.length
    · obtain ⟨g, c, hv, hg, hp⟩ := HPt.out wr hb i hlt
      simp only [Value.slice.injEq] at hv
      obtain ⟨rfl, _, rfl⟩ := hv
      have HCi := Lib.hid (HC.out wr hb i hlt)
      have HNe := Lib.hid (fun (e : eqB (l[i]).ref r = false) => (fun j (hj : j < i + 1) (hl : j < l.length) => (by
        by_cases h : j < i
        · exact HNo.out j h hl
        · obtain rfl : j = i := by omega
          exact e : eqB (l[j]).ref r = false)))
      have HYe := Lib.hid (fun (e : eqB (l[i]).ref r = true) => (find_some (p := fun t : TabE N => eqB t.ref r) hlt (fun j hj => HNo.out j hj (by omega)) e))
      clear hg hb
      generalize (l[i]).b = tb at *
      generalize eqB (l[i]).ref r = q at *
      go_wp2_with fail
      refine HCi.out.mono ?_
      rintro e w2 ⟨rfl, hb2⟩
      have HB2 := Lib.hid (HB.out.trans (hb2.mono HB.out.size))
      clear hb2 hp
      cases q
      · have HN := Lib.hid (HNe.out rfl)
        go_wp2_with fail
        go_roundg (l.length - (i + 1))
        case measure => have := HM.out; omega
        case rel => exact Lib.hid ⟨i + 1, by go_num, by omega, rfl, HN.out, HB2.out⟩
      · have HY := Lib.hid (HYe.out rfl)
        go_wp2_with fail
        go_ret
        refine ⟨?_, HB2.out⟩
        unfold refAt
        rw [HY.out]
        rfl
    · have hn := find_none (p := fun t : TabE N => eqB t.ref r) (l := l) (fun j hj => HNo.out j (by omega) hj)
      have HN := Lib.hid hn
      clear hn
      go_wp2_with fail
      go_ret
      refine ⟨?_, HB.out⟩
      unfold refAt
      rw [HN.out]
      rfl
end
section
variable {N : Nat} {w w' : World} {B : Nat} {F : Nat → Prop} {s : TbSt N}
theorem refAt_lt {l : List (TabE N)} {r : Tm (N + 1)} {i : Nat} (h : refAt l r = some i) : ∃ hi : i < l.length, l[i].ref = r := by
  unfold refAt at h
  rw [List.findIdx?_eq_some_iff_getElem] at h
  obtain ⟨hi, hp, _⟩ := h
  exact ⟨hi, of_eqB hp⟩
def TabR (l : List (TabE N)) (r : Tm (N + 1)) (po : Option Addr) (er : Int) : Prop := (refAt l r = none ∧ po = none ∧ er = 4) ∨ ∃ i, ∃ hi : i < l.length, refAt l r = some i ∧ po = some ⟨(l[i]).b, 0, none⟩ ∧ er = 0
theorem TabR.of (l : List (TabE N)) (r : Tm (N + 1)) : ∃ po er, TabR l r po er := by
  cases h : refAt l r with
  | none => exact ⟨none, 4, .inl ⟨h, rfl, rfl⟩⟩
  | some i => obtain ⟨hi, _⟩ := refAt_lt h; exact ⟨_, 0, .inr ⟨i, hi, h, rfl, rfl⟩⟩
theorem table49 (h : TbAt w B F s) (hlen : s.tabs.length ≤ 1000) {r : Tm (N + 1)} {u : Value} {B2 : Nat} (hB : B2 ≤ w.heap.size) (hI : ItemsAt w B2 N u r.items) {po : Option Addr} {er : Int} (hR : TabR s.tabs r po er) :
    Calls Tryz.prog 49 #[.pointer (some ⟨s.z, 0, none⟩), aggV r.f u] w fun e w' => e = .returned (.tuple #[.pointer po, .int .i64 er]) ∧ Below w.heap.size w w' := by
  have hb0 := belowA (Below.refl w.heap.size w) (cells9 r.f u) (Nat.le_refl _)
  have hx0 := index81 (h.below hb0) hlen (Nat.le_trans hB hb0.size) (hI.below hb0 hB) (alloc_new w (cells9 r.f u))
  have HO := Lib.hid (fun (W : World) (hW : Below w.heap.size w W) => two_cells (h.below hW).obj)
  have HPt := Lib.hid (fun (W : World) (hW : Below w.heap.size w W) (i : Nat) (hi : i < s.tabs.length) => (h.below hW).ptr hi)
  obtain ⟨pl, cl, hv, _, _⟩ := h.l.shape
  rw [List.length_map] at hv
  obtain ⟨pu, cu, eu, _, _⟩ := hI.shape
  generalize s.z = z at *
  unfold TabR at hR
  generalize hq : refAt s.tabs r = q at *
  generalize s.tabs = l at *
  rw [hv] at hx0 HO HPt
  rw [eu] at hx0 hb0 ⊢
  clear h hB hI hv eu hq
  generalize r.items.length = nr at *
  generalize r.f = f at *
  obtain ⟨fk, fi, fg, fn, ff, fa, fb, fs⟩ := f
  unfold aggV
  unfold cells9 at hx0 hb0
  dsimp only at hx0 hb0 ⊢
  obtain ⟨o0, o1, of⟩ := HO.out _ hb0
  have HB0 := Lib.hid hb0
  have HX := Lib.hid hx0
  have HR := Lib.hid hR
  clear hx0 hb0 hR
  rcases HR.out with ⟨rfl, rfl, rfl⟩ | ⟨i, hi, rfl, rfl, rfl⟩
  · clear HPt HR
    unfold optI at HX
    dsimp only at HX
    go_enter Tryz.func49, Tryz.ntmps49
    go_upto_region 1 with (fail)
    generalize (w.alloc (.cells #[.int .i64 fk, .int .i64 fi, .int .i64 fg, .string fn, .string ff, .int .i64 fa, .slice pu nr cu, .string fb, .int .i64 fs] 24)) = W1 at *
    go_wp2_with fail
    refine HX.out.mono ?_
    rintro e w2 ⟨rfl, hb2⟩
    have hbw := HB0.out.trans (hb2.mono HB0.out.size)
    have HB2 := Lib.hid hbw
    obtain ⟨o0, o1, of⟩ := HO.out _ hbw
    clear hb2
    go_wp2_with fail
    go_ret2
    exact ⟨rfl, HB2.out⟩
  · have HPi := Lib.hid (fun W hW => HPt.out W hW i hi)
    clear HPt HR
    unfold optI at HX
    dsimp only at HX
    generalize (l[i]).b = tb at *
    go_enter Tryz.func49, Tryz.ntmps49
    go_upto_region 1 with (fail)
    generalize (w.alloc (.cells #[.int .i64 fk, .int .i64 fi, .int .i64 fg, .string fn, .string ff, .int .i64 fa, .slice pu nr cu, .string fb, .int .i64 fs] 24)) = W1 at *
    go_wp2_with fail
    refine HX.out.mono ?_
    rintro e w2 ⟨rfl, hb2⟩
    have hbw := HB0.out.trans (hb2.mono HB0.out.size)
    have HB2 := Lib.hid hbw
    obtain ⟨o0, o1, of⟩ := HO.out _ hbw
    clear hb2
    obtain ⟨g, c, hv, hg, hp⟩ := HPi.out w2 hbw
    simp only [Value.slice.injEq] at hv
    obtain ⟨rfl, _, rfl⟩ := hv
    clear hbw hg
    go_wp2_with fail
    go_ret2
    exact ⟨rfl, HB2.out⟩
theorem size31 (h : TbAt w B F s) (hlen : s.tabs.length ≤ 1000) {r : Tm (N + 1)} {u : Value} {B2 : Nat} (hB : B2 ≤ w.heap.size) (hI : ItemsAt w B2 N u r.items) {n er : Int} (hr : (refAt s.tabs r = none ∧ n = 0 ∧ er = 4) ∨ ∃ i, ∃ hi : i < s.tabs.length, refAt s.tabs r = some i ∧ n = (s.tabs[i]).rows.length ∧ er = 0) :
    Calls Tryz.prog 31 #[.pointer (some ⟨s.z, 0, none⟩), aggV r.f u] w fun e w' => e = .returned (.tuple #[.int .i64 n, .int .i64 er]) ∧ Below w.heap.size w w' := by
  have hb0 := belowA (Below.refl w.heap.size w) (cells9 r.f u) (Nat.le_refl _)
  have hx0 := fun po er hR => table49 (h.below hb0) hlen (Nat.le_trans hB hb0.size) (hI.below hb0 hB) (po := po) (er := er) hR
  have hn := nine_of (alloc_new w (cells9 r.f u))
  have HTb := Lib.hid (fun (W : World) (hW : Below w.heap.size w W) (i : Nat) (hi : i < s.tabs.length) => (tab_cells ((h.below hW).tabs _ (List.getElem_mem hi)).blk).2.2.2.1)
  have HVr := Lib.hid (fun (i : Nat) (hi : i < s.tabs.length) => (h.tabs _ (List.getElem_mem hi)).rows.shape)
  obtain ⟨pu, cu, eu, _, _⟩ := hI.shape
  unfold TabR at hx0
  generalize hq : refAt s.tabs r = q at *
  generalize s.tabs = l at *
  generalize s.z = z at *
  rw [eu] at hx0 hb0 hn ⊢
  clear h hB hI eu hq
  generalize r.items.length = nr at *
  generalize r.f = f at *
  obtain ⟨fk, fi, fg, fn, ff, fa, fb, fs⟩ := f
  obtain ⟨x0, x1, x2, x3, x4, x5, x6, x7, x8, xf⟩ := hn
  unfold aggV at hx0 ⊢
  unfold cells9 at hx0 hb0 x0 x1 x2 x3 x4 x5 x6 x7 x8 xf
  dsimp only at hx0 hb0 x0 x1 x2 x3 x4 x5 x6 x7 x8 xf ⊢
  have HB0 := Lib.hid hb0
  have HX := Lib.hid hx0
  clear hx0 hb0
  rcases hr with ⟨rfl, rfl, rfl⟩ | ⟨i, hi, rfl, rfl, rfl⟩
  · have HT := Lib.hid (HX.out none 4 (by simp))
    clear HX HTb HVr
    go_enter Tryz.func31, Tryz.ntmps31
    go_wp2_with fail
    refine HT.out.mono ?_
    rintro e w2 ⟨rfl, hb2⟩
    have hbw := HB0.out.trans (hb2.mono HB0.out.size)
    have HB2 := Lib.hid hbw
    clear hb2 x0 x1 x2 x3 x4 x5 x6 x7 x8 xf
    go_wp2_with fail
    go_ret2
    exact ⟨rfl, HB2.out⟩
  · have HT := Lib.hid (HX.out _ 0 (.inr ⟨i, hi, rfl, rfl, rfl⟩))
    have HTi := Lib.hid (fun W hW => HTb.out W hW i hi)
    obtain ⟨pr, cr, hvr, _, _⟩ := HVr.out i hi
    rw [hvr] at HTi
    clear HX HTb HVr hvr
    generalize (l[i]).rows.length = nrw at *
    generalize (l[i]).b = tb at *
    go_enter Tryz.func31, Tryz.ntmps31
    go_wp2_with fail
    refine HT.out.mono ?_
    rintro e w2 ⟨rfl, hb2⟩
    have hbw := HB0.out.trans (hb2.mono HB0.out.size)
    have HB2 := Lib.hid hbw
    clear hb2 x0 x1 x2 x3 x4 x5 x6 x7 x8 xf
    have hc := HTi.out w2 hbw
    go_wp2_with fail
    go_ret2
    exact ⟨rfl, HB2.out⟩
end
noncomputable def befB {N : Nat} (hs : Bool) (x y : Tm (N + 1)) (a b : Int) : Bool := if hs then (decide (a < b) || ((a == b) && decide (cmpV x y < 0))) else decide (cmpV x y < 0)
theorem two_boxes (w : World) (o1 o2 : Obj) : Below w.heap.size w ((w.alloc o1).alloc o2) ∧ ((w.alloc o1).alloc o2).heap[w.heap.size]? = some o1 ∧ ((w.alloc o1).alloc o2).heap[w.heap.size + 1]? = some o2 := by
  have h1 := belowA (Below.refl w.heap.size w) o1 (Nat.le_refl _)
  refine ⟨belowA h1 o2 h1.size, (Below.heap_alloc _ _ _ (by rw [World.size_alloc]; omega)).trans (alloc_new w o1), ?_⟩
  have := alloc_new (w.alloc o1) o2
  rwa [World.size_alloc] at this
theorem bef177 {N : Nat} (w : World) (B : Nat) (u1 u2 : Value) (x y : Tm (N + 1)) (a b : Int) (hB : B ≤ w.heap.size) (h1 : ItemsAt w B N u1 x.items) (h2 : ItemsAt w B N u2 y.items) (s1 : 300 * (nodesT x : Int) ≤ 1000000000000) (s2 : 300 * (nodesT y : Int) ≤ 1000000000000) :
    Calls Tryz.prog 177 #[.agg #[], aggV x.f u1, aggV y.f u2, .int .u32 a, .int .u32 b] w (BPost (befB false x y a b) w) := by
  have HL := Lib.hid (fun W (hW : Below w.heap.size w W) => Less W B u1 u2 x y (Nat.le_trans hB hW.size) (h1.below hW hB) (h2.below hW hB) s1 s2)
  have hbf : befB false x y a b = decide (cmpV x y < 0) := rfl
  rw [hbf]
  obtain ⟨pa, ca, rfl, _, _⟩ := h1.shape
  obtain ⟨pb, cb, rfl, _, _⟩ := h2.shape
  generalize decide (cmpV x y < 0) = q at *
  generalize x.items.length = na at *
  generalize y.items.length = nb at *
  generalize x.f = fa at *
  generalize y.f = fb at *
  clear h1 h2 s1 s2 hB hbf
  obtain ⟨k1, i1, j1, n1, f1, a1, b1, t1⟩ := fa
  obtain ⟨k2, i2, j2, n2, f2, a2, b2, t2⟩ := fb
  unfold aggV at *
  dsimp only at HL ⊢
  have hb0 := belowA (Below.refl w.heap.size w) (.cells #[] 93) (Nat.le_refl _)
  obtain ⟨hb1, hc1, hc2⟩ := two_boxes (w.alloc (.cells #[] 93)) (.cells #[.int .i64 k1, .int .i64 i1, .int .i64 j1, .string n1, .string f1, .int .i64 a1, .slice pa na ca, .string b1, .int .i64 t1] 24) (.cells #[.int .i64 k2, .int .i64 i2, .int .i64 j2, .string n2, .string f2, .int .i64 a2, .slice pb nb cb, .string b2, .int .i64 t2] 24)
  rw [World.size_alloc] at hc1 hc2
  have HB := Lib.hid (hb0.trans (hb1.mono hb0.size))
  have HN1 := Lib.hid (nine_of (f := ⟨k1, i1, j1, n1, f1, a1, b1, t1⟩) (v := .slice pa na ca) hc1)
  have HN2 := Lib.hid (nine_of (f := ⟨k2, i2, j2, n2, f2, a2, b2, t2⟩) (v := .slice pb nb cb) hc2)
  clear hb0 hb1 hc1 hc2
  go_enter Tryz.func177, Tryz.ntmps177
  go_upto_region 1 with (fail)
  generalize (((w.alloc (.cells #[] 93)).alloc (.cells #[.int .i64 k1, .int .i64 i1, .int .i64 j1, .string n1, .string f1, .int .i64 a1, .slice pa na ca, .string b1, .int .i64 t1] 24)).alloc (.cells #[.int .i64 k2, .int .i64 i2, .int .i64 j2, .string n2, .string f2, .int .i64 a2, .slice pb nb cb, .string b2, .int .i64 t2] 24)) = W1 at *
  obtain ⟨x0, x1, x2, x3, x4, x5, x6, x7, x8, xf⟩ := HN1.out
  obtain ⟨y0, y1, y2, y3, y4, y5, y6, y7, y8, yf⟩ := HN2.out
  dsimp only at x0 x1 x2 x3 x4 x5 x6 x7 x8 y0 y1 y2 y3 y4 y5 y6 y7 y8
  go_wp2_with fail
  refine (HL.out _ HB.out).mono ?_
  rintro e w2 ⟨rfl, hb2⟩
  have HB2 := Lib.hid (HB.out.trans (hb2.mono HB.out.size))
  clear hb2 x0 x1 x2 x3 x4 x5 x6 x7 x8 xf y0 y1 y2 y3 y4 y5 y6 y7 y8 yf
  go_wp2_with fail
  go_ret
  exact ⟨rfl, HB2.out⟩
theorem bef179 {N : Nat} (w : World) (B : Nat) (u1 u2 : Value) (x y : Tm (N + 1)) (a b : Int) (hB : B ≤ w.heap.size) (h1 : ItemsAt w B N u1 x.items) (h2 : ItemsAt w B N u2 y.items) (s1 : 300 * (nodesT x : Int) ≤ 1000000000000) (s2 : 300 * (nodesT y : Int) ≤ 1000000000000) :
    Calls Tryz.prog 179 #[.agg #[], aggV x.f u1, aggV y.f u2, .int .u32 a, .int .u32 b] w (BPost (befB true x y a b) w) := by
  have HL := Lib.hid (fun W (hW : Below w.heap.size w W) => Less W B u1 u2 x y (Nat.le_trans hB hW.size) (h1.below hW hB) (h2.below hW hB) s1 s2)
  have hbf : befB true x y a b = (decide (a < b) || ((a == b) && decide (cmpV x y < 0))) := rfl
  rw [hbf]
  obtain ⟨pa, ca, rfl, _, _⟩ := h1.shape
  obtain ⟨pb, cb, rfl, _, _⟩ := h2.shape
  generalize decide (cmpV x y < 0) = q at *
  generalize x.items.length = na at *
  generalize y.items.length = nb at *
  generalize x.f = fa at *
  generalize y.f = fb at *
  clear h1 h2 s1 s2 hB hbf
  obtain ⟨k1, i1, j1, n1, f1, a1, b1, t1⟩ := fa
  obtain ⟨k2, i2, j2, n2, f2, a2, b2, t2⟩ := fb
  unfold aggV at *
  dsimp only at HL ⊢
  have hb0 := belowA (Below.refl w.heap.size w) (.cells #[] 99) (Nat.le_refl _)
  obtain ⟨hb1, hc1, hc2⟩ := two_boxes (w.alloc (.cells #[] 99)) (.cells #[.int .i64 k1, .int .i64 i1, .int .i64 j1, .string n1, .string f1, .int .i64 a1, .slice pa na ca, .string b1, .int .i64 t1] 24) (.cells #[.int .i64 k2, .int .i64 i2, .int .i64 j2, .string n2, .string f2, .int .i64 a2, .slice pb nb cb, .string b2, .int .i64 t2] 24)
  rw [World.size_alloc] at hc1 hc2
  have HB := Lib.hid (hb0.trans (hb1.mono hb0.size))
  have HN1 := Lib.hid (nine_of (f := ⟨k1, i1, j1, n1, f1, a1, b1, t1⟩) (v := .slice pa na ca) hc1)
  have HN2 := Lib.hid (nine_of (f := ⟨k2, i2, j2, n2, f2, a2, b2, t2⟩) (v := .slice pb nb cb) hc2)
  clear hb0 hb1 hc1 hc2
  by_cases c1 : a < b
  · have hd : decide (a < b) = true := decide_eq_true c1
    rw [hd, Bool.true_or]
    go_enter Tryz.func179, Tryz.ntmps179
    go_upto_region 1 with (fail)
    generalize (((w.alloc (.cells #[] 99)).alloc (.cells #[.int .i64 k1, .int .i64 i1, .int .i64 j1, .string n1, .string f1, .int .i64 a1, .slice pa na ca, .string b1, .int .i64 t1] 24)).alloc (.cells #[.int .i64 k2, .int .i64 i2, .int .i64 j2, .string n2, .string f2, .int .i64 a2, .slice pb nb cb, .string b2, .int .i64 t2] 24)) = W1 at *
    obtain ⟨x0, x1, x2, x3, x4, x5, x6, x7, x8, xf⟩ := HN1.out
    obtain ⟨y0, y1, y2, y3, y4, y5, y6, y7, y8, yf⟩ := HN2.out
    dsimp only at x0 x1 x2 x3 x4 x5 x6 x7 x8 y0 y1 y2 y3 y4 y5 y6 y7 y8
    go_wp2_with fail
    go_ret
    exact ⟨rfl, HB.out⟩
  · have hd : decide (a < b) = false := decide_eq_false c1
    rw [hd, Bool.false_or]
    by_cases c2 : a = b
    · have he : (a == b) = true := by simp [c2]
      rw [he, Bool.true_and]
      clear c1 c2
      go_enter Tryz.func179, Tryz.ntmps179
      go_upto_region 1 with (fail)
      generalize (((w.alloc (.cells #[] 99)).alloc (.cells #[.int .i64 k1, .int .i64 i1, .int .i64 j1, .string n1, .string f1, .int .i64 a1, .slice pa na ca, .string b1, .int .i64 t1] 24)).alloc (.cells #[.int .i64 k2, .int .i64 i2, .int .i64 j2, .string n2, .string f2, .int .i64 a2, .slice pb nb cb, .string b2, .int .i64 t2] 24)) = W1 at *
      obtain ⟨x0, x1, x2, x3, x4, x5, x6, x7, x8, xf⟩ := HN1.out
      obtain ⟨y0, y1, y2, y3, y4, y5, y6, y7, y8, yf⟩ := HN2.out
      dsimp only at x0 x1 x2 x3 x4 x5 x6 x7 x8 y0 y1 y2 y3 y4 y5 y6 y7 y8
      go_wp2_with fail
      refine (HL.out _ HB.out).mono ?_
      rintro e w2 ⟨rfl, hb2⟩
      have HB2 := Lib.hid (HB.out.trans (hb2.mono HB.out.size))
      clear hb2 x0 x1 x2 x3 x4 x5 x6 x7 x8 xf y0 y1 y2 y3 y4 y5 y6 y7 y8 yf
      go_wp2_with fail
      go_ret
      exact ⟨rfl, HB2.out⟩
    · have he : (a == b) = false := by simp [c2]
      rw [he, Bool.false_and]
      clear c1 c2
      go_enter Tryz.func179, Tryz.ntmps179
      go_upto_region 1 with (fail)
      generalize (((w.alloc (.cells #[] 99)).alloc (.cells #[.int .i64 k1, .int .i64 i1, .int .i64 j1, .string n1, .string f1, .int .i64 a1, .slice pa na ca, .string b1, .int .i64 t1] 24)).alloc (.cells #[.int .i64 k2, .int .i64 i2, .int .i64 j2, .string n2, .string f2, .int .i64 a2, .slice pb nb cb, .string b2, .int .i64 t2] 24)) = W1 at *
      obtain ⟨x0, x1, x2, x3, x4, x5, x6, x7, x8, xf⟩ := HN1.out
      obtain ⟨y0, y1, y2, y3, y4, y5, y6, y7, y8, yf⟩ := HN2.out
      dsimp only at x0 x1 x2 x3 x4 x5 x6 x7 x8 y0 y1 y2 y3 y4 y5 y6 y7 y8
      go_wp2_with fail
      go_ret
      exact ⟨rfl, HB.out⟩
end Go.Proofs.YtfbggmbmgohiiaaGreat.tb
