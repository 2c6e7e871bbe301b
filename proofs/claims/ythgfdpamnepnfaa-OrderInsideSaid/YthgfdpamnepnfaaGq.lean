/- Several texts in one, one behind the other: TnV, TnW, TnX. No condition beyond theirs. -/
import Derived.Test.YthgfdpamnepnfaaGp
/- order.Search; Unique's closure; two equal terms are made one. Conditions: as said. -/
namespace Go.Proofs.Ythgfdpamnepnfaa.tm
open Go.RowKit mem names
set_option linter.unusedVariables false
set_option linter.unusedSimpArgs false
set_option maxHeartbeats 1000000
set_option maxRecDepth 100000

theorem ord_le {n : Nat} {l : List (Tm (n + 1))} (h : ordB l = true) : ∀ (k a : Nat), (hb : a + k < l.length) → cmpV l[a] l[a + k] ≤ 0
  | 0, a, hb => by have := (tpV (n := n)).refl l[a]; simp only [Nat.add_zero]; omega
  | k + 1, a, hb => by
    have h1 := ord_le h k a (by omega)
    have h2 := of_ordB h (a + k) (by omega)
    have e := (tpV (n := n)).anti l[a + k] l[a + k + 1]
    show cmpV l[a] l[a + k + 1] ≤ 0
    have h2' : 0 ≤ cmpV l[a + k + 1] l[a + k] := h2
    exact (tpV (n := n)).trans _ _ _ trivial trivial trivial h1 (by omega)
theorem ord_mono {n : Nat} {l : List (Tm (n + 1))} (h : ordB l = true) (t : Tm (n + 1)) : ∀ a b, (ha : a ≤ b) → (hb : b < l.length) → cmpV l[b] t < 0 → cmpV (l[a]'(by omega)) t < 0 := by
  intro a b ha hb h1
  have h2 := ord_le h (b - a) a (by omega)
  have e : a + (b - a) = b := by omega
  simp only [e] at h2
  have h3 := (tpV (n := n)).trans _ _ _ trivial trivial trivial h2 (Int.le_of_lt h1)
  by_cases hz : cmpV (l[a]'(by omega)) t = 0
  · have := (tpV (n := n)).zero trivial trivial trivial h2 (Int.le_of_lt h1) hz
    omega
  · omega
theorem searchW {n : Nat} (w : World) (B : Nat) (v v2 : Value) (l : List (Tm (n + 1))) (t : Tm (n + 1)) (hB : B ≤ w.heap.size) (h1 : ItemsAt w B (n + 1) v l) (h2 : ItemsAt w B n v2 t.items) (s1 : nodesL (n + 1) l ≤ 100000000) (s2 : nodesT t ≤ 100000000) :
    Calls Try.prog 27 #[v, aggV t.f v2] w (SPost2 (if ordB l = true then searchK l t else 0) (if ordB l = true then foundB l t else false) w) := by
  have HO := Lib.hid (fun W (hb : Below w.heap.size w W) => Ordered W B v l (Nat.le_trans hB hb.size) (h1.below hb hB) s1)
  have HS := Lib.hid (fun (h : ordB l = true) W (hb : Below w.heap.size w W) => binSearch W B v v2 l t (Nat.le_trans hB hb.size) (h1.below hb hB) (h2.below hb hB) s1 s2 (ord_mono h t))
  obtain ⟨p, c, rfl, _, _⟩ := h1.shape
  obtain ⟨q, d, rfl, _, _⟩ := h2.shape
  obtain ⟨f, hf⟩ : ∃ f, t.f = f := ⟨_, rfl⟩
  rw [hf] at HS ⊢
  clear hf h1 h2 s1 s2
  generalize t.items.length = m at *
  generalize searchK l t = K at *
  generalize foundB l t = R at *
  generalize ordB l = O at *
  obtain ⟨k1, i1, g1, n1, fn1, a1, by1, s1⟩ := f
  unfold aggV SPost2 BPost at *
  dsimp only at *
  have hb1 : Below w.heap.size w (w.alloc (cells9 ⟨k1, i1, g1, n1, fn1, a1, by1, s1⟩ (.slice q m d))) := (Below.refl _ _).alloc (Nat.le_refl _) _
  unfold cells9 at hb1
  dsimp only at hb1
  have HO1 := Lib.hid (HO.out _ hb1)
  have HB1 := Lib.hid hb1
  clear hb1 HO
  cases O
  · go_enter Try.func27, Try.ntmps27
    go_wp2_with fail
    refine HO1.out.mono ?_
    rintro e w1 ⟨rfl, hb2⟩
    have hb3 := HB1.out.trans (hb2.mono HB1.out.size)
    go_wp2_with fail
    go_ret2
    exact ⟨rfl, hb3⟩
  · have HS1 := Lib.hid (HS.out rfl)
    have HN := Lib.hid (box1 w ⟨k1, i1, g1, n1, fn1, a1, by1, s1⟩ (.slice q m d))
    unfold cells9 at HN
    dsimp only at HN
    go_enter Try.func27, Try.ntmps27
    go_wp2_with fail
    refine HO1.out.mono ?_
    rintro e w1 ⟨rfl, hb2⟩
    have hb3 := HB1.out.trans (hb2.mono HB1.out.size)
    have hn := HN.out.1.below hb2 (by simp)
    obtain ⟨x0, x1, x2, x3, x4, x5, x6, x7, x8, xz⟩ := hn
    dsimp only at x0 x1 x2 x3 x4 x5 x6 x7 x8
    have HS2 := Lib.hid (HS1.out w1 hb3)
    clear HS HS1 HO1
    go_wp2_with fail
    refine HS2.out.mono ?_
    rintro e w2 ⟨rfl, hb4⟩
    have hb5 := hb3.trans (hb4.mono hb3.size)
    go_wp2_with fail
    go_ret2
    exact ⟨rfl, hb5⟩
theorem uniqClosure (x y : TF) (p1 p2 : Option Addr) (m1 c1 m2 c2 : Nat) (r : Int) (w : World)
    (hC : ∀ W, Below w.heap.size w W → Calls Try.prog 14 #[aggV x (.slice p1 m1 c1), aggV y (.slice p2 m2 c2)] W (IPostC r W)) :
    Calls Try.prog 46 #[aggV x (.slice p1 m1 c1), aggV y (.slice p2 m2 c2)] w (BPost (decide (r = 0)) w) := by
  have HC := Lib.hid hC
  clear hC
  obtain ⟨k1, i1, g1, n1, fn1, a1, b1, s1⟩ := x
  obtain ⟨k2, i2, g2, n2, fn2, a2, b2, s2⟩ := y
  unfold aggV BPost IPostC at *
  dsimp only at *
  go_enter Try.func46, Try.ntmps46
  go_wp2_with fail
  refine (HC.out _ (((Below.refl _ _).alloc (Nat.le_refl _) _).alloc (by simp) _)).mono ?_
  rintro e w3 ⟨rfl, hb3⟩
  go_wp2_with fail
  go_ret
  exact ⟨rfl, (((Below.refl _ _).alloc (Nat.le_refl _) _).alloc (by simp) _).trans (hb3.mono (by simp; omega))⟩
theorem zeroCells24 (n : Nat) : (Builtin.zeroCells #[.int .i64 0, .int .i64 0, .int .i64 0, .string ⟨#[]⟩, .string ⟨#[]⟩, .int .i64 0, .slice none 0 0, .string ⟨#[]⟩, .int .i64 0] n).toList = flatR (List.replicate n (zeroF, nilV)) := by
  apply List.ext_getElem?
  intro i
  have hl := flatR_len (List.replicate n (zeroF, nilV))
  by_cases h : i < n * 9
  · obtain ⟨j, r, hr, rfl⟩ : ∃ j r, r < 9 ∧ i = j * 9 + r := ⟨i / 9, i % 9, by omega, by omega⟩
    rw [flatR_get _ j (by simp; omega) r hr, List.getElem_replicate]
    have e : (j * 9 + r) % 9 = r := by omega
    simp only [Builtin.zeroCells, Array.toList_map, Array.toList_range, List.getElem?_map]
    rw [List.getElem?_range (by simpa using h)]
    show some (#[_, _, _, _, _, _, _, _, _][(j * 9 + r) % 9]!) = _
    rw [e]
    unfold nineL zeroF nilV
    rcases (show r = 0 ∨ r = 1 ∨ r = 2 ∨ r = 3 ∨ r = 4 ∨ r = 5 ∨ r = 6 ∨ r = 7 ∨ r = 8 by omega) with rfl | rfl | rfl | rfl | rfl | rfl | rfl | rfl | rfl <;> rfl
  · rw [List.getElem?_eq_none (by simp [Builtin.zeroCells]; omega), List.getElem?_eq_none (by rw [hl]; simp; omega)]
theorem clear24 (W : World) (g : Nat) (cur : Array Value) (h : W.heap[g]? = some (.cells cur 24 (0, 0))) (o n c ty : Nat) (hn : 0 < n) (ho : o + n * 9 ≤ cur.size) :
    (Builtin.clear_ #[22] ty #[.slice (some ⟨g, o, none⟩) n c]).run Try.prog W = .ok (.tuple #[]) (W.setRow g (cur.toList.take o ++ flatR (List.replicate n (zeroF, nilV)) ++ cur.toList.drop (o + n * 9)).toArray) := by
  have hl := flatR_len (List.replicate n (zeroF, nilV))
  simp only [List.length_replicate] at hl
  have h1 : ∀ v ∈ flatR (List.replicate n (zeroF, nilV)), v.oneCell' = true := by
    intro v hv
    unfold flatR at hv
    rw [List.mem_flatMap] at hv
    obtain ⟨r, hr, hv⟩ := hv
    rw [List.mem_replicate] at hr
    obtain ⟨_, rfl⟩ := hr
    exact nine_one _ _ _ _ v hv
  have hst := run_storeCells_at (P := Try.prog) g o 24 (flatR (List.replicate n (zeroF, nilV))) 0 cur W h (by rw [hl]; simpa using ho) h1
  rw [Nat.add_zero, hl] at hst
  obtain ⟨m, rfl⟩ : ∃ m, n = m + 1 := ⟨n - 1, by omega⟩
  have hz := zeroCells24 (m + 1)
  have hzv : (zeroValue 24).run Try.prog W = .ok (.agg #[.int .i64 0, .int .i64 0, .int .i64 0, .string ⟨#[]⟩, .string ⟨#[]⟩, .int .i64 0, .slice none 0 0, .string ⟨#[]⟩, .int .i64 0]) W := Try.zeroValue24 W
  simp [Builtin.clear_, run_underlying Try.underlying22, hzv, Value.cells, hz, hst]
theorem setRow_touch (W : World) (g : Nat) (cs : Array Value) : TouchB (fun k => k = g) W (W.setRow g cs) := ⟨rfl, rfl, rfl, by simp, fun k _ hk => setRow_other W g k cs hk⟩
theorem compactTwo (b : Nat) (f1 f2 : TF) (p1 p2 : Option Addr) (m1 c1 m2 c2 : Nat) (w : World) (hb : b < w.heap.size) (h1 : Cells w b 9 f1 (.slice p1 m1 c1)) (h2 : Cells w b 0 f2 (.slice p2 m2 c2)) (cur : Array Value) (h0 : w.heap[b]? = some (.cells cur 24 (0, 0))) (h18 : 18 ≤ cur.size)
    (hC : ∀ W, Below w.heap.size w W → Calls Try.prog 46 #[aggV f1 (.slice p1 m1 c1), aggV f2 (.slice p2 m2 c2)] W (BPost true W)) :
    Calls Try.prog 45 #[.slice (some ⟨b, 0, none⟩) 2 2, .func (.func 46) #[] #[]] w (fun e w' => e = .returned (.slice (some ⟨b, 0, none⟩) 1 2) ∧ TouchB (fun k => k = b) w w') := by
  obtain ⟨x0, x1, x2, x3, x4, x5, x6, x7, x8⟩ := h1
  obtain ⟨y0, y1, y2, y3, y4, y5, y6, y7, y8⟩ := h2
  have HC := Lib.hid (hC w.drew ((Below.refl _ w).drewN 1))
  clear hC
  obtain ⟨k1, i1, g1, n1, fn1, a1, by1, s1⟩ := f1
  obtain ⟨k2, i2, g2, n2, fn2, a2, by2, s2⟩ := f2
  unfold aggV BPost at HC
  dsimp only at HC x0 x1 x2 x3 x4 x5 x6 x7 x8 y0 y1 y2 y3 y4 y5 y6 y7 y8
  simp only [Nat.reduceAdd, Nat.zero_add] at x1 x2 x3 x4 x5 x6 x7 x8 y1 y2 y3 y4 y5 y6 y7 y8
  have hw0 : IntKind.i64.wrap 0 = 0 := IntWalk.i64_in _ (by omega)
  go_enter Try.func45, Try.ntmps45
  go_wp2_with fail
  refine wp_loop_rounds 1 ?_
  rw [rounds_succ]
  go_wp2_with fail
  go_still_tail 10, (by kernel_rfl)
  change wpList _ _ _ _ _ w.drew
  go_wp2_with fail
  refine HC.out.mono ?_
  rintro e w1 ⟨rfl, hb1⟩
  have h01 : w1.heap[b]? = some (.cells cur 24 (0, 0)) := (hb1.block b hb).trans h0
  have hcl := fun ty => clear24 w1 b cur h01 9 1 1 ty (by omega) (by omega)
  have ht := (TouchB.refl (fun k => k = b) w).ofBelow (((Below.refl _ w).drewN 1).trans hb1) (Nat.le_refl _)
  have HFin := Lib.hid (ht.trans (setRow_touch w1 b (cur.toList.take 9 ++ flatR (List.replicate 1 (zeroF, nilV)) ++ cur.toList.drop (9 + 1 * 9)).toArray) (fun _ _ e => e))
  generalize (cur.toList.take 9 ++ flatR (List.replicate 1 (zeroF, nilV)) ++ cur.toList.drop (9 + 1 * 9)).toArray = Z at *
  clear ht h01 h0 hb1 HC
  go_wp2_with fail
  refine wp_loop_rounds 1 ?_
  rw [rounds_succ]
  go_wp2_with fail
  go_ret
  exact ⟨rfl, HFin.out⟩
end Go.Proofs.Ythgfdpamnepnfaa.tm
/- The examples that every statement of the chapter asks for: shown. No condition. -/
namespace Go.Proofs.Ythgfdpamnepnfaa.tm
open Go.RowKit mem names
set_option linter.unusedVariables false
set_option linter.unusedSimpArgs false
set_option maxHeartbeats 1000000
set_option maxRecDepth 100000

def oneF : TF := ⟨1, 1, 0, ⟨#[]⟩, ⟨#[]⟩, 0, ⟨#[]⟩, 0⟩
def aF : TF := ⟨2, 0, 0, ⟨#[97]⟩, ⟨#[]⟩, 0, ⟨#[]⟩, 0⟩
def oneT : Tm 1 := Tm.mk oneF []
def aT : Tm 1 := Tm.mk aF []
theorem validT_leaf (f : TF) (h1 : inB f.kind 0 10 = true) (h2 : okF f 0 0 = true) (h3 : ({ bareF f with kind := 0 } : TF) = zeroF) (h4 : sizeF f 0 ≤ 2000) : validT (Tm.mk f [] : Tm 1) = true := by
  have hb : bareOK f 0 = true := by
    unfold bareOK
    rw [eqB_t h3]
    simp
  have ho : okT (Tm.mk f [] : Tm 1) = true := by
    unfold okT
    simp only [Bool.and_eq_true]
    exact ⟨h1, h2, hb⟩
  have hf : formedT (Tm.mk f [] : Tm 1) = true := by
    unfold formedT
    rw [ho]; rfl
  unfold validT
  rw [hf]
  have e : wholeT (Tm.mk f [] : Tm 1) = sizeF f 0 := by show sizeF f 0 + 0 = _; omega
  rw [e]
  simp [h4]
theorem valid_one : validT oneT = true := validT_leaf oneF (by decide) (by decide) (by simp [bareF, oneF, zeroF]) (by decide)
theorem valid_a : validT aT = true := validT_leaf aF (by decide) (by rw [show okF aF 0 0 = vName aF.name from rfl]; decide) (by simp [bareF, aF, zeroF]) (by decide)
theorem cmp_1a : cmpV oneT aT = -1 := by
  unfold cmpV
  rw [valid_one, valid_a, if_pos rfl, if_pos rfl, cmp_body]
  rfl
theorem cmp_a1 : cmpV aT oneT = 1 := by
  have := (tpV (n := 0)).anti oneT aT
  rw [cmp_1a] at this
  omega
theorem cmp_aa : cmpV aT aT = 0 := (tpV (n := 0)).refl aT
theorem sort_a1 : sortL [aT, oneT] = [oneT, aT] := by
  have h := sort_unique (tpV (n := 0)) [aT, oneT] [(1, oneT), (0, aT)] (List.Perm.swap _ _ _) (by
    simp only [List.pairwise_cons, List.mem_cons, List.mem_nil_iff, or_false, forall_eq, List.Pairwise.nil, and_true]
    refine ⟨.inl ?_, fun x h => h.elim⟩
    show cmpV oneT aT < 0
    rw [cmp_1a]; omega)
  exact h.symm
theorem ord_1a : ordB [oneT, aT] = true := ordB_t (fun j h => by
  obtain rfl : j = 0 := by simp at h; omega
  show 0 ≤ cmpV aT oneT
  rw [cmp_a1]; omega)
theorem ord_a1 : ordB [aT, oneT] = false := ordB_f (j := 0) (by simp) (by show cmpV oneT aT < 0; rw [cmp_1a]; omega)
theorem search_1a : searchK [oneT, aT] aT = 1 := search_is _ _ 1 (by simp) (fun j h hj => by
  obtain rfl : j = 0 := by omega
  show cmpV oneT aT < 0
  rw [cmp_1a]; omega) (fun _ => by show 0 ≤ cmpV aT aT; rw [cmp_aa]; omega)
theorem found_1a : foundB [oneT, aT] aT = true := by
  unfold foundB
  rw [search_1a]
  show decide (cmpV aT aT = 0) = true
  rw [cmp_aa]; rfl
/-- two terms in a new block -/
theorem two_items (w : World) (f1 f2 : TF) : ItemsAt (w.alloc (.cells #[.int .i64 f1.kind, .int .i64 f1.int, .int .i64 f1.gen, .string f1.name, .string f1.func, .int .i64 f1.arity, .slice none 0 0, .string f1.bytes, .int .i64 f1.bits, .int .i64 f2.kind, .int .i64 f2.int, .int .i64 f2.gen, .string f2.name, .string f2.func, .int .i64 f2.arity, .slice none 0 0, .string f2.bytes, .int .i64 f2.bits] 24)) (w.heap.size + 1) 1 (.slice (some ⟨w.heap.size, 0, none⟩) 2 2) [(Tm.mk f1 [] : Tm 1), Tm.mk f2 []] := by
  have hA := (MapKept.heap_alloc w (.cells #[.int .i64 f1.kind, .int .i64 f1.int, .int .i64 f1.gen, .string f1.name, .string f1.func, .int .i64 f1.arity, .slice none 0 0, .string f1.bytes, .int .i64 f1.bits, .int .i64 f2.kind, .int .i64 f2.int, .int .i64 f2.gen, .string f2.name, .string f2.func, .int .i64 f2.arity, .slice none 0 0, .string f2.bytes, .int .i64 f2.bits] 24)).1
  refine ⟨_, _, rfl, Nat.le_refl _, by unfold maxLen; simp, fun _ => ⟨_, 0, rfl, by omega, fun j hj => ⟨.slice none 0 0, ?_, none, 0, rfl, Nat.zero_le _⟩⟩⟩
  rcases (show j = 0 ∨ j = 1 by simp at hj; omega) with rfl | rfl
  · refine Cells.of fun i hi => ?_
    rw [cell_of_row _ _ _ _ _ _ hA]
    show _ = (nineL f1 (.slice none 0 0))[i]?
    rcases (show i = 0 ∨ i = 1 ∨ i = 2 ∨ i = 3 ∨ i = 4 ∨ i = 5 ∨ i = 6 ∨ i = 7 ∨ i = 8 by omega) with rfl | rfl | rfl | rfl | rfl | rfl | rfl | rfl | rfl <;> rfl
  · refine Cells.of fun i hi => ?_
    rw [cell_of_row _ _ _ _ _ _ hA]
    show _ = (nineL f2 (.slice none 0 0))[i]?
    rcases (show i = 0 ∨ i = 1 ∨ i = 2 ∨ i = 3 ∨ i = 4 ∨ i = 5 ∨ i = 6 ∨ i = 7 ∨ i = 8 by omega) with rfl | rfl | rfl | rfl | rfl | rfl | rfl | rfl | rfl <;> rfl
theorem uniqTwo (w : World) (B : Nat) (v : Value) (x : Tm 1) (hx : 300 * (nodesT x : Int) ≤ 100000000) (hc : cmpV x x = 0) (hB : B ≤ w.heap.size) (h : ItemsAt w B 1 v [x, x]) (hn : nodesL 1 [x, x] ≤ 100000000) :
    Calls Try.prog 25 #[v] w (fun e w' => ∃ g, e = .returned (.slice (some ⟨g, 0, none⟩) 1 2) ∧ Below w.heap.size w w') := by
  have hS := sortW stable19 w B v [x, x] hB h hn (by simp) (by omega)
  have hsl : sortL [x, x] = [x, x] := by
    have h := sort_unique (tpV (n := 0)) [x, x] [(0, x), (1, x)] (List.Perm.refl _) (by
      simp only [List.pairwise_cons, List.mem_cons, List.mem_nil_iff, or_false, forall_eq, List.Pairwise.nil, and_true]
      exact ⟨.inr ⟨hc, by show 0 < 1; omega⟩, fun x h => h.elim⟩)
    exact h.symm
  rw [hsl] at hS
  have HS := Lib.hid hS
  obtain ⟨p, c, rfl, _, _⟩ := h.shape
  clear hS h hn
  unfold LPost at HS
  go_enter Try.func25, Try.ntmps25
  go_wp2_with fail
  refine HS.out.mono ?_
  rintro e w1 ⟨F, g, rfl, hnew, hF⟩
  have hC2 : Hid (Calls Try.prog 45 #[.slice (some ⟨g, 0, none⟩) 2 2, .func (.func 46) #[] #[]] w1 (fun e w' => e = .returned (.slice (some ⟨g, 0, none⟩) 1 2) ∧ TouchB (fun k => k = g) w1 w')) := by
    have hit := hnew.items.toAt (B := w1.heap.size) (fun g hg => (hnew.inr g hg).2)
    obtain ⟨g', o, c', e, _, _, hg, hel⟩ := hit.at_ (by simp)
    simp only [Value.slice.injEq, Option.some.injEq, Addr.mk.injEq] at e
    obtain ⟨⟨rfl, rfl, _⟩, _, _⟩ := e
    obtain ⟨u1, k1, k2⟩ := hel 1 (by simp)
    obtain ⟨u2, k3, k4⟩ := hel 0 (by simp)
    obtain ⟨q1, d1, rfl, _, _⟩ := k2.shape
    obtain ⟨q2, d2, rfl, _, _⟩ := k4.shape
    obtain ⟨cur, N, t1, t2, _⟩ := hnew.typed g hF
    have hN : 18 ≤ cur.size := by
      have h8 := k1.c8
      rw [cell_of_row _ _ _ _ _ _ t1] at h8
      have := (Array.getElem?_eq_some_iff.1 h8).1
      omega
    exact Lib.hid (compactTwo g x.f x.f q1 q2 _ d1 _ d2 w1 hg (by simpa using k1) (by simpa using k3) cur t1 hN (fun W hb => by
      have := uniqClosure x.f x.f q1 q2 _ d1 _ d2 0 W (fun W' hb' => by
        have hcc := Compare W' w1.heap.size _ _ x x (Nat.le_trans hb.size hb'.size) ((k2.below hb (Nat.le_refl _)).below hb' hb.size) ((k4.below hb (Nat.le_refl _)).below hb' hb.size) (by omega) (by omega)
        rw [hc] at hcc
        exact hcc)
      exact this))
  have hbw := hnew.below
  have hinr := hnew.inr g hF
  clear hnew
  go_wp2_with fail
  refine hC2.out.mono ?_
  rintro e w2 ⟨rfl, ht⟩
  have hb2 : Below w.heap.size w w2 := ⟨ht.os.trans hbw.os, ht.tape.trans hbw.tape, ht.output.trans hbw.output, Nat.le_trans hbw.size ht.size, fun k hk => (ht.block k (by omega) (by omega)).trans (hbw.block k hk)⟩
  clear ht
  go_wp2_with fail
  go_ret
  exact ⟨g, rfl, hb2⟩
end Go.Proofs.Ythgfdpamnepnfaa.tm
/- shown: the walk. No condition. -/
namespace Go.Proofs.Ythgfdpamnepnfaa.tm
open Go.RowKit mem names
set_option linter.unusedVariables false
set_option linter.unusedSimpArgs false
set_option maxHeartbeats 1000000
set_option maxRecDepth 100000

theorem Int35 (k : Int) (w : World) : Calls Try.prog 35 #[.int .i64 k] w (VPost (.agg #[.int .i64 1, .int .i64 k, .int .i64 0, .string ⟨#[]⟩, .string ⟨#[]⟩, .int .i64 0, .slice none 0 0, .string ⟨#[]⟩, .int .i64 0]) w) := by
  unfold VPost
  go_enter Try.func35, Try.ntmps35
  go_wp2_with fail
  exact bodyPost_ret (v := .agg #[.int .i64 1, .int .i64 k, .int .i64 0, .string ⟨#[]⟩, .string ⟨#[]⟩, .int .i64 0, .slice none 0 0, .string ⟨#[]⟩, .int .i64 0]) (by simp [results, Try.results35, go_sem, *]) rfl ⟨rfl, by (repeat' (first | with_reducible exact Below.refl _ _ | with_reducible refine Below.alloc ?_ ?_ _ | with_reducible exact Nat.le_refl _ | with_reducible refine Below.setCell ?_ ?_ _))⟩
theorem Atom36 (s : ByteArray) (w : World) : Calls Try.prog 36 #[.string s] w (VPost (.agg #[.int .i64 2, .int .i64 0, .int .i64 0, .string s, .string ⟨#[]⟩, .int .i64 0, .slice none 0 0, .string ⟨#[]⟩, .int .i64 0]) w) := by
  unfold VPost
  go_enter Try.func36, Try.ntmps36
  go_wp2_with fail
  exact bodyPost_ret (v := .agg #[.int .i64 2, .int .i64 0, .int .i64 0, .string s, .string ⟨#[]⟩, .int .i64 0, .slice none 0 0, .string ⟨#[]⟩, .int .i64 0]) (by simp [results, Try.results36, go_sem, *]) rfl ⟨rfl, by (repeat' (first | with_reducible exact Below.refl _ _ | with_reducible refine Below.alloc ?_ ?_ _ | with_reducible exact Nat.le_refl _ | with_reducible refine Below.setCell ?_ ?_ _))⟩
theorem cmp1A (w : World) : Calls Try.prog 14 #[.agg #[.int .i64 1, .int .i64 1, .int .i64 0, .string ⟨#[]⟩, .string ⟨#[]⟩, .int .i64 0, .slice none 0 0, .string ⟨#[]⟩, .int .i64 0], .agg #[.int .i64 2, .int .i64 0, .int .i64 0, .string ⟨#[97]⟩, .string ⟨#[]⟩, .int .i64 0, .slice none 0 0, .string ⟨#[]⟩, .int .i64 0]] w fun e w' => e = .returned (.int .i64 (-1)) ∧ Below w.heap.size w w' := by
  have := Compare w 0 (.slice none 0 0) (.slice none 0 0) oneT aT (Nat.zero_le _) ⟨none, 0, rfl, Nat.zero_le _⟩ ⟨none, 0, rfl, Nat.zero_le _⟩ (by decide) (by decide)
  rw [cmp_1a] at this
  exact this
theorem cmpA1 (w : World) : Calls Try.prog 14 #[.agg #[.int .i64 2, .int .i64 0, .int .i64 0, .string ⟨#[97]⟩, .string ⟨#[]⟩, .int .i64 0, .slice none 0 0, .string ⟨#[]⟩, .int .i64 0], .agg #[.int .i64 1, .int .i64 1, .int .i64 0, .string ⟨#[]⟩, .string ⟨#[]⟩, .int .i64 0, .slice none 0 0, .string ⟨#[]⟩, .int .i64 0]] w fun e w' => e = .returned (.int .i64 1) ∧ Below w.heap.size w w' := by
  have := Compare w 0 (.slice none 0 0) (.slice none 0 0) aT oneT (Nat.zero_le _) ⟨none, 0, rfl, Nat.zero_le _⟩ ⟨none, 0, rfl, Nat.zero_le _⟩ (by decide) (by decide)
  rw [cmp_a1] at this
  exact this
theorem less1A (w : World) : Calls Try.prog 15 #[.agg #[.int .i64 1, .int .i64 1, .int .i64 0, .string ⟨#[]⟩, .string ⟨#[]⟩, .int .i64 0, .slice none 0 0, .string ⟨#[]⟩, .int .i64 0], .agg #[.int .i64 2, .int .i64 0, .int .i64 0, .string ⟨#[97]⟩, .string ⟨#[]⟩, .int .i64 0, .slice none 0 0, .string ⟨#[]⟩, .int .i64 0]] w fun e w' => e = .returned (.bool true) ∧ Below w.heap.size w w' := by
  have := Less w 0 (.slice none 0 0) (.slice none 0 0) oneT aT (Nat.zero_le _) ⟨none, 0, rfl, Nat.zero_le _⟩ ⟨none, 0, rfl, Nat.zero_le _⟩ (by decide) (by decide)
  rw [cmp_1a] at this
  exact this
theorem lessA1 (w : World) : Calls Try.prog 15 #[.agg #[.int .i64 2, .int .i64 0, .int .i64 0, .string ⟨#[97]⟩, .string ⟨#[]⟩, .int .i64 0, .slice none 0 0, .string ⟨#[]⟩, .int .i64 0], .agg #[.int .i64 1, .int .i64 1, .int .i64 0, .string ⟨#[]⟩, .string ⟨#[]⟩, .int .i64 0, .slice none 0 0, .string ⟨#[]⟩, .int .i64 0]] w fun e w' => e = .returned (.bool false) ∧ Below w.heap.size w w' := by
  have := Less w 0 (.slice none 0 0) (.slice none 0 0) aT oneT (Nat.zero_le _) ⟨none, 0, rfl, Nat.zero_le _⟩ ⟨none, 0, rfl, Nat.zero_le _⟩ (by decide) (by decide)
  rw [cmp_a1] at this
  exact this
theorem ordA1 (w : World) : Calls Try.prog 21 #[.slice (some ⟨w.heap.size, 0, none⟩) 2 2] (w.alloc (.cells #[.int .i64 2, .int .i64 0, .int .i64 0, .string ⟨#[97]⟩, .string ⟨#[]⟩, .int .i64 0, .slice none 0 0, .string ⟨#[]⟩, .int .i64 0, .int .i64 1, .int .i64 1, .int .i64 0, .string ⟨#[]⟩, .string ⟨#[]⟩, .int .i64 0, .slice none 0 0, .string ⟨#[]⟩, .int .i64 0] 24)) fun e w' => e = .returned (.bool false) ∧ Below (w.alloc (.cells #[.int .i64 2, .int .i64 0, .int .i64 0, .string ⟨#[97]⟩, .string ⟨#[]⟩, .int .i64 0, .slice none 0 0, .string ⟨#[]⟩, .int .i64 0, .int .i64 1, .int .i64 1, .int .i64 0, .string ⟨#[]⟩, .string ⟨#[]⟩, .int .i64 0, .slice none 0 0, .string ⟨#[]⟩, .int .i64 0] 24)).heap.size (w.alloc (.cells #[.int .i64 2, .int .i64 0, .int .i64 0, .string ⟨#[97]⟩, .string ⟨#[]⟩, .int .i64 0, .slice none 0 0, .string ⟨#[]⟩, .int .i64 0, .int .i64 1, .int .i64 1, .int .i64 0, .string ⟨#[]⟩, .string ⟨#[]⟩, .int .i64 0, .slice none 0 0, .string ⟨#[]⟩, .int .i64 0] 24)) w' := by
  have := Ordered (w.alloc (.cells #[.int .i64 2, .int .i64 0, .int .i64 0, .string ⟨#[97]⟩, .string ⟨#[]⟩, .int .i64 0, .slice none 0 0, .string ⟨#[]⟩, .int .i64 0, .int .i64 1, .int .i64 1, .int .i64 0, .string ⟨#[]⟩, .string ⟨#[]⟩, .int .i64 0, .slice none 0 0, .string ⟨#[]⟩, .int .i64 0] 24)) (w.heap.size + 1) _ [aT, oneT] (by simp) (two_items w aF oneF) (by decide)
  rw [ord_a1] at this
  exact this
theorem uniqAA (w : World) : Calls Try.prog 25 #[.slice (some ⟨w.heap.size, 0, none⟩) 2 2] (w.alloc (.cells #[.int .i64 2, .int .i64 0, .int .i64 0, .string ⟨#[97]⟩, .string ⟨#[]⟩, .int .i64 0, .slice none 0 0, .string ⟨#[]⟩, .int .i64 0, .int .i64 2, .int .i64 0, .int .i64 0, .string ⟨#[97]⟩, .string ⟨#[]⟩, .int .i64 0, .slice none 0 0, .string ⟨#[]⟩, .int .i64 0] 24)) fun e w' => ∃ g, e = .returned (.slice (some ⟨g, 0, none⟩) 1 2) ∧ Below (w.alloc (.cells #[.int .i64 2, .int .i64 0, .int .i64 0, .string ⟨#[97]⟩, .string ⟨#[]⟩, .int .i64 0, .slice none 0 0, .string ⟨#[]⟩, .int .i64 0, .int .i64 2, .int .i64 0, .int .i64 0, .string ⟨#[97]⟩, .string ⟨#[]⟩, .int .i64 0, .slice none 0 0, .string ⟨#[]⟩, .int .i64 0] 24)).heap.size (w.alloc (.cells #[.int .i64 2, .int .i64 0, .int .i64 0, .string ⟨#[97]⟩, .string ⟨#[]⟩, .int .i64 0, .slice none 0 0, .string ⟨#[]⟩, .int .i64 0, .int .i64 2, .int .i64 0, .int .i64 0, .string ⟨#[97]⟩, .string ⟨#[]⟩, .int .i64 0, .slice none 0 0, .string ⟨#[]⟩, .int .i64 0] 24)) w' :=
  uniqTwo (w.alloc (.cells #[.int .i64 2, .int .i64 0, .int .i64 0, .string ⟨#[97]⟩, .string ⟨#[]⟩, .int .i64 0, .slice none 0 0, .string ⟨#[]⟩, .int .i64 0, .int .i64 2, .int .i64 0, .int .i64 0, .string ⟨#[97]⟩, .string ⟨#[]⟩, .int .i64 0, .slice none 0 0, .string ⟨#[]⟩, .int .i64 0] 24)) (w.heap.size + 1) _ aT (by decide) cmp_aa (by simp) (two_items w aF aF) (by decide)
theorem ordS (w : World) (B : Nat) (v : Value) (hB : B ≤ w.heap.size) (h : ItemsAt w B 1 v [oneT, aT]) : Calls Try.prog 21 #[v] w fun e w' => e = .returned (.bool true) ∧ Below w.heap.size w w' := by
  have := Ordered w B v [oneT, aT] hB h (by decide)
  rw [ord_1a] at this
  exact this
theorem shownW (w : World) : Calls Try.prog 10 #[] w (BPost true w) := by
  unfold BPost
  go_enter Try.func10, Try.ntmps10
  go_wp2_with fail
  refine (Int35 1 _).mono ?_
  rintro e w1 ⟨rfl, hb1⟩
  go_wp2_with fail
  refine (Atom36 ⟨#[97]⟩ _).mono ?_
  rintro e w2 ⟨rfl, hb2⟩
  go_wp2_with fail
  obtain ⟨hN1, hN2, hbw, hsz⟩ := boxes2 w2 oneF aF nilV nilV
  unfold cells9 oneF aF nilV at hN1 hN2 hbw hsz
  dsimp only at hN1 hN2 hbw hsz
  generalize ((w2.alloc (.cells #[.int .i64 1, .int .i64 1, .int .i64 0, .string ⟨#[]⟩, .string ⟨#[]⟩, .int .i64 0, .slice none 0 0, .string ⟨#[]⟩, .int .i64 0] 24)).alloc (.cells #[.int .i64 2, .int .i64 0, .int .i64 0, .string ⟨#[97]⟩, .string ⟨#[]⟩, .int .i64 0, .slice none 0 0, .string ⟨#[]⟩, .int .i64 0] 24)) = W0 at *
  have hz : W0.heap.size = w2.heap.size + 1 + 1 := by omega
  have HZ1 : Hid (w2.heap.size < W0.heap.size) := Lib.hid (by omega)
  have HZ2 : Hid (w2.heap.size + 1 < W0.heap.size) := Lib.hid (by omega)
  have hb12 : Below w.heap.size w W0 := (hb1.trans (hb2.mono hb1.size)).trans (hbw.mono (hb1.trans (hb2.mono hb1.size)).size)
  have HN1 := Lib.hid hN1
  have HN2 := Lib.hid hN2
  have HZ := Lib.hid hz
  have HS : Hid (Calls Try.prog 18 #[.slice (some ⟨w2.heap.size + 1 + 1, 0, none⟩) 2 2] (W0.alloc (.cells #[.int .i64 2, .int .i64 0, .int .i64 0, .string ⟨#[97]⟩, .string ⟨#[]⟩, .int .i64 0, .slice none 0 0, .string ⟨#[]⟩, .int .i64 0, .int .i64 1, .int .i64 1, .int .i64 0, .string ⟨#[]⟩, .string ⟨#[]⟩, .int .i64 0, .slice none 0 0, .string ⟨#[]⟩, .int .i64 0] 24)) (fun e w' => ∃ F g, e = .returned (.slice (some ⟨g, 0, none⟩) 2 2) ∧ NewAt (W0.alloc (.cells #[.int .i64 2, .int .i64 0, .int .i64 0, .string ⟨#[97]⟩, .string ⟨#[]⟩, .int .i64 0, .slice none 0 0, .string ⟨#[]⟩, .int .i64 0, .int .i64 1, .int .i64 1, .int .i64 0, .string ⟨#[]⟩, .string ⟨#[]⟩, .int .i64 0, .slice none 0 0, .string ⟨#[]⟩, .int .i64 0] 24)) w' F 1 (.slice (some ⟨g, 0, none⟩) 2 2) [oneT, aT] ∧ F g)) := Lib.hid (by
    have := sortW stable19 (W0.alloc (.cells #[.int .i64 2, .int .i64 0, .int .i64 0, .string ⟨#[97]⟩, .string ⟨#[]⟩, .int .i64 0, .slice none 0 0, .string ⟨#[]⟩, .int .i64 0, .int .i64 1, .int .i64 1, .int .i64 0, .string ⟨#[]⟩, .string ⟨#[]⟩, .int .i64 0, .slice none 0 0, .string ⟨#[]⟩, .int .i64 0] 24)) (W0.heap.size + 1) _ [aT, oneT] (by simp) (two_items W0 aF oneF) (by decide) (by simp) (by omega)
    rw [sort_a1, hz] at this
    exact this)
  have HB0 : Hid (Below w.heap.size w (W0.alloc (.cells #[.int .i64 2, .int .i64 0, .int .i64 0, .string ⟨#[97]⟩, .string ⟨#[]⟩, .int .i64 0, .slice none 0 0, .string ⟨#[]⟩, .int .i64 0, .int .i64 1, .int .i64 1, .int .i64 0, .string ⟨#[]⟩, .string ⟨#[]⟩, .int .i64 0, .slice none 0 0, .string ⟨#[]⟩, .int .i64 0] 24))) := Lib.hid (hb12.alloc hb12.size _)
  have HBa : Hid (Below W0.heap.size W0 (W0.alloc (.cells #[.int .i64 2, .int .i64 0, .int .i64 0, .string ⟨#[97]⟩, .string ⟨#[]⟩, .int .i64 0, .slice none 0 0, .string ⟨#[]⟩, .int .i64 0, .int .i64 1, .int .i64 1, .int .i64 0, .string ⟨#[]⟩, .string ⟨#[]⟩, .int .i64 0, .slice none 0 0, .string ⟨#[]⟩, .int .i64 0] 24))) := Lib.hid ((Below.refl _ _).alloc (Nat.le_refl _) _)
  clear hN1 hN2 hbw hsz hz hb12 hb1 hb2
  refine HS.out.mono ?_
  rintro e w3 ⟨F, g, rfl, hnew, hF⟩
  have hbb := HB0.out.trans (hnew.below.mono HB0.out.size)
  have hw03 := HBa.out.trans (hnew.below.mono HBa.out.size)
  have hM1 := HN1.out.below hw03 HZ1.out
  have hM2 := HN2.out.below hw03 HZ2.out
  have HNew := Lib.hid hnew
  have HM1 := Lib.hid hM1
  have HM2 := Lib.hid hM2
  obtain ⟨x0, x1, x2, x3, x4, x5, x6, x7, x8, xz⟩ := hM1
  obtain ⟨y0, y1, y2, y3, y4, y5, y6, y7, y8, yz⟩ := hM2
  dsimp only at x0 x1 x2 x3 x4 x5 x6 x7 x8 y0 y1 y2 y3 y4 y5 y6 y7 y8
  clear hnew HS HBa HB0
  have l1 : w2.heap.size < w3.heap.size := Nat.lt_of_lt_of_le HZ1.out hw03.size
  have l2 : w2.heap.size + 1 < w3.heap.size := Nat.lt_of_lt_of_le HZ2.out hw03.size
  have HBB := Lib.hid hbb
  have HW03 := Lib.hid hw03
  clear hbb hw03
  have HQ : Hid (Calls Try.prog 27 #[.slice (some ⟨w3.heap.size, 0, none⟩) 2 2, .agg #[.int .i64 2, .int .i64 0, .int .i64 0, .string ⟨#[97]⟩, .string ⟨#[]⟩, .int .i64 0, .slice none 0 0, .string ⟨#[]⟩, .int .i64 0]] (w3.alloc (.cells #[.int .i64 1, .int .i64 1, .int .i64 0, .string ⟨#[]⟩, .string ⟨#[]⟩, .int .i64 0, .slice none 0 0, .string ⟨#[]⟩, .int .i64 0, .int .i64 2, .int .i64 0, .int .i64 0, .string ⟨#[97]⟩, .string ⟨#[]⟩, .int .i64 0, .slice none 0 0, .string ⟨#[]⟩, .int .i64 0] 24)) (fun e w' => e = .returned (.tuple #[.int .i64 1, .bool true]) ∧ Below (w3.alloc (.cells #[.int .i64 1, .int .i64 1, .int .i64 0, .string ⟨#[]⟩, .string ⟨#[]⟩, .int .i64 0, .slice none 0 0, .string ⟨#[]⟩, .int .i64 0, .int .i64 2, .int .i64 0, .int .i64 0, .string ⟨#[97]⟩, .string ⟨#[]⟩, .int .i64 0, .slice none 0 0, .string ⟨#[]⟩, .int .i64 0] 24)).heap.size (w3.alloc (.cells #[.int .i64 1, .int .i64 1, .int .i64 0, .string ⟨#[]⟩, .string ⟨#[]⟩, .int .i64 0, .slice none 0 0, .string ⟨#[]⟩, .int .i64 0, .int .i64 2, .int .i64 0, .int .i64 0, .string ⟨#[97]⟩, .string ⟨#[]⟩, .int .i64 0, .slice none 0 0, .string ⟨#[]⟩, .int .i64 0] 24)) w')) := Lib.hid (by
    have := searchW (w3.alloc (.cells #[.int .i64 1, .int .i64 1, .int .i64 0, .string ⟨#[]⟩, .string ⟨#[]⟩, .int .i64 0, .slice none 0 0, .string ⟨#[]⟩, .int .i64 0, .int .i64 2, .int .i64 0, .int .i64 0, .string ⟨#[97]⟩, .string ⟨#[]⟩, .int .i64 0, .slice none 0 0, .string ⟨#[]⟩, .int .i64 0] 24)) (w3.heap.size + 1) _ (.slice none 0 0) [oneT, aT] aT (by simp) (two_items w3 oneF aF) ⟨none, 0, rfl, Nat.zero_le _⟩ (by decide) (by decide)
    rw [ord_1a, if_pos rfl, if_pos rfl, search_1a, found_1a] at this
    exact this)
  have HBc : Hid (Below w3.heap.size w3 (w3.alloc (.cells #[.int .i64 1, .int .i64 1, .int .i64 0, .string ⟨#[]⟩, .string ⟨#[]⟩, .int .i64 0, .slice none 0 0, .string ⟨#[]⟩, .int .i64 0, .int .i64 2, .int .i64 0, .int .i64 0, .string ⟨#[97]⟩, .string ⟨#[]⟩, .int .i64 0, .slice none 0 0, .string ⟨#[]⟩, .int .i64 0] 24))) := Lib.hid ((Below.refl _ _).alloc (Nat.le_refl _) _)
  go_wp2_with fail
  refine HQ.out.mono ?_
  rintro e w4 ⟨rfl, hb4⟩
  have h34 := HBc.out.trans (hb4.mono HBc.out.size)
  have hb44 := HBB.out.trans (h34.mono HBB.out.size)
  have hM1 := HM1.out.below h34 l1
  have hM2 := HM2.out.below h34 l2
  have hit := HNew.out.items.toAt (B := w3.heap.size) (fun g hg => (HNew.out.inr g hg).2)
  have hit4 := hit.below h34 (Nat.le_refl _)
  have HIt4 := Lib.hid hit4
  obtain ⟨g', o, c', e', _, _, hg, hel⟩ := hit4.at_ (by simp)
  simp only [Value.slice.injEq, Option.some.injEq, Addr.mk.injEq] at e'
  obtain ⟨⟨rfl, rfl, _⟩, _, _⟩ := e'
  obtain ⟨u1, k1, k2⟩ := hel 0 (by simp)
  obtain ⟨u2, k3, k4⟩ := hel 1 (by simp)
  have s0 : w4.cell? ⟨g, 0, none⟩ = some (.int .i64 1) := k1.c0
  have s1 : w4.cell? ⟨g, 9, none⟩ = some (.int .i64 2) := k3.c0
  have l3 : g < w4.heap.size := Nat.lt_of_lt_of_le hg h34.size
  have l4 : w2.heap.size < w4.heap.size := Nat.lt_of_lt_of_le l1 h34.size
  have l5 : w2.heap.size + 1 < w4.heap.size := Nat.lt_of_lt_of_le l2 h34.size
  have h3s : w3.heap.size ≤ w4.heap.size := h34.size
  have HN1 := Lib.hid hM1
  have HN2 := Lib.hid hM2
  have HB44 := Lib.hid hb44
  clear x0 x1 x2 x3 x4 x5 x6 x7 x8 xz y0 y1 y2 y3 y4 y5 y6 y7 y8 yz k1 k2 k3 k4 hel hit hit4 HM1 HM2 HNew HQ HBc hb4 h34 hb44 HBB HW03 l1 l2
  obtain ⟨x0, x1, x2, x3, x4, x5, x6, x7, x8, xz⟩ := hM1
  obtain ⟨y0, y1, y2, y3, y4, y5, y6, y7, y8, yz⟩ := hM2
  dsimp only at x0 x1 x2 x3 x4 x5 x6 x7 x8 y0 y1 y2 y3 y4 y5 y6 y7 y8
  have H1 := Lib.hid (cmp1A)
  have H2 := Lib.hid (cmpA1)
  have H3 := Lib.hid (less1A)
  have H4 := Lib.hid (lessA1)
  go_wp2_with fail
  refine (H1.out w4).mono ?_
  rintro e w5 ⟨rfl, hb⟩
  have hq : Below w4.heap.size w4 w5 := hb
  have hN1 := HN1.out.below hq l4
  have hN2 := HN2.out.below hq l5
  have hI := HIt4.out.below hq h3s
  have s0' := (hq.cell (p := ⟨g, 0, none⟩) l3).trans s0
  have s1' := (hq.cell (p := ⟨g, 9, none⟩) l3).trans s1
  have hB := HB44.out.trans (hq.mono HB44.out.size)
  have l3' := Nat.lt_of_lt_of_le l3 hq.size
  have l4' := Nat.lt_of_lt_of_le l4 hq.size
  have l5' := Nat.lt_of_lt_of_le l5 hq.size
  have h3s' := Nat.le_trans h3s hq.size
  clear HN1 HN2 HIt4 s0 s1 HB44 l3 l4 l5 h3s hb hq x0 x1 x2 x3 x4 x5 x6 x7 x8 xz y0 y1 y2 y3 y4 y5 y6 y7 y8 yz
  have HN1 := Lib.hid hN1
  have HN2 := Lib.hid hN2
  have HIt4 := Lib.hid hI
  have HB44 := Lib.hid hB
  have s0 := s0'
  have s1 := s1'
  have l3 := l3'
  have l4 := l4'
  have l5 := l5'
  have h3s := h3s'
  clear s0' s1' l3' l4' l5' h3s' hI hB
  obtain ⟨x0, x1, x2, x3, x4, x5, x6, x7, x8, xz⟩ := hN1
  obtain ⟨y0, y1, y2, y3, y4, y5, y6, y7, y8, yz⟩ := hN2
  dsimp only at x0 x1 x2 x3 x4 x5 x6 x7 x8 y0 y1 y2 y3 y4 y5 y6 y7 y8
  go_wp2_with fail
  refine (H2.out w5).mono ?_
  rintro e w6 ⟨rfl, hb⟩
  have hq : Below w5.heap.size w5 w6 := hb
  have hN1 := HN1.out.below hq l4
  have hN2 := HN2.out.below hq l5
  have hI := HIt4.out.below hq h3s
  have s0' := (hq.cell (p := ⟨g, 0, none⟩) l3).trans s0
  have s1' := (hq.cell (p := ⟨g, 9, none⟩) l3).trans s1
  have hB := HB44.out.trans (hq.mono HB44.out.size)
  have l3' := Nat.lt_of_lt_of_le l3 hq.size
  have l4' := Nat.lt_of_lt_of_le l4 hq.size
  have l5' := Nat.lt_of_lt_of_le l5 hq.size
  have h3s' := Nat.le_trans h3s hq.size
  clear HN1 HN2 HIt4 s0 s1 HB44 l3 l4 l5 h3s hb hq x0 x1 x2 x3 x4 x5 x6 x7 x8 xz y0 y1 y2 y3 y4 y5 y6 y7 y8 yz
  have HN1 := Lib.hid hN1
  have HN2 := Lib.hid hN2
  have HIt4 := Lib.hid hI
  have HB44 := Lib.hid hB
  have s0 := s0'
  have s1 := s1'
  have l3 := l3'
  have l4 := l4'
  have l5 := l5'
  have h3s := h3s'
  clear s0' s1' l3' l4' l5' h3s' hI hB
  obtain ⟨x0, x1, x2, x3, x4, x5, x6, x7, x8, xz⟩ := hN1
  obtain ⟨y0, y1, y2, y3, y4, y5, y6, y7, y8, yz⟩ := hN2
  dsimp only at x0 x1 x2 x3 x4 x5 x6 x7 x8 y0 y1 y2 y3 y4 y5 y6 y7 y8
  go_wp2_with fail
  refine (H3.out w6).mono ?_
  rintro e w7 ⟨rfl, hb⟩
  have hq : Below w6.heap.size w6 w7 := hb
  have hN1 := HN1.out.below hq l4
  have hN2 := HN2.out.below hq l5
  have hI := HIt4.out.below hq h3s
  have s0' := (hq.cell (p := ⟨g, 0, none⟩) l3).trans s0
  have s1' := (hq.cell (p := ⟨g, 9, none⟩) l3).trans s1
  have hB := HB44.out.trans (hq.mono HB44.out.size)
  have l3' := Nat.lt_of_lt_of_le l3 hq.size
  have l4' := Nat.lt_of_lt_of_le l4 hq.size
  have l5' := Nat.lt_of_lt_of_le l5 hq.size
  have h3s' := Nat.le_trans h3s hq.size
  clear HN1 HN2 HIt4 s0 s1 HB44 l3 l4 l5 h3s hb hq x0 x1 x2 x3 x4 x5 x6 x7 x8 xz y0 y1 y2 y3 y4 y5 y6 y7 y8 yz
  have HN1 := Lib.hid hN1
  have HN2 := Lib.hid hN2
  have HIt4 := Lib.hid hI
  have HB44 := Lib.hid hB
  have s0 := s0'
  have s1 := s1'
  have l3 := l3'
  have l4 := l4'
  have l5 := l5'
  have h3s := h3s'
  clear s0' s1' l3' l4' l5' h3s' hI hB
  obtain ⟨x0, x1, x2, x3, x4, x5, x6, x7, x8, xz⟩ := hN1
  obtain ⟨y0, y1, y2, y3, y4, y5, y6, y7, y8, yz⟩ := hN2
  dsimp only at x0 x1 x2 x3 x4 x5 x6 x7 x8 y0 y1 y2 y3 y4 y5 y6 y7 y8
  go_wp2_with fail
  refine (H4.out w7).mono ?_
  rintro e w8 ⟨rfl, hb⟩
  have hq : Below w7.heap.size w7 w8 := hb
  have hN1 := HN1.out.below hq l4
  have hN2 := HN2.out.below hq l5
  have hI := HIt4.out.below hq h3s
  have s0' := (hq.cell (p := ⟨g, 0, none⟩) l3).trans s0
  have s1' := (hq.cell (p := ⟨g, 9, none⟩) l3).trans s1
  have hB := HB44.out.trans (hq.mono HB44.out.size)
  have l3' := Nat.lt_of_lt_of_le l3 hq.size
  have l4' := Nat.lt_of_lt_of_le l4 hq.size
  have l5' := Nat.lt_of_lt_of_le l5 hq.size
  have h3s' := Nat.le_trans h3s hq.size
  clear HN1 HN2 HIt4 s0 s1 HB44 l3 l4 l5 h3s hb hq x0 x1 x2 x3 x4 x5 x6 x7 x8 xz y0 y1 y2 y3 y4 y5 y6 y7 y8 yz
  have HN1 := Lib.hid hN1
  have HN2 := Lib.hid hN2
  have HIt4 := Lib.hid hI
  have HB44 := Lib.hid hB
  have s0 := s0'
  have s1 := s1'
  have l3 := l3'
  have l4 := l4'
  have l5 := l5'
  have h3s := h3s'
  clear s0' s1' l3' l4' l5' h3s' hI hB
  obtain ⟨x0, x1, x2, x3, x4, x5, x6, x7, x8, xz⟩ := hN1
  obtain ⟨y0, y1, y2, y3, y4, y5, y6, y7, y8, yz⟩ := hN2
  dsimp only at x0 x1 x2 x3 x4 x5 x6 x7 x8 y0 y1 y2 y3 y4 y5 y6 y7 y8
  go_wp2_with fail
  refine (ordS w8 _ _ h3s HIt4.out).mono ?_
  rintro e w9 ⟨rfl, hb⟩
  have hq : Below w8.heap.size w8 w9 := hb
  have hN1 := HN1.out.below hq l4
  have hN2 := HN2.out.below hq l5
  have hI := HIt4.out.below hq h3s
  have s0' := (hq.cell (p := ⟨g, 0, none⟩) l3).trans s0
  have s1' := (hq.cell (p := ⟨g, 9, none⟩) l3).trans s1
  have hB := HB44.out.trans (hq.mono HB44.out.size)
  have l3' := Nat.lt_of_lt_of_le l3 hq.size
  have l4' := Nat.lt_of_lt_of_le l4 hq.size
  have l5' := Nat.lt_of_lt_of_le l5 hq.size
  have h3s' := Nat.le_trans h3s hq.size
  clear HN1 HN2 HIt4 s0 s1 HB44 l3 l4 l5 h3s hb hq x0 x1 x2 x3 x4 x5 x6 x7 x8 xz y0 y1 y2 y3 y4 y5 y6 y7 y8 yz
  have HN1 := Lib.hid hN1
  have HN2 := Lib.hid hN2
  have HIt4 := Lib.hid hI
  have HB44 := Lib.hid hB
  have s0 := s0'
  have s1 := s1'
  have l3 := l3'
  have l4 := l4'
  have l5 := l5'
  have h3s := h3s'
  clear s0' s1' l3' l4' l5' h3s' hI hB
  obtain ⟨x0, x1, x2, x3, x4, x5, x6, x7, x8, xz⟩ := hN1
  obtain ⟨y0, y1, y2, y3, y4, y5, y6, y7, y8, yz⟩ := hN2
  dsimp only at x0 x1 x2 x3 x4 x5 x6 x7 x8 y0 y1 y2 y3 y4 y5 y6 y7 y8
  go_wp2_with fail
  refine (ordA1 w9).mono ?_
  rintro e w10 ⟨rfl, hb⟩
  have hq : Below w9.heap.size w9 w10 := ((Below.refl _ _).alloc (Nat.le_refl _) _).trans (hb.mono (by simp))
  have hN1 := HN1.out.below hq l4
  have hN2 := HN2.out.below hq l5
  have hI := HIt4.out.below hq h3s
  have s0' := (hq.cell (p := ⟨g, 0, none⟩) l3).trans s0
  have s1' := (hq.cell (p := ⟨g, 9, none⟩) l3).trans s1
  have hB := HB44.out.trans (hq.mono HB44.out.size)
  have l3' := Nat.lt_of_lt_of_le l3 hq.size
  have l4' := Nat.lt_of_lt_of_le l4 hq.size
  have l5' := Nat.lt_of_lt_of_le l5 hq.size
  have h3s' := Nat.le_trans h3s hq.size
  clear HN1 HN2 HIt4 s0 s1 HB44 l3 l4 l5 h3s hb hq x0 x1 x2 x3 x4 x5 x6 x7 x8 xz y0 y1 y2 y3 y4 y5 y6 y7 y8 yz
  have HN1 := Lib.hid hN1
  have HN2 := Lib.hid hN2
  have HIt4 := Lib.hid hI
  have HB44 := Lib.hid hB
  have s0 := s0'
  have s1 := s1'
  have l3 := l3'
  have l4 := l4'
  have l5 := l5'
  have h3s := h3s'
  clear s0' s1' l3' l4' l5' h3s' hI hB
  obtain ⟨x0, x1, x2, x3, x4, x5, x6, x7, x8, xz⟩ := hN1
  obtain ⟨y0, y1, y2, y3, y4, y5, y6, y7, y8, yz⟩ := hN2
  dsimp only at x0 x1 x2 x3 x4 x5 x6 x7 x8 y0 y1 y2 y3 y4 y5 y6 y7 y8
  go_wp2_with fail

  refine (uniqAA w10).mono ?_
  rintro e w11 ⟨g11, rfl, hb⟩
  have hq : Below w10.heap.size w10 w11 := ((Below.refl _ _).alloc (Nat.le_refl _) _).trans (hb.mono (by simp))
  have hB := HB44.out.trans (hq.mono HB44.out.size)
  clear hb hq
  go_wp2_with fail
  go_ret
  exact ⟨rfl, hB⟩
end Go.Proofs.Ythgfdpamnepnfaa.tm
