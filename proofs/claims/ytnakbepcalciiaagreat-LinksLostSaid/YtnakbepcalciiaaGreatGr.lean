/- Several texts in one, one behind the other: LkO. No condition beyond theirs. -/
import Derived.Test.YtnakbepcalciiaaGreatGq
/- chosen: the monitors that a test selects, in the order of their refs. Conditions: the object was made by New; the test only makes memory. -/
namespace Go.Proofs.YtnakbepcalciiaaGreat.lk
open Go.RowKit mem rec tm names pm
set_option linter.unusedVariables false
set_option linter.unusedSimpArgs false
set_option maxHeartbeats 4000000
set_option maxRecDepth 100000
theorem cells12 {w : World} {z : Nat} {a b c d e f g h i j k l : Value} {t : TypeId} (hh : w.heap[z]? = some (.cells #[a, b, c, d, e, f, g, h, i, j, k, l] t)) : w.cell? ⟨z, 0, none⟩ = some a ∧ w.cell? ⟨z, 1, none⟩ = some b ∧ w.cell? ⟨z, 2, none⟩ = some c ∧ w.cell? ⟨z, 3, none⟩ = some d ∧ w.cell? ⟨z, 4, none⟩ = some e ∧ w.cell? ⟨z, 5, none⟩ = some f ∧ w.cell? ⟨z, 6, none⟩ = some g ∧ w.cell? ⟨z, 7, none⟩ = some h ∧ w.cell? ⟨z, 8, none⟩ = some i ∧ w.cell? ⟨z, 9, none⟩ = some j ∧ w.cell? ⟨z, 10, none⟩ = some k ∧ w.cell? ⟨z, 11, none⟩ = some l ∧ ∀ o, w.frozen? ⟨z, o, none⟩ = false := by
  refine ⟨?_, ?_, ?_, ?_, ?_, ?_, ?_, ?_, ?_, ?_, ?_, ?_, fun o => ?_⟩
  · simp only [World.cell?, hh]; rfl
  · simp only [World.cell?, hh]; rfl
  · simp only [World.cell?, hh]; rfl
  · simp only [World.cell?, hh]; rfl
  · simp only [World.cell?, hh]; rfl
  · simp only [World.cell?, hh]; rfl
  · simp only [World.cell?, hh]; rfl
  · simp only [World.cell?, hh]; rfl
  · simp only [World.cell?, hh]; rfl
  · simp only [World.cell?, hh]; rfl
  · simp only [World.cell?, hh]; rfl
  · simp only [World.cell?, hh]; rfl
  · simp only [World.frozen?, hh]; simp
noncomputable def cmM (a b : Mn) : Int := cmI a.1 b.1
theorem tpMn : TP (fun _ => True) cmM := tpId.comap (fun m : Mn => m.1)
theorem cmp149 (a b : Mn) (w : World) : Calls Tryz.prog 149 #[.agg (mnL a).toArray, .agg (mnL b).toArray] w fun e w' => e = .returned (.int .i64 (cmM a b)) ∧ Below w.heap.size w w' := by
  obtain ⟨⟨x1, x2, x3, x4⟩, ⟨y1, y2, y3, y4⟩, ⟨v1, v2, v3, v4⟩⟩ := a
  obtain ⟨⟨p1, p2, p3, p4⟩, ⟨q1, q2, q3, q4⟩, ⟨r1, r2, r3, r4⟩⟩ := b
  have H1 := Lib.hid (fun W => byTerm150 (x1, x2, x3, x4) (p1, p2, p3, p4) W)
  have hx := alloc_new w (.cells #[.int .i64 x1, .string x2, .int .i64 x3, .int .i64 x4, .int .i64 y1, .string y2, .int .i64 y3, .int .i64 y4, .int .i64 v1, .string v2, .int .i64 v3, .int .i64 v4] 162)
  have hb := belowA (Below.refl w.heap.size w) (.cells #[.int .i64 x1, .string x2, .int .i64 x3, .int .i64 x4, .int .i64 y1, .string y2, .int .i64 y3, .int .i64 y4, .int .i64 v1, .string v2, .int .i64 v3, .int .i64 v4] 162) (Nat.le_refl _)
  have hl : w.heap.size < (w.alloc (.cells #[.int .i64 x1, .string x2, .int .i64 x3, .int .i64 x4, .int .i64 y1, .string y2, .int .i64 y3, .int .i64 y4, .int .i64 v1, .string v2, .int .i64 v3, .int .i64 v4] 162)).heap.size := by rw [World.size_alloc]; omega
  unfold cmM
  dsimp only
  unfold IPostC idV at H1
  dsimp only at H1
  change Calls Tryz.prog 149 #[.agg #[.int .i64 x1, .string x2, .int .i64 x3, .int .i64 x4, .int .i64 y1, .string y2, .int .i64 y3, .int .i64 y4, .int .i64 v1, .string v2, .int .i64 v3, .int .i64 v4], .agg #[.int .i64 p1, .string p2, .int .i64 p3, .int .i64 p4, .int .i64 q1, .string q2, .int .i64 q3, .int .i64 q4, .int .i64 r1, .string r2, .int .i64 r3, .int .i64 r4]] w _
  generalize cmI (x1, x2, x3, x4) (p1, p2, p3, p4) = c1 at *
  have hb2 := belowA hb (.cells #[.int .i64 p1, .string p2, .int .i64 p3, .int .i64 p4, .int .i64 q1, .string q2, .int .i64 q3, .int .i64 q4, .int .i64 r1, .string r2, .int .i64 r3, .int .i64 r4] 162) hb.size
  have hy := alloc_new (w.alloc (.cells #[.int .i64 x1, .string x2, .int .i64 x3, .int .i64 x4, .int .i64 y1, .string y2, .int .i64 y3, .int .i64 y4, .int .i64 v1, .string v2, .int .i64 v3, .int .i64 v4] 162)) (.cells #[.int .i64 p1, .string p2, .int .i64 p3, .int .i64 p4, .int .i64 q1, .string q2, .int .i64 q3, .int .i64 q4, .int .i64 r1, .string r2, .int .i64 r3, .int .i64 r4] 162)
  rw [World.size_alloc] at hy
  have hx2 := (Below.heap_alloc (w.alloc (.cells #[.int .i64 x1, .string x2, .int .i64 x3, .int .i64 x4, .int .i64 y1, .string y2, .int .i64 y3, .int .i64 y4, .int .i64 v1, .string v2, .int .i64 v3, .int .i64 v4] 162)) (.cells #[.int .i64 p1, .string p2, .int .i64 p3, .int .i64 p4, .int .i64 q1, .string q2, .int .i64 q3, .int .i64 q4, .int .i64 r1, .string r2, .int .i64 r3, .int .i64 r4] 162) w.heap.size hl).trans hx
  have HX := Lib.hid hx2
  have HY := Lib.hid hy
  have HB := Lib.hid hb2
  clear hx hx2 hy hb hb2 hl
  go_enter Tryz.func149, Tryz.ntmps149
  go_upto_region 1 with (fail)
  generalize ((w.alloc (.cells #[.int .i64 x1, .string x2, .int .i64 x3, .int .i64 x4, .int .i64 y1, .string y2, .int .i64 y3, .int .i64 y4, .int .i64 v1, .string v2, .int .i64 v3, .int .i64 v4] 162)).alloc (.cells #[.int .i64 p1, .string p2, .int .i64 p3, .int .i64 p4, .int .i64 q1, .string q2, .int .i64 q3, .int .i64 q4, .int .i64 r1, .string r2, .int .i64 r3, .int .i64 r4] 162)) = W2 at *
  obtain ⟨a0, a1, a2, a3, a4, a5, a6, a7, a8, a9, a10, a11, af⟩ := cells12 HX.out
  obtain ⟨b0, b1, b2, b3, b4, b5, b6, b7, b8, b9, b10, b11, bf⟩ := cells12 HY.out
  go_wp2_with fail
  refine (H1.out _).mono ?_
  rintro e W3 ⟨rfl, hb3⟩
  clear a0 a1 a2 a3 a4 a5 a6 a7 a8 a9 a10 a11 af b0 b1 b2 b3 b4 b5 b6 b7 b8 b9 b10 b11 bf
  go_wp2_with fail
  go_ret
  exact ⟨rfl, HB.out.trans (hb3.mono HB.out.size)⟩
theorem info162 : (Tryz.prog.info? 162).map (fun i => (i.zero, i.size, i.bytes)) = some (some (.agg #[.int .i64 0, .string ⟨#[]⟩, .int .i64 0, .int .i64 0, .int .i64 0, .string ⟨#[]⟩, .int .i64 0, .int .i64 0, .int .i64 0, .string ⟨#[]⟩, .int .i64 0, .int .i64 0]), 12, 120) := by kernel_rfl
theorem el162 : ElTy 166 162 12 := elty_of Tryz.underlying166 info162 rfl (by decide) (by decide)
def ChsI (w : World) (mm r : Nat) (M : List (Id × Mn)) (T : Mn → Bool) (n : Nat) (out : Value) (wr : World) : Prop :=
  ∃ (left : List (Id × Mn)) (L : List Mn), left.length = n ∧ RangeR idV wr mm r (vals mnV M) (vals mnV left) ∧ RecOwn mnL 162 12 wr (w.heap.size + 1) out L ∧ (L ++ (left.map (·.2)).filter T).Perm ((M.map (·.2)).filter T) ∧ Below w.heap.size w wr ∧ L.length + n ≤ M.length
def ChosenP (T : Mn → Bool) (M : List (Id × Mn)) (w : World) (e : Ending) (w' : World) : Prop :=
  ∃ v L, e = .returned v ∧ L.Perm ((M.map (·.2)).filter T) ∧ L.Pairwise (fun x y => cmM x y ≤ 0) ∧ RecAt mnL 12 w' w'.heap.size v L ∧ (∀ i, v.ownBlock = some i → w.heap.size ≤ i) ∧ Below w.heap.size w w'
theorem vals_split {κ β : Type} {f : β → Value} {l : List (κ × β)} {L1 L2 : List (κ × Value)} {k : κ} {v : Value} (h : vals f l = L1 ++ (k, v) :: L2) : ∃ A m B, l = A ++ (k, m) :: B ∧ v = f m ∧ L1 = vals f A ∧ L2 = vals f B := by
  unfold vals at h
  obtain ⟨A, C, rfl, h1, h2⟩ := List.map_eq_append_iff.1 h
  obtain ⟨⟨k', m⟩, B, rfl, h3, h4⟩ := List.map_eq_cons_iff.1 h2
  simp only [Prod.mk.injEq] at h3
  obtain ⟨rfl, rfl⟩ := h3
  exact ⟨A, m, B, rfl, rfl, h1.symm, h4.symm⟩
theorem chosen89 {w : World} {z mh mm : Nat} {s : LkSt} (h : LkAt w z mh mm s) (hlen : s.M.length ≤ 100000000) {g : Nat} {cb : Array Value} {T : Mn → Bool} (eg : ∀ args w, (callFunc g args).run Tryz.prog w = .ok (.enter g args) w) (HT : ∀ W m, Below w.heap.size w W → Calls Tryz.prog g (#[mnV m] ++ cb) W fun e w' => e = .returned (.bool (T m)) ∧ Below W.heap.size W w') :
    Calls Tryz.prog 89 #[.pointer (some ⟨z, 0, none⟩), .func (.func g) #[] cb] w (ChosenP T s.M w) := by
  have HT := Lib.hid HT
  have HN85 := Lib.hid (none85 h.obj)
  have HM := Lib.hid h.mo
  have hmr : w.heap.size ≠ mm := fun e => by have := h.mlt; omega
  have HLn := Lib.hid hlen
  obtain ⟨c0, c1, c2, c3, c4, cf⟩ := five_cells h.obj
  have hml := h.mlt
  clear h hlen
  go_enter Tryz.func89, Tryz.ntmps89
  go_wp2_with fail
  refine HN85.out.mono ?_
  rintro e w1 ⟨rfl, rfl⟩
  clear HN85
  go_wp2_with (refine wpList_range_r _ rfl _ 83 rfl Tryz.underlying83 mm (vals mnV s.M) rfl HM.out ?_)
  intro w1 hr1 hg1 hs1
  have hb1 : Below w.heap.size w w1 := (Below.refl _ _).grown hg1 (Nat.le_refl _) (by simp)
  have HST : Hid (ChsI w mm w.heap.size s.M T s.M.length (.slice none 0 0) w1) := Lib.hid ⟨s.M, [], rfl, hr1, RecOwn.nil _ _ _, List.Perm.refl _, hb1, by simp⟩
  clear hr1 hg1 hs1 hb1 c0 c1 c2 c3 c4 cf
  go_wp2_with fail
  go_loopg [5] s.M.length (fun n out wr => Hid (ChsI w mm w.heap.size s.M T n out wr))
  case atStart => exact HST
  case round =>
    obtain ⟨left, L, hn, hrg, hown, hpm, hbw, hll⟩ := hrel.out
    clear hrel HST
    go_wp2_with (refine wpList_next_r _ rfl _ rfl mm w.heap.size hmr _ (vals mnV left) rfl hrg ?_ ?_)
    · intro hl0
      have hl0 : left = [] := by simpa [vals] using hl0
      subst hl0
      have hb2 : Below w.heap.size w wr := hbw
      have hP2 : L.Perm ((s.M.map (·.2)).filter T) := by simpa using hpm
      have hlen : L.length ≤ 1000000000 := by have := HLn.out; omega
      have HB2 := Lib.hid hb2
      have HP2 := Lib.hid hP2
      have hE : EncOK mnL 12 L := fun a _ => ⟨mnL_len a, mnL_one a⟩
      clear hpm hrg hbw hb2 hP2 hll
      by_cases hv : u5 = .slice none 0 0
      · subst hv
        obtain ⟨p', c', e', _⟩ := hown.shape
        simp only [Value.slice.injEq] at e'
        obtain rfl := List.eq_nil_of_length_eq_zero e'.2.1.symm
        clear hown e' hE hn hlen
        go_wp2_with fail
        refine (sort0M _ _ _ _).mono ?_
        rintro e w2 ⟨rfl, rfl⟩
        go_wp2_with fail
        go_ret
        exact ⟨_, [], rfl, HP2.out, List.Pairwise.nil, RecAt.nil _ _ _ _ (Nat.zero_le _), fun i hi => by simp [Value.ownBlock] at hi, HB2.out⟩
      · have HO : Hid (∀ i, u5.ownBlock = some i → w.heap.size ≤ i) := Lib.hid (fun i hi => by have := (hown.lt hi).1; omega)
        have HS := Lib.hid (sortRec (ρ := Tryz.srtM_ren) Tryz.srtM (by decide) (fun w => Tryz.isAgg162 w) (fun w => Tryz.sizeOf162 w) mnL_len mnL_one tpMn (enters_of Tryz.func149 (by kernel_rfl) rfl) (fun W x y => cmp149 x y W) hown hv hlen)
        have hS := HS.out
        change Calls Tryz.prog 148 _ _ _ at hS
        have HS2 := Lib.hid hS
        clear hS HS hown hv hE hn hlen
        go_wp2_with fail
        refine HS2.out.mono ?_
        rintro e w2 ⟨rfl, l', hp, hs, hr, ht⟩
        have HR := Lib.hid hr
        have HQ := Lib.hid hs
        have HP := Lib.hid (hp.trans HP2.out)
        have HBf : Hid (Below w.heap.size w w2) := Lib.hid (HB2.out.trans (ht.below (fun k hk => HO.out k hk) HB2.out.size))
        clear hp hs hr ht HS2
        go_wp2_with fail
        go_ret
        exact ⟨_, l', rfl, HP.out, HQ.out, HR.out, HO.out, HBf.out⟩
    · intro L1 k1 k2 k3 k4 v L2 w2 hl hrg2 hgr hsz hen
      obtain ⟨A, m, B, hleft, rfl, rfl, rfl⟩ := vals_split hl
      clear hl
      subst hleft
      obtain ⟨⟨x1, x2, x3, x4⟩, ⟨y1, y2, y3, y4⟩, ⟨v1, v2, v3, v4⟩⟩ := m
      unfold mnV at hen
      dsimp only at hen
      have hrg2' : RangeR idV w2 mm w.heap.size (vals mnV s.M) (vals mnV (A ++ B)) := by
        have e : vals mnV (A ++ B) = vals mnV A ++ vals mnV B := by simp [vals]
        rw [e]; exact hrg2
      clear hrg2
      have hb2 : Below w.heap.size w w2 := hbw.grown hgr hbw.size (by intro k hk; simp at hk; omega)
      have hown2 : RecOwn mnL 162 12 w2 (w.heap.size + 1) u5 L := hown.same (fun k hk => hgr.block k (by have := (hown.lt hk).2; exact this) (fun e => by have := (hown.lt hk).1; simp at e; omega))
      have HSz := Lib.hid hsz
      clear hsz hown hgr hbw hrg
      go_upto_region 7 with (fail)
      clear hen
      have hX := alloc_new w2 (.cells #[.int .i64 x1, .string x2, .int .i64 x3, .int .i64 x4, .int .i64 y1, .string y2, .int .i64 y3, .int .i64 y4, .int .i64 v1, .string v2, .int .i64 v3, .int .i64 v4] 162)
      have hbA := belowA (Below.refl w2.heap.size w2) (.cells #[.int .i64 x1, .string x2, .int .i64 x3, .int .i64 x4, .int .i64 y1, .string y2, .int .i64 y3, .int .i64 y4, .int .i64 v1, .string v2, .int .i64 v3, .int .i64 v4] 162) (Nat.le_refl _)
      have hlA : w2.heap.size < (w2.alloc (.cells #[.int .i64 x1, .string x2, .int .i64 x3, .int .i64 x4, .int .i64 y1, .string y2, .int .i64 y3, .int .i64 y4, .int .i64 v1, .string v2, .int .i64 v3, .int .i64 v4] 162)).heap.size := by rw [World.size_alloc]; omega
      generalize (w2.alloc (.cells #[.int .i64 x1, .string x2, .int .i64 x3, .int .i64 x4, .int .i64 y1, .string y2, .int .i64 y3, .int .i64 y4, .int .i64 v1, .string v2, .int .i64 v3, .int .i64 v4] 162)) = W3 at *
      have hown3 := hown2.below hbA
      have hrg3 := hrg2'.same (hbA.block _ hrg2'.map.lt) (hbA.block _ hrg2'.lt)
      have hb3 := hb2.trans (hbA.mono hb2.size)
      have hT := HT.out W3 ((x1, x2, x3, x4), ((y1, y2, y3, y4), (v1, v2, v3, v4))) hb3
      obtain ⟨tk, htk⟩ : ∃ b, T ((x1, x2, x3, x4), ((y1, y2, y3, y4), (v1, v2, v3, v4))) = b := ⟨_, rfl⟩
      rw [htk] at hT
      unfold mnV at hT
      dsimp only at hT
      have hT3 := Lib.hid hT
      have HTk := Lib.hid htk
      clear hT htk
      have HXa := Lib.hid (fun W (hW : Below W3.heap.size W3 W) => cells12 ((hW.block _ hlA).trans hX))
      clear hown2 hrg2' hbA hX hb2
      generalize w2.heap.size = zb at *
      obtain ⟨r0, r1, r2, r3, r4, r5, r6, r7, r8, r9, r10, r11, rf⟩ := HXa.out _ (Below.refl _ _)
      have HN := Lib.hid hn
      have HPm := Lib.hid hpm
      have HLl := Lib.hid hll
      clear hn hpm hll
      go_wp2_with fail
      refine hT3.out.mono ?_
      rintro e W4 ⟨rfl, hb4⟩
      clear r0 r1 r2 r3 r4 r5 r6 r7 r8 r9 r10 r11 rf hT3
      have hown4 := hown3.below hb4
      have hrg4 := hrg3.same (hb4.block _ hrg3.map.lt) (hb4.block _ hrg3.lt)
      have hbw4 := hb3.trans (hb4.mono hb3.size)
      cases tk
      · go_wp2_with fail
        go_roundg (A ++ B).length
        case measure => have := HN.out; simp at this ⊢; omega
        case rel =>
          refine Lib.hid ⟨A ++ B, L, rfl, hrg4, hown4, ?_, hbw4, ?_⟩
          · have := HPm.out
            simpa [HTk.out] using this
          · have := HLl.out; have := HN.out; simp at this ⊢; omega
      · obtain ⟨r0, r1, r2, r3, r4, r5, r6, r7, r8, r9, r10, r11, rf⟩ := HXa.out _ hb4
        have hX5 := alloc_new W4 (.cells #[.int .i64 x1, .string x2, .int .i64 x3, .int .i64 x4, .int .i64 y1, .string y2, .int .i64 y3, .int .i64 y4, .int .i64 v1, .string v2, .int .i64 v3, .int .i64 v4] 162)
        have hb5 := belowA (Below.refl W4.heap.size W4) (.cells #[.int .i64 x1, .string x2, .int .i64 x3, .int .i64 x4, .int .i64 y1, .string y2, .int .i64 y3, .int .i64 y4, .int .i64 v1, .string v2, .int .i64 v3, .int .i64 v4] 162) (Nat.le_refl _)
        have hE : EncOK mnL 12 [((x1, x2, x3, x4), ((y1, y2, y3, y4), (v1, v2, v3, v4)))] := fun a _ => ⟨mnL_len a, mnL_one a⟩
        have HR5 := Lib.hid (RecAt.fresh (l := [((x1, x2, x3, x4), ((y1, y2, y3, y4), (v1, v2, v3, v4)))]) (c := 1) hE (by decide) hX5 (Nat.le_refl _) (by decide))
        have HO5 := Lib.hid (hown4.below hb5)
        have HG5 := Lib.hid (hrg4.same (hb5.block _ hrg4.map.lt) (hb5.block _ hrg4.lt))
        have HB5 := Lib.hid (hbw4.trans (hb5.mono hbw4.size))
        have HLe : Hid (L.length + 1 ≤ 1000000000) := Lib.hid (by have := HLl.out; have := HLn.out; omega)
        have HSw : Hid (w.heap.size + 1 ≤ (W4.alloc (.cells #[.int .i64 x1, .string x2, .int .i64 x3, .int .i64 x4, .int .i64 y1, .string y2, .int .i64 y3, .int .i64 y4, .int .i64 v1, .string v2, .int .i64 v3, .int .i64 v4] 162)).heap.size) := Lib.hid (by have := hrg4.lt; have := hb5.size; omega)
        clear hX5 hown4 hrg4 hb5 hown3 hrg3 hbw4
        go_wp2_with (refine wpList_append_rec el162 rfl (.tmp 22) (.tmp 24) rfl rfl HO5.out HSw.out rfl HR5.out hE HLe.out ?_)
        intro v' W6 hA
        have hno : ∀ k, k ≤ w.heap.size → u5.ownBlock ≠ some k := fun k hk e => by have := (HO5.out.lt e).1; omega
        have hG6 := HG5.out.same (hA.other HG5.out.map.lt (hno mm (Nat.le_of_lt hml))) (hA.other HG5.out.lt (hno _ (Nat.le_refl _)))
        have hB6 := HB5.out.grown hA.grown HB5.out.size (fun k hk => by have := (HO5.out.lt hk).1; omega)
        have HG6 := Lib.hid hG6
        have HB6 := Lib.hid hB6
        have HO6 := Lib.hid hA.own
        clear hA hno hG6 hB6 HR5 HO5 HG5 HB5
        go_wp2_with fail
        go_roundg (A ++ B).length
        case measure => have := HN.out; simp at this ⊢; omega
        case rel =>
          refine Lib.hid ⟨A ++ B, L ++ [((x1, x2, x3, x4), ((y1, y2, y3, y4), (v1, v2, v3, v4)))], rfl, HG6.out, HO6.out, ?_, HB6.out, ?_⟩
          · have hp := HPm.out
            rw [List.map_append, List.map_cons, List.filter_append, List.filter_cons, if_pos (by exact HTk.out)] at hp
            rw [List.map_append, List.filter_append]
            refine List.Perm.trans ?_ hp
            rw [List.append_assoc]
            refine List.Perm.append_left L ?_
            exact (List.perm_middle (l₁ := (A.map (·.2)).filter T)).symm
          · have := HLl.out; have := HN.out; simp at this ⊢; omega
end Go.Proofs.YtnakbepcalciiaaGreat.lk
