/- Several texts in one, one behind the other: LkY. No condition beyond theirs. -/
import Derived.Test.YtnakbepcalciiaaGreatGw
/- shown. No condition. -/
namespace Go.Proofs.YtnakbepcalciiaaGreat.lk
open Go.RowKit mem rec tm names pm
set_option linter.unusedVariables false
set_option linter.unusedSimpArgs false
set_option maxHeartbeats 4000000
set_option maxRecDepth 100000
/-- what a method touches leaves all else -/
theorem below_of_touch {w w' : World} {z mh mm B : Nat} (h : TouchB (LkS z mh mm) w w') (h1 : B ≤ z) (h2 : B ≤ mh) (h3 : B ≤ mm) (hB : B ≤ w.heap.size) : Below B w w' :=
  h.below (fun k hk => by rcases hk with rfl | rfl | rfl <;> assumption) hB
theorem nine_touch {w w' : World} {z mh mm b : Nat} {f : TF} {v : Value} (h : TouchB (LkS z mh mm) w w') (hb : w.heap[b]? = some (cells9 f v)) (h1 : z < b) (h2 : mh < b) (h3 : mm < b) : Nine w' b f v :=
  nine_of ((h.block b (Array.getElem?_eq_some_iff.1 hb).1 (fun e => by rcases e with e | e | e <;> omega)).trans hb)
theorem three_boxes (w : World) (o1 o2 o3 : Obj) : ((w.alloc o1).alloc o2).alloc o3 = ((w.alloc o1).alloc o2).alloc o3 ∧ (((w.alloc o1).alloc o2).alloc o3).heap[w.heap.size]? = some o1 ∧ (((w.alloc o1).alloc o2).alloc o3).heap[w.heap.size + 1]? = some o2 ∧ (((w.alloc o1).alloc o2).alloc o3).heap[w.heap.size + 1 + 1]? = some o3 ∧ Below w.heap.size w (((w.alloc o1).alloc o2).alloc o3) ∧ (((w.alloc o1).alloc o2).alloc o3).heap.size = w.heap.size + 3 := by
  have a1 : (w.alloc o1).heap.size = w.heap.size + 1 := World.size_alloc _ _
  have a2 : ((w.alloc o1).alloc o2).heap.size = w.heap.size + 1 + 1 := by rw [World.size_alloc, a1]
  have b2 := belowA (Below.refl (w.alloc o1).heap.size _) o2 (Nat.le_refl _)
  have b3 := belowA (Below.refl ((w.alloc o1).alloc o2).heap.size _) o3 (Nat.le_refl _)
  have n1 := alloc_new w o1
  have n2 := alloc_new (w.alloc o1) o2
  have n3 := alloc_new ((w.alloc o1).alloc o2) o3
  rw [a1] at n2
  rw [a2] at n3
  refine ⟨rfl, ?_, ?_, n3, ?_, by rw [World.size_alloc, a2]⟩
  · rw [b3.block _ (by rw [a2]; omega), b2.block _ (by rw [a1]; omega)]; exact n1
  · rw [b3.block _ (by rw [a2]; omega)]; exact n2
  · exact ((belowA (Below.refl _ _) o1 (Nat.le_refl _)).trans (b2.mono (by omega))).trans (b3.mono (by omega))
def OfTwo (s : LkSt) (l : List Id) (w : World) (e : Ending) (w' : World) : Prop := ∃ v, e = .returned v ∧ RecOwn idTL 30 9 w' w.heap.size v l ∧ Below w.heap.size w w'
def LenP (e : Ending) (n : Nat) : Prop := ∃ p c, e = .returned (.slice p n c)
theorem shown14 (w : World) : Calls Tryz.prog 14 #[] w fun e w' => e = .returned (.bool true) ∧ Below w.heap.size w w' := by
  have HN := Lib.hid (fun W => new15 nmN 1 W)
  have HP := Lib.hid (fun W nm n => pid16 nm n W)
  unfold nmN at HN
  go_enter Tryz.func14, Tryz.ntmps14
  go_wp2_with fail
  refine (HN.out _).mono ?_
  rintro e w1 ⟨hb1, ⟨hn, _⟩ | ⟨_, z, mh, mm, rfl, hS0, hz1, hz2, hz3⟩⟩
  · exact absurd hn (by rw [show newB ⟨#[110]⟩ 1 = newB nmN 1 from rfl, new_n]; decide)
  have HS0 : Hid (LkAt w1 z mh mm s0) := Lib.hid hS0
  have HB1 := Lib.hid hb1
  have HG : Hid (w.heap.size ≤ z ∧ w.heap.size ≤ mh ∧ w.heap.size ≤ mm) := Lib.hid ⟨hz1, hz2, hz3⟩
  clear hS0 hb1 hz1 hz2 hz3 HN
  unfold idA pidI at HP
  dsimp only at HP
  go_wp2_with fail
  refine (HP.out _ _ _).mono ?_
  rintro e w2 ⟨rfl, hb2⟩
  go_wp2_with fail
  refine (HP.out _ _ _).mono ?_
  rintro e w3 ⟨rfl, hb3⟩
  go_wp2_with fail
  refine (HP.out _ _ _).mono ?_
  rintro e w4 ⟨rfl, hb4⟩
  have hbw := (hb2.trans (hb3.mono hb2.size)).trans (hb4.mono (Nat.le_trans hb2.size hb3.size))
  clear hb2 hb3 hb4 HP
  go_upto_region 5 with (fail)
  obtain ⟨_, hA, hBo, hX, hb5, hs5⟩ := three_boxes w4 (.cells #[.int .i64 6, .int .i64 1, .int .i64 1, .string ⟨#[110]⟩, .string ⟨#[]⟩, .int .i64 0, .slice none 0 0, .string ⟨#[]⟩, .int .i64 0] 30) (.cells #[.int .i64 6, .int .i64 2, .int .i64 1, .string ⟨#[110]⟩, .string ⟨#[]⟩, .int .i64 0, .slice none 0 0, .string ⟨#[]⟩, .int .i64 0] 30) (.cells #[.int .i64 6, .int .i64 1, .int .i64 1, .string ⟨#[109]⟩, .string ⟨#[]⟩, .int .i64 0, .slice none 0 0, .string ⟨#[]⟩, .int .i64 0] 30)
  have hb15 := hbw.trans (hb5.mono hbw.size)
  have HS5 := Lib.hid (HS0.out.below hb15)
  have hlt : z < w4.heap.size ∧ mh < w4.heap.size ∧ mm < w4.heap.size := ⟨Nat.lt_of_lt_of_le HS0.out.zlt hbw.size, Nat.lt_of_lt_of_le HS0.out.hlt hbw.size, Nat.lt_of_lt_of_le HS0.out.mlt hbw.size⟩
  have HB5 := Lib.hid (HB1.out.trans (hb15.mono HB1.out.size))
  generalize (((w4.alloc (.cells #[.int .i64 6, .int .i64 1, .int .i64 1, .string ⟨#[110]⟩, .string ⟨#[]⟩, .int .i64 0, .slice none 0 0, .string ⟨#[]⟩, .int .i64 0] 30)).alloc (.cells #[.int .i64 6, .int .i64 2, .int .i64 1, .string ⟨#[110]⟩, .string ⟨#[]⟩, .int .i64 0, .slice none 0 0, .string ⟨#[]⟩, .int .i64 0] 30)).alloc (.cells #[.int .i64 6, .int .i64 1, .int .i64 1, .string ⟨#[109]⟩, .string ⟨#[]⟩, .int .i64 0, .slice none 0 0, .string ⟨#[]⟩, .int .i64 0] 30)) = W5 at *
  have HBx := Lib.hid (fun W (hW : TouchB (LkS z mh mm) W5 W) => And.intro (nine_touch (f := idT pA) (v := nilV) (b := w4.heap.size) hW hA hlt.1 hlt.2.1 hlt.2.2) (And.intro (nine_touch (f := idT pB) (v := nilV) (b := w4.heap.size + 1) hW hBo (by omega) (by omega) (by omega)) (nine_touch (f := idT pX) (v := nilV) (b := w4.heap.size + 1 + 1) hW hX (by omega) (by omega) (by omega))))
  unfold idT pA pB pX pidI nmN nmM nilV at HBx
  dsimp only at HBx
  have HLt := Lib.hid hlt
  clear hA hBo hX hb5 hs5 hb15 hbw hlt HB1 HS0
  generalize w4.heap.size = za at *
  have HJ1 : Hid (Calls Tryz.prog 20 #[.pointer (some ⟨z, 0, none⟩), .agg #[.int .i64 6, .int .i64 1, .int .i64 1, .string ⟨#[110]⟩, .string ⟨#[]⟩, .int .i64 0, .slice none 0 0, .string ⟨#[]⟩, .int .i64 0], .agg #[.int .i64 6, .int .i64 2, .int .i64 1, .string ⟨#[110]⟩, .string ⟨#[]⟩, .int .i64 0, .slice none 0 0, .string ⟨#[]⟩, .int .i64 0]] W5 (fun e w' => e = .returned (.tuple #[.bool false, .int .i64 0]) ∧ LkAt w' z mh mm s1 ∧ TouchB (LkS z mh mm) W5 w')) := Lib.hid (by
    have h := joinI HS5.out pA pB
    rw [okA, okB] at h
    change Calls _ _ _ _ (JoinP (pairB nmN 1 false true true pA pB) s0 s1 (sendB s0 pA pB) z mh mm W5) at h
    rw [f1, f2] at h
    exact h)
  obtain ⟨hNA, hNB, hNX⟩ := HBx.out _ (TouchB.refl _ _)
  obtain ⟨a0, a1, a2, a3, a4, a5, a6, a7, a8, af⟩ := hNA
  obtain ⟨b0, b1, b2, b3, b4, b5, b6, b7, b8, bf⟩ := hNB
  go_wp2_with fail
  refine HJ1.out.mono ?_
  rintro e W6 ⟨rfl, hS6, hT6⟩
  clear a0 a1 a2 a3 a4 a5 a6 a7 a8 af b0 b1 b2 b3 b4 b5 b6 b7 b8 bf HJ1
  (try clear hNA)
  (try clear hNB)
  (try clear hNX)
  have HS6 := Lib.hid hS6
  have HT6 := Lib.hid hT6
  clear hS6 hT6
  go_upto_region 6 with (fail)
  have HJ2 : Hid (Calls Tryz.prog 20 #[.pointer (some ⟨z, 0, none⟩), .agg #[.int .i64 6, .int .i64 1, .int .i64 1, .string ⟨#[110]⟩, .string ⟨#[]⟩, .int .i64 0, .slice none 0 0, .string ⟨#[]⟩, .int .i64 0], .agg #[.int .i64 6, .int .i64 1, .int .i64 1, .string ⟨#[109]⟩, .string ⟨#[]⟩, .int .i64 0, .slice none 0 0, .string ⟨#[]⟩, .int .i64 0]] W6 (fun e w' => e = .returned (.tuple #[.bool true, .int .i64 0]) ∧ LkAt w' z mh mm s2 ∧ TouchB (LkS z mh mm) W6 w')) := Lib.hid (by
    have h := joinI HS6.out pA pX
    rw [okA, okX] at h
    change Calls _ _ _ _ (JoinP (pairB nmN 1 false true true pA pX) s1 s2 (sendB s1 pA pX) z mh mm W6) at h
    rw [f3, f4] at h
    exact h)
  obtain ⟨hNA, hNB, hNX⟩ := HBx.out _ HT6.out
  obtain ⟨a0, a1, a2, a3, a4, a5, a6, a7, a8, af⟩ := hNA
  obtain ⟨x0, x1, x2, x3, x4, x5, x6, x7, x8, xf⟩ := hNX
  go_wp2_with fail
  refine HJ2.out.mono ?_
  rintro e W7 ⟨rfl, hS7, hT7⟩
  clear a0 a1 a2 a3 a4 a5 a6 a7 a8 af x0 x1 x2 x3 x4 x5 x6 x7 x8 xf HJ2
  (try clear hNA)
  (try clear hNB)
  (try clear hNX)
  have HS7 := Lib.hid hS7
  have HT7 := Lib.hid (touch_trans HT6.out hT7)
  clear hS7 hT7
  go_upto_region 7 with (fail)
  have HO1 : Hid (Calls Tryz.prog 22 #[.pointer (some ⟨z, 0, none⟩), .agg #[.int .i64 6, .int .i64 1, .int .i64 1, .string ⟨#[110]⟩, .string ⟨#[]⟩, .int .i64 0, .slice none 0 0, .string ⟨#[]⟩, .int .i64 0]] W7 (OfTwo s2 [pX, pB] W7)) := Lib.hid (by
    have h := ofI HS7.out (by decide) pA
    have hl : (okI 6 pA && locB s2.node s2.gen pA) = true := by rw [okA]; decide
    rw [hl] at h
    refine h.mono ?_
    rintro e w' ⟨v, L, rfl, hp, hs, hr, hb⟩
    have hp : L.Perm ((keys s2.H).filter (fun p => decide (p.1 = pA))) := hp
    rw [of_s2 hp hs] at hr
    exact ⟨v, rfl, hr, hb⟩)
  obtain ⟨hNA, hNB, hNX⟩ := HBx.out _ HT7.out
  obtain ⟨a0, a1, a2, a3, a4, a5, a6, a7, a8, af⟩ := hNA
  go_wp2_with fail
  refine HO1.out.mono ?_
  rintro e W8 ⟨vo, rfl, hown, hb8⟩
  clear a0 a1 a2 a3 a4 a5 a6 a7 a8 af HO1
  (try clear hNA)
  (try clear hNB)
  (try clear hNX)
  obtain ⟨po, co, rfl, _, _⟩ := hown.shape
  have HOw := Lib.hid hown
  have HS8 := Lib.hid (HS7.out.below hb8)
  have HT8 := Lib.hid (touch_trans HT7.out (touch_of (S := LkS z mh mm) hb8))
  have HZ8 : Hid (z < W7.heap.size ∧ mh < W7.heap.size ∧ mm < W7.heap.size) := Lib.hid ⟨HS7.out.zlt, HS7.out.hlt, HS7.out.mlt⟩
  clear hown hb8
  go_upto_region 8 with (fail)
  have HPt : Hid (Calls Tryz.prog 18 #[.pointer (some ⟨z, 0, none⟩), .agg #[.int .i64 6, .int .i64 1, .int .i64 1, .string ⟨#[110]⟩, .string ⟨#[]⟩, .int .i64 0, .slice none 0 0, .string ⟨#[]⟩, .int .i64 0], .agg #[.int .i64 6, .int .i64 1, .int .i64 1, .string ⟨#[109]⟩, .string ⟨#[]⟩, .int .i64 0, .slice none 0 0, .string ⟨#[]⟩, .int .i64 0]] W8 (fun e w' => e = .returned (.tuple #[.int .i64 1, .bool true, .int .i64 0]) ∧ LkAt w' z mh mm s3 ∧ TouchB (LkS z mh mm) W8 w')) := Lib.hid (by
    have h := partI HS8.out pA pX (by decide) (by decide)
    rw [okA, okX] at h
    change Calls _ _ _ _ (PartP (pairB nmN 1 false true true pA pX) (partN s2 pA pX) (partB s2 pA pX) s2 s3 z mh mm W8) at h
    have h6 := f6
    simp only [Prod.mk.injEq] at h6
    rw [f3, h6.2.2.2.1, h6.2.2.2.2] at h
    exact h)
  obtain ⟨hNA, hNB, hNX⟩ := HBx.out _ HT8.out
  obtain ⟨a0, a1, a2, a3, a4, a5, a6, a7, a8, af⟩ := hNA
  obtain ⟨x0, x1, x2, x3, x4, x5, x6, x7, x8, xf⟩ := hNX
  go_wp2_with fail
  refine HPt.out.mono ?_
  rintro e W9 ⟨rfl, hS9, hT9⟩
  clear a0 a1 a2 a3 a4 a5 a6 a7 a8 af x0 x1 x2 x3 x4 x5 x6 x7 x8 xf HPt
  (try clear hNA)
  (try clear hNB)
  (try clear hNX)
  have HS9 := Lib.hid hS9
  have HT9 := Lib.hid (touch_trans HT8.out hT9)
  have HTo9 := Lib.hid hT9
  clear hS9 hT9
  go_upto_region 9 with (fail)
  obtain ⟨hNA, hNB, hNX⟩ := HBx.out _ HT9.out
  obtain ⟨a0, a1, a2, a3, a4, a5, a6, a7, a8, af⟩ := hNA
  obtain ⟨x0, x1, x2, x3, x4, x5, x6, x7, x8, xf⟩ := hNX
  have HI : Hid ((Tryz.prog.info? 47).map (·.size) = some 27) := Lib.hid (by kernel_rfl)
  have HOne : Hid ((#[.int .i64 3, .int .i64 1, .int .i64 1, .string ⟨#[110]⟩, .string ⟨#[]⟩, .int .i64 0, .slice none 0 0, .string ⟨#[]⟩, .int .i64 0, .int .i64 6, .int .i64 1, .int .i64 1, .string ⟨#[110]⟩, .string ⟨#[]⟩, .int .i64 0, .slice none 0 0, .string ⟨#[]⟩, .int .i64 0, .int .i64 6, .int .i64 1, .int .i64 1, .string ⟨#[109]⟩, .string ⟨#[]⟩, .int .i64 0, .slice none 0 0, .string ⟨#[]⟩, .int .i64 0] : Array Value).all (·.oneCell') = true) := Lib.hid (Array.all_eq_true_iff_forall_mem.2 fun v hv => mnTL_one (rR, pA, pX) v (by simpa [mnTL, idTL, rR, pA, pX, pidI, nmN, nmM] using hv))
  have hz0 := alloc_new W9 (.cells #[.int .i64 0, .int .i64 0, .int .i64 0, .string ⟨#[]⟩, .string ⟨#[]⟩, .int .i64 0, .slice none 0 0, .string ⟨#[]⟩, .int .i64 0, .int .i64 0, .int .i64 0, .int .i64 0, .string ⟨#[]⟩, .string ⟨#[]⟩, .int .i64 0, .slice none 0 0, .string ⟨#[]⟩, .int .i64 0, .int .i64 0, .int .i64 0, .int .i64 0, .string ⟨#[]⟩, .string ⟨#[]⟩, .int .i64 0, .slice none 0 0, .string ⟨#[]⟩, .int .i64 0] 47)
  go_upto_region 10 with (refine wpList_store_row rfl 47 (.tmp 14) (.tmp 58) rfl W9.heap.size #[.int .i64 3, .int .i64 1, .int .i64 1, .string ⟨#[110]⟩, .string ⟨#[]⟩, .int .i64 0, .slice none 0 0, .string ⟨#[]⟩, .int .i64 0, .int .i64 6, .int .i64 1, .int .i64 1, .string ⟨#[110]⟩, .string ⟨#[]⟩, .int .i64 0, .slice none 0 0, .string ⟨#[]⟩, .int .i64 0, .int .i64 6, .int .i64 1, .int .i64 1, .string ⟨#[109]⟩, .string ⟨#[]⟩, .int .i64 0, .slice none 0 0, .string ⟨#[]⟩, .int .i64 0] rfl rfl 47 #[.int .i64 0, .int .i64 0, .int .i64 0, .string ⟨#[]⟩, .string ⟨#[]⟩, .int .i64 0, .slice none 0 0, .string ⟨#[]⟩, .int .i64 0, .int .i64 0, .int .i64 0, .int .i64 0, .string ⟨#[]⟩, .string ⟨#[]⟩, .int .i64 0, .slice none 0 0, .string ⟨#[]⟩, .int .i64 0, .int .i64 0, .int .i64 0, .int .i64 0, .string ⟨#[]⟩, .string ⟨#[]⟩, .int .i64 0, .slice none 0 0, .string ⟨#[]⟩, .int .i64 0] hz0 HI.out rfl HOne.out ?_)
  have hb9 := belowA (Below.refl W9.heap.size W9) (.cells #[.int .i64 0, .int .i64 0, .int .i64 0, .string ⟨#[]⟩, .string ⟨#[]⟩, .int .i64 0, .slice none 0 0, .string ⟨#[]⟩, .int .i64 0, .int .i64 0, .int .i64 0, .int .i64 0, .string ⟨#[]⟩, .string ⟨#[]⟩, .int .i64 0, .slice none 0 0, .string ⟨#[]⟩, .int .i64 0, .int .i64 0, .int .i64 0, .int .i64 0, .string ⟨#[]⟩, .string ⟨#[]⟩, .int .i64 0, .slice none 0 0, .string ⟨#[]⟩, .int .i64 0] 47) (Nat.le_refl _)
  have hr10 := setRow_heap (W9.alloc (.cells #[.int .i64 0, .int .i64 0, .int .i64 0, .string ⟨#[]⟩, .string ⟨#[]⟩, .int .i64 0, .slice none 0 0, .string ⟨#[]⟩, .int .i64 0, .int .i64 0, .int .i64 0, .int .i64 0, .string ⟨#[]⟩, .string ⟨#[]⟩, .int .i64 0, .slice none 0 0, .string ⟨#[]⟩, .int .i64 0, .int .i64 0, .int .i64 0, .int .i64 0, .string ⟨#[]⟩, .string ⟨#[]⟩, .int .i64 0, .slice none 0 0, .string ⟨#[]⟩, .int .i64 0] 47)) W9.heap.size _ #[.int .i64 3, .int .i64 1, .int .i64 1, .string ⟨#[110]⟩, .string ⟨#[]⟩, .int .i64 0, .slice none 0 0, .string ⟨#[]⟩, .int .i64 0, .int .i64 6, .int .i64 1, .int .i64 1, .string ⟨#[110]⟩, .string ⟨#[]⟩, .int .i64 0, .slice none 0 0, .string ⟨#[]⟩, .int .i64 0, .int .i64 6, .int .i64 1, .int .i64 1, .string ⟨#[109]⟩, .string ⟨#[]⟩, .int .i64 0, .slice none 0 0, .string ⟨#[]⟩, .int .i64 0] 47 (0, 0) hz0
  have ht10 : TouchB (fun i => i = W9.heap.size) (W9.alloc (.cells #[.int .i64 0, .int .i64 0, .int .i64 0, .string ⟨#[]⟩, .string ⟨#[]⟩, .int .i64 0, .slice none 0 0, .string ⟨#[]⟩, .int .i64 0, .int .i64 0, .int .i64 0, .int .i64 0, .string ⟨#[]⟩, .string ⟨#[]⟩, .int .i64 0, .slice none 0 0, .string ⟨#[]⟩, .int .i64 0, .int .i64 0, .int .i64 0, .int .i64 0, .string ⟨#[]⟩, .string ⟨#[]⟩, .int .i64 0, .slice none 0 0, .string ⟨#[]⟩, .int .i64 0] 47)) ((W9.alloc (.cells #[.int .i64 0, .int .i64 0, .int .i64 0, .string ⟨#[]⟩, .string ⟨#[]⟩, .int .i64 0, .slice none 0 0, .string ⟨#[]⟩, .int .i64 0, .int .i64 0, .int .i64 0, .int .i64 0, .string ⟨#[]⟩, .string ⟨#[]⟩, .int .i64 0, .slice none 0 0, .string ⟨#[]⟩, .int .i64 0, .int .i64 0, .int .i64 0, .int .i64 0, .string ⟨#[]⟩, .string ⟨#[]⟩, .int .i64 0, .slice none 0 0, .string ⟨#[]⟩, .int .i64 0] 47)).setRow W9.heap.size #[.int .i64 3, .int .i64 1, .int .i64 1, .string ⟨#[110]⟩, .string ⟨#[]⟩, .int .i64 0, .slice none 0 0, .string ⟨#[]⟩, .int .i64 0, .int .i64 6, .int .i64 1, .int .i64 1, .string ⟨#[110]⟩, .string ⟨#[]⟩, .int .i64 0, .slice none 0 0, .string ⟨#[]⟩, .int .i64 0, .int .i64 6, .int .i64 1, .int .i64 1, .string ⟨#[109]⟩, .string ⟨#[]⟩, .int .i64 0, .slice none 0 0, .string ⟨#[]⟩, .int .i64 0]) := ⟨rfl, rfl, rfl, by simp, fun k hk hn => by simp [World.setRow, Array.getElem?_modify, show ¬ W9.heap.size = k from fun e => hn e.symm]⟩
  have hb10 := hb9.trans (ht10.below (fun k hk => by rw [hk]; exact Nat.le_refl _) hb9.size)
  have hl10 : W9.heap.size < ((W9.alloc (.cells #[.int .i64 0, .int .i64 0, .int .i64 0, .string ⟨#[]⟩, .string ⟨#[]⟩, .int .i64 0, .slice none 0 0, .string ⟨#[]⟩, .int .i64 0, .int .i64 0, .int .i64 0, .int .i64 0, .string ⟨#[]⟩, .string ⟨#[]⟩, .int .i64 0, .slice none 0 0, .string ⟨#[]⟩, .int .i64 0, .int .i64 0, .int .i64 0, .int .i64 0, .string ⟨#[]⟩, .string ⟨#[]⟩, .int .i64 0, .slice none 0 0, .string ⟨#[]⟩, .int .i64 0] 47)).setRow W9.heap.size #[.int .i64 3, .int .i64 1, .int .i64 1, .string ⟨#[110]⟩, .string ⟨#[]⟩, .int .i64 0, .slice none 0 0, .string ⟨#[]⟩, .int .i64 0, .int .i64 6, .int .i64 1, .int .i64 1, .string ⟨#[110]⟩, .string ⟨#[]⟩, .int .i64 0, .slice none 0 0, .string ⟨#[]⟩, .int .i64 0, .int .i64 6, .int .i64 1, .int .i64 1, .string ⟨#[109]⟩, .string ⟨#[]⟩, .int .i64 0, .slice none 0 0, .string ⟨#[]⟩, .int .i64 0]).heap.size := (Array.getElem?_eq_some_iff.1 hr10).1
  clear hz0 hb9 ht10
  (try clear hNA)
  (try clear hNB)
  (try clear hNX)
  clear a0 a1 a2 a3 a4 a5 a6 a7 a8 af x0 x1 x2 x3 x4 x5 x6 x7 x8 xf
  generalize ((W9.alloc (.cells #[.int .i64 0, .int .i64 0, .int .i64 0, .string ⟨#[]⟩, .string ⟨#[]⟩, .int .i64 0, .slice none 0 0, .string ⟨#[]⟩, .int .i64 0, .int .i64 0, .int .i64 0, .int .i64 0, .string ⟨#[]⟩, .string ⟨#[]⟩, .int .i64 0, .slice none 0 0, .string ⟨#[]⟩, .int .i64 0, .int .i64 0, .int .i64 0, .int .i64 0, .string ⟨#[]⟩, .string ⟨#[]⟩, .int .i64 0, .slice none 0 0, .string ⟨#[]⟩, .int .i64 0] 47)).setRow W9.heap.size #[.int .i64 3, .int .i64 1, .int .i64 1, .string ⟨#[110]⟩, .string ⟨#[]⟩, .int .i64 0, .slice none 0 0, .string ⟨#[]⟩, .int .i64 0, .int .i64 6, .int .i64 1, .int .i64 1, .string ⟨#[110]⟩, .string ⟨#[]⟩, .int .i64 0, .slice none 0 0, .string ⟨#[]⟩, .int .i64 0, .int .i64 6, .int .i64 1, .int .i64 1, .string ⟨#[109]⟩, .string ⟨#[]⟩, .int .i64 0, .slice none 0 0, .string ⟨#[]⟩, .int .i64 0]) = W10 at *
  have HS10 := Lib.hid (HS9.out.below hb10)
  have HT10 := Lib.hid (touch_trans HT9.out (touch_of (S := LkS z mh mm) hb10))
  have HTo10 := Lib.hid (touch_trans HTo9.out (touch_of (S := LkS z mh mm) hb10))
  have HZm : Hid (z < W9.heap.size ∧ mh < W9.heap.size ∧ mm < W9.heap.size) := Lib.hid ⟨HS9.out.zlt, HS9.out.hlt, HS9.out.mlt⟩
  have HR10 := Lib.hid (fun W (hW : TouchB (LkS z mh mm) W10 W) => (hW.block W9.heap.size hl10 (fun e => by have := HZm.out; rcases e with e | e | e <;> omega)).trans hr10)
  clear hb10 hr10 hl10
  generalize W9.heap.size = zm at *
  (try simp only [Act.put, List.setIfInBounds_toArray, List.set_cons_zero, List.set_cons_succ])
  have HW1 : Hid (Calls Tryz.prog 27 #[.pointer (some ⟨z, 0, none⟩), .agg #[.int .i64 3, .int .i64 1, .int .i64 1, .string ⟨#[110]⟩, .string ⟨#[]⟩, .int .i64 0, .slice none 0 0, .string ⟨#[]⟩, .int .i64 0, .int .i64 6, .int .i64 1, .int .i64 1, .string ⟨#[110]⟩, .string ⟨#[]⟩, .int .i64 0, .slice none 0 0, .string ⟨#[]⟩, .int .i64 0, .int .i64 6, .int .i64 1, .int .i64 1, .string ⟨#[109]⟩, .string ⟨#[]⟩, .int .i64 0, .slice none 0 0, .string ⟨#[]⟩, .int .i64 0]] W10 (fun e w' => e = .returned (.int .i64 0) ∧ LkAt w' z mh mm s4 ∧ TouchB (LkS z mh mm) W10 w')) := Lib.hid (by
    have h := watchI HS10.out rR pA pX
    have h8 := f8
    simp only [Prod.mk.injEq] at h8
    rw [okR, okA, okX, h8.1] at h
    change Calls _ _ _ _ (fun e w' => e = .returned (.int .i64 (watchE true s3 rR)) ∧ LkAt w' z mh mm s4 ∧ TouchB (LkS z mh mm) W10 w') at h
    rw [h8.2.1] at h
    exact h)
  have hx10 := HR10.out _ (TouchB.refl _ _)
  go_wp2_with (refine wpList_load_row rfl 47 (.tmp 14) rfl zm rfl 47 #[.int .i64 3, .int .i64 1, .int .i64 1, .string ⟨#[110]⟩, .string ⟨#[]⟩, .int .i64 0, .slice none 0 0, .string ⟨#[]⟩, .int .i64 0, .int .i64 6, .int .i64 1, .int .i64 1, .string ⟨#[110]⟩, .string ⟨#[]⟩, .int .i64 0, .slice none 0 0, .string ⟨#[]⟩, .int .i64 0, .int .i64 6, .int .i64 1, .int .i64 1, .string ⟨#[109]⟩, .string ⟨#[]⟩, .int .i64 0, .slice none 0 0, .string ⟨#[]⟩, .int .i64 0] (0, 0) _ hx10 Tryz.underlying47 rfl HI.out ?_)
  refine HW1.out.mono ?_
  rintro e W11 ⟨rfl, hS11, hT11⟩
  clear hx10 HW1
  have HS11 := Lib.hid hS11
  have HT11 := Lib.hid (touch_trans HT10.out hT11)
  have HTo11 := Lib.hid (touch_trans HTo10.out hT11)
  have hx11 := HR10.out _ hT11
  have HT1011 := Lib.hid hT11
  clear hS11 hT11
  go_upto_region 11 with (fail)
  have HW2 : Hid (Calls Tryz.prog 27 #[.pointer (some ⟨z, 0, none⟩), .agg #[.int .i64 3, .int .i64 1, .int .i64 1, .string ⟨#[110]⟩, .string ⟨#[]⟩, .int .i64 0, .slice none 0 0, .string ⟨#[]⟩, .int .i64 0, .int .i64 6, .int .i64 1, .int .i64 1, .string ⟨#[110]⟩, .string ⟨#[]⟩, .int .i64 0, .slice none 0 0, .string ⟨#[]⟩, .int .i64 0, .int .i64 6, .int .i64 1, .int .i64 1, .string ⟨#[109]⟩, .string ⟨#[]⟩, .int .i64 0, .slice none 0 0, .string ⟨#[]⟩, .int .i64 0]] W11 (fun e w' => e = .returned (.int .i64 8) ∧ LkAt w' z mh mm s4 ∧ TouchB (LkS z mh mm) W11 w')) := Lib.hid (by
    have h := watchI HS11.out rR pA pX
    have h8 := f8
    simp only [Prod.mk.injEq] at h8
    rw [okR, okA, okX, h8.2.2.1] at h
    change Calls _ _ _ _ (fun e w' => e = .returned (.int .i64 (watchE true s4 rR)) ∧ LkAt w' z mh mm (watchS true s4 rR pA pX) ∧ TouchB (LkS z mh mm) W11 w') at h
    rw [h8.2.2.2] at h
    exact h)
  go_wp2_with (refine wpList_load_row rfl 47 (.tmp 14) rfl zm rfl 47 #[.int .i64 3, .int .i64 1, .int .i64 1, .string ⟨#[110]⟩, .string ⟨#[]⟩, .int .i64 0, .slice none 0 0, .string ⟨#[]⟩, .int .i64 0, .int .i64 6, .int .i64 1, .int .i64 1, .string ⟨#[110]⟩, .string ⟨#[]⟩, .int .i64 0, .slice none 0 0, .string ⟨#[]⟩, .int .i64 0, .int .i64 6, .int .i64 1, .int .i64 1, .string ⟨#[109]⟩, .string ⟨#[]⟩, .int .i64 0, .slice none 0 0, .string ⟨#[]⟩, .int .i64 0] (0, 0) _ hx11 Tryz.underlying47 rfl HI.out ?_)
  refine HW2.out.mono ?_
  rintro e W12 ⟨rfl, hS12, hT12⟩
  clear hx11 HW2
  have HS12 := Lib.hid hS12
  have HT12 := Lib.hid (touch_trans HT11.out hT12)
  have HTo12 := Lib.hid (touch_trans HTo11.out hT12)
  clear hS12 hT12 HS5 HS6 HS7 HS8 HS9 HS10 HS11 HT6 HT7 HT8 HT9 HT10 HT11 HTo9 HTo10 HTo11 HR10 HI HOne HT1011
  go_upto_region 12 with (fail)
  have hrow : RecOwn idTL 30 9 W12 W7.heap.size (.slice po 2 co) [pX, pB] := HOw.out.same (fun k hk => HTo12.out.block k (HOw.out.lt hk).2 (fun e => by have := (HOw.out.lt hk).1; have := HZ8.out; rcases e with e | e | e <;> omega))
  have hrat := hrow.row (fun a _ => ⟨idTL_len a, idTL_one a⟩)
  obtain ⟨g, o, rfl, _, hg, hc⟩ := hrat.nth (by decide)
  obtain ⟨cap', hcap⟩ : ∃ c', (Value.slice (some ⟨g, o, none⟩) 2 co) = .slice (some ⟨g, 0, none⟩) 2 c' := by
    rcases hrow.2 with ⟨h, _⟩ | ⟨g', cap, cur, h, _⟩
    · simp at h
    · simp only [Value.slice.injEq, Option.some.injEq, Addr.mk.injEq] at h
      obtain ⟨⟨h1, h2, _⟩, _, h3⟩ := h
      exact ⟨co, by rw [h2]⟩
  simp only [Value.slice.injEq, Option.some.injEq, Addr.mk.injEq] at hcap
  obtain ⟨⟨_, ho, _⟩, _, _⟩ := hcap
  subst ho
  have hc0 := hc 0 pX rfl
  simp only [Nat.zero_mul, Nat.zero_add] at hc0
  have HC0 := Lib.hid hc0
  have HG12 : Hid (∀ W, Below W12.drew.heap.size W12.drew W → W.heap[g]? = W12.heap[g]?) := Lib.hid (fun W hW => hW.block g hg)
  have HCg : Hid (∀ W, Below W12.drew.heap.size W12.drew W → ∀ k u, (idTL pX)[k]? = some u → W.cell? ⟨g, k, none⟩ = some u) := Lib.hid (fun W hW k u hu => (World.cell?_of_block (a := ⟨g, k, none⟩) (HG12.out W hW)).trans (HC0.out k u hu))
  have HCx : Hid (∀ W, Below W12.drew.heap.size W12.drew W → TouchB (LkS z mh mm) W5 W) := Lib.hid (fun W hW => touch_trans HT12.out (touch_trans (touch_of (belowD (Below.refl _ _))) (touch_of hW)))
  have HSame : Hid (∀ W, Below W12.drew.heap.size W12.drew W → Calls Tryz.prog 21 #[.agg #[.int .i64 6, .int .i64 1, .int .i64 1, .string ⟨#[109]⟩, .string ⟨#[]⟩, .int .i64 0, .slice none 0 0, .string ⟨#[]⟩, .int .i64 0], .agg #[.int .i64 6, .int .i64 1, .int .i64 1, .string ⟨#[109]⟩, .string ⟨#[]⟩, .int .i64 0, .slice none 0 0, .string ⟨#[]⟩, .int .i64 0]] W (fun e w' => e = .returned (.bool true) ∧ Below W.heap.size W w')) := Lib.hid (fun W hW => by
    have h := tm.sameOne W 0 nilV nilV (tmI pX) (tmI pX) (Nat.zero_le _) (nilI W pX) (nilI W pX)
    rw [eqB_t rfl] at h
    exact h)
  have HOf : Hid (∀ W, Below W12.drew.heap.size W12.drew W → Calls Tryz.prog 22 #[.pointer (some ⟨z, 0, none⟩), .agg #[.int .i64 6, .int .i64 1, .int .i64 1, .string ⟨#[110]⟩, .string ⟨#[]⟩, .int .i64 0, .slice none 0 0, .string ⟨#[]⟩, .int .i64 0]] W (fun e w' => LenP e 1 ∧ Below W.heap.size W w')) := Lib.hid (fun W hW => by
    have h := ofI ((HS12.out.below (belowD (Below.refl _ _))).below hW) (by decide) pA
    have hl : (okI 6 pA && locB s4.node s4.gen pA) = true := by rw [okA]; decide
    rw [hl] at h
    refine h.mono ?_
    rintro e w' ⟨v, L, rfl, hp, hs, hr, hb⟩
    have hn := of_s4 hp
    obtain ⟨p, c, rfl, _⟩ := hr.shape
    rw [hn]
    exact ⟨⟨p, c, rfl⟩, hb⟩)
  have HHe : Hid (∀ W, Below W12.drew.heap.size W12.drew W → Calls Tryz.prog 29 #[.pointer (some ⟨z, 0, none⟩), .agg #[.int .i64 6, .int .i64 1, .int .i64 1, .string ⟨#[110]⟩, .string ⟨#[]⟩, .int .i64 0, .slice none 0 0, .string ⟨#[]⟩, .int .i64 0]] W (fun e w' => LenP e 1 ∧ Below W.heap.size W w')) := Lib.hid (fun W hW => by
    have h := heldI ((HS12.out.below (belowD (Below.refl _ _))).below hW) (by decide) pA
    rw [okA] at h
    refine h.mono ?_
    rintro e w' ⟨v, L, rfl, hp, hs, hr, hb⟩
    have hn := held_s4 hp
    obtain ⟨p, c, rfl, _⟩ := hr.shape
    rw [hn]
    exact ⟨⟨p, c, rfl⟩, hb⟩)
  have HF : Hid (Below w.heap.size w W12.drew) := Lib.hid (HB5.out.trans (below_of_touch (touch_trans HT12.out (touch_of (belowD (Below.refl _ _)))) HG.out.1 HG.out.2.1 HG.out.2.2 HB5.out.size))
  clear hrow hrat hc hc0 HOw HTo12 HZ8 HZm hg
  have hbd : Below W12.drew.heap.size W12.drew W12.drew := Below.refl _ _
  obtain ⟨hNA, _, hNX⟩ := HBx.out _ HT12.out
  obtain ⟨a0, a1, a2, a3, a4, a5, a6, a7, a8, af⟩ := hNA
  obtain ⟨x0, x1, x2, x3, x4, x5, x6, x7, x8, xf⟩ := hNX
  have g0 : W12.cell? ⟨g, 0, none⟩ = some (.int .i64 6) := HCg.out _ hbd 0 _ rfl
  have g1 : W12.cell? ⟨g, 1, none⟩ = some (.int .i64 1) := HCg.out _ hbd 1 _ rfl
  have g2 : W12.cell? ⟨g, 2, none⟩ = some (.int .i64 1) := HCg.out _ hbd 2 _ rfl
  have g3 : W12.cell? ⟨g, 3, none⟩ = some (.string ⟨#[109]⟩) := HCg.out _ hbd 3 _ rfl
  have g4 : W12.cell? ⟨g, 4, none⟩ = some (.string ⟨#[]⟩) := HCg.out _ hbd 4 _ rfl
  have g5 : W12.cell? ⟨g, 5, none⟩ = some (.int .i64 0) := HCg.out _ hbd 5 _ rfl
  have g6 : W12.cell? ⟨g, 6, none⟩ = some (.slice none 0 0) := HCg.out _ hbd 6 _ rfl
  have g7 : W12.cell? ⟨g, 7, none⟩ = some (.string ⟨#[]⟩) := HCg.out _ hbd 7 _ rfl
  have g8 : W12.cell? ⟨g, 8, none⟩ = some (.int .i64 0) := HCg.out _ hbd 8 _ rfl
  go_region_held3 (fun w' => w'.cell? ⟨za, 0, none⟩ = some (.int .i64 6) ∧ w'.cell? ⟨za, 1, none⟩ = some (.int .i64 1) ∧ w'.cell? ⟨za, 2, none⟩ = some (.int .i64 1) ∧ w'.cell? ⟨za, 3, none⟩ = some (.string ⟨#[110]⟩) ∧ w'.cell? ⟨za, 4, none⟩ = some (.string ⟨#[]⟩) ∧ w'.cell? ⟨za, 5, none⟩ = some (.int .i64 0) ∧ w'.cell? ⟨za, 6, none⟩ = some (.slice none 0 0) ∧ w'.cell? ⟨za, 7, none⟩ = some (.string ⟨#[]⟩) ∧ w'.cell? ⟨za, 8, none⟩ = some (.int .i64 0) ∧ w'.cell? ⟨za + 1 + 1, 0, none⟩ = some (.int .i64 6) ∧ w'.cell? ⟨za + 1 + 1, 1, none⟩ = some (.int .i64 1) ∧ w'.cell? ⟨za + 1 + 1, 2, none⟩ = some (.int .i64 1) ∧ w'.cell? ⟨za + 1 + 1, 3, none⟩ = some (.string ⟨#[109]⟩) ∧ w'.cell? ⟨za + 1 + 1, 4, none⟩ = some (.string ⟨#[]⟩) ∧ w'.cell? ⟨za + 1 + 1, 5, none⟩ = some (.int .i64 0) ∧ w'.cell? ⟨za + 1 + 1, 6, none⟩ = some (.slice none 0 0) ∧ w'.cell? ⟨za + 1 + 1, 7, none⟩ = some (.string ⟨#[]⟩) ∧ w'.cell? ⟨za + 1 + 1, 8, none⟩ = some (.int .i64 0) ∧ w'.cell? ⟨g, 0, none⟩ = some (.int .i64 6) ∧ w'.cell? ⟨g, 1, none⟩ = some (.int .i64 1) ∧ w'.cell? ⟨g, 2, none⟩ = some (.int .i64 1) ∧ w'.cell? ⟨g, 3, none⟩ = some (.string ⟨#[109]⟩) ∧ w'.cell? ⟨g, 4, none⟩ = some (.string ⟨#[]⟩) ∧ w'.cell? ⟨g, 5, none⟩ = some (.int .i64 0) ∧ w'.cell? ⟨g, 6, none⟩ = some (.slice none 0 0) ∧ w'.cell? ⟨g, 7, none⟩ = some (.string ⟨#[]⟩) ∧ w'.cell? ⟨g, 8, none⟩ = some (.int .i64 0)) (go_keep)
    (first
      | (go_at_call 21; (with_reducible refine (HSame.out _ hbd).mono ?_); rintro e w1 ⟨rfl, hb⟩; have hbe := hbd.trans (hb.mono hbd.size); obtain ⟨hNA, _, hNX⟩ := HBx.out _ (HCx.out _ hbe); obtain ⟨a0, a1, a2, a3, a4, a5, a6, a7, a8, af⟩ := hNA; obtain ⟨x0, x1, x2, x3, x4, x5, x6, x7, x8, xf⟩ := hNX; have g0 : w1.cell? ⟨g, 0, none⟩ = some (.int .i64 6) := HCg.out _ hbe 0 _ rfl; have g1 : w1.cell? ⟨g, 1, none⟩ = some (.int .i64 1) := HCg.out _ hbe 1 _ rfl; have g2 : w1.cell? ⟨g, 2, none⟩ = some (.int .i64 1) := HCg.out _ hbe 2 _ rfl; have g3 : w1.cell? ⟨g, 3, none⟩ = some (.string ⟨#[109]⟩) := HCg.out _ hbe 3 _ rfl; have g4 : w1.cell? ⟨g, 4, none⟩ = some (.string ⟨#[]⟩) := HCg.out _ hbe 4 _ rfl; have g5 : w1.cell? ⟨g, 5, none⟩ = some (.int .i64 0) := HCg.out _ hbe 5 _ rfl; have g6 : w1.cell? ⟨g, 6, none⟩ = some (.slice none 0 0) := HCg.out _ hbe 6 _ rfl; have g7 : w1.cell? ⟨g, 7, none⟩ = some (.string ⟨#[]⟩) := HCg.out _ hbe 7 _ rfl; have g8 : w1.cell? ⟨g, 8, none⟩ = some (.int .i64 0) := HCg.out _ hbe 8 _ rfl)
      | (go_at_call 22; (with_reducible refine (HOf.out _ hbe).mono ?_); rintro e w2 ⟨⟨q1, d1, rfl⟩, hb2⟩; have hbf := hbe.trans (hb2.mono hbe.size); obtain ⟨hNA, _, hNX⟩ := HBx.out _ (HCx.out _ hbf); obtain ⟨a0, a1, a2, a3, a4, a5, a6, a7, a8, af⟩ := hNA; obtain ⟨x0, x1, x2, x3, x4, x5, x6, x7, x8, xf⟩ := hNX; have g0 : w2.cell? ⟨g, 0, none⟩ = some (.int .i64 6) := HCg.out _ hbf 0 _ rfl; have g1 : w2.cell? ⟨g, 1, none⟩ = some (.int .i64 1) := HCg.out _ hbf 1 _ rfl; have g2 : w2.cell? ⟨g, 2, none⟩ = some (.int .i64 1) := HCg.out _ hbf 2 _ rfl; have g3 : w2.cell? ⟨g, 3, none⟩ = some (.string ⟨#[109]⟩) := HCg.out _ hbf 3 _ rfl; have g4 : w2.cell? ⟨g, 4, none⟩ = some (.string ⟨#[]⟩) := HCg.out _ hbf 4 _ rfl; have g5 : w2.cell? ⟨g, 5, none⟩ = some (.int .i64 0) := HCg.out _ hbf 5 _ rfl; have g6 : w2.cell? ⟨g, 6, none⟩ = some (.slice none 0 0) := HCg.out _ hbf 6 _ rfl; have g7 : w2.cell? ⟨g, 7, none⟩ = some (.string ⟨#[]⟩) := HCg.out _ hbf 7 _ rfl; have g8 : w2.cell? ⟨g, 8, none⟩ = some (.int .i64 0) := HCg.out _ hbf 8 _ rfl)
      | (go_at_call 29; (with_reducible refine (HHe.out _ hbf).mono ?_); rintro e w3 ⟨⟨q2, d2, rfl⟩, hb3⟩; have hbg := hbf.trans (hb3.mono hbf.size); obtain ⟨hNA, _, hNX⟩ := HBx.out _ (HCx.out _ hbg); obtain ⟨a0, a1, a2, a3, a4, a5, a6, a7, a8, af⟩ := hNA; obtain ⟨x0, x1, x2, x3, x4, x5, x6, x7, x8, xf⟩ := hNX; have g0 : w3.cell? ⟨g, 0, none⟩ = some (.int .i64 6) := HCg.out _ hbg 0 _ rfl; have g1 : w3.cell? ⟨g, 1, none⟩ = some (.int .i64 1) := HCg.out _ hbg 1 _ rfl; have g2 : w3.cell? ⟨g, 2, none⟩ = some (.int .i64 1) := HCg.out _ hbg 2 _ rfl; have g3 : w3.cell? ⟨g, 3, none⟩ = some (.string ⟨#[109]⟩) := HCg.out _ hbg 3 _ rfl; have g4 : w3.cell? ⟨g, 4, none⟩ = some (.string ⟨#[]⟩) := HCg.out _ hbg 4 _ rfl; have g5 : w3.cell? ⟨g, 5, none⟩ = some (.int .i64 0) := HCg.out _ hbg 5 _ rfl; have g6 : w3.cell? ⟨g, 6, none⟩ = some (.slice none 0 0) := HCg.out _ hbg 6 _ rfl; have g7 : w3.cell? ⟨g, 7, none⟩ = some (.string ⟨#[]⟩) := HCg.out _ hbg 7 _ rfl; have g8 : w3.cell? ⟨g, 8, none⟩ = some (.int .i64 0) := HCg.out _ hbg 8 _ rfl))
  all_goals
    go_wp2_with fail
    go_ret
    exact ⟨rfl, HF.out.trans (hbg.mono HF.out.size)⟩
end Go.Proofs.YtnakbepcalciiaaGreat.lk
