/- Several texts in one, one behind the other: LkNa, LkNb. No condition beyond theirs. -/
import Derived.Test.YtnakbepcalciiaaGreatGx
import Derived.Test.YtnakbepcalciiaaGreatGy
import Derived.Test.YtnakbepcalciiaaGreatGa
/- The methods of Links at an object that is nil or was not made by New. No condition. -/
namespace Go.Proofs.YtnakbepcalciiaaGreat.lk
open Go.RowKit mem rec tm names pm
set_option linter.unusedVariables false
set_option linter.unusedSimpArgs false
set_option maxHeartbeats 4000000
set_option maxRecDepth 100000
theorem two_boxes (w : World) (o1 o2 : Obj) : Below w.heap.size w ((w.alloc o1).alloc o2) :=
  belowA (belowA (Below.refl _ _) o1 (Nat.le_refl _)) o2 (by rw [World.size_alloc]; omega)
def zeroLk : Obj := .cells #[.string ⟨#[]⟩, .int .i64 0, .int .i64 0, .map none, .map none] 85
/-- nil, or the zero object -/
def NoneAt (w : World) (v : Value) : Prop := v = .pointer none ∨ ∃ z, v = .pointer (some ⟨z, 0, none⟩) ∧ w.heap[z]? = some zeroLk
theorem NoneAt.below {w w' : World} {v : Value} (h : NoneAt w v) (hb : Below w.heap.size w w') : NoneAt w' v := by
  rcases h with h | ⟨z, h, hz⟩
  · exact .inl h
  · exact .inr ⟨z, h, (hb.block z (Array.getElem?_eq_some_iff.1 hz).1).trans hz⟩
theorem none85N {w : World} {v : Value} (h : NoneAt w v) : Calls Tryz.prog 85 #[v] w fun e w' => e = .returned (.bool true) ∧ w = w' := by
  rcases h with rfl | ⟨z, rfl, hz⟩
  · exact none85_nil w
  · unfold zeroLk at hz
    obtain ⟨c0, c1, c2, c3, c4, cf⟩ := five_cells hz
    clear hz
    have hq := fun w => eql82 none w
    go_enter Tryz.func85, Tryz.ntmps85
    go_wp2_with fail
    go_ret
    exact ⟨rfl, rfl⟩
theorem pair79N {w : World} {v : Value} (far : Bool) (h : NoneAt w v) {a0 a1 a2 : Int} {a3 a4 : ByteArray} {a5 : Int} {a6 : Option Addr} {a7 a8 : Nat} {a9 : ByteArray} {aA : Int} {b0 b1 b2 : Int} {b3 b4 : ByteArray} {b5 : Int} {b6 : Option Addr} {b7 b8 : Nat} {b9 : ByteArray} {bA : Int} : Calls Tryz.prog 79 #[v, .agg #[.int .i64 a0, .int .i64 a1, .int .i64 a2, .string a3, .string a4, .int .i64 a5, .slice a6 a7 a8, .string a9, .int .i64 aA], .agg #[.int .i64 b0, .int .i64 b1, .int .i64 b2, .string b3, .string b4, .int .i64 b5, .slice b6 b7 b8, .string b9, .int .i64 bA], .bool far] w fun e w' => e = .returned (.tuple #[.agg #[.int .i64 0, .string ⟨#[]⟩, .int .i64 0, .int .i64 0, .int .i64 0, .string ⟨#[]⟩, .int .i64 0, .int .i64 0], .int .i64 1]) ∧ Below w.heap.size w w' := by
  have HN := Lib.hid (fun W (hW : Below w.heap.size w W) => none85N (h.below hW))
  clear h
  go_enter Tryz.func79, Tryz.ntmps79
  go_wp2_with fail
  refine (HN.out _ (three_boxes w _ _ _).2.2.2.2.1).mono ?_
  rintro e w1 ⟨rfl, rfl⟩
  go_wp2_with fail
  refine bodyPost_ret (v := .tuple #[.agg #[.int .i64 0, .string ⟨#[]⟩, .int .i64 0, .int .i64 0, .int .i64 0, .string ⟨#[]⟩, .int .i64 0, .int .i64 0], .int .i64 1]) ?_ rfl ⟨rfl, ?_⟩
  · rw [results_cell_tmp rfl]
    go_simp
  · exact (three_boxes w _ _ _).2.2.2.2.1
theorem join20N {w : World} {v : Value} (h : NoneAt w v) {a0 a1 a2 : Int} {a3 a4 : ByteArray} {a5 : Int} {a6 : Option Addr} {a7 a8 : Nat} {a9 : ByteArray} {aA : Int} {b0 b1 b2 : Int} {b3 b4 : ByteArray} {b5 : Int} {b6 : Option Addr} {b7 b8 : Nat} {b9 : ByteArray} {bA : Int} : Calls Tryz.prog 20 #[v, .agg #[.int .i64 a0, .int .i64 a1, .int .i64 a2, .string a3, .string a4, .int .i64 a5, .slice a6 a7 a8, .string a9, .int .i64 aA], .agg #[.int .i64 b0, .int .i64 b1, .int .i64 b2, .string b3, .string b4, .int .i64 b5, .slice b6 b7 b8, .string b9, .int .i64 bA]] w fun e w' => e = .returned (.tuple #[.bool false, .int .i64 1]) ∧ Below w.heap.size w w' := by
  have HP := Lib.hid (fun W (hW : Below w.heap.size w W) => pair79N (w := W) (v := v) false (h.below hW) (a0 := a0) (a1 := a1) (a2 := a2) (a3 := a3) (a4 := a4) (a5 := a5) (a6 := a6) (a7 := a7) (a8 := a8) (a9 := a9) (aA := aA) (b0 := b0) (b1 := b1) (b2 := b2) (b3 := b3) (b4 := b4) (b5 := b5) (b6 := b6) (b7 := b7) (b8 := b8) (b9 := b9) (bA := bA))
  clear h
  go_enter Tryz.func20, Tryz.ntmps20
  go_wp2_with fail
  refine (HP.out _ (two_boxes w _ _)).mono ?_
  rintro e w1 ⟨rfl, hb⟩
  have hb2 := (two_boxes w _ _).trans (hb.mono (two_boxes w _ _).size)
  go_wp2_with fail
  go_ret2
  exact ⟨rfl, by first | exact hb2 | exact belowA hb2 _ hb2.size | exact belowN (belowA hb2 _ hb2.size) _⟩
theorem part18N {w : World} {v : Value} (h : NoneAt w v) {a0 a1 a2 : Int} {a3 a4 : ByteArray} {a5 : Int} {a6 : Option Addr} {a7 a8 : Nat} {a9 : ByteArray} {aA : Int} {b0 b1 b2 : Int} {b3 b4 : ByteArray} {b5 : Int} {b6 : Option Addr} {b7 b8 : Nat} {b9 : ByteArray} {bA : Int} : Calls Tryz.prog 18 #[v, .agg #[.int .i64 a0, .int .i64 a1, .int .i64 a2, .string a3, .string a4, .int .i64 a5, .slice a6 a7 a8, .string a9, .int .i64 aA], .agg #[.int .i64 b0, .int .i64 b1, .int .i64 b2, .string b3, .string b4, .int .i64 b5, .slice b6 b7 b8, .string b9, .int .i64 bA]] w fun e w' => e = .returned (.tuple #[.int .i64 0, .bool false, .int .i64 1]) ∧ Below w.heap.size w w' := by
  have HP := Lib.hid (fun W (hW : Below w.heap.size w W) => pair79N (w := W) (v := v) false (h.below hW) (a0 := a0) (a1 := a1) (a2 := a2) (a3 := a3) (a4 := a4) (a5 := a5) (a6 := a6) (a7 := a7) (a8 := a8) (a9 := a9) (aA := aA) (b0 := b0) (b1 := b1) (b2 := b2) (b3 := b3) (b4 := b4) (b5 := b5) (b6 := b6) (b7 := b7) (b8 := b8) (b9 := b9) (bA := bA))
  clear h
  go_enter Tryz.func18, Tryz.ntmps18
  go_wp2_with fail
  refine (HP.out _ (two_boxes w _ _)).mono ?_
  rintro e w1 ⟨rfl, hb⟩
  have hb2 := (two_boxes w _ _).trans (hb.mono (two_boxes w _ _).size)
  go_wp2_with fail
  go_ret3
  exact ⟨rfl, by first | exact hb2 | exact belowA hb2 _ hb2.size | exact belowN (belowA hb2 _ hb2.size) _⟩
theorem fell48N {w : World} {v : Value} (h : NoneAt w v) {a0 a1 a2 : Int} {a3 a4 : ByteArray} {a5 : Int} {a6 : Option Addr} {a7 a8 : Nat} {a9 : ByteArray} {aA : Int} {b0 b1 b2 : Int} {b3 b4 : ByteArray} {b5 : Int} {b6 : Option Addr} {b7 b8 : Nat} {b9 : ByteArray} {bA : Int} : Calls Tryz.prog 48 #[v, .agg #[.int .i64 a0, .int .i64 a1, .int .i64 a2, .string a3, .string a4, .int .i64 a5, .slice a6 a7 a8, .string a9, .int .i64 aA], .agg #[.int .i64 b0, .int .i64 b1, .int .i64 b2, .string b3, .string b4, .int .i64 b5, .slice b6 b7 b8, .string b9, .int .i64 bA]] w fun e w' => e = .returned (.tuple #[.bool false, .int .i64 1]) ∧ Below w.heap.size w w' := by
  have HP := Lib.hid (fun W (hW : Below w.heap.size w W) => pair79N (w := W) (v := v) true (h.below hW) (a0 := a0) (a1 := a1) (a2 := a2) (a3 := a3) (a4 := a4) (a5 := a5) (a6 := a6) (a7 := a7) (a8 := a8) (a9 := a9) (aA := aA) (b0 := b0) (b1 := b1) (b2 := b2) (b3 := b3) (b4 := b4) (b5 := b5) (b6 := b6) (b7 := b7) (b8 := b8) (b9 := b9) (bA := bA))
  clear h
  go_enter Tryz.func48, Tryz.ntmps48
  go_wp2_with fail
  refine (HP.out _ (two_boxes w _ _)).mono ?_
  rintro e w1 ⟨rfl, hb⟩
  have hb2 := (two_boxes w _ _).trans (hb.mono (two_boxes w _ _).size)
  go_wp2_with fail
  go_ret2
  exact ⟨rfl, by first | exact hb2 | exact belowA hb2 _ hb2.size | exact belowN (belowA hb2 _ hb2.size) _⟩
theorem came41N {w : World} {v : Value} (h : NoneAt w v) {a0 a1 a2 : Int} {a3 a4 : ByteArray} {a5 : Int} {a6 : Option Addr} {a7 a8 : Nat} {a9 : ByteArray} {aA : Int} {b0 b1 b2 : Int} {b3 b4 : ByteArray} {b5 : Int} {b6 : Option Addr} {b7 b8 : Nat} {b9 : ByteArray} {bA : Int} : Calls Tryz.prog 41 #[v, .agg #[.int .i64 a0, .int .i64 a1, .int .i64 a2, .string a3, .string a4, .int .i64 a5, .slice a6 a7 a8, .string a9, .int .i64 aA], .agg #[.int .i64 b0, .int .i64 b1, .int .i64 b2, .string b3, .string b4, .int .i64 b5, .slice b6 b7 b8, .string b9, .int .i64 bA]] w fun e w' => e = .returned (.int .i64 1) ∧ Below w.heap.size w w' := by
  have HP := Lib.hid (fun W (hW : Below w.heap.size w W) => pair79N (w := W) (v := v) true (h.below hW) (a0 := a0) (a1 := a1) (a2 := a2) (a3 := a3) (a4 := a4) (a5 := a5) (a6 := a6) (a7 := a7) (a8 := a8) (a9 := a9) (aA := aA) (b0 := b0) (b1 := b1) (b2 := b2) (b3 := b3) (b4 := b4) (b5 := b5) (b6 := b6) (b7 := b7) (b8 := b8) (b9 := b9) (bA := bA))
  clear h
  go_enter Tryz.func41, Tryz.ntmps41
  go_wp2_with fail
  refine (HP.out _ (two_boxes w _ _)).mono ?_
  rintro e w1 ⟨rfl, hb⟩
  have hb2 := (two_boxes w _ _).trans (hb.mono (two_boxes w _ _).size)
  go_wp2_with fail
  go_ret
  exact ⟨rfl, by first | exact hb2 | exact belowA hb2 _ hb2.size | exact belowN (belowA hb2 _ hb2.size) _⟩
theorem left49N {w : World} {v : Value} (h : NoneAt w v) {a0 a1 a2 : Int} {a3 a4 : ByteArray} {a5 : Int} {a6 : Option Addr} {a7 a8 : Nat} {a9 : ByteArray} {aA : Int} {b0 b1 b2 : Int} {b3 b4 : ByteArray} {b5 : Int} {b6 : Option Addr} {b7 b8 : Nat} {b9 : ByteArray} {bA : Int} : Calls Tryz.prog 49 #[v, .agg #[.int .i64 a0, .int .i64 a1, .int .i64 a2, .string a3, .string a4, .int .i64 a5, .slice a6 a7 a8, .string a9, .int .i64 aA], .agg #[.int .i64 b0, .int .i64 b1, .int .i64 b2, .string b3, .string b4, .int .i64 b5, .slice b6 b7 b8, .string b9, .int .i64 bA]] w fun e w' => e = .returned (.int .i64 1) ∧ Below w.heap.size w w' := by
  have HP := Lib.hid (fun W (hW : Below w.heap.size w W) => fell48N (w := W) (v := v) (h.below hW) (a0 := a0) (a1 := a1) (a2 := a2) (a3 := a3) (a4 := a4) (a5 := a5) (a6 := a6) (a7 := a7) (a8 := a8) (a9 := a9) (aA := aA) (b0 := b0) (b1 := b1) (b2 := b2) (b3 := b3) (b4 := b4) (b5 := b5) (b6 := b6) (b7 := b7) (b8 := b8) (b9 := b9) (bA := bA))
  clear h
  go_enter Tryz.func49, Tryz.ntmps49
  go_wp2_with fail
  refine (HP.out _ (two_boxes w _ _)).mono ?_
  rintro e w1 ⟨rfl, hb⟩
  have hb2 := (two_boxes w _ _).trans (hb.mono (two_boxes w _ _).size)
  go_wp2_with fail
  go_ret
  exact ⟨rfl, by first | exact hb2 | exact belowA hb2 _ hb2.size | exact belowN (belowA hb2 _ hb2.size) _⟩
theorem acked50N {w : World} {v : Value} (k : Int) (h : NoneAt w v) {a0 a1 a2 : Int} {a3 a4 : ByteArray} {a5 : Int} {a6 : Option Addr} {a7 a8 : Nat} {a9 : ByteArray} {aA : Int} {b0 b1 b2 : Int} {b3 b4 : ByteArray} {b5 : Int} {b6 : Option Addr} {b7 b8 : Nat} {b9 : ByteArray} {bA : Int} : Calls Tryz.prog 50 #[v, .agg #[.int .i64 a0, .int .i64 a1, .int .i64 a2, .string a3, .string a4, .int .i64 a5, .slice a6 a7 a8, .string a9, .int .i64 aA], .agg #[.int .i64 b0, .int .i64 b1, .int .i64 b2, .string b3, .string b4, .int .i64 b5, .slice b6 b7 b8, .string b9, .int .i64 bA], .int .i64 k] w fun e w' => e = .returned (.int .i64 1) ∧ Below w.heap.size w w' := by
  have HP := Lib.hid (fun W (hW : Below w.heap.size w W) => pair79N (w := W) (v := v) true (h.below hW) (a0 := a0) (a1 := a1) (a2 := a2) (a3 := a3) (a4 := a4) (a5 := a5) (a6 := a6) (a7 := a7) (a8 := a8) (a9 := a9) (aA := aA) (b0 := b0) (b1 := b1) (b2 := b2) (b3 := b3) (b4 := b4) (b5 := b5) (b6 := b6) (b7 := b7) (b8 := b8) (b9 := b9) (bA := bA))
  clear h
  go_enter Tryz.func50, Tryz.ntmps50
  go_wp2_with fail
  refine (HP.out _ (two_boxes w _ _)).mono ?_
  rintro e w1 ⟨rfl, hb⟩
  have hb2 := (two_boxes w _ _).trans (hb.mono (two_boxes w _ _).size)
  go_wp2_with fail
  go_quiet (fail)
  go_wp2_with fail
  go_ret
  exact ⟨rfl, by first | exact hb2 | exact belowA hb2 _ hb2.size | exact belowN (belowA hb2 _ hb2.size) _⟩
theorem mine82N {n : Nat} {w : World} {v : Value} (h : NoneAt w v) (B : Nat) (va : Value) (ta : Tm (n + 1)) (hB : B ≤ w.heap.size) (ha : ItemsAt w B n va ta.items) :
    Calls Tryz.prog 82 #[v, aggV ta.f va] w (fun e w' => e = .returned (.tuple #[.agg #[.int .i64 0, .string ⟨#[]⟩, .int .i64 0, .int .i64 0], .slice none 0 0, .bool false]) ∧ Below w.heap.size w w') := by
  have HOA := Lib.hid (fun W (hW : Below w.heap.size w W) => of86N W B va ta 6 (Nat.le_trans hB hW.size) (ha.below hW hB) (.inr rfl))
  have HN := Lib.hid (fun W (hW : Below w.heap.size w W) => none85N (h.below hW))
  obtain ⟨pa, ca, rfl, _, _⟩ := ha.shape
  clear ha hB h
  generalize (decide (ta.f.kind = 6) && validT ta) = ra at *
  generalize ta.items.length = na at *
  generalize ta.f = fa at *
  have hA0 := nine_of (alloc_new w (cells9 fa (.slice pa na ca)))
  have hb1 := belowA (Below.refl w.heap.size w) (cells9 fa (.slice pa na ca)) (Nat.le_refl _)
  have hb2 := belowA hb1 (.cells #[.int .i64 0, .string ⟨#[]⟩, .int .i64 0, .int .i64 0] 147) hb1.size
  have hA := hA0.below (belowA (Below.refl (w.alloc (cells9 fa (.slice pa na ca))).heap.size _) (.cells #[.int .i64 0, .string ⟨#[]⟩, .int .i64 0, .int .i64 0] 147) (Nat.le_refl _)) (by rw [World.size_alloc]; omega)
  have hR := alloc_new (w.alloc (cells9 fa (.slice pa na ca))) (.cells #[.int .i64 0, .string ⟨#[]⟩, .int .i64 0, .int .i64 0] 147)
  rw [World.size_alloc] at hR
  have hs2 : ((w.alloc (cells9 fa (.slice pa na ca))).alloc (.cells #[.int .i64 0, .string ⟨#[]⟩, .int .i64 0, .int .i64 0] 147)).heap.size = w.heap.size + 2 := by rw [World.size_alloc, World.size_alloc]
  obtain ⟨ak, ai, ag, an, af, aa, ab, az⟩ := fa
  unfold aggV idV idOf at *
  unfold cells9 at *
  dsimp only at *
  have HA := Lib.hid hA
  have HR := Lib.hid hR
  have HB2 := Lib.hid hb2
  have HS2 := Lib.hid hs2
  clear hA0 hA hR hb1 hb2 hs2
  go_enter Tryz.func82, Tryz.ntmps82
  go_upto_region 1 with (fail)
  generalize ((w.alloc (.cells #[.int .i64 ak, .int .i64 ai, .int .i64 ag, .string an, .string af, .int .i64 aa, .slice pa na ca, .string ab, .int .i64 az] 30)).alloc (.cells #[.int .i64 0, .string ⟨#[]⟩, .int .i64 0, .int .i64 0] 147)) = W1 at *
  have hRl : w.heap.size + 1 < W1.heap.size := by have := HS2.out; omega
  obtain ⟨x0, x1, x2, x3, x4, x5, x6, x7, x8, xf⟩ := HA.out
  dsimp only at x0 x1 x2 x3 x4 x5 x6 x7 x8
  go_wp2_with fail
  refine (HOA.out _ HB2.out).mono ?_
  rintro e W2 ⟨rfl, hb2⟩
  clear x0 x1 x2 x3 x4 x5 x6 x7 x8 xf HOA HA
  go_upto_region 2 with (fail)
  have hX := alloc_new W2 (.cells #[.int .i64 ak, .string an, .int .i64 ag, .int .i64 ai] 147)
  have hb3 := belowA hb2 (.cells #[.int .i64 ak, .string an, .int .i64 ag, .int .i64 ai] 147) hb2.size
  have hzl : W2.heap.size < (W2.alloc (.cells #[.int .i64 ak, .string an, .int .i64 ag, .int .i64 ai] 147)).heap.size := by rw [World.size_alloc]; omega
  have hzx := hb2.size
  clear hb2
  generalize (W2.alloc (.cells #[.int .i64 ak, .string an, .int .i64 ag, .int .i64 ai] 147)) = W3 at *
  generalize W2.heap.size = zx at *
  have hbw := HB2.out.trans (hb3.mono HB2.out.size)
  have hR3 := (hb3.block _ hRl).trans HR.out
  have hRl3 := Nat.lt_of_lt_of_le hRl hb3.size
  have HB3 := Lib.hid hbw
  have HXa := Lib.hid (fun W (hW : Below W3.heap.size W3 W) => (hW.block _ hzl).trans hX)
  have HRa := Lib.hid (fun W (hW : Below W3.heap.size W3 W) => four_cells ((hW.block _ hRl3).trans hR3))
  clear hb3 hbw hX hR3
  have hN3 := HN.out _ HB3.out
  obtain ⟨a0, a1, a2, a3, af'⟩ := four_cells (HXa.out _ (Below.refl _ _))
  obtain ⟨q0, q1, q2, q3, qf⟩ := HRa.out _ (Below.refl _ _)
  clear HN
  go_wp2_with fail
  refine hN3.mono ?_
  rintro e w1 ⟨rfl, rfl⟩
  go_wp2_with fail
  refine bodyPost_ret (v := .tuple #[.agg #[.int .i64 0, .string ⟨#[]⟩, .int .i64 0, .int .i64 0], .slice none 0 0, .bool false]) ?_ rfl ⟨rfl, ?_⟩
  · rw [results_cell3 rfl]
    go_simp
  · exact sets4 HB3.out (Nat.le_succ _) _ _ _ _
theorem of22N {n : Nat} {w : World} {v : Value} (h : NoneAt w v) (B : Nat) (va : Value) (ta : Tm (n + 1)) (hB : B ≤ w.heap.size) (ha : ItemsAt w B n va ta.items) :
    Calls Tryz.prog 22 #[v, aggV ta.f va] w (fun e w' => e = .returned (.slice none 0 0) ∧ Below w.heap.size w w') := by
  have HM := Lib.hid (fun W (hW : Below w.heap.size w W) => mine82N (h.below hW) B va ta (Nat.le_trans hB hW.size) (ha.below hW hB))
  obtain ⟨pa, ca, rfl, _, _⟩ := ha.shape
  clear ha hB h
  generalize ta.items.length = na at *
  generalize ta.f = fa at *
  have hA := nine_of (alloc_new w (cells9 fa (.slice pa na ca)))
  have hb1 := belowA (Below.refl w.heap.size w) (cells9 fa (.slice pa na ca)) (Nat.le_refl _)
  obtain ⟨ak, ai, ag, an, af, aa, ab, az⟩ := fa
  unfold aggV at *
  unfold cells9 at *
  dsimp only at *
  have HB1 := Lib.hid hb1
  clear hb1
  go_enter Tryz.func22, Tryz.ntmps22
  go_upto_region 1 with (fail)
  generalize (w.alloc (.cells #[.int .i64 ak, .int .i64 ai, .int .i64 ag, .string an, .string af, .int .i64 aa, .slice pa na ca, .string ab, .int .i64 az] 30)) = W1 at *
  obtain ⟨x0, x1, x2, x3, x4, x5, x6, x7, x8, xf⟩ := hA
  dsimp only at x0 x1 x2 x3 x4 x5 x6 x7 x8
  go_wp2_with fail
  refine (HM.out _ HB1.out).mono ?_
  rintro e W2 ⟨rfl, hb2⟩
  have HB2 := Lib.hid (HB1.out.trans (hb2.mono HB1.out.size))
  clear x0 x1 x2 x3 x4 x5 x6 x7 x8 xf HM hb2
  go_wp2_with fail
  go_loopw [8, 20] (fun o s wr => o = .slice none 0 0 ∧ s = .int .i64 0 ∧ Hid (Below w.heap.size w wr)) (fun _ _ _ => 0)
  case atStart => exact ⟨rfl, rfl, Lib.hid (belowA HB2.out _ HB2.out.size)⟩
  case round =>
    obtain ⟨rfl, rfl, HBr⟩ := hrel
    go_wp2_with fail
    go_ret
    exact ⟨rfl, HBr.out⟩
theorem end19N {n : Nat} {w : World} {v : Value} (h : NoneAt w v) (B : Nat) (va : Value) (ta : Tm (n + 1)) (hB : B ≤ w.heap.size) (ha : ItemsAt w B n va ta.items) :
    Calls Tryz.prog 19 #[v, aggV ta.f va] w (fun e w' => e = .returned (.slice none 0 0) ∧ Below w.heap.size w w') := by
  have HM := Lib.hid (fun W (hW : Below w.heap.size w W) => mine82N (h.below hW) B va ta (Nat.le_trans hB hW.size) (ha.below hW hB))
  have HO := Lib.hid (fun W (hW : Below w.heap.size w W) => of22N (h.below hW) B va ta (Nat.le_trans hB hW.size) (ha.below hW hB))
  obtain ⟨pa, ca, rfl, _, _⟩ := ha.shape
  clear ha hB h
  generalize ta.items.length = na at *
  generalize ta.f = fa at *
  have hA := nine_of (alloc_new w (cells9 fa (.slice pa na ca)))
  have hb1 := belowA (Below.refl w.heap.size w) (cells9 fa (.slice pa na ca)) (Nat.le_refl _)
  obtain ⟨ak, ai, ag, an, af, aa, ab, az⟩ := fa
  unfold aggV at *
  unfold cells9 at *
  dsimp only at *
  have HB1 := Lib.hid hb1
  have hzl : w.heap.size < (w.alloc (.cells #[.int .i64 ak, .int .i64 ai, .int .i64 ag, .string an, .string af, .int .i64 aa, .slice pa na ca, .string ab, .int .i64 az] 30)).heap.size := by rw [World.size_alloc]; omega
  clear hb1
  go_enter Tryz.func19, Tryz.ntmps19
  go_upto_region 1 with (fail)
  generalize (w.alloc (.cells #[.int .i64 ak, .int .i64 ai, .int .i64 ag, .string an, .string af, .int .i64 aa, .slice pa na ca, .string ab, .int .i64 az] 30)) = W1 at *
  obtain ⟨x0, x1, x2, x3, x4, x5, x6, x7, x8, xf⟩ := id hA
  dsimp only at x0 x1 x2 x3 x4 x5 x6 x7 x8
  go_wp2_with fail
  refine (HO.out _ HB1.out).mono ?_
  rintro e Wo ⟨rfl, hbo⟩
  have hAo := hA.below hbo hzl
  clear x0 x1 x2 x3 x4 x5 x6 x7 x8 xf HO hA
  obtain ⟨x0, x1, x2, x3, x4, x5, x6, x7, x8, xf⟩ := hAo
  dsimp only at x0 x1 x2 x3 x4 x5 x6 x7 x8
  replace HB1 := Lib.hid (HB1.out.trans (hbo.mono HB1.out.size))
  clear hbo
  go_wp2_with fail
  refine (HM.out _ HB1.out).mono ?_
  rintro e W2 ⟨rfl, hb2⟩
  have HB2 := Lib.hid (HB1.out.trans (hb2.mono HB1.out.size))
  clear x0 x1 x2 x3 x4 x5 x6 x7 x8 xf HM hb2
  go_wp2_with fail
  go_loopw [23] (fun s wr => s = .int .i64 0 ∧ Hid (Below w.heap.size w wr)) (fun _ _ => 0)
  case atStart => exact ⟨rfl, Lib.hid (belowA HB2.out _ HB2.out.size)⟩
  case round =>
    obtain ⟨rfl, HBr⟩ := hrel
    go_wp2_with fail
    go_ret
    exact ⟨rfl, HBr.out⟩
theorem chosen89N {w : World} {v : Value} (h : NoneAt w v) (g : Nat) (cb : Array Value) : Calls Tryz.prog 89 #[v, .func (.func g) #[] cb] w (fun e w' => e = .returned (.slice none 0 0) ∧ w = w') := by
  have HN := Lib.hid (none85N h)
  clear h
  go_enter Tryz.func89, Tryz.ntmps89
  go_wp2_with fail
  refine HN.out.mono ?_
  rintro e w1 ⟨rfl, rfl⟩
  go_wp2_with fail
  go_ret
  exact ⟨rfl, rfl⟩
theorem lost37N {w : World} {v : Value} (h : NoneAt w v) (nm : ByteArray) : Calls Tryz.prog 37 #[v, .string nm] w (fun e w' => e = .returned (.slice none 0 0) ∧ Below w.heap.size w w') := by
  have HN := Lib.hid (fun W (hW : Below w.heap.size w W) => none85N (h.below hW))
  have hv : v = .pointer none ∨ ∃ z, v = .pointer (some ⟨z, 0, none⟩) := by rcases h with e | ⟨z, e, _⟩; exact .inl e; exact .inr ⟨z, e⟩
  clear h
  rcases hv with rfl | ⟨z, rfl⟩
  all_goals
    go_enter Tryz.func37, Tryz.ntmps37
    go_wp2_with fail
    refine (HN.out _ (two_boxes w _ _)).mono ?_
    rintro e w1 ⟨rfl, rfl⟩
    go_wp2_with fail
    go_ret
    exact ⟨rfl, two_boxes w _ _⟩
theorem held29N {n : Nat} {w : World} {v : Value} (h : NoneAt w v) (B : Nat) (va : Value) (ta : Tm (n + 1)) (hB : B ≤ w.heap.size) (ha : ItemsAt w B n va ta.items) :
    Calls Tryz.prog 29 #[v, aggV ta.f va] w (fun e w' => (∃ p c, e = .returned (.slice p 0 c)) ∧ Below w.heap.size w w') := by
  have HOA := Lib.hid (fun W (hW : Below w.heap.size w W) => of86N W B va ta 6 (Nat.le_trans hB hW.size) (ha.below hW hB) (.inr rfl))
  have HCh := Lib.hid (fun W (hW : Below w.heap.size w W) cb => chosen89N (h.below hW) 90 cb)
  have HTo : Hid (∀ (W : World), Calls Tryz.prog 88 #[.slice none 0 0] W (ToldP [] W)) := Lib.hid (fun W => told88 (Nat.le_refl _) (RecAt.nil (enc := mnL) (s := 12) W W.heap.size none 0 (Nat.zero_le _)) (Nat.zero_le _))
  obtain ⟨pa, ca, rfl, _, _⟩ := ha.shape
  clear ha hB h
  generalize (decide (ta.f.kind = 6) && validT ta) = ra at *
  generalize ta.items.length = na at *
  generalize ta.f = fa at *
  have hA := nine_of (alloc_new w (cells9 fa (.slice pa na ca)))
  have hb1 := belowA (Below.refl w.heap.size w) (cells9 fa (.slice pa na ca)) (Nat.le_refl _)
  obtain ⟨ak, ai, ag, an, af, aa, ab, az⟩ := fa
  unfold aggV idV idOf at *
  unfold cells9 at *
  dsimp only at *
  have HA := Lib.hid hA
  have HB1 := Lib.hid hb1
  clear hA hb1
  go_enter Tryz.func29, Tryz.ntmps29
  go_upto_region 1 with (fail)
  generalize (w.alloc (.cells #[.int .i64 ak, .int .i64 ai, .int .i64 ag, .string an, .string af, .int .i64 aa, .slice pa na ca, .string ab, .int .i64 az] 30)) = W1 at *
  obtain ⟨x0, x1, x2, x3, x4, x5, x6, x7, x8, xf⟩ := HA.out
  dsimp only at x0 x1 x2 x3 x4 x5 x6 x7 x8
  go_wp2_with fail
  refine (HOA.out _ HB1.out).mono ?_
  rintro e W2 ⟨rfl, hb2⟩
  clear x0 x1 x2 x3 x4 x5 x6 x7 x8 xf HOA HA
  have hbw := HB1.out.trans (hb2.mono HB1.out.size)
  clear hb2
  go_upto_region 2 with (fail)
  have hb5 := hbw.trans ((belowA (belowA (Below.refl W2.heap.size W2) (.cells #[.int .i64 ak, .string an, .int .i64 ag, .int .i64 ai] 147) (Nat.le_refl _)) (.cells #[.bool ra] 4) (by rw [World.size_alloc]; omega)).mono hbw.size)
  clear hbw
  generalize ((W2.alloc (.cells #[.int .i64 ak, .string an, .int .i64 ag, .int .i64 ai] 147)).alloc (.cells #[.bool ra] 4)) = W4 at *
  have HC := Lib.hid (HCh.out W4 hb5)
  have HB5 := Lib.hid hb5
  have hmf : ∀ (fn : Fn) (first cap : Array Value) (w : World), (Instr.makeFunc fn first cap).run Tryz.prog w = .ok (.func fn first cap) w := fun _ _ _ _ => rfl
  clear hb5 HCh
  go_wp2_with fail
  refine (HC.out _).mono ?_
  rintro e W5 ⟨rfl, rfl⟩
  go_wp2_with fail
  refine (HTo.out _).mono ?_
  rintro e W6 ⟨v', rfl, hown, hb⟩
  obtain ⟨p', c', rfl, _, _⟩ := hown.shape
  have HB7 := Lib.hid (HB5.out.trans (hb.mono HB5.out.size))
  clear hown hb
  go_wp2_with fail
  go_ret
  exact ⟨⟨p', c', rfl⟩, HB7.out⟩
theorem watched30N {n : Nat} {w : World} {v : Value} (h : NoneAt w v) (B : Nat) (va : Value) (ta : Tm (n + 1)) (hB : B ≤ w.heap.size) (ha : ItemsAt w B n va ta.items) :
    Calls Tryz.prog 30 #[v, aggV ta.f va] w (fun e w' => (∃ p c, e = .returned (.slice p 0 c)) ∧ Below w.heap.size w w') := by
  have HOA := Lib.hid (fun W (hW : Below w.heap.size w W) => of86N W B va ta 6 (Nat.le_trans hB hW.size) (ha.below hW hB) (.inr rfl))
  have HCh := Lib.hid (fun W (hW : Below w.heap.size w W) cb => chosen89N (h.below hW) 91 cb)
  have HTo : Hid (∀ (W : World), Calls Tryz.prog 88 #[.slice none 0 0] W (ToldP [] W)) := Lib.hid (fun W => told88 (Nat.le_refl _) (RecAt.nil (enc := mnL) (s := 12) W W.heap.size none 0 (Nat.zero_le _)) (Nat.zero_le _))
  obtain ⟨pa, ca, rfl, _, _⟩ := ha.shape
  clear ha hB h
  generalize (decide (ta.f.kind = 6) && validT ta) = ra at *
  generalize ta.items.length = na at *
  generalize ta.f = fa at *
  have hA := nine_of (alloc_new w (cells9 fa (.slice pa na ca)))
  have hb1 := belowA (Below.refl w.heap.size w) (cells9 fa (.slice pa na ca)) (Nat.le_refl _)
  obtain ⟨ak, ai, ag, an, af, aa, ab, az⟩ := fa
  unfold aggV idV idOf at *
  unfold cells9 at *
  dsimp only at *
  have HA := Lib.hid hA
  have HB1 := Lib.hid hb1
  clear hA hb1
  go_enter Tryz.func30, Tryz.ntmps30
  go_upto_region 1 with (fail)
  generalize (w.alloc (.cells #[.int .i64 ak, .int .i64 ai, .int .i64 ag, .string an, .string af, .int .i64 aa, .slice pa na ca, .string ab, .int .i64 az] 30)) = W1 at *
  obtain ⟨x0, x1, x2, x3, x4, x5, x6, x7, x8, xf⟩ := HA.out
  dsimp only at x0 x1 x2 x3 x4 x5 x6 x7 x8
  go_wp2_with fail
  refine (HOA.out _ HB1.out).mono ?_
  rintro e W2 ⟨rfl, hb2⟩
  clear x0 x1 x2 x3 x4 x5 x6 x7 x8 xf HOA HA
  have hbw := HB1.out.trans (hb2.mono HB1.out.size)
  clear hb2
  go_upto_region 2 with (fail)
  have hb5 := hbw.trans ((belowA (belowA (Below.refl W2.heap.size W2) (.cells #[.int .i64 ak, .string an, .int .i64 ag, .int .i64 ai] 147) (Nat.le_refl _)) (.cells #[.bool ra] 4) (by rw [World.size_alloc]; omega)).mono hbw.size)
  clear hbw
  generalize ((W2.alloc (.cells #[.int .i64 ak, .string an, .int .i64 ag, .int .i64 ai] 147)).alloc (.cells #[.bool ra] 4)) = W4 at *
  have HC := Lib.hid (HCh.out W4 hb5)
  have HB5 := Lib.hid hb5
  have hmf : ∀ (fn : Fn) (first cap : Array Value) (w : World), (Instr.makeFunc fn first cap).run Tryz.prog w = .ok (.func fn first cap) w := fun _ _ _ _ => rfl
  clear hb5 HCh
  go_wp2_with fail
  refine (HC.out _).mono ?_
  rintro e W5 ⟨rfl, rfl⟩
  go_wp2_with fail
  refine (HTo.out _).mono ?_
  rintro e W6 ⟨v', rfl, hown, hb⟩
  obtain ⟨p', c', rfl, _, _⟩ := hown.shape
  have HB7 := Lib.hid (HB5.out.trans (hb.mono HB5.out.size))
  clear hown hb
  go_wp2_with fail
  go_ret
  exact ⟨⟨p', c', rfl⟩, HB7.out⟩
theorem cut38N {w : World} {v : Value} (h : NoneAt w v) (nm : ByteArray) : Calls Tryz.prog 38 #[v, .string nm] w (fun e w' => (∃ p c, e = .returned (.slice p 0 c)) ∧ Below w.heap.size w w') := by
  have HCh := Lib.hid (fun W (hW : Below w.heap.size w W) cb => chosen89N (h.below hW) 97 cb)
  have HTo : Hid (∀ (W : World), Calls Tryz.prog 88 #[.slice none 0 0] W (ToldP [] W)) := Lib.hid (fun W => told88 (Nat.le_refl _) (RecAt.nil (enc := mnL) (s := 12) W W.heap.size none 0 (Nat.zero_le _)) (Nat.zero_le _))
  have hv : v = .pointer none ∨ ∃ z, v = .pointer (some ⟨z, 0, none⟩) := by rcases h with e | ⟨z, e, _⟩; exact .inl e; exact .inr ⟨z, e⟩
  clear h
  have hmf : ∀ (fn : Fn) (first cap : Array Value) (w : World), (Instr.makeFunc fn first cap).run Tryz.prog w = .ok (.func fn first cap) w := fun _ _ _ _ => rfl
  rcases hv with rfl | ⟨z, rfl⟩
  all_goals
    go_enter Tryz.func38, Tryz.ntmps38
    go_wp2_with fail
    refine (HCh.out _ (two_boxes w _ _) _).mono ?_
    rintro e w1 ⟨rfl, rfl⟩
    go_wp2_with fail
    go_loopw [13] (fun s wr => s = .int .i64 0 ∧ Hid (Below w.heap.size w wr)) (fun _ _ => 0)
    case atStart => exact ⟨rfl, Lib.hid (two_boxes w _ _)⟩
    case round =>
      obtain ⟨rfl, HBr⟩ := hrel
      go_wp2_with fail
      refine (HTo.out _).mono ?_
      rintro e W6 ⟨v', rfl, hown, hb⟩
      obtain ⟨p', c', rfl, _, _⟩ := hown.shape
      have HB7 := Lib.hid (HBr.out.trans (hb.mono HBr.out.size))
      clear hown hb
      go_wp2_with fail
      go_ret
      exact ⟨⟨p', c', rfl⟩, HB7.out⟩
theorem unwatch31N {n : Nat} {w : World} {v : Value} (h : NoneAt w v) (B : Nat) (va : Value) (ta : Tm (n + 1)) (hB : B ≤ w.heap.size) (ha : ItemsAt w B n va ta.items) :
    Calls Tryz.prog 31 #[v, aggV ta.f va] w (fun e w' => e = .returned (.tuple #[.agg #[.int .i64 0, .int .i64 0, .int .i64 0, .string ⟨#[]⟩, .string ⟨#[]⟩, .int .i64 0, .slice none 0 0, .string ⟨#[]⟩, .int .i64 0, .int .i64 0, .int .i64 0, .int .i64 0, .string ⟨#[]⟩, .string ⟨#[]⟩, .int .i64 0, .slice none 0 0, .string ⟨#[]⟩, .int .i64 0, .int .i64 0, .int .i64 0, .int .i64 0, .string ⟨#[]⟩, .string ⟨#[]⟩, .int .i64 0, .slice none 0 0, .string ⟨#[]⟩, .int .i64 0], .bool false]) ∧ Below w.heap.size w w') := by
  have HOA := Lib.hid (fun W (hW : Below w.heap.size w W) => of86N W B va ta 3 (Nat.le_trans hB hW.size) (ha.below hW hB) (.inl rfl))
  have HN := Lib.hid (fun W (hW : Below w.heap.size w W) => none85N (h.below hW))
  obtain ⟨pa, ca, rfl, _, _⟩ := ha.shape
  clear ha hB h
  generalize (decide (ta.f.kind = 3) && validT ta) = ra at *
  generalize ta.items.length = na at *
  generalize ta.f = fa at *
  have hA0 := nine_of (alloc_new w (cells9 fa (.slice pa na ca)))
  have hb2 := two_boxes w (cells9 fa (.slice pa na ca)) (.cells #[.int .i64 0, .int .i64 0, .int .i64 0, .string ⟨#[]⟩, .string ⟨#[]⟩, .int .i64 0, .slice none 0 0, .string ⟨#[]⟩, .int .i64 0, .int .i64 0, .int .i64 0, .int .i64 0, .string ⟨#[]⟩, .string ⟨#[]⟩, .int .i64 0, .slice none 0 0, .string ⟨#[]⟩, .int .i64 0, .int .i64 0, .int .i64 0, .int .i64 0, .string ⟨#[]⟩, .string ⟨#[]⟩, .int .i64 0, .slice none 0 0, .string ⟨#[]⟩, .int .i64 0] 47)
  have hA := hA0.below (belowA (Below.refl (w.alloc (cells9 fa (.slice pa na ca))).heap.size _) (.cells #[.int .i64 0, .int .i64 0, .int .i64 0, .string ⟨#[]⟩, .string ⟨#[]⟩, .int .i64 0, .slice none 0 0, .string ⟨#[]⟩, .int .i64 0, .int .i64 0, .int .i64 0, .int .i64 0, .string ⟨#[]⟩, .string ⟨#[]⟩, .int .i64 0, .slice none 0 0, .string ⟨#[]⟩, .int .i64 0, .int .i64 0, .int .i64 0, .int .i64 0, .string ⟨#[]⟩, .string ⟨#[]⟩, .int .i64 0, .slice none 0 0, .string ⟨#[]⟩, .int .i64 0] 47) (Nat.le_refl _)) (by rw [World.size_alloc]; omega)
  have hR := alloc_new (w.alloc (cells9 fa (.slice pa na ca))) (.cells #[.int .i64 0, .int .i64 0, .int .i64 0, .string ⟨#[]⟩, .string ⟨#[]⟩, .int .i64 0, .slice none 0 0, .string ⟨#[]⟩, .int .i64 0, .int .i64 0, .int .i64 0, .int .i64 0, .string ⟨#[]⟩, .string ⟨#[]⟩, .int .i64 0, .slice none 0 0, .string ⟨#[]⟩, .int .i64 0, .int .i64 0, .int .i64 0, .int .i64 0, .string ⟨#[]⟩, .string ⟨#[]⟩, .int .i64 0, .slice none 0 0, .string ⟨#[]⟩, .int .i64 0] 47)
  rw [World.size_alloc] at hR
  have hs2 : ((w.alloc (cells9 fa (.slice pa na ca))).alloc (.cells #[.int .i64 0, .int .i64 0, .int .i64 0, .string ⟨#[]⟩, .string ⟨#[]⟩, .int .i64 0, .slice none 0 0, .string ⟨#[]⟩, .int .i64 0, .int .i64 0, .int .i64 0, .int .i64 0, .string ⟨#[]⟩, .string ⟨#[]⟩, .int .i64 0, .slice none 0 0, .string ⟨#[]⟩, .int .i64 0, .int .i64 0, .int .i64 0, .int .i64 0, .string ⟨#[]⟩, .string ⟨#[]⟩, .int .i64 0, .slice none 0 0, .string ⟨#[]⟩, .int .i64 0] 47)).heap.size = w.heap.size + 2 := by rw [World.size_alloc, World.size_alloc]
  obtain ⟨ak, ai, ag, an, af, aa, ab, az⟩ := fa
  unfold aggV idV idOf at *
  unfold cells9 at *
  dsimp only at *
  have HA := Lib.hid hA
  have HR := Lib.hid hR
  have HB2 := Lib.hid hb2
  have HS2 := Lib.hid hs2
  clear hA0 hA hR hb2 hs2
  go_enter Tryz.func31, Tryz.ntmps31
  go_upto_region 1 with (fail)
  generalize ((w.alloc (.cells #[.int .i64 ak, .int .i64 ai, .int .i64 ag, .string an, .string af, .int .i64 aa, .slice pa na ca, .string ab, .int .i64 az] 30)).alloc (.cells #[.int .i64 0, .int .i64 0, .int .i64 0, .string ⟨#[]⟩, .string ⟨#[]⟩, .int .i64 0, .slice none 0 0, .string ⟨#[]⟩, .int .i64 0, .int .i64 0, .int .i64 0, .int .i64 0, .string ⟨#[]⟩, .string ⟨#[]⟩, .int .i64 0, .slice none 0 0, .string ⟨#[]⟩, .int .i64 0, .int .i64 0, .int .i64 0, .int .i64 0, .string ⟨#[]⟩, .string ⟨#[]⟩, .int .i64 0, .slice none 0 0, .string ⟨#[]⟩, .int .i64 0] 47)) = W1 at *
  have hRl : w.heap.size + 1 < W1.heap.size := by have := HS2.out; omega
  obtain ⟨x0, x1, x2, x3, x4, x5, x6, x7, x8, xf⟩ := HA.out
  dsimp only at x0 x1 x2 x3 x4 x5 x6 x7 x8
  go_wp2_with fail
  refine (HOA.out _ HB2.out).mono ?_
  rintro e W2 ⟨rfl, hb2⟩
  clear x0 x1 x2 x3 x4 x5 x6 x7 x8 xf HOA HA
  go_upto_region 2 with (fail)
  have hb3 := belowA hb2 (.cells #[.int .i64 ak, .string an, .int .i64 ag, .int .i64 ai] 147) hb2.size
  clear hb2
  generalize (W2.alloc (.cells #[.int .i64 ak, .string an, .int .i64 ag, .int .i64 ai] 147)) = W3 at *
  have hR3 := Lib.hid ((hb3.block _ hRl).trans HR.out)
  have HB3 := Lib.hid (HB2.out.trans (hb3.mono HB2.out.size))
  have hN3 := HN.out _ HB3.out
  clear hb3 HN
  go_wp2_with fail
  refine hN3.mono ?_
  rintro e w1 ⟨rfl, rfl⟩
  have hsz27 : (Tryz.prog.info? 47).map (·.size) = some 27 := by kernel_rfl
  go_wp2_with (refine wpList_store_row rfl 47 (.tmp 4) (.tmp 20) rfl (w.heap.size + 1) #[.int .i64 0, .int .i64 0, .int .i64 0, .string ⟨#[]⟩, .string ⟨#[]⟩, .int .i64 0, .slice none 0 0, .string ⟨#[]⟩, .int .i64 0, .int .i64 0, .int .i64 0, .int .i64 0, .string ⟨#[]⟩, .string ⟨#[]⟩, .int .i64 0, .slice none 0 0, .string ⟨#[]⟩, .int .i64 0, .int .i64 0, .int .i64 0, .int .i64 0, .string ⟨#[]⟩, .string ⟨#[]⟩, .int .i64 0, .slice none 0 0, .string ⟨#[]⟩, .int .i64 0] rfl rfl 47 _ hR3.out hsz27 rfl (by decide +kernel) ?_)
  have hr4 := setRow_heap W3 (w.heap.size + 1) _ #[.int .i64 0, .int .i64 0, .int .i64 0, .string ⟨#[]⟩, .string ⟨#[]⟩, .int .i64 0, .slice none 0 0, .string ⟨#[]⟩, .int .i64 0, .int .i64 0, .int .i64 0, .int .i64 0, .string ⟨#[]⟩, .string ⟨#[]⟩, .int .i64 0, .slice none 0 0, .string ⟨#[]⟩, .int .i64 0, .int .i64 0, .int .i64 0, .int .i64 0, .string ⟨#[]⟩, .string ⟨#[]⟩, .int .i64 0, .slice none 0 0, .string ⟨#[]⟩, .int .i64 0] 47 (0, 0) hR3.out
  have ht4 : TouchB (fun i => i = w.heap.size + 1) W3 (W3.setRow (w.heap.size + 1) #[.int .i64 0, .int .i64 0, .int .i64 0, .string ⟨#[]⟩, .string ⟨#[]⟩, .int .i64 0, .slice none 0 0, .string ⟨#[]⟩, .int .i64 0, .int .i64 0, .int .i64 0, .int .i64 0, .string ⟨#[]⟩, .string ⟨#[]⟩, .int .i64 0, .slice none 0 0, .string ⟨#[]⟩, .int .i64 0, .int .i64 0, .int .i64 0, .int .i64 0, .string ⟨#[]⟩, .string ⟨#[]⟩, .int .i64 0, .slice none 0 0, .string ⟨#[]⟩, .int .i64 0]) := ⟨rfl, rfl, rfl, by simp, fun k hk hn => by simp [World.setRow, Array.getElem?_modify, show ¬ w.heap.size + 1 = k from fun e => hn e.symm]⟩
  have hb4 := HB3.out.trans (ht4.below (fun k hk => by rw [hk]; exact Nat.le_succ _) HB3.out.size)
  clear ht4
  generalize (W3.setRow (w.heap.size + 1) #[.int .i64 0, .int .i64 0, .int .i64 0, .string ⟨#[]⟩, .string ⟨#[]⟩, .int .i64 0, .slice none 0 0, .string ⟨#[]⟩, .int .i64 0, .int .i64 0, .int .i64 0, .int .i64 0, .string ⟨#[]⟩, .string ⟨#[]⟩, .int .i64 0, .slice none 0 0, .string ⟨#[]⟩, .int .i64 0, .int .i64 0, .int .i64 0, .int .i64 0, .string ⟨#[]⟩, .string ⟨#[]⟩, .int .i64 0, .slice none 0 0, .string ⟨#[]⟩, .int .i64 0]) = W4 at *
  refine bodyPost_ret (v := .tuple #[.agg #[.int .i64 0, .int .i64 0, .int .i64 0, .string ⟨#[]⟩, .string ⟨#[]⟩, .int .i64 0, .slice none 0 0, .string ⟨#[]⟩, .int .i64 0, .int .i64 0, .int .i64 0, .int .i64 0, .string ⟨#[]⟩, .string ⟨#[]⟩, .int .i64 0, .slice none 0 0, .string ⟨#[]⟩, .int .i64 0, .int .i64 0, .int .i64 0, .int .i64 0, .string ⟨#[]⟩, .string ⟨#[]⟩, .int .i64 0, .slice none 0 0, .string ⟨#[]⟩, .int .i64 0], .bool false]) ?_ rfl ⟨rfl, hb4⟩
  rw [results_cell_tmp rfl]
  simp only [List.getD_eq_getElem?_getD, List.getElem?_toArray, Array.getD_eq_getD_getElem?, List.getElem?_cons_succ, List.getElem?_cons_zero, Option.getD_some, asAddr, Sem.run_pure, Result.andThen_ok]
  rw [run_loadVar_row W4 (w.heap.size + 1) 47 47 _ (0, 0) _ hr4 Tryz.underlying47 rfl hsz27]
  rfl
end Go.Proofs.YtnakbepcalciiaaGreat.lk
/- Watch at an object that is none; equality of monitors. Conditions: the terms lie in memory. -/
namespace Go.Proofs.YtnakbepcalciiaaGreat.lk
open Go.RowKit mem rec tm names pm
set_option linter.unusedVariables false
set_option linter.unusedSimpArgs false
set_option maxHeartbeats 4000000
set_option maxRecDepth 100000
theorem watch27N {w : World} {v : Value} (h : NoneAt w v) (fr fw ft : TF) {pr pw pt : Option Addr} {nr nw nt cr cw ct : Nat} : Calls Tryz.prog 27 #[v, monV fr fw ft (.slice pr nr cr) (.slice pw nw cw) (.slice pt nt ct)] w fun e w' => e = .returned (.int .i64 1) ∧ Below w.heap.size w w' := by
  have HN := Lib.hid (fun W (hW : Below w.heap.size w W) => none85N (h.below hW))
  have hv : v = .pointer none ∨ ∃ z, v = .pointer (some ⟨z, 0, none⟩) := by rcases h with e | ⟨z, e, _⟩; exact .inl e; exact .inr ⟨z, e⟩
  clear h
  obtain ⟨rk, ri, rg, rn, rf, ra, rb, rz⟩ := fr
  obtain ⟨wk, wi, wg, wn, wf, wa, wb, wz⟩ := fw
  obtain ⟨tk, ti, tg, tn, tf, ta, tb, tz⟩ := ft
  unfold monV
  dsimp only
  have HB := Lib.hid (fun o => belowA (Below.refl w.heap.size w) o (Nat.le_refl _))
  rcases hv with rfl | ⟨z, rfl⟩
  all_goals
    go_enter Tryz.func27, Tryz.ntmps27
    go_wp2_with fail
    refine (HN.out _ (HB.out _)).mono ?_
    rintro e w1 ⟨rfl, rfl⟩
    go_wp2_with fail
    go_ret
    exact ⟨rfl, HB.out _⟩
theorem same32 {n1 n2 n3 : Nat} (w : World) (B : Nat) (va : Value) (vb : Value) (vc : Value) (vd : Value) (ve : Value) (vf : Value) (ta td : Tm (n1 + 1)) (tb te : Tm (n2 + 1)) (tc tf : Tm (n3 + 1)) (hB : B ≤ w.heap.size) (ha : ItemsAt w B n1 va ta.items) (hb : ItemsAt w B n2 vb tb.items) (hc : ItemsAt w B n3 vc tc.items) (hd : ItemsAt w B n1 vd td.items) (he : ItemsAt w B n2 ve te.items) (hf : ItemsAt w B n3 vf tf.items) :
    Calls Tryz.prog 32 #[monV ta.f tb.f tc.f va vb vc, monV td.f te.f tf.f vd ve vf] w (BPost (eqB ta td && (eqB tb te && eqB tc tf)) w) := by
  have H1 := Lib.hid (fun W (hW : Below w.heap.size w W) => tm.sameOne W B va vd ta td (Nat.le_trans hB hW.size) (ha.below hW hB) (hd.below hW hB))
  have H2 := Lib.hid (fun W (hW : Below w.heap.size w W) => tm.sameOne W B vb ve tb te (Nat.le_trans hB hW.size) (hb.below hW hB) (he.below hW hB))
  have H3 := Lib.hid (fun W (hW : Below w.heap.size w W) => tm.sameOne W B vc vf tc tf (Nat.le_trans hB hW.size) (hc.below hW hB) (hf.below hW hB))
  obtain ⟨ppa, cca, rfl, _, _⟩ := ha.shape
  obtain ⟨ppb, ccb, rfl, _, _⟩ := hb.shape
  obtain ⟨ppc, ccc, rfl, _, _⟩ := hc.shape
  obtain ⟨ppd, ccd, rfl, _, _⟩ := hd.shape
  obtain ⟨ppe, cce, rfl, _, _⟩ := he.shape
  obtain ⟨ppf, ccf, rfl, _, _⟩ := hf.shape
  clear ha hb hc hd he hf hB
  generalize eqB ta td = r1 at *
  generalize eqB tb te = r2 at *
  generalize eqB tc tf = r3 at *
  generalize ta.items.length = nna at *
  generalize tb.items.length = nnb at *
  generalize tc.items.length = nnc at *
  generalize td.items.length = nnd at *
  generalize te.items.length = nne at *
  generalize tf.items.length = nnf at *
  generalize ta.f = Fa at *
  generalize tb.f = Fb at *
  generalize tc.f = Fc at *
  generalize td.f = Fd at *
  generalize te.f = Fe at *
  generalize tf.f = Ff at *
  obtain ⟨ak, ai, ag, an, af, aa, ab, az⟩ := Fa
  obtain ⟨bk, bi, bg, bn, bf, ba, bb, bz⟩ := Fb
  obtain ⟨ck, ci, cg, cn, cf, ca, cb, cz⟩ := Fc
  obtain ⟨dk, di, dg, dn, df, da, db, dz⟩ := Fd
  obtain ⟨ek, ei, eg, en, ef, ea, eb, ez⟩ := Fe
  obtain ⟨fk, fi, fg, fn, ff, fa, fb, fz⟩ := Ff
  unfold monV
  unfold BPost aggV at *
  dsimp only at *
  have hx := alloc_new w (.cells #[.int .i64 ak, .int .i64 ai, .int .i64 ag, .string an, .string af, .int .i64 aa, .slice ppa nna cca, .string ab, .int .i64 az, .int .i64 bk, .int .i64 bi, .int .i64 bg, .string bn, .string bf, .int .i64 ba, .slice ppb nnb ccb, .string bb, .int .i64 bz, .int .i64 ck, .int .i64 ci, .int .i64 cg, .string cn, .string cf, .int .i64 ca, .slice ppc nnc ccc, .string cb, .int .i64 cz] 47)
  have hb1 := belowA (Below.refl w.heap.size w) (.cells #[.int .i64 ak, .int .i64 ai, .int .i64 ag, .string an, .string af, .int .i64 aa, .slice ppa nna cca, .string ab, .int .i64 az, .int .i64 bk, .int .i64 bi, .int .i64 bg, .string bn, .string bf, .int .i64 ba, .slice ppb nnb ccb, .string bb, .int .i64 bz, .int .i64 ck, .int .i64 ci, .int .i64 cg, .string cn, .string cf, .int .i64 ca, .slice ppc nnc ccc, .string cb, .int .i64 cz] 47) (Nat.le_refl _)
  have hy := alloc_new (w.alloc (.cells #[.int .i64 ak, .int .i64 ai, .int .i64 ag, .string an, .string af, .int .i64 aa, .slice ppa nna cca, .string ab, .int .i64 az, .int .i64 bk, .int .i64 bi, .int .i64 bg, .string bn, .string bf, .int .i64 ba, .slice ppb nnb ccb, .string bb, .int .i64 bz, .int .i64 ck, .int .i64 ci, .int .i64 cg, .string cn, .string cf, .int .i64 ca, .slice ppc nnc ccc, .string cb, .int .i64 cz] 47)) (.cells #[.int .i64 dk, .int .i64 di, .int .i64 dg, .string dn, .string df, .int .i64 da, .slice ppd nnd ccd, .string db, .int .i64 dz, .int .i64 ek, .int .i64 ei, .int .i64 eg, .string en, .string ef, .int .i64 ea, .slice ppe nne cce, .string eb, .int .i64 ez, .int .i64 fk, .int .i64 fi, .int .i64 fg, .string fn, .string ff, .int .i64 fa, .slice ppf nnf ccf, .string fb, .int .i64 fz] 47)
  have hb2 := belowA (Below.refl (w.alloc (.cells #[.int .i64 ak, .int .i64 ai, .int .i64 ag, .string an, .string af, .int .i64 aa, .slice ppa nna cca, .string ab, .int .i64 az, .int .i64 bk, .int .i64 bi, .int .i64 bg, .string bn, .string bf, .int .i64 ba, .slice ppb nnb ccb, .string bb, .int .i64 bz, .int .i64 ck, .int .i64 ci, .int .i64 cg, .string cn, .string cf, .int .i64 ca, .slice ppc nnc ccc, .string cb, .int .i64 cz] 47)).heap.size (w.alloc (.cells #[.int .i64 ak, .int .i64 ai, .int .i64 ag, .string an, .string af, .int .i64 aa, .slice ppa nna cca, .string ab, .int .i64 az, .int .i64 bk, .int .i64 bi, .int .i64 bg, .string bn, .string bf, .int .i64 ba, .slice ppb nnb ccb, .string bb, .int .i64 bz, .int .i64 ck, .int .i64 ci, .int .i64 cg, .string cn, .string cf, .int .i64 ca, .slice ppc nnc ccc, .string cb, .int .i64 cz] 47))) (.cells #[.int .i64 dk, .int .i64 di, .int .i64 dg, .string dn, .string df, .int .i64 da, .slice ppd nnd ccd, .string db, .int .i64 dz, .int .i64 ek, .int .i64 ei, .int .i64 eg, .string en, .string ef, .int .i64 ea, .slice ppe nne cce, .string eb, .int .i64 ez, .int .i64 fk, .int .i64 fi, .int .i64 fg, .string fn, .string ff, .int .i64 fa, .slice ppf nnf ccf, .string fb, .int .i64 fz] 47) (Nat.le_refl _)
  have hx2 := (hb2.block _ (by rw [World.size_alloc]; omega)).trans hx
  have hbw := hb1.trans (hb2.mono (by rw [World.size_alloc]; omega))
  have hs : (w.alloc (.cells #[.int .i64 ak, .int .i64 ai, .int .i64 ag, .string an, .string af, .int .i64 aa, .slice ppa nna cca, .string ab, .int .i64 az, .int .i64 bk, .int .i64 bi, .int .i64 bg, .string bn, .string bf, .int .i64 ba, .slice ppb nnb ccb, .string bb, .int .i64 bz, .int .i64 ck, .int .i64 ci, .int .i64 cg, .string cn, .string cf, .int .i64 ca, .slice ppc nnc ccc, .string cb, .int .i64 cz] 47)).heap.size = w.heap.size + 1 := World.size_alloc _ _
  have hs2 : ((w.alloc (.cells #[.int .i64 ak, .int .i64 ai, .int .i64 ag, .string an, .string af, .int .i64 aa, .slice ppa nna cca, .string ab, .int .i64 az, .int .i64 bk, .int .i64 bi, .int .i64 bg, .string bn, .string bf, .int .i64 ba, .slice ppb nnb ccb, .string bb, .int .i64 bz, .int .i64 ck, .int .i64 ci, .int .i64 cg, .string cn, .string cf, .int .i64 ca, .slice ppc nnc ccc, .string cb, .int .i64 cz] 47)).alloc (.cells #[.int .i64 dk, .int .i64 di, .int .i64 dg, .string dn, .string df, .int .i64 da, .slice ppd nnd ccd, .string db, .int .i64 dz, .int .i64 ek, .int .i64 ei, .int .i64 eg, .string en, .string ef, .int .i64 ea, .slice ppe nne cce, .string eb, .int .i64 ez, .int .i64 fk, .int .i64 fi, .int .i64 fg, .string fn, .string ff, .int .i64 fa, .slice ppf nnf ccf, .string fb, .int .i64 fz] 47)).heap.size = w.heap.size + 2 := by rw [World.size_alloc, hs]
  rw [hs] at hy
  have HX := Lib.hid hx2
  have HY := Lib.hid hy
  have HB := Lib.hid hbw
  have HS := Lib.hid hs2
  clear hx hb1 hy hb2 hx2 hbw hs hs2
  go_enter Tryz.func32, Tryz.ntmps32
  go_upto_region 1 with (fail)
  generalize ((w.alloc (.cells #[.int .i64 ak, .int .i64 ai, .int .i64 ag, .string an, .string af, .int .i64 aa, .slice ppa nna cca, .string ab, .int .i64 az, .int .i64 bk, .int .i64 bi, .int .i64 bg, .string bn, .string bf, .int .i64 ba, .slice ppb nnb ccb, .string bb, .int .i64 bz, .int .i64 ck, .int .i64 ci, .int .i64 cg, .string cn, .string cf, .int .i64 ca, .slice ppc nnc ccc, .string cb, .int .i64 cz] 47)).alloc (.cells #[.int .i64 dk, .int .i64 di, .int .i64 dg, .string dn, .string df, .int .i64 da, .slice ppd nnd ccd, .string db, .int .i64 dz, .int .i64 ek, .int .i64 ei, .int .i64 eg, .string en, .string ef, .int .i64 ea, .slice ppe nne cce, .string eb, .int .i64 ez, .int .i64 fk, .int .i64 fi, .int .i64 fg, .string fn, .string ff, .int .i64 fa, .slice ppf nnf ccf, .string fb, .int .i64 fz] 47)) = W1 at *
  have HXa := Lib.hid (fun W (hW : Below W1.heap.size W1 W) => cells27 ((hW.block w.heap.size (by have := HS.out; omega)).trans HX.out))
  have HYa := Lib.hid (fun W (hW : Below W1.heap.size W1 W) => cells27 ((hW.block (w.heap.size + 1) (by have := HS.out; omega)).trans HY.out))
  obtain ⟨x0, x1, x2, x3, x4, x5, x6, x7, x8, x9, x10, x11, x12, x13, x14, x15, x16, x17, x18, x19, x20, x21, x22, x23, x24, x25, x26, xf⟩ := HXa.out _ (Below.refl _ _)
  obtain ⟨y0, y1, y2, y3, y4, y5, y6, y7, y8, y9, y10, y11, y12, y13, y14, y15, y16, y17, y18, y19, y20, y21, y22, y23, y24, y25, y26, yf⟩ := HYa.out _ (Below.refl _ _)
  go_wp2_with fail
  refine (H1.out _ HB.out).mono ?_
  rintro e W2 ⟨rfl, hb2⟩
  clear x0 x1 x2 x3 x4 x5 x6 x7 x8 x9 x10 x11 x12 x13 x14 x15 x16 x17 x18 x19 x20 x21 x22 x23 x24 x25 x26 y0 y1 y2 y3 y4 y5 y6 y7 y8 y9 y10 y11 y12 y13 y14 y15 y16 y17 y18 y19 y20 y21 y22 y23 y24 y25 y26 xf yf
  have HB2 := Lib.hid (HB.out.trans (hb2.mono HB.out.size))
  cases r1
  · go_wp2_with fail
    go_ret
    exact ⟨rfl, HB2.out⟩
  obtain ⟨x0, x1, x2, x3, x4, x5, x6, x7, x8, x9, x10, x11, x12, x13, x14, x15, x16, x17, x18, x19, x20, x21, x22, x23, x24, x25, x26, xf⟩ := HXa.out _ hb2
  obtain ⟨y0, y1, y2, y3, y4, y5, y6, y7, y8, y9, y10, y11, y12, y13, y14, y15, y16, y17, y18, y19, y20, y21, y22, y23, y24, y25, y26, yf⟩ := HYa.out _ hb2
  go_wp2_with fail
  refine (H2.out _ HB2.out).mono ?_
  rintro e W3 ⟨rfl, hb3⟩
  clear x0 x1 x2 x3 x4 x5 x6 x7 x8 x9 x10 x11 x12 x13 x14 x15 x16 x17 x18 x19 x20 x21 x22 x23 x24 x25 x26 y0 y1 y2 y3 y4 y5 y6 y7 y8 y9 y10 y11 y12 y13 y14 y15 y16 y17 y18 y19 y20 y21 y22 y23 y24 y25 y26 xf yf
  have HB3 := Lib.hid (HB2.out.trans (hb3.mono HB2.out.size))
  replace hb3 := hb2.trans (hb3.mono hb2.size)
  cases r2
  · go_wp2_with fail
    go_ret
    exact ⟨rfl, HB3.out⟩
  obtain ⟨x0, x1, x2, x3, x4, x5, x6, x7, x8, x9, x10, x11, x12, x13, x14, x15, x16, x17, x18, x19, x20, x21, x22, x23, x24, x25, x26, xf⟩ := HXa.out _ hb3
  obtain ⟨y0, y1, y2, y3, y4, y5, y6, y7, y8, y9, y10, y11, y12, y13, y14, y15, y16, y17, y18, y19, y20, y21, y22, y23, y24, y25, y26, yf⟩ := HYa.out _ hb3
  go_wp2_with fail
  refine (H3.out _ HB3.out).mono ?_
  rintro e W4 ⟨rfl, hb4⟩
  clear x0 x1 x2 x3 x4 x5 x6 x7 x8 x9 x10 x11 x12 x13 x14 x15 x16 x17 x18 x19 x20 x21 x22 x23 x24 x25 x26 y0 y1 y2 y3 y4 y5 y6 y7 y8 y9 y10 y11 y12 y13 y14 y15 y16 y17 y18 y19 y20 y21 y22 y23 y24 y25 y26 xf yf
  have HB4 := Lib.hid (HB3.out.trans (hb4.mono HB3.out.size))
  go_wp2_with fail
  go_ret
  exact ⟨rfl, HB4.out⟩
end Go.Proofs.YtnakbepcalciiaaGreat.lk
