/- Texts of this seat, one behind the other: ToB, ToC, ToD, ToE, TfG, TfH, TfI, TfJ. No condition beyond theirs. -/
import Derived.Test.YtfbggmbmgohiiaaGreatM38
import Derived.Deep.CutRange
import Derived.Test.YtfbggmbmgohiiaaGreatM39
import Derived.Test.YtfbggmbmgohiiaaGreatM50
import Derived.Test.YtfbggmbmgohiiaaGreatM43
import Derived.ChangeSlices
import Derived.Lib.SmallJoins
import Derived.OpenShut
import Derived.Test.YtfbggmbmgohiiaaGreatM48
import Derived.Test.YtfbggmbmgohiiaaGreatM47
import Derived.Test.YtfbggmbmgohiiaaGreatM40
set_option linter.unusedSimpArgs false
set_option linter.unusedVariables false
set_option maxHeartbeats 4000000
set_option maxRecDepth 100000
namespace Go.Proofs.YtfbggmbmgohiiaaGreat.tm
open Go.RowKit mem names
variable {α : Type} {enc : α → TF × Value} {w0 wr w : World} {b n cap : Nat} {d : List α} {S : α → Prop} {c : α → α → Int} {tg : α → Nat}
def LTi (c : α → α → Int) (D : List α) (i j : Nat) : Prop := ∃ u v, D[i]? = some u ∧ D[j]? = some v ∧ c u v < 0
theorem LTi_iff {D : List α} {i j : Nat} {x y : α} (hx : D[i]? = some x) (hy : D[j]? = some y) : LTi c D i j ↔ c x y < 0 := by
  constructor
  · rintro ⟨u, v, h1, h2, h3⟩
    rw [hx] at h1; rw [hy] at h2
    simp only [Option.some.injEq] at h1 h2
    subst h1 h2; exact h3
  · exact fun h => ⟨x, y, hx, hy, h⟩
def Bin (Q : Nat → Prop) (lo0 hi0 lo hi : Nat) : Prop := lo0 ≤ lo ∧ lo ≤ hi ∧ hi ≤ hi0 ∧ (lo = lo0 ∨ Q (lo - 1)) ∧ (hi = hi0 ∨ ¬ Q hi)
theorem Bin.right {Q : Nat → Prop} {lo0 hi0 lo hi h : Nat} (H : Bin Q lo0 hi0 lo hi) (h1 : lo ≤ h) (h2 : h < hi) (hq : Q h) : Bin Q lo0 hi0 (h + 1) hi := by
  obtain ⟨a1, a2, a3, a4, a5⟩ := H
  exact ⟨by omega, by omega, a3, .inr hq, a5⟩
theorem Bin.left {Q : Nat → Prop} {lo0 hi0 lo hi h : Nat} (H : Bin Q lo0 hi0 lo hi) (h1 : lo ≤ h) (h2 : h < hi) (hq : ¬ Q h) : Bin Q lo0 hi0 lo h := by
  obtain ⟨a1, a2, a3, a4, a5⟩ := H
  exact ⟨by omega, by omega, by omega, a4, .inr hq⟩
theorem ins_sorted {lt : α → α → Prop} (htr : TrOn S lt) {R1 R2 : List α} {x : α} (hx : S x) (hS : ∀ y ∈ R1 ++ R2, S y) (h : (R1 ++ R2).Pairwise lt) (h1 : ∀ T z, R1 = T ++ [z] → lt z x) (h2 : ∀ z U, R2 = z :: U → lt x z) : (R1 ++ x :: R2).Pairwise lt := by
  have h' := List.pairwise_append.1 h
  have s1 : ∀ y ∈ R1, S y := fun y hy => hS y (by simp [hy])
  have s2 : ∀ y ∈ R2, S y := fun y hy => hS y (by simp [hy])
  have sx : ∀ y ∈ [x], S y := fun y hy => by simp at hy; subst hy; exact hx
  have k1 := lt_lists htr h'.1 (List.pairwise_singleton lt x) s1 sx (fun T z U y e1 e2 => by simp at e2; rw [← e2.1]; exact h1 T z e1)
  have k2 := lt_lists htr (List.pairwise_singleton lt x) h'.2.1 sx s2 (fun T z U y e1 e2 => by
    have : z = x := by
      rcases T with _ | ⟨t, T⟩
      · simp at e1; exact e1.symm
      · simp at e1
    subst this; exact h2 y U e2)
  rw [List.pairwise_append]
  refine ⟨h'.1, List.pairwise_cons.2 ⟨fun y hy => k2 x (by simp) y hy, h'.2.1⟩, fun u hu v hv => ?_⟩
  rcases List.mem_cons.1 hv with rfl | hv
  · exact k1 u hu v (by simp)
  · exact h'.2.2 u hu v hv
theorem tlt_tr (htp : TP S c) : TrOn S (tlt c tg) := fun x y z hx hy hz h1 h2 => tlt_trans htp hx hy hz h1 h2
theorem tlt_of_ge (htp : TP S c) {x y : α} (ht : tg x < tg y) (h : ¬ c y x < 0) : tlt c tg x y := by
  have := htp.anti x y
  by_cases e : c x y = 0
  · exact .inr ⟨e, ht⟩
  · exact .inl (by omega)
def MergePost (c : α → α → Int) (tg : α → Nat) (enc : α → TF × Value) (w0 : World) (b n cap : Nat) (A M C : List α) (e : Ending) (w' : World) : Prop :=
  e = .returned (.tuple #[]) ∧ ∃ M', M'.Perm M ∧ M'.Pairwise (tlt c tg) ∧ RowW enc w0 w' b n cap (A ++ (M' ++ C))
theorem RowW.cellsGet {D : List α} {i : Nat} {x : α} (h : RowW enc w0 wr b n cap D) (hi : D[i]? = some x) : Cells wr b (i * 9) (enc x).1 (enc x).2 := by
  obtain ⟨h1, h2⟩ := List.getElem?_eq_some_iff.1 hi
  have := h.cells i h1
  rwa [h2] at this
theorem one_left (htp : TP S c) {A R C : List α} {x : α} {a m e i : Nat} (ha : A.length = a) (hm : a + 1 = m) (he : m + R.length = e) (hS : ∀ y ∈ x :: R, S y) (hR : R.Pairwise (tlt c tg)) (ht : ∀ y ∈ R, tg x < tg y)
    (hB : Bin (fun h => LTi c (A ++ (x :: (R ++ C))) h a) m e i i) : ∃ R1 R2, R = R1 ++ R2 ∧ m + R1.length = i ∧ (R1 ++ x :: R2).Pairwise (tlt c tg) := by
  obtain ⟨b1, b2, b3, b4, b5⟩ := hB
  dsimp only at b4 b5
  have hax : (A ++ (x :: (R ++ C)))[a]? = some x := by rw [← ha, List.getElem?_append_right (Nat.le_refl _)]; simp
  have hget : ∀ k, k < R.length → (A ++ (x :: (R ++ C)))[m + k]? = R[k]? := fun k hk => by
    rw [List.getElem?_append_right (by omega), show m + k - A.length = k + 1 by omega, List.getElem?_cons_succ, List.getElem?_append_left hk]
  refine ⟨R.take (i - m), R.drop (i - m), (List.take_append_drop _ _).symm, by simp; omega, ?_⟩
  refine ins_sorted (tlt_tr htp) (hS x (by simp)) (fun y hy => hS y ?_) ?_ (fun T z e1 => ?_) (fun z U e2 => ?_)
  · rw [List.take_append_drop] at hy; simp [hy]
  · rw [List.take_append_drop]; exact hR
  · have hl := congrArg List.length e1
    simp at hl
    have hz : R[i - m - 1]? = some z := by
      have : (R.take (i - m))[i - m - 1]? = some z := by rw [e1, List.getElem?_append_right (by omega)]; simp [show i - m - 1 - T.length = 0 by omega]
      rwa [List.getElem?_take_of_lt (by omega)] at this
    rcases b4 with b4 | b4
    · omega
    · have := (LTi_iff (c := c) (i := i - 1) (by rw [show i - 1 = m + (i - m - 1) by omega, hget _ (by omega)]; exact hz) hax).1 b4
      exact .inl this
  · have hl := congrArg List.length e2
    simp at hl
    have hz : R[i - m]? = some z := by
      have : (R.drop (i - m))[0]? = some z := by rw [e2]; rfl
      rwa [List.getElem?_drop, Nat.add_zero] at this
    rcases b5 with b5 | b5
    · omega
    · rw [LTi_iff (c := c) (i := i) (by rw [show i = m + (i - m) by omega, hget _ (by omega)]; exact hz) hax] at b5
      exact tlt_of_ge htp (ht z (List.mem_of_getElem? hz)) b5
theorem one_right (htp : TP S c) {A L C : List α} {y : α} {a m i : Nat} (ha : A.length = a) (hm : a + L.length = m) (hS : ∀ x ∈ L ++ [y], S x) (hL : L.Pairwise (tlt c tg)) (ht : ∀ x ∈ L, tg x < tg y)
    (hB : Bin (fun h => ¬ LTi c (A ++ (L ++ (y :: C))) m h) a m i i) : ∃ L1 L2, L = L1 ++ L2 ∧ a + L1.length = i ∧ (L1 ++ y :: L2).Pairwise (tlt c tg) := by
  obtain ⟨b1, b2, b3, b4, b5⟩ := hB
  dsimp only at b4 b5
  have hmy : (A ++ (L ++ (y :: C)))[m]? = some y := by rw [← hm, ← ha, ← List.length_append, ← List.append_assoc, List.getElem?_append_right (Nat.le_refl _)]; simp
  have hget : ∀ k, k < L.length → (A ++ (L ++ (y :: C)))[a + k]? = L[k]? := fun k hk => by
    rw [List.getElem?_append_right (by omega), show a + k - A.length = k by omega, List.getElem?_append_left hk]
  refine ⟨L.take (i - a), L.drop (i - a), (List.take_append_drop _ _).symm, by simp; omega, ?_⟩
  refine ins_sorted (tlt_tr htp) (hS y (by simp)) (fun x hx => hS x ?_) ?_ (fun T z e1 => ?_) (fun z U e2 => ?_)
  · rw [List.take_append_drop] at hx; simp [hx]
  · rw [List.take_append_drop]; exact hL
  · have hl := congrArg List.length e1
    simp at hl
    have hz : L[i - a - 1]? = some z := by
      have : (L.take (i - a))[i - a - 1]? = some z := by rw [e1, List.getElem?_append_right (by omega)]; simp [show i - a - 1 - T.length = 0 by omega]
      rwa [List.getElem?_take_of_lt (by omega)] at this
    rcases b4 with b4 | b4
    · omega
    · rw [LTi_iff (c := c) (j := i - 1) hmy (by rw [show i - 1 = a + (i - a - 1) by omega, hget _ (by omega)]; exact hz)] at b4
      exact tlt_of_ge htp (ht z (List.mem_of_getElem? hz)) b4
  · have hl := congrArg List.length e2
    simp at hl
    have hz : L[i - a]? = some z := by
      have : (L.drop (i - a))[0]? = some z := by rw [e2]; rfl
      rwa [List.getElem?_drop, Nat.add_zero] at this
    rcases b5 with b5 | b5
    · omega
    · rw [LTi_iff (c := c) (j := i) hmy (by rw [show i = a + (i - a) by omega, hget _ (by omega)]; exact hz)] at b5
      exact .inl (Classical.not_not.1 b5)
theorem parts (htp : TP S c) {A L R C : List α} {a m e lo0 hi0 i p : Nat} (ha : A.length = a) (hm : a + L.length = m) (he : m + R.length = e) (hS : ∀ x ∈ L ++ R, S x) (hL : L.Pairwise (tlt c tg)) (hR : R.Pairwise (tlt c tg)) (ht : ∀ x ∈ L, ∀ y ∈ R, tg x < tg y)
    (h0 : lo0 = a ∧ hi0 = m ∧ m ≤ (a + e) / 2 ∨ lo0 + e = (a + e) / 2 + m ∧ hi0 = (a + e) / 2 ∧ (a + e) / 2 < m) (hp : p + 1 = (a + e) / 2 + m) (hB : Bin (fun h => ¬ LTi c (A ++ (L ++ (R ++ C))) (p - h) h) lo0 hi0 i i) :
    ∃ L1 L2 R1 R2, L = L1 ++ L2 ∧ R = R1 ++ R2 ∧ a + L1.length = i ∧ i + R1.length = (a + e) / 2 ∧
      ∀ M1 M2 : List α, M1.Perm (L1 ++ R1) → M2.Perm (L2 ++ R2) → M1.Pairwise (tlt c tg) → M2.Pairwise (tlt c tg) → (M1 ++ M2).Perm (L ++ R) ∧ (M1 ++ M2).Pairwise (tlt c tg) := by
  obtain ⟨b1, b2, b3, b4, b5⟩ := hB
  dsimp only at b4 b5
  have hgl : ∀ k, k < L.length → (A ++ (L ++ (R ++ C)))[a + k]? = L[k]? := fun k hk => by
    rw [List.getElem?_append_right (by omega), show a + k - A.length = k by omega, List.getElem?_append_left hk]
  have hgr : ∀ k, k < R.length → (A ++ (L ++ (R ++ C)))[m + k]? = R[k]? := fun k hk => by
    rw [List.getElem?_append_right (by omega), List.getElem?_append_right (by omega), show m + k - A.length - L.length = k by omega, List.getElem?_append_left hk]
  obtain ⟨s, hs⟩ : ∃ s, s = (a + e) / 2 - i := ⟨_, rfl⟩
  refine ⟨L.take (i - a), L.drop (i - a), R.take s, R.drop s, (List.take_append_drop _ _).symm, (List.take_append_drop _ _).symm, by simp; omega, by simp; omega, fun M1 M2 p1 p2 s1 s2 => ?_⟩
  have hm' := merge_halves (tlt_tr htp) (L1 := L.take (i - a)) (L2 := L.drop (i - a)) (R1 := R.take s) (R2 := R.drop s) ?_ ?_ ?_ ?_ ?_ p1 p2 s1 s2
  · rwa [List.take_append_drop, List.take_append_drop] at hm'
  · rw [List.take_append_drop, List.take_append_drop]; exact hS
  · rw [List.take_append_drop]; exact hL
  · rw [List.take_append_drop]; exact hR
  · intro T x U y e1 e2
    have hl1 := congrArg List.length e1
    have hl2 := congrArg List.length e2
    simp at hl1 hl2
    have hx : L[i - a - 1]? = some x := by
      have : (L.take (i - a))[i - a - 1]? = some x := by rw [e1, List.getElem?_append_right (by omega)]; simp [show i - a - 1 - T.length = 0 by omega]
      rwa [List.getElem?_take_of_lt (by omega)] at this
    have hy : R[s]? = some y := by
      have : (R.drop s)[0]? = some y := by rw [e2]; rfl
      rwa [List.getElem?_drop, Nat.add_zero] at this
    rcases b4 with b4 | b4
    · omega
    · rw [LTi_iff (c := c) (x := y) (y := x) (by rw [show p - (i - 1) = m + s by omega, hgr _ (by omega)]; exact hy) (by rw [show i - 1 = a + (i - a - 1) by omega, hgl _ (by omega)]; exact hx)] at b4
      exact tlt_of_ge htp (ht x (List.mem_of_getElem? hx) y (List.mem_of_getElem? hy)) b4
  · intro T x U y e1 e2
    have hl1 := congrArg List.length e1
    have hl2 := congrArg List.length e2
    simp at hl1 hl2
    have hx : R[s - 1]? = some x := by
      have : (R.take s)[s - 1]? = some x := by rw [e1, List.getElem?_append_right (by omega)]; simp [show s - 1 - T.length = 0 by omega]
      rwa [List.getElem?_take_of_lt (by omega)] at this
    have hy : L[i - a]? = some y := by
      have : (L.drop (i - a))[0]? = some y := by rw [e2]; rfl
      rwa [List.getElem?_drop, Nat.add_zero] at this
    rcases b5 with b5 | b5
    · omega
    · rw [LTi_iff (c := c) (x := x) (y := y) (by rw [show p - i = m + (s - 1) by omega, hgr _ (by omega)]; exact hx) (by rw [show i = a + (i - a) by omega, hgl _ (by omega)]; exact hy)] at b5
      exact .inl (Classical.not_not.1 b5)
set_option maxHeartbeats 4000000 in
theorem symOne (hC : CmpW enc w0 b 96 S c) (htp : TP S c) (A R C : List α) (y : α) (hS : ∀ z ∈ y :: R, S z) (hR : R.Pairwise (tlt c tg)) (ht : ∀ z ∈ R, tg y < tg z) (h : RowW enc w0 w b n cap (A ++ (y :: (R ++ C)))) (a m e : Nat) (ha : A.length = a) (hm : a + 1 = m) (he : m + R.length = e) (hr : m < e) (hn : n ≤ 1000000) :
    Calls Tryz.prog 129 #[.slice (some ⟨b, 0, none⟩) n cap, .int .i64 a, .int .i64 m, .int .i64 e, .func (.func 96) #[] #[]] w (MergePost c tg enc w0 b n cap A (y :: R) C) := by
  have hlen := h.len
  have hen : e ≤ n := by rw [← hlen]; simp; omega
  have HFin := Lib.hid (fun i hB => one_left (A := A) (R := R) (C := C) (x := y) (tg := tg) (i := i) htp ha hm he hS hR ht hB)
  have HStart : Hid (Bin (fun h => LTi c (A ++ (y :: (R ++ C))) h a) m e m e) := Lib.hid ⟨Nat.le_refl _, by omega, Nat.le_refl _, .inl rfl, .inl rfl⟩
  have hay : (A ++ (y :: (R ++ C)))[a]? = some y := by rw [← ha, List.getElem?_append_right (Nat.le_refl _)]; simp
  have HGet : Hid (∀ i, m ≤ i → i < e → ∃ x, (A ++ (y :: (R ++ C)))[i]? = some x ∧ S x) := Lib.hid (fun i h1 h2 => by
    have hg : (A ++ (y :: (R ++ C)))[i]? = R[i - m]? := by
      rw [List.getElem?_append_right (by omega), show i - A.length = (i - m) + 1 by omega, List.getElem?_cons_succ, List.getElem?_append_left (by omega)]
    have hx := List.getElem?_eq_getElem (l := R) (i := i - m) (by omega)
    exact ⟨R[i - m], by rw [hg, hx], hS _ (by simp)⟩)
  have HY := Lib.hid hay
  have HRow0 := Lib.hid h
  obtain ⟨D, hD⟩ : ∃ D, D = A ++ (y :: (R ++ C)) := ⟨_, rfl⟩
  have HD := Lib.hid hD
  rw [← hD] at HFin HStart HGet HY HRow0
  have hSy : S y := hS y (by simp)
  have hSR : Hid (∀ z ∈ R, S z) := Lib.hid (fun z hz => hS z (by simp [hz]))
  have HSh := Lib.hid hC.shape
  have HCall := Lib.hid hC.call
  have HA := Lib.hid ha
  clear hS hR ht h ha he hlen hay hD hC htp
  have r0 : (m : Int) - (a : Int) = 1 := by omega
  have ham : a < m := by omega
  have HM := Lib.hid hm
  clear hm
  go_enter Tryz.func129, Tryz.ntmps129
  go_wp2_with fail
  clear r0
  go_loopw [10, 11] (fun s t wr => ∃ i j : Nat, s = .int .i64 i ∧ t = .int .i64 j ∧ m ≤ i ∧ i ≤ j ∧ j ≤ e ∧ Hid (Bin (fun h => LTi c D h a) m e i j) ∧ Hid (RowW enc w0 wr b n cap D)) (fun s t _ => (intOf t).toNat - (intOf s).toNat)
  case atStart => exact ⟨m, e, rfl, rfl, by omega, by omega, by omega, HStart, HRow0⟩
  case round =>
    obtain ⟨i, j, rfl, rfl, hmi, hij, hje, HB, HRow⟩ := hrel
    by_cases hlt : i < j
    · obtain ⟨h, hh⟩ : ∃ h : Nat, (i + j) / 2 = h := ⟨_, rfl⟩
      have e1 : ((i : Int) + (j : Int)) / 2 = (h : Int) := by omega
      obtain ⟨x, hx, hSx⟩ := HGet.out h (by omega) (by omega)
      have hcx := HRow.out.cellsGet hx
      have hcy := HRow.out.cellsGet HY.out
      have HR1 := Lib.hid (fun hz : c x y < 0 => HB.out.right (h := h) (by omega) (by omega) ((LTi_iff hx HY.out).2 hz))
      have HR2 := Lib.hid (fun hz : ¬ c x y < 0 => HB.out.left (h := h) (by omega) (by omega) (fun hq => hz ((LTi_iff hx HY.out).1 hq)))
      clear hx
      have hbl : b < wr.heap.size := HRow.out.lt
      have HC := Lib.hid (HCall.out wr.drew x y (HRow.out.touch.drewN 1) hSx hSy)
      have hsx := HSh.out x hSx
      have hsy := HSh.out y hSy
      obtain ⟨z, hz⟩ : ∃ z, c x y = z := ⟨_, rfl⟩
      have HZ := Lib.hid hz
      rw [hz] at HC
      clear hz
      obtain ⟨p1, m1, c1, ex⟩ := hsx
      obtain ⟨p2, m2, c2, ey⟩ := hsy
      obtain ⟨X9, eX⟩ : ∃ X9, enc x = X9 := ⟨_, rfl⟩
      obtain ⟨Y9, eY⟩ : ∃ Y9, enc y = Y9 := ⟨_, rfl⟩
      rw [eX] at hcx ex HC
      rw [eY] at hcy ey HC
      clear eX eY
      obtain ⟨⟨k1, i1, g1, n1, fn1, a1, by1, s1⟩, v1⟩ := X9
      obtain ⟨⟨k2, i2, g2, n2, fn2, a2, by2, s2⟩, v2⟩ := Y9
      dsimp only at hcx hcy HC ex ey
      subst ex
      subst ey
      have HA1 := Lib.hid hcx
      have HB1 := Lib.hid hcy
      unfold aggV IPostC at HC
      dsimp only at HC
      obtain ⟨x0, x1, x2, x3, x4, x5, x6, x7, x8⟩ := hcx
      obtain ⟨y0, y1, y2, y3, y4, y5, y6, y7, y8⟩ := hcy
      dsimp only at x0 x1 x2 x3 x4 x5 x6 x7 x8 y0 y1 y2 y3 y4 y5 y6 y7 y8
      rw [HZ.out] at HR1 HR2
      have r1 : (h : Int) < (n : Int) := by omega
      have r2 : (0 : Int) ≤ (h : Int) := by omega
      have r3 : (a : Int) < (n : Int) := by omega
      have b1 : i ≤ h := by omega
      have b2 : h < j := by omega
      clear hh
      by_cases hlz : z < 0
      · have q1 : decide (z < 0) = true := decide_eq_true hlz
        have HB' := Lib.hid (HR1.out hlz)
        clear HR1 HR2 HB
        go_wp2_with fail
        go_region_held3 (fun w' => (w'.cell? ⟨b, h * 9, none⟩ = some (.int .i64 k1) ∧ w'.cell? ⟨b, h * 9 + 1, none⟩ = some (.int .i64 i1) ∧ w'.cell? ⟨b, h * 9 + 1 + 1, none⟩ = some (.int .i64 g1) ∧ w'.cell? ⟨b, h * 9 + 1 + 1 + 1, none⟩ = some (.string n1) ∧ w'.cell? ⟨b, h * 9 + 1 + 1 + 1 + 1, none⟩ = some (.string fn1) ∧ w'.cell? ⟨b, h * 9 + 1 + 1 + 1 + 1 + 1, none⟩ = some (.int .i64 a1) ∧ w'.cell? ⟨b, h * 9 + 1 + 1 + 1 + 1 + 1 + 1, none⟩ = some (.slice p1 m1 c1) ∧ w'.cell? ⟨b, h * 9 + 1 + 1 + 1 + 1 + 1 + 1 + 1, none⟩ = some (.string by1) ∧ w'.cell? ⟨b, h * 9 + 1 + 1 + 1 + 1 + 1 + 1 + 1 + 1, none⟩ = some (.int .i64 s1)) ∧ w'.cell? ⟨b, a * 9, none⟩ = some (.int .i64 k2) ∧ w'.cell? ⟨b, a * 9 + 1, none⟩ = some (.int .i64 i2) ∧ w'.cell? ⟨b, a * 9 + 1 + 1, none⟩ = some (.int .i64 g2) ∧ w'.cell? ⟨b, a * 9 + 1 + 1 + 1, none⟩ = some (.string n2) ∧ w'.cell? ⟨b, a * 9 + 1 + 1 + 1 + 1, none⟩ = some (.string fn2) ∧ w'.cell? ⟨b, a * 9 + 1 + 1 + 1 + 1 + 1, none⟩ = some (.int .i64 a2) ∧ w'.cell? ⟨b, a * 9 + 1 + 1 + 1 + 1 + 1 + 1, none⟩ = some (.slice p2 m2 c2) ∧ w'.cell? ⟨b, a * 9 + 1 + 1 + 1 + 1 + 1 + 1 + 1, none⟩ = some (.string by2) ∧ w'.cell? ⟨b, a * 9 + 1 + 1 + 1 + 1 + 1 + 1 + 1 + 1, none⟩ = some (.int .i64 s2)) (go_keep)
          (first
            | (go_at_call 96; (with_reducible refine HC.out.mono ?_); rintro e5 w5 ⟨rfl, hb5⟩; have HA5 := Lib.hid (HA1.out.same (hb5.block b hbl)); have HB5 := Lib.hid (HB1.out.same (hb5.block b hbl)); obtain ⟨z0, z1, z2, z3, z4, z5, z6, z7, z8⟩ := HA5.out; obtain ⟨t0, t1, t2, t3, t4, t5, t6, t7, t8⟩ := HB5.out; dsimp only at z0 z1 z2 z3 z4 z5 z6 z7 z8 t0 t1 t2 t3 t4 t5 t6 t7 t8))
        have HR5 := Lib.hid ((HRow.out.drewN 1).below hb5 HRow.out.touch.size)
        clear hb5 HC HA1 HB1 HA5 HB5 HRow x0 x1 x2 x3 x4 x5 x6 x7 x8 y0 y1 y2 y3 y4 y5 y6 y7 y8 hbl
        go_wp2_with fail
        go_roundw
        case rel => exact ⟨h + 1, j, by go_num, rfl, by omega, by omega, hje, HB', HR5⟩
        case measure => simp [intOf]; omega
      · have q1 : decide (z < 0) = false := decide_eq_false hlz
        have HB' := Lib.hid (HR2.out hlz)
        clear HR1 HR2 HB
        go_wp2_with fail
        go_region_held3 (fun w' => (w'.cell? ⟨b, h * 9, none⟩ = some (.int .i64 k1) ∧ w'.cell? ⟨b, h * 9 + 1, none⟩ = some (.int .i64 i1) ∧ w'.cell? ⟨b, h * 9 + 1 + 1, none⟩ = some (.int .i64 g1) ∧ w'.cell? ⟨b, h * 9 + 1 + 1 + 1, none⟩ = some (.string n1) ∧ w'.cell? ⟨b, h * 9 + 1 + 1 + 1 + 1, none⟩ = some (.string fn1) ∧ w'.cell? ⟨b, h * 9 + 1 + 1 + 1 + 1 + 1, none⟩ = some (.int .i64 a1) ∧ w'.cell? ⟨b, h * 9 + 1 + 1 + 1 + 1 + 1 + 1, none⟩ = some (.slice p1 m1 c1) ∧ w'.cell? ⟨b, h * 9 + 1 + 1 + 1 + 1 + 1 + 1 + 1, none⟩ = some (.string by1) ∧ w'.cell? ⟨b, h * 9 + 1 + 1 + 1 + 1 + 1 + 1 + 1 + 1, none⟩ = some (.int .i64 s1)) ∧ w'.cell? ⟨b, a * 9, none⟩ = some (.int .i64 k2) ∧ w'.cell? ⟨b, a * 9 + 1, none⟩ = some (.int .i64 i2) ∧ w'.cell? ⟨b, a * 9 + 1 + 1, none⟩ = some (.int .i64 g2) ∧ w'.cell? ⟨b, a * 9 + 1 + 1 + 1, none⟩ = some (.string n2) ∧ w'.cell? ⟨b, a * 9 + 1 + 1 + 1 + 1, none⟩ = some (.string fn2) ∧ w'.cell? ⟨b, a * 9 + 1 + 1 + 1 + 1 + 1, none⟩ = some (.int .i64 a2) ∧ w'.cell? ⟨b, a * 9 + 1 + 1 + 1 + 1 + 1 + 1, none⟩ = some (.slice p2 m2 c2) ∧ w'.cell? ⟨b, a * 9 + 1 + 1 + 1 + 1 + 1 + 1 + 1, none⟩ = some (.string by2) ∧ w'.cell? ⟨b, a * 9 + 1 + 1 + 1 + 1 + 1 + 1 + 1 + 1, none⟩ = some (.int .i64 s2)) (go_keep)
          (first
            | (go_at_call 96; (with_reducible refine HC.out.mono ?_); rintro e5 w5 ⟨rfl, hb5⟩; have HA5 := Lib.hid (HA1.out.same (hb5.block b hbl)); have HB5 := Lib.hid (HB1.out.same (hb5.block b hbl)); obtain ⟨z0, z1, z2, z3, z4, z5, z6, z7, z8⟩ := HA5.out; obtain ⟨t0, t1, t2, t3, t4, t5, t6, t7, t8⟩ := HB5.out; dsimp only at z0 z1 z2 z3 z4 z5 z6 z7 z8 t0 t1 t2 t3 t4 t5 t6 t7 t8))
        have HR5 := Lib.hid ((HRow.out.drewN 1).below hb5 HRow.out.touch.size)
        clear hb5 HC HA1 HB1 HA5 HB5 HRow x0 x1 x2 x3 x4 x5 x6 x7 x8 y0 y1 y2 y3 y4 y5 y6 y7 y8 hbl
        go_wp2_with fail
        go_roundw
        case rel => exact ⟨i, h, rfl, rfl, hmi, by omega, by omega, HB', HR5⟩
        case measure => simp [intOf]; omega
    · obtain rfl : i = j := by omega
      obtain ⟨R1, R2, hR, hl, hs⟩ := HFin.out i HB.out
      have hrow := HRow.out
      rw [HD.out, hR] at hrow
      have HStart2 : Hid (∃ T1 T2, R1 = T1 ++ T2 ∧ a + T1.length = a ∧ RowW enc w0 wr b n cap (A ++ (T1 ++ (y :: (T2 ++ (R2 ++ C)))))) := Lib.hid ⟨[], R1, rfl, rfl, by simpa using hrow⟩
      have HTake : Hid (∀ (w' : World) (k : Nat), a ≤ k → k + 1 < i → (∃ T1 T2, R1 = T1 ++ T2 ∧ a + T1.length = k ∧ RowW enc w0 w' b n cap (A ++ (T1 ++ (y :: (T2 ++ (R2 ++ C)))))) → ∃ P x Q, S x ∧ P.length = k ∧ RowW enc w0 w' b n cap (P ++ y :: ([] ++ x :: Q)) ∧ ∀ w'', RowW enc w0 w'' b n cap (P ++ x :: ([] ++ y :: Q)) → ∃ T1 T2, R1 = T1 ++ T2 ∧ a + T1.length = k + 1 ∧ RowW enc w0 w'' b n cap (A ++ (T1 ++ (y :: (T2 ++ (R2 ++ C)))))) := Lib.hid (by
        rintro w' k h1 h2 ⟨T1, T2, g1, g2, g3⟩
        have hm' := HM.out
        cases T2 with
        | nil => simp at g1; subst g1; omega
        | cons x T2 =>
          refine ⟨A ++ T1, x, T2 ++ (R2 ++ C), hSR.out x (by rw [hR, g1]; simp), by have := HA.out; simp; omega, by simpa using g3, fun w'' hw => ?_⟩
          exact ⟨T1 ++ [x], T2, by simp [g1], by simp; omega, by simpa using hw⟩)
      have HDone : Hid (∀ (w' : World) (k : Nat), k + 1 = i → (∃ T1 T2, R1 = T1 ++ T2 ∧ a + T1.length = k ∧ RowW enc w0 w' b n cap (A ++ (T1 ++ (y :: (T2 ++ (R2 ++ C)))))) → ∃ M', M'.Perm (y :: R) ∧ M'.Pairwise (tlt c tg) ∧ RowW enc w0 w' b n cap (A ++ (M' ++ C))) := Lib.hid (by
        rintro w' k h1 ⟨T1, T2, g1, g2, g3⟩
        have hm' := HM.out
        have hT : T2 = [] := by
          have := congrArg List.length g1
          simp at this
          exact List.eq_nil_of_length_eq_zero (by omega)
        subst hT
        rw [List.append_nil] at g1
        subst g1
        exact ⟨R1 ++ y :: R2, by rw [hR]; exact List.perm_middle, hs, by simpa using g3⟩)
      have hie : i ≤ n := by omega
      clear hR hl hs hrow HFin HB HRow HGet HY HD HRow0 HStart HCall
      go_wp2_with fail
      obtain ⟨wo, rfl⟩ : ∃ wo : World, wo = wr := ⟨_, rfl⟩
      go_loopw [13] (fun s wr => ∃ k : Nat, s = .int .i64 k ∧ a ≤ k ∧ k + 1 ≤ i ∧ Hid (∃ T1 T2, R1 = T1 ++ T2 ∧ a + T1.length = k ∧ RowW enc w0 wr b n cap (A ++ (T1 ++ (y :: (T2 ++ (R2 ++ C))))))) (fun s _ => i - (intOf s).toNat)
      case atStart => exact ⟨a, rfl, by omega, by omega, HStart2⟩
      case round =>
        obtain ⟨k, rfl, hak, hki, HR⟩ := hrel
        by_cases hlk : k + 1 < i
        · obtain ⟨P, x, Q, hSx, hP, hRow, hNext⟩ := HTake.out wr k hak hlk HR.out
          have HNext := Lib.hid hNext
          have hsx := HSh.out y hSy
          have hsy := HSh.out x hSx
          have hcx : Cells wr b (k * 9) (enc y).1 (enc y).2 := hRow.cellsAt hP
          have hcy : Cells wr b ((k + 1) * 9) (enc x).1 (enc x).2 := hRow.cellsFar (by simp [hP])
          have HFz : Hid (∀ o, wr.frozen? ⟨b, o, none⟩ = false) := Lib.hid (fun o => hRow.frozen o)
          have hbl : b < wr.heap.size := hRow.lt
          have hfin := hRow.swapFar hP (j := k + 1) (by simp [hP])
          obtain ⟨p1, m1, c1, ex⟩ := hsx
          obtain ⟨p2, m2, c2, ey⟩ := hsy
          obtain ⟨X9, eX⟩ : ∃ X9, enc y = X9 := ⟨_, rfl⟩
          obtain ⟨Y9, eY⟩ : ∃ Y9, enc x = Y9 := ⟨_, rfl⟩
          have HEX := Lib.hid eX
          have HEY := Lib.hid eY
          rw [eX] at hcx ex
          rw [eY] at hcy ey
          obtain ⟨⟨k1, i1, g1, n1, fn1, a1, by1, s1⟩, v1⟩ := X9
          obtain ⟨⟨k2, i2, g2, n2, fn2, a2, by2, s2⟩, v2⟩ := Y9
          dsimp only at hcx hcy ex ey
          subst ex
          subst ey
          clear eX eY
          rw [HEX.out, HEY.out] at hfin
          unfold set9 at hfin
          dsimp only at hfin
          have HF := Lib.hid (HNext.out _ hfin)
          obtain ⟨x0, x1, x2, x3, x4, x5, x6, x7, x8⟩ := hcx
          obtain ⟨y0, y1, y2, y3, y4, y5, y6, y7, y8⟩ := hcy
          dsimp only at x0 x1 x2 x3 x4 x5 x6 x7 x8 y0 y1 y2 y3 y4 y5 y6 y7 y8
          have hfz := HFz.out
          have r1 : (k : Int) + 1 < (n : Int) := by omega
          have r2 : (k : Int) < (n : Int) := by omega
          have r3 : (0 : Int) ≤ (k : Int) + 1 := by omega
          have r4 : ((k : Int) + 1).toNat = k + 1 := by omega
          have r5 : IntKind.i64.wrap ((k : Int) + 1) = (k : Int) + 1 := IntWalk.i64_in _ (by omega)
          clear hP hRow hNext hfin HFz HEX HEY HNext HTake HDone
          go_wp2_with fail
          go_big_region
          go_wp2_with fail
          go_roundw
          case rel => exact ⟨k + 1, by go_num, by omega, by omega, HF⟩
          case measure => simp [intOf]; omega
        · have HF := Lib.hid (HDone.out wr k (by omega) HR.out)
          clear HDone HTake
          go_wp2_with fail
          go_end0
          exact ⟨rfl, HF.out⟩
variable {α : Type} {enc : α → TF × Value} {w0 wr w : World} {b n cap : Nat} {d : List α} {S : α → Prop} {c : α → α → Int} {tg : α → Nat}
set_option maxHeartbeats 8000000 in
theorem symTwo (hC : CmpW enc w0 b 96 S c) (htp : TP S c) (A L C : List α) (x : α) (hS : ∀ z ∈ L ++ [x], S z) (hL : L.Pairwise (tlt c tg)) (ht : ∀ z ∈ L, tg z < tg x) (h : RowW enc w0 w b n cap (A ++ (L ++ (x :: C)))) (a m e : Nat) (ha : A.length = a) (hm : a + L.length = m) (he : m + 1 = e) (hl : a + 1 < m) (hn : n ≤ 1000000) :
    Calls Tryz.prog 129 #[.slice (some ⟨b, 0, none⟩) n cap, .int .i64 a, .int .i64 m, .int .i64 e, .func (.func 96) #[] #[]] w (MergePost c tg enc w0 b n cap A (L ++ [x]) C) := by
  have hlen := h.len
  have hen : e ≤ n := by rw [← hlen]; simp; omega
  have HFin := Lib.hid (fun i hB => one_right (A := A) (L := L) (C := C) (y := x) (tg := tg) (i := i) htp ha hm hS hL ht hB)
  have HStart : Hid (Bin (fun h => ¬ LTi c (A ++ (L ++ (x :: C))) m h) a m a m) := Lib.hid ⟨Nat.le_refl _, by omega, Nat.le_refl _, .inl rfl, .inl rfl⟩
  have hmx : (A ++ (L ++ (x :: C)))[m]? = some x := by rw [← hm, ← ha, ← List.length_append, ← List.append_assoc, List.getElem?_append_right (Nat.le_refl _)]; simp
  have HGet : Hid (∀ i, a ≤ i → i < m → ∃ y, (A ++ (L ++ (x :: C)))[i]? = some y ∧ S y) := Lib.hid (fun i h1 h2 => by
    have hg : (A ++ (L ++ (x :: C)))[i]? = L[i - a]? := by
      rw [List.getElem?_append_right (by omega), show i - A.length = i - a by omega, List.getElem?_append_left (by omega)]
    have hx := List.getElem?_eq_getElem (l := L) (i := i - a) (by omega)
    exact ⟨L[i - a], by rw [hg, hx], hS _ (by simp)⟩)
  have HX := Lib.hid hmx
  have HRow0 := Lib.hid h
  obtain ⟨D, hD⟩ : ∃ D, D = A ++ (L ++ (x :: C)) := ⟨_, rfl⟩
  have HD := Lib.hid hD
  rw [← hD] at HFin HStart HGet HX HRow0
  have hSx : S x := hS x (by simp)
  have hSL : Hid (∀ z ∈ L, S z) := Lib.hid (fun z hz => hS z (by simp [hz]))
  have HSh := Lib.hid hC.shape
  have HCall := Lib.hid hC.call
  have HA := Lib.hid ha
  have HM := Lib.hid hm
  obtain ⟨l0, hl0⟩ : ∃ l0 : Nat, a + l0 = m := ⟨L.length, hm⟩
  clear hS hL ht h ha hlen hmx hD hC htp hm
  have r0 : (m : Int) - (a : Int) = (l0 : Int) := by omega
  have t0 : ¬ ((l0 : Int) = 1) := by omega
  have t1 : ((l0 : Int) == 1) = false := by simpa using t0
  have r1 : (e : Int) - (m : Int) = 1 := by omega
  clear hl0
  have hme : m < e := by omega
  clear he
  go_enter Tryz.func129, Tryz.ntmps129
  go_wp2_with fail
  clear r0 r1 t0 t1
  go_loopw [14, 15] (fun s t wr => ∃ i j : Nat, s = .int .i64 i ∧ t = .int .i64 j ∧ a ≤ i ∧ i ≤ j ∧ j ≤ m ∧ Hid (Bin (fun h => ¬ LTi c D m h) a m i j) ∧ Hid (RowW enc w0 wr b n cap D)) (fun s t _ => (intOf t).toNat - (intOf s).toNat)
  case atStart => exact ⟨a, m, rfl, rfl, by omega, by omega, by omega, HStart, HRow0⟩
  case round =>
    obtain ⟨i, j, rfl, rfl, hmi, hij, hje, HB, HRow⟩ := hrel
    by_cases hlt : i < j
    · obtain ⟨h, hh⟩ : ∃ h : Nat, (i + j) / 2 = h := ⟨_, rfl⟩
      have e1 : ((i : Int) + (j : Int)) / 2 = (h : Int) := by omega
      obtain ⟨y, hy, hSy⟩ := HGet.out h (by omega) (by omega)
      have hcx := HRow.out.cellsGet HX.out
      have hcy := HRow.out.cellsGet hy
      have HR1 := Lib.hid (fun hz : ¬ c x y < 0 => HB.out.right (h := h) (by omega) (by omega) (fun hq => hz ((LTi_iff HX.out hy).1 hq)))
      have HR2 := Lib.hid (fun hz : c x y < 0 => HB.out.left (h := h) (by omega) (by omega) (fun hq => hq ((LTi_iff HX.out hy).2 hz)))
      clear hy
      have hbl : b < wr.heap.size := HRow.out.lt
      have HC := Lib.hid (HCall.out wr.drew x y (HRow.out.touch.drewN 1) hSx hSy)
      have hsx := HSh.out x hSx
      have hsy := HSh.out y hSy
      obtain ⟨z, hz⟩ : ∃ z, c x y = z := ⟨_, rfl⟩
      have HZ := Lib.hid hz
      rw [hz] at HC
      clear hz
      obtain ⟨p1, m1, c1, ex⟩ := hsx
      obtain ⟨p2, m2, c2, ey⟩ := hsy
      obtain ⟨X9, eX⟩ : ∃ X9, enc x = X9 := ⟨_, rfl⟩
      obtain ⟨Y9, eY⟩ : ∃ Y9, enc y = Y9 := ⟨_, rfl⟩
      rw [eX] at hcx ex HC
      rw [eY] at hcy ey HC
      clear eX eY
      obtain ⟨⟨k1, i1, g1, n1, fn1, a1, by1, s1⟩, v1⟩ := X9
      obtain ⟨⟨k2, i2, g2, n2, fn2, a2, by2, s2⟩, v2⟩ := Y9
      dsimp only at hcx hcy HC ex ey
      subst ex
      subst ey
      have HA1 := Lib.hid hcx
      have HB1 := Lib.hid hcy
      unfold aggV IPostC at HC
      dsimp only at HC
      obtain ⟨x0, x1, x2, x3, x4, x5, x6, x7, x8⟩ := hcx
      obtain ⟨y0, y1, y2, y3, y4, y5, y6, y7, y8⟩ := hcy
      dsimp only at x0 x1 x2 x3 x4 x5 x6 x7 x8 y0 y1 y2 y3 y4 y5 y6 y7 y8
      rw [HZ.out] at HR1 HR2
      have r1 : (h : Int) < (n : Int) := by omega
      have r2 : (0 : Int) ≤ (h : Int) := by omega
      have r3 : (m : Int) < (n : Int) := by omega
      have b1 : i ≤ h := by omega
      have b2 : h < j := by omega
      clear hh
      by_cases hlz : z < 0
      · have q1 : decide (z < 0) = true := decide_eq_true hlz
        have HB' := Lib.hid (HR2.out hlz)
        clear HR1 HR2 HB
        go_wp2_with fail
        go_region_held3 (fun w' => (w'.cell? ⟨b, m * 9, none⟩ = some (.int .i64 k1) ∧ w'.cell? ⟨b, m * 9 + 1, none⟩ = some (.int .i64 i1) ∧ w'.cell? ⟨b, m * 9 + 1 + 1, none⟩ = some (.int .i64 g1) ∧ w'.cell? ⟨b, m * 9 + 1 + 1 + 1, none⟩ = some (.string n1) ∧ w'.cell? ⟨b, m * 9 + 1 + 1 + 1 + 1, none⟩ = some (.string fn1) ∧ w'.cell? ⟨b, m * 9 + 1 + 1 + 1 + 1 + 1, none⟩ = some (.int .i64 a1) ∧ w'.cell? ⟨b, m * 9 + 1 + 1 + 1 + 1 + 1 + 1, none⟩ = some (.slice p1 m1 c1) ∧ w'.cell? ⟨b, m * 9 + 1 + 1 + 1 + 1 + 1 + 1 + 1, none⟩ = some (.string by1) ∧ w'.cell? ⟨b, m * 9 + 1 + 1 + 1 + 1 + 1 + 1 + 1 + 1, none⟩ = some (.int .i64 s1)) ∧ w'.cell? ⟨b, h * 9, none⟩ = some (.int .i64 k2) ∧ w'.cell? ⟨b, h * 9 + 1, none⟩ = some (.int .i64 i2) ∧ w'.cell? ⟨b, h * 9 + 1 + 1, none⟩ = some (.int .i64 g2) ∧ w'.cell? ⟨b, h * 9 + 1 + 1 + 1, none⟩ = some (.string n2) ∧ w'.cell? ⟨b, h * 9 + 1 + 1 + 1 + 1, none⟩ = some (.string fn2) ∧ w'.cell? ⟨b, h * 9 + 1 + 1 + 1 + 1 + 1, none⟩ = some (.int .i64 a2) ∧ w'.cell? ⟨b, h * 9 + 1 + 1 + 1 + 1 + 1 + 1, none⟩ = some (.slice p2 m2 c2) ∧ w'.cell? ⟨b, h * 9 + 1 + 1 + 1 + 1 + 1 + 1 + 1, none⟩ = some (.string by2) ∧ w'.cell? ⟨b, h * 9 + 1 + 1 + 1 + 1 + 1 + 1 + 1 + 1, none⟩ = some (.int .i64 s2)) (go_keep)
          (first
            | (go_at_call 96; (with_reducible refine HC.out.mono ?_); rintro e5 w5 ⟨rfl, hb5⟩; have HA5 := Lib.hid (HA1.out.same (hb5.block b hbl)); have HB5 := Lib.hid (HB1.out.same (hb5.block b hbl)); obtain ⟨z0, z1, z2, z3, z4, z5, z6, z7, z8⟩ := HA5.out; obtain ⟨t0, t1, t2, t3, t4, t5, t6, t7, t8⟩ := HB5.out; dsimp only at z0 z1 z2 z3 z4 z5 z6 z7 z8 t0 t1 t2 t3 t4 t5 t6 t7 t8))
        have HR5 := Lib.hid ((HRow.out.drewN 1).below hb5 HRow.out.touch.size)
        clear hb5 HC HA1 HB1 HA5 HB5 HRow x0 x1 x2 x3 x4 x5 x6 x7 x8 y0 y1 y2 y3 y4 y5 y6 y7 y8 hbl
        go_wp2_with fail
        go_roundw
        case rel => exact ⟨i, h, rfl, rfl, hmi, by omega, by omega, HB', HR5⟩
        case measure => simp [intOf]; omega
      · have q1 : decide (z < 0) = false := decide_eq_false hlz
        have HB' := Lib.hid (HR1.out hlz)
        clear HR1 HR2 HB
        go_wp2_with fail
        go_region_held3 (fun w' => (w'.cell? ⟨b, m * 9, none⟩ = some (.int .i64 k1) ∧ w'.cell? ⟨b, m * 9 + 1, none⟩ = some (.int .i64 i1) ∧ w'.cell? ⟨b, m * 9 + 1 + 1, none⟩ = some (.int .i64 g1) ∧ w'.cell? ⟨b, m * 9 + 1 + 1 + 1, none⟩ = some (.string n1) ∧ w'.cell? ⟨b, m * 9 + 1 + 1 + 1 + 1, none⟩ = some (.string fn1) ∧ w'.cell? ⟨b, m * 9 + 1 + 1 + 1 + 1 + 1, none⟩ = some (.int .i64 a1) ∧ w'.cell? ⟨b, m * 9 + 1 + 1 + 1 + 1 + 1 + 1, none⟩ = some (.slice p1 m1 c1) ∧ w'.cell? ⟨b, m * 9 + 1 + 1 + 1 + 1 + 1 + 1 + 1, none⟩ = some (.string by1) ∧ w'.cell? ⟨b, m * 9 + 1 + 1 + 1 + 1 + 1 + 1 + 1 + 1, none⟩ = some (.int .i64 s1)) ∧ w'.cell? ⟨b, h * 9, none⟩ = some (.int .i64 k2) ∧ w'.cell? ⟨b, h * 9 + 1, none⟩ = some (.int .i64 i2) ∧ w'.cell? ⟨b, h * 9 + 1 + 1, none⟩ = some (.int .i64 g2) ∧ w'.cell? ⟨b, h * 9 + 1 + 1 + 1, none⟩ = some (.string n2) ∧ w'.cell? ⟨b, h * 9 + 1 + 1 + 1 + 1, none⟩ = some (.string fn2) ∧ w'.cell? ⟨b, h * 9 + 1 + 1 + 1 + 1 + 1, none⟩ = some (.int .i64 a2) ∧ w'.cell? ⟨b, h * 9 + 1 + 1 + 1 + 1 + 1 + 1, none⟩ = some (.slice p2 m2 c2) ∧ w'.cell? ⟨b, h * 9 + 1 + 1 + 1 + 1 + 1 + 1 + 1, none⟩ = some (.string by2) ∧ w'.cell? ⟨b, h * 9 + 1 + 1 + 1 + 1 + 1 + 1 + 1 + 1, none⟩ = some (.int .i64 s2)) (go_keep)
          (first
            | (go_at_call 96; (with_reducible refine HC.out.mono ?_); rintro e5 w5 ⟨rfl, hb5⟩; have HA5 := Lib.hid (HA1.out.same (hb5.block b hbl)); have HB5 := Lib.hid (HB1.out.same (hb5.block b hbl)); obtain ⟨z0, z1, z2, z3, z4, z5, z6, z7, z8⟩ := HA5.out; obtain ⟨t0, t1, t2, t3, t4, t5, t6, t7, t8⟩ := HB5.out; dsimp only at z0 z1 z2 z3 z4 z5 z6 z7 z8 t0 t1 t2 t3 t4 t5 t6 t7 t8))
        have HR5 := Lib.hid ((HRow.out.drewN 1).below hb5 HRow.out.touch.size)
        clear hb5 HC HA1 HB1 HA5 HB5 HRow x0 x1 x2 x3 x4 x5 x6 x7 x8 y0 y1 y2 y3 y4 y5 y6 y7 y8 hbl
        go_wp2_with fail
        go_roundw
        case rel => exact ⟨h + 1, j, by go_num, rfl, by omega, by omega, hje, HB', HR5⟩
        case measure => simp [intOf]; omega
    · obtain rfl : i = j := by omega
      obtain ⟨L1, L2, hL, hl', hs⟩ := HFin.out i HB.out
      have hrow := HRow.out
      rw [HD.out, hL] at hrow
      have HStart2 : Hid (∃ T1 T2, L2 = T1 ++ T2 ∧ i + T1.length = m ∧ RowW enc w0 wr b n cap (A ++ (L1 ++ (T1 ++ (x :: (T2 ++ C)))))) := Lib.hid ⟨L2, [], by simp, by have := HM.out; rw [hL] at this; simp at this; omega, by simpa using hrow⟩
      have HTake : Hid (∀ (w' : World) (k : Nat), i < k → (∃ T1 T2, L2 = T1 ++ T2 ∧ i + T1.length = k ∧ RowW enc w0 w' b n cap (A ++ (L1 ++ (T1 ++ (x :: (T2 ++ C)))))) → ∃ jp P y Q, k = jp + 1 ∧ S y ∧ P.length = jp ∧ RowW enc w0 w' b n cap (P ++ y :: x :: Q) ∧ ∀ w'', RowW enc w0 w'' b n cap (P ++ x :: y :: Q) → ∃ T1 T2, L2 = T1 ++ T2 ∧ i + T1.length = jp ∧ RowW enc w0 w'' b n cap (A ++ (L1 ++ (T1 ++ (x :: (T2 ++ C)))))) := Lib.hid (by
        rintro w' k h1 ⟨T1, T2, g1, g2, g3⟩
        rcases List.eq_nil_or_concat T1 with rfl | ⟨T1, y, rfl⟩
        · simp at g2; omega
        · rw [List.concat_eq_append] at *
          refine ⟨i + T1.length, A ++ (L1 ++ T1), y, T2 ++ C, by simp at g2; omega, hSL.out y (by rw [hL, g1]; simp), by have := HA.out; simp; omega, by simpa using g3, fun w'' hw => ?_⟩
          exact ⟨T1, y :: T2, by simp [g1], rfl, by simpa using hw⟩)
      have HDone : Hid (∀ (w' : World), (∃ T1 T2, L2 = T1 ++ T2 ∧ i + T1.length = i ∧ RowW enc w0 w' b n cap (A ++ (L1 ++ (T1 ++ (x :: (T2 ++ C)))))) → ∃ M', M'.Perm (L ++ [x]) ∧ M'.Pairwise (tlt c tg) ∧ RowW enc w0 w' b n cap (A ++ (M' ++ C))) := Lib.hid (by
        rintro w' ⟨T1, T2, g1, g2, g3⟩
        have hT : T1 = [] := List.eq_nil_of_length_eq_zero (by omega)
        subst hT
        rw [List.nil_append] at g1
        subst g1
        exact ⟨L1 ++ x :: L2, by rw [hL]; exact (List.perm_middle).trans (List.perm_append_singleton x (L1 ++ L2)).symm, hs, by simpa using g3⟩)
      clear hL hl' hs hrow HFin HB HRow HGet HX HD HRow0 HStart HCall
      go_wp2_with fail
      obtain ⟨wo, rfl⟩ : ∃ wo : World, wo = wr := ⟨_, rfl⟩
      go_loopw [17] (fun s wr => ∃ k : Nat, s = .int .i64 k ∧ i ≤ k ∧ k ≤ m ∧ Hid (∃ T1 T2, L2 = T1 ++ T2 ∧ i + T1.length = k ∧ RowW enc w0 wr b n cap (A ++ (L1 ++ (T1 ++ (x :: (T2 ++ C))))))) (fun s _ => (intOf s).toNat)
      case atStart => exact ⟨m, rfl, by omega, by omega, HStart2⟩
      case round =>
        obtain ⟨k, rfl, hak, hki, HR⟩ := hrel
        by_cases hlk : i < k
        · obtain ⟨jp, P, y, Q, rfl, hSy, hP, hRow, hNext⟩ := HTake.out wr k hlk HR.out
          have HNext := Lib.hid hNext
          have hsx := HSh.out x hSx
          have hsy := HSh.out y hSy
          have hcx : Cells wr b ((jp + 1) * 9) (enc x).1 (enc x).2 := RowW.cellsAt (P := P ++ [y]) (Q := Q) (by simpa using hRow) (by simp [hP])
          have hcy : Cells wr b (jp * 9) (enc y).1 (enc y).2 := hRow.cellsAt hP
          have HFz : Hid (∀ o, wr.frozen? ⟨b, o, none⟩ = false) := Lib.hid (fun o => hRow.frozen o)
          have hbl : b < wr.heap.size := hRow.lt
          have hfin := hRow.swapAdj hP
          obtain ⟨p1, m1, c1, ex⟩ := hsx
          obtain ⟨p2, m2, c2, ey⟩ := hsy
          obtain ⟨X9, eX⟩ : ∃ X9, enc x = X9 := ⟨_, rfl⟩
          obtain ⟨Y9, eY⟩ : ∃ Y9, enc y = Y9 := ⟨_, rfl⟩
          have HEX := Lib.hid eX
          have HEY := Lib.hid eY
          rw [eX] at hcx ex
          rw [eY] at hcy ey
          obtain ⟨⟨k1, i1, g1, n1, fn1, a1, by1, s1⟩, v1⟩ := X9
          obtain ⟨⟨k2, i2, g2, n2, fn2, a2, by2, s2⟩, v2⟩ := Y9
          dsimp only at hcx hcy ex ey
          subst ex
          subst ey
          clear eX eY
          rw [HEX.out, HEY.out] at hfin
          unfold set9 at hfin
          dsimp only at hfin
          have HF := Lib.hid (HNext.out _ hfin)
          obtain ⟨x0, x1, x2, x3, x4, x5, x6, x7, x8⟩ := hcx
          obtain ⟨y0, y1, y2, y3, y4, y5, y6, y7, y8⟩ := hcy
          dsimp only at x0 x1 x2 x3 x4 x5 x6 x7 x8 y0 y1 y2 y3 y4 y5 y6 y7 y8
          have hfz := HFz.out
          have r1 : (i : Int) < (jp : Int) + 1 := by omega
          have r2 : (jp : Int) + 1 < (n : Int) := by omega
          have r3 : (jp : Int) < (n : Int) := by omega
          have r4 : (0 : Int) ≤ (jp : Int) + 1 := by omega
          have r5 : ((jp : Int) + 1).toNat = jp + 1 := by omega
          have r6 : IntKind.i64.wrap (jp : Int) = (jp : Int) := IntWalk.i64_in _ (by omega)
          clear hP hRow hNext hfin HFz HEX HEY HNext HTake HDone
          go_wp2_with fail
          go_big_region
          go_wp2_with fail
          go_roundw
          case rel => exact ⟨jp, by go_num, by omega, by omega, HF⟩
          case measure => simp [intOf]
        · obtain rfl : i = k := by omega
          have HF := Lib.hid (HDone.out wr HR.out)
          clear HDone HTake
          go_wp2_with fail
          go_end0
          exact ⟨rfl, HF.out⟩
variable {α : Type} {enc : α → TF × Value} {w0 wr w : World} {b n cap : Nat} {d : List α} {S : α → Prop} {c : α → α → Int} {tg : α → Nat}
set_option maxHeartbeats 8000000 in
theorem symStep (hC : CmpW enc w0 b 96 S c) (htp : TP S c) (N : Nat)
    (ih : ∀ (w : World) (A L R C : List α) (hS : ∀ z ∈ L ++ R, S z) (hL : L.Pairwise (tlt c tg)) (hR : R.Pairwise (tlt c tg)) (ht : ∀ z ∈ L, ∀ y ∈ R, tg z < tg y) (h : RowW enc w0 w b n cap (A ++ (L ++ (R ++ C)))) (a m e : Nat) (ha : A.length = a) (hm : a + L.length = m) (he : m + R.length = e) (hl : a < m) (hr : m < e) (hN : e < a + N),
      Calls Tryz.prog 129 #[.slice (some ⟨b, 0, none⟩) n cap, .int .i64 a, .int .i64 m, .int .i64 e, .func (.func 96) #[] #[]] w (MergePost c tg enc w0 b n cap A (L ++ R) C))
    (A L R C : List α) (hS : ∀ z ∈ L ++ R, S z) (hL : L.Pairwise (tlt c tg)) (hR : R.Pairwise (tlt c tg)) (ht : ∀ z ∈ L, ∀ y ∈ R, tg z < tg y) (h : RowW enc w0 w b n cap (A ++ (L ++ (R ++ C)))) (a m e : Nat) (ha : A.length = a) (hm : a + L.length = m) (he : m + R.length = e) (hl : a + 1 < m) (hr : m + 1 < e) (hN : e ≤ a + N) (hn : n ≤ 1000000) :
    Calls Tryz.prog 129 #[.slice (some ⟨b, 0, none⟩) n cap, .int .i64 a, .int .i64 m, .int .i64 e, .func (.func 96) #[] #[]] w (MergePost c tg enc w0 b n cap A (L ++ R) C) := by
  have hlen := h.len
  have hen : e ≤ n := by rw [← hlen]; simp; omega
  have hSL : ∀ z ∈ L, S z := fun z hz => hS z (by simp [hz])
  have hSR : ∀ z ∈ R, S z := fun z hz => hS z (by simp [hz])
  obtain ⟨mid, hmid⟩ : ∃ mid, mid = (a + e) / 2 := ⟨_, rfl⟩
  obtain ⟨nn, hnn⟩ : ∃ nn, nn = mid + m := ⟨_, rfl⟩
  obtain ⟨p, hp⟩ : ∃ p, p + 1 = nn := ⟨nn - 1, by omega⟩
  have HSym := Lib.hid (fun (w : World) (A' L' R' C' : List α) (hL1 : ∀ z ∈ L', z ∈ L) (hR1 : ∀ z ∈ R', z ∈ R) (hL : L'.Pairwise (tlt c tg)) (hR : R'.Pairwise (tlt c tg)) (h : RowW enc w0 w b n cap (A' ++ (L' ++ (R' ++ C')))) (a m e : Nat) (ha : A'.length = a) (hm : a + L'.length = m) (he : m + R'.length = e) (hl : a < m) (hr : m < e) (hN : e < a + N) => ih w A' L' R' C' (fun z hz => by rcases List.mem_append.1 hz with hz | hz; exact hSL z (hL1 z hz); exact hSR z (hR1 z hz)) hL hR (fun z hz y hy => ht z (hL1 z hz) y (hR1 y hy)) h a m e ha hm he hl hr hN)
  have HRot := Lib.hid (fun (w : World) (A' U V C' : List α) (hS' : ∀ x ∈ U ++ V, x ∈ L ∨ x ∈ R) (h : RowW enc w0 w b n cap (A' ++ (U ++ (V ++ C')))) (a m e : Nat) (ha : A'.length = a) (hm : a + U.length = m) (he : m + V.length = e) (hU : a < m) (hV : m < e) => rotate (w := w) hC.shape A' U V C' (fun x hx => (hS' x hx).elim (hSL x) (hSR x)) h a m e ha hm he hU hV hn (.func (.func 96) #[] #[]))
  have HGet : Hid (∀ i, a ≤ i → i < e → ∃ y, (A ++ (L ++ (R ++ C)))[i]? = some y ∧ S y) := Lib.hid (fun i h1 h2 => by
    have hg : (A ++ (L ++ (R ++ C)))[i]? = (L ++ R)[i - a]? := by
      rw [List.getElem?_append_right (by omega), show i - A.length = i - a by omega, ← List.append_assoc, List.getElem?_append_left (by simp; omega)]
    have hx := List.getElem?_eq_getElem (l := L ++ R) (i := i - a) (by simp; omega)
    exact ⟨(L ++ R)[i - a]'(by simp; omega), by rw [hg, hx], hS _ (List.getElem_mem _)⟩)
  have HRow0 := Lib.hid h
  have HSh := Lib.hid hC.shape
  have HCall := Lib.hid hC.call
  have HA := Lib.hid ha
  have HM := Lib.hid hm
  have HE := Lib.hid he
  have HL := Lib.hid hL
  have HRR := Lib.hid hR
  have HPartsG := Lib.hid (fun lo0 hi0 i h0 hB => parts (A := A) (L := L) (R := R) (C := C) (tg := tg) (lo0 := lo0) (hi0 := hi0) (i := i) (p := p) htp ha hm he hS hL hR ht h0 (by omega) hB)
  rw [← hmid] at HPartsG
  obtain ⟨D, hD⟩ : ∃ D, D = A ++ (L ++ (R ++ C)) := ⟨_, rfl⟩
  have HD := Lib.hid hD
  rw [← hD] at HPartsG HGet HRow0
  obtain ⟨l0, hl0⟩ : ∃ l0 : Nat, a + l0 = m := ⟨L.length, hm⟩
  obtain ⟨l1, hl1⟩ : ∃ l1 : Nat, m + l1 = e := ⟨R.length, he⟩
  have r0 : (m : Int) - (a : Int) = (l0 : Int) := by omega
  have t0 : ¬ ((l0 : Int) = 1) := by omega
  have t1 : ((l0 : Int) == 1) = false := by simpa using t0
  have r1 : (e : Int) - (m : Int) = (l1 : Int) := by omega
  have t2 : ¬ ((l1 : Int) = 1) := by omega
  have t3 : ((l1 : Int) == 1) = false := by simpa using t2
  have r2 : ((a : Int) + (e : Int)) / 2 = (mid : Int) := by omega
  have r3 : (mid : Int) + (m : Int) = (nn : Int) := by omega
  have r4 : (nn : Int) - 1 = (p : Int) := by omega
  have m1 : a + e ≤ 2 * mid + 1 := by omega
  have m2 : 2 * mid ≤ a + e := by omega
  have m3 : p + 1 ≤ mid + m := by omega
  have m4 : mid + m ≤ p + 1 := by omega
  have m5 : nn ≤ mid + m := by omega
  have m6 : mid + m ≤ nn := by omega
  clear hS hL hR ht h ha hlen hD hC htp hm hl0 hl1 hmid hnn hp hSL hSR ih he
  by_cases hb : mid < m
  · obtain ⟨lo0, hlo⟩ : ∃ lo0 : Nat, lo0 + e = nn := ⟨nn - e, by omega⟩
    have r5 : (nn : Int) - (e : Int) = (lo0 : Int) := by omega
    have HParts := Lib.hid (fun i (hx : i ≤ i) hB => HPartsG.out lo0 mid i (.inr ⟨by omega, rfl, hb⟩) hB)
    have m7 : lo0 + e ≤ nn := by omega
    have m8 : nn ≤ lo0 + e := by omega
    clear hlo HPartsG
    go_enter Tryz.func129, Tryz.ntmps129
    go_wp2_with fail
    clear r0 r1 r2 r3 r4 r5 t0 t1 t2 t3
    go_loopw [20, 21] (fun s t wr => ∃ i j : Nat, s = .int .i64 i ∧ t = .int .i64 j ∧ lo0 ≤ i ∧ i ≤ j ∧ j ≤ mid ∧ Hid (Bin (fun h => ¬ LTi c D (p - h) h) lo0 mid i j) ∧ Hid (RowW enc w0 wr b n cap D)) (fun s t _ => (intOf t).toNat - (intOf s).toNat)
    case atStart => exact ⟨lo0, mid, rfl, rfl, by omega, by omega, by omega, Lib.hid ⟨Nat.le_refl _, by omega, Nat.le_refl _, .inl rfl, .inl rfl⟩, HRow0⟩
    case round =>
      obtain ⟨i, j, rfl, rfl, hmi, hij, hje, HB, HRow⟩ := hrel
      by_cases hlt : i < j
      · obtain ⟨h, hh⟩ : ∃ h : Nat, (i + j) / 2 = h := ⟨_, rfl⟩
        have e1 : ((i : Int) + (j : Int)) / 2 = (h : Int) := by omega
        obtain ⟨q, hq⟩ : ∃ q : Nat, p - h = q := ⟨_, rfl⟩
        have e2 : (p : Int) - (h : Int) = (q : Int) := by omega
        obtain ⟨x, hx, hSx⟩ := HGet.out q (by omega) (by omega)
        obtain ⟨y, hy, hSy⟩ := HGet.out h (by omega) (by omega)
        have hcx := HRow.out.cellsGet hx
        have hcy := HRow.out.cellsGet hy
        have HR1 := Lib.hid (fun hz : ¬ c x y < 0 => HB.out.right (h := h) (by omega) (by omega) (fun hw => hz ((LTi_iff hx hy).1 (by rw [← hq]; exact hw))))
        have HR2 := Lib.hid (fun hz : c x y < 0 => HB.out.left (h := h) (by omega) (by omega) (fun hw => hw (by rw [hq]; exact (LTi_iff hx hy).2 hz)))
        clear hx hy
        have hbl : b < wr.heap.size := HRow.out.lt
        have HC := Lib.hid (HCall.out wr.drew x y (HRow.out.touch.drewN 1) hSx hSy)
        have hsx := HSh.out x hSx
        have hsy := HSh.out y hSy
        obtain ⟨z, hz⟩ : ∃ z, c x y = z := ⟨_, rfl⟩
        have HZ := Lib.hid hz
        rw [hz] at HC
        clear hz
        obtain ⟨p1, m1, c1, ex⟩ := hsx
        obtain ⟨p2, m2, c2, ey⟩ := hsy
        obtain ⟨X9, eX⟩ : ∃ X9, enc x = X9 := ⟨_, rfl⟩
        obtain ⟨Y9, eY⟩ : ∃ Y9, enc y = Y9 := ⟨_, rfl⟩
        rw [eX] at hcx ex HC
        rw [eY] at hcy ey HC
        clear eX eY
        obtain ⟨⟨k1, i1, g1, n1, fn1, a1, by1, s1⟩, v1⟩ := X9
        obtain ⟨⟨k2, i2, g2, n2, fn2, a2, by2, s2⟩, v2⟩ := Y9
        dsimp only at hcx hcy HC ex ey
        subst ex
        subst ey
        have HA1 := Lib.hid hcx
        have HB1 := Lib.hid hcy
        unfold aggV IPostC at HC
        dsimp only at HC
        obtain ⟨x0, x1, x2, x3, x4, x5, x6, x7, x8⟩ := hcx
        obtain ⟨y0, y1, y2, y3, y4, y5, y6, y7, y8⟩ := hcy
        dsimp only at x0 x1 x2 x3 x4 x5 x6 x7 x8 y0 y1 y2 y3 y4 y5 y6 y7 y8
        rw [HZ.out] at HR1 HR2
        have r1 : (h : Int) < (n : Int) := by omega
        have r2 : (0 : Int) ≤ (h : Int) := by omega
        have r3 : (q : Int) < (n : Int) := by omega
        have r4 : (0 : Int) ≤ (q : Int) := by omega
        have r5 : IntKind.i64.wrap (q : Int) = (q : Int) := IntWalk.i64_in _ (by omega)
        have b1 : i ≤ h := by omega
        have b2 : h < j := by omega
        clear hh hq HParts HSym HRot
        by_cases hlz : z < 0
        · have q1 : decide (z < 0) = true := decide_eq_true hlz
          have HB' := Lib.hid (HR2.out hlz)
          clear HR1 HR2 HB
          go_wp2_with fail
          go_region_held3 (fun w' => (w'.cell? ⟨b, q * 9, none⟩ = some (.int .i64 k1) ∧ w'.cell? ⟨b, q * 9 + 1, none⟩ = some (.int .i64 i1) ∧ w'.cell? ⟨b, q * 9 + 1 + 1, none⟩ = some (.int .i64 g1) ∧ w'.cell? ⟨b, q * 9 + 1 + 1 + 1, none⟩ = some (.string n1) ∧ w'.cell? ⟨b, q * 9 + 1 + 1 + 1 + 1, none⟩ = some (.string fn1) ∧ w'.cell? ⟨b, q * 9 + 1 + 1 + 1 + 1 + 1, none⟩ = some (.int .i64 a1) ∧ w'.cell? ⟨b, q * 9 + 1 + 1 + 1 + 1 + 1 + 1, none⟩ = some (.slice p1 m1 c1) ∧ w'.cell? ⟨b, q * 9 + 1 + 1 + 1 + 1 + 1 + 1 + 1, none⟩ = some (.string by1) ∧ w'.cell? ⟨b, q * 9 + 1 + 1 + 1 + 1 + 1 + 1 + 1 + 1, none⟩ = some (.int .i64 s1)) ∧ w'.cell? ⟨b, h * 9, none⟩ = some (.int .i64 k2) ∧ w'.cell? ⟨b, h * 9 + 1, none⟩ = some (.int .i64 i2) ∧ w'.cell? ⟨b, h * 9 + 1 + 1, none⟩ = some (.int .i64 g2) ∧ w'.cell? ⟨b, h * 9 + 1 + 1 + 1, none⟩ = some (.string n2) ∧ w'.cell? ⟨b, h * 9 + 1 + 1 + 1 + 1, none⟩ = some (.string fn2) ∧ w'.cell? ⟨b, h * 9 + 1 + 1 + 1 + 1 + 1, none⟩ = some (.int .i64 a2) ∧ w'.cell? ⟨b, h * 9 + 1 + 1 + 1 + 1 + 1 + 1, none⟩ = some (.slice p2 m2 c2) ∧ w'.cell? ⟨b, h * 9 + 1 + 1 + 1 + 1 + 1 + 1 + 1, none⟩ = some (.string by2) ∧ w'.cell? ⟨b, h * 9 + 1 + 1 + 1 + 1 + 1 + 1 + 1 + 1, none⟩ = some (.int .i64 s2)) (go_keep)
            (first
              | (go_at_call 96; (with_reducible refine HC.out.mono ?_); rintro e5 w5 ⟨rfl, hb5⟩; have HA5 := Lib.hid (HA1.out.same (hb5.block b hbl)); have HB5 := Lib.hid (HB1.out.same (hb5.block b hbl)); obtain ⟨z0, z1, z2, z3, z4, z5, z6, z7, z8⟩ := HA5.out; obtain ⟨t0, t1, t2, t3, t4, t5, t6, t7, t8⟩ := HB5.out; dsimp only at z0 z1 z2 z3 z4 z5 z6 z7 z8 t0 t1 t2 t3 t4 t5 t6 t7 t8))
          have HR5 := Lib.hid ((HRow.out.drewN 1).below hb5 HRow.out.touch.size)
          clear hb5 HC HA1 HB1 HA5 HB5 HRow x0 x1 x2 x3 x4 x5 x6 x7 x8 y0 y1 y2 y3 y4 y5 y6 y7 y8 hbl
          go_wp2_with fail
          go_roundw
          case rel => exact ⟨i, h, rfl, rfl, hmi, by omega, by omega, HB', HR5⟩
          case measure => simp [intOf]; omega
        · have q1 : decide (z < 0) = false := decide_eq_false hlz
          have HB' := Lib.hid (HR1.out hlz)
          clear HR1 HR2 HB
          go_wp2_with fail
          go_region_held3 (fun w' => (w'.cell? ⟨b, q * 9, none⟩ = some (.int .i64 k1) ∧ w'.cell? ⟨b, q * 9 + 1, none⟩ = some (.int .i64 i1) ∧ w'.cell? ⟨b, q * 9 + 1 + 1, none⟩ = some (.int .i64 g1) ∧ w'.cell? ⟨b, q * 9 + 1 + 1 + 1, none⟩ = some (.string n1) ∧ w'.cell? ⟨b, q * 9 + 1 + 1 + 1 + 1, none⟩ = some (.string fn1) ∧ w'.cell? ⟨b, q * 9 + 1 + 1 + 1 + 1 + 1, none⟩ = some (.int .i64 a1) ∧ w'.cell? ⟨b, q * 9 + 1 + 1 + 1 + 1 + 1 + 1, none⟩ = some (.slice p1 m1 c1) ∧ w'.cell? ⟨b, q * 9 + 1 + 1 + 1 + 1 + 1 + 1 + 1, none⟩ = some (.string by1) ∧ w'.cell? ⟨b, q * 9 + 1 + 1 + 1 + 1 + 1 + 1 + 1 + 1, none⟩ = some (.int .i64 s1)) ∧ w'.cell? ⟨b, h * 9, none⟩ = some (.int .i64 k2) ∧ w'.cell? ⟨b, h * 9 + 1, none⟩ = some (.int .i64 i2) ∧ w'.cell? ⟨b, h * 9 + 1 + 1, none⟩ = some (.int .i64 g2) ∧ w'.cell? ⟨b, h * 9 + 1 + 1 + 1, none⟩ = some (.string n2) ∧ w'.cell? ⟨b, h * 9 + 1 + 1 + 1 + 1, none⟩ = some (.string fn2) ∧ w'.cell? ⟨b, h * 9 + 1 + 1 + 1 + 1 + 1, none⟩ = some (.int .i64 a2) ∧ w'.cell? ⟨b, h * 9 + 1 + 1 + 1 + 1 + 1 + 1, none⟩ = some (.slice p2 m2 c2) ∧ w'.cell? ⟨b, h * 9 + 1 + 1 + 1 + 1 + 1 + 1 + 1, none⟩ = some (.string by2) ∧ w'.cell? ⟨b, h * 9 + 1 + 1 + 1 + 1 + 1 + 1 + 1 + 1, none⟩ = some (.int .i64 s2)) (go_keep)
            (first
              | (go_at_call 96; (with_reducible refine HC.out.mono ?_); rintro e5 w5 ⟨rfl, hb5⟩; have HA5 := Lib.hid (HA1.out.same (hb5.block b hbl)); have HB5 := Lib.hid (HB1.out.same (hb5.block b hbl)); obtain ⟨z0, z1, z2, z3, z4, z5, z6, z7, z8⟩ := HA5.out; obtain ⟨t0, t1, t2, t3, t4, t5, t6, t7, t8⟩ := HB5.out; dsimp only at z0 z1 z2 z3 z4 z5 z6 z7 z8 t0 t1 t2 t3 t4 t5 t6 t7 t8))
          have HR5 := Lib.hid ((HRow.out.drewN 1).below hb5 HRow.out.touch.size)
          clear hb5 HC HA1 HB1 HA5 HB5 HRow x0 x1 x2 x3 x4 x5 x6 x7 x8 y0 y1 y2 y3 y4 y5 y6 y7 y8 hbl
          go_wp2_with fail
          go_roundw
          case rel => exact ⟨h + 1, j, by go_num, rfl, by omega, by omega, hje, HB', HR5⟩
          case measure => simp [intOf]; omega
      · obtain rfl : i = j := by omega
        obtain ⟨L1, L2, R1, R2, hL, hR, hl1, hl2, hJ⟩ := HParts.out i (by omega) HB.out
        have hrow := HRow.out
        rw [HD.out, hL, hR] at hrow
        have hm' := HM.out
        have he' := HE.out
        have ha' := HA.out
        rw [hL] at hm'
        rw [hR] at he'
        rw [List.length_append] at hm' he'
        have sL1 : ∀ z ∈ L1, z ∈ L := fun z hz => by rw [hL]; simp [hz]
        have sL2 : ∀ z ∈ L2, z ∈ L := fun z hz => by rw [hL]; simp [hz]
        have sR1 : ∀ z ∈ R1, z ∈ R := fun z hz => by rw [hR]; simp [hz]
        have sR2 : ∀ z ∈ R2, z ∈ R := fun z hz => by rw [hR]; simp [hz]
        have hLs := HL.out
        have hRs := HRR.out
        rw [hL] at hLs
        rw [hR] at hRs
        have hLs := List.pairwise_append.1 hLs
        have hRs := List.pairwise_append.1 hRs
        obtain ⟨en, hen⟩ : ∃ en : Nat, en = m + R1.length := ⟨_, rfl⟩
        have r1 : (nn : Int) - (i : Int) = (en : Int) := by omega
        have c1 : i ≤ m := by omega
        have c2 : m ≤ en := by omega
        have c3 : a ≤ i := by omega
        have c4 : i ≤ mid := by omega
        have c5 : mid ≤ en := by omega
        have c6 : en ≤ e := by omega
        have HJ := Lib.hid hJ
        have HC1 : Hid (i < m ∧ m < en → Calls Tryz.prog 152 #[.slice (some ⟨b, 0, none⟩) n cap, .int .i64 i, .int .i64 m, .int .i64 en, .func (.func 96) #[] #[]] wr (UnitRow enc w0 b n cap (A ++ (L1 ++ (R1 ++ (L2 ++ (R2 ++ C))))))) := Lib.hid (fun hc => by
          have := HRot.out wr (A ++ L1) L2 R1 (R2 ++ C) (fun z hz => by rcases List.mem_append.1 hz with hz | hz; exact .inl (sL2 z hz); exact .inr (sR1 z hz)) (by simpa using hrow) i m en (by simp; omega) (by omega) (by omega) hc.1 hc.2
          simpa using this)
        have HN1 : Hid (¬ (i < m ∧ m < en) → RowW enc w0 wr b n cap (A ++ (L1 ++ (R1 ++ (L2 ++ (R2 ++ C)))))) := Lib.hid (fun hc => by
          have : L2 = [] ∨ R1 = [] := by
            by_cases hq : i < m
            · exact .inr (List.eq_nil_of_length_eq_zero (by omega))
            · exact .inl (List.eq_nil_of_length_eq_zero (by omega))
          rcases this with rfl | rfl
          · simpa using hrow
          · simpa using hrow)
        have HC2 : Hid (∀ W, RowW enc w0 W b n cap (A ++ (L1 ++ (R1 ++ (L2 ++ (R2 ++ C))))) → a < i ∧ i < mid → Calls Tryz.prog 129 #[.slice (some ⟨b, 0, none⟩) n cap, .int .i64 a, .int .i64 i, .int .i64 mid, .func (.func 96) #[] #[]] W (MergePost c tg enc w0 b n cap A (L1 ++ R1) (L2 ++ (R2 ++ C)))) := Lib.hid (fun W hw hc => HSym.out W A L1 R1 (L2 ++ (R2 ++ C)) (fun z hz => sL1 z hz) (fun z hz => sR1 z hz) hLs.1 hRs.1 hw a i mid (by omega) (by omega) (by omega) hc.1 hc.2 (by omega))
        have HN2 : Hid (¬ (a < i ∧ i < mid) → (L1 ++ R1).Pairwise (tlt c tg)) := Lib.hid (fun hc => by
          have : L1 = [] ∨ R1 = [] := by
            by_cases hq : a < i
            · exact .inr (List.eq_nil_of_length_eq_zero (by omega))
            · exact .inl (List.eq_nil_of_length_eq_zero (by omega))
          rcases this with rfl | rfl
          · simpa using hRs.1
          · simpa using hLs.1)
        have HC3 : Hid (∀ W (M1 : List α), M1.Perm (L1 ++ R1) → RowW enc w0 W b n cap (A ++ (M1 ++ (L2 ++ (R2 ++ C)))) → mid < en ∧ en < e → Calls Tryz.prog 129 #[.slice (some ⟨b, 0, none⟩) n cap, .int .i64 mid, .int .i64 en, .int .i64 e, .func (.func 96) #[] #[]] W (MergePost c tg enc w0 b n cap (A ++ M1) (L2 ++ R2) C)) := Lib.hid (fun W M1 hp hw hc => HSym.out W (A ++ M1) L2 R2 C (fun z hz => sL2 z hz) (fun z hz => sR2 z hz) hLs.2.1 hRs.2.1 (by simpa using hw) mid en e (by have := hp.length_eq; simp at this ⊢; omega) (by omega) (by omega) hc.1 hc.2 (by omega))
        have HN3 : Hid (¬ (mid < en ∧ en < e) → (L2 ++ R2).Pairwise (tlt c tg)) := Lib.hid (fun hc => by
          have : L2 = [] ∨ R2 = [] := by
            by_cases hq : mid < en
            · exact .inr (List.eq_nil_of_length_eq_zero (by omega))
            · exact .inl (List.eq_nil_of_length_eq_zero (by omega))
          rcases this with rfl | rfl
          · simpa using hRs.2.1
          · simpa using hLs.2.1)
        clear hL hR hl1 hl2 hJ hrow hm' he' ha' sL1 sL2 sR1 sR2 hLs hRs hen HParts HSym HRot HB HRow HGet HD HRow0 HCall HSh
        by_cases h0 : i < m ∧ m < en
        · have u1 : (i : Int) < (m : Int) := by omega
          have u2 : (m : Int) < (en : Int) := by omega
          have u3 : decide (i < m) = true := decide_eq_true (by omega)
          have u4 : decide (m < en) = true := decide_eq_true (by omega)
          have HCC := Lib.hid (HC1.out h0)
          go_wp2_with fail
          refine HCC.out.mono ?_
          rintro e1 v0 ⟨rfl, hr⟩
          have HRW := Lib.hid hr
          clear hr HCC u1 u2 u3 u4 h0
          by_cases h1 : a < i ∧ i < mid
          · have u1 : (a : Int) < (i : Int) := by omega
            have u2 : (i : Int) < (mid : Int) := by omega
            have u3 : decide (a < i) = true := decide_eq_true (by omega)
            have u4 : decide (i < mid) = true := decide_eq_true (by omega)
            have HCC := Lib.hid (HC2.out v0 HRW.out h1)
            go_wp2_with fail
            refine HCC.out.mono ?_
            rintro e1 v1 ⟨rfl, M1, hp, hs, hr⟩
            have HP1 := Lib.hid hp
            have HS1 := Lib.hid hs
            clear HRW
            have HRW := Lib.hid hr
            clear hp hs
            clear hr HCC u1 u2 u3 u4 h1
            by_cases h2 : mid < en ∧ en < e
            · have u1 : (mid : Int) < (en : Int) := by omega
              have u2 : (en : Int) < (e : Int) := by omega
              have u3 : decide (mid < en) = true := decide_eq_true (by omega)
              have u4 : decide (en < e) = true := decide_eq_true (by omega)
              have HCC := Lib.hid (HC3.out v1 M1 HP1.out HRW.out h2)
              go_wp2_with fail
              refine HCC.out.mono ?_
              rintro e1 v2 ⟨rfl, M2, hp, hs, hr⟩
              have HP2 := Lib.hid hp
              have HS2 := Lib.hid hs
              clear HRW
              have HRW := Lib.hid hr
              clear hp hs
              clear hr HCC u1 u2 u3 u4 h2
              go_wp2_with fail
              go_end0
              exact ⟨rfl, M1 ++ M2, (HJ.out M1 M2 HP1.out HP2.out HS1.out HS2.out).1, (HJ.out M1 M2 HP1.out HP2.out HS1.out HS2.out).2, by simpa using HRW.out⟩
            · have HBF : Hid (¬ (mid < en ∧ en < e)) := Lib.hid h2
              obtain ⟨M2, hM2⟩ : ∃ M2, M2 = L2 ++ R2 := ⟨_, rfl⟩
              have HP2 : Hid (M2.Perm (L2 ++ R2)) := Lib.hid (by rw [hM2])
              have HS2 : Hid (M2.Pairwise (tlt c tg)) := Lib.hid (by rw [hM2]; exact HN3.out h2)
              have hrw := HRW.out
              rw [← List.append_assoc L2, ← hM2, ← List.append_assoc A] at hrw
              clear HRW
              have HRW := Lib.hid hrw
              clear hrw hM2
              clear h2
              go_upto_region 43 with fail
              go_cut [213] from 206 to 213 (fun v wx => v = .bool false ∧ wx = v1)
              case first =>
                by_cases hu : mid < en
                · have u2 : ¬ en < e := by have := HBF.out; omega
                  have u3 : decide (mid < en) = true := decide_eq_true hu
                  have u4 : decide (en < e) = false := decide_eq_false u2
                  have u5 : (mid : Int) < (en : Int) := by omega
                  have u6 : ¬ (en : Int) < (e : Int) := by omega
                  have u7 : decide ((en : Int) < (e : Int)) = false := decide_eq_false u6
                  go_wp2_with fail
                  go_meet
                  exact ⟨rfl, rfl⟩
                · have u3 : decide (mid < en) = false := decide_eq_false hu
                  have u6 : ¬ (mid : Int) < (en : Int) := by omega
                  have u7 : decide ((mid : Int) < (en : Int)) = false := decide_eq_false u6
                  go_wp2_with fail
                  go_meet
                  exact ⟨rfl, rfl⟩
              case rest =>
                obtain ⟨rfl, rfl⟩ := hcut
                clear HBF
                obtain ⟨y2, rfl⟩ : ∃ y2 : World, y2 = wc := ⟨_, rfl⟩
                go_wp2_with fail
                go_end0
                exact ⟨rfl, M1 ++ M2, (HJ.out M1 M2 HP1.out HP2.out HS1.out HS2.out).1, (HJ.out M1 M2 HP1.out HP2.out HS1.out HS2.out).2, by simpa using HRW.out⟩
          · have HBF : Hid (¬ (a < i ∧ i < mid)) := Lib.hid h1
            obtain ⟨M1, hM1⟩ : ∃ M1, M1 = L1 ++ R1 := ⟨_, rfl⟩
            have HP1 : Hid (M1.Perm (L1 ++ R1)) := Lib.hid (by rw [hM1])
            have HS1 : Hid (M1.Pairwise (tlt c tg)) := Lib.hid (by rw [hM1]; exact HN2.out h1)
            have hrw := HRW.out
            rw [← List.append_assoc L1, ← hM1] at hrw
            clear HRW
            have HRW := Lib.hid hrw
            clear hrw hM1
            clear h1
            go_upto_region 41 with fail
            go_cut [199] from 192 to 199 (fun v wx => v = .bool false ∧ wx = v0)
            case first =>
              by_cases hu : a < i
              · have u2 : ¬ i < mid := by have := HBF.out; omega
                have u3 : decide (a < i) = true := decide_eq_true hu
                have u4 : decide (i < mid) = false := decide_eq_false u2
                have u5 : (a : Int) < (i : Int) := by omega
                have u6 : ¬ (i : Int) < (mid : Int) := by omega
                have u7 : decide ((i : Int) < (mid : Int)) = false := decide_eq_false u6
                go_wp2_with fail
                go_meet
                exact ⟨rfl, rfl⟩
              · have u3 : decide (a < i) = false := decide_eq_false hu
                have u6 : ¬ (a : Int) < (i : Int) := by omega
                have u7 : decide ((a : Int) < (i : Int)) = false := decide_eq_false u6
                go_wp2_with fail
                go_meet
                exact ⟨rfl, rfl⟩
            case rest =>
              obtain ⟨rfl, rfl⟩ := hcut
              clear HBF
              obtain ⟨y1, rfl⟩ : ∃ y1 : World, y1 = wc := ⟨_, rfl⟩
              by_cases h2 : mid < en ∧ en < e
              · have u1 : (mid : Int) < (en : Int) := by omega
                have u2 : (en : Int) < (e : Int) := by omega
                have u3 : decide (mid < en) = true := decide_eq_true (by omega)
                have u4 : decide (en < e) = true := decide_eq_true (by omega)
                have HCC := Lib.hid (HC3.out y1 M1 HP1.out HRW.out h2)
                go_wp2_with fail
                refine HCC.out.mono ?_
                rintro e1 v2 ⟨rfl, M2, hp, hs, hr⟩
                have HP2 := Lib.hid hp
                have HS2 := Lib.hid hs
                clear HRW
                have HRW := Lib.hid hr
                clear hp hs
                clear hr HCC u1 u2 u3 u4 h2
                go_wp2_with fail
                go_end0
                exact ⟨rfl, M1 ++ M2, (HJ.out M1 M2 HP1.out HP2.out HS1.out HS2.out).1, (HJ.out M1 M2 HP1.out HP2.out HS1.out HS2.out).2, by simpa using HRW.out⟩
              · have HBF : Hid (¬ (mid < en ∧ en < e)) := Lib.hid h2
                obtain ⟨M2, hM2⟩ : ∃ M2, M2 = L2 ++ R2 := ⟨_, rfl⟩
                have HP2 : Hid (M2.Perm (L2 ++ R2)) := Lib.hid (by rw [hM2])
                have HS2 : Hid (M2.Pairwise (tlt c tg)) := Lib.hid (by rw [hM2]; exact HN3.out h2)
                have hrw := HRW.out
                rw [← List.append_assoc L2, ← hM2, ← List.append_assoc A] at hrw
                clear HRW
                have HRW := Lib.hid hrw
                clear hrw hM2
                clear h2
                go_upto_region 43 with fail
                go_cut [213] from 206 to 213 (fun v wx => v = .bool false ∧ wx = y1)
                case first =>
                  by_cases hu : mid < en
                  · have u2 : ¬ en < e := by have := HBF.out; omega
                    have u3 : decide (mid < en) = true := decide_eq_true hu
                    have u4 : decide (en < e) = false := decide_eq_false u2
                    have u5 : (mid : Int) < (en : Int) := by omega
                    have u6 : ¬ (en : Int) < (e : Int) := by omega
                    have u7 : decide ((en : Int) < (e : Int)) = false := decide_eq_false u6
                    go_wp2_with fail
                    go_meet
                    exact ⟨rfl, rfl⟩
                  · have u3 : decide (mid < en) = false := decide_eq_false hu
                    have u6 : ¬ (mid : Int) < (en : Int) := by omega
                    have u7 : decide ((mid : Int) < (en : Int)) = false := decide_eq_false u6
                    go_wp2_with fail
                    go_meet
                    exact ⟨rfl, rfl⟩
                case rest =>
                  obtain ⟨rfl, rfl⟩ := hcut
                  clear HBF
                  obtain ⟨y2, rfl⟩ : ∃ y2 : World, y2 = wc := ⟨_, rfl⟩
                  go_wp2_with fail
                  go_end0
                  exact ⟨rfl, M1 ++ M2, (HJ.out M1 M2 HP1.out HP2.out HS1.out HS2.out).1, (HJ.out M1 M2 HP1.out HP2.out HS1.out HS2.out).2, by simpa using HRW.out⟩
        · have HBF : Hid (¬ (i < m ∧ m < en)) := Lib.hid h0
          have HRW := Lib.hid (HN1.out h0)
          clear h0
          go_upto_region 39 with fail
          go_cut [185] from 178 to 185 (fun v wx => v = .bool false ∧ wx = wr)
          case first =>
            by_cases hu : i < m
            · have u2 : ¬ m < en := by have := HBF.out; omega
              have u3 : decide (i < m) = true := decide_eq_true hu
              have u4 : decide (m < en) = false := decide_eq_false u2
              have u5 : (i : Int) < (m : Int) := by omega
              have u6 : ¬ (m : Int) < (en : Int) := by omega
              have u7 : decide ((m : Int) < (en : Int)) = false := decide_eq_false u6
              go_wp2_with fail
              go_meet
              exact ⟨rfl, rfl⟩
            · have u3 : decide (i < m) = false := decide_eq_false hu
              have u6 : ¬ (i : Int) < (m : Int) := by omega
              have u7 : decide ((i : Int) < (m : Int)) = false := decide_eq_false u6
              go_wp2_with fail
              go_meet
              exact ⟨rfl, rfl⟩
          case rest =>
            obtain ⟨rfl, rfl⟩ := hcut
            clear HBF
            obtain ⟨y0, rfl⟩ : ∃ y0 : World, y0 = wc := ⟨_, rfl⟩
            by_cases h1 : a < i ∧ i < mid
            · have u1 : (a : Int) < (i : Int) := by omega
              have u2 : (i : Int) < (mid : Int) := by omega
              have u3 : decide (a < i) = true := decide_eq_true (by omega)
              have u4 : decide (i < mid) = true := decide_eq_true (by omega)
              have HCC := Lib.hid (HC2.out y0 HRW.out h1)
              go_wp2_with fail
              refine HCC.out.mono ?_
              rintro e1 v1 ⟨rfl, M1, hp, hs, hr⟩
              have HP1 := Lib.hid hp
              have HS1 := Lib.hid hs
              clear HRW
              have HRW := Lib.hid hr
              clear hp hs
              clear hr HCC u1 u2 u3 u4 h1
              by_cases h2 : mid < en ∧ en < e
              · have u1 : (mid : Int) < (en : Int) := by omega
                have u2 : (en : Int) < (e : Int) := by omega
                have u3 : decide (mid < en) = true := decide_eq_true (by omega)
                have u4 : decide (en < e) = true := decide_eq_true (by omega)
                have HCC := Lib.hid (HC3.out v1 M1 HP1.out HRW.out h2)
                go_wp2_with fail
                refine HCC.out.mono ?_
                rintro e1 v2 ⟨rfl, M2, hp, hs, hr⟩
                have HP2 := Lib.hid hp
                have HS2 := Lib.hid hs
                clear HRW
                have HRW := Lib.hid hr
                clear hp hs
                clear hr HCC u1 u2 u3 u4 h2
                go_wp2_with fail
                go_end0
                exact ⟨rfl, M1 ++ M2, (HJ.out M1 M2 HP1.out HP2.out HS1.out HS2.out).1, (HJ.out M1 M2 HP1.out HP2.out HS1.out HS2.out).2, by simpa using HRW.out⟩
              · have HBF : Hid (¬ (mid < en ∧ en < e)) := Lib.hid h2
                obtain ⟨M2, hM2⟩ : ∃ M2, M2 = L2 ++ R2 := ⟨_, rfl⟩
                have HP2 : Hid (M2.Perm (L2 ++ R2)) := Lib.hid (by rw [hM2])
                have HS2 : Hid (M2.Pairwise (tlt c tg)) := Lib.hid (by rw [hM2]; exact HN3.out h2)
                have hrw := HRW.out
                rw [← List.append_assoc L2, ← hM2, ← List.append_assoc A] at hrw
                clear HRW
                have HRW := Lib.hid hrw
                clear hrw hM2
                clear h2
                go_upto_region 43 with fail
                go_cut [213] from 206 to 213 (fun v wx => v = .bool false ∧ wx = v1)
                case first =>
                  by_cases hu : mid < en
                  · have u2 : ¬ en < e := by have := HBF.out; omega
                    have u3 : decide (mid < en) = true := decide_eq_true hu
                    have u4 : decide (en < e) = false := decide_eq_false u2
                    have u5 : (mid : Int) < (en : Int) := by omega
                    have u6 : ¬ (en : Int) < (e : Int) := by omega
                    have u7 : decide ((en : Int) < (e : Int)) = false := decide_eq_false u6
                    go_wp2_with fail
                    go_meet
                    exact ⟨rfl, rfl⟩
                  · have u3 : decide (mid < en) = false := decide_eq_false hu
                    have u6 : ¬ (mid : Int) < (en : Int) := by omega
                    have u7 : decide ((mid : Int) < (en : Int)) = false := decide_eq_false u6
                    go_wp2_with fail
                    go_meet
                    exact ⟨rfl, rfl⟩
                case rest =>
                  obtain ⟨rfl, rfl⟩ := hcut
                  clear HBF
                  obtain ⟨y2, rfl⟩ : ∃ y2 : World, y2 = wc := ⟨_, rfl⟩
                  go_wp2_with fail
                  go_end0
                  exact ⟨rfl, M1 ++ M2, (HJ.out M1 M2 HP1.out HP2.out HS1.out HS2.out).1, (HJ.out M1 M2 HP1.out HP2.out HS1.out HS2.out).2, by simpa using HRW.out⟩
            · have HBF : Hid (¬ (a < i ∧ i < mid)) := Lib.hid h1
              obtain ⟨M1, hM1⟩ : ∃ M1, M1 = L1 ++ R1 := ⟨_, rfl⟩
              have HP1 : Hid (M1.Perm (L1 ++ R1)) := Lib.hid (by rw [hM1])
              have HS1 : Hid (M1.Pairwise (tlt c tg)) := Lib.hid (by rw [hM1]; exact HN2.out h1)
              have hrw := HRW.out
              rw [← List.append_assoc L1, ← hM1] at hrw
              clear HRW
              have HRW := Lib.hid hrw
              clear hrw hM1
              clear h1
              go_upto_region 41 with fail
              go_cut [199] from 192 to 199 (fun v wx => v = .bool false ∧ wx = y0)
              case first =>
                by_cases hu : a < i
                · have u2 : ¬ i < mid := by have := HBF.out; omega
                  have u3 : decide (a < i) = true := decide_eq_true hu
                  have u4 : decide (i < mid) = false := decide_eq_false u2
                  have u5 : (a : Int) < (i : Int) := by omega
                  have u6 : ¬ (i : Int) < (mid : Int) := by omega
                  have u7 : decide ((i : Int) < (mid : Int)) = false := decide_eq_false u6
                  go_wp2_with fail
                  go_meet
                  exact ⟨rfl, rfl⟩
                · have u3 : decide (a < i) = false := decide_eq_false hu
                  have u6 : ¬ (a : Int) < (i : Int) := by omega
                  have u7 : decide ((a : Int) < (i : Int)) = false := decide_eq_false u6
                  go_wp2_with fail
                  go_meet
                  exact ⟨rfl, rfl⟩
              case rest =>
                obtain ⟨rfl, rfl⟩ := hcut
                clear HBF
                obtain ⟨y1, rfl⟩ : ∃ y1 : World, y1 = wc := ⟨_, rfl⟩
                by_cases h2 : mid < en ∧ en < e
                · have u1 : (mid : Int) < (en : Int) := by omega
                  have u2 : (en : Int) < (e : Int) := by omega
                  have u3 : decide (mid < en) = true := decide_eq_true (by omega)
                  have u4 : decide (en < e) = true := decide_eq_true (by omega)
                  have HCC := Lib.hid (HC3.out y1 M1 HP1.out HRW.out h2)
                  go_wp2_with fail
                  refine HCC.out.mono ?_
                  rintro e1 v2 ⟨rfl, M2, hp, hs, hr⟩
                  have HP2 := Lib.hid hp
                  have HS2 := Lib.hid hs
                  clear HRW
                  have HRW := Lib.hid hr
                  clear hp hs
                  clear hr HCC u1 u2 u3 u4 h2
                  go_wp2_with fail
                  go_end0
                  exact ⟨rfl, M1 ++ M2, (HJ.out M1 M2 HP1.out HP2.out HS1.out HS2.out).1, (HJ.out M1 M2 HP1.out HP2.out HS1.out HS2.out).2, by simpa using HRW.out⟩
                · have HBF : Hid (¬ (mid < en ∧ en < e)) := Lib.hid h2
                  obtain ⟨M2, hM2⟩ : ∃ M2, M2 = L2 ++ R2 := ⟨_, rfl⟩
                  have HP2 : Hid (M2.Perm (L2 ++ R2)) := Lib.hid (by rw [hM2])
                  have HS2 : Hid (M2.Pairwise (tlt c tg)) := Lib.hid (by rw [hM2]; exact HN3.out h2)
                  have hrw := HRW.out
                  rw [← List.append_assoc L2, ← hM2, ← List.append_assoc A] at hrw
                  clear HRW
                  have HRW := Lib.hid hrw
                  clear hrw hM2
                  clear h2
                  go_upto_region 43 with fail
                  go_cut [213] from 206 to 213 (fun v wx => v = .bool false ∧ wx = y1)
                  case first =>
                    by_cases hu : mid < en
                    · have u2 : ¬ en < e := by have := HBF.out; omega
                      have u3 : decide (mid < en) = true := decide_eq_true hu
                      have u4 : decide (en < e) = false := decide_eq_false u2
                      have u5 : (mid : Int) < (en : Int) := by omega
                      have u6 : ¬ (en : Int) < (e : Int) := by omega
                      have u7 : decide ((en : Int) < (e : Int)) = false := decide_eq_false u6
                      go_wp2_with fail
                      go_meet
                      exact ⟨rfl, rfl⟩
                    · have u3 : decide (mid < en) = false := decide_eq_false hu
                      have u6 : ¬ (mid : Int) < (en : Int) := by omega
                      have u7 : decide ((mid : Int) < (en : Int)) = false := decide_eq_false u6
                      go_wp2_with fail
                      go_meet
                      exact ⟨rfl, rfl⟩
                  case rest =>
                    obtain ⟨rfl, rfl⟩ := hcut
                    clear HBF
                    obtain ⟨y2, rfl⟩ : ∃ y2 : World, y2 = wc := ⟨_, rfl⟩
                    go_wp2_with fail
                    go_end0
                    exact ⟨rfl, M1 ++ M2, (HJ.out M1 M2 HP1.out HP2.out HS1.out HS2.out).1, (HJ.out M1 M2 HP1.out HP2.out HS1.out HS2.out).2, by simpa using HRW.out⟩
  · have HParts := Lib.hid (fun i (hx : i ≤ i) hB => HPartsG.out a m i (.inl ⟨rfl, rfl, by omega⟩) hB)
    have hb' : ¬ ((mid : Int) < (m : Int)) := by omega
    clear HPartsG
    go_enter Tryz.func129, Tryz.ntmps129
    go_wp2_with fail
    clear r0 r1 r2 r3 r4 t0 t1 t2 t3
    go_loopw [20, 21] (fun s t wr => ∃ i j : Nat, s = .int .i64 i ∧ t = .int .i64 j ∧ a ≤ i ∧ i ≤ j ∧ j ≤ m ∧ Hid (Bin (fun h => ¬ LTi c D (p - h) h) a m i j) ∧ Hid (RowW enc w0 wr b n cap D)) (fun s t _ => (intOf t).toNat - (intOf s).toNat)
    case atStart => exact ⟨a, m, rfl, rfl, by omega, by omega, by omega, Lib.hid ⟨Nat.le_refl _, by omega, Nat.le_refl _, .inl rfl, .inl rfl⟩, HRow0⟩
    case round =>
      obtain ⟨i, j, rfl, rfl, hmi, hij, hje, HB, HRow⟩ := hrel
      by_cases hlt : i < j
      · obtain ⟨h, hh⟩ : ∃ h : Nat, (i + j) / 2 = h := ⟨_, rfl⟩
        have e1 : ((i : Int) + (j : Int)) / 2 = (h : Int) := by omega
        obtain ⟨q, hq⟩ : ∃ q : Nat, p - h = q := ⟨_, rfl⟩
        have e2 : (p : Int) - (h : Int) = (q : Int) := by omega
        obtain ⟨x, hx, hSx⟩ := HGet.out q (by omega) (by omega)
        obtain ⟨y, hy, hSy⟩ := HGet.out h (by omega) (by omega)
        have hcx := HRow.out.cellsGet hx
        have hcy := HRow.out.cellsGet hy
        have HR1 := Lib.hid (fun hz : ¬ c x y < 0 => HB.out.right (h := h) (by omega) (by omega) (fun hw => hz ((LTi_iff hx hy).1 (by rw [← hq]; exact hw))))
        have HR2 := Lib.hid (fun hz : c x y < 0 => HB.out.left (h := h) (by omega) (by omega) (fun hw => hw (by rw [hq]; exact (LTi_iff hx hy).2 hz)))
        clear hx hy
        have hbl : b < wr.heap.size := HRow.out.lt
        have HC := Lib.hid (HCall.out wr.drew x y (HRow.out.touch.drewN 1) hSx hSy)
        have hsx := HSh.out x hSx
        have hsy := HSh.out y hSy
        obtain ⟨z, hz⟩ : ∃ z, c x y = z := ⟨_, rfl⟩
        have HZ := Lib.hid hz
        rw [hz] at HC
        clear hz
        obtain ⟨p1, m1, c1, ex⟩ := hsx
        obtain ⟨p2, m2, c2, ey⟩ := hsy
        obtain ⟨X9, eX⟩ : ∃ X9, enc x = X9 := ⟨_, rfl⟩
        obtain ⟨Y9, eY⟩ : ∃ Y9, enc y = Y9 := ⟨_, rfl⟩
        rw [eX] at hcx ex HC
        rw [eY] at hcy ey HC
        clear eX eY
        obtain ⟨⟨k1, i1, g1, n1, fn1, a1, by1, s1⟩, v1⟩ := X9
        obtain ⟨⟨k2, i2, g2, n2, fn2, a2, by2, s2⟩, v2⟩ := Y9
        dsimp only at hcx hcy HC ex ey
        subst ex
        subst ey
        have HA1 := Lib.hid hcx
        have HB1 := Lib.hid hcy
        unfold aggV IPostC at HC
        dsimp only at HC
        obtain ⟨x0, x1, x2, x3, x4, x5, x6, x7, x8⟩ := hcx
        obtain ⟨y0, y1, y2, y3, y4, y5, y6, y7, y8⟩ := hcy
        dsimp only at x0 x1 x2 x3 x4 x5 x6 x7 x8 y0 y1 y2 y3 y4 y5 y6 y7 y8
        rw [HZ.out] at HR1 HR2
        have r1 : (h : Int) < (n : Int) := by omega
        have r2 : (0 : Int) ≤ (h : Int) := by omega
        have r3 : (q : Int) < (n : Int) := by omega
        have r4 : (0 : Int) ≤ (q : Int) := by omega
        have r5 : IntKind.i64.wrap (q : Int) = (q : Int) := IntWalk.i64_in _ (by omega)
        have b1 : i ≤ h := by omega
        have b2 : h < j := by omega
        clear hh hq HParts HSym HRot
        by_cases hlz : z < 0
        · have q1 : decide (z < 0) = true := decide_eq_true hlz
          have HB' := Lib.hid (HR2.out hlz)
          clear HR1 HR2 HB
          go_wp2_with fail
          go_region_held3 (fun w' => (w'.cell? ⟨b, q * 9, none⟩ = some (.int .i64 k1) ∧ w'.cell? ⟨b, q * 9 + 1, none⟩ = some (.int .i64 i1) ∧ w'.cell? ⟨b, q * 9 + 1 + 1, none⟩ = some (.int .i64 g1) ∧ w'.cell? ⟨b, q * 9 + 1 + 1 + 1, none⟩ = some (.string n1) ∧ w'.cell? ⟨b, q * 9 + 1 + 1 + 1 + 1, none⟩ = some (.string fn1) ∧ w'.cell? ⟨b, q * 9 + 1 + 1 + 1 + 1 + 1, none⟩ = some (.int .i64 a1) ∧ w'.cell? ⟨b, q * 9 + 1 + 1 + 1 + 1 + 1 + 1, none⟩ = some (.slice p1 m1 c1) ∧ w'.cell? ⟨b, q * 9 + 1 + 1 + 1 + 1 + 1 + 1 + 1, none⟩ = some (.string by1) ∧ w'.cell? ⟨b, q * 9 + 1 + 1 + 1 + 1 + 1 + 1 + 1 + 1, none⟩ = some (.int .i64 s1)) ∧ w'.cell? ⟨b, h * 9, none⟩ = some (.int .i64 k2) ∧ w'.cell? ⟨b, h * 9 + 1, none⟩ = some (.int .i64 i2) ∧ w'.cell? ⟨b, h * 9 + 1 + 1, none⟩ = some (.int .i64 g2) ∧ w'.cell? ⟨b, h * 9 + 1 + 1 + 1, none⟩ = some (.string n2) ∧ w'.cell? ⟨b, h * 9 + 1 + 1 + 1 + 1, none⟩ = some (.string fn2) ∧ w'.cell? ⟨b, h * 9 + 1 + 1 + 1 + 1 + 1, none⟩ = some (.int .i64 a2) ∧ w'.cell? ⟨b, h * 9 + 1 + 1 + 1 + 1 + 1 + 1, none⟩ = some (.slice p2 m2 c2) ∧ w'.cell? ⟨b, h * 9 + 1 + 1 + 1 + 1 + 1 + 1 + 1, none⟩ = some (.string by2) ∧ w'.cell? ⟨b, h * 9 + 1 + 1 + 1 + 1 + 1 + 1 + 1 + 1, none⟩ = some (.int .i64 s2)) (go_keep)
            (first
              | (go_at_call 96; (with_reducible refine HC.out.mono ?_); rintro e5 w5 ⟨rfl, hb5⟩; have HA5 := Lib.hid (HA1.out.same (hb5.block b hbl)); have HB5 := Lib.hid (HB1.out.same (hb5.block b hbl)); obtain ⟨z0, z1, z2, z3, z4, z5, z6, z7, z8⟩ := HA5.out; obtain ⟨t0, t1, t2, t3, t4, t5, t6, t7, t8⟩ := HB5.out; dsimp only at z0 z1 z2 z3 z4 z5 z6 z7 z8 t0 t1 t2 t3 t4 t5 t6 t7 t8))
          have HR5 := Lib.hid ((HRow.out.drewN 1).below hb5 HRow.out.touch.size)
          clear hb5 HC HA1 HB1 HA5 HB5 HRow x0 x1 x2 x3 x4 x5 x6 x7 x8 y0 y1 y2 y3 y4 y5 y6 y7 y8 hbl
          go_wp2_with fail
          go_roundw
          case rel => exact ⟨i, h, rfl, rfl, hmi, by omega, by omega, HB', HR5⟩
          case measure => simp [intOf]; omega
        · have q1 : decide (z < 0) = false := decide_eq_false hlz
          have HB' := Lib.hid (HR1.out hlz)
          clear HR1 HR2 HB
          go_wp2_with fail
          go_region_held3 (fun w' => (w'.cell? ⟨b, q * 9, none⟩ = some (.int .i64 k1) ∧ w'.cell? ⟨b, q * 9 + 1, none⟩ = some (.int .i64 i1) ∧ w'.cell? ⟨b, q * 9 + 1 + 1, none⟩ = some (.int .i64 g1) ∧ w'.cell? ⟨b, q * 9 + 1 + 1 + 1, none⟩ = some (.string n1) ∧ w'.cell? ⟨b, q * 9 + 1 + 1 + 1 + 1, none⟩ = some (.string fn1) ∧ w'.cell? ⟨b, q * 9 + 1 + 1 + 1 + 1 + 1, none⟩ = some (.int .i64 a1) ∧ w'.cell? ⟨b, q * 9 + 1 + 1 + 1 + 1 + 1 + 1, none⟩ = some (.slice p1 m1 c1) ∧ w'.cell? ⟨b, q * 9 + 1 + 1 + 1 + 1 + 1 + 1 + 1, none⟩ = some (.string by1) ∧ w'.cell? ⟨b, q * 9 + 1 + 1 + 1 + 1 + 1 + 1 + 1 + 1, none⟩ = some (.int .i64 s1)) ∧ w'.cell? ⟨b, h * 9, none⟩ = some (.int .i64 k2) ∧ w'.cell? ⟨b, h * 9 + 1, none⟩ = some (.int .i64 i2) ∧ w'.cell? ⟨b, h * 9 + 1 + 1, none⟩ = some (.int .i64 g2) ∧ w'.cell? ⟨b, h * 9 + 1 + 1 + 1, none⟩ = some (.string n2) ∧ w'.cell? ⟨b, h * 9 + 1 + 1 + 1 + 1, none⟩ = some (.string fn2) ∧ w'.cell? ⟨b, h * 9 + 1 + 1 + 1 + 1 + 1, none⟩ = some (.int .i64 a2) ∧ w'.cell? ⟨b, h * 9 + 1 + 1 + 1 + 1 + 1 + 1, none⟩ = some (.slice p2 m2 c2) ∧ w'.cell? ⟨b, h * 9 + 1 + 1 + 1 + 1 + 1 + 1 + 1, none⟩ = some (.string by2) ∧ w'.cell? ⟨b, h * 9 + 1 + 1 + 1 + 1 + 1 + 1 + 1 + 1, none⟩ = some (.int .i64 s2)) (go_keep)
            (first
              | (go_at_call 96; (with_reducible refine HC.out.mono ?_); rintro e5 w5 ⟨rfl, hb5⟩; have HA5 := Lib.hid (HA1.out.same (hb5.block b hbl)); have HB5 := Lib.hid (HB1.out.same (hb5.block b hbl)); obtain ⟨z0, z1, z2, z3, z4, z5, z6, z7, z8⟩ := HA5.out; obtain ⟨t0, t1, t2, t3, t4, t5, t6, t7, t8⟩ := HB5.out; dsimp only at z0 z1 z2 z3 z4 z5 z6 z7 z8 t0 t1 t2 t3 t4 t5 t6 t7 t8))
          have HR5 := Lib.hid ((HRow.out.drewN 1).below hb5 HRow.out.touch.size)
          clear hb5 HC HA1 HB1 HA5 HB5 HRow x0 x1 x2 x3 x4 x5 x6 x7 x8 y0 y1 y2 y3 y4 y5 y6 y7 y8 hbl
          go_wp2_with fail
          go_roundw
          case rel => exact ⟨h + 1, j, by go_num, rfl, by omega, by omega, hje, HB', HR5⟩
          case measure => simp [intOf]; omega
      · obtain rfl : i = j := by omega
        obtain ⟨L1, L2, R1, R2, hL, hR, hl1, hl2, hJ⟩ := HParts.out i (by omega) HB.out
        have hrow := HRow.out
        rw [HD.out, hL, hR] at hrow
        have hm' := HM.out
        have he' := HE.out
        have ha' := HA.out
        rw [hL] at hm'
        rw [hR] at he'
        rw [List.length_append] at hm' he'
        have sL1 : ∀ z ∈ L1, z ∈ L := fun z hz => by rw [hL]; simp [hz]
        have sL2 : ∀ z ∈ L2, z ∈ L := fun z hz => by rw [hL]; simp [hz]
        have sR1 : ∀ z ∈ R1, z ∈ R := fun z hz => by rw [hR]; simp [hz]
        have sR2 : ∀ z ∈ R2, z ∈ R := fun z hz => by rw [hR]; simp [hz]
        have hLs := HL.out
        have hRs := HRR.out
        rw [hL] at hLs
        rw [hR] at hRs
        have hLs := List.pairwise_append.1 hLs
        have hRs := List.pairwise_append.1 hRs
        obtain ⟨en, hen⟩ : ∃ en : Nat, en = m + R1.length := ⟨_, rfl⟩
        have r1 : (nn : Int) - (i : Int) = (en : Int) := by omega
        have c1 : i ≤ m := by omega
        have c2 : m ≤ en := by omega
        have c3 : a ≤ i := by omega
        have c4 : i ≤ mid := by omega
        have c5 : mid ≤ en := by omega
        have c6 : en ≤ e := by omega
        have HJ := Lib.hid hJ
        have HC1 : Hid (i < m ∧ m < en → Calls Tryz.prog 152 #[.slice (some ⟨b, 0, none⟩) n cap, .int .i64 i, .int .i64 m, .int .i64 en, .func (.func 96) #[] #[]] wr (UnitRow enc w0 b n cap (A ++ (L1 ++ (R1 ++ (L2 ++ (R2 ++ C))))))) := Lib.hid (fun hc => by
          have := HRot.out wr (A ++ L1) L2 R1 (R2 ++ C) (fun z hz => by rcases List.mem_append.1 hz with hz | hz; exact .inl (sL2 z hz); exact .inr (sR1 z hz)) (by simpa using hrow) i m en (by simp; omega) (by omega) (by omega) hc.1 hc.2
          simpa using this)
        have HN1 : Hid (¬ (i < m ∧ m < en) → RowW enc w0 wr b n cap (A ++ (L1 ++ (R1 ++ (L2 ++ (R2 ++ C)))))) := Lib.hid (fun hc => by
          have : L2 = [] ∨ R1 = [] := by
            by_cases hq : i < m
            · exact .inr (List.eq_nil_of_length_eq_zero (by omega))
            · exact .inl (List.eq_nil_of_length_eq_zero (by omega))
          rcases this with rfl | rfl
          · simpa using hrow
          · simpa using hrow)
        have HC2 : Hid (∀ W, RowW enc w0 W b n cap (A ++ (L1 ++ (R1 ++ (L2 ++ (R2 ++ C))))) → a < i ∧ i < mid → Calls Tryz.prog 129 #[.slice (some ⟨b, 0, none⟩) n cap, .int .i64 a, .int .i64 i, .int .i64 mid, .func (.func 96) #[] #[]] W (MergePost c tg enc w0 b n cap A (L1 ++ R1) (L2 ++ (R2 ++ C)))) := Lib.hid (fun W hw hc => HSym.out W A L1 R1 (L2 ++ (R2 ++ C)) (fun z hz => sL1 z hz) (fun z hz => sR1 z hz) hLs.1 hRs.1 hw a i mid (by omega) (by omega) (by omega) hc.1 hc.2 (by omega))
        have HN2 : Hid (¬ (a < i ∧ i < mid) → (L1 ++ R1).Pairwise (tlt c tg)) := Lib.hid (fun hc => by
          have : L1 = [] ∨ R1 = [] := by
            by_cases hq : a < i
            · exact .inr (List.eq_nil_of_length_eq_zero (by omega))
            · exact .inl (List.eq_nil_of_length_eq_zero (by omega))
          rcases this with rfl | rfl
          · simpa using hRs.1
          · simpa using hLs.1)
        have HC3 : Hid (∀ W (M1 : List α), M1.Perm (L1 ++ R1) → RowW enc w0 W b n cap (A ++ (M1 ++ (L2 ++ (R2 ++ C)))) → mid < en ∧ en < e → Calls Tryz.prog 129 #[.slice (some ⟨b, 0, none⟩) n cap, .int .i64 mid, .int .i64 en, .int .i64 e, .func (.func 96) #[] #[]] W (MergePost c tg enc w0 b n cap (A ++ M1) (L2 ++ R2) C)) := Lib.hid (fun W M1 hp hw hc => HSym.out W (A ++ M1) L2 R2 C (fun z hz => sL2 z hz) (fun z hz => sR2 z hz) hLs.2.1 hRs.2.1 (by simpa using hw) mid en e (by have := hp.length_eq; simp at this ⊢; omega) (by omega) (by omega) hc.1 hc.2 (by omega))
        have HN3 : Hid (¬ (mid < en ∧ en < e) → (L2 ++ R2).Pairwise (tlt c tg)) := Lib.hid (fun hc => by
          have : L2 = [] ∨ R2 = [] := by
            by_cases hq : mid < en
            · exact .inr (List.eq_nil_of_length_eq_zero (by omega))
            · exact .inl (List.eq_nil_of_length_eq_zero (by omega))
          rcases this with rfl | rfl
          · simpa using hRs.2.1
          · simpa using hLs.2.1)
        clear hL hR hl1 hl2 hJ hrow hm' he' ha' sL1 sL2 sR1 sR2 hLs hRs hen HParts HSym HRot HB HRow HGet HD HRow0 HCall HSh
        by_cases h0 : i < m ∧ m < en
        · have u1 : (i : Int) < (m : Int) := by omega
          have u2 : (m : Int) < (en : Int) := by omega
          have u3 : decide (i < m) = true := decide_eq_true (by omega)
          have u4 : decide (m < en) = true := decide_eq_true (by omega)
          have HCC := Lib.hid (HC1.out h0)
          go_wp2_with fail
          refine HCC.out.mono ?_
          rintro e1 v0 ⟨rfl, hr⟩
          have HRW := Lib.hid hr
          clear hr HCC u1 u2 u3 u4 h0
          by_cases h1 : a < i ∧ i < mid
          · have u1 : (a : Int) < (i : Int) := by omega
            have u2 : (i : Int) < (mid : Int) := by omega
            have u3 : decide (a < i) = true := decide_eq_true (by omega)
            have u4 : decide (i < mid) = true := decide_eq_true (by omega)
            have HCC := Lib.hid (HC2.out v0 HRW.out h1)
            go_wp2_with fail
            refine HCC.out.mono ?_
            rintro e1 v1 ⟨rfl, M1, hp, hs, hr⟩
            have HP1 := Lib.hid hp
            have HS1 := Lib.hid hs
            clear HRW
            have HRW := Lib.hid hr
            clear hp hs
            clear hr HCC u1 u2 u3 u4 h1
            by_cases h2 : mid < en ∧ en < e
            · have u1 : (mid : Int) < (en : Int) := by omega
              have u2 : (en : Int) < (e : Int) := by omega
              have u3 : decide (mid < en) = true := decide_eq_true (by omega)
              have u4 : decide (en < e) = true := decide_eq_true (by omega)
              have HCC := Lib.hid (HC3.out v1 M1 HP1.out HRW.out h2)
              go_wp2_with fail
              refine HCC.out.mono ?_
              rintro e1 v2 ⟨rfl, M2, hp, hs, hr⟩
              have HP2 := Lib.hid hp
              have HS2 := Lib.hid hs
              clear HRW
              have HRW := Lib.hid hr
              clear hp hs
              clear hr HCC u1 u2 u3 u4 h2
              go_wp2_with fail
              go_end0
              exact ⟨rfl, M1 ++ M2, (HJ.out M1 M2 HP1.out HP2.out HS1.out HS2.out).1, (HJ.out M1 M2 HP1.out HP2.out HS1.out HS2.out).2, by simpa using HRW.out⟩
            · have HBF : Hid (¬ (mid < en ∧ en < e)) := Lib.hid h2
              obtain ⟨M2, hM2⟩ : ∃ M2, M2 = L2 ++ R2 := ⟨_, rfl⟩
              have HP2 : Hid (M2.Perm (L2 ++ R2)) := Lib.hid (by rw [hM2])
              have HS2 : Hid (M2.Pairwise (tlt c tg)) := Lib.hid (by rw [hM2]; exact HN3.out h2)
              have hrw := HRW.out
              rw [← List.append_assoc L2, ← hM2, ← List.append_assoc A] at hrw
              clear HRW
              have HRW := Lib.hid hrw
              clear hrw hM2
              clear h2
              go_upto_region 43 with fail
              go_cut [213] from 206 to 213 (fun v wx => v = .bool false ∧ wx = v1)
              case first =>
                by_cases hu : mid < en
                · have u2 : ¬ en < e := by have := HBF.out; omega
                  have u3 : decide (mid < en) = true := decide_eq_true hu
                  have u4 : decide (en < e) = false := decide_eq_false u2
                  have u5 : (mid : Int) < (en : Int) := by omega
                  have u6 : ¬ (en : Int) < (e : Int) := by omega
                  have u7 : decide ((en : Int) < (e : Int)) = false := decide_eq_false u6
                  go_wp2_with fail
                  go_meet
                  exact ⟨rfl, rfl⟩
                · have u3 : decide (mid < en) = false := decide_eq_false hu
                  have u6 : ¬ (mid : Int) < (en : Int) := by omega
                  have u7 : decide ((mid : Int) < (en : Int)) = false := decide_eq_false u6
                  go_wp2_with fail
                  go_meet
                  exact ⟨rfl, rfl⟩
              case rest =>
                obtain ⟨rfl, rfl⟩ := hcut
                clear HBF
                obtain ⟨y2, rfl⟩ : ∃ y2 : World, y2 = wc := ⟨_, rfl⟩
                go_wp2_with fail
                go_end0
                exact ⟨rfl, M1 ++ M2, (HJ.out M1 M2 HP1.out HP2.out HS1.out HS2.out).1, (HJ.out M1 M2 HP1.out HP2.out HS1.out HS2.out).2, by simpa using HRW.out⟩
          · have HBF : Hid (¬ (a < i ∧ i < mid)) := Lib.hid h1
            obtain ⟨M1, hM1⟩ : ∃ M1, M1 = L1 ++ R1 := ⟨_, rfl⟩
            have HP1 : Hid (M1.Perm (L1 ++ R1)) := Lib.hid (by rw [hM1])
            have HS1 : Hid (M1.Pairwise (tlt c tg)) := Lib.hid (by rw [hM1]; exact HN2.out h1)
            have hrw := HRW.out
            rw [← List.append_assoc L1, ← hM1] at hrw
            clear HRW
            have HRW := Lib.hid hrw
            clear hrw hM1
            clear h1
            go_upto_region 41 with fail
            go_cut [199] from 192 to 199 (fun v wx => v = .bool false ∧ wx = v0)
            case first =>
              by_cases hu : a < i
              · have u2 : ¬ i < mid := by have := HBF.out; omega
                have u3 : decide (a < i) = true := decide_eq_true hu
                have u4 : decide (i < mid) = false := decide_eq_false u2
                have u5 : (a : Int) < (i : Int) := by omega
                have u6 : ¬ (i : Int) < (mid : Int) := by omega
                have u7 : decide ((i : Int) < (mid : Int)) = false := decide_eq_false u6
                go_wp2_with fail
                go_meet
                exact ⟨rfl, rfl⟩
              · have u3 : decide (a < i) = false := decide_eq_false hu
                have u6 : ¬ (a : Int) < (i : Int) := by omega
                have u7 : decide ((a : Int) < (i : Int)) = false := decide_eq_false u6
                go_wp2_with fail
                go_meet
                exact ⟨rfl, rfl⟩
            case rest =>
              obtain ⟨rfl, rfl⟩ := hcut
              clear HBF
              obtain ⟨y1, rfl⟩ : ∃ y1 : World, y1 = wc := ⟨_, rfl⟩
              by_cases h2 : mid < en ∧ en < e
              · have u1 : (mid : Int) < (en : Int) := by omega
                have u2 : (en : Int) < (e : Int) := by omega
                have u3 : decide (mid < en) = true := decide_eq_true (by omega)
                have u4 : decide (en < e) = true := decide_eq_true (by omega)
                have HCC := Lib.hid (HC3.out y1 M1 HP1.out HRW.out h2)
                go_wp2_with fail
                refine HCC.out.mono ?_
                rintro e1 v2 ⟨rfl, M2, hp, hs, hr⟩
                have HP2 := Lib.hid hp
                have HS2 := Lib.hid hs
                clear HRW
                have HRW := Lib.hid hr
                clear hp hs
                clear hr HCC u1 u2 u3 u4 h2
                go_wp2_with fail
                go_end0
                exact ⟨rfl, M1 ++ M2, (HJ.out M1 M2 HP1.out HP2.out HS1.out HS2.out).1, (HJ.out M1 M2 HP1.out HP2.out HS1.out HS2.out).2, by simpa using HRW.out⟩
              · have HBF : Hid (¬ (mid < en ∧ en < e)) := Lib.hid h2
                obtain ⟨M2, hM2⟩ : ∃ M2, M2 = L2 ++ R2 := ⟨_, rfl⟩
                have HP2 : Hid (M2.Perm (L2 ++ R2)) := Lib.hid (by rw [hM2])
                have HS2 : Hid (M2.Pairwise (tlt c tg)) := Lib.hid (by rw [hM2]; exact HN3.out h2)
                have hrw := HRW.out
                rw [← List.append_assoc L2, ← hM2, ← List.append_assoc A] at hrw
                clear HRW
                have HRW := Lib.hid hrw
                clear hrw hM2
                clear h2
                go_upto_region 43 with fail
                go_cut [213] from 206 to 213 (fun v wx => v = .bool false ∧ wx = y1)
                case first =>
                  by_cases hu : mid < en
                  · have u2 : ¬ en < e := by have := HBF.out; omega
                    have u3 : decide (mid < en) = true := decide_eq_true hu
                    have u4 : decide (en < e) = false := decide_eq_false u2
                    have u5 : (mid : Int) < (en : Int) := by omega
                    have u6 : ¬ (en : Int) < (e : Int) := by omega
                    have u7 : decide ((en : Int) < (e : Int)) = false := decide_eq_false u6
                    go_wp2_with fail
                    go_meet
                    exact ⟨rfl, rfl⟩
                  · have u3 : decide (mid < en) = false := decide_eq_false hu
                    have u6 : ¬ (mid : Int) < (en : Int) := by omega
                    have u7 : decide ((mid : Int) < (en : Int)) = false := decide_eq_false u6
                    go_wp2_with fail
                    go_meet
                    exact ⟨rfl, rfl⟩
                case rest =>
                  obtain ⟨rfl, rfl⟩ := hcut
                  clear HBF
                  obtain ⟨y2, rfl⟩ : ∃ y2 : World, y2 = wc := ⟨_, rfl⟩
                  go_wp2_with fail
                  go_end0
                  exact ⟨rfl, M1 ++ M2, (HJ.out M1 M2 HP1.out HP2.out HS1.out HS2.out).1, (HJ.out M1 M2 HP1.out HP2.out HS1.out HS2.out).2, by simpa using HRW.out⟩
        · have HBF : Hid (¬ (i < m ∧ m < en)) := Lib.hid h0
          have HRW := Lib.hid (HN1.out h0)
          clear h0
          go_upto_region 39 with fail
          go_cut [185] from 178 to 185 (fun v wx => v = .bool false ∧ wx = wr)
          case first =>
            by_cases hu : i < m
            · have u2 : ¬ m < en := by have := HBF.out; omega
              have u3 : decide (i < m) = true := decide_eq_true hu
              have u4 : decide (m < en) = false := decide_eq_false u2
              have u5 : (i : Int) < (m : Int) := by omega
              have u6 : ¬ (m : Int) < (en : Int) := by omega
              have u7 : decide ((m : Int) < (en : Int)) = false := decide_eq_false u6
              go_wp2_with fail
              go_meet
              exact ⟨rfl, rfl⟩
            · have u3 : decide (i < m) = false := decide_eq_false hu
              have u6 : ¬ (i : Int) < (m : Int) := by omega
              have u7 : decide ((i : Int) < (m : Int)) = false := decide_eq_false u6
              go_wp2_with fail
              go_meet
              exact ⟨rfl, rfl⟩
          case rest =>
            obtain ⟨rfl, rfl⟩ := hcut
            clear HBF
            obtain ⟨y0, rfl⟩ : ∃ y0 : World, y0 = wc := ⟨_, rfl⟩
            by_cases h1 : a < i ∧ i < mid
            · have u1 : (a : Int) < (i : Int) := by omega
              have u2 : (i : Int) < (mid : Int) := by omega
              have u3 : decide (a < i) = true := decide_eq_true (by omega)
              have u4 : decide (i < mid) = true := decide_eq_true (by omega)
              have HCC := Lib.hid (HC2.out y0 HRW.out h1)
              go_wp2_with fail
              refine HCC.out.mono ?_
              rintro e1 v1 ⟨rfl, M1, hp, hs, hr⟩
              have HP1 := Lib.hid hp
              have HS1 := Lib.hid hs
              clear HRW
              have HRW := Lib.hid hr
              clear hp hs
              clear hr HCC u1 u2 u3 u4 h1
              by_cases h2 : mid < en ∧ en < e
              · have u1 : (mid : Int) < (en : Int) := by omega
                have u2 : (en : Int) < (e : Int) := by omega
                have u3 : decide (mid < en) = true := decide_eq_true (by omega)
                have u4 : decide (en < e) = true := decide_eq_true (by omega)
                have HCC := Lib.hid (HC3.out v1 M1 HP1.out HRW.out h2)
                go_wp2_with fail
                refine HCC.out.mono ?_
                rintro e1 v2 ⟨rfl, M2, hp, hs, hr⟩
                have HP2 := Lib.hid hp
                have HS2 := Lib.hid hs
                clear HRW
                have HRW := Lib.hid hr
                clear hp hs
                clear hr HCC u1 u2 u3 u4 h2
                go_wp2_with fail
                go_end0
                exact ⟨rfl, M1 ++ M2, (HJ.out M1 M2 HP1.out HP2.out HS1.out HS2.out).1, (HJ.out M1 M2 HP1.out HP2.out HS1.out HS2.out).2, by simpa using HRW.out⟩
              · have HBF : Hid (¬ (mid < en ∧ en < e)) := Lib.hid h2
                obtain ⟨M2, hM2⟩ : ∃ M2, M2 = L2 ++ R2 := ⟨_, rfl⟩
                have HP2 : Hid (M2.Perm (L2 ++ R2)) := Lib.hid (by rw [hM2])
                have HS2 : Hid (M2.Pairwise (tlt c tg)) := Lib.hid (by rw [hM2]; exact HN3.out h2)
                have hrw := HRW.out
                rw [← List.append_assoc L2, ← hM2, ← List.append_assoc A] at hrw
                clear HRW
                have HRW := Lib.hid hrw
                clear hrw hM2
                clear h2
                go_upto_region 43 with fail
                go_cut [213] from 206 to 213 (fun v wx => v = .bool false ∧ wx = v1)
                case first =>
                  by_cases hu : mid < en
                  · have u2 : ¬ en < e := by have := HBF.out; omega
                    have u3 : decide (mid < en) = true := decide_eq_true hu
                    have u4 : decide (en < e) = false := decide_eq_false u2
                    have u5 : (mid : Int) < (en : Int) := by omega
                    have u6 : ¬ (en : Int) < (e : Int) := by omega
                    have u7 : decide ((en : Int) < (e : Int)) = false := decide_eq_false u6
                    go_wp2_with fail
                    go_meet
                    exact ⟨rfl, rfl⟩
                  · have u3 : decide (mid < en) = false := decide_eq_false hu
                    have u6 : ¬ (mid : Int) < (en : Int) := by omega
                    have u7 : decide ((mid : Int) < (en : Int)) = false := decide_eq_false u6
                    go_wp2_with fail
                    go_meet
                    exact ⟨rfl, rfl⟩
                case rest =>
                  obtain ⟨rfl, rfl⟩ := hcut
                  clear HBF
                  obtain ⟨y2, rfl⟩ : ∃ y2 : World, y2 = wc := ⟨_, rfl⟩
                  go_wp2_with fail
                  go_end0
                  exact ⟨rfl, M1 ++ M2, (HJ.out M1 M2 HP1.out HP2.out HS1.out HS2.out).1, (HJ.out M1 M2 HP1.out HP2.out HS1.out HS2.out).2, by simpa using HRW.out⟩
            · have HBF : Hid (¬ (a < i ∧ i < mid)) := Lib.hid h1
              obtain ⟨M1, hM1⟩ : ∃ M1, M1 = L1 ++ R1 := ⟨_, rfl⟩
              have HP1 : Hid (M1.Perm (L1 ++ R1)) := Lib.hid (by rw [hM1])
              have HS1 : Hid (M1.Pairwise (tlt c tg)) := Lib.hid (by rw [hM1]; exact HN2.out h1)
              have hrw := HRW.out
              rw [← List.append_assoc L1, ← hM1] at hrw
              clear HRW
              have HRW := Lib.hid hrw
              clear hrw hM1
              clear h1
              go_upto_region 41 with fail
              go_cut [199] from 192 to 199 (fun v wx => v = .bool false ∧ wx = y0)
              case first =>
                by_cases hu : a < i
                · have u2 : ¬ i < mid := by have := HBF.out; omega
                  have u3 : decide (a < i) = true := decide_eq_true hu
                  have u4 : decide (i < mid) = false := decide_eq_false u2
                  have u5 : (a : Int) < (i : Int) := by omega
                  have u6 : ¬ (i : Int) < (mid : Int) := by omega
                  have u7 : decide ((i : Int) < (mid : Int)) = false := decide_eq_false u6
                  go_wp2_with fail
                  go_meet
                  exact ⟨rfl, rfl⟩
                · have u3 : decide (a < i) = false := decide_eq_false hu
                  have u6 : ¬ (a : Int) < (i : Int) := by omega
                  have u7 : decide ((a : Int) < (i : Int)) = false := decide_eq_false u6
                  go_wp2_with fail
                  go_meet
                  exact ⟨rfl, rfl⟩
              case rest =>
                obtain ⟨rfl, rfl⟩ := hcut
                clear HBF
                obtain ⟨y1, rfl⟩ : ∃ y1 : World, y1 = wc := ⟨_, rfl⟩
                by_cases h2 : mid < en ∧ en < e
                · have u1 : (mid : Int) < (en : Int) := by omega
                  have u2 : (en : Int) < (e : Int) := by omega
                  have u3 : decide (mid < en) = true := decide_eq_true (by omega)
                  have u4 : decide (en < e) = true := decide_eq_true (by omega)
                  have HCC := Lib.hid (HC3.out y1 M1 HP1.out HRW.out h2)
                  go_wp2_with fail
                  refine HCC.out.mono ?_
                  rintro e1 v2 ⟨rfl, M2, hp, hs, hr⟩
                  have HP2 := Lib.hid hp
                  have HS2 := Lib.hid hs
                  clear HRW
                  have HRW := Lib.hid hr
                  clear hp hs
                  clear hr HCC u1 u2 u3 u4 h2
                  go_wp2_with fail
                  go_end0
                  exact ⟨rfl, M1 ++ M2, (HJ.out M1 M2 HP1.out HP2.out HS1.out HS2.out).1, (HJ.out M1 M2 HP1.out HP2.out HS1.out HS2.out).2, by simpa using HRW.out⟩
                · have HBF : Hid (¬ (mid < en ∧ en < e)) := Lib.hid h2
                  obtain ⟨M2, hM2⟩ : ∃ M2, M2 = L2 ++ R2 := ⟨_, rfl⟩
                  have HP2 : Hid (M2.Perm (L2 ++ R2)) := Lib.hid (by rw [hM2])
                  have HS2 : Hid (M2.Pairwise (tlt c tg)) := Lib.hid (by rw [hM2]; exact HN3.out h2)
                  have hrw := HRW.out
                  rw [← List.append_assoc L2, ← hM2, ← List.append_assoc A] at hrw
                  clear HRW
                  have HRW := Lib.hid hrw
                  clear hrw hM2
                  clear h2
                  go_upto_region 43 with fail
                  go_cut [213] from 206 to 213 (fun v wx => v = .bool false ∧ wx = y1)
                  case first =>
                    by_cases hu : mid < en
                    · have u2 : ¬ en < e := by have := HBF.out; omega
                      have u3 : decide (mid < en) = true := decide_eq_true hu
                      have u4 : decide (en < e) = false := decide_eq_false u2
                      have u5 : (mid : Int) < (en : Int) := by omega
                      have u6 : ¬ (en : Int) < (e : Int) := by omega
                      have u7 : decide ((en : Int) < (e : Int)) = false := decide_eq_false u6
                      go_wp2_with fail
                      go_meet
                      exact ⟨rfl, rfl⟩
                    · have u3 : decide (mid < en) = false := decide_eq_false hu
                      have u6 : ¬ (mid : Int) < (en : Int) := by omega
                      have u7 : decide ((mid : Int) < (en : Int)) = false := decide_eq_false u6
                      go_wp2_with fail
                      go_meet
                      exact ⟨rfl, rfl⟩
                  case rest =>
                    obtain ⟨rfl, rfl⟩ := hcut
                    clear HBF
                    obtain ⟨y2, rfl⟩ : ∃ y2 : World, y2 = wc := ⟨_, rfl⟩
                    go_wp2_with fail
                    go_end0
                    exact ⟨rfl, M1 ++ M2, (HJ.out M1 M2 HP1.out HP2.out HS1.out HS2.out).1, (HJ.out M1 M2 HP1.out HP2.out HS1.out HS2.out).2, by simpa using HRW.out⟩
theorem symAll (hC : CmpW enc w0 b 96 S c) (htp : TP S c) (hn : n ≤ 1000000) : ∀ (N : Nat) (w : World) (A L R C : List α) (hS : ∀ z ∈ L ++ R, S z) (hL : L.Pairwise (tlt c tg)) (hR : R.Pairwise (tlt c tg)) (ht : ∀ z ∈ L, ∀ y ∈ R, tg z < tg y) (h : RowW enc w0 w b n cap (A ++ (L ++ (R ++ C)))) (a m e : Nat) (ha : A.length = a) (hm : a + L.length = m) (he : m + R.length = e) (hl : a < m) (hr : m < e) (hN : e < a + N),
      Calls Tryz.prog 129 #[.slice (some ⟨b, 0, none⟩) n cap, .int .i64 a, .int .i64 m, .int .i64 e, .func (.func 96) #[] #[]] w (MergePost c tg enc w0 b n cap A (L ++ R) C)
  | 0, _, _, _, _, _, _, _, _, _, _, a, m, e, _, _, _, _, _, hN => by omega
  | N + 1, w, A, L, R, C, hS, hL, hR, ht, h, a, m, e, ha, hm, he, hl, hr, hN => by
    by_cases h1 : a + 1 = m
    · have hl1 : L.length = 1 := by omega
      obtain ⟨y, rfl⟩ := List.length_eq_one_iff.1 hl1
      exact symOne hC htp A R C y (by simpa using hS) hR (fun z hz => ht y (by simp) z hz) h a m e ha h1 he hr hn
    · by_cases h2 : m + 1 = e
      · have hl1 : R.length = 1 := by omega
        obtain ⟨x, rfl⟩ := List.length_eq_one_iff.1 hl1
        exact symTwo hC htp A L C x hS hL (fun z hz => ht z hz x (by simp)) h a m e ha hm h2 (by omega) hn
      · exact symStep hC htp N (fun w A L R C hS hL hR ht h a m e ha hm he hl hr hN => symAll hC htp hn N w A L R C hS hL hR ht h a m e ha hm he hl hr hN) A L R C hS hL hR ht h a m e ha hm he (by omega) (by omega) (by omega) hn
variable {α : Type} {enc : α → TF × Value} {w0 wr w : World} {b n cap : Nat} {M : List α} {S : α → Prop} {c : α → α → Int} {tg : α → Nat}
def SInv1 (c : α → α → Int) (tg : α → Nat) (enc : α → TF × Value) (w0 wr : World) (b n cap : Nat) (M : List α) (a : Nat) : Prop :=
  ∃ D U M1, M = M1 ++ U ∧ Full (tlt c tg) 20 D M1 ∧ D.length = a ∧ RowW enc w0 wr b n cap (D ++ U)
def SOut (c : α → α → Int) (tg : α → Nat) (enc : α → TF × Value) (w0 wr : World) (b n cap : Nat) (M : List α) (bs : Nat) : Prop :=
  ∃ D, Blks (tlt c tg) bs D M ∧ RowW enc w0 wr b n cap D
def SInv2 (c : α → α → Int) (tg : α → Nat) (enc : α → TF × Value) (w0 wr : World) (b n cap : Nat) (M : List α) (bs a : Nat) : Prop :=
  ∃ D1 D2 M1 M2, M = M1 ++ M2 ∧ Full (tlt c tg) (2 * bs) D1 M1 ∧ Blks (tlt c tg) bs D2 M2 ∧ D1.length = a ∧ RowW enc w0 wr b n cap (D1 ++ D2)
theorem SInv1.take {a : Nat} (h : SInv1 c tg enc w0 wr b n cap M a) (hS : ∀ x ∈ M, S x) (hT : M.Pairwise (fun x y => tg x < tg y)) (ha : a + 20 ≤ n) :
    ∃ A X C, RowW enc w0 wr b n cap (A ++ X ++ C) ∧ A.length = a ∧ X.length = 20 ∧ (∀ x ∈ X, S x) ∧ X.Pairwise (fun x y => tg x < tg y) ∧ (∀ w' X', X'.Perm X → X'.Pairwise (tlt c tg) → RowW enc w0 w' b n cap (A ++ X' ++ C) → SInv1 c tg enc w0 w' b n cap M (a + 20)) := by
  obtain ⟨D, U, M1, h1, h2, h3, h4⟩ := h
  have hl := h4.len
  simp at hl
  have hU : U = U.take 20 ++ U.drop 20 := (List.take_append_drop _ _).symm
  have hM : M = M1 ++ (U.take 20 ++ U.drop 20) := by rw [← hU]; exact h1
  rw [hM] at hS hT
  refine ⟨D, U.take 20, U.drop 20, by rw [List.append_assoc, ← hU]; exact h4, h3, by simp; omega, fun x hx => hS x (List.mem_append.2 (.inr (List.mem_append.2 (.inl hx)))), (List.pairwise_append.1 (List.pairwise_append.1 hT).2.1).1, fun w' X' p s r => ?_⟩
  refine ⟨D ++ X', U.drop 20, M1 ++ U.take 20, by rw [List.append_assoc]; exact hM, h2.snoc (by rw [p.length_eq]; simp; omega) p s, by simp [p.length_eq]; omega, r⟩
theorem SInv1.rest {a : Nat} (h : SInv1 c tg enc w0 wr b n cap M a) (hS : ∀ x ∈ M, S x) (hT : M.Pairwise (fun x y => tg x < tg y)) (ha : n ≤ a + 20) :
    ∃ A X, RowW enc w0 wr b n cap (A ++ X ++ []) ∧ A.length = a ∧ a + X.length = n ∧ (∀ x ∈ X, S x) ∧ X.Pairwise (fun x y => tg x < tg y) ∧ (∀ w' X', X'.Perm X → X'.Pairwise (tlt c tg) → RowW enc w0 w' b n cap (A ++ X' ++ []) → SOut c tg enc w0 w' b n cap M 20) := by
  obtain ⟨D, U, M1, h1, h2, h3, h4⟩ := h
  have hl := h4.len
  simp at hl
  subst h1
  refine ⟨D, U, by simpa using h4, h3, by omega, fun x hx => hS x (by simp [hx]), (List.pairwise_append.1 hT).2.1, fun w' X' p s r => ?_⟩
  exact ⟨D ++ X', h2.blks (.last (by have := p.length_eq; omega) p s), by simpa using r⟩
theorem SOut.start {bs : Nat} (h : SOut c tg enc w0 wr b n cap M bs) : SInv2 c tg enc w0 wr b n cap M bs 0 := by
  obtain ⟨D, h1, h2⟩ := h
  exact ⟨[], D, [], M, rfl, .nil, h1, rfl, h2⟩
theorem SInv2.take {bs a : Nat} (h : SInv2 c tg enc w0 wr b n cap M bs a) (hS : ∀ x ∈ M, S x) (hT : M.Pairwise (fun x y => tg x < tg y)) (hb : 0 < bs) (ha : a + 2 * bs ≤ n) :
    ∃ A L R C, RowW enc w0 wr b n cap (A ++ (L ++ (R ++ C))) ∧ A.length = a ∧ L.length = bs ∧ R.length = bs ∧ (∀ x ∈ L ++ R, S x) ∧ L.Pairwise (tlt c tg) ∧ R.Pairwise (tlt c tg) ∧ (∀ x ∈ L, ∀ y ∈ R, tg x < tg y) ∧ (∀ w' X, X.Perm (L ++ R) → X.Pairwise (tlt c tg) → RowW enc w0 w' b n cap (A ++ (X ++ C)) → SInv2 c tg enc w0 w' b n cap M bs (a + 2 * bs)) := by
  obtain ⟨D1, D2, M1, M2, h1, h2, h3, h4, h5⟩ := h
  have hl := h5.len
  simp at hl
  obtain ⟨x1, x2, D', y1, y2, M', e1, e2, l1, l2, p1, p2, s1, s2, hr⟩ := h3.two hb (by omega)
  subst e1 e2 h1
  refine ⟨D1, x1, x2, D', h5, h4, l1, l2, fun x hx => hS x ?_, s1, s2, fun x hx y hy => ?_, fun w' X p s r => ?_⟩
  · rcases List.mem_append.1 hx with hx | hx
    · have := p1.mem_iff.1 hx; simp [this]
    · have := p2.mem_iff.1 hx; simp [this]
  · have := (List.pairwise_append.1 (List.pairwise_append.1 hT).2.1).2.2 x (p1.mem_iff.1 hx) y
    exact this (List.mem_append.2 (.inl (p2.mem_iff.1 hy)))
  · refine ⟨D1 ++ X, D', M1 ++ (y1 ++ y2), M', by simp, h2.snoc (by rw [p.length_eq]; simp; omega) (p.trans (p1.append p2)) s, hr, by simp [p.length_eq]; omega, by simpa using r⟩
theorem SInv2.rest {bs a : Nat} (h : SInv2 c tg enc w0 wr b n cap M bs a) (hS : ∀ x ∈ M, S x) (hT : M.Pairwise (fun x y => tg x < tg y)) (hb : 0 < bs) (h1n : n < a + 2 * bs) (h2n : a + bs < n) :
    ∃ A L R, RowW enc w0 wr b n cap (A ++ (L ++ (R ++ []))) ∧ A.length = a ∧ L.length = bs ∧ a + bs + R.length = n ∧ (∀ x ∈ L ++ R, S x) ∧ L.Pairwise (tlt c tg) ∧ R.Pairwise (tlt c tg) ∧ (∀ x ∈ L, ∀ y ∈ R, tg x < tg y) ∧ (∀ w' X, X.Perm (L ++ R) → X.Pairwise (tlt c tg) → RowW enc w0 w' b n cap (A ++ (X ++ [])) → SOut c tg enc w0 w' b n cap M (2 * bs)) := by
  obtain ⟨D1, D2, M1, M2, h1, h2, h3, h4, h5⟩ := h
  have hl := h5.len
  simp at hl
  obtain ⟨x1, x2, y1, y2, e1, e2, l1, l2, p1, p2, s1, s2⟩ := h3.rest hb (by omega) (by omega)
  subst e1 e2 h1
  simp at hl
  refine ⟨D1, x1, x2, by simpa using h5, h4, l1, by omega, fun x hx => hS x ?_, s1, s2, fun x hx y hy => ?_, fun w' X p s r => ?_⟩
  · rcases List.mem_append.1 hx with hx | hx
    · have := p1.mem_iff.1 hx; simp [this]
    · have := p2.mem_iff.1 hx; simp [this]
  · exact (List.pairwise_append.1 (List.pairwise_append.1 hT).2.1).2.2 x (p1.mem_iff.1 hx) y (p2.mem_iff.1 hy)
  · exact ⟨D1 ++ X, h2.blks (.last (by have := p.length_eq; simp at this; omega) (p.trans (p1.append p2)) s), by simpa using r⟩
theorem SInv2.none {bs a : Nat} (h : SInv2 c tg enc w0 wr b n cap M bs a) (h1n : n ≤ a + bs) : SOut c tg enc w0 wr b n cap M (2 * bs) := by
  obtain ⟨D1, D2, M1, M2, h1, h2, h3, h4, h5⟩ := h
  have hl := h5.len
  simp at hl
  subst h1
  obtain ⟨p, s⟩ := h3.one (by omega)
  exact ⟨D1 ++ D2, h2.blks (.last (by omega) p s), h5⟩
theorem SOut.done {bs : Nat} (h : SOut c tg enc w0 wr b n cap M bs) (hn : n ≤ bs) : ∃ M', M'.Perm M ∧ M'.Pairwise (tlt c tg) ∧ RowW enc w0 wr b n cap ([] ++ M' ++ []) := by
  obtain ⟨D, h1, h2⟩ := h
  obtain ⟨p, s⟩ := h1.one (by have := h2.len; omega)
  exact ⟨D, p, s, by simpa using h2⟩
set_option maxHeartbeats 8000000 in
theorem stable67 (hC : CmpW enc w0 b 96 S c) (htp : TP S c) (hS : ∀ x ∈ M, S x) (hT : M.Pairwise (fun x y => tg x < tg y)) (h : RowW enc w0 w b n cap M) (hn : n ≤ 100000) :
    Calls Tryz.prog 120 #[.slice (some ⟨b, 0, none⟩) n cap, .int .i64 n, .func (.func 96) #[] #[]] w (SortPost c tg enc w0 b n cap [] M []) := by
  have HIns := Lib.hid (fun (w : World) (A X C : List α) (hS : ∀ x ∈ X, S x) (hT : X.Pairwise (fun x y => tg x < tg y)) (h : RowW enc w0 w b n cap (A ++ X ++ C)) (a e : Nat) (ha : A.length = a) (he : a + X.length = e) => insSort (w := w) hC htp A X C hS hT h a e ha he (by omega))
  have HSym := Lib.hid (fun (w : World) (A L R C : List α) (hS : ∀ z ∈ L ++ R, S z) (hL : L.Pairwise (tlt c tg)) (hR : R.Pairwise (tlt c tg)) (ht : ∀ z ∈ L, ∀ y ∈ R, tg z < tg y) (h : RowW enc w0 w b n cap (A ++ (L ++ (R ++ C)))) (a m e : Nat) (ha : A.length = a) (hm : a + L.length = m) (he : m + R.length = e) (hl : a < m) (hr : m < e) => symAll (b := b) (n := n) (cap := cap) hC htp (by omega) (e + 1) w A L R C hS hL hR ht h a m e ha hm he hl hr (by omega))
  have HTake1 := Lib.hid (fun wr a (h : SInv1 c tg enc w0 wr b n cap M a) ha => h.take hS hT ha)
  have HRest1 := Lib.hid (fun wr a (h : SInv1 c tg enc w0 wr b n cap M a) ha => h.rest hS hT ha)
  have HTake2 := Lib.hid (fun wr bs a (h : SInv2 c tg enc w0 wr b n cap M bs a) hb ha => h.take hS hT hb ha)
  have HRest2 := Lib.hid (fun wr bs a (h : SInv2 c tg enc w0 wr b n cap M bs a) hb h1 h2 => h.rest hS hT hb h1 h2)
  have HStart : Hid (SInv1 c tg enc w0 w b n cap M 0) := Lib.hid ⟨[], M, [], rfl, .nil, rfl, h⟩
  clear hS hT h hC htp
  go_enter Tryz.func120, Tryz.ntmps120
  go_wp2_with fail
  go_loopw [7, 8] (fun s t wr => ∃ a e : Nat, s = .int .i64 a ∧ t = .int .i64 e ∧ a + 20 ≤ e ∧ e ≤ a + 20 ∧ a ≤ n ∧ Hid (SInv1 c tg enc w0 wr b n cap M a)) (fun s _ _ => n - (intOf s).toNat)
  case atStart => exact ⟨0, 20, by go_num, by go_num, by omega, by omega, by omega, HStart⟩
  case round =>
    obtain ⟨a, e, rfl, rfl, hae, hea, han, HR⟩ := hrel
    by_cases hlt : e ≤ n
    · obtain ⟨A, X, C, q1, q2, q3, q4, q5, q6⟩ := HTake1.out wr a HR.out (by omega)
      have HCall := Lib.hid (HIns.out wr A X C q4 q5 q1 a e q2 (by omega))
      have HN := Lib.hid q6
      clear q1 q2 q3 q4 q5 q6
      go_wp2_with fail
      refine HCall.out.mono ?_
      rintro e1 w1 ⟨rfl, M', hp, hs, hr⟩
      obtain ⟨a2, ha2⟩ : ∃ a2, a2 = a + 20 := ⟨_, rfl⟩
      have HF := Lib.hid (HN.out w1 M' hp hs hr)
      rw [← ha2] at HF
      have hee : a2 = e := by omega
      subst hee
      clear hp hs hr HCall HN ha2
      go_wp2_with fail
      go_roundw
      case rel => exact ⟨a2, a2 + 20, rfl, by go_num, by omega, by omega, by omega, HF⟩
      case measure => simp [intOf]; omega
    · obtain ⟨A, X, q1, q2, q3, q4, q5, q6⟩ := HRest1.out wr a HR.out (by omega)
      have HCall := Lib.hid (HIns.out wr A X [] q4 q5 q1 a n q2 q3)
      have HN := Lib.hid q6
      clear q1 q2 q3 q4 q5 q6
      go_wp2_with fail
      refine HCall.out.mono ?_
      rintro e1 w1 ⟨rfl, M', hp, hs, hr⟩
      have HF := Lib.hid (HN.out w1 M' hp hs hr)
      clear hp hs hr HCall HN HR
      go_wp2_with fail
      obtain ⟨wo, rfl⟩ : ∃ wo : World, wo = wr := ⟨_, rfl⟩
      go_loopw [6, 7, 8, 9] (fun s x y z wr => ∃ bs : Nat, s = .int .i64 bs ∧ 20 ≤ bs ∧ bs ≤ 2 * n + 20 ∧ Hid (SOut c tg enc w0 wr b n cap M bs)) (fun s _ _ _ _ => n - (intOf s).toNat)
      case atStart => exact ⟨20, by go_num, by omega, by omega, HF⟩
      case round =>
        obtain ⟨bs, rfl, hb1, hb2, HR⟩ := hrel
        by_cases hbn : bs < n
        · have HS2 := Lib.hid HR.out.start
          clear HR HF
          obtain ⟨bb, hbb⟩ : ∃ bb : Nat, bb = 2 * bs := ⟨_, rfl⟩
          have r0 : 2 * (bs : Int) = (bb : Int) := by omega
          have g1 : bb ≤ 2 * bs := by omega
          have g2 : 2 * bs ≤ bb := by omega
          clear hbb
          go_wp2_with fail
          obtain ⟨wq, rfl⟩ : ∃ wq : World, wq = wr := ⟨_, rfl⟩
          go_loopw [7, 8] (fun s t wr => ∃ a e : Nat, s = .int .i64 a ∧ t = .int .i64 e ∧ a + bb ≤ e ∧ e ≤ a + bb ∧ a ≤ n ∧ Hid (SInv2 c tg enc w0 wr b n cap M bs a)) (fun s _ _ => n - (intOf s).toNat)
          case atStart => exact ⟨0, bb, by go_num, by first | rfl | go_num, by omega, by omega, by omega, HS2⟩
          case round =>
            obtain ⟨a, e, rfl, rfl, hae', hea', han', HQ⟩ := hrel
            obtain ⟨m, hm⟩ : ∃ m : Nat, m = a + bs := ⟨_, rfl⟩
            have r1 : (a : Int) + (bs : Int) = (m : Int) := by omega
            by_cases hen : e ≤ n
            · obtain ⟨A, L, R, C, q1, q2, q3, q4, q5, q6, q7, q8, q9⟩ := HTake2.out wr bs a HQ.out (by omega) (by omega)
              have HCall := Lib.hid (HSym.out wr A L R C q5 q6 q7 q8 q1 a m e q2 (by omega) (by omega) (by omega) (by omega))
              have HN := Lib.hid q9
              clear q1 q2 q3 q4 q5 q6 q7 q8 q9 hm
              go_wp2_with fail
              refine HCall.out.mono ?_
              rintro e2 w2 ⟨rfl, M2', hp, hs, hr⟩
              have HG := Lib.hid (HN.out w2 M2' hp hs hr)
              obtain ⟨a2, ha2⟩ : ∃ a2, a2 = a + 2 * bs := ⟨_, rfl⟩
              rw [← ha2] at HG
              have hee : a2 = e := by omega
              subst hee
              clear hp hs hr HCall HN ha2
              go_wp2_with fail
              go_roundw
              case rel => exact ⟨a2, a2 + bb, rfl, by go_num, by omega, by omega, by omega, HG⟩
              case measure => simp [intOf]; omega
            · by_cases hmn : m < n
              · obtain ⟨A, L, R, q1, q2, q3, q4, q5, q6, q7, q8, q9⟩ := HRest2.out wr bs a HQ.out (by omega) (by omega) (by omega)
                have HCall := Lib.hid (HSym.out wr A L R [] q5 q6 q7 q8 q1 a m n q2 (by omega) (by omega) (by omega) (by omega))
                have HN := Lib.hid q9
                clear q1 q2 q3 q4 q5 q6 q7 q8 q9 hm
                go_wp2_with fail
                refine HCall.out.mono ?_
                rintro e2 w2 ⟨rfl, M2', hp, hs, hr⟩
                have HG := Lib.hid (HN.out w2 M2' hp hs hr)
                clear hp hs hr HCall HN
                go_wp2_with fail
                go_roundw
                case rel => exact ⟨2 * bs, by go_num, by omega, by omega, HG⟩
                case measure => simp [intOf]; omega
              · have HG := Lib.hid (HQ.out.none (by omega))
                clear hm
                go_wp2_with fail
                go_roundw
                case rel => exact ⟨2 * bs, by go_num, by omega, by omega, HG⟩
                case measure => simp [intOf]; omega
        · have HG := Lib.hid (HR.out.done (by omega))
          go_wp2_with fail
          go_end0
          exact ⟨rfl, HG.out⟩
theorem stableN (N : Nat) (hN : N ≤ 100000) : StableS N := by
  intro α enc w0 w b n cap S c tg M hC htp hS hT h hn
  have H67 := Lib.hid (stable67 (w := w) (cap := cap) hC htp hS hT h (by omega))
  clear h hS hT htp hC
  go_enter Tryz.func95, Tryz.ntmps95
  go_wp2_with fail
  refine H67.out.mono ?_
  rintro e w1 ⟨rfl, hp⟩
  go_wp2_with fail
  go_end0
  exact ⟨rfl, hp⟩
end Go.Proofs.YtfbggmbmgohiiaaGreat.tm
namespace Go.Proofs.YtfbggmbmgohiiaaGreat.tb
open Go.RowKit mem rec tm names
section
variable {N : Nat} {w w' W W' : World} {B B2 z : Nat} {F : Nat → Prop} {s : TbSt N} {o : Tm (N + 1)} {uo : Value}
def NewL (W : World) (l : List (Tm (N + 1))) (e : Ending) (w' : World) : Prop := ∃ F g, e = .returned (.slice (some ⟨g, 0, none⟩) l.length l.length) ∧ NewI W w' F (N + 1) (.slice (some ⟨g, 0, none⟩) l.length l.length) l ∧ F g
def EndQ (w : World) (B : Nat) (F : Nat → Prop) (z : Nat) (l : List (Tm (N + 1))) (tabs : List (TabE N)) (e : Ending) (w' : World) : Prop := NewL w (sortL l) e w' ∧ (∃ v', TbAt w' B F ⟨z, v', tabs⟩) ∧ TT progT B w w'
theorem end33 (h : TbAt w B F s) (hlen : s.tabs.length ≤ 100) (hB : B ≤ w.heap.size) (hB2 : B2 ≤ B) (hI : ItemsAt w B2 N uo o.items) (hn : nodesL (N + 1) ((outsT o s.tabs).map (·.1)) ≤ 100000000) :
    Calls Tryz.prog 33 #[.pointer (some ⟨s.z, 0, none⟩), aggV o.f uo] w (EndQ w B F s.z ((outsT o s.tabs).map (·.1)) (kept o s.tabs)) := by
  obtain ⟨p3, c3, e3, _, _⟩ := hI.shape
  obtain ⟨hb2, hz1, hz2⟩ := two_boxes w (cells9 o.f uo) (.cells #[.slice none 0 0] 22)
  have hsz : ((w.alloc (cells9 o.f uo)).alloc (.cells #[.slice none 0 0] 22)).heap.size = w.heap.size + 2 := by rw [World.size_alloc, World.size_alloc]
  have h2 := h.below hb2
  obtain ⟨pl, cl, hvl, _, _⟩ := h.l.shape
  rw [List.length_map] at hvl
  have HDel := Lib.hid (del64g h2 (by omega) hB2 hz2 (by omega) hz1 (hI.below hb2 (Nat.le_trans hB2 hB)))
  have hc0 := cells_row (x := [.bool true, s.vl]) h2.obj 0 _ rfl
  have hc1 := cells_row (x := [.bool true, s.vl]) h2.obj 1 _ rfl
  have hb1 := belowA (Below.refl w.heap.size w) (cells9 o.f uo) (Nat.le_refl _)
  have hc00 := cells_row (x := [.bool true, s.vl]) (h.below hb1).obj 0 _ rfl
  have HObj := Lib.hid (fun (w3 : World) (hT : TouchB (fun k => s.vl.ownBlock = some k ∨ k = w.heap.size + 1) ((w.alloc (cells9 o.f uo)).alloc (.cells #[.slice none 0 0] 22)) w3) => (show w3.heap[s.z]? = some (.cells #[.bool true, s.vl] 74) from by
    refine (hT.block s.z h2.zlt (fun e => ?_)).trans h2.obj
    rcases e with e | e
    · have := ownTy h2.l e
      rw [tyOf_of h2.obj] at this
      exact absurd (Option.some.inj this) (by decide)
    · have := h.zlt
      omega))
  have HEnd := Lib.hid (fun (w3 : World) (v' vo : Value) (ho : RecOwn ptrL 89 1 w3 B v' ((kept o s.tabs).map (·.b))) (hob : w3.heap[w.heap.size + 1]? = some (.cells #[vo] 22)) (hvo : RecOwn tE 24 9 w3 ((w.alloc (cells9 o.f uo)).alloc (.cells #[.slice none 0 0] 22)).heap.size vo (outsT o s.tabs)) (hT : TouchB (fun k => s.vl.ownBlock = some k ∨ k = w.heap.size + 1) ((w.alloc (cells9 o.f uo)).alloc (.cells #[.slice none 0 0] 22)) w3) (hv : ∀ k, v'.ownBlock = some k → s.vl.ownBlock = some k) => (show TbAt (w3.setCell ⟨s.z, 1, none⟩ v') B F ⟨s.z, v', kept o s.tabs⟩ ∧ (w3.setCell ⟨s.z, 1, none⟩ v').heap[w.heap.size + 1]? = some (.cells #[vo] 22) ∧ Calls Tryz.prog 67 #[vo] (w3.setCell ⟨s.z, 1, none⟩ v') (LPost (sortL ((outsT o s.tabs).map (·.1))) (w3.setCell ⟨s.z, 1, none⟩ v')) ∧ TT progT B w (w3.setCell ⟨s.z, 1, none⟩ v') from by
    have hzw := h.zlt
    have hobj := HObj.out w3 hT
    have hset : ∀ q, q ≠ s.z → (w3.setCell ⟨s.z, 1, none⟩ v').heap[q]? = w3.heap[q]? := fun q hq => Below.heap_setCell _ _ _ _ hq
    have hs3 := hT.size
    have hvlt : ∀ k, s.vl.ownBlock = some k → tyOf ((w.alloc (cells9 o.f uo)).alloc (.cells #[.slice none 0 0] 22)) k = some 89 := fun k hk => ownTy h2.l hk
    have hob2 : tyOf ((w.alloc (cells9 o.f uo)).alloc (.cells #[.slice none 0 0] 22)) (w.heap.size + 1) = some 22 := tyOf_of hz2
    have hz74 := tyOf_of h2.obj
    have hsub : TbAt (w3.setCell ⟨s.z, 1, none⟩ v') B F ⟨s.z, v', kept o s.tabs⟩ := by
      refine h2.sub (fun t => !eqB t.own o) (fun k hk hq => ?_) (by rw [World.size_setCell]; exact hs3) (set_block hobj v') (ho.same (fun k hk => hset k (fun e => ?_)))
      · have hne : tyOf ((w.alloc (cells9 o.f uo)).alloc (.cells #[.slice none 0 0] 22)) k = some 24 ∨ tyOf ((w.alloc (cells9 o.f uo)).alloc (.cells #[.slice none 0 0] 22)) k = some 98 ∨ tyOf ((w.alloc (cells9 o.f uo)).alloc (.cells #[.slice none 0 0] 22)) k = some 108 := hq.elim (fun hF => .inl (F_ty h2 hF)) .inr
        have n74 : tyOf ((w.alloc (cells9 o.f uo)).alloc (.cells #[.slice none 0 0] 22)) k ≠ some 74 := fun e => by rw [e] at hne; rcases hne with h | h | h <;> exact absurd (Option.some.inj h) (by decide)
        have n89 : tyOf ((w.alloc (cells9 o.f uo)).alloc (.cells #[.slice none 0 0] 22)) k ≠ some 89 := fun e => by rw [e] at hne; rcases hne with h | h | h <;> exact absurd (Option.some.inj h) (by decide)
        have n22 : tyOf ((w.alloc (cells9 o.f uo)).alloc (.cells #[.slice none 0 0] 22)) k ≠ some 22 := fun e => by rw [e] at hne; rcases hne with h | h | h <;> exact absurd (Option.some.inj h) (by decide)
        refine (hset k (fun e => ?_)).trans (hT.block k hk (fun e => ?_))
        · subst e; exact n74 hz74
        · rcases e with e | e
          · exact n89 (hvlt k e)
          · subst e; exact n22 hob2
      · subst e
        have := hvlt _ (hv _ hk)
        rw [hz74] at this
        exact absurd (Option.some.inj this) (by decide)
    have hob4 : (w3.setCell ⟨s.z, 1, none⟩ v').heap[w.heap.size + 1]? = some (.cells #[vo] 22) := (hset _ (by omega)).trans hob
    have hvo4 := hvo.same (w' := w3.setCell ⟨s.z, 1, none⟩ v') (fun k hk => hset k (by have := (hvo.lt hk).1; omega))
    have hall : ∀ r ∈ outsT o s.tabs, ∃ t ∈ s.tabs, r = (t.ref, t.ur) := fun r hr => by
      unfold outsT at hr
      obtain ⟨t, ht, rfl⟩ := List.mem_map.1 hr
      exact ⟨t, (List.mem_filter.1 ht).1, rfl⟩
    have hF4 : ∀ k, F k → (w3.setCell ⟨s.z, 1, none⟩ v').heap[k]? = ((w.alloc (cells9 o.f uo)).alloc (.cells #[.slice none 0 0] 22)).heap[k]? := fun k hk => by
      have e24 := F_ty h2 hk
      refine (hset k (fun e => ?_)).trans (hT.block k (h2.fl k hk) (fun e => ?_))
      · subst e; rw [hz74] at e24; exact absurd (Option.some.inj e24) (by decide)
      · rcases e with e | e
        · have := hvlt k e; rw [this] at e24; exact absurd (Option.some.inj e24) (by decide)
        · subst e; rw [hob2] at e24; exact absurd (Option.some.inj e24) (by decide)
    have hIt : ∀ r ∈ outsT o s.tabs, tEok (w3.setCell ⟨s.z, 1, none⟩ v') (w3.setCell ⟨s.z, 1, none⟩ v').heap.size r := fun r hr => by
      obtain ⟨t, ht, rfl⟩ := hall r hr
      exact ItemsIn.toAt (fun k hk => by rw [World.size_setCell]; exact Nat.lt_of_lt_of_le (h2.fl k hk) hs3) ((h2.tabs t ht).iref.mono hF4 (fun _ q => q))
    have hrow := row_terms (hvo4.row (fun r hr => ⟨tE_len r, tE_one (hIt r hr)⟩)) hIt
    have hl : ((outsT o s.tabs).map (·.1)).length ≤ 100 := by
      rw [List.length_map]
      have := outsT_len (o := o) (l := s.tabs)
      omega
    refine ⟨hsub, hob4, sortW (stableN 100 (by omega)) _ _ vo _ (Nat.le_refl _) hrow hn hl (by omega), ?_⟩
    have hw2 : TouchB (TyS progT B w) w ((w.alloc (cells9 o.f uo)).alloc (.cells #[.slice none 0 0] 22)) := (TouchB.refl _ w).ofBelow hb2 (Nat.le_refl _)
    refine TouchB.setCell (hw2.trans hT (fun i hi e => ?_)) _ _ (fun hi => ⟨h.low, 74, tyOf_of h.obj, .inl rfl⟩)
    rcases e with e | e
    · exact ⟨(h.l.lt e).1, 89, ownTy h.l e, .inr (.inl rfl)⟩
    · omega))
  rw [hvl] at HDel hc1
  have HV := Lib.hid hvl
  rw [e3] at HDel HEnd hc0 hc1 hc00 HObj ⊢
  clear h h2 hlen hB hB2 hI hn hz1 hz2 hb2 hb1 e3
  generalize o.items.length = n3 at *
  generalize hof : o.f = fo at *
  generalize s.z = z at *
  obtain ⟨k, i, j, nm, fn, ar, by_, bt⟩ := fo
  unfold aggV cells9 at *
  dsimp only at *
  clear hof
  go_enter Tryz.func33, Tryz.ntmps33
  go_upto_region 4 with (fail)
  clear hc0 hc00
  generalize ((w.alloc (.cells #[.int .i64 k, .int .i64 i, .int .i64 j, .string nm, .string fn, .int .i64 ar, .slice p3 n3 c3, .string by_, .int .i64 bt] 24)).alloc (.cells #[.slice none 0 0] 22)) = W2 at *
  go_wp2_with fail
  refine HDel.out.mono ?_
  rintro e w3 ⟨v', vo, rfl, q1, q2, q3, q4, q5⟩
  obtain ⟨p', c', rfl, _, _⟩ := q1.shape
  obtain ⟨E1, E2, E3, E4⟩ := HEnd.out w3 _ vo q1 q2 q3 q4 q5
  simp only [List.length_map] at E1 E2 E3 E4
  have ho := HObj.out w3 q4
  rw [HV.out] at ho
  have k1 := cells_row (x := [.bool true, .slice pl s.tabs.length cl]) ho 1 _ rfl
  have f1 : w3.frozen? ⟨z, 1, none⟩ = false := by simp only [World.frozen?, ho]; simp
  have k2 := cells_row (x := [vo]) E2 0 _ rfl
  have HE1 := Lib.hid E1
  have HE3 := Lib.hid E3
  have HE4 := Lib.hid E4
  clear E1 E2 E3 E4 ho q1 q2 q3 q4 q5 HEnd HObj HDel hc1
  go_wp2_with fail
  refine HE3.out.mono ?_
  rintro e w5 ⟨F9, g9, rfl, hN, hFg⟩
  have HR : Hid (EndQ w B F z ((outsT o s.tabs).map (·.1)) (kept o s.tabs) (.returned (.slice (some ⟨g9, 0, none⟩) (sortL ((outsT o s.tabs).map (·.1))).length (sortL ((outsT o s.tabs).map (·.1))).length)) w5) := Lib.hid ⟨⟨F9, g9, rfl, NewI.of hN HE4.out.size, hFg⟩, ⟨_, HE1.out.below hN.below⟩, HE4.out.ofBelow hN.below⟩
  clear hN hFg HE1 HE3 HE4 k1 k2 f1
  go_wp2_with fail
  go_ret
  exact HR.out
end
section
variable {N : Nat} {w w' W W' : World} {B B2 z : Nat} {A : List (TabA N)} {o r : Tm (N + 1)} {uo : Value}
noncomputable def namesA (A : List (TabA N)) (o : Tm (N + 1)) : List (Tm (N + 1)) := (A.filter (fun a => eqB a.own o)).map (·.ref)
noncomputable def endA (A : List (TabA N)) (o : Tm (N + 1)) : List (TabA N) := A.filter (fun a => !eqB a.own o)
theorem g_end (h : StG B z A W) (h100 : A.length ≤ 100) (hB : B ≤ W.heap.size) (hB2 : B2 ≤ B) (hI : ItemsAt W B2 N uo o.items) (hn : nodesL (N + 1) (namesA A o) ≤ 100000000) :
    Calls Tryz.prog 33 #[.pointer (some ⟨z, 0, none⟩), aggV o.f uo] W fun e w' => NewL W (sortL (namesA A o)) e w' ∧ StG B z (endA A o) w' ∧ TT progT B W w' := by
  obtain ⟨F, vl, tabs, h1, rfl, h3⟩ := h
  have e1 : (outsT o tabs).map (·.1) = namesA (tabs.map absT) o := by
    unfold outsT namesA
    rw [List.filter_map, List.map_map, List.map_map]
    rfl
  have e2 : (kept o tabs).map absT = endA (tabs.map absT) o := by
    unfold kept endA
    rw [List.filter_map]
    rfl
  rw [← e1] at hn ⊢
  refine (end33 h1 (by rw [List.length_map] at h100; exact h100) hB hB2 hI hn).mono ?_
  rintro e w' ⟨q1, ⟨v', q2⟩, q3⟩
  exact ⟨q1, ⟨F, v', _, q2, e2, fun t ht => h3 t (List.mem_filter.1 ht).1⟩, q3⟩
theorem flat_nodesL : ∀ l : List (Tm (N + 1)), (∀ t ∈ l, t.items = []) → nodesL (N + 1) l = l.length
  | [], _ => rfl
  | t :: l, h => by
    have ih := flat_nodesL l (fun x hx => h x (List.mem_cons_of_mem _ hx))
    have h0 : nodesL N ([] : List (Tm N)) = 0 := by cases N <;> rfl
    have e : nodesL (N + 1) (t :: l) = 1 + nodesL N t.items + nodesL (N + 1) l := rfl
    rw [e, h t List.mem_cons_self, h0, ih, List.length_cons]
    omega
theorem pick_lt (k : Int) : 0 ≤ pickI k 3 ∧ pickI k 3 < 3 := by
  unfold pickI
  have h := Int.natAbs_tmod k 3
  have h3 : (Int.tmod k 3).natAbs < 3 := by
    rw [h]
    simpa using Nat.mod_lt k.natAbs (by omega : 0 < 3)
  split <;> omega
noncomputable def pk (ow : List Int) (j : Nat) : Nat := (pickI (ow.getD j 0) 3).toNat
theorem pk_lt (ow : List Int) (j : Nat) : pk ow j < 3 ∧ ((pk ow j : Nat) : Int) = pickI (ow.getD j 0) 3 := by
  have := pick_lt (ow.getD j 0)
  unfold pk
  omega
noncomputable def tabM (ow : List Int) (j : Nat) : TabA N := ⟨refT ((j : Int) + 1), pidT ((pk ow j : Int) + 1), decide (0 < ow.getD j 0), []⟩
noncomputable def mkM (ow : List Int) (i : Nat) : List (TabA N) := (List.range i).map (tabM ow)
noncomputable def cntM (ow : List Int) (i k : Nat) : Nat := ((List.range i).filter (fun j => decide (pk ow j = k))).length
noncomputable def endM (ow : List Int) (i k : Nat) : List (TabA N) := ((List.range i).filter (fun j => decide (k ≤ pk ow j))).map (tabM ow)
variable {ow : List Int} {i k : Nat}
theorem mkM_len : (mkM (N := N) ow i).length = i := by unfold mkM; rw [List.length_map, List.length_range]
theorem mkM_succ : mkM (N := N) ow (i + 1) = mkM ow i ++ [tabM ow i] := by unfold mkM; rw [List.range_succ, List.map_append]; rfl
theorem cntM_succ : cntM ow (i + 1) k = cntM ow i k + if pk ow i = k then 1 else 0 := by
  unfold cntM
  rw [List.range_succ, List.filter_append, List.length_append]
  congr 1
  by_cases h : pk ow i = k
  · rw [if_pos h, List.filter_cons_of_pos (by simpa using h)]; rfl
  · rw [if_neg h, List.filter_cons_of_neg (by simpa using h)]; rfl
theorem cntM_le : cntM ow i k ≤ i := by
  unfold cntM
  have := List.length_filter_le (fun j => decide (pk ow j = k)) (List.range i)
  rwa [List.length_range] at this
theorem endM_zero : endM (N := N) ow i 0 = mkM ow i := by
  unfold endM mkM
  rw [List.filter_eq_self.2 (fun j _ => by simp)]
theorem pidT_inj {a b : Int} (h : pidT (N := N) a = pidT b) : a = b := congrArg (fun t : Tm (N + 1) => t.f.int) h
theorem refT_inj {a b : Int} (h : refT (N := N) a = refT b) : a = b := congrArg (fun t : Tm (N + 1) => t.f.int) h
theorem own_eq {j : Nat} : eqB (tabM (N := N) ow j).own (pidT ((k : Int) + 1)) = decide (pk ow j = k) := by
  by_cases h : pk ow j = k
  · rw [decide_eq_true h]
    refine eqB_t ?_
    show pidT ((pk ow j : Int) + 1) = _
    rw [h]
  · rw [decide_eq_false h]
    refine eqB_f (fun e => h ?_)
    have := pidT_inj (N := N) (show pidT ((pk ow j : Int) + 1) = pidT ((k : Int) + 1) from e)
    omega
theorem end_step : endA (endM (N := N) ow i k) (pidT ((k : Int) + 1)) = endM ow i (k + 1) := by
  unfold endA endM
  rw [List.filter_map, List.filter_filter]
  congr 1
  refine List.filter_congr fun j _ => ?_
  show (!eqB (tabM (N := N) ow j).own _ && decide (k ≤ pk ow j)) = _
  rw [own_eq]
  by_cases h1 : pk ow j = k
  · rw [decide_eq_true h1, decide_eq_false (by omega : ¬ k + 1 ≤ pk ow j)]; rfl
  · rw [decide_eq_false h1]
    by_cases h2 : k ≤ pk ow j
    · rw [decide_eq_true h2, decide_eq_true (by omega : k + 1 ≤ pk ow j)]; rfl
    · rw [decide_eq_false h2, decide_eq_false (by omega : ¬ k + 1 ≤ pk ow j)]; rfl
theorem end_again : endA (endM (N := N) ow i (k + 1)) (pidT ((k : Int) + 1)) = endM ow i (k + 1) := by
  unfold endA
  refine List.filter_eq_self.2 (fun a ha => ?_)
  unfold endM at ha
  obtain ⟨j, hj, rfl⟩ := List.mem_map.1 ha
  rw [own_eq]
  have := (List.mem_filter.1 hj).2
  have := of_decide_eq_true this
  rw [decide_eq_false (by omega)]
  rfl
theorem names_at : namesA (endM (N := N) ow i k) (pidT ((k : Int) + 1)) = ((List.range i).filter (fun j => decide (pk ow j = k))).map (fun j : Nat => refT ((j : Int) + 1)) := by
  unfold namesA endM
  rw [List.filter_map, List.map_map, List.filter_filter]
  have : (List.range i).filter (fun a => ((fun a : TabA N => eqB a.own (pidT ((k : Int) + 1))) ∘ tabM ow) a && decide (k ≤ pk ow a)) = (List.range i).filter (fun j => decide (pk ow j = k)) := by
    refine List.filter_congr fun j _ => ?_
    show (eqB (tabM (N := N) ow j).own _ && decide (k ≤ pk ow j)) = _
    rw [own_eq]
    by_cases h1 : pk ow j = k
    · rw [decide_eq_true h1, decide_eq_true (by omega : k ≤ pk ow j)]; rfl
    · rw [decide_eq_false h1]; rfl
  rw [this]
  rfl
theorem names_again : namesA (endM (N := N) ow i (k + 1)) (pidT ((k : Int) + 1)) = [] := by
  unfold namesA
  rw [List.map_eq_nil_iff, List.filter_eq_nil_iff]
  intro a ha
  unfold endM at ha
  obtain ⟨j, hj, rfl⟩ := List.mem_map.1 ha
  rw [own_eq]
  have := of_decide_eq_true (List.mem_filter.1 hj).2
  rw [decide_eq_false (by omega)]
  decide
theorem names_len : (namesA (endM (N := N) ow i k) (pidT ((k : Int) + 1))).length = cntM ow i k := by rw [names_at, List.length_map]; rfl
theorem names_flat : ∀ t ∈ namesA (endM (N := N) ow i k) (pidT ((k : Int) + 1)), t.items = [] := fun t ht => by
  rw [names_at] at ht
  obtain ⟨j, _, rfl⟩ := List.mem_map.1 ht
  rfl
theorem names_gone {t : Tm (N + 1)} (ht : t ∈ namesA (endM (N := N) ow i k) (pidT ((k : Int) + 1))) : sizeX (endM (N := N) ow i (k + 1)) t = (0, 4) := by
  rw [names_at] at ht
  obtain ⟨j, hj, rfl⟩ := List.mem_map.1 ht
  have hj := of_decide_eq_true (List.mem_filter.1 hj).2
  have hr : refA (endM (N := N) ow i (k + 1)) (refT ((j : Int) + 1)) = none := by
    unfold refA
    rw [List.findIdx?_eq_none_iff]
    intro a ha
    unfold endM at ha
    obtain ⟨j2, hj2, rfl⟩ := List.mem_map.1 ha
    have hj2 := of_decide_eq_true (List.mem_filter.1 hj2).2
    refine eqB_f (fun e => ?_)
    have := refT_inj (N := N) (show refT ((j2 : Int) + 1) = refT ((j : Int) + 1) from e)
    have : j2 = j := by omega
    subst this
    omega
  unfold sizeX tabA
  rw [hr]
  rfl
theorem many_make (hi : i < 1000) (hk : k < 3) : makeE (mkM (N := N) ow (min i 64)) (refT ((i : Int) + 1)) (pidT ((k : Int) + 1)) = if i < 64 then 0 else 5 := by
  have hr : refA (mkM (N := N) ow (min i 64)) (refT ((i : Int) + 1)) = none := by
    unfold refA
    rw [List.findIdx?_eq_none_iff]
    intro a ha
    unfold mkM at ha
    obtain ⟨j2, hj2, rfl⟩ := List.mem_map.1 ha
    rw [List.mem_range] at hj2
    refine eqB_f (fun e => ?_)
    have := refT_inj (N := N) (show refT ((j2 : Int) + 1) = refT ((i : Int) + 1) from e)
    omega
  have hv1 := ref_validN (N := N) ((i : Int) + 1) (by omega)
  have hv2 := pid_validN (N := N) ((k : Int) + 1) (by omega)
  have hq : (decide ((refT (N := N) ((i : Int) + 1)).f.kind = 3) && decide ((pidT (N := N) ((k : Int) + 1)).f.kind = 6) && validT (refT (N := N) ((i : Int) + 1)) && validT (pidT (N := N) ((k : Int) + 1))) = true := by rw [hv1, hv2]; rfl
  unfold makeE
  rw [hq, if_pos rfl, hr, mkM_len]
  dsimp only
  by_cases h : i < 64
  · rw [if_pos h, if_neg (by omega)]
  · rw [if_neg h, if_pos (by omega)]
theorem many_makeA (hi : i < 1000) : makeA (mkM (N := N) ow (min i 64)) (refT ((i : Int) + 1)) (pidT ((pk ow i : Int) + 1)) (decide (0 < ow.getD i 0)) = mkM ow (min (i + 1) 64) := by
  unfold makeA
  rw [many_make hi (pk_lt ow i).1]
  by_cases h : i < 64
  · rw [if_pos h, if_pos rfl, Nat.min_eq_left (by omega), Nat.min_eq_left (by omega), mkM_succ]
    rfl
  · rw [if_neg h, if_neg (by decide), Nat.min_eq_right (by omega), Nat.min_eq_right (by omega)]
theorem mkM_sm (hi : i ≤ 1000) : SmA (mkM (N := N) ow i) := ⟨by rw [mkM_len]; exact hi, fun a ha => by
  unfold mkM at ha
  obtain ⟨j, _, rfl⟩ := List.mem_map.1 ha
  exact Nat.zero_le _⟩
theorem endM_len : (endM (N := N) ow i k).length ≤ i := by
  unfold endM
  rw [List.length_map]
  have := List.length_filter_le (fun j => decide (k ≤ pk ow j)) (List.range i)
  rwa [List.length_range] at this
theorem endM_sm (hi : i ≤ 1000) : SmA (endM (N := N) ow i k) := ⟨by have := endM_len (N := N) (ow := ow) (i := i) (k := k); omega, fun a ha => by
  unfold endM at ha
  obtain ⟨j, _, rfl⟩ := List.mem_map.1 ha
  exact Nat.zero_le _⟩
end
end Go.Proofs.YtfbggmbmgohiiaaGreat.tb
namespace Go.Proofs.YtfbggmbmgohiiaaGreat.tb
open Go.RowKit mem rec tm names Go.ChangeShapes Go.WideShapes Go.ChangeAt Go.Joins
theorem add_blk (a : Addr) (n : Nat) : (a.add n).block = a.block := by unfold Addr.add; split <;> rfl
def Nums (w : World) (p : Option Addr) (zs : List Int) : Prop := ∀ i, (h : i < zs.length) → ∃ a, p = some a ∧ a.block < w.heap.size ∧ w.cell? (a.add i) = some (.int .i64 zs[i])
theorem Nums.below {w w' : World} {p : Option Addr} {zs : List Int} (h : Nums w p zs) (hb : Below w.heap.size w w') : Nums w' p zs := by
  intro i hi
  obtain ⟨a, ha, hl, hc⟩ := h i hi
  exact ⟨a, ha, Nat.lt_of_lt_of_le hl hb.size, by rw [hb.cell (by rw [add_blk]; exact hl)]; exact hc⟩
theorem cells3 : Tryz.prog.cellsOf 3 = 1 := by kernel_rfl
theorem open_nums {H : Type} {enc : TypeId × Value → H} {W : World} {b : Nat} {v : Value} {d : DataW H} {ps : List MemPlace} (hv : Value.okWide Tryz.prog W .any b 63 v) (h : DataW.Trod enc Tryz.prog W 0 (fun _ => true) true 63 v d ps) :
    ∃ (p : Option Addr) (L : List Int) (c : Nat), v = .slice p L.length c ∧ Nums W p L ∧ L.length ≤ maxLen := by
  obtain ⟨a0, len, cap, rfl⟩ := okWide_slice Tryz.underlying63 hv
  obtain ⟨fuel, hf⟩ := h
  rcases open_ints Tryz.underlying63 Tryz.underlying3 cells3 hf with ⟨hcs, hx⟩ | ⟨a, len', cap', ss, hcs, _, hl, hm, hz, hx, hcell, _⟩
  · simp [Value.cells] at hcs
    obtain ⟨rfl, rfl, rfl⟩ := hcs
    exact ⟨none, [], 0, rfl, fun i hi => absurd hi (by simp), by simp⟩
  · simp [Value.cells] at hcs
    obtain ⟨rfl, rfl, rfl⟩ := hcs
    simp only [if_true] at hz
    have hlen : (ss.take len).length = len := by rw [List.length_take]; omega
    refine ⟨some a, ss.take len, cap, by rw [hlen], fun i hi => ?_, by rw [hlen]; omega⟩
    rw [hlen] at hi
    have hc := hcell i (by omega)
    refine ⟨a, rfl, ?_, ?_⟩
    · have := World.block_lt_of_cell? W _ hc; rw [add_blk] at this; exact this
    · rw [hc]; simp [List.getElem_take, List.getElem?_eq_getElem (show i < ss.length by omega)]
theorem NewI.tt {n : Nat} {w0 W W' : World} {F : Nat → Prop} {u : Value} {l : List (Tm n)} {B : Nat} (h : NewI w0 W F n u l) (ht : TT progT B W W') : NewI w0 W' F n u l := by
  have hs : ∀ g, F g → W'.heap[g]? = W.heap[g]? := fun g hg => ht.keep (h.inr g hg).2 (fun t e hT => by
    obtain ⟨cur, k, e2, _⟩ := h.typed g hg
    rw [tyOf_of e2] at e
    obtain rfl := Option.some.inj e
    rcases hT with h | h | h | h <;> exact absurd h (by decide))
  exact ⟨h.items.mono hs (fun _ hg => hg), h.typed.same hs, fun g hg => ⟨(h.inr g hg).1, Nat.lt_of_lt_of_le (h.inr g hg).2 ht.size⟩⟩
theorem ord_sortL {n : Nat} (l : List (Tm (n + 1))) : ordB (sortL l) = true := ordB_t fun j h => by
  have pw : (sortL l).Pairwise (fun a b => leB cmpV a b = true) := List.pairwise_mergeSort (fun a b d x y => by
    unfold leB at *
    rw [decide_eq_true_eq] at *
    exact (tpV (n := n)).trans a b d trivial trivial trivial x y) (fun a b => by
    unfold leB
    have := (tpV (n := n)).anti a b
    rw [Bool.or_eq_true, decide_eq_true_eq, decide_eq_true_eq]; omega) l
  have h' := List.pairwise_iff_getElem.1 pw j (j + 1) (by omega) h (by omega)
  unfold leB at h'
  have := (tpV (n := n)).anti (sortL l)[j] (sortL l)[j + 1]
  rw [decide_eq_true_eq] at h'
  omega
theorem no64 : ¬ progT 64 := by intro h; rcases h with h | h | h | h <;> exact absurd h (by decide)
noncomputable def box3 (ow : List Int) (i : Nat) : Array Value := #[.int .i64 (cntM ow i 0), .int .i64 (cntM ow i 1), .int .i64 (cntM ow i 2)]
theorem box3_at {W : World} {b4 i k : Nat} {ow : List Int} (h : W.heap[b4]? = some (.cells (box3 ow i) 64)) (hk : k < 3) : W.cell? ⟨b4, k, none⟩ = some (.int .i64 (cntM ow i k)) ∧ W.frozen? ⟨b4, k, none⟩ = false := by
  refine ⟨?_, by simp only [World.frozen?, h]; simp⟩
  rcases (show k = 0 ∨ k = 1 ∨ k = 2 by omega) with rfl | rfl | rfl
  · exact cells_row (x := [.int .i64 (cntM ow i 0), .int .i64 (cntM ow i 1), .int .i64 (cntM ow i 2)]) h 0 _ rfl
  · exact cells_row (x := [.int .i64 (cntM ow i 0), .int .i64 (cntM ow i 1), .int .i64 (cntM ow i 2)]) h 1 _ rfl
  · exact cells_row (x := [.int .i64 (cntM ow i 0), .int .i64 (cntM ow i 1), .int .i64 (cntM ow i 2)]) h 2 _ rfl
theorem box3_set {W : World} {b4 i : Nat} {ow : List Int} (h : W.heap[b4]? = some (.cells (box3 ow i) 64)) : (W.setCell ⟨b4, pk ow i, none⟩ (.int .i64 ((cntM ow i (pk ow i) : Int) + 1))).heap[b4]? = some (.cells (box3 ow (i + 1)) 64) := by
  rw [set_block h]
  have h3 := (pk_lt ow i).1
  have e0 := cntM_succ (ow := ow) (i := i) (k := 0)
  have e1 := cntM_succ (ow := ow) (i := i) (k := 1)
  have e2 := cntM_succ (ow := ow) (i := i) (k := 2)
  unfold box3
  rw [e0, e1, e2]
  generalize pk ow i = q at *
  rcases (show q = 0 ∨ q = 1 ∨ q = 2 by omega) with rfl | rfl | rfl <;> simp
section
variable {w W W' : World} {z : Nat} {ow : List Int}
def LmM (w : World) (z b4 : Nat) (ow : List Int) (mm : Nat) (iv : Value) (wr : World) : Prop := ∃ i : Nat, iv = .int .i64 (i : Int) ∧ i ≤ ow.length ∧ mm = ow.length - i ∧ LSt (N := 0) w z (mkM ow (min i 64)) wr ∧ wr.heap[b4]? = some (.cells (box3 ow (min i 64)) 64)
def LnM (w : World) (z b4 : Nat) (ow : List Int) (n : Nat) (mm : Nat) (iv : Value) (wr : World) : Prop := ∃ k : Nat, iv = .int .i64 (k : Int) ∧ k ≤ 3 ∧ mm = 3 - k ∧ LSt (N := 0) w z (endM ow n k) wr ∧ wr.heap[b4]? = some (.cells (box3 ow n) 64)
def LiM (W0 : World) (n : Nat) (mm : Nat) (iv : Value) (wr : World) : Prop := ∃ i : Nat, iv = .int .i64 (i : Int) ∧ i ≤ n ∧ mm = n - i ∧ Below W0.heap.size W0 wr
theorem m_make {i : Nat} (h : LSt (N := 0) w z (mkM ow (min i 64)) W) (hi : i < 1000) : Calls Tryz.prog 17 #[.pointer (some ⟨z, 0, none⟩), aggV (refT (N := 0) ((i : Int) + 1)).f nilV, aggV (pidT (N := 0) ((pk ow i : Int) + 1)).f nilV, .bool (decide (0 < ow.getD i 0))] W fun e w' => e = .returned (.int .i64 (if i < 64 then 0 else 5)) ∧ LSt (N := 0) w z (mkM ow (min (i + 1) 64)) w' ∧ TT progT w.heap.size W w' := by
  refine (g_make h.st (mkM_sm (by omega)) h.size (B2 := 0) (Nat.zero_le _) (r := refT ((i : Int) + 1)) (o := pidT ((pk ow i : Int) + 1)) (flat_items W 0) (flat_items W 0) (flat_nodesN _) (flat_nodesN _) (decide (0 < ow.getD i 0))).mono ?_
  rintro e w' ⟨rfl, h3, h4⟩
  rw [many_makeA hi] at h3
  exact ⟨by rw [many_make hi (pk_lt ow i).1], ⟨h3, h.tt.trans h4⟩, h4⟩
theorem m_end {n k : Nat} (h : LSt (N := 0) w z (endM ow n k) W) (hn : n ≤ 64) : Calls Tryz.prog 33 #[.pointer (some ⟨z, 0, none⟩), aggV (pidT (N := 0) ((k : Int) + 1)).f nilV] W fun e w' => ∃ F g, e = .returned (.slice (some ⟨g, 0, none⟩) (cntM ow n k) (cntM ow n k)) ∧ NewI W w' F 1 (.slice (some ⟨g, 0, none⟩) (cntM ow n k) (cntM ow n k)) (sortL (namesA (endM ow n k) (pidT (N := 0) ((k : Int) + 1)))) ∧ LSt (N := 0) w z (endM ow n (k + 1)) w' ∧ TT progT w.heap.size W w' := by
  have hl : (sortL (namesA (endM ow n k) (pidT (N := 0) ((k : Int) + 1)))).length = cntM ow n k := by rw [sortL_len, names_len]
  have hnn := flat_nodesL _ (names_flat (N := 0) (ow := ow) (i := n) (k := k))
  have hc := cntM_le (ow := ow) (i := n) (k := k)
  refine (g_end h.st (by have := endM_len (N := 0) (ow := ow) (i := n) (k := k); omega) h.size (B2 := 0) (Nat.zero_le _) (o := pidT ((k : Int) + 1)) (flat_items W 0) (by rw [hnn, names_len]; omega)).mono ?_
  rintro e w' ⟨⟨F, g, rfl, hN, _⟩, h3, h4⟩
  rw [end_step] at h3
  rw [hl] at hN ⊢
  exact ⟨F, g, rfl, hN, ⟨h3, h.tt.trans h4⟩, h4⟩
theorem m_end2 {n k : Nat} (h : LSt (N := 0) w z (endM ow n (k + 1)) W) (hn : n ≤ 64) : Calls Tryz.prog 33 #[.pointer (some ⟨z, 0, none⟩), aggV (pidT (N := 0) ((k : Int) + 1)).f nilV] W fun e w' => ∃ g, e = .returned (.slice (some ⟨g, 0, none⟩) 0 0) ∧ LSt (N := 0) w z (endM ow n (k + 1)) w' ∧ TT progT w.heap.size W w' := by
  refine (g_end h.st (by have := endM_len (N := 0) (ow := ow) (i := n) (k := k + 1); omega) h.size (B2 := 0) (Nat.zero_le _) (o := pidT ((k : Int) + 1)) (flat_items W 0) (by rw [names_again]; exact Nat.zero_le _)).mono ?_
  rintro e w' ⟨⟨F, g, rfl, hN, _⟩, h3, h4⟩
  rw [end_again] at h3
  have hl : (sortL (namesA (endM ow n (k + 1)) (pidT (N := 0) ((k : Int) + 1)))).length = 0 := by rw [sortL_len, names_again]; rfl
  rw [hl]
  exact ⟨g, rfl, ⟨h3, h.tt.trans h4⟩, h4⟩
theorem m_size {n k : Nat} {t : Tm 1} {u : Value} (h : LSt (N := 0) w z (endM ow n (k + 1)) W) (hn : n ≤ 64) (ht : t ∈ sortL (namesA (endM ow n k) (pidT (N := 0) ((k : Int) + 1)))) (hI : ItemsAt W W.heap.size 0 u t.items) : Calls Tryz.prog 31 #[.pointer (some ⟨z, 0, none⟩), aggV t.f u] W fun e w' => e = .returned (.tuple #[.int .i64 0, .int .i64 4]) ∧ Below W.heap.size W w' := by
  have h1 := g_size h.st (endM_sm (by omega)) (B2 := W.heap.size) (Nat.le_refl _) hI
  rw [names_gone ((List.mergeSort_perm _ _).mem_iff.1 ht)] at h1
  exact h1
end
end Go.Proofs.YtfbggmbmgohiiaaGreat.tb
namespace Go.Proofs.YtfbggmbmgohiiaaGreat.tb
open Go.RowKit mem rec tm names
theorem LSt.set64 {N : Nat} {w W : World} {z b4 : Nat} {A : List (TabA N)} {x : Array Value} (h : LSt w z A W) (hb : W.heap[b4]? = some (.cells x 64)) (h4 : w.heap.size ≤ b4) (o : Nat) (v : Value) : LSt w z A (W.setCell ⟨b4, o, none⟩ v) := by
  obtain ⟨⟨F, vl, tabs, h1, h2, h3⟩, ht⟩ := h
  refine ⟨⟨F, vl, tabs, h1.same (fun k hk hq => Below.heap_setCell _ _ _ _ (fun e => ?_)) (by simp), h2, h3⟩, TouchB.setCell ht _ _ (fun hi => by have hi : b4 < w.heap.size := hi; omega)⟩
  have e : k = b4 := e
  subst e
  have e64 := tyOf_of hb
  rcases hq with hF | ⟨t, ht, hT⟩
  · rw [F_ty h1 hF] at e64
    exact absurd (Option.some.inj e64) (by decide)
  · rw [e64] at ht
    obtain rfl := Option.some.inj ht
    exact no64 hT
theorem lawMany (w : World) (p : Option Addr) (l : List Int) (c : Nat) (hs : Nums w p l) (hl : l.length ≤ maxLen) : Calls Tryz.prog 6 #[.slice p l.length c] w (BPost true w) := by
  have HSh := Lib.hid (fun W => shown9 W)
  have HNw := Lib.hid (fun (W : World) (hW : Below w.heap.size w W) => l_new (N := 0) hW)
  have HRf : Hid (∀ (n : Int) W, Calls Tryz.prog 18 #[.int .i64 n] W (fun e w' => e = .returned (aggV (refT (N := 0) n).f nilV) ∧ Below W.heap.size W w')) := Lib.hid (fun n W => ref18 (N := 0) n W)
  have HPd : Hid (∀ (n : Int) W, Calls Tryz.prog 19 #[.int .i64 n] W (fun e w' => e = .returned (aggV (pidT (N := 0) n).f nilV) ∧ Below W.heap.size W w')) := Lib.hid (fun n W => pid19 (N := 0) n W)
  have HPk := Lib.hid (fun (W : World) (i : Nat) (hi : i < l.length) => (show Calls Tryz.prog 21 #[.int .i64 l[i], .int .i64 3] W (fun e w' => e = .returned (.int .i64 (pk l i : Int)) ∧ Below W.heap.size W w') from by
    have h := pick21 W l[i] 3 (by decide) (by decide)
    have e : ((pk l i : Nat) : Int) = pickI l[i] 3 := by
      have := (pk_lt l i).2
      rwa [List.getD_eq_getElem?_getD, List.getElem?_eq_getElem hi, Option.getD_some] at this
    rw [e]
    exact h))
  have HMk := Lib.hid (fun (z : Nat) (W : World) (i : Nat) (h : LSt (N := 0) w z (mkM l (min i 64)) W) (hi : i < 1000) (hil : i < l.length) => (show Calls Tryz.prog 17 #[.pointer (some ⟨z, 0, none⟩), aggV (refT (N := 0) ((i : Int) + 1)).f nilV, aggV (pidT (N := 0) ((pk l i : Int) + 1)).f nilV, .bool (decide (0 < l[i]))] W (fun e w' => e = .returned (.int .i64 (if i < 64 then 0 else 5)) ∧ LSt (N := 0) w z (mkM l (min (i + 1) 64)) w' ∧ TT progT w.heap.size W w') from by
    have h := m_make h hi
    rwa [List.getD_eq_getElem?_getD, List.getElem?_eq_getElem hil, Option.getD_some] at h))
  have HE1 := Lib.hid (fun (z : Nat) (W : World) (n k : Nat) (h : LSt (N := 0) w z (endM l n k) W) (hn : n ≤ 64) => m_end h hn)
  have HE2 := Lib.hid (fun (z : Nat) (W : World) (n k : Nat) (h : LSt (N := 0) w z (endM l n (k + 1)) W) (hn : n ≤ 64) => m_end2 h hn)
  have HSz := Lib.hid (fun (z : Nat) (W : World) (n k : Nat) (t : Tm 1) (u : Value) (h : LSt (N := 0) w z (endM l n (k + 1)) W) (hn : n ≤ 64) (ht : t ∈ sortL (namesA (endM l n k) (pidT (N := 0) ((k : Int) + 1)))) (hI : ItemsAt W W.heap.size 0 u t.items) => m_size h hn ht hI)
  have HN := Lib.hid hs
  clear hs
  unfold maxLen at hl
  have hsz9 : (Tryz.prog.info? 24).map (·.size) = some 9 := by kernel_rfl
  have hsz3 : (Tryz.prog.info? 64).map (·.size) = some 3 := by kernel_rfl
  unfold BPost at HSh ⊢
  go_enter Tryz.func6, Tryz.ntmps6
  go_wp2_with fail
  refine (HSh.out w).mono ?_
  rintro e w1 ⟨rfl, hb1⟩
  have HB1 := Lib.hid hb1
  clear hb1 HSh
  by_cases h200 : l.length ≤ 200
  rotate_left
  · have q0 : (200 : Int) < (l.length : Int) := by omega
    have q1 : decide ((200 : Int) < (l.length : Int)) = true := decide_eq_true q0
    go_wp2_with fail
    go_ret
    exact ⟨rfl, HB1.out⟩
  have q0 : ¬ (200 : Int) < (l.length : Int) := by omega
  have q1 : decide ((200 : Int) < (l.length : Int)) = false := decide_eq_false q0
  have HNw2 := Lib.hid (HNw.out _ HB1.out)
  clear HNw
  go_wp2_with fail
  refine HNw2.out.mono ?_
  rintro e w3 ⟨z, rfl, hSt⟩
  clear HNw2 q0 q1
  have HZ := Lib.hid (alloc_new w3 (.cells #[.int .i64 0, .int .i64 0, .int .i64 0] 64))
  have hbX := belowA (Below.refl w3.heap.size w3) (.cells #[.int .i64 0, .int .i64 0, .int .i64 0] 64) (Nat.le_refl _)
  have h4w := hSt.size
  have HSt := Lib.hid (hSt.below hbX)
  clear hSt hbX
  go_upto_region 9 with (first
    | (refine wpList_store_row rfl 64 (.tmp 4) (.tmp 21) rfl w3.heap.size #[.int .i64 0, .int .i64 0, .int .i64 0] rfl rfl 64 _ HZ.out hsz3 rfl rfl ?_))
  have H10 : Hid (LmM w z w3.heap.size l l.length (.int .i64 0) (w3.alloc (.cells #[.int .i64 0, .int .i64 0, .int .i64 0] 64))) := Lib.hid ⟨0, rfl, Nat.zero_le _, rfl, HSt.out, HZ.out⟩
  clear HSt HZ
  generalize (w3.alloc (.cells #[.int .i64 0, .int .i64 0, .int .i64 0] 64)) = w4 at *
  generalize w3.heap.size = b4 at *
  go_wp2_with fail
  go_loopg [5] l.length (fun mm iv wr => Hid (LmM w z b4 l mm iv wr))
  case atStart => exact H10
  case round =>
    obtain ⟨i, rfl, hi, hm, hSt, hRg⟩ := hrel.out
    clear hrel H10
    have HM := Lib.hid hm
    by_cases hlt : i < l.length
    · have r1 : (i : Int) < (l.length : Int) := by omega
      obtain ⟨a, rfl, hal, hac⟩ := HN.out i hlt
      have HEl := Lib.hid (fun (W : World) (hW : Below w.heap.size w W) => (show W.cell? (a.add i) = some (.int .i64 l[i]) from by rw [hW.cell (by rw [add_blk]; exact hal)]; exact hac))
      have k1 := HEl.out _ hSt.base
      have HMk1 := Lib.hid (fun W h => HMk.out z W i h (by omega) hlt)
      have HPk1 := Lib.hid (fun W => HPk.out W i hlt)
      obtain ⟨ev, hev⟩ : ∃ ev : Int, (if i < 64 then (0 : Int) else 5) = ev := ⟨_, rfl⟩
      rw [hev] at HMk1
      have HEv := Lib.hid hev
      clear hev
      have hq3 := (pk_lt l i).1
      have HRf1 := Lib.hid (HRf.out ((i : Int) + 1))
      have HPd1 := Lib.hid (HPd.out ((pk l i : Int) + 1))
      have HSet := Lib.hid (fun (W : World) (h : W.heap[b4]? = some (.cells (box3 l i) 64)) => box3_set h)
      have HBx := Lib.hid (fun (W : World) (h : W.heap[b4]? = some (.cells (box3 l i) 64)) => box3_at h hq3)
      have hcl := cntM_le (ow := l) (i := i) (k := pk l i)
      generalize hcn : cntM l i (pk l i) = cn at *
      generalize pk l i = q at *
      generalize l[i] = x at *
      generalize aggV (refT (N := 0) ((i : Int) + 1)).f nilV = RV at *
      generalize aggV (pidT (N := 0) ((q : Int) + 1)).f nilV = PV at *
      have hw1 : IntKind.i64.wrap ((i : Int) + 1) = (i : Int) + 1 := IntWalk.i64_in _ (by omega)
      have hw2 : IntKind.i64.wrap ((q : Int) + 1) = (q : Int) + 1 := IntWalk.i64_in _ (by omega)
      have hw3 : IntKind.i64.wrap ((cn : Int) + 1) = (cn : Int) + 1 := IntWalk.i64_in _ (by omega)
      clear hac hcn hm
      go_wp2_with fail
      refine (HPk1.out _).mono ?_
      rintro e w5 ⟨rfl, hb⟩
      replace hSt := hSt.below hb
      replace hRg := (hb.block _ (Array.getElem?_eq_some_iff.1 hRg).1).trans hRg
      clear hb k1
      go_upto_region 13 with (fail)
      have hbD := belowD (Below.refl w5.heap.size w5)
      replace hSt := hSt.below hbD
      replace hRg := (hbD.block _ (Array.getElem?_eq_some_iff.1 hRg).1).trans hRg
      clear hbD
      refine wp_region_held_drew (S := (fun w' => w'.cell? (a.add i) = some (.int .i64 x))) (by kernel_rfl) ?_ (fun hHeld => ?_)
      · exact HEl.out _ hSt.base
      generalize w5.drew = wd at *
      refine wpAnyH_take (i := 0) (oi := { dst := some 33, op := Op.move (Operand.tmp 3), type := 34, pos := "law.go:278", after := #[], guard := none }) (v := ?vvA0) rfl (by kernel_rfl) (by kernel_rfl) (by kernel_rfl) (fun _ _ _ h => h) (Or.inl ⟨by rfl, ?hyA0⟩) (by assumption) ?rsA0
      case hyA0 =>
        intro w hSw
        (try dsimp only at hSw)
        go_simp
        (try with_reducible rfl)
      (try simp only [Act.put, List.setIfInBounds_toArray, List.set_cons_zero, List.set_cons_succ])
      refine wpAnyH_take (i := 1) (oi := { dst := some 34, op := Op.move (Operand.tmp 5), type := 3, pos := "law.go:278", after := #[], guard := none }) (v := ?vvA1) rfl (by kernel_rfl) (by kernel_rfl) (by kernel_rfl) (fun _ _ _ h => h) (Or.inl ⟨by rfl, ?hyA1⟩) (by assumption) ?rsA1
      case hyA1 =>
        intro w hSw
        (try dsimp only at hSw)
        go_simp
        (try with_reducible rfl)
      (try simp only [Act.put, List.setIfInBounds_toArray, List.set_cons_zero, List.set_cons_succ])
      refine wpAnyH_take (i := 2) (oi := { dst := some 35, op := Op.binOp BinOp.add 3 (Operand.tmp 34) (Operand.const (Value.int IntKind.i64 1)) 3, type := 3, pos := "law.go:278", after := #[{ on := 1, ground := Ground.data }], guard := none }) (v := ?vvA2) rfl (by kernel_rfl) (by kernel_rfl) (by kernel_rfl) (fun _ _ _ h => h) (Or.inl ⟨by rfl, ?hyA2⟩) (by assumption) ?rsA2
      case hyA2 =>
        intro w hSw
        (try dsimp only at hSw)
        go_simp
        (try with_reducible rfl)
      (try simp only [Act.put, List.setIfInBounds_toArray, List.set_cons_zero, List.set_cons_succ])
      refine wpAnyH_take (i := 4) (oi := { dst := some 37, op := Op.move (Operand.tmp 6), type := 3, pos := "law.go:278", after := #[], guard := none }) (v := ?vvA4) rfl (by kernel_rfl) (by kernel_rfl) (by kernel_rfl) (fun _ _ _ h => h) (Or.inl ⟨by rfl, ?hyA4⟩) (by assumption) ?rsA4
      case hyA4 =>
        intro w hSw
        (try dsimp only at hSw)
        go_simp
        (try with_reducible rfl)
      (try simp only [Act.put, List.setIfInBounds_toArray, List.set_cons_zero, List.set_cons_succ])
      refine wpAnyH_take (i := 5) (oi := { dst := some 38, op := Op.binOp BinOp.add 3 (Operand.tmp 37) (Operand.const (Value.int IntKind.i64 1)) 3, type := 3, pos := "law.go:278", after := #[{ on := 4, ground := Ground.data }], guard := none }) (v := ?vvA5) rfl (by kernel_rfl) (by kernel_rfl) (by kernel_rfl) (fun _ _ _ h => h) (Or.inl ⟨by rfl, ?hyA5⟩) (by assumption) ?rsA5
      case hyA5 =>
        intro w hSw
        (try dsimp only at hSw)
        go_simp
        (try with_reducible rfl)
      (try simp only [Act.put, List.setIfInBounds_toArray, List.set_cons_zero, List.set_cons_succ])
      refine wpAnyH_take (i := 7) (oi := { dst := some 40, op := Op.move (Operand.tmp 0), type := 63, pos := "law.go:278", after := #[], guard := none }) (v := ?vvA7) rfl (by kernel_rfl) (by kernel_rfl) (by kernel_rfl) (fun _ _ _ h => h) (Or.inl ⟨by rfl, ?hyA7⟩) (by assumption) ?rsA7
      case hyA7 =>
        intro w hSw
        (try dsimp only at hSw)
        go_simp
        (try with_reducible rfl)
      (try simp only [Act.put, List.setIfInBounds_toArray, List.set_cons_zero, List.set_cons_succ])
      refine wpAnyH_take (i := 8) (oi := { dst := some 41, op := Op.move (Operand.tmp 5), type := 3, pos := "law.go:278", after := #[], guard := none }) (v := ?vvA8) rfl (by kernel_rfl) (by kernel_rfl) (by kernel_rfl) (fun _ _ _ h => h) (Or.inl ⟨by rfl, ?hyA8⟩) (by assumption) ?rsA8
      case hyA8 =>
        intro w hSw
        (try dsimp only at hSw)
        go_simp
        (try with_reducible rfl)
      (try simp only [Act.put, List.setIfInBounds_toArray, List.set_cons_zero, List.set_cons_succ])
      refine wpAnyH_take (i := 9) (oi := { dst := some 42, op := Op.indexAddr 63 (Operand.tmp 40) (Operand.tmp 41), type := 0, pos := "law.go:278", after := #[{ on := 7, ground := Ground.data }, { on := 8, ground := Ground.data }], guard := none }) (v := ?vvA9) rfl (by kernel_rfl) (by kernel_rfl) (by kernel_rfl) (fun _ _ _ h => h) (Or.inl ⟨by rfl, ?hyA9⟩) (by assumption) ?rsA9
      case hyA9 =>
        intro w hSw
        (try dsimp only at hSw)
        go_simp
        (try with_reducible rfl)
      (try simp only [Act.put, List.setIfInBounds_toArray, List.set_cons_zero, List.set_cons_succ])
      refine wpAnyH_take (i := 10) (oi := { dst := some 43, op := Op.load 3 (Operand.tmp 42), type := 3, pos := "law.go:278", after := #[{ on := 9, ground := Ground.data }], guard := none }) (v := ?vvA10) rfl (by kernel_rfl) (by kernel_rfl) (by kernel_rfl) (fun _ _ _ h => h) (Or.inl ⟨by rfl, ?hyA10⟩) (by assumption) ?rsA10
      case hyA10 =>
        intro w hSw
        (try dsimp only at hSw)
        go_simp
        (try with_reducible rfl)
      (try simp only [Act.put, List.setIfInBounds_toArray, List.set_cons_zero, List.set_cons_succ])
      refine wpAnyH_take (i := 11) (oi := { dst := some 44, op := Op.binOp BinOp.gtr 3 (Operand.tmp 43) (Operand.const (Value.int IntKind.i64 0)) 3, type := 4, pos := "law.go:278", after := #[{ on := 10, ground := Ground.data }], guard := none }) (v := ?vvA11) rfl (by kernel_rfl) (by kernel_rfl) (by kernel_rfl) (fun _ _ _ h => h) (Or.inl ⟨by rfl, ?hyA11⟩) (by assumption) ?rsA11
      case hyA11 =>
        intro w hSw
        (try dsimp only at hSw)
        go_simp
        (try with_reducible rfl)
      (try simp only [Act.put, List.setIfInBounds_toArray, List.set_cons_zero, List.set_cons_succ])
      refine wpAnyH_ready (rs := [3]) (by kernel_rfl) (by simp) ?_
      refine (AllReadyH.cons (o := { dst := some 36, op := Op.call { callee := Callee.value (Operand.func 18), args := #[Operand.tmp 35], argTypes := #[2] }, type := 24, pos := "law.go:278", after := #[{ on := 2, ground := Ground.data }], guard := none }) rfl (fun K hK => ?_) AllReadyH.nil)
      go_simp
      refine (HRf1.out _).mono ?_
      rintro e x1 ⟨rfl, hb⟩
      replace hSt := hSt.below hb
      replace hRg := (hb.block _ (Array.getElem?_eq_some_iff.1 hRg).1).trans hRg
      clear hb
      go_wp2_with fail
      refine hK.out _ _ ?_ (fun hHeld => ?_)
      · exact HEl.out _ hSt.base
      clear hK K
      (try simp only [Act.put, List.setIfInBounds_toArray, List.set_cons_zero, List.set_cons_succ])
      refine wpAnyH_ready (rs := [6]) (by kernel_rfl) (by simp) ?_
      refine (AllReadyH.cons (o := { dst := some 39, op := Op.call { callee := Callee.value (Operand.func 19), args := #[Operand.tmp 38], argTypes := #[2] }, type := 24, pos := "law.go:278", after := #[{ on := 5, ground := Ground.data }, { on := 3, ground := Ground.chain }], guard := none }) rfl (fun K hK => ?_) AllReadyH.nil)
      go_simp
      refine (HPd1.out _).mono ?_
      rintro e x1 ⟨rfl, hb⟩
      replace hSt := hSt.below hb
      replace hRg := (hb.block _ (Array.getElem?_eq_some_iff.1 hRg).1).trans hRg
      clear hb
      go_wp2_with fail
      refine hK.out _ _ ?_ (fun hHeld => ?_)
      · exact HEl.out _ hSt.base
      clear hK K
      (try simp only [Act.put, List.setIfInBounds_toArray, List.set_cons_zero, List.set_cons_succ])
      refine wpAnyH_ready (rs := [12]) (by kernel_rfl) (by simp) ?_
      refine (AllReadyH.cons (o := { dst := some 45, op := Op.call { callee := Callee.value (Operand.func 17), args := #[Operand.tmp 33, Operand.tmp 36, Operand.tmp 39, Operand.tmp 44], argTypes := #[34, 24, 24, 4] }, type := 40, pos := "law.go:278", after := #[{ on := 0, ground := Ground.data }, { on := 3, ground := Ground.data }, { on := 6, ground := Ground.data }, { on := 11, ground := Ground.data }, { on := 6, ground := Ground.chain }], guard := none }) rfl (fun K hK => ?_) AllReadyH.nil)
      go_simp
      refine (HMk1.out _ hSt).mono ?_
      rintro e x3 ⟨rfl, hSn, hT⟩
      replace hRg := hT.keepC hRg no64
      clear hSt hT
      have hSt := hSn
      clear hSn
      go_wp2_with fail
      refine hK.out _ _ ?_ (fun hHeld => ?_)
      · exact HEl.out _ hSt.base
      clear hK K
      (try simp only [Act.put, List.setIfInBounds_toArray, List.set_cons_zero, List.set_cons_succ])
      refine wpAnyH_take (i := 13) (oi := { dst := some 7, op := Op.assign (Operand.tmp 45), type := 40, pos := "law.go:278", after := #[{ on := 12, ground := Ground.data }, { on := 12, ground := Ground.chain }, { on := 0, ground := Ground.phase }, { on := 1, ground := Ground.phase }, { on := 2, ground := Ground.phase }, { on := 3, ground := Ground.phase }, { on := 4, ground := Ground.phase }, { on := 5, ground := Ground.phase }, { on := 6, ground := Ground.phase }, { on := 7, ground := Ground.phase }, { on := 8, ground := Ground.phase }, { on := 9, ground := Ground.phase }, { on := 10, ground := Ground.phase }, { on := 11, ground := Ground.phase }, { on := 12, ground := Ground.phase }], guard := none }) (v := ?vvA13) rfl (by kernel_rfl) (by kernel_rfl) (by kernel_rfl) (fun _ _ _ h => h) (Or.inl ⟨by rfl, ?hyA13⟩) (by assumption) ?rsA13
      case hyA13 =>
        intro w hSw
        (try dsimp only at hSw)
        go_simp
        (try with_reducible rfl)
      (try simp only [Act.put, List.setIfInBounds_toArray, List.set_cons_zero, List.set_cons_succ])
      refine wpAnyH_done (by kernel_rfl) ?_ _
      by_cases h64 : i < 64
      · obtain rfl : ev = 0 := by rw [← HEv.out, if_pos h64]
        have h64i : (i : Int) < 64 := by omega
        have q64 : decide ((i : Int) < 64) = true := decide_eq_true h64i
        rw [Nat.min_eq_left (by omega)] at hRg
        have HF : Hid (LmM w z b4 l (l.length - (i + 1)) (.int .i64 ((i + 1 : Nat) : Int)) (x3.setCell ⟨b4, q, none⟩ (.int .i64 ((cn : Int) + 1)))) := Lib.hid ⟨i + 1, rfl, by omega, rfl, hSt.set64 hRg h4w _ _, by rw [Nat.min_eq_left (by omega)]; exact HSet.out _ hRg⟩
        obtain ⟨k1, k2⟩ := HBx.out _ hRg
        have hq3i : (q : Int) < 3 := by omega
        go_wp2_with fail
        go_roundg (l.length - (i + 1))
        case measure => have := HM.out; omega
        case rel => exact HF.out
      · obtain rfl : ev = 5 := by rw [← HEv.out, if_neg h64]
        have h64i : ¬ (i : Int) < 64 := by omega
        have q64 : decide ((i : Int) < 64) = false := decide_eq_false h64i
        have HF : Hid (LmM w z b4 l (l.length - (i + 1)) (.int .i64 ((i + 1 : Nat) : Int)) x3) := Lib.hid ⟨i + 1, rfl, by omega, rfl, hSt, by rw [Nat.min_eq_right (by omega)] at hRg ⊢; exact hRg⟩
        go_wp2_with fail
        go_roundg (l.length - (i + 1))
        case measure => have := HM.out; omega
        case rel => exact HF.out
    · obtain rfl : i = l.length := by omega
      obtain ⟨n, hn⟩ : ∃ n, min l.length 64 = n := ⟨_, rfl⟩
      have hn64 : n ≤ 64 := by omega
      rw [hn] at hSt hRg
      rw [← endM_zero] at hSt
      have H20 : Hid (LnM w z b4 l n 3 (.int .i64 0) wr) := Lib.hid ⟨0, rfl, Nat.zero_le _, rfl, hSt, hRg⟩
      clear hSt hRg hn hm HMk HPk HRf HN
      go_wp2_with fail
      go_loopg [8] 3 (fun mm iv wr => Hid (LnM w z b4 l n mm iv wr))
      case atStart => exact H20
      case round =>
        obtain ⟨k, rfl, hk, hm2, hSt, hRg⟩ := hrel.out
        clear hrel H20
        have HM2 := Lib.hid hm2
        by_cases hlt3 : k < 3
        · have r3 : (k : Int) < 3 := by omega
          have hw1 : IntKind.i64.wrap ((k : Int) + 1) = (k : Int) + 1 := IntWalk.i64_in _ (by omega)
          have HPd1 := Lib.hid (HPd.out ((k : Int) + 1))
          have HE11 := Lib.hid (fun W h => HE1.out z W n k h hn64)
          have HE21 := Lib.hid (fun W h => HE2.out z W n k h hn64)
          have HSz1 := Lib.hid (fun W t u h ht hI => HSz.out z W n k t u h hn64 ht hI)
          have HBx := Lib.hid (fun (W : World) (h : W.heap[b4]? = some (.cells (box3 l n) 64)) => box3_at h hlt3)
          have hul : (sortL (namesA (endM l n k) (pidT (N := 0) ((k : Int) + 1)))).length = cntM l n k := by rw [sortL_len, names_len]
          have hcl := cntM_le (ow := l) (i := n) (k := k)
          have hnod : nodesL 1 (sortL (namesA (endM l n k) (pidT (N := 0) ((k : Int) + 1)))) ≤ 100000000 := by
            rw [sortL_nodes, flat_nodesL _ (names_flat (N := 0) (ow := l) (i := n) (k := k)), names_len]
            omega
          have hord := ord_sortL (namesA (endM l n k) (pidT (N := 0) ((k : Int) + 1)))
          generalize sortL (namesA (endM l n k) (pidT (N := 0) ((k : Int) + 1))) = U at *
          generalize aggV (pidT (N := 0) ((k : Int) + 1)).f nilV = PV at *
          generalize cntM l n k = cn at *
          subst hul
          have HOr := Lib.hid (fun (W : World) (g : Nat) (hI : ItemsAt W W.heap.size 1 (.slice (some ⟨g, 0, none⟩) U.length U.length) U) => ROrdered W W.heap.size _ U (Nat.le_refl _) hI hnod)
          rw [hord] at HOr
          unfold BPost at HOr
          clear hord hnod hm2
          go_wp2_with fail
          refine (HPd1.out _).mono ?_
          rintro e w5 ⟨rfl, hb⟩
          replace hSt := hSt.below hb
          replace hRg := (hb.block _ (Array.getElem?_eq_some_iff.1 hRg).1).trans hRg
          clear hb
          go_wp2_with fail
          refine (HE11.out _ hSt).mono ?_
          rintro e w6 ⟨F, g, rfl, hN, hSn, hT⟩
          replace hRg := hT.keepC hRg no64
          clear hSt hT
          have hSt := hSn
          clear hSn
          obtain ⟨k1, k2⟩ := HBx.out _ hRg
          have HOr1 := Lib.hid (HOr.out w6 g (ItemsIn.toAt (fun q hq => (hN.inr q hq).2) hN.items))
          go_wp2_with fail
          refine HOr1.out.mono ?_
          rintro e w7 ⟨rfl, hb⟩
          replace hSt := hSt.below hb
          replace hN := hN.below hb
          replace hRg := (hb.block _ (Array.getElem?_eq_some_iff.1 hRg).1).trans hRg
          clear hb k1 k2 HOr1 HOr HE11
          go_wp2_with fail
          refine (HPd1.out _).mono ?_
          rintro e w8 ⟨rfl, hb⟩
          replace hSt := hSt.below hb
          replace hN := hN.below hb
          replace hRg := (hb.block _ (Array.getElem?_eq_some_iff.1 hRg).1).trans hRg
          clear hb
          go_wp2_with fail
          refine (HE21.out _ hSt).mono ?_
          rintro e w9 ⟨g9, rfl, hSn, hT⟩
          replace hRg := hT.keepC hRg no64
          replace hN := hN.tt hT
          clear hSt hT
          have hSt := hSn
          clear hSn
          have HX := Lib.hid (And.intro hSt (And.intro hRg hN))
          have H30 : Hid (LiM w9 U.length U.length (.int .i64 0) w9) := Lib.hid ⟨0, rfl, Nat.zero_le _, rfl, Below.refl _ _⟩
          clear hSt hRg hN HE21 HPd1
          go_wp2_with fail
          go_loopg [10] U.length (fun mm iv wr => Hid (LiM w9 U.length mm iv wr))
          case atStart => exact H30
          case round =>
            obtain ⟨j, rfl, hj, hm3, hb⟩ := hrel.out
            clear hrel H30
            have HM3 := Lib.hid hm3
            obtain ⟨hSt, hRg, hN⟩ := HX.out
            by_cases hlt : j < U.length
            · have r1 : (j : Int) < (U.length : Int) := by omega
              have hIt := ItemsIn.toAt (fun q hq => (hN.inr q hq).2) hN.items
              obtain ⟨t, x, q9, m9, d9, hat, hf, hC, hI0⟩ := hIt.elt j hlt
              have hR := rng_same (cells_rng hC) (hb.block g (by
                obtain ⟨g7, o7, e7, h7⟩ := hIt.addr (by omega)
                simp only [Option.some.injEq, Addr.mk.injEq, and_true] at e7
                rw [e7.1]
                exact h7))
              have HS1 := Lib.hid (HSz1.out _ t _ (hSt.below hb) (List.mem_of_getElem? hat) ((hI0.below hb (Nat.le_refl _)).more hb.size))
              rw [Nat.zero_add] at hR
              rw [show aggV t.f (.slice q9 m9 d9) = aggV x (.slice q9 m9 d9) by rw [hf]] at HS1
              clear hIt hat hf hC hI0 hSt hRg hN hm3
              obtain ⟨e_k, e_i, e_g, e_n, e_f, e_a, e_b, e_z⟩ := x
              unfold aggV at HS1
              unfold nineL at hR
              dsimp only at HS1 hR
              have HR := Lib.hid hR
              clear hR
              go_wp2_with (refine wpList_load_mid rfl 24 (.tmp 105) rfl g (j * 9) rfl [.int .i64 e_k, .int .i64 e_i, .int .i64 e_g, .string e_n, .string e_f, .int .i64 e_a, .slice q9 m9 d9, .string e_b, .int .i64 e_z] _ HR.out Tryz.underlying24 rfl hsz9 ?_)
              refine HS1.out.mono ?_
              rintro e w10 ⟨rfl, hb2⟩
              have HB2 := Lib.hid (hb.trans (hb2.mono hb.size))
              clear hb2 hb
              go_wp2_with fail
              go_roundg (U.length - (j + 1))
              case measure => have := HM3.out; omega
              case rel => exact Lib.hid ⟨j + 1, by go_num, by omega, rfl, HB2.out⟩
            · have HF : Hid (LnM w z b4 l n (3 - (k + 1)) (.int .i64 ((k + 1 : Nat) : Int)) wr) := Lib.hid ⟨k + 1, rfl, by omega, rfl, hSt.below hb, (hb.block _ (Array.getElem?_eq_some_iff.1 hRg).1).trans hRg⟩
              obtain rfl : j = U.length := by omega
              clear hSt hRg hN hb hm3
              go_wp2_with fail
              go_roundg (3 - (k + 1))
              case measure => have := HM2.out; omega
              case rel => exact HF.out
        · obtain rfl : k = 3 := by omega
          have HB := Lib.hid hSt.base
          clear hSt hRg hm2
          go_wp2_with fail
          go_ret
          exact ⟨rfl, HB.out⟩
end Go.Proofs.YtfbggmbmgohiiaaGreat.tb
