/- Texts of this seat, one behind the other: TnQ. No condition beyond theirs. -/
import Derived.BigRegion
import Derived.Deep.RegionHeld3
import Derived.Test.YtfbggmbmgohiiaaGreatM24
import Derived.Test.YtfbggmbmgohiiaaGreatM06
import Derived.Test.YtfbggmbmgohiiaaGreatM19
set_option linter.unusedSimpArgs false
set_option linter.unusedVariables false
set_option maxHeartbeats 1000000
set_option maxRecDepth 100000
namespace Go.Proofs.YtfbggmbmgohiiaaGreat.tm
open Go.RowKit mem names
variable {α : Type} {enc : α → TF × Value} {w0 wr w : World} {b n cap : Nat} {d : List α} {S : α → Prop} {c : α → α → Int} {tg : α → Nat}
def tlt (c : α → α → Int) (tg : α → Nat) (x y : α) : Prop := c x y < 0 ∨ (c x y = 0 ∧ tg x < tg y)
theorem tlt_trans (h : TP S c) {x y z : α} (hx : S x) (hy : S y) (hz : S z) (h1 : tlt c tg x y) (h2 : tlt c tg y z) : tlt c tg x z := by
  have k1 : c x y ≤ 0 := by rcases h1 with h | h <;> omega
  have k2 : c y z ≤ 0 := by rcases h2 with h | h <;> omega
  have k3 := h.trans x y z hx hy hz k1 k2
  by_cases e : c x z = 0
  · have := h.zero hx hy hz k1 k2 e
    rcases h1 with h1 | h1
    · omega
    · rcases h2 with h2 | h2
      · omega
      · exact .inr ⟨e, by omega⟩
  · exact .inl (by omega)
structure InsInv (S : α → Prop) (c : α → α → Int) (tg : α → Nat) (S1 : List α) (x : α) (S2 : List α) : Prop where
  sorted : (S1 ++ S2).Pairwise (tlt c tg)
  tags : ∀ s ∈ S1 ++ S2, tg s < tg x
  less : ∀ s ∈ S2, tlt c tg x s
  ok : ∀ s ∈ S1 ++ x :: S2, S s
theorem InsInv.step {S1 S2 : List α} {x y : α} (h : InsInv S c tg (S1 ++ [y]) x S2) (hlt : c x y < 0) : InsInv S c tg S1 x (y :: S2) := by
  obtain ⟨h1, h2, h3, h4⟩ := h
  refine ⟨by simpa using h1, fun s hs => h2 s (by simpa using hs), fun s hs => ?_, fun s hs => h4 s (by simp at hs ⊢; rcases hs with h | h | h | h <;> simp [h])⟩
  rcases List.mem_cons.1 hs with rfl | hs
  · exact .inl hlt
  · exact h3 s hs
theorem InsInv.stop {S1 S2 : List α} {x : α} (htp : TP S c) (h : InsInv S c tg S1 x S2) (hs : ∀ T y, S1 = T ++ [y] → 0 ≤ c x y) : (S1 ++ x :: S2).Pairwise (tlt c tg) := by
  obtain ⟨h1, h2, h3, h4⟩ := h
  rw [List.pairwise_append] at h1 ⊢
  refine ⟨h1.1, List.pairwise_cons.2 ⟨h3, h1.2.1⟩, fun s hs1 t ht => ?_⟩
  rcases List.mem_cons.1 ht with rfl | ht
  · rcases List.eq_nil_or_concat S1 with rfl | ⟨T, y, rfl⟩
    · simp at hs1
    · rw [List.concat_eq_append] at *
      have hy := hs T y rfl
      have e := htp.anti t y
      have hyt : tlt c tg y t := by
        by_cases e0 : c y t = 0
        · exact .inr ⟨e0, h2 y (by simp)⟩
        · exact .inl (by omega)
      rcases List.mem_append.1 hs1 with hs2 | hs2
      · have : tlt c tg s y := (List.pairwise_append.1 h1.1).2.2 s hs2 y (by simp)
        exact tlt_trans htp (h4 s (by simp [hs2])) (h4 y (by simp)) (h4 t (by simp)) this hyt
      · simp at hs2; subst hs2; exact hyt
  · exact h1.2.2 s hs1 t ht
def SortPost (c : α → α → Int) (tg : α → Nat) (enc : α → TF × Value) (w0 : World) (b n cap : Nat) (A M C : List α) (e : Ending) (w' : World) : Prop :=
  e = .returned (.tuple #[]) ∧ ∃ M', M'.Perm M ∧ M'.Pairwise (tlt c tg) ∧ RowW enc w0 w' b n cap (A ++ M' ++ C)
theorem getElem_mid (P Q : List α) (x : α) {i : Nat} (hi : i = P.length) (h : i < (P ++ x :: Q).length) : (P ++ x :: Q)[i] = x := by
  subst hi
  rw [List.getElem_append_right (Nat.le_refl _)]
  simp
def InRow (enc : α → TF × Value) (w0 wr : World) (b n cap : Nat) (A C : List α) (S : α → Prop) (c : α → α → Int) (tg : α → Nat) (T U : List α) (x : α) (a j : Nat) : Prop :=
  ∃ S1 S2, a + S1.length = j ∧ InsInv S c tg S1 x S2 ∧ (S1 ++ S2).Perm T ∧ RowW enc w0 wr b n cap (A ++ (S1 ++ x :: S2 ++ U) ++ C)
theorem RowW.cellsAt {P Q : List α} {x : α} (h : RowW enc w0 wr b n cap (P ++ x :: Q)) {i : Nat} (hi : P.length = i) : Cells wr b (i * 9) (enc x).1 (enc x).2 := by
  have := h.cells i (by simp; omega)
  rwa [getElem_mid P Q x hi.symm] at this
theorem RowW.swapAdj {P Q : List α} {x y : α} (h : RowW enc w0 wr b n cap (P ++ y :: x :: Q)) {jp : Nat} (hi : P.length = jp) : RowW enc w0 (set9 (set9 wr b ((jp + 1) * 9) (enc y).1 (enc y).2) b (jp * 9) (enc x).1 (enc x).2).drew b n cap (P ++ x :: y :: Q) := by
  subst hi
  have := h.swap (P.length + 1) P.length (by simp) (by simp)
  rw [getElem_mid P (x :: Q) y rfl, show (P ++ y :: x :: Q)[P.length + 1]'(by simp) = x by rw [List.getElem_append_right (by omega)]; simp, swap_adj'] at this
  exact this
theorem InRow.drewN {A C T U : List α} {x : α} {a j : Nat} (h : InRow enc w0 wr b n cap A C S c tg T U x a j) (q : Nat) : InRow enc w0 (wr.drewN q) b n cap A C S c tg T U x a j := by
  obtain ⟨S1, S2, h1, h2, h3, h4⟩ := h
  exact ⟨S1, S2, h1, h2, h3, h4.drewN q⟩
def OutRow (enc : α → TF × Value) (w0 wr : World) (b n cap : Nat) (A M C : List α) (c : α → α → Int) (tg : α → Nat) (a i : Nat) : Prop :=
  ∃ T0 T U, a + T.length = i ∧ M = T0 ++ U ∧ T.Perm T0 ∧ T.Pairwise (tlt c tg) ∧ RowW enc w0 wr b n cap (A ++ (T ++ U) ++ C)
theorem OutRow.take {A M C : List α} {a i e : Nat} (h : OutRow enc w0 wr b n cap A M C c tg a i) (he : a + M.length = e) (hi : i < e) (hS : ∀ x ∈ M, S x) (hT : M.Pairwise (fun x y => tg x < tg y)) :
    ∃ T0 T U x, a + T0.length = i ∧ M = T0 ++ x :: U ∧ T.Perm T0 ∧ S x ∧ InRow enc w0 wr b n cap A C S c tg T U x a i := by
  obtain ⟨T0, T, U, h1, h2, h3, h4, h5⟩ := h
  have hl := h3.length_eq
  cases U with
  | nil => subst h2; simp at he; omega
  | cons x U =>
    have hx : S x := hS x (by rw [h2]; simp)
    refine ⟨T0, T, U, x, by omega, h2, h3, hx, T, [], h1, ⟨by simpa using h4, fun s hs => ?_, fun s hs => by simp at hs, fun s hs => ?_⟩, by simp, by simpa using h5⟩
    · rw [List.append_nil] at hs
      rw [h2, List.pairwise_append] at hT
      exact hT.2.2 s (h3.mem_iff.1 hs) x (by simp)
    · rcases List.mem_append.1 hs with hs | hs
      · exact hS s (by rw [h2]; simp [h3.mem_iff.1 hs])
      · simp at hs; subst hs; exact hx
theorem InRow.done {A M C T0 T U : List α} {x : α} {a i j : Nat} (htp : TP S c) (h : InRow enc w0 wr b n cap A C S c tg T U x a j) (hM : M = T0 ++ x :: U) (hT : T.Perm T0) (hi : a + T0.length = i) (hs : ∀ S1 S2, a + S1.length = j → RowW enc w0 wr b n cap (A ++ (S1 ++ x :: S2 ++ U) ++ C) → ∀ R y, S1 = R ++ [y] → 0 ≤ c x y) : OutRow enc w0 wr b n cap A M C c tg a (i + 1) := by
  obtain ⟨S1, S2, h1, h2, h3, h4⟩ := h
  have hl := (h3.trans hT).length_eq
  refine ⟨T0 ++ [x], S1 ++ x :: S2, U, by simp at hl ⊢; omega, by simp [hM], ?_, h2.stop htp (hs S1 S2 h1 h4), h4⟩
  exact (List.perm_middle).trans ((List.Perm.cons x (h3.trans hT)).trans (List.perm_append_singleton x T0).symm)
theorem InRow.before {A C T U : List α} {x : α} {a j : Nat} (h : InRow enc w0 wr b n cap A C S c tg T U x a j) (hA : A.length = a) (hj : a < j) : ∃ jp P y Q, j = jp + 1 ∧ P.length = jp ∧ S x ∧ S y ∧ RowW enc w0 wr b n cap (P ++ y :: x :: Q) ∧ jp + 1 < n ∧
    (∀ S1 S2, a + S1.length = j → RowW enc w0 wr b n cap (A ++ (S1 ++ x :: S2 ++ U) ++ C) → ∀ R y', S1 = R ++ [y'] → RowW enc w0 wr b n cap (P ++ y :: x :: Q) → True) ∧
    (c x y < 0 → ∀ w', RowW enc w0 w' b n cap (P ++ x :: y :: Q) → InRow enc w0 w' b n cap A C S c tg T U x a jp) ∧
    (∀ w', RowW enc w0 w' b n cap (P ++ y :: x :: Q) → InRow enc w0 w' b n cap A C S c tg T U x a j) ∧
    (0 ≤ c x y → ∀ M T0 w', TP S c → RowW enc w0 w' b n cap (P ++ y :: x :: Q) → M = T0 ++ x :: U → T.Perm T0 → OutRow enc w0 w' b n cap A M C c tg a (a + T0.length + 1)) := by
  obtain ⟨S1, S2, h1, h2, h3, h4⟩ := h
  rcases List.eq_nil_or_concat S1 with rfl | ⟨R, y, rfl⟩
  · simp at h1; omega
  rw [List.concat_eq_append] at *
  have eq : ∀ (p q : α), A ++ (R ++ p :: q :: S2 ++ U) ++ C = (A ++ R) ++ p :: q :: (S2 ++ U ++ C) := fun p q => by simp
  have eq1 : A ++ (R ++ [y] ++ x :: S2 ++ U) ++ C = (A ++ R) ++ y :: x :: (S2 ++ U ++ C) := by simp
  have h4' := h4
  rw [eq1] at h4'
  have hl := h4'.len
  have h1' : a + R.length + 1 = j := by simp at h1; omega
  refine ⟨a + R.length, A ++ R, y, S2 ++ U ++ C, h1'.symm, by simp [hA], h2.ok x (by simp), h2.ok y (by simp), h4', by simp at hl; omega, fun _ _ _ _ _ _ _ _ => trivial, fun hlt w' hw => ?_, fun w' hw => ?_, fun hge M T0 w' htp hw hM hT => ?_⟩
  · refine ⟨R, y :: S2, rfl, h2.step hlt, by simpa using h3, ?_⟩
    rw [eq x y]; exact hw
  · refine ⟨R ++ [y], S2, by simp; omega, h2, h3, ?_⟩
    rw [eq1]; exact hw
  · have hll := (h3.trans hT).length_eq
    refine ⟨T0 ++ [x], R ++ [y] ++ x :: S2, U, by simp at hll ⊢; omega, by simp [hM], ?_, h2.stop htp (fun R' y' e => ?_), ?_⟩
    · exact (List.perm_middle).trans ((List.Perm.cons x (h3.trans hT)).trans (List.perm_append_singleton x T0).symm)
    · have := List.append_inj_right' e (by simp)
      simp at this; subst this; exact hge
    · rw [eq1]; exact hw
set_option maxHeartbeats 2000000 in
theorem insSort (hC : CmpW enc w0 b 96 S c) (htp : TP S c) (A M C : List α) (hS : ∀ x ∈ M, S x) (hT : M.Pairwise (fun x y => tg x < tg y)) (h : RowW enc w0 w b n cap (A ++ M ++ C)) (a e : Nat) (ha : A.length = a) (he : a + M.length = e) (hn : n ≤ 1000000) :
    Calls Tryz.prog 128 #[.slice (some ⟨b, 0, none⟩) n cap, .int .i64 a, .int .i64 e, .func (.func 96) #[] #[]] w (SortPost c tg enc w0 b n cap A M C) := by
  have hlen := h.len
  have hen : e ≤ n := by rw [← hlen]; simp; omega
  by_cases hM : M = []
  · subst hM
    simp at he
    subst he
    go_enter Tryz.func128, Tryz.ntmps128
    go_wp2_with fail
    refine wp_loop_rounds 1 ?_
    rw [rounds_succ]
    go_wp2_with fail
    go_end0
    exact ⟨rfl, [], by simp, by simp, by simpa using h⟩
  have hae : a < e := by have := List.length_pos_iff.2 hM; omega
  have HTake := Lib.hid (fun wr i (h : OutRow enc w0 wr b n cap A M C c tg a i) (hi : i < e) => h.take he hi hS hT)
  have HStart : Hid (OutRow enc w0 w b n cap A M C c tg a (a + 1)) := Lib.hid (by
    cases M with
    | nil => exact absurd rfl hM
    | cons x M => exact ⟨[x], [x], M, rfl, rfl, List.Perm.refl _, by simp, by simpa using h⟩)
  have HEnd : Hid (∀ wr, OutRow enc w0 wr b n cap A M C c tg a e → ∃ M', M'.Perm M ∧ M'.Pairwise (tlt c tg) ∧ RowW enc w0 wr b n cap (A ++ M' ++ C)) := Lib.hid (by
    rintro wr ⟨T0, T, U, h1, h2, h3, h4, h5⟩
    have hl := h3.length_eq
    have hU : U = [] := by
      have := congrArg List.length h2
      simp at this
      exact List.eq_nil_of_length_eq_zero (by omega)
    subst hU
    rw [List.append_nil] at h2 h5
    subst h2
    exact ⟨T, h3, h4, h5⟩)
  have HA := Lib.hid ha
  have HSh := Lib.hid hC.shape
  have HCall := Lib.hid hC.call
  have HTP := Lib.hid htp
  clear hS hT ha he hlen h hM hC htp
  go_enter Tryz.func128, Tryz.ntmps128
  go_wp2_with fail
  go_loopw [8] (fun s wr => ∃ i : Nat, s = .int .i64 i ∧ a < i ∧ i ≤ e ∧ Hid (OutRow enc w0 wr b n cap A M C c tg a i)) (fun s _ => e - (intOf s).toNat)
  case atStart => exact ⟨a + 1, by go_num, by omega, by omega, HStart⟩
  case round =>
    obtain ⟨i, rfl, hai, hie, HR⟩ := hrel
    by_cases hlt : i < e
    · obtain ⟨T0, T, U, x, hi0, hM, hT, hSx, hIn⟩ := HTake.out wr i HR.out hlt
      have HM := Lib.hid hM
      have HT := Lib.hid hT
      have HIn := Lib.hid hIn
      have HI0 := Lib.hid hi0
      have hsx := HSh.out x hSx
      clear hM hT hIn HR hi0
      go_wp2_with fail
      obtain ⟨wo, rfl⟩ : ∃ wo : World, wo = wr := ⟨_, rfl⟩
      go_loopw [9] (fun s wr => ∃ j : Nat, s = .int .i64 j ∧ a ≤ j ∧ j ≤ i ∧ Hid (InRow enc w0 wr b n cap A C S c tg T U x a j)) (fun s _ => (intOf s).toNat)
      case atStart => exact ⟨i, rfl, by omega, by omega, HIn⟩
      case round =>
        obtain ⟨j, rfl, haj, hji, HJ⟩ := hrel
        by_cases hlj : a < j
        · obtain ⟨jp, P, y, Q, rfl, hP, _, hSy, hRow, hjn, _, hMove, _, hDone⟩ := HJ.out.before HA.out hlj
          have HMove := Lib.hid hMove
          have HDone := Lib.hid hDone
          have HRow := Lib.hid hRow
          have HP := Lib.hid hP
          have hsy := HSh.out y hSy
          have hcx : Cells wr b ((jp + 1) * 9) (enc x).1 (enc x).2 := RowW.cellsAt (P := P ++ [y]) (Q := Q) (by simpa using hRow) (by simp [hP])
          have hcy : Cells wr b (jp * 9) (enc y).1 (enc y).2 := hRow.cellsAt hP
          have hbl : b < wr.heap.size := hRow.lt
          have HC := Lib.hid (HCall.out wr.drew x y (hRow.touch.drewN 1) hSx hSy)
          have HFz : Hid (∀ o, wr.frozen? ⟨b, o, none⟩ = false) := Lib.hid (fun o => hRow.frozen o)
          obtain ⟨p1, m1, c1, ex⟩ := hsx
          obtain ⟨p2, m2, c2, ey⟩ := hsy
          have hZc : ∃ z, c x y = z := ⟨_, rfl⟩
          obtain ⟨z, hz⟩ := hZc
          have HZ := Lib.hid hz
          rw [hz] at HC
          obtain ⟨X, eX⟩ : ∃ X, enc x = X := ⟨_, rfl⟩
          obtain ⟨Y, eY⟩ : ∃ Y, enc y = Y := ⟨_, rfl⟩
          have HEX := Lib.hid eX
          have HEY := Lib.hid eY
          rw [eX] at hcx HC ex
          rw [eY] at hcy HC ey
          obtain ⟨⟨k1, i1, g1, n1, fn1, a1, by1, s1⟩, v1⟩ := X
          obtain ⟨⟨k2, i2, g2, n2, fn2, a2, by2, s2⟩, v2⟩ := Y
          dsimp only at hcx hcy HC ex ey
          subst ex
          subst ey
          clear eX eY hz hP hRow hMove hDone
          have HA1 := Lib.hid hcx
          have HB1 := Lib.hid hcy
          unfold aggV IPostC at HC
          dsimp only at HC
          obtain ⟨x0, x1, x2, x3, x4, x5, x6, x7, x8⟩ := hcx
          obtain ⟨y0, y1, y2, y3, y4, y5, y6, y7, y8⟩ := hcy
          dsimp only at x0 x1 x2 x3 x4 x5 x6 x7 x8 y0 y1 y2 y3 y4 y5 y6 y7 y8
          have r1 : (a : Int) < (jp : Int) + 1 := by omega
          have r2 : (jp : Int) + 1 < (n : Int) := by omega
          have r3 : (jp : Int) < (n : Int) := by omega
          have r4 : (0 : Int) ≤ (jp : Int) + 1 := by omega
          have r5 : ((jp : Int) + 1).toNat = jp + 1 := by omega
          have r6 : IntKind.i64.wrap (jp : Int) = (jp : Int) := IntWalk.i64_in _ (by omega)
          by_cases hlz : z < 0
          · have q1 : decide (z < 0) = true := decide_eq_true hlz
            go_wp2_with fail
            go_region_held3 (fun w' => (w'.cell? ⟨b, (jp + 1) * 9, none⟩ = some (.int .i64 k1) ∧ w'.cell? ⟨b, (jp + 1) * 9 + 1, none⟩ = some (.int .i64 i1) ∧ w'.cell? ⟨b, (jp + 1) * 9 + 1 + 1, none⟩ = some (.int .i64 g1) ∧ w'.cell? ⟨b, (jp + 1) * 9 + 1 + 1 + 1, none⟩ = some (.string n1) ∧ w'.cell? ⟨b, (jp + 1) * 9 + 1 + 1 + 1 + 1, none⟩ = some (.string fn1) ∧ w'.cell? ⟨b, (jp + 1) * 9 + 1 + 1 + 1 + 1 + 1, none⟩ = some (.int .i64 a1) ∧ w'.cell? ⟨b, (jp + 1) * 9 + 1 + 1 + 1 + 1 + 1 + 1, none⟩ = some (.slice p1 m1 c1) ∧ w'.cell? ⟨b, (jp + 1) * 9 + 1 + 1 + 1 + 1 + 1 + 1 + 1, none⟩ = some (.string by1) ∧ w'.cell? ⟨b, (jp + 1) * 9 + 1 + 1 + 1 + 1 + 1 + 1 + 1 + 1, none⟩ = some (.int .i64 s1)) ∧ w'.cell? ⟨b, jp * 9, none⟩ = some (.int .i64 k2) ∧ w'.cell? ⟨b, jp * 9 + 1, none⟩ = some (.int .i64 i2) ∧ w'.cell? ⟨b, jp * 9 + 1 + 1, none⟩ = some (.int .i64 g2) ∧ w'.cell? ⟨b, jp * 9 + 1 + 1 + 1, none⟩ = some (.string n2) ∧ w'.cell? ⟨b, jp * 9 + 1 + 1 + 1 + 1, none⟩ = some (.string fn2) ∧ w'.cell? ⟨b, jp * 9 + 1 + 1 + 1 + 1 + 1, none⟩ = some (.int .i64 a2) ∧ w'.cell? ⟨b, jp * 9 + 1 + 1 + 1 + 1 + 1 + 1, none⟩ = some (.slice p2 m2 c2) ∧ w'.cell? ⟨b, jp * 9 + 1 + 1 + 1 + 1 + 1 + 1 + 1, none⟩ = some (.string by2) ∧ w'.cell? ⟨b, jp * 9 + 1 + 1 + 1 + 1 + 1 + 1 + 1 + 1, none⟩ = some (.int .i64 s2)) (go_keep)
              (first
                | (go_at_call 96; (with_reducible refine HC.out.mono ?_); rintro e5 w5 ⟨rfl, hb5⟩; have HA5 := Lib.hid (HA1.out.same (hb5.block b hbl)); have HB5 := Lib.hid (HB1.out.same (hb5.block b hbl)); obtain ⟨z0, z1, z2, z3, z4, z5, z6, z7, z8⟩ := HA5.out; obtain ⟨t0, t1, t2, t3, t4, t5, t6, t7, t8⟩ := HB5.out; dsimp only at z0 z1 z2 z3 z4 z5 z6 z7 z8 t0 t1 t2 t3 t4 t5 t6 t7 t8))
            have hr5 : RowW enc w0 w5 b n cap (P ++ y :: x :: Q) := (HRow.out.drewN 1).below hb5 HRow.out.touch.size
            have hfin := hr5.swapAdj HP.out
            rw [HEX.out, HEY.out] at hfin
            unfold set9 at hfin
            dsimp only at hfin
            have HFin := Lib.hid (HMove.out (by rw [HZ.out]; exact hlz) _ hfin)
            have hfz5 : ∀ o, w5.frozen? ⟨b, o, none⟩ = false := fun o => hr5.frozen o
            clear hr5 hfin hb5 HC HA1 HB1 HA5 HB5 HRow HDone HMove HFz x0 x1 x2 x3 x4 x5 x6 x7 x8 y0 y1 y2 y3 y4 y5 y6 y7 y8
            go_wp2_with fail
            go_big_region
            go_wp2_with fail
            go_roundw
            case rel => exact ⟨jp, by go_num, by omega, by omega, HFin⟩
            case measure => simp [intOf]
          · have q1 : decide (z < 0) = false := decide_eq_false hlz
            go_wp2_with fail
            go_region_held3 (fun w' => (w'.cell? ⟨b, (jp + 1) * 9, none⟩ = some (.int .i64 k1) ∧ w'.cell? ⟨b, (jp + 1) * 9 + 1, none⟩ = some (.int .i64 i1) ∧ w'.cell? ⟨b, (jp + 1) * 9 + 1 + 1, none⟩ = some (.int .i64 g1) ∧ w'.cell? ⟨b, (jp + 1) * 9 + 1 + 1 + 1, none⟩ = some (.string n1) ∧ w'.cell? ⟨b, (jp + 1) * 9 + 1 + 1 + 1 + 1, none⟩ = some (.string fn1) ∧ w'.cell? ⟨b, (jp + 1) * 9 + 1 + 1 + 1 + 1 + 1, none⟩ = some (.int .i64 a1) ∧ w'.cell? ⟨b, (jp + 1) * 9 + 1 + 1 + 1 + 1 + 1 + 1, none⟩ = some (.slice p1 m1 c1) ∧ w'.cell? ⟨b, (jp + 1) * 9 + 1 + 1 + 1 + 1 + 1 + 1 + 1, none⟩ = some (.string by1) ∧ w'.cell? ⟨b, (jp + 1) * 9 + 1 + 1 + 1 + 1 + 1 + 1 + 1 + 1, none⟩ = some (.int .i64 s1)) ∧ w'.cell? ⟨b, jp * 9, none⟩ = some (.int .i64 k2) ∧ w'.cell? ⟨b, jp * 9 + 1, none⟩ = some (.int .i64 i2) ∧ w'.cell? ⟨b, jp * 9 + 1 + 1, none⟩ = some (.int .i64 g2) ∧ w'.cell? ⟨b, jp * 9 + 1 + 1 + 1, none⟩ = some (.string n2) ∧ w'.cell? ⟨b, jp * 9 + 1 + 1 + 1 + 1, none⟩ = some (.string fn2) ∧ w'.cell? ⟨b, jp * 9 + 1 + 1 + 1 + 1 + 1, none⟩ = some (.int .i64 a2) ∧ w'.cell? ⟨b, jp * 9 + 1 + 1 + 1 + 1 + 1 + 1, none⟩ = some (.slice p2 m2 c2) ∧ w'.cell? ⟨b, jp * 9 + 1 + 1 + 1 + 1 + 1 + 1 + 1, none⟩ = some (.string by2) ∧ w'.cell? ⟨b, jp * 9 + 1 + 1 + 1 + 1 + 1 + 1 + 1 + 1, none⟩ = some (.int .i64 s2)) (go_keep)
              (first
                | (go_at_call 96; (with_reducible refine HC.out.mono ?_); rintro e5 w5 ⟨rfl, hb5⟩; have HA5 := Lib.hid (HA1.out.same (hb5.block b hbl)); have HB5 := Lib.hid (HB1.out.same (hb5.block b hbl)); obtain ⟨z0, z1, z2, z3, z4, z5, z6, z7, z8⟩ := HA5.out; obtain ⟨t0, t1, t2, t3, t4, t5, t6, t7, t8⟩ := HB5.out; dsimp only at z0 z1 z2 z3 z4 z5 z6 z7 z8 t0 t1 t2 t3 t4 t5 t6 t7 t8))
            have hr5 : RowW enc w0 w5 b n cap (P ++ y :: x :: Q) := (HRow.out.drewN 1).below hb5 HRow.out.touch.size
            have HFin := Lib.hid (HDone.out (by rw [HZ.out]; omega) M T0 w5 HTP.out hr5 HM.out HT.out)
            rw [HI0.out] at HFin
            clear hr5 hb5 HC HA1 HB1 HA5 HB5 HRow HDone HMove HFz x0 x1 x2 x3 x4 x5 x6 x7 x8 y0 y1 y2 y3 y4 y5 y6 y7 y8
            go_wp2_with fail
            go_roundw
            case rel => exact ⟨i + 1, by go_num, by omega, by omega, HFin⟩
            case measure => simp [intOf]; omega
        · have hja : j = a := by omega
          have HJA := Lib.hid hja
          have q1 : ¬ ((a : Int) < (j : Int)) := by omega
          have q2 : decide ((a : Int) < (j : Int)) = false := decide_eq_false q1
          have q3 : ¬ a < j := by omega
          have q4 : decide (a < j) = false := decide_eq_false q3
          clear hja hlj
          have HJ2 := Lib.hid (HJ.out.drewN 1)
          go_wp2_with fail
          go_big_region
          change Hid (InRow enc w0 wr.drew b n cap A C S c tg T U x a j) at HJ2
          generalize wr.drew = w5 at *
          go_wp2_with fail
          go_roundw
          case rel => exact ⟨i + 1, by go_num, by omega, by omega, Lib.hid (HJ2.out.done HTP.out HM.out HT.out HI0.out (fun S1 S2 h1 _ R y e => by subst e; have := HJA.out; simp at h1; omega))⟩
          case measure => simp [intOf]; omega
    · obtain rfl : i = e := by omega
      go_wp2_with fail
      go_end0
      exact ⟨rfl, HEnd.out _ HR.out⟩
end Go.Proofs.YtfbggmbmgohiiaaGreat.tm
