/- Several texts in one, one behind the other: OrD, ToA, ToB. No condition beyond theirs. -/
import Init.Data.List.Lemmas
import Derived.Test.YthgfdpamnepnfaaGo
/- Plain facts on merging sorted lists, rotating, and blocks. No condition. -/
namespace Go.Proofs.Ythgfdpamnepnfaa.tm
set_option linter.unusedVariables false
set_option linter.unusedSimpArgs false

variable {α : Type} {lt : α → α → Prop} {S : α → Prop}
def TrOn (S : α → Prop) (lt : α → α → Prop) : Prop := ∀ x y z, S x → S y → S z → lt x y → lt y z → lt x z
theorem last_ge {T : List α} {x z : α} (h : (T ++ [z]).Pairwise lt) (hx : x ∈ T ++ [z]) : x = z ∨ lt x z := by
  rw [List.pairwise_append] at h
  rcases List.mem_append.1 hx with hx | hx
  · exact .inr (h.2.2 x hx z (by simp))
  · simp at hx; exact .inl hx
theorem head_le {U : List α} {x y : α} (h : (y :: U).Pairwise lt) (hx : x ∈ y :: U) : x = y ∨ lt y x := by
  rcases List.mem_cons.1 hx with hx | hx
  · exact .inl hx
  · exact .inr ((List.pairwise_cons.1 h).1 x hx)
/-- two sorted lists: the last of the one is less than the first of the other -/
theorem lt_lists (htr : TrOn S lt) {P Q : List α} (hP : P.Pairwise lt) (hQ : Q.Pairwise lt) (hSP : ∀ x ∈ P, S x) (hSQ : ∀ x ∈ Q, S x) (h : ∀ T x U y, P = T ++ [x] → Q = y :: U → lt x y) : ∀ x ∈ P, ∀ y ∈ Q, lt x y := by
  intro x hx y hy
  rcases List.eq_nil_or_concat P with rfl | ⟨T, z, rfl⟩
  · simp at hx
  rw [List.concat_eq_append] at *
  cases Q with
  | nil => simp at hy
  | cons u U =>
    have h0 := h T z U u rfl rfl
    have sz := hSP z (by simp)
    have su := hSQ u (by simp)
    have h1 : lt x u := by
      rcases last_ge hP hx with rfl | h1
      · exact h0
      · exact htr _ _ _ (hSP x hx) sz su h1 h0
    rcases head_le hQ hy with rfl | h2
    · exact h1
    · exact htr _ _ _ (hSP x hx) su (hSQ y hy) h1 h2
/-- what a merge by halves gives -/
theorem merge_halves (htr : TrOn S lt) {L1 L2 R1 R2 M1 M2 : List α} (hS : ∀ x ∈ (L1 ++ L2) ++ (R1 ++ R2), S x) (hL : (L1 ++ L2).Pairwise lt) (hR : (R1 ++ R2).Pairwise lt)
    (h1 : ∀ T x U y, L1 = T ++ [x] → R2 = y :: U → lt x y) (h2 : ∀ T x U y, R1 = T ++ [x] → L2 = y :: U → lt x y)
    (p1 : M1.Perm (L1 ++ R1)) (p2 : M2.Perm (L2 ++ R2)) (s1 : M1.Pairwise lt) (s2 : M2.Pairwise lt) :
    (M1 ++ M2).Perm ((L1 ++ L2) ++ (R1 ++ R2)) ∧ (M1 ++ M2).Pairwise lt := by
  have hL' := List.pairwise_append.1 hL
  have hR' := List.pairwise_append.1 hR
  have sL1 : ∀ x ∈ L1, S x := fun x hx => hS x (by simp [hx])
  have sL2 : ∀ x ∈ L2, S x := fun x hx => hS x (by simp [hx])
  have sR1 : ∀ x ∈ R1, S x := fun x hx => hS x (by simp [hx])
  have sR2 : ∀ x ∈ R2, S x := fun x hx => hS x (by simp [hx])
  have k1 := lt_lists htr hL'.1 hR'.2.1 sL1 sR2 h1
  have k2 := lt_lists htr hR'.1 hL'.2.1 sR1 sL2 h2
  constructor
  · refine (p1.append p2).trans ?_
    have e : (L2 ++ R1).Perm (R1 ++ L2) := List.perm_append_comm
    rw [List.append_assoc, List.append_assoc]
    refine List.Perm.append_left L1 ?_
    rw [← List.append_assoc, ← List.append_assoc]
    exact (e.symm).append_right R2
  · rw [List.pairwise_append]
    refine ⟨s1, s2, fun x hx y hy => ?_⟩
    rcases List.mem_append.1 (p1.mem_iff.1 hx) with hx | hx <;> rcases List.mem_append.1 (p2.mem_iff.1 hy) with hy | hy
    · exact hL'.2.2 x hx y hy
    · exact k1 x hx y hy
    · exact k2 x hx y hy
    · exact hR'.2.2 x hx y hy
/-- two places of a list are exchanged -/
theorem swap_far (P Q R : List α) (x y : α) (i j : Nat) (hi : P.length = i) (hj : P.length + 1 + Q.length = j) : ((P ++ x :: (Q ++ y :: R)).set i y).set j x = P ++ y :: (Q ++ x :: R) := by
  subst hi hj
  rw [List.set_append_right _ _ (Nat.le_refl _), List.set_append_right _ _ (by omega)]
  simp only [Nat.sub_self, List.set_cons_zero]
  rw [show P.length + 1 + Q.length - P.length = Q.length + 1 by omega, List.set_cons_succ, List.set_append_right _ _ (Nat.le_refl _)]
  simp
theorem get_far (P Q R : List α) (x y : α) (j : Nat) (hj : P.length + 1 + Q.length = j) (h : j < (P ++ x :: (Q ++ y :: R)).length) : (P ++ x :: (Q ++ y :: R))[j] = y := by
  subst hj
  rw [List.getElem_append_right (by omega)]
  simp only [show P.length + 1 + Q.length - P.length = Q.length + 1 by omega, List.getElem_cons_succ]
  rw [List.getElem_append_right (Nat.le_refl _)]
  simp
/-- full blocks, and the block of each in the first list -/
inductive Full (lt : α → α → Prop) (bs : Nat) : List α → List α → Prop
  | nil : Full lt bs [] []
  | snoc {D M x y : List α} : Full lt bs D M → x.length = bs → x.Perm y → x.Pairwise lt → Full lt bs (D ++ x) (M ++ y)
inductive Blks (lt : α → α → Prop) (bs : Nat) : List α → List α → Prop
  | last {x y : List α} : x.length ≤ bs → x.Perm y → x.Pairwise lt → Blks lt bs x y
  | cons {x y D M : List α} : x.length = bs → x.Perm y → x.Pairwise lt → Blks lt bs D M → Blks lt bs (x ++ D) (y ++ M)
theorem Full.blks {bs : Nat} {D M : List α} (h : Full lt bs D M) : ∀ {D' M' : List α}, Blks lt bs D' M' → Blks lt bs (D ++ D') (M ++ M') := by
  induction h with
  | nil => intro D' M' h; exact h
  | snoc h hl hp hs ih =>
    intro D' M' h'
    rw [List.append_assoc, List.append_assoc]
    exact ih (.cons hl hp hs h')
theorem Blks.perm {bs : Nat} {D M : List α} (h : Blks lt bs D M) : D.Perm M := by
  induction h with
  | last _ hp _ => exact hp
  | cons _ hp _ _ ih => exact hp.append ih
theorem Full.perm {bs : Nat} {D M : List α} (h : Full lt bs D M) : D.Perm M := by
  induction h with
  | nil => exact .nil
  | snoc _ _ hp _ ih => exact ih.append hp
/-- at least two blocks are there -/
theorem Blks.two {bs : Nat} {D M : List α} (h : Blks lt bs D M) (hb : 0 < bs) (hl : 2 * bs ≤ D.length) : ∃ x1 x2 D' y1 y2 M', D = x1 ++ (x2 ++ D') ∧ M = y1 ++ (y2 ++ M') ∧ x1.length = bs ∧ x2.length = bs ∧ x1.Perm y1 ∧ x2.Perm y2 ∧ x1.Pairwise lt ∧ x2.Pairwise lt ∧ Blks lt bs D' M' := by
  cases h with
  | last h1 _ _ => omega
  | cons h1 p1 s1 h =>
    cases h with
    | last h2 p2 s2 =>
      rename_i x y x' y'
      simp at hl
      exact ⟨x, x', [], y, y', [], by simp, by simp, h1, by omega, p1, p2, s1, s2, .last (by simp) .nil .nil⟩
    | cons h2 p2 s2 h => exact ⟨_, _, _, _, _, _, rfl, rfl, h1, h2, p1, p2, s1, s2, h⟩
/-- fewer than two whole blocks, but more than one -/
theorem Blks.rest {bs : Nat} {D M : List α} (h : Blks lt bs D M) (hb : 0 < bs) (hl : D.length < 2 * bs) (hm : bs < D.length) : ∃ x1 x2 y1 y2, D = x1 ++ x2 ∧ M = y1 ++ y2 ∧ x1.length = bs ∧ x2 ≠ [] ∧ x1.Perm y1 ∧ x2.Perm y2 ∧ x1.Pairwise lt ∧ x2.Pairwise lt := by
  cases h with
  | last h1 _ _ => omega
  | cons h1 p1 s1 h =>
    cases h with
    | last h2 p2 s2 => exact ⟨_, _, _, _, rfl, rfl, h1, by rintro rfl; simp at hm; omega, p1, p2, s1, s2⟩
    | cons h2 p2 s2 h => simp at hl; omega
theorem Blks.one {bs : Nat} {D M : List α} (h : Blks lt bs D M) (hl : D.length ≤ bs) : D.Perm M ∧ D.Pairwise lt := by
  cases h with
  | last h1 p s => exact ⟨p, s⟩
  | cons h1 p1 s1 h =>
    rename_i x y D' M'
    simp at hl
    have e : D' = [] := List.eq_nil_of_length_eq_zero (by omega)
    subst e
    have := h.perm.length_eq
    have e : M' = [] := List.eq_nil_of_length_eq_zero (by simpa using this.symm)
    subst e
    simpa using ⟨p1, s1⟩
end Go.Proofs.Ythgfdpamnepnfaa.tm
/- slices.swapRangeCmpFunc, slices.rotateCmpFunc at terms. Conditions: as said. -/
namespace Go.Proofs.Ythgfdpamnepnfaa.tm
open Go.RowKit mem names
set_option linter.unusedVariables false
set_option linter.unusedSimpArgs false
set_option maxHeartbeats 1000000
set_option maxRecDepth 100000

variable {α : Type} {enc : α → TF × Value} {w0 wr w : World} {b n cap : Nat} {d : List α} {S : α → Prop} {c : α → α → Int} {tg : α → Nat}
theorem RowW.swapFar {P Q R : List α} {x y : α} (h : RowW enc w0 wr b n cap (P ++ x :: (Q ++ y :: R))) {i j : Nat} (hi : P.length = i) (hj : P.length + 1 + Q.length = j) : RowW enc w0 (set9 (set9 wr b (i * 9) (enc y).1 (enc y).2) b (j * 9) (enc x).1 (enc x).2).drew b n cap (P ++ y :: (Q ++ x :: R)) := by
  have h1 : i < (P ++ x :: (Q ++ y :: R)).length := by simp; omega
  have h2 : j < (P ++ x :: (Q ++ y :: R)).length := by simp; omega
  have e1 : (P ++ x :: (Q ++ y :: R))[i] = x := getElem_mid P _ x hi.symm h1
  have e2 : (P ++ x :: (Q ++ y :: R))[j] = y := get_far P Q R x y j hj h2
  have := h.swap i j h1 h2
  rw [e1, e2, swap_far P Q R x y i j hi hj] at this
  exact this
theorem RowW.cellsFar {P Q R : List α} {x y : α} (h : RowW enc w0 wr b n cap (P ++ x :: (Q ++ y :: R))) {j : Nat} (hj : P.length + 1 + Q.length = j) : Cells wr b (j * 9) (enc y).1 (enc y).2 := by
  have h2 : j < (P ++ x :: (Q ++ y :: R)).length := by simp; omega
  have := h.cells j h2
  rwa [get_far P Q R x y j hj h2] at this
def UnitRow (enc : α → TF × Value) (w0 : World) (b n cap : Nat) (d : List α) (e : Ending) (w' : World) : Prop := e = .returned (.tuple #[]) ∧ RowW enc w0 w' b n cap d
def SwapInv (enc : α → TF × Value) (w0 wr : World) (b n cap : Nat) (A X M Y C : List α) (i : Nat) : Prop :=
  ∃ X1 X2 Y1 Y2, X = X1 ++ X2 ∧ Y = Y1 ++ Y2 ∧ X1.length = i ∧ Y1.length = i ∧ RowW enc w0 wr b n cap (A ++ (Y1 ++ (X2 ++ (M ++ (X1 ++ (Y2 ++ C))))))
theorem SwapInv.take {A X M Y C : List α} {i k a b2 : Nat} (h : SwapInv enc w0 wr b n cap A X M Y C i) (ha : A.length = a) (hk : X.length = k) (hk2 : Y.length = k) (hb : a + k + M.length = b2) (hi : i < k) (hS : ∀ x ∈ X ++ Y, S x) :
    ∃ P Q R x y, P.length = a + i ∧ P.length + 1 + Q.length = b2 + i ∧ S x ∧ S y ∧ RowW enc w0 wr b n cap (P ++ x :: (Q ++ y :: R)) ∧ (∀ w', RowW enc w0 w' b n cap (P ++ y :: (Q ++ x :: R)) → SwapInv enc w0 w' b n cap A X M Y C (i + 1)) := by
  obtain ⟨X1, X2, Y1, Y2, rfl, rfl, h1, h2, h3⟩ := h
  cases X2 with
  | nil => simp at hk; omega
  | cons x X2 =>
    cases Y2 with
    | nil => simp at hk2; omega
    | cons y Y2 =>
      simp at hk hk2
      refine ⟨A ++ Y1, X2 ++ (M ++ X1), Y2 ++ C, x, y, by simp; omega, by simp; omega, hS x (by simp), hS y (by simp), by simpa using h3, fun w' hw => ?_⟩
      exact ⟨X1 ++ [x], X2, Y1 ++ [y], Y2, by simp, by simp, by simp; omega, by simp; omega, by simpa using hw⟩
theorem SwapInv.done {A X M Y C : List α} {k : Nat} (h : SwapInv enc w0 wr b n cap A X M Y C k) (hk : X.length = k) (hk2 : Y.length = k) : RowW enc w0 wr b n cap (A ++ (Y ++ (M ++ (X ++ C)))) := by
  obtain ⟨X1, X2, Y1, Y2, rfl, rfl, h1, h2, h3⟩ := h
  have e1 : X2 = [] := List.eq_nil_of_length_eq_zero (by simp at hk; omega)
  have e2 : Y2 = [] := List.eq_nil_of_length_eq_zero (by simp at hk2; omega)
  subst e1 e2
  simpa using h3
set_option maxHeartbeats 2000000 in
theorem swapRange (hsh : ∀ x, S x → ∃ p m k, (enc x).2 = .slice p m k) (A X M Y C : List α) (hS : ∀ x ∈ X ++ Y, S x) (h : RowW enc w0 w b n cap (A ++ (X ++ (M ++ (Y ++ C))))) (a b2 k : Nat) (ha : A.length = a) (hk : X.length = k) (hk2 : Y.length = k) (hb : a + k + M.length = b2) (hn : n ≤ 1000000) (fv : Value) :
    Calls Try.prog 104 #[.slice (some ⟨b, 0, none⟩) n cap, .int .i64 a, .int .i64 b2, .int .i64 k, fv] w (UnitRow enc w0 b n cap (A ++ (Y ++ (M ++ (X ++ C))))) := by
  have hlen := h.len
  have hbn : b2 + k ≤ n := by rw [← hlen]; simp; omega
  have hab : a + k ≤ b2 := by omega
  have HTake := Lib.hid (fun wr i (h : SwapInv enc w0 wr b n cap A X M Y C i) (hi : i < k) => h.take ha hk hk2 hb hi hS)
  have HEnd := Lib.hid (fun wr (h : SwapInv enc w0 wr b n cap A X M Y C k) => h.done hk hk2)
  have HStart : Hid (SwapInv enc w0 w b n cap A X M Y C 0) := Lib.hid ⟨[], X, [], Y, rfl, rfl, rfl, rfl, by simpa using h⟩
  have HSh := Lib.hid hsh
  clear hS ha hk hk2 hb hlen h hsh
  go_enter Try.func104, Try.ntmps104
  go_wp2_with fail
  go_loopw [10] (fun s wr => ∃ i : Nat, s = .int .i64 i ∧ i ≤ k ∧ Hid (SwapInv enc w0 wr b n cap A X M Y C i)) (fun s _ => k - (intOf s).toNat)
  case atStart => exact ⟨0, by go_num, by omega, HStart⟩
  case round =>
    obtain ⟨i, rfl, hik, HR⟩ := hrel
    by_cases hlt : i < k
    · obtain ⟨P, Q, R, x, y, hP, hQ, hSx, hSy, hRow, hMove⟩ := HTake.out wr i HR.out hlt
      have HMove := Lib.hid hMove
      have hsx := HSh.out x hSx
      have hsy := HSh.out y hSy
      obtain ⟨p, hp⟩ : ∃ p, p = a + i := ⟨_, rfl⟩
      obtain ⟨q, hq⟩ : ∃ q, q = b2 + i := ⟨_, rfl⟩
      rw [← hp] at hP
      rw [← hq] at hQ
      have hcx : Cells wr b (p * 9) (enc x).1 (enc x).2 := hRow.cellsAt hP
      have hcy : Cells wr b (q * 9) (enc y).1 (enc y).2 := hRow.cellsFar hQ
      have hbl : b < wr.heap.size := hRow.lt
      have HFz : Hid (∀ o, wr.frozen? ⟨b, o, none⟩ = false) := Lib.hid (fun o => hRow.frozen o)
      have hfin := hRow.swapFar hP hQ
      obtain ⟨p1, m1, c1, ex⟩ := hsx
      obtain ⟨p2, m2, c2, ey⟩ := hsy
      obtain ⟨X9, eX⟩ : ∃ X9, enc x = X9 := ⟨_, rfl⟩
      obtain ⟨Y9, eY⟩ : ∃ Y9, enc y = Y9 := ⟨_, rfl⟩
      have HEX := Lib.hid eX
      have HEY := Lib.hid eY
      rw [eX] at hcx ex
      rw [eY] at hcy ey
      obtain ⟨⟨k1, i1, g1, n1, fn1, a1, by1, s1⟩, v1⟩ := X9
      obtain ⟨⟨k2, i2, g2, n2, fn2, a2, by2, s2⟩, v2⟩ := Y9
      dsimp only at hcx hcy ex ey
      subst ex
      subst ey
      clear eX eY
      rw [HEX.out, HEY.out] at hfin
      unfold set9 at hfin
      dsimp only at hfin
      have HFin := Lib.hid (HMove.out _ hfin)
      obtain ⟨x0, x1, x2, x3, x4, x5, x6, x7, x8⟩ := hcx
      obtain ⟨y0, y1, y2, y3, y4, y5, y6, y7, y8⟩ := hcy
      dsimp only at x0 x1 x2 x3 x4 x5 x6 x7 x8 y0 y1 y2 y3 y4 y5 y6 y7 y8
      have hfz := HFz.out
      have r1 : (p : Int) < (n : Int) := by omega
      have r2 : (q : Int) < (n : Int) := by omega
      have r3 : (a : Int) + (i : Int) = (p : Int) := by omega
      have r4 : (b2 : Int) + (i : Int) = (q : Int) := by omega
      have r5 : IntKind.i64.wrap (p : Int) = (p : Int) := IntWalk.i64_in _ (by omega)
      have r6 : IntKind.i64.wrap (q : Int) = (q : Int) := IntWalk.i64_in _ (by omega)
      clear hP hQ hRow hMove hfin hp hq HFz HEX HEY HMove
      go_wp2_with fail
      go_big_region
      go_wp2_with fail
      go_roundw
      case rel => exact ⟨i + 1, by go_num, by omega, HFin⟩
      case measure => simp [intOf]; omega
    · obtain rfl : i = k := by omega
      go_wp2_with fail
      go_end0
      exact ⟨rfl, HEnd.out _ HR.out⟩
def RotInv (enc : α → TF × Value) (w0 wr : World) (b n cap : Nat) (A U V C : List α) (m i j : Nat) : Prop :=
  ∃ P X Y Q, P.length + A.length + i = m ∧ X.length = i ∧ Y.length = j ∧ P ++ (Y ++ (X ++ Q)) = V ++ U ∧ (∀ x ∈ X ++ Y, x ∈ U ++ V) ∧ RowW enc w0 wr b n cap (A ++ (P ++ (X ++ (Y ++ (Q ++ C)))))
theorem RotInv.big {A U V C : List α} {m i j : Nat} (h : RotInv enc w0 wr b n cap A U V C m i j) (hij : j < i) :
    ∃ A' X M Y C', RowW enc w0 wr b n cap (A' ++ (X ++ (M ++ (Y ++ C')))) ∧ (∀ x ∈ X ++ Y, x ∈ U ++ V) ∧ A'.length + i = m ∧ X.length = j ∧ Y.length = j ∧ (m - i) + j + M.length = m ∧ i ≤ m ∧ m + j ≤ n ∧ (∀ w', RowW enc w0 w' b n cap (A' ++ (Y ++ (M ++ (X ++ C')))) → RotInv enc w0 w' b n cap A U V C m (i - j) j) := by
  obtain ⟨P, X, Y, Q, h1, h2, h3, h4, h6, h5⟩ := h
  have hl := h5.len
  simp at hl
  refine ⟨A ++ P, X.take j, X.drop j, Y, Q ++ C, ?_, fun x hx => h6 x ?_, by simp; omega, by simp; omega, h3, by simp; omega, by omega, by omega, fun w' hw => ?_⟩
  · have e : A ++ P ++ (List.take j X ++ (List.drop j X ++ (Y ++ (Q ++ C)))) = A ++ (P ++ (X ++ (Y ++ (Q ++ C)))) := by
      rw [← List.append_assoc (List.take j X), List.take_append_drop, List.append_assoc]
    rw [e]; exact h5
  · rcases List.mem_append.1 hx with hx | hx
    · exact List.mem_append.2 (.inl (List.mem_of_mem_take hx))
    · exact List.mem_append.2 (.inr hx)
  · refine ⟨P ++ Y, X.drop j, X.take j, Q, by simp; omega, by simp; omega, by simp; omega, ?_, fun x hx => h6 x ?_, ?_⟩
    · rw [← h4, List.append_assoc, ← List.append_assoc (List.take j X), List.take_append_drop]
    · rcases List.mem_append.1 hx with hx | hx
      · exact List.mem_append.2 (.inl (List.mem_of_mem_drop hx))
      · exact List.mem_append.2 (.inl (List.mem_of_mem_take hx))
    · simpa using hw
theorem RotInv.small {A U V C : List α} {m i j : Nat} (h : RotInv enc w0 wr b n cap A U V C m i j) (hij : i < j) :
    ∃ A' X M Y C', RowW enc w0 wr b n cap (A' ++ (X ++ (M ++ (Y ++ C')))) ∧ (∀ x ∈ X ++ Y, x ∈ U ++ V) ∧ A'.length + i = m ∧ X.length = i ∧ Y.length = i ∧ (m - i) + i + M.length = m + j - i ∧ i ≤ m ∧ m + j ≤ n ∧ (∀ w', RowW enc w0 w' b n cap (A' ++ (Y ++ (M ++ (X ++ C')))) → RotInv enc w0 w' b n cap A U V C m i (j - i)) := by
  obtain ⟨P, X, Y, Q, h1, h2, h3, h4, h6, h5⟩ := h
  have hl := h5.len
  simp at hl
  refine ⟨A ++ P, X, Y.take (j - i), Y.drop (j - i), Q ++ C, ?_, fun x hx => h6 x ?_, by simp; omega, h2, by simp; omega, by simp; omega, by omega, by omega, fun w' hw => ?_⟩
  · have e : A ++ P ++ (X ++ (List.take (j - i) Y ++ (List.drop (j - i) Y ++ (Q ++ C)))) = A ++ (P ++ (X ++ (Y ++ (Q ++ C)))) := by
      rw [← List.append_assoc (List.take (j - i) Y), List.take_append_drop, List.append_assoc]
    rw [e]; exact h5
  · rcases List.mem_append.1 hx with hx | hx
    · exact List.mem_append.2 (.inl hx)
    · exact List.mem_append.2 (.inr (List.mem_of_mem_drop hx))
  · refine ⟨P, Y.drop (j - i), Y.take (j - i), X ++ Q, by omega, by simp; omega, by simp; omega, ?_, fun x hx => h6 x ?_, ?_⟩
    · rw [← h4, ← List.append_assoc (List.take (j - i) Y), List.take_append_drop]
    · rcases List.mem_append.1 hx with hx | hx
      · exact List.mem_append.2 (.inr (List.mem_of_mem_drop hx))
      · exact List.mem_append.2 (.inr (List.mem_of_mem_take hx))
    · simpa using hw
theorem RotInv.same {A U V C : List α} {m i : Nat} (h : RotInv enc w0 wr b n cap A U V C m i i) :
    ∃ A' X Y C', RowW enc w0 wr b n cap (A' ++ (X ++ ([] ++ (Y ++ C')))) ∧ (∀ x ∈ X ++ Y, x ∈ U ++ V) ∧ A'.length + i = m ∧ X.length = i ∧ Y.length = i ∧ i ≤ m ∧ (∀ w', RowW enc w0 w' b n cap (A' ++ (Y ++ ([] ++ (X ++ C')))) → RowW enc w0 w' b n cap (A ++ (V ++ (U ++ C)))) := by
  obtain ⟨P, X, Y, Q, h1, h2, h3, h4, h6, h5⟩ := h
  refine ⟨A ++ P, X, Y, Q ++ C, by simpa using h5, h6, by simp; omega, h2, h3, by omega, fun w' hw => ?_⟩
  have e : A ++ (V ++ (U ++ C)) = A ++ P ++ (Y ++ ([] ++ (X ++ (Q ++ C)))) := by
    rw [← List.append_assoc V, ← h4]; simp
  rw [e]; exact hw
set_option maxHeartbeats 2000000 in
theorem rotate (hsh : ∀ x, S x → ∃ p m k, (enc x).2 = .slice p m k) (A U V C : List α) (hS : ∀ x ∈ U ++ V, S x) (h : RowW enc w0 w b n cap (A ++ (U ++ (V ++ C)))) (a m e : Nat) (ha : A.length = a) (hm : a + U.length = m) (he : m + V.length = e) (hU : a < m) (hV : m < e) (hn : n ≤ 1000000) (fv : Value) :
    Calls Try.prog 88 #[.slice (some ⟨b, 0, none⟩) n cap, .int .i64 a, .int .i64 m, .int .i64 e, fv] w (UnitRow enc w0 b n cap (A ++ (V ++ (U ++ C)))) := by
  have hlen := h.len
  have hen : e ≤ n := by rw [← hlen]; simp; omega
  have HSw := Lib.hid (fun (w : World) (A X M Y C : List α) (hS : ∀ x ∈ X ++ Y, S x) (h : RowW enc w0 w b n cap (A ++ (X ++ (M ++ (Y ++ C))))) (a b2 k : Nat) (ha : A.length = a) (hk : X.length = k) (hk2 : Y.length = k) (hb : a + k + M.length = b2) => swapRange (w := w) hsh A X M Y C hS h a b2 k ha hk hk2 hb hn fv)
  have HBig := Lib.hid (fun wr i j (h : RotInv enc w0 wr b n cap A U V C m i j) (hij : j < i) => h.big hij)
  have HSmall := Lib.hid (fun wr i j (h : RotInv enc w0 wr b n cap A U V C m i j) (hij : i < j) => h.small hij)
  have HSame := Lib.hid (fun wr i (h : RotInv enc w0 wr b n cap A U V C m i i) => h.same)
  have HStart : Hid (RotInv enc w0 w b n cap A U V C m (m - a) (e - m)) := Lib.hid ⟨[], U, V, [], by simp; omega, by omega, by omega, by simp, fun x hx => hx, by simpa using h⟩
  have HS := Lib.hid hS
  clear hS ha hm he hlen h hsh
  obtain ⟨i0, hi0⟩ : ∃ i0 : Nat, m = a + i0 := ⟨m - a, by omega⟩
  obtain ⟨j0, hj0⟩ : ∃ j0 : Nat, e = m + j0 := ⟨e - m, by omega⟩
  have r1 : (m : Int) - (a : Int) = (i0 : Int) := by omega
  have r2 : (e : Int) - (m : Int) = (j0 : Int) := by omega
  have s1 : m - a = i0 := by omega
  have s2 : e - m = j0 := by omega
  rw [s1, s2] at HStart
  have hi1 : 0 < i0 := by omega
  have hj1 : 0 < j0 := by omega
  have hij : m + j0 ≤ n := by omega
  have him : i0 ≤ m := by omega
  clear s1 s2 hi0 hj0
  go_enter Try.func88, Try.ntmps88
  go_wp2_with fail
  clear r1 r2
  go_loopw [10, 11] (fun s t wr => ∃ i j : Nat, s = .int .i64 i ∧ t = .int .i64 j ∧ 0 < i ∧ 0 < j ∧ i ≤ m ∧ m + j ≤ n ∧ Hid (RotInv enc w0 wr b n cap A U V C m i j)) (fun s t _ => (intOf s).toNat + (intOf t).toNat)
  case atStart => exact ⟨i0, j0, rfl, rfl, hi1, hj1, him, hij, HStart⟩
  case round =>
    obtain ⟨i, j, rfl, rfl, hi, hj, him, hjn, HR⟩ := hrel
    obtain ⟨p, hp⟩ : ∃ p : Nat, m = p + i := ⟨m - i, by omega⟩
    have r1 : (m : Int) - (i : Int) = (p : Int) := by omega
    have s1 : m - i = p := by omega
    by_cases h1 : j < i
    · obtain ⟨A', X, M, Y, C', q1, q2, q3, q4, q5, q6, q7, q8, q9⟩ := HBig.out wr i j HR.out h1
      have HC := Lib.hid (HSw.out wr A' X M Y C' (fun x hx => HS.out x (q2 x hx)) q1 p m j (by omega) q4 q5 (by omega))
      have HN := Lib.hid q9
      clear q1 q2 q3 q4 q5 q6 q7 q8 q9 s1 hp
      have t1 : (i : Int) ≠ (j : Int) := by omega
      have t2 : ((i : Int) == (j : Int)) = false := by simpa using t1
      have t3 : (i : Int) - (j : Int) = ((i - j : Nat) : Int) := by omega
      go_wp2_with fail
      refine HC.out.mono ?_
      rintro e1 w1 ⟨rfl, hr⟩
      have HF := Lib.hid (HN.out w1 hr)
      clear hr HC HN
      go_wp2_with fail
      go_roundw
      case rel => exact ⟨i - j, j, by go_num, rfl, by omega, hj, by omega, hjn, HF⟩
      case measure => simp [intOf]; omega
    · by_cases h2 : i < j
      · obtain ⟨A', X, M, Y, C', q1, q2, q3, q4, q5, q6, q7, q8, q9⟩ := HSmall.out wr i j HR.out h2
        obtain ⟨q, hq⟩ : ∃ q : Nat, q + i = m + j := ⟨m + j - i, by omega⟩
        have HC := Lib.hid (HSw.out wr A' X M Y C' (fun x hx => HS.out x (q2 x hx)) q1 p q i (by omega) q4 q5 (by omega))
        have HN := Lib.hid q9
        have t1 : (i : Int) ≠ (j : Int) := by omega
        have t2 : ((i : Int) == (j : Int)) = false := by simpa using t1
        have t3 : (j : Int) - (i : Int) = ((j - i : Nat) : Int) := by omega
        have t4 : (m : Int) + (j : Int) - (i : Int) = (q : Int) := by omega
        clear q1 q2 q3 q4 q5 q6 q7 q8 q9 s1 hp hq
        go_wp2_with fail
        refine HC.out.mono ?_
        rintro e1 w1 ⟨rfl, hr⟩
        have HF := Lib.hid (HN.out w1 hr)
        clear hr HC HN
        go_wp2_with fail
        go_roundw
        case rel => exact ⟨i, j - i, rfl, by go_num, hi, by omega, him, by omega, HF⟩
        case measure => simp [intOf]; omega
      · obtain rfl : i = j := by omega
        obtain ⟨A', X, Y, C', q1, q2, q3, q4, q5, q6, q7⟩ := HSame.out wr i HR.out
        have HC := Lib.hid (HSw.out wr A' X [] Y C' (fun x hx => HS.out x (q2 x hx)) q1 p m i (by omega) q4 q5 (by simp; omega))
        have HN := Lib.hid q7
        clear q1 q2 q3 q4 q5 q6 q7 s1 hp
        go_wp2_with fail
        refine HC.out.mono ?_
        rintro e1 w1 ⟨rfl, hr⟩
        have HF := Lib.hid (HN.out w1 hr)
        clear hr HC HN
        go_wp2_with fail
        go_end0
        exact ⟨rfl, HF.out⟩
end Go.Proofs.Ythgfdpamnepnfaa.tm
/- slices.symMergeCmpFunc at terms. Conditions: as said. -/
namespace Go.Proofs.Ythgfdpamnepnfaa.tm
open Go.RowKit mem names
set_option linter.unusedVariables false
set_option linter.unusedSimpArgs false
set_option maxHeartbeats 1000000
set_option maxRecDepth 100000

variable {α : Type} {enc : α → TF × Value} {w0 wr w : World} {b n cap : Nat} {d : List α} {S : α → Prop} {c : α → α → Int} {tg : α → Nat}
def LTi (c : α → α → Int) (D : List α) (i j : Nat) : Prop := ∃ u v, D[i]? = some u ∧ D[j]? = some v ∧ c u v < 0
theorem LTi_iff {D : List α} {i j : Nat} {x y : α} (hx : D[i]? = some x) (hy : D[j]? = some y) : LTi c D i j ↔ c x y < 0 := by
  constructor
  · rintro ⟨u, v, h1, h2, h3⟩
    rw [hx] at h1; rw [hy] at h2
    simp only [Option.some.injEq] at h1 h2
    subst h1 h2; exact h3
  · exact fun h => ⟨x, y, hx, hy, h⟩
/-- a search by halves for the first place that is not so -/
def Bin (Q : Nat → Prop) (lo0 hi0 lo hi : Nat) : Prop := lo0 ≤ lo ∧ lo ≤ hi ∧ hi ≤ hi0 ∧ (lo = lo0 ∨ Q (lo - 1)) ∧ (hi = hi0 ∨ ¬ Q hi)
theorem Bin.right {Q : Nat → Prop} {lo0 hi0 lo hi h : Nat} (H : Bin Q lo0 hi0 lo hi) (h1 : lo ≤ h) (h2 : h < hi) (hq : Q h) : Bin Q lo0 hi0 (h + 1) hi := by
  obtain ⟨a1, a2, a3, a4, a5⟩ := H
  exact ⟨by omega, by omega, a3, .inr hq, a5⟩
theorem Bin.left {Q : Nat → Prop} {lo0 hi0 lo hi h : Nat} (H : Bin Q lo0 hi0 lo hi) (h1 : lo ≤ h) (h2 : h < hi) (hq : ¬ Q h) : Bin Q lo0 hi0 lo h := by
  obtain ⟨a1, a2, a3, a4, a5⟩ := H
  exact ⟨by omega, by omega, by omega, a4, .inr hq⟩
theorem ins_sorted {lt : α → α → Prop} (htr : TrOn S lt) {R1 R2 : List α} {x : α} (hx : S x) (hS : ∀ y ∈ R1 ++ R2, S y) (h : (R1 ++ R2).Pairwise lt) (h1 : ∀ T z, R1 = T ++ [z] → lt z x) (h2 : ∀ z U, R2 = z :: U → lt x z) : (R1 ++ x :: R2).Pairwise lt := by
  have h' := List.pairwise_append.1 h
  have s1 : ∀ y ∈ R1, S y := fun y hy => hS y (by simp [hy])
  have s2 : ∀ y ∈ R2, S y := fun y hy => hS y (by simp [hy])
  have sx : ∀ y ∈ [x], S y := fun y hy => by simp at hy; subst hy; exact hx
  have k1 := lt_lists htr h'.1 (List.pairwise_singleton lt x) s1 sx (fun T z U y e1 e2 => by simp at e2; rw [← e2.1]; exact h1 T z e1)
  have k2 := lt_lists htr (List.pairwise_singleton lt x) h'.2.1 sx s2 (fun T z U y e1 e2 => by
    have : z = x := by
      rcases T with _ | ⟨t, T⟩
      · simp at e1; exact e1.symm
      · simp at e1
    subst this; exact h2 y U e2)
  rw [List.pairwise_append]
  refine ⟨h'.1, List.pairwise_cons.2 ⟨fun y hy => k2 x (by simp) y hy, h'.2.1⟩, fun u hu v hv => ?_⟩
  rcases List.mem_cons.1 hv with rfl | hv
  · exact k1 u hu v (by simp)
  · exact h'.2.2 u hu v hv
theorem tlt_tr (htp : TP S c) : TrOn S (tlt c tg) := fun x y z hx hy hz h1 h2 => tlt_trans htp hx hy hz h1 h2
theorem tlt_of_ge (htp : TP S c) {x y : α} (ht : tg x < tg y) (h : ¬ c y x < 0) : tlt c tg x y := by
  have := htp.anti x y
  by_cases e : c x y = 0
  · exact .inr ⟨e, ht⟩
  · exact .inl (by omega)
def MergePost (c : α → α → Int) (tg : α → Nat) (enc : α → TF × Value) (w0 : World) (b n cap : Nat) (A M C : List α) (e : Ending) (w' : World) : Prop :=
  e = .returned (.tuple #[]) ∧ ∃ M', M'.Perm M ∧ M'.Pairwise (tlt c tg) ∧ RowW enc w0 w' b n cap (A ++ (M' ++ C))
theorem get_left (A B : List α) {i : Nat} {x : α} (h : i < A.length) : (A ++ B)[i]? = A[i]? := List.getElem?_append_left h
theorem RowW.cellsGet {D : List α} {i : Nat} {x : α} (h : RowW enc w0 wr b n cap D) (hi : D[i]? = some x) : Cells wr b (i * 9) (enc x).1 (enc x).2 := by
  obtain ⟨h1, h2⟩ := List.getElem?_eq_some_iff.1 hi
  have := h.cells i h1
  rwa [h2] at this
/-- one element on the left: what is left behind the search -/
theorem one_left (htp : TP S c) {A R C : List α} {x : α} {a m e i : Nat} (ha : A.length = a) (hm : a + 1 = m) (he : m + R.length = e) (hS : ∀ y ∈ x :: R, S y) (hR : R.Pairwise (tlt c tg)) (ht : ∀ y ∈ R, tg x < tg y)
    (hB : Bin (fun h => LTi c (A ++ (x :: (R ++ C))) h a) m e i i) : ∃ R1 R2, R = R1 ++ R2 ∧ m + R1.length = i ∧ (R1 ++ x :: R2).Pairwise (tlt c tg) := by
  obtain ⟨b1, b2, b3, b4, b5⟩ := hB
  dsimp only at b4 b5
  have hax : (A ++ (x :: (R ++ C)))[a]? = some x := by rw [← ha, List.getElem?_append_right (Nat.le_refl _)]; simp
  have hget : ∀ k, k < R.length → (A ++ (x :: (R ++ C)))[m + k]? = R[k]? := fun k hk => by
    rw [List.getElem?_append_right (by omega), show m + k - A.length = k + 1 by omega, List.getElem?_cons_succ, List.getElem?_append_left hk]
  refine ⟨R.take (i - m), R.drop (i - m), (List.take_append_drop _ _).symm, by simp; omega, ?_⟩
  refine ins_sorted (tlt_tr htp) (hS x (by simp)) (fun y hy => hS y ?_) ?_ (fun T z e1 => ?_) (fun z U e2 => ?_)
  · rw [List.take_append_drop] at hy; simp [hy]
  · rw [List.take_append_drop]; exact hR
  · have hl := congrArg List.length e1
    simp at hl
    have hz : R[i - m - 1]? = some z := by
      have : (R.take (i - m))[i - m - 1]? = some z := by rw [e1, List.getElem?_append_right (by omega)]; simp [show i - m - 1 - T.length = 0 by omega]
      rwa [List.getElem?_take_of_lt (by omega)] at this
    rcases b4 with b4 | b4
    · omega
    · have := (LTi_iff (c := c) (i := i - 1) (by rw [show i - 1 = m + (i - m - 1) by omega, hget _ (by omega)]; exact hz) hax).1 b4
      exact .inl this
  · have hl := congrArg List.length e2
    simp at hl
    have hz : R[i - m]? = some z := by
      have : (R.drop (i - m))[0]? = some z := by rw [e2]; rfl
      rwa [List.getElem?_drop, Nat.add_zero] at this
    rcases b5 with b5 | b5
    · omega
    · rw [LTi_iff (c := c) (i := i) (by rw [show i = m + (i - m) by omega, hget _ (by omega)]; exact hz) hax] at b5
      exact tlt_of_ge htp (ht z (List.mem_of_getElem? hz)) b5
/-- one element on the right -/
theorem one_right (htp : TP S c) {A L C : List α} {y : α} {a m i : Nat} (ha : A.length = a) (hm : a + L.length = m) (hS : ∀ x ∈ L ++ [y], S x) (hL : L.Pairwise (tlt c tg)) (ht : ∀ x ∈ L, tg x < tg y)
    (hB : Bin (fun h => ¬ LTi c (A ++ (L ++ (y :: C))) m h) a m i i) : ∃ L1 L2, L = L1 ++ L2 ∧ a + L1.length = i ∧ (L1 ++ y :: L2).Pairwise (tlt c tg) := by
  obtain ⟨b1, b2, b3, b4, b5⟩ := hB
  dsimp only at b4 b5
  have hmy : (A ++ (L ++ (y :: C)))[m]? = some y := by rw [← hm, ← ha, ← List.length_append, ← List.append_assoc, List.getElem?_append_right (Nat.le_refl _)]; simp
  have hget : ∀ k, k < L.length → (A ++ (L ++ (y :: C)))[a + k]? = L[k]? := fun k hk => by
    rw [List.getElem?_append_right (by omega), show a + k - A.length = k by omega, List.getElem?_append_left hk]
  refine ⟨L.take (i - a), L.drop (i - a), (List.take_append_drop _ _).symm, by simp; omega, ?_⟩
  refine ins_sorted (tlt_tr htp) (hS y (by simp)) (fun x hx => hS x ?_) ?_ (fun T z e1 => ?_) (fun z U e2 => ?_)
  · rw [List.take_append_drop] at hx; simp [hx]
  · rw [List.take_append_drop]; exact hL
  · have hl := congrArg List.length e1
    simp at hl
    have hz : L[i - a - 1]? = some z := by
      have : (L.take (i - a))[i - a - 1]? = some z := by rw [e1, List.getElem?_append_right (by omega)]; simp [show i - a - 1 - T.length = 0 by omega]
      rwa [List.getElem?_take_of_lt (by omega)] at this
    rcases b4 with b4 | b4
    · omega
    · rw [LTi_iff (c := c) (j := i - 1) hmy (by rw [show i - 1 = a + (i - a - 1) by omega, hget _ (by omega)]; exact hz)] at b4
      exact tlt_of_ge htp (ht z (List.mem_of_getElem? hz)) b4
  · have hl := congrArg List.length e2
    simp at hl
    have hz : L[i - a]? = some z := by
      have : (L.drop (i - a))[0]? = some z := by rw [e2]; rfl
      rwa [List.getElem?_drop, Nat.add_zero] at this
    rcases b5 with b5 | b5
    · omega
    · rw [LTi_iff (c := c) (j := i) hmy (by rw [show i = a + (i - a) by omega, hget _ (by omega)]; exact hz)] at b5
      exact .inl (Classical.not_not.1 b5)
/-- where the search by halves comes to: the four parts -/
theorem parts (htp : TP S c) {A L R C : List α} {a m e lo0 hi0 i p : Nat} (ha : A.length = a) (hm : a + L.length = m) (he : m + R.length = e) (hS : ∀ x ∈ L ++ R, S x) (hL : L.Pairwise (tlt c tg)) (hR : R.Pairwise (tlt c tg)) (ht : ∀ x ∈ L, ∀ y ∈ R, tg x < tg y)
    (h0 : lo0 = a ∧ hi0 = m ∧ m ≤ (a + e) / 2 ∨ lo0 + e = (a + e) / 2 + m ∧ hi0 = (a + e) / 2 ∧ (a + e) / 2 < m) (hp : p + 1 = (a + e) / 2 + m) (hB : Bin (fun h => ¬ LTi c (A ++ (L ++ (R ++ C))) (p - h) h) lo0 hi0 i i) :
    ∃ L1 L2 R1 R2, L = L1 ++ L2 ∧ R = R1 ++ R2 ∧ a + L1.length = i ∧ i + R1.length = (a + e) / 2 ∧
      ∀ M1 M2 : List α, M1.Perm (L1 ++ R1) → M2.Perm (L2 ++ R2) → M1.Pairwise (tlt c tg) → M2.Pairwise (tlt c tg) → (M1 ++ M2).Perm (L ++ R) ∧ (M1 ++ M2).Pairwise (tlt c tg) := by
  obtain ⟨b1, b2, b3, b4, b5⟩ := hB
  dsimp only at b4 b5
  have hgl : ∀ k, k < L.length → (A ++ (L ++ (R ++ C)))[a + k]? = L[k]? := fun k hk => by
    rw [List.getElem?_append_right (by omega), show a + k - A.length = k by omega, List.getElem?_append_left hk]
  have hgr : ∀ k, k < R.length → (A ++ (L ++ (R ++ C)))[m + k]? = R[k]? := fun k hk => by
    rw [List.getElem?_append_right (by omega), List.getElem?_append_right (by omega), show m + k - A.length - L.length = k by omega, List.getElem?_append_left hk]
  obtain ⟨s, hs⟩ : ∃ s, s = (a + e) / 2 - i := ⟨_, rfl⟩
  refine ⟨L.take (i - a), L.drop (i - a), R.take s, R.drop s, (List.take_append_drop _ _).symm, (List.take_append_drop _ _).symm, by simp; omega, by simp; omega, fun M1 M2 p1 p2 s1 s2 => ?_⟩
  have hm' := merge_halves (tlt_tr htp) (L1 := L.take (i - a)) (L2 := L.drop (i - a)) (R1 := R.take s) (R2 := R.drop s) ?_ ?_ ?_ ?_ ?_ p1 p2 s1 s2
  · rwa [List.take_append_drop, List.take_append_drop] at hm'
  · rw [List.take_append_drop, List.take_append_drop]; exact hS
  · rw [List.take_append_drop]; exact hL
  · rw [List.take_append_drop]; exact hR
  · intro T x U y e1 e2
    have hl1 := congrArg List.length e1
    have hl2 := congrArg List.length e2
    simp at hl1 hl2
    have hx : L[i - a - 1]? = some x := by
      have : (L.take (i - a))[i - a - 1]? = some x := by rw [e1, List.getElem?_append_right (by omega)]; simp [show i - a - 1 - T.length = 0 by omega]
      rwa [List.getElem?_take_of_lt (by omega)] at this
    have hy : R[s]? = some y := by
      have : (R.drop s)[0]? = some y := by rw [e2]; rfl
      rwa [List.getElem?_drop, Nat.add_zero] at this
    rcases b4 with b4 | b4
    · omega
    · rw [LTi_iff (c := c) (x := y) (y := x) (by rw [show p - (i - 1) = m + s by omega, hgr _ (by omega)]; exact hy) (by rw [show i - 1 = a + (i - a - 1) by omega, hgl _ (by omega)]; exact hx)] at b4
      exact tlt_of_ge htp (ht x (List.mem_of_getElem? hx) y (List.mem_of_getElem? hy)) b4
  · intro T x U y e1 e2
    have hl1 := congrArg List.length e1
    have hl2 := congrArg List.length e2
    simp at hl1 hl2
    have hx : R[s - 1]? = some x := by
      have : (R.take s)[s - 1]? = some x := by rw [e1, List.getElem?_append_right (by omega)]; simp [show s - 1 - T.length = 0 by omega]
      rwa [List.getElem?_take_of_lt (by omega)] at this
    have hy : L[i - a]? = some y := by
      have : (L.drop (i - a))[0]? = some y := by rw [e2]; rfl
      rwa [List.getElem?_drop, Nat.add_zero] at this
    rcases b5 with b5 | b5
    · omega
    · rw [LTi_iff (c := c) (x := x) (y := y) (by rw [show p - i = m + (s - 1) by omega, hgr _ (by omega)]; exact hx) (by rw [show i = a + (i - a) by omega, hgl _ (by omega)]; exact hy)] at b5
      exact .inl (Classical.not_not.1 b5)
set_option maxHeartbeats 4000000 in
theorem symOne (hC : CmpW enc w0 b 14 S c) (htp : TP S c) (A R C : List α) (y : α) (hS : ∀ z ∈ y :: R, S z) (hR : R.Pairwise (tlt c tg)) (ht : ∀ z ∈ R, tg y < tg z) (h : RowW enc w0 w b n cap (A ++ (y :: (R ++ C)))) (a m e : Nat) (ha : A.length = a) (hm : a + 1 = m) (he : m + R.length = e) (hr : m < e) (hn : n ≤ 1000000) :
    Calls Try.prog 83 #[.slice (some ⟨b, 0, none⟩) n cap, .int .i64 a, .int .i64 m, .int .i64 e, .func (.func 14) #[] #[]] w (MergePost c tg enc w0 b n cap A (y :: R) C) := by
  have hlen := h.len
  have hen : e ≤ n := by rw [← hlen]; simp; omega
  have HFin := Lib.hid (fun i hB => one_left (A := A) (R := R) (C := C) (x := y) (tg := tg) (i := i) htp ha hm he hS hR ht hB)
  have HStart : Hid (Bin (fun h => LTi c (A ++ (y :: (R ++ C))) h a) m e m e) := Lib.hid ⟨Nat.le_refl _, by omega, Nat.le_refl _, .inl rfl, .inl rfl⟩
  have hay : (A ++ (y :: (R ++ C)))[a]? = some y := by rw [← ha, List.getElem?_append_right (Nat.le_refl _)]; simp
  have HGet : Hid (∀ i, m ≤ i → i < e → ∃ x, (A ++ (y :: (R ++ C)))[i]? = some x ∧ S x) := Lib.hid (fun i h1 h2 => by
    have hg : (A ++ (y :: (R ++ C)))[i]? = R[i - m]? := by
      rw [List.getElem?_append_right (by omega), show i - A.length = (i - m) + 1 by omega, List.getElem?_cons_succ, List.getElem?_append_left (by omega)]
    have hx := List.getElem?_eq_getElem (l := R) (i := i - m) (by omega)
    exact ⟨R[i - m], by rw [hg, hx], hS _ (by simp)⟩)
  have HY := Lib.hid hay
  have HRow0 := Lib.hid h
  obtain ⟨D, hD⟩ : ∃ D, D = A ++ (y :: (R ++ C)) := ⟨_, rfl⟩
  have HD := Lib.hid hD
  rw [← hD] at HFin HStart HGet HY HRow0
  have hSy : S y := hS y (by simp)
  have hSR : Hid (∀ z ∈ R, S z) := Lib.hid (fun z hz => hS z (by simp [hz]))
  have HSh := Lib.hid hC.shape
  have HCall := Lib.hid hC.call
  have HA := Lib.hid ha
  clear hS hR ht h ha he hlen hay hD hC htp
  have r0 : (m : Int) - (a : Int) = 1 := by omega
  have ham : a < m := by omega
  have HM := Lib.hid hm
  clear hm
  go_enter Try.func83, Try.ntmps83
  go_wp2_with fail
  clear r0
  go_loopw [10, 11] (fun s t wr => ∃ i j : Nat, s = .int .i64 i ∧ t = .int .i64 j ∧ m ≤ i ∧ i ≤ j ∧ j ≤ e ∧ Hid (Bin (fun h => LTi c D h a) m e i j) ∧ Hid (RowW enc w0 wr b n cap D)) (fun s t _ => (intOf t).toNat - (intOf s).toNat)
  case atStart => exact ⟨m, e, rfl, rfl, by omega, by omega, by omega, HStart, HRow0⟩
  case round =>
    obtain ⟨i, j, rfl, rfl, hmi, hij, hje, HB, HRow⟩ := hrel
    by_cases hlt : i < j
    · obtain ⟨h, hh⟩ : ∃ h : Nat, (i + j) / 2 = h := ⟨_, rfl⟩
      have e1 : ((i : Int) + (j : Int)) / 2 = (h : Int) := by omega
      obtain ⟨x, hx, hSx⟩ := HGet.out h (by omega) (by omega)
      have hcx := HRow.out.cellsGet hx
      have hcy := HRow.out.cellsGet HY.out
      have HR1 := Lib.hid (fun hz : c x y < 0 => HB.out.right (h := h) (by omega) (by omega) ((LTi_iff hx HY.out).2 hz))
      have HR2 := Lib.hid (fun hz : ¬ c x y < 0 => HB.out.left (h := h) (by omega) (by omega) (fun hq => hz ((LTi_iff hx HY.out).1 hq)))
      clear hx
      have hbl : b < wr.heap.size := HRow.out.lt
      have HC := Lib.hid (HCall.out wr.drew x y (HRow.out.touch.drewN 1) hSx hSy)
      have hsx := HSh.out x hSx
      have hsy := HSh.out y hSy
      obtain ⟨z, hz⟩ : ∃ z, c x y = z := ⟨_, rfl⟩
      have HZ := Lib.hid hz
      rw [hz] at HC
      clear hz
      obtain ⟨p1, m1, c1, ex⟩ := hsx
      obtain ⟨p2, m2, c2, ey⟩ := hsy
      obtain ⟨X9, eX⟩ : ∃ X9, enc x = X9 := ⟨_, rfl⟩
      obtain ⟨Y9, eY⟩ : ∃ Y9, enc y = Y9 := ⟨_, rfl⟩
      rw [eX] at hcx ex HC
      rw [eY] at hcy ey HC
      clear eX eY
      obtain ⟨⟨k1, i1, g1, n1, fn1, a1, by1, s1⟩, v1⟩ := X9
      obtain ⟨⟨k2, i2, g2, n2, fn2, a2, by2, s2⟩, v2⟩ := Y9
      dsimp only at hcx hcy HC ex ey
      subst ex
      subst ey
      have HA1 := Lib.hid hcx
      have HB1 := Lib.hid hcy
      unfold aggV IPostC at HC
      dsimp only at HC
      obtain ⟨x0, x1, x2, x3, x4, x5, x6, x7, x8⟩ := hcx
      obtain ⟨y0, y1, y2, y3, y4, y5, y6, y7, y8⟩ := hcy
      dsimp only at x0 x1 x2 x3 x4 x5 x6 x7 x8 y0 y1 y2 y3 y4 y5 y6 y7 y8
      rw [HZ.out] at HR1 HR2
      have r1 : (h : Int) < (n : Int) := by omega
      have r2 : (0 : Int) ≤ (h : Int) := by omega
      have r3 : (a : Int) < (n : Int) := by omega
      have b1 : i ≤ h := by omega
      have b2 : h < j := by omega
      clear hh
      by_cases hlz : z < 0
      · have q1 : decide (z < 0) = true := decide_eq_true hlz
        have HB' := Lib.hid (HR1.out hlz)
        clear HR1 HR2 HB
        go_wp2_with fail
        go_region_held3 (fun w' => (w'.cell? ⟨b, h * 9, none⟩ = some (.int .i64 k1) ∧ w'.cell? ⟨b, h * 9 + 1, none⟩ = some (.int .i64 i1) ∧ w'.cell? ⟨b, h * 9 + 1 + 1, none⟩ = some (.int .i64 g1) ∧ w'.cell? ⟨b, h * 9 + 1 + 1 + 1, none⟩ = some (.string n1) ∧ w'.cell? ⟨b, h * 9 + 1 + 1 + 1 + 1, none⟩ = some (.string fn1) ∧ w'.cell? ⟨b, h * 9 + 1 + 1 + 1 + 1 + 1, none⟩ = some (.int .i64 a1) ∧ w'.cell? ⟨b, h * 9 + 1 + 1 + 1 + 1 + 1 + 1, none⟩ = some (.slice p1 m1 c1) ∧ w'.cell? ⟨b, h * 9 + 1 + 1 + 1 + 1 + 1 + 1 + 1, none⟩ = some (.string by1) ∧ w'.cell? ⟨b, h * 9 + 1 + 1 + 1 + 1 + 1 + 1 + 1 + 1, none⟩ = some (.int .i64 s1)) ∧ w'.cell? ⟨b, a * 9, none⟩ = some (.int .i64 k2) ∧ w'.cell? ⟨b, a * 9 + 1, none⟩ = some (.int .i64 i2) ∧ w'.cell? ⟨b, a * 9 + 1 + 1, none⟩ = some (.int .i64 g2) ∧ w'.cell? ⟨b, a * 9 + 1 + 1 + 1, none⟩ = some (.string n2) ∧ w'.cell? ⟨b, a * 9 + 1 + 1 + 1 + 1, none⟩ = some (.string fn2) ∧ w'.cell? ⟨b, a * 9 + 1 + 1 + 1 + 1 + 1, none⟩ = some (.int .i64 a2) ∧ w'.cell? ⟨b, a * 9 + 1 + 1 + 1 + 1 + 1 + 1, none⟩ = some (.slice p2 m2 c2) ∧ w'.cell? ⟨b, a * 9 + 1 + 1 + 1 + 1 + 1 + 1 + 1, none⟩ = some (.string by2) ∧ w'.cell? ⟨b, a * 9 + 1 + 1 + 1 + 1 + 1 + 1 + 1 + 1, none⟩ = some (.int .i64 s2)) (go_keep)
          (first
            | (go_at_call 14; (with_reducible refine HC.out.mono ?_); rintro e5 w5 ⟨rfl, hb5⟩; have HA5 := Lib.hid (HA1.out.same (hb5.block b hbl)); have HB5 := Lib.hid (HB1.out.same (hb5.block b hbl)); obtain ⟨z0, z1, z2, z3, z4, z5, z6, z7, z8⟩ := HA5.out; obtain ⟨t0, t1, t2, t3, t4, t5, t6, t7, t8⟩ := HB5.out; dsimp only at z0 z1 z2 z3 z4 z5 z6 z7 z8 t0 t1 t2 t3 t4 t5 t6 t7 t8))
        have HR5 := Lib.hid ((HRow.out.drewN 1).below hb5 HRow.out.touch.size)
        clear hb5 HC HA1 HB1 HA5 HB5 HRow x0 x1 x2 x3 x4 x5 x6 x7 x8 y0 y1 y2 y3 y4 y5 y6 y7 y8 hbl
        go_wp2_with fail
        go_roundw
        case rel => exact ⟨h + 1, j, by go_num, rfl, by omega, by omega, hje, HB', HR5⟩
        case measure => simp [intOf]; omega
      · have q1 : decide (z < 0) = false := decide_eq_false hlz
        have HB' := Lib.hid (HR2.out hlz)
        clear HR1 HR2 HB
        go_wp2_with fail
        go_region_held3 (fun w' => (w'.cell? ⟨b, h * 9, none⟩ = some (.int .i64 k1) ∧ w'.cell? ⟨b, h * 9 + 1, none⟩ = some (.int .i64 i1) ∧ w'.cell? ⟨b, h * 9 + 1 + 1, none⟩ = some (.int .i64 g1) ∧ w'.cell? ⟨b, h * 9 + 1 + 1 + 1, none⟩ = some (.string n1) ∧ w'.cell? ⟨b, h * 9 + 1 + 1 + 1 + 1, none⟩ = some (.string fn1) ∧ w'.cell? ⟨b, h * 9 + 1 + 1 + 1 + 1 + 1, none⟩ = some (.int .i64 a1) ∧ w'.cell? ⟨b, h * 9 + 1 + 1 + 1 + 1 + 1 + 1, none⟩ = some (.slice p1 m1 c1) ∧ w'.cell? ⟨b, h * 9 + 1 + 1 + 1 + 1 + 1 + 1 + 1, none⟩ = some (.string by1) ∧ w'.cell? ⟨b, h * 9 + 1 + 1 + 1 + 1 + 1 + 1 + 1 + 1, none⟩ = some (.int .i64 s1)) ∧ w'.cell? ⟨b, a * 9, none⟩ = some (.int .i64 k2) ∧ w'.cell? ⟨b, a * 9 + 1, none⟩ = some (.int .i64 i2) ∧ w'.cell? ⟨b, a * 9 + 1 + 1, none⟩ = some (.int .i64 g2) ∧ w'.cell? ⟨b, a * 9 + 1 + 1 + 1, none⟩ = some (.string n2) ∧ w'.cell? ⟨b, a * 9 + 1 + 1 + 1 + 1, none⟩ = some (.string fn2) ∧ w'.cell? ⟨b, a * 9 + 1 + 1 + 1 + 1 + 1, none⟩ = some (.int .i64 a2) ∧ w'.cell? ⟨b, a * 9 + 1 + 1 + 1 + 1 + 1 + 1, none⟩ = some (.slice p2 m2 c2) ∧ w'.cell? ⟨b, a * 9 + 1 + 1 + 1 + 1 + 1 + 1 + 1, none⟩ = some (.string by2) ∧ w'.cell? ⟨b, a * 9 + 1 + 1 + 1 + 1 + 1 + 1 + 1 + 1, none⟩ = some (.int .i64 s2)) (go_keep)
          (first
            | (go_at_call 14; (with_reducible refine HC.out.mono ?_); rintro e5 w5 ⟨rfl, hb5⟩; have HA5 := Lib.hid (HA1.out.same (hb5.block b hbl)); have HB5 := Lib.hid (HB1.out.same (hb5.block b hbl)); obtain ⟨z0, z1, z2, z3, z4, z5, z6, z7, z8⟩ := HA5.out; obtain ⟨t0, t1, t2, t3, t4, t5, t6, t7, t8⟩ := HB5.out; dsimp only at z0 z1 z2 z3 z4 z5 z6 z7 z8 t0 t1 t2 t3 t4 t5 t6 t7 t8))
        have HR5 := Lib.hid ((HRow.out.drewN 1).below hb5 HRow.out.touch.size)
        clear hb5 HC HA1 HB1 HA5 HB5 HRow x0 x1 x2 x3 x4 x5 x6 x7 x8 y0 y1 y2 y3 y4 y5 y6 y7 y8 hbl
        go_wp2_with fail
        go_roundw
        case rel => exact ⟨i, h, rfl, rfl, hmi, by omega, by omega, HB', HR5⟩
        case measure => simp [intOf]; omega
    · obtain rfl : i = j := by omega
      obtain ⟨R1, R2, hR, hl, hs⟩ := HFin.out i HB.out
      have hrow := HRow.out
      rw [HD.out, hR] at hrow
      have HStart2 : Hid (∃ T1 T2, R1 = T1 ++ T2 ∧ a + T1.length = a ∧ RowW enc w0 wr b n cap (A ++ (T1 ++ (y :: (T2 ++ (R2 ++ C)))))) := Lib.hid ⟨[], R1, rfl, rfl, by simpa using hrow⟩
      have HTake : Hid (∀ (w' : World) (k : Nat), a ≤ k → k + 1 < i → (∃ T1 T2, R1 = T1 ++ T2 ∧ a + T1.length = k ∧ RowW enc w0 w' b n cap (A ++ (T1 ++ (y :: (T2 ++ (R2 ++ C)))))) → ∃ P x Q, S x ∧ P.length = k ∧ RowW enc w0 w' b n cap (P ++ y :: ([] ++ x :: Q)) ∧ ∀ w'', RowW enc w0 w'' b n cap (P ++ x :: ([] ++ y :: Q)) → ∃ T1 T2, R1 = T1 ++ T2 ∧ a + T1.length = k + 1 ∧ RowW enc w0 w'' b n cap (A ++ (T1 ++ (y :: (T2 ++ (R2 ++ C)))))) := Lib.hid (by
        rintro w' k h1 h2 ⟨T1, T2, g1, g2, g3⟩
        have hm' := HM.out
        cases T2 with
        | nil => simp at g1; subst g1; omega
        | cons x T2 =>
          refine ⟨A ++ T1, x, T2 ++ (R2 ++ C), hSR.out x (by rw [hR, g1]; simp), by have := HA.out; simp; omega, by simpa using g3, fun w'' hw => ?_⟩
          exact ⟨T1 ++ [x], T2, by simp [g1], by simp; omega, by simpa using hw⟩)
      have HDone : Hid (∀ (w' : World) (k : Nat), k + 1 = i → (∃ T1 T2, R1 = T1 ++ T2 ∧ a + T1.length = k ∧ RowW enc w0 w' b n cap (A ++ (T1 ++ (y :: (T2 ++ (R2 ++ C)))))) → ∃ M', M'.Perm (y :: R) ∧ M'.Pairwise (tlt c tg) ∧ RowW enc w0 w' b n cap (A ++ (M' ++ C))) := Lib.hid (by
        rintro w' k h1 ⟨T1, T2, g1, g2, g3⟩
        have hm' := HM.out
        have hT : T2 = [] := by
          have := congrArg List.length g1
          simp at this
          exact List.eq_nil_of_length_eq_zero (by omega)
        subst hT
        rw [List.append_nil] at g1
        subst g1
        exact ⟨R1 ++ y :: R2, by rw [hR]; exact List.perm_middle, hs, by simpa using g3⟩)
      have hie : i ≤ n := by omega
      clear hR hl hs hrow HFin HB HRow HGet HY HD HRow0 HStart HCall
      go_wp2_with fail
      obtain ⟨wo, rfl⟩ : ∃ wo : World, wo = wr := ⟨_, rfl⟩
      go_loopw [13] (fun s wr => ∃ k : Nat, s = .int .i64 k ∧ a ≤ k ∧ k + 1 ≤ i ∧ Hid (∃ T1 T2, R1 = T1 ++ T2 ∧ a + T1.length = k ∧ RowW enc w0 wr b n cap (A ++ (T1 ++ (y :: (T2 ++ (R2 ++ C))))))) (fun s _ => i - (intOf s).toNat)
      case atStart => exact ⟨a, rfl, by omega, by omega, HStart2⟩
      case round =>
        obtain ⟨k, rfl, hak, hki, HR⟩ := hrel
        by_cases hlk : k + 1 < i
        · obtain ⟨P, x, Q, hSx, hP, hRow, hNext⟩ := HTake.out wr k hak hlk HR.out
          have HNext := Lib.hid hNext
          have hsx := HSh.out y hSy
          have hsy := HSh.out x hSx
          have hcx : Cells wr b (k * 9) (enc y).1 (enc y).2 := hRow.cellsAt hP
          have hcy : Cells wr b ((k + 1) * 9) (enc x).1 (enc x).2 := hRow.cellsFar (by simp [hP])
          have HFz : Hid (∀ o, wr.frozen? ⟨b, o, none⟩ = false) := Lib.hid (fun o => hRow.frozen o)
          have hbl : b < wr.heap.size := hRow.lt
          have hfin := hRow.swapFar hP (j := k + 1) (by simp [hP])
          obtain ⟨p1, m1, c1, ex⟩ := hsx
          obtain ⟨p2, m2, c2, ey⟩ := hsy
          obtain ⟨X9, eX⟩ : ∃ X9, enc y = X9 := ⟨_, rfl⟩
          obtain ⟨Y9, eY⟩ : ∃ Y9, enc x = Y9 := ⟨_, rfl⟩
          have HEX := Lib.hid eX
          have HEY := Lib.hid eY
          rw [eX] at hcx ex
          rw [eY] at hcy ey
          obtain ⟨⟨k1, i1, g1, n1, fn1, a1, by1, s1⟩, v1⟩ := X9
          obtain ⟨⟨k2, i2, g2, n2, fn2, a2, by2, s2⟩, v2⟩ := Y9
          dsimp only at hcx hcy ex ey
          subst ex
          subst ey
          clear eX eY
          rw [HEX.out, HEY.out] at hfin
          unfold set9 at hfin
          dsimp only at hfin
          have HF := Lib.hid (HNext.out _ hfin)
          obtain ⟨x0, x1, x2, x3, x4, x5, x6, x7, x8⟩ := hcx
          obtain ⟨y0, y1, y2, y3, y4, y5, y6, y7, y8⟩ := hcy
          dsimp only at x0 x1 x2 x3 x4 x5 x6 x7 x8 y0 y1 y2 y3 y4 y5 y6 y7 y8
          have hfz := HFz.out
          have r1 : (k : Int) + 1 < (n : Int) := by omega
          have r2 : (k : Int) < (n : Int) := by omega
          have r3 : (0 : Int) ≤ (k : Int) + 1 := by omega
          have r4 : ((k : Int) + 1).toNat = k + 1 := by omega
          have r5 : IntKind.i64.wrap ((k : Int) + 1) = (k : Int) + 1 := IntWalk.i64_in _ (by omega)
          clear hP hRow hNext hfin HFz HEX HEY HNext HTake HDone
          go_wp2_with fail
          go_big_region
          go_wp2_with fail
          go_roundw
          case rel => exact ⟨k + 1, by go_num, by omega, by omega, HF⟩
          case measure => simp [intOf]; omega
        · have HF := Lib.hid (HDone.out wr k (by omega) HR.out)
          clear HDone HTake
          go_wp2_with fail
          go_end0
          exact ⟨rfl, HF.out⟩
end Go.Proofs.Ythgfdpamnepnfaa.tm
