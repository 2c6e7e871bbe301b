/- Texts of this seat, one behind the other: OrD, ToA. No condition beyond theirs. -/
import Init.Data.List.Lemmas
import Derived.Test.YtfbggmbmgohiiaaGreatM30
set_option linter.unusedSimpArgs false
set_option linter.unusedVariables false
set_option maxHeartbeats 1000000
set_option maxRecDepth 100000
namespace Go.Proofs.YtfbggmbmgohiiaaGreat.tm
variable {α : Type} {lt : α → α → Prop} {S : α → Prop}
def TrOn (S : α → Prop) (lt : α → α → Prop) : Prop := ∀ x y z, S x → S y → S z → lt x y → lt y z → lt x z
theorem last_ge {T : List α} {x z : α} (h : (T ++ [z]).Pairwise lt) (hx : x ∈ T ++ [z]) : x = z ∨ lt x z := by
  rw [List.pairwise_append] at h
  rcases List.mem_append.1 hx with hx | hx
  · exact .inr (h.2.2 x hx z (by simp))
  · simp at hx; exact .inl hx
theorem head_le {U : List α} {x y : α} (h : (y :: U).Pairwise lt) (hx : x ∈ y :: U) : x = y ∨ lt y x := by
  rcases List.mem_cons.1 hx with hx | hx
  · exact .inl hx
  · exact .inr ((List.pairwise_cons.1 h).1 x hx)
theorem lt_lists (htr : TrOn S lt) {P Q : List α} (hP : P.Pairwise lt) (hQ : Q.Pairwise lt) (hSP : ∀ x ∈ P, S x) (hSQ : ∀ x ∈ Q, S x) (h : ∀ T x U y, P = T ++ [x] → Q = y :: U → lt x y) : ∀ x ∈ P, ∀ y ∈ Q, lt x y := by
  intro x hx y hy
  rcases List.eq_nil_or_concat P with rfl | ⟨T, z, rfl⟩
  · simp at hx
  rw [List.concat_eq_append] at *
  cases Q with
  | nil => simp at hy
  | cons u U =>
    have h0 := h T z U u rfl rfl
    have sz := hSP z (by simp)
    have su := hSQ u (by simp)
    have h1 : lt x u := by
      rcases last_ge hP hx with rfl | h1
      · exact h0
      · exact htr _ _ _ (hSP x hx) sz su h1 h0
    rcases head_le hQ hy with rfl | h2
    · exact h1
    · exact htr _ _ _ (hSP x hx) su (hSQ y hy) h1 h2
theorem merge_halves (htr : TrOn S lt) {L1 L2 R1 R2 M1 M2 : List α} (hS : ∀ x ∈ (L1 ++ L2) ++ (R1 ++ R2), S x) (hL : (L1 ++ L2).Pairwise lt) (hR : (R1 ++ R2).Pairwise lt)
    (h1 : ∀ T x U y, L1 = T ++ [x] → R2 = y :: U → lt x y) (h2 : ∀ T x U y, R1 = T ++ [x] → L2 = y :: U → lt x y)
    (p1 : M1.Perm (L1 ++ R1)) (p2 : M2.Perm (L2 ++ R2)) (s1 : M1.Pairwise lt) (s2 : M2.Pairwise lt) :
    (M1 ++ M2).Perm ((L1 ++ L2) ++ (R1 ++ R2)) ∧ (M1 ++ M2).Pairwise lt := by
  have hL' := List.pairwise_append.1 hL
  have hR' := List.pairwise_append.1 hR
  have sL1 : ∀ x ∈ L1, S x := fun x hx => hS x (by simp [hx])
  have sL2 : ∀ x ∈ L2, S x := fun x hx => hS x (by simp [hx])
  have sR1 : ∀ x ∈ R1, S x := fun x hx => hS x (by simp [hx])
  have sR2 : ∀ x ∈ R2, S x := fun x hx => hS x (by simp [hx])
  have k1 := lt_lists htr hL'.1 hR'.2.1 sL1 sR2 h1
  have k2 := lt_lists htr hR'.1 hL'.2.1 sR1 sL2 h2
  constructor
  · refine (p1.append p2).trans ?_
    have e : (L2 ++ R1).Perm (R1 ++ L2) := List.perm_append_comm
    rw [List.append_assoc, List.append_assoc]
    refine List.Perm.append_left L1 ?_
    rw [← List.append_assoc, ← List.append_assoc]
    exact (e.symm).append_right R2
  · rw [List.pairwise_append]
    refine ⟨s1, s2, fun x hx y hy => ?_⟩
    rcases List.mem_append.1 (p1.mem_iff.1 hx) with hx | hx <;> rcases List.mem_append.1 (p2.mem_iff.1 hy) with hy | hy
    · exact hL'.2.2 x hx y hy
    · exact k1 x hx y hy
    · exact k2 x hx y hy
    · exact hR'.2.2 x hx y hy
theorem swap_far (P Q R : List α) (x y : α) (i j : Nat) (hi : P.length = i) (hj : P.length + 1 + Q.length = j) : ((P ++ x :: (Q ++ y :: R)).set i y).set j x = P ++ y :: (Q ++ x :: R) := by
  subst hi hj
  rw [List.set_append_right _ _ (Nat.le_refl _), List.set_append_right _ _ (by omega)]
  simp only [Nat.sub_self, List.set_cons_zero]
  rw [show P.length + 1 + Q.length - P.length = Q.length + 1 by omega, List.set_cons_succ, List.set_append_right _ _ (Nat.le_refl _)]
  simp
theorem get_far (P Q R : List α) (x y : α) (j : Nat) (hj : P.length + 1 + Q.length = j) (h : j < (P ++ x :: (Q ++ y :: R)).length) : (P ++ x :: (Q ++ y :: R))[j] = y := by
  subst hj
  rw [List.getElem_append_right (by omega)]
  simp only [show P.length + 1 + Q.length - P.length = Q.length + 1 by omega, List.getElem_cons_succ]
  rw [List.getElem_append_right (Nat.le_refl _)]
  simp
inductive Full (lt : α → α → Prop) (bs : Nat) : List α → List α → Prop
  | nil : Full lt bs [] []
  | snoc {D M x y : List α} : Full lt bs D M → x.length = bs → x.Perm y → x.Pairwise lt → Full lt bs (D ++ x) (M ++ y)
inductive Blks (lt : α → α → Prop) (bs : Nat) : List α → List α → Prop
  | last {x y : List α} : x.length ≤ bs → x.Perm y → x.Pairwise lt → Blks lt bs x y
  | cons {x y D M : List α} : x.length = bs → x.Perm y → x.Pairwise lt → Blks lt bs D M → Blks lt bs (x ++ D) (y ++ M)
theorem Full.blks {bs : Nat} {D M : List α} (h : Full lt bs D M) : ∀ {D' M' : List α}, Blks lt bs D' M' → Blks lt bs (D ++ D') (M ++ M') := by
  induction h with
  | nil => intro D' M' h; exact h
  | snoc h hl hp hs ih =>
    intro D' M' h'
    rw [List.append_assoc, List.append_assoc]
    exact ih (.cons hl hp hs h')
theorem Blks.perm {bs : Nat} {D M : List α} (h : Blks lt bs D M) : D.Perm M := by
  induction h with
  | last _ hp _ => exact hp
  | cons _ hp _ _ ih => exact hp.append ih
theorem Full.perm {bs : Nat} {D M : List α} (h : Full lt bs D M) : D.Perm M := by
  induction h with
  | nil => exact .nil
  | snoc _ _ hp _ ih => exact ih.append hp
theorem Blks.two {bs : Nat} {D M : List α} (h : Blks lt bs D M) (hb : 0 < bs) (hl : 2 * bs ≤ D.length) : ∃ x1 x2 D' y1 y2 M', D = x1 ++ (x2 ++ D') ∧ M = y1 ++ (y2 ++ M') ∧ x1.length = bs ∧ x2.length = bs ∧ x1.Perm y1 ∧ x2.Perm y2 ∧ x1.Pairwise lt ∧ x2.Pairwise lt ∧ Blks lt bs D' M' := by
  cases h with
  | last h1 _ _ => omega
  | cons h1 p1 s1 h =>
    cases h with
    | last h2 p2 s2 =>
      rename_i x y x' y'
      simp at hl
      exact ⟨x, x', [], y, y', [], by simp, by simp, h1, by omega, p1, p2, s1, s2, .last (by simp) .nil .nil⟩
    | cons h2 p2 s2 h => exact ⟨_, _, _, _, _, _, rfl, rfl, h1, h2, p1, p2, s1, s2, h⟩
theorem Blks.rest {bs : Nat} {D M : List α} (h : Blks lt bs D M) (hb : 0 < bs) (hl : D.length < 2 * bs) (hm : bs < D.length) : ∃ x1 x2 y1 y2, D = x1 ++ x2 ∧ M = y1 ++ y2 ∧ x1.length = bs ∧ x2 ≠ [] ∧ x1.Perm y1 ∧ x2.Perm y2 ∧ x1.Pairwise lt ∧ x2.Pairwise lt := by
  cases h with
  | last h1 _ _ => omega
  | cons h1 p1 s1 h =>
    cases h with
    | last h2 p2 s2 => exact ⟨_, _, _, _, rfl, rfl, h1, by rintro rfl; simp at hm; omega, p1, p2, s1, s2⟩
    | cons h2 p2 s2 h => simp at hl; omega
theorem Blks.one {bs : Nat} {D M : List α} (h : Blks lt bs D M) (hl : D.length ≤ bs) : D.Perm M ∧ D.Pairwise lt := by
  cases h with
  | last h1 p s => exact ⟨p, s⟩
  | cons h1 p1 s1 h =>
    rename_i x y D' M'
    simp at hl
    have e : D' = [] := List.eq_nil_of_length_eq_zero (by omega)
    subst e
    have := h.perm.length_eq
    have e : M' = [] := List.eq_nil_of_length_eq_zero (by simpa using this.symm)
    subst e
    simpa using ⟨p1, s1⟩
end Go.Proofs.YtfbggmbmgohiiaaGreat.tm
namespace Go.Proofs.YtfbggmbmgohiiaaGreat.tm
open Go.RowKit mem names
variable {α : Type} {enc : α → TF × Value} {w0 wr w : World} {b n cap : Nat} {d : List α} {S : α → Prop} {c : α → α → Int} {tg : α → Nat}
theorem RowW.swapFar {P Q R : List α} {x y : α} (h : RowW enc w0 wr b n cap (P ++ x :: (Q ++ y :: R))) {i j : Nat} (hi : P.length = i) (hj : P.length + 1 + Q.length = j) : RowW enc w0 (set9 (set9 wr b (i * 9) (enc y).1 (enc y).2) b (j * 9) (enc x).1 (enc x).2).drew b n cap (P ++ y :: (Q ++ x :: R)) := by
  have h1 : i < (P ++ x :: (Q ++ y :: R)).length := by simp; omega
  have h2 : j < (P ++ x :: (Q ++ y :: R)).length := by simp; omega
  have e1 : (P ++ x :: (Q ++ y :: R))[i] = x := getElem_mid P _ x hi.symm h1
  have e2 : (P ++ x :: (Q ++ y :: R))[j] = y := get_far P Q R x y j hj h2
  have := h.swap i j h1 h2
  rw [e1, e2, swap_far P Q R x y i j hi hj] at this
  exact this
theorem RowW.cellsFar {P Q R : List α} {x y : α} (h : RowW enc w0 wr b n cap (P ++ x :: (Q ++ y :: R))) {j : Nat} (hj : P.length + 1 + Q.length = j) : Cells wr b (j * 9) (enc y).1 (enc y).2 := by
  have h2 : j < (P ++ x :: (Q ++ y :: R)).length := by simp; omega
  have := h.cells j h2
  rwa [get_far P Q R x y j hj h2] at this
def UnitRow (enc : α → TF × Value) (w0 : World) (b n cap : Nat) (d : List α) (e : Ending) (w' : World) : Prop := e = .returned (.tuple #[]) ∧ RowW enc w0 w' b n cap d
def SwapInv (enc : α → TF × Value) (w0 wr : World) (b n cap : Nat) (A X M Y C : List α) (i : Nat) : Prop :=
  ∃ X1 X2 Y1 Y2, X = X1 ++ X2 ∧ Y = Y1 ++ Y2 ∧ X1.length = i ∧ Y1.length = i ∧ RowW enc w0 wr b n cap (A ++ (Y1 ++ (X2 ++ (M ++ (X1 ++ (Y2 ++ C))))))
theorem SwapInv.take {A X M Y C : List α} {i k a b2 : Nat} (h : SwapInv enc w0 wr b n cap A X M Y C i) (ha : A.length = a) (hk : X.length = k) (hk2 : Y.length = k) (hb : a + k + M.length = b2) (hi : i < k) (hS : ∀ x ∈ X ++ Y, S x) :
    ∃ P Q R x y, P.length = a + i ∧ P.length + 1 + Q.length = b2 + i ∧ S x ∧ S y ∧ RowW enc w0 wr b n cap (P ++ x :: (Q ++ y :: R)) ∧ (∀ w', RowW enc w0 w' b n cap (P ++ y :: (Q ++ x :: R)) → SwapInv enc w0 w' b n cap A X M Y C (i + 1)) := by
  obtain ⟨X1, X2, Y1, Y2, rfl, rfl, h1, h2, h3⟩ := h
  cases X2 with
  | nil => simp at hk; omega
  | cons x X2 =>
    cases Y2 with
    | nil => simp at hk2; omega
    | cons y Y2 =>
      simp at hk hk2
      refine ⟨A ++ Y1, X2 ++ (M ++ X1), Y2 ++ C, x, y, by simp; omega, by simp; omega, hS x (by simp), hS y (by simp), by simpa using h3, fun w' hw => ?_⟩
      exact ⟨X1 ++ [x], X2, Y1 ++ [y], Y2, by simp, by simp, by simp; omega, by simp; omega, by simpa using hw⟩
theorem SwapInv.done {A X M Y C : List α} {k : Nat} (h : SwapInv enc w0 wr b n cap A X M Y C k) (hk : X.length = k) (hk2 : Y.length = k) : RowW enc w0 wr b n cap (A ++ (Y ++ (M ++ (X ++ C)))) := by
  obtain ⟨X1, X2, Y1, Y2, rfl, rfl, h1, h2, h3⟩ := h
  have e1 : X2 = [] := List.eq_nil_of_length_eq_zero (by simp at hk; omega)
  have e2 : Y2 = [] := List.eq_nil_of_length_eq_zero (by simp at hk2; omega)
  subst e1 e2
  simpa using h3
set_option maxHeartbeats 2000000 in
theorem swapRange (hsh : ∀ x, S x → ∃ p m k, (enc x).2 = .slice p m k) (A X M Y C : List α) (hS : ∀ x ∈ X ++ Y, S x) (h : RowW enc w0 w b n cap (A ++ (X ++ (M ++ (Y ++ C))))) (a b2 k : Nat) (ha : A.length = a) (hk : X.length = k) (hk2 : Y.length = k) (hb : a + k + M.length = b2) (hn : n ≤ 1000000) (fv : Value) :
    Calls Tryz.prog 159 #[.slice (some ⟨b, 0, none⟩) n cap, .int .i64 a, .int .i64 b2, .int .i64 k, fv] w (UnitRow enc w0 b n cap (A ++ (Y ++ (M ++ (X ++ C))))) := by
  have hlen := h.len
  have hbn : b2 + k ≤ n := by rw [← hlen]; simp; omega
  have hab : a + k ≤ b2 := by omega
  have HTake := Lib.hid (fun wr i (h : SwapInv enc w0 wr b n cap A X M Y C i) (hi : i < k) => h.take ha hk hk2 hb hi hS)
  have HEnd := Lib.hid (fun wr (h : SwapInv enc w0 wr b n cap A X M Y C k) => h.done hk hk2)
  have HStart : Hid (SwapInv enc w0 w b n cap A X M Y C 0) := Lib.hid ⟨[], X, [], Y, rfl, rfl, rfl, rfl, by simpa using h⟩
  have HSh := Lib.hid hsh
  clear hS ha hk hk2 hb hlen h hsh
  go_enter Tryz.func159, Tryz.ntmps159
  go_wp2_with fail
  go_loopw [10] (fun s wr => ∃ i : Nat, s = .int .i64 i ∧ i ≤ k ∧ Hid (SwapInv enc w0 wr b n cap A X M Y C i)) (fun s _ => k - (intOf s).toNat)
  case atStart => exact ⟨0, by go_num, by omega, HStart⟩
  case round =>
    obtain ⟨i, rfl, hik, HR⟩ := hrel
    by_cases hlt : i < k
    · obtain ⟨P, Q, R, x, y, hP, hQ, hSx, hSy, hRow, hMove⟩ := HTake.out wr i HR.out hlt
      have HMove := Lib.hid hMove
      have hsx := HSh.out x hSx
      have hsy := HSh.out y hSy
      obtain ⟨p, hp⟩ : ∃ p, p = a + i := ⟨_, rfl⟩
      obtain ⟨q, hq⟩ : ∃ q, q = b2 + i := ⟨_, rfl⟩
      rw [← hp] at hP
      rw [← hq] at hQ
      have hcx : Cells wr b (p * 9) (enc x).1 (enc x).2 := hRow.cellsAt hP
      have hcy : Cells wr b (q * 9) (enc y).1 (enc y).2 := hRow.cellsFar hQ
      have hbl : b < wr.heap.size := hRow.lt
      have HFz : Hid (∀ o, wr.frozen? ⟨b, o, none⟩ = false) := Lib.hid (fun o => hRow.frozen o)
      have hfin := hRow.swapFar hP hQ
      obtain ⟨p1, m1, c1, ex⟩ := hsx
      obtain ⟨p2, m2, c2, ey⟩ := hsy
      obtain ⟨X9, eX⟩ : ∃ X9, enc x = X9 := ⟨_, rfl⟩
      obtain ⟨Y9, eY⟩ : ∃ Y9, enc y = Y9 := ⟨_, rfl⟩
      have HEX := Lib.hid eX
      have HEY := Lib.hid eY
      rw [eX] at hcx ex
      rw [eY] at hcy ey
      obtain ⟨⟨k1, i1, g1, n1, fn1, a1, by1, s1⟩, v1⟩ := X9
      obtain ⟨⟨k2, i2, g2, n2, fn2, a2, by2, s2⟩, v2⟩ := Y9
      dsimp only at hcx hcy ex ey
      subst ex
      subst ey
      clear eX eY
      rw [HEX.out, HEY.out] at hfin
      unfold set9 at hfin
      dsimp only at hfin
      have HFin := Lib.hid (HMove.out _ hfin)
      obtain ⟨x0, x1, x2, x3, x4, x5, x6, x7, x8⟩ := hcx
      obtain ⟨y0, y1, y2, y3, y4, y5, y6, y7, y8⟩ := hcy
      dsimp only at x0 x1 x2 x3 x4 x5 x6 x7 x8 y0 y1 y2 y3 y4 y5 y6 y7 y8
      have hfz := HFz.out
      have r1 : (p : Int) < (n : Int) := by omega
      have r2 : (q : Int) < (n : Int) := by omega
      have r3 : (a : Int) + (i : Int) = (p : Int) := by omega
      have r4 : (b2 : Int) + (i : Int) = (q : Int) := by omega
      have r5 : IntKind.i64.wrap (p : Int) = (p : Int) := IntWalk.i64_in _ (by omega)
      have r6 : IntKind.i64.wrap (q : Int) = (q : Int) := IntWalk.i64_in _ (by omega)
      clear hP hQ hRow hMove hfin hp hq HFz HEX HEY HMove
      go_wp2_with fail
      go_big_region
      go_wp2_with fail
      go_roundw
      case rel => exact ⟨i + 1, by go_num, by omega, HFin⟩
      case measure => simp [intOf]; omega
    · obtain rfl : i = k := by omega
      go_wp2_with fail
      go_end0
      exact ⟨rfl, HEnd.out _ HR.out⟩
def RotInv (enc : α → TF × Value) (w0 wr : World) (b n cap : Nat) (A U V C : List α) (m i j : Nat) : Prop :=
  ∃ P X Y Q, P.length + A.length + i = m ∧ X.length = i ∧ Y.length = j ∧ P ++ (Y ++ (X ++ Q)) = V ++ U ∧ (∀ x ∈ X ++ Y, x ∈ U ++ V) ∧ RowW enc w0 wr b n cap (A ++ (P ++ (X ++ (Y ++ (Q ++ C)))))
theorem RotInv.big {A U V C : List α} {m i j : Nat} (h : RotInv enc w0 wr b n cap A U V C m i j) (hij : j < i) :
    ∃ A' X M Y C', RowW enc w0 wr b n cap (A' ++ (X ++ (M ++ (Y ++ C')))) ∧ (∀ x ∈ X ++ Y, x ∈ U ++ V) ∧ A'.length + i = m ∧ X.length = j ∧ Y.length = j ∧ (m - i) + j + M.length = m ∧ i ≤ m ∧ m + j ≤ n ∧ (∀ w', RowW enc w0 w' b n cap (A' ++ (Y ++ (M ++ (X ++ C')))) → RotInv enc w0 w' b n cap A U V C m (i - j) j) := by
  obtain ⟨P, X, Y, Q, h1, h2, h3, h4, h6, h5⟩ := h
  have hl := h5.len
  simp at hl
  refine ⟨A ++ P, X.take j, X.drop j, Y, Q ++ C, ?_, fun x hx => h6 x ?_, by simp; omega, by simp; omega, h3, by simp; omega, by omega, by omega, fun w' hw => ?_⟩
  · have e : A ++ P ++ (List.take j X ++ (List.drop j X ++ (Y ++ (Q ++ C)))) = A ++ (P ++ (X ++ (Y ++ (Q ++ C)))) := by
      rw [← List.append_assoc (List.take j X), List.take_append_drop, List.append_assoc]
    rw [e]; exact h5
  · rcases List.mem_append.1 hx with hx | hx
    · exact List.mem_append.2 (.inl (List.mem_of_mem_take hx))
    · exact List.mem_append.2 (.inr hx)
  · refine ⟨P ++ Y, X.drop j, X.take j, Q, by simp; omega, by simp; omega, by simp; omega, ?_, fun x hx => h6 x ?_, ?_⟩
    · rw [← h4, List.append_assoc, ← List.append_assoc (List.take j X), List.take_append_drop]
    · rcases List.mem_append.1 hx with hx | hx
      · exact List.mem_append.2 (.inl (List.mem_of_mem_drop hx))
      · exact List.mem_append.2 (.inl (List.mem_of_mem_take hx))
    · simpa using hw
theorem RotInv.small {A U V C : List α} {m i j : Nat} (h : RotInv enc w0 wr b n cap A U V C m i j) (hij : i < j) :
    ∃ A' X M Y C', RowW enc w0 wr b n cap (A' ++ (X ++ (M ++ (Y ++ C')))) ∧ (∀ x ∈ X ++ Y, x ∈ U ++ V) ∧ A'.length + i = m ∧ X.length = i ∧ Y.length = i ∧ (m - i) + i + M.length = m + j - i ∧ i ≤ m ∧ m + j ≤ n ∧ (∀ w', RowW enc w0 w' b n cap (A' ++ (Y ++ (M ++ (X ++ C')))) → RotInv enc w0 w' b n cap A U V C m i (j - i)) := by
  obtain ⟨P, X, Y, Q, h1, h2, h3, h4, h6, h5⟩ := h
  have hl := h5.len
  simp at hl
  refine ⟨A ++ P, X, Y.take (j - i), Y.drop (j - i), Q ++ C, ?_, fun x hx => h6 x ?_, by simp; omega, h2, by simp; omega, by simp; omega, by omega, by omega, fun w' hw => ?_⟩
  · have e : A ++ P ++ (X ++ (List.take (j - i) Y ++ (List.drop (j - i) Y ++ (Q ++ C)))) = A ++ (P ++ (X ++ (Y ++ (Q ++ C)))) := by
      rw [← List.append_assoc (List.take (j - i) Y), List.take_append_drop, List.append_assoc]
    rw [e]; exact h5
  · rcases List.mem_append.1 hx with hx | hx
    · exact List.mem_append.2 (.inl hx)
    · exact List.mem_append.2 (.inr (List.mem_of_mem_drop hx))
  · refine ⟨P, Y.drop (j - i), Y.take (j - i), X ++ Q, by omega, by simp; omega, by simp; omega, ?_, fun x hx => h6 x ?_, ?_⟩
    · rw [← h4, ← List.append_assoc (List.take (j - i) Y), List.take_append_drop]
    · rcases List.mem_append.1 hx with hx | hx
      · exact List.mem_append.2 (.inr (List.mem_of_mem_drop hx))
      · exact List.mem_append.2 (.inr (List.mem_of_mem_take hx))
    · simpa using hw
theorem RotInv.same {A U V C : List α} {m i : Nat} (h : RotInv enc w0 wr b n cap A U V C m i i) :
    ∃ A' X Y C', RowW enc w0 wr b n cap (A' ++ (X ++ ([] ++ (Y ++ C')))) ∧ (∀ x ∈ X ++ Y, x ∈ U ++ V) ∧ A'.length + i = m ∧ X.length = i ∧ Y.length = i ∧ i ≤ m ∧ (∀ w', RowW enc w0 w' b n cap (A' ++ (Y ++ ([] ++ (X ++ C')))) → RowW enc w0 w' b n cap (A ++ (V ++ (U ++ C)))) := by
  obtain ⟨P, X, Y, Q, h1, h2, h3, h4, h6, h5⟩ := h
  refine ⟨A ++ P, X, Y, Q ++ C, by simpa using h5, h6, by simp; omega, h2, h3, by omega, fun w' hw => ?_⟩
  have e : A ++ (V ++ (U ++ C)) = A ++ P ++ (Y ++ ([] ++ (X ++ (Q ++ C)))) := by
    rw [← List.append_assoc V, ← h4]; simp
  rw [e]; exact hw
set_option maxHeartbeats 2000000 in
theorem rotate (hsh : ∀ x, S x → ∃ p m k, (enc x).2 = .slice p m k) (A U V C : List α) (hS : ∀ x ∈ U ++ V, S x) (h : RowW enc w0 w b n cap (A ++ (U ++ (V ++ C)))) (a m e : Nat) (ha : A.length = a) (hm : a + U.length = m) (he : m + V.length = e) (hU : a < m) (hV : m < e) (hn : n ≤ 1000000) (fv : Value) :
    Calls Tryz.prog 152 #[.slice (some ⟨b, 0, none⟩) n cap, .int .i64 a, .int .i64 m, .int .i64 e, fv] w (UnitRow enc w0 b n cap (A ++ (V ++ (U ++ C)))) := by
  have hlen := h.len
  have hen : e ≤ n := by rw [← hlen]; simp; omega
  have HSw := Lib.hid (fun (w : World) (A X M Y C : List α) (hS : ∀ x ∈ X ++ Y, S x) (h : RowW enc w0 w b n cap (A ++ (X ++ (M ++ (Y ++ C))))) (a b2 k : Nat) (ha : A.length = a) (hk : X.length = k) (hk2 : Y.length = k) (hb : a + k + M.length = b2) => swapRange (w := w) hsh A X M Y C hS h a b2 k ha hk hk2 hb hn fv)
  have HBig := Lib.hid (fun wr i j (h : RotInv enc w0 wr b n cap A U V C m i j) (hij : j < i) => h.big hij)
  have HSmall := Lib.hid (fun wr i j (h : RotInv enc w0 wr b n cap A U V C m i j) (hij : i < j) => h.small hij)
  have HSame := Lib.hid (fun wr i (h : RotInv enc w0 wr b n cap A U V C m i i) => h.same)
  have HStart : Hid (RotInv enc w0 w b n cap A U V C m (m - a) (e - m)) := Lib.hid ⟨[], U, V, [], by simp; omega, by omega, by omega, by simp, fun x hx => hx, by simpa using h⟩
  have HS := Lib.hid hS
  clear hS ha hm he hlen h hsh
  obtain ⟨i0, hi0⟩ : ∃ i0 : Nat, m = a + i0 := ⟨m - a, by omega⟩
  obtain ⟨j0, hj0⟩ : ∃ j0 : Nat, e = m + j0 := ⟨e - m, by omega⟩
  have r1 : (m : Int) - (a : Int) = (i0 : Int) := by omega
  have r2 : (e : Int) - (m : Int) = (j0 : Int) := by omega
  have s1 : m - a = i0 := by omega
  have s2 : e - m = j0 := by omega
  rw [s1, s2] at HStart
  have hi1 : 0 < i0 := by omega
  have hj1 : 0 < j0 := by omega
  have hij : m + j0 ≤ n := by omega
  have him : i0 ≤ m := by omega
  clear s1 s2 hi0 hj0
  go_enter Tryz.func152, Tryz.ntmps152
  go_wp2_with fail
  clear r1 r2
  go_loopw [10, 11] (fun s t wr => ∃ i j : Nat, s = .int .i64 i ∧ t = .int .i64 j ∧ 0 < i ∧ 0 < j ∧ i ≤ m ∧ m + j ≤ n ∧ Hid (RotInv enc w0 wr b n cap A U V C m i j)) (fun s t _ => (intOf s).toNat + (intOf t).toNat)
  case atStart => exact ⟨i0, j0, rfl, rfl, hi1, hj1, him, hij, HStart⟩
  case round =>
    obtain ⟨i, j, rfl, rfl, hi, hj, him, hjn, HR⟩ := hrel
    obtain ⟨p, hp⟩ : ∃ p : Nat, m = p + i := ⟨m - i, by omega⟩
    have r1 : (m : Int) - (i : Int) = (p : Int) := by omega
    have s1 : m - i = p := by omega
    by_cases h1 : j < i
    · obtain ⟨A', X, M, Y, C', q1, q2, q3, q4, q5, q6, q7, q8, q9⟩ := HBig.out wr i j HR.out h1
      have HC := Lib.hid (HSw.out wr A' X M Y C' (fun x hx => HS.out x (q2 x hx)) q1 p m j (by omega) q4 q5 (by omega))
      have HN := Lib.hid q9
      clear q1 q2 q3 q4 q5 q6 q7 q8 q9 s1 hp
      have t1 : (i : Int) ≠ (j : Int) := by omega
      have t2 : ((i : Int) == (j : Int)) = false := by simpa using t1
      have t3 : (i : Int) - (j : Int) = ((i - j : Nat) : Int) := by omega
      go_wp2_with fail
      refine HC.out.mono ?_
      rintro e1 w1 ⟨rfl, hr⟩
      have HF := Lib.hid (HN.out w1 hr)
      clear hr HC HN
      go_wp2_with fail
      go_roundw
      case rel => exact ⟨i - j, j, by go_num, rfl, by omega, hj, by omega, hjn, HF⟩
      case measure => simp [intOf]; omega
    · by_cases h2 : i < j
      · obtain ⟨A', X, M, Y, C', q1, q2, q3, q4, q5, q6, q7, q8, q9⟩ := HSmall.out wr i j HR.out h2
        obtain ⟨q, hq⟩ : ∃ q : Nat, q + i = m + j := ⟨m + j - i, by omega⟩
        have HC := Lib.hid (HSw.out wr A' X M Y C' (fun x hx => HS.out x (q2 x hx)) q1 p q i (by omega) q4 q5 (by omega))
        have HN := Lib.hid q9
        have t1 : (i : Int) ≠ (j : Int) := by omega
        have t2 : ((i : Int) == (j : Int)) = false := by simpa using t1
        have t3 : (j : Int) - (i : Int) = ((j - i : Nat) : Int) := by omega
        have t4 : (m : Int) + (j : Int) - (i : Int) = (q : Int) := by omega
        clear q1 q2 q3 q4 q5 q6 q7 q8 q9 s1 hp hq
        go_wp2_with fail
        refine HC.out.mono ?_
        rintro e1 w1 ⟨rfl, hr⟩
        have HF := Lib.hid (HN.out w1 hr)
        clear hr HC HN
        go_wp2_with fail
        go_roundw
        case rel => exact ⟨i, j - i, rfl, by go_num, hi, by omega, him, by omega, HF⟩
        case measure => simp [intOf]; omega
      · obtain rfl : i = j := by omega
        obtain ⟨A', X, Y, C', q1, q2, q3, q4, q5, q6, q7⟩ := HSame.out wr i HR.out
        have HC := Lib.hid (HSw.out wr A' X [] Y C' (fun x hx => HS.out x (q2 x hx)) q1 p m i (by omega) q4 q5 (by simp; omega))
        have HN := Lib.hid q7
        clear q1 q2 q3 q4 q5 q6 q7 s1 hp
        go_wp2_with fail
        refine HC.out.mono ?_
        rintro e1 w1 ⟨rfl, hr⟩
        have HF := Lib.hid (HN.out w1 hr)
        clear hr HC HN
        go_wp2_with fail
        go_end0
        exact ⟨rfl, HF.out⟩
end Go.Proofs.YtfbggmbmgohiiaaGreat.tm
