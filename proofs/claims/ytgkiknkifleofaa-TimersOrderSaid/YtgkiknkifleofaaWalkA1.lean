/- TimersApart. Conditions: the arguments lie in memory. -/
import Derived.Test.YtgkiknkifleofaaWalkZ
namespace Go.Proofs.Ytgkiknkifleofaa.tm
open Go.RowKit mem TP
set_option linter.unusedVariables false
set_option linter.unusedSimpArgs false
set_option maxHeartbeats 1000000
set_option maxRecDepth 100000

def dropAll (A : List TD) (l : List AD) : List TD := l.foldl (fun A a => dropT A a.id) A
theorem dropAll_snoc (A : List TD) (l : List AD) (k : Nat) (h : k < l.length) : dropAll A (l.take (k + 1)) = dropT (dropAll A (l.take k)) l[k].id := by
  unfold dropAll; rw [List.take_succ_eq_append_getElem h, List.foldl_append]; rfl
theorem dropAll_mem (l : List AD) : ∀ (A : List TD) (x : TD), x ∈ dropAll A l ↔ x ∈ A ∧ x.id ∉ l.map (·.id) := by
  induction l with
  | nil => intro A x; simp [dropAll]
  | cons a l ih =>
    intro A x
    have := ih (dropT A a.id) x
    unfold dropAll at *
    rw [List.foldl_cons, this]
    unfold dropT
    simp
    constructor
    · rintro ⟨⟨h1, h2⟩, h3⟩; exact ⟨h1, h2, h3⟩
    · rintro ⟨h1, h2, h3⟩; exact ⟨⟨h1, h2⟩, h3⟩
theorem fill_ids (l : List AD) : ∀ x ∈ (fill l).A, x.id ∈ (fill l).ins.map (·.id) := by
  have h : ∀ (l : List AD) (s : FS), (∀ x ∈ s.A, x.id ∈ s.ins.map (·.id)) → ∀ x ∈ (l.foldl fstep s).A, x.id ∈ (l.foldl fstep s).ins.map (·.id) := by
    intro l
    induction l with
    | nil => intro s h; exact h
    | cons a l ih =>
      intro s hs
      rw [List.foldl_cons]
      refine ih _ ?_
      unfold fstep addT
      by_cases hE : addE s.A a.due a.id = 0
      · rw [if_pos hE, if_pos hE]
        intro x hx
        rw [List.map_append]
        rcases ins_mem.1 hx with e | e
        · exact List.mem_append_left _ (hs x e)
        · subst e; simp
      · rw [if_neg hE, if_neg hE]; exact hs
  exact h l ⟨[], 0, []⟩ (by simp)
theorem drop_all_fill (l : List AD) : dropAll (fill l).A (fill l).ins = [] := by
  refine List.eq_nil_iff_forall_not_mem.2 (fun x hx => ?_)
  obtain ⟨h1, h2⟩ := (dropAll_mem _ _ _).1 hx
  exact h2 (fill_ids l x h1)
theorem adsV_at : ∀ (l : List AD) (j : Nat) (h : j < l.length), (adsV l)[j * 3]? = some (.int .i64 l[j].kind) ∧ (adsV l)[j * 3 + 1]? = some (.int .i64 l[j].due) ∧ (adsV l)[j * 3 + 2]? = some (.int .i64 l[j].id) := by
  intro l
  induction l with
  | nil => intro j h; simp at h
  | cons a l ih =>
    intro j h
    have e : adsV (a :: l) = [.int .i64 a.kind, .int .i64 a.due, .int .i64 a.id] ++ adsV l := rfl
    rw [e]
    cases j with
    | zero => exact ⟨rfl, rfl, rfl⟩
    | succ j =>
      obtain ⟨h0, h1, h2⟩ := ih j (by simpa using h)
      have x : ∀ i, ([.int .i64 a.kind, .int .i64 a.due, .int .i64 a.id] ++ adsV l)[i + 3]? = (adsV l)[i]? := fun i => by
        rw [List.getElem?_append_right (by simp)]; simp
      have y0 := x (j * 3)
      have y1 := x (j * 3 + 1)
      have y2 := x (j * 3 + 2)
      refine ⟨?_, ?_, ?_⟩
      · rw [show (j + 1) * 3 = j * 3 + 3 by omega, y0]; simpa using h0
      · rw [show (j + 1) * 3 + 1 = j * 3 + 1 + 3 by omega, y1]; simpa using h1
      · rw [show (j + 1) * 3 + 2 = j * 3 + 2 + 3 by omega, y2]; simpa using h2
theorem acts_row {w : World} {B : Nat} {v : Value} {l : List AD} (h : w.ownsRow B 38 3 v l.length (adsV l)) : ActsAt w v l ∧ (l ≠ [] → ∃ g c, v = .slice (some ⟨g, 0, none⟩) l.length c ∧ v.ownBlock = some g) := by
  obtain ⟨hl, h⟩ := h
  rcases h with ⟨rfl, h0⟩ | ⟨g, cap, cur, rfl, hb, hg, hn, hc, hs, ht⟩
  · have := List.eq_nil_of_length_eq_zero h0
    subst this
    exact ⟨⟨none, 0, rfl, by simp, by unfold maxLen; omega, fun h => absurd rfl h⟩, fun h => absurd rfl h⟩
  · refine ⟨⟨_, cap, rfl, hn, hc, fun _ => ⟨g, 0, rfl, (Array.getElem?_eq_some_iff.1 hg).1, fun j hj => ?_⟩⟩, fun _ => ⟨g, cap, rfl, rfl⟩⟩
    obtain ⟨h0, h1, h2⟩ := adsV_at l j hj
    have e : ∀ i, i < l.length * 3 → w.cell? ⟨g, 0 + i, none⟩ = (adsV l)[i]? := fun i hi => by
      simp only [World.cell?, hg, Nat.zero_add]
      rw [← ht, List.getElem?_take, if_pos hi]
      simp
    have q1 : (0 + j * 3 + 1) = 0 + (j * 3 + 1) := by omega
    have q2 : (0 + j * 3 + 1 + 1) = 0 + (j * 3 + 2) := by omega
    rw [q2, q1, e _ (by omega), e _ (by omega), e _ (by omega)]
    exact ⟨h0, h1, h2⟩

theorem row_set {w : World} {B g n c k : Nat} {xs : List Value} (h : w.ownsRow B 2 1 (.slice (some ⟨g, 0, none⟩) n c) n xs) (hk : k < n) (u : Value) : (w.setCell ⟨g, k, none⟩ u).ownsRow B 2 1 (.slice (some ⟨g, 0, none⟩) n c) n (xs.set k u) := by
  obtain ⟨hl, h⟩ := h
  rcases h with ⟨e, _⟩ | ⟨g', cap, cur, e, hb, hg, hn, hc, hs, ht⟩
  · cases e
  · simp only [Value.slice.injEq, Option.some.injEq, Addr.mk.injEq] at e
    obtain ⟨⟨rfl, _⟩, _, rfl⟩ := e
    refine ⟨by simpa using hl, .inr ⟨g, c, cur.setIfInBounds k u, rfl, hb, block_setCell _ _ _ _ _ _ _ hg, hn, hc, by simpa using hs, ?_⟩⟩
    rw [Array.toList_setIfInBounds, List.take_set, ht]
theorem row_cell {w : World} {B g n c k : Nat} {xs : List Value} (h : w.ownsRow B 2 1 (.slice (some ⟨g, 0, none⟩) n c) n xs) (hk : k < n) : (∃ u, w.cell? ⟨g, k, none⟩ = some u) ∧ w.frozen? ⟨g, k, none⟩ = false ∧ B ≤ g := by
  obtain ⟨hl, h⟩ := h
  rcases h with ⟨e, _⟩ | ⟨g', cap, cur, e, hb, hg, hn, hc, hs, ht⟩
  · cases e
  · simp only [Value.slice.injEq, Option.some.injEq, Addr.mk.injEq] at e
    obtain ⟨⟨rfl, _⟩, _, rfl⟩ := e
    refine ⟨⟨cur[k]'(by omega), ?_⟩, by simp [World.frozen?, hg], hb⟩
    simp only [World.cell?, hg]
    simp [show k < cur.size by omega]
theorem lawApart (w : World) (v : Value) (l : List AD) (v' : Value) (m : List AD) (h : ActsAt w v l) (h' : ActsAt w v' m) : Calls Try.prog 5 #[v, v'] w fun e w' => e = .returned (.bool true) ∧ Below w.heap.size w w' := by
  have hfl := SFilled (Below.refl _ _) h
  have hbd := fill_bd l
  have hbd2 := (fill_n (m.take 400)).2
  rw [List.length_take] at hbd2
  have HE := Lib.hid (drop_all_fill (m.take 400))
  go_enter Try.func5, Try.ntmps5
  go_wp2_with fail
  refine hfl.mono ?_
  rintro e w1 ⟨b1, u1, F1, rfl, hb1, hS1, hB1⟩
  clear hfl hB1
  generalize (fill (l.take 400)).n = n at *
  generalize (fill (l.take 400)).A = A at *
  go_wp2_with fail
  refine (SList hS1).mono ?_
  rintro e w2 ⟨v2, rfl, hi2, ho2, hb2, hS2⟩
  clear hS1
  have hfl2 := SFilled hS2.bel ((h'.below hb1 (Nat.le_refl _)).below hb2 (Nat.le_refl _))
  go_wp2_with fail
  refine hfl2.mono ?_
  rintro e w3 ⟨b2, u2, F2, rfl, hb3, hT3, hB3⟩
  have hF1 : ∀ k, F1 k → k < w2.heap.size := fun k hk => hS2.whl.lt k hk
  have hF2 : ∀ k, F2 k → w2.heap.size ≤ k := hB3.own
  have hF12 : Hid (∀ k, F1 k → ¬ F2 k) := Lib.hid (fun k h1 h2 => by have := hF1 k h1; have := hF2 k h2; omega)
  clear hfl2
  have hS3 := hS2.on hb3
  have hi3 := hi2.below hb3 (Nat.le_refl _)
  have ho3 : Off v2 (A.map (·.id)) F2 := fun hl g o n c e hF => by have := hi2.lt hl g o n c e; have := hF2 g hF; omega
  obtain ⟨hact, hblk⟩ := acts_row hB3.row
  have hoff := hB3.off
  clear hF1 hF2 hB3 hi2 hS2
  generalize (fill (m.take 400)).n = n2 at *
  generalize (fill (m.take 400)).A = A2 at *
  generalize (fill (m.take 400)).ins = L at *
  obtain ⟨p, c, rfl, hc1, hc2, hc3⟩ := hact
  unfold maxLen at hc2
  have HC := Lib.hid hc3; clear hc3
  have HB := Lib.hid hblk; clear hblk
  have HO := Lib.hid hoff; clear hoff
  go_wp2_with fail
  go_loopw [10] (fun s wr => ∃ k : Nat, s = .int .i64 k ∧ k ≤ L.length ∧ Step w w3 wr b2 (dropAll A2 (L.take k)) n2 F2 F2) (fun s _ => L.length - (intOf s).toNat)
  case atStart => exact ⟨0, rfl, by omega, hT3.still⟩
  case round =>
    obtain ⟨k, rfl, hk, hT⟩ := hrel
    by_cases hlt : k < L.length
    · have hne : L ≠ [] := by intro e; subst e; simp at hlt
      obtain ⟨g, o, rfl, hg, hx⟩ := HC.out hne
      obtain ⟨g', c', e1, e2⟩ := HB.out hne
      simp at e1
      obtain ⟨⟨rfl, rfl⟩, rfl⟩ := e1
      have hnF : ¬ F2 g := HO.out g e2
      have x2 := (hx k hlt).2.2
      have y2 : wr.cell? ⟨g, 0 + k * 3 + 1 + 1, none⟩ = some (.int .i64 L[k].id) := (hT.touch.cell (p := ⟨g, 0 + k * 3 + 1 + 1, none⟩) hg hnF).trans x2
      rw [Nat.zero_add] at y2
      have HD := Lib.hid (dropAll_snoc A2 L k hlt)
      have hD := SDrop hT.st L[k].id
      generalize L[k] = a at *
      clear hx x2
      go_wp2_with fail
      refine hD.mono ?_
      rintro e w4 ⟨rfl, hT4⟩
      clear hD
      rw [← HD.out] at hT4
      have hT5 : Step w w3 w4 b2 (dropAll A2 (L.take (k + 1))) n2 F2 F2 := ⟨hT4.st, hT.touch.trans hT4.touch (fun _ _ e => e), fun k hk => .inl hk⟩
      go_wp2_with fail
      go_roundw
      case rel => exact ⟨k + 1, by go_num, by omega, hT5⟩
      case measure => simp [intOf]; omega
    · have hkk : L.take k = L := List.take_of_length_le (by omega)
      rw [hkk, HE.out] at hT
      clear hkk
      have hS4 := hS3.other hT.touch hT.st.bel hF12.out
      have hi4 := (hi3.step ho3 hT.touch hT.grow).1
      have hT4 := hT.st
      clear hT
      go_wp2_with fail
      refine (SList hS4).mono ?_
      rintro e w5 ⟨v5, rfl, hi5, ho5, hb5, hS5⟩
      have hi5' := hi4.below hb5 (Nat.le_refl _)
      have hT5 := hT4.on hb5
      clear hS4 hi4 hT4
      go_wp2_with fail
      refine (same hi5 hi5').mono ?_
      rintro e w6 ⟨rfl, q, rfl⟩
      rw [decide_eq_true rfl]
      have hS6 := hS5.drewN q
      have hT6 := hT5.drewN q
      have hi6 := hi5'.drewN q
      clear hS5 hT5 hi5 hi5' ho5 hb5
      generalize w5.drewN q = w6 at *
      go_wp2_with fail
      refine (SLen hT6).mono ?_
      rintro e w7 ⟨rfl, rfl⟩
      clear hT6
      go_wp2_with fail
      have hF6 : ∀ k, F1 k → k < w6.heap.size := fun k hk => hS6.whl.lt k hk
      refine (ListM sortM sort0 w6 hS6.whl).mono ?_
      rintro e w7 ⟨v7, rfl, hr7, hb7⟩
      have hS7 := hS6.on hb7
      have hi7 := hi6.below hb7 (Nat.le_refl _)
      obtain ⟨p7, c7, rfl⟩ : ∃ p c, v7 = .slice p A.length c := by
        rcases hr7.2 with ⟨e, h0⟩ | ⟨g, cap, cur, e, _⟩
        · exact ⟨none, 0, by rw [e, h0]⟩
        · exact ⟨_, _, e⟩
      have hAl : A.length ≤ 1000 := by have := hS6.whl.good.len; omega
      clear hS7 hi7
      go_wp2_with fail
      go_loopw [12] (fun s wr => ∃ (k : Nat) (xs : List Value), s = .int .i64 k ∧ k ≤ A.length ∧ Below w6.heap.size w6 wr ∧ wr.ownsRow w6.heap.size 2 1 (.slice p7 A.length c7) A.length xs) (fun s _ => A.length - (intOf s).toNat)
      case atStart => exact ⟨0, _, rfl, by omega, hb7, hr7⟩
      case round =>
        obtain ⟨k, xs, rfl, hk, hb, hr⟩ := hrel
        by_cases hlt : k < A.length
        · obtain ⟨g, rfl⟩ : ∃ g, p7 = some ⟨g, 0, none⟩ := by
            rcases hr.2 with ⟨e, h0⟩ | ⟨g, cap, cur, e, _⟩
            · omega
            · simp at e; exact ⟨g, e.1⟩
          obtain ⟨⟨u, hu⟩, hfz, hBg⟩ := row_cell hr hlt
          have hr2 := row_set hr hlt (.int .i64 (-7))
          have hb2 : Below w6.heap.size w6 (wr.setCell ⟨g, k, none⟩ (.int .i64 (-7))) := hb.trans ((TouchB.refl (fun i => i = g) wr).setCell _ _ (fun _ => rfl) |>.below (fun k hk => by omega) hb.size)
          have HR := Lib.hid hr2; clear hr2
          have HB := Lib.hid hb2; clear hb2
          clear hr7 hr
          go_wp2_with fail
          go_roundw
          case rel => exact ⟨k + 1, _, by go_num, by omega, HB.out, HR.out⟩
          case measure => simp [intOf]; omega
        · have hS8 := hS6.on hb
          have hi8 := hi6.below hb (Nat.le_refl _)
          clear hr hr7
          go_wp2_with fail
          refine (SList hS8).mono ?_
          rintro e w8 ⟨v8, rfl, hi9, ho9, hb9, hS9⟩
          have hi9' := hi8.below hb9 (Nat.le_refl _)
          go_wp2_with fail
          refine (same hi9 hi9').mono ?_
          rintro e w9 ⟨rfl, q', rfl⟩
          rw [decide_eq_true rfl]
          go_wp2_with fail
          refine (awake (hS9.drewN q').bel).mono ?_
          rintro e w10 ⟨rfl, hb10⟩
          go_wp2_with fail
          go_ret
          exact ⟨rfl, hb10⟩
end Go.Proofs.Ytgkiknkifleofaa.tm
