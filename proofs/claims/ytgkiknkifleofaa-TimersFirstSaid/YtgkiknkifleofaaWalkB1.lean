/- TimersFirst. Conditions: the arguments lie in memory. -/
import Derived.Test.YtgkiknkifleofaaWalkA1
import Derived.Test.YtgkiknkifleofaaActs
import Derived.IntWalk
namespace Go.Proofs.Ytgkiknkifleofaa.tm
open Go.RowKit mem TP
set_option linter.unusedVariables false
set_option linter.unusedSimpArgs false
set_option maxHeartbeats 1000000
set_option maxRecDepth 100000

theorem fill_mem (l : List AD) : ∀ x ∈ (fill l).A, ∃ a ∈ l, x.due = a.due := by
  have h : ∀ (l : List AD) (s : FS) (M : List AD), (∀ x ∈ s.A, ∃ a ∈ M, x.due = a.due) → ∀ x ∈ (l.foldl fstep s).A, ∃ a ∈ M ++ l, x.due = a.due := by
    intro l
    induction l with
    | nil => intro s M h; simpa using h
    | cons a l ih =>
      intro s M hs
      rw [List.foldl_cons]
      have := ih (fstep s a) (M ++ [a]) (by
        unfold fstep addT
        intro x hx
        dsimp only at hx
        split at hx
        · rcases ins_mem.1 hx with e | e
          · obtain ⟨b, hb, e2⟩ := hs x e; exact ⟨b, List.mem_append_left _ hb, e2⟩
          · subst e; exact ⟨a, by simp, rfl⟩
        · obtain ⟨b, hb, e2⟩ := hs x hx; exact ⟨b, List.mem_append_left _ hb, e2⟩)
      simpa using this
  simpa [fill] using h l ⟨[], 0, []⟩ [] (by simp)
theorem fill_max (l : List AD) (h : ∀ a ∈ l, InR a) : ∀ x ∈ (fill (l.take 400)).A, x.due ≤ 9223372036854775807 := by
  intro x hx
  obtain ⟨a, ha, e⟩ := fill_mem _ x hx
  rw [e]; exact (h a (List.mem_of_mem_take ha)).2
theorem head_none (x : TD) (A : List TD) (now : Int) (h : now < x.due) : takeV (x :: A) now = none ∧ takeT (x :: A) now = x :: A := by
  unfold takeV takeT; simp [show ¬ x.due ≤ now by omega]
theorem head_some (x : TD) (A : List TD) : takeV (x :: A) x.due = some x.id ∧ takeT (x :: A) x.due = A := by
  unfold takeV takeT; simp
theorem lawFirst (w : World) (v : Value) (l : List AD) (h : ActsAt w v l) (hr : ∀ a ∈ l, InR a) (drop : Int) (hd : -9223372036854775808 ≤ drop ∧ drop ≤ 9223372036854775807) : Calls Try.prog 9 #[v, .int .i64 drop] w fun e w' => e = .returned (.bool true) ∧ Below w.heap.size w w' := by
  have hfl := SFilled (Below.refl _ _) h
  have hbd := fill_bd l
  have hbd2 := (fill_n (l.take 400)).2
  rw [List.length_take] at hbd2
  have hmx := Lib.hid (fill_max l hr)
  go_enter Try.func9, Try.ntmps9
  go_wp2_with fail
  refine hfl.mono ?_
  rintro e w1 ⟨b, u, F, rfl, hb1, hS1, hB1⟩
  clear hfl
  obtain ⟨hact, hblk⟩ := acts_row hB1.row
  clear hB1 h hr
  generalize (fill (l.take 400)).n = n at *
  generalize (fill (l.take 400)).A = A at *
  generalize (fill (l.take 400)).ins = L at *
  obtain ⟨p, c, rfl, hc1, hc2, hc3⟩ := hact
  unfold maxLen at hc2
  by_cases hL : L = []
  · subst hL
    have hT := hS1
    have HM := hmx
    obtain ⟨A', rfl⟩ : ∃ A', A' = A := ⟨_, rfl⟩
    go_wp2_with fail
    refine (SList hT).mono ?_
    rintro e w3 ⟨v3, rfl, hi3, ho3, hb3, hT3⟩
    go_wp2_with fail
    refine (SFirst hT3).mono ?_
    rintro e w4 ⟨rfl, rfl⟩
    obtain ⟨p3, c3, rfl, hd1, hd2, hd3⟩ := hi3
    have hG := hT3.whl.good
    have hm3 := HM.out
    cases A' with
    | nil =>
      go_wp2_with fail
      refine (awake hT3.bel).mono ?_
      rintro e w5 ⟨rfl, hb5⟩
      go_wp2_with fail
      go_ret
      exact ⟨rfl, hb5⟩
    | cons x A2 =>
      obtain ⟨g3, o3, rfl, hg3, hx3⟩ := hd3 (by simp)
      have hc0 : w3.cell? ⟨g3, o3, none⟩ = some (.int .i64 x.id) := hx3 0 (by simp)
      have hnF : ¬ F g3 := ho3 (by simp) g3 o3 _ _ rfl
      have hxd := hG.dues x (by simp)
      have hxm := hm3 x (by simp)
      have hf := find_mem hG.ids (show x ∈ x :: A2 by simp)
      have hD := SDue hT3 x.id
      rw [hf] at hD
      have hlen := hG.len
      simp only [List.length_map, List.length_cons] at hd1 hlen ⊢
      have hq : ((((A2.length + 1 : Nat) : Int)) == 0) = false := by simp; omega
      obtain ⟨e1, e2⟩ := head_none x A2 (x.due - 1) (by omega)
      have hK1 := STake hT3 (x.due - 1)
      rw [e1, e2] at hK1
      have hK2 := fun (W : World) (hW : St w W b (x :: A2) n F) => by
        have h := STake hW x.due
        rw [(head_some x A2).1, (head_some x A2).2] at h
        exact h
      clear hf hG hd3 hx3 e1 e2 hm3
      go_wp2_with fail
      refine hD.mono ?_
      rintro e w5 ⟨rfl, rfl⟩
      clear hD
      go_wp2_with fail
      refine hK1.mono ?_
      rintro e w6 ⟨rfl, hK⟩
      clear hK1
      have hc6 := (hK.touch.cell (p := ⟨g3, o3, none⟩) hg3 hnF).trans hc0
      have hg6 := Nat.lt_of_lt_of_le hg3 hK.touch.size
      go_wp2_with fail
      refine (hK2 _ hK.st).mono ?_
      rintro e w7 ⟨rfl, hK'⟩
      have hc7 := (hK'.touch.cell (p := ⟨g3, o3, none⟩) hg6 hnF).trans hc6
      clear hK2 hc6 hc0
      have hz : ((A2.length : Int) == (A2.length : Int)) = true := by simp
      go_wp2_with fail
      refine (SLen hK'.st).mono ?_
      rintro e w8 ⟨rfl, rfl⟩
      go_wp2_with fail
      refine (awake hK'.st.bel).mono ?_
      rintro e w9 ⟨rfl, hb9⟩
      go_wp2_with fail
      go_ret
      exact ⟨rfl, hb9⟩
  · have hpos : 0 < L.length := List.length_pos_iff.2 hL
    obtain ⟨g, o, rfl, hg, hx⟩ := hc3 hL
    have hab := Int.natAbs_tmod drop (L.length : Int)
    have hlt : drop.natAbs % (L.length : Int).natAbs < L.length := by
      rw [Int.natAbs_natCast]; exact Nat.mod_lt _ hpos
    have hL1 : L.length ≤ 400 := by omega
    have hu : drop.tmod (L.length : Int) < (L.length : Int) := by omega
    by_cases hneg : drop.tmod (L.length : Int) < 0
    · obtain ⟨k, hk⟩ : ∃ k : Nat, (k : Int) = drop.tmod (L.length : Int) + (L.length : Int) := ⟨(drop.tmod (L.length : Int) + (L.length : Int)).toNat, by omega⟩
      have hkl : k < L.length := by omega
      have hw : wrap64 (drop.tmod (L.length : Int) + (L.length : Int)) = (k : Int) := by
        unfold wrap64; omega
      have hq : decide (drop.tmod (L.length : Int) < 0) = true := decide_eq_true hneg
      have hq2 : decide (0 < (L.length : Int)) = true := decide_eq_true (by omega)
      have y2 := (hx k hkl).2.2
      clear hab hlt hu hneg hk hx hc3 hL
      go_wp2_with fail
      refine (SDrop hS1 _).mono ?_
      rintro e w2 ⟨rfl, hK2⟩
      have hT := hK2.st
      have HM : Hid (∀ x ∈ dropT A L[k].id, x.due ≤ 9223372036854775807) := Lib.hid (fun x hx => hmx.out x (List.filter_sublist.subset hx))
      generalize dropT A L[k].id = A' at *
      clear hK2
      go_wp2_with fail
      refine (SList hT).mono ?_
      rintro e w3 ⟨v3, rfl, hi3, ho3, hb3, hT3⟩
      go_wp2_with fail
      refine (SFirst hT3).mono ?_
      rintro e w4 ⟨rfl, rfl⟩
      obtain ⟨p3, c3, rfl, hd1, hd2, hd3⟩ := hi3
      have hG := hT3.whl.good
      have hm3 := HM.out
      cases A' with
      | nil =>
        go_wp2_with fail
        refine (awake hT3.bel).mono ?_
        rintro e w5 ⟨rfl, hb5⟩
        go_wp2_with fail
        go_ret
        exact ⟨rfl, hb5⟩
      | cons x A2 =>
        obtain ⟨g3, o3, rfl, hg3, hx3⟩ := hd3 (by simp)
        have hc0 : w3.cell? ⟨g3, o3, none⟩ = some (.int .i64 x.id) := hx3 0 (by simp)
        have hnF : ¬ F g3 := ho3 (by simp) g3 o3 _ _ rfl
        have hxd := hG.dues x (by simp)
        have hxm := hm3 x (by simp)
        have hf := find_mem hG.ids (show x ∈ x :: A2 by simp)
        have hD := SDue hT3 x.id
        rw [hf] at hD
        have hlen := hG.len
        simp only [List.length_map, List.length_cons] at hd1 hlen ⊢
        have hq : ((((A2.length + 1 : Nat) : Int)) == 0) = false := by simp; omega
        obtain ⟨e1, e2⟩ := head_none x A2 (x.due - 1) (by omega)
        have hK1 := STake hT3 (x.due - 1)
        rw [e1, e2] at hK1
        have hK2 := fun (W : World) (hW : St w W b (x :: A2) n F) => by
          have h := STake hW x.due
          rw [(head_some x A2).1, (head_some x A2).2] at h
          exact h
        clear hf hG hd3 hx3 e1 e2 hm3
        go_wp2_with fail
        refine hD.mono ?_
        rintro e w5 ⟨rfl, rfl⟩
        clear hD
        go_wp2_with fail
        refine hK1.mono ?_
        rintro e w6 ⟨rfl, hK⟩
        clear hK1
        have hc6 := (hK.touch.cell (p := ⟨g3, o3, none⟩) hg3 hnF).trans hc0
        have hg6 := Nat.lt_of_lt_of_le hg3 hK.touch.size
        go_wp2_with fail
        refine (hK2 _ hK.st).mono ?_
        rintro e w7 ⟨rfl, hK'⟩
        have hc7 := (hK'.touch.cell (p := ⟨g3, o3, none⟩) hg6 hnF).trans hc6
        clear hK2 hc6 hc0
        have hz : ((A2.length : Int) == (A2.length : Int)) = true := by simp
        go_wp2_with fail
        refine (SLen hK'.st).mono ?_
        rintro e w8 ⟨rfl, rfl⟩
        go_wp2_with fail
        refine (awake hK'.st.bel).mono ?_
        rintro e w9 ⟨rfl, hb9⟩
        go_wp2_with fail
        go_ret
        exact ⟨rfl, hb9⟩
    · obtain ⟨k, hk⟩ : ∃ k : Nat, drop.tmod (L.length : Int) = (k : Int) := ⟨(drop.tmod (L.length : Int)).toNat, by omega⟩
      have hkl : k < L.length := by omega
      have y2 := (hx k hkl).2.2
      clear hab hlt hu hneg hx hc3 hL
      go_wp2_with fail
      refine (SDrop hS1 _).mono ?_
      rintro e w2 ⟨rfl, hK2⟩
      have hT := hK2.st
      have HM : Hid (∀ x ∈ dropT A L[k].id, x.due ≤ 9223372036854775807) := Lib.hid (fun x hx => hmx.out x (List.filter_sublist.subset hx))
      generalize dropT A L[k].id = A' at *
      clear hK2
      go_wp2_with fail
      refine (SList hT).mono ?_
      rintro e w3 ⟨v3, rfl, hi3, ho3, hb3, hT3⟩
      go_wp2_with fail
      refine (SFirst hT3).mono ?_
      rintro e w4 ⟨rfl, rfl⟩
      obtain ⟨p3, c3, rfl, hd1, hd2, hd3⟩ := hi3
      have hG := hT3.whl.good
      have hm3 := HM.out
      cases A' with
      | nil =>
        go_wp2_with fail
        refine (awake hT3.bel).mono ?_
        rintro e w5 ⟨rfl, hb5⟩
        go_wp2_with fail
        go_ret
        exact ⟨rfl, hb5⟩
      | cons x A2 =>
        obtain ⟨g3, o3, rfl, hg3, hx3⟩ := hd3 (by simp)
        have hc0 : w3.cell? ⟨g3, o3, none⟩ = some (.int .i64 x.id) := hx3 0 (by simp)
        have hnF : ¬ F g3 := ho3 (by simp) g3 o3 _ _ rfl
        have hxd := hG.dues x (by simp)
        have hxm := hm3 x (by simp)
        have hf := find_mem hG.ids (show x ∈ x :: A2 by simp)
        have hD := SDue hT3 x.id
        rw [hf] at hD
        have hlen := hG.len
        simp only [List.length_map, List.length_cons] at hd1 hlen ⊢
        have hq : ((((A2.length + 1 : Nat) : Int)) == 0) = false := by simp; omega
        obtain ⟨e1, e2⟩ := head_none x A2 (x.due - 1) (by omega)
        have hK1 := STake hT3 (x.due - 1)
        rw [e1, e2] at hK1
        have hK2 := fun (W : World) (hW : St w W b (x :: A2) n F) => by
          have h := STake hW x.due
          rw [(head_some x A2).1, (head_some x A2).2] at h
          exact h
        clear hf hG hd3 hx3 e1 e2 hm3
        go_wp2_with fail
        refine hD.mono ?_
        rintro e w5 ⟨rfl, rfl⟩
        clear hD
        go_wp2_with fail
        refine hK1.mono ?_
        rintro e w6 ⟨rfl, hK⟩
        clear hK1
        have hc6 := (hK.touch.cell (p := ⟨g3, o3, none⟩) hg3 hnF).trans hc0
        have hg6 := Nat.lt_of_lt_of_le hg3 hK.touch.size
        go_wp2_with fail
        refine (hK2 _ hK.st).mono ?_
        rintro e w7 ⟨rfl, hK'⟩
        have hc7 := (hK'.touch.cell (p := ⟨g3, o3, none⟩) hg6 hnF).trans hc6
        clear hK2 hc6 hc0
        have hz : ((A2.length : Int) == (A2.length : Int)) = true := by simp
        go_wp2_with fail
        refine (SLen hK'.st).mono ?_
        rintro e w8 ⟨rfl, rfl⟩
        go_wp2_with fail
        refine (awake hK'.st.bel).mono ?_
        rintro e w9 ⟨rfl, hb9⟩
        go_wp2_with fail
        go_ret
        exact ⟨rfl, hb9⟩
end Go.Proofs.Ytgkiknkifleofaa.tm
