/- The reference's wheel: Add. Conditions: the wheel lies in memory. -/
import Derived.Test.YtgkiknkifleofaaRefB
namespace Go.Proofs.Ytgkiknkifleofaa.tm
open Go.RowKit mem TP
set_option linter.unusedVariables false
set_option linter.unusedSimpArgs false
set_option maxHeartbeats 1000000
set_option maxRecDepth 100000

theorem ins_at : ∀ (A : List TD) (x : TD) (k : Nat), k ≤ A.length → (∀ j, (h : j < A.length) → j < k → A[j].due ≤ x.due) → (∀ (h : k < A.length), x.due < A[k].due) → insT A x = A.take k ++ [x] ++ A.drop k := by
  intro A
  induction A with
  | nil => intro x k hk _ _; simp [insT]
  | cons y l ih =>
    intro x k hk h1 h2
    cases k with
    | zero =>
      have := h2 (by simp)
      simp at this
      unfold insT
      rw [if_neg (by omega)]; simp
    | succ k =>
      have h0 := h1 0 (by simp) (by omega)
      simp at h0
      unfold insT
      rw [if_pos h0, ih x k (by simpa using hk) (fun j hj hjk => by have := h1 (j + 1) (by simpa using hj) (by omega); simpa using this) (fun h => by have := h2 (by simpa using h); simpa using this)]
      simp
def RPost (b : Nat) (A : List TD) (G : Nat → Prop) (w w' : World) : Prop := ∃ p c G', RefW w' b A p c G' ∧ TouchB G w w' ∧ ∀ k, G' k → G k ∨ w.heap.size ≤ k
theorem info80 : (Try.prog.info? 80).map (fun i => (i.zero, i.size, i.bytes)) = some (some (.agg #[.int .i64 0, .int .i64 0]), 2, 16) := by kernel_rfl
theorem R.still {w : World} {b c : Nat} {A : List TD} {p : Option Addr} {G : Nat → Prop} (h : RefW w b A p c G) : RPost b A G w w := ⟨p, c, G, h, TouchB.refl _ _, fun k hk => .inl hk⟩
/-- the end of Add and of Drop: a new row is stored -/
theorem ref_end {w w2 : World} {b c : Nat} {A A' : List TD} {p : Option Addr} {G : Nat → Prop} {v : Value} (h : RefW w b A p c G) (hb : Below w.heap.size w w2) (hr : w2.ownsRow w.heap.size 80 2 v A'.length (tdV A')) (hl : A'.length ≤ 1000) : RPost b A' G w (w2.setCell ⟨b, 0, none⟩ v) := by
  have hbl := h.lt b h.inb
  obtain ⟨p', c', rfl⟩ : ∃ p' c', v = .slice p' A'.length c' := by
    rcases hr.2 with ⟨e, h0⟩ | ⟨g, cap, cur, e, _⟩
    · exact ⟨none, 0, by rw [e, h0]⟩
    · exact ⟨_, _, e⟩
  have hne : ∀ g, (Value.slice p' A'.length c').ownBlock = some g → g ≠ b := fun g hg => by have := (World.ownsRow.lt (h := hr) g hg).1; omega
  refine ⟨p', c', fun k => k = b ∨ (Value.slice p' A'.length c').ownBlock = some k, ⟨?_, ?_, hl, .inl rfl, fun g hg => ⟨.inr hg, hne g hg⟩, ?_⟩, ?_, ?_⟩
  · rw [block_setCell _ _ _ _ _ _ _ ((hb.block b hbl).trans h.blk)]; rfl
  · exact row_same (row_base hr (fun _ _ => Nat.zero_le _)) (fun g hg => Below.heap_setCell _ _ _ _ (hne g hg))
  · intro k hk
    have := hb.size
    rcases hk with e | e
    · rw [e]; simp; omega
    · have := (World.ownsRow.lt (h := hr) k e).2; simpa using this
  · have hT : TouchB G w w2 := ⟨hb.os, hb.tape, hb.output, hb.size, fun k hk _ => hb.block k hk⟩
    exact hT.setCell _ _ (fun _ => h.inb)
  · intro k hk
    rcases hk with e | e
    · exact .inl (e ▸ h.inb)
    · exact .inr (World.ownsRow.lt (h := hr) k e).1
def RAddPost (b : Nat) (A : List TD) (G : Nat → Prop) (n : Nat) (due id : Int) (w : World) (e : Ending) (w' : World) : Prop := e = .returned (.int .i64 (addE A due id)) ∧ RPost b (addT A n due id) G w w'
theorem one_td (x : TD) : tdV [x] = [.int .i64 x.due, .int .i64 x.id] := rfl
theorem tdV_one : ∀ (A : List TD) (u : Value), u ∈ tdV A → u.oneCell' = true := by
  intro A u hu
  unfold tdV at hu
  obtain ⟨x, _, hx⟩ := List.mem_flatMap.1 hu
  simp at hx
  rcases hx with e | e <;> (subst e; rfl)
/-- the cells of a part of the row -/
theorem part_cell {w : World} {b c g : Nat} {A : List TD} {G : Nat → Prop} (h : RefW w b A (some ⟨g, 0, none⟩) c G) (k : Nat) (hk : k ≤ A.length) :
    (∀ (j : Nat) u, (tdV (A.take k))[j]? = some u → w.cell? (Addr.add ⟨g, 0, none⟩ j) = some u) ∧ (∀ (j : Nat) u, (tdV (A.drop k))[j]? = some u → w.cell? (Addr.add ⟨g, k * 2, none⟩ j) = some u) := by
  rcases h.row.2 with ⟨e, h0⟩ | ⟨g', cap, cur, e, hb, hg, hn, hc, hs, ht⟩
  · simp at e
  · simp only [Value.slice.injEq, Option.some.injEq, Addr.mk.injEq] at e
    obtain ⟨⟨rfl, _⟩, _, rfl⟩ := e
    have e : ∀ i, i < A.length * 2 → w.cell? ⟨g, i, none⟩ = (tdV A)[i]? := fun i hi => by
      simp only [World.cell?, hg]
      rw [← ht, List.getElem?_take, if_pos hi]
      simp
    have hl := tdV_len A
    constructor
    · intro j u hj
      have hj2 : j < (tdV (A.take k)).length := by
        have := (List.getElem?_eq_some_iff.1 hj).1; exact this
      rw [tdV_len, List.length_take] at hj2
      rw [tdV_take A k hk, List.getElem?_take, if_pos (by omega)] at hj
      rw [Addr.add_lit, Nat.zero_add, e _ (by omega)]; exact hj
    · intro j u hj
      have hj2 : j < (tdV (A.drop k)).length := (List.getElem?_eq_some_iff.1 hj).1
      rw [tdV_len, List.length_drop] at hj2
      rw [tdV_drop A k hk, List.getElem?_drop] at hj
      rw [Addr.add_lit, e _ (by omega)]; exact hj
theorem two_cell (w : World) (x y : Int) (T : TypeId) : ∀ (j : Nat) u, [Value.int .i64 x, .int .i64 y][j]? = some u → (w.alloc (.cells #[.int .i64 x, .int .i64 y] T)).cell? (Addr.add ⟨w.heap.size, 0, none⟩ j) = some u := by
  intro j u hj
  rcases j with _ | _ | j
  · simp at hj; subst hj; simp [Addr.add]
  · simp at hj; subst hj; simp [Addr.add]
  · simp at hj
theorem two_one (x y : Int) : ∀ u ∈ [Value.int .i64 x, .int .i64 y], u.oneCell' = true := by
  intro u hu; simp at hu; rcases hu with e | e <;> (subst e; rfl)
theorem RAdd {w : World} {b c n : Nat} {A : List TD} {p : Option Addr} {G : Nat → Prop} (h : RefW w b A p c G) (hG : Good A n) (hn : n < 1000) (due id : Int) : Calls Try.prog 30 #[.pointer (some ⟨b, 0, none⟩), .int .i64 due, .int .i64 id] w (RAddPost b A G n due id w) := by
  obtain ⟨i0, hinf, hz0, hz1, hz2⟩ := info_parts info80
  obtain ⟨c0, f0⟩ := h.c0
  have hlen : A.length < 1000 := by have := hG.len; omega
  have hbl := h.lt b h.inb
  have hbad : ∀ z : Int, z ≠ 0 → addE A due id = z → RAddPost b A G n due id w (.returned (.int .i64 z)) w := fun z hz hE => by
    refine ⟨by rw [hE], ?_⟩
    have : addT A n due id = A := by unfold addT; rw [hE, if_neg hz]
    rw [this]; exact R.still h
  by_cases hd : due < 0
  · have hd2 : decide (due < 0) = true := decide_eq_true hd
    have hp := hbad 2 (by omega) (by unfold addE; rw [if_pos (.inl hd)])
    clear hbad
    go_enter Try.func30, Try.ntmps30
    go_wp2_with fail
    go_ret
    exact hp
  have hd2 : decide (due < 0) = false := decide_eq_false hd
  by_cases hj : id < 0
  · have hj2 : decide (id < 0) = true := decide_eq_true hj
    have hp := hbad 2 (by omega) (by unfold addE; rw [if_pos (.inr hj)])
    clear hbad
    go_enter Try.func30, Try.ntmps30
    go_wp2_with fail
    go_ret
    exact hp
  have hj2 : decide (id < 0) = false := decide_eq_false hj
  have hf := RFind h id
  have hfp := find_pos hG.ids id
  unfold posI at hf
  cases hp : pos A id with
  | some k =>
    rw [hp] at hf hfp
    dsimp only at hf
    obtain ⟨hk, _, _⟩ := pos_some hp
    have hp := hbad 8 (by omega) (by unfold addE; rw [if_neg (by omega), hfp]; simp [List.getElem?_eq_getElem hk])
    clear hbad hfp
    go_enter Try.func30, Try.ntmps30
    go_wp2_with fail
    refine hf.mono ?_
    rintro e w1 ⟨rfl, rfl⟩
    clear hf
    go_wp2_with fail
    go_ret
    exact hp
  | none =>
    rw [hp] at hf hfp
    dsimp only at hf
    have hE : addE A due id = 0 := by unfold addE; rw [if_neg (by omega), hfp]; rfl
    have hT : addT A n due id = insT A ⟨due, id, (n : Int) + 1⟩ := by unfold addT; rw [if_pos hE]
    have hfin : ∀ (k : Nat) (w2 : World) (v : Value), k ≤ A.length → insT A ⟨due, id, (n : Int) + 1⟩ = A.take k ++ [⟨due, id, (n : Int) + 1⟩] ++ A.drop k → Below w.heap.size w w2 → w2.ownsRow w.heap.size 80 2 v (k + 1 + (A.length - k)) (tdV (A.take k) ++ [.int .i64 due, .int .i64 id] ++ tdV (A.drop k)) → RAddPost b A G n due id w (.returned (.int .i64 0)) (w2.setCell ⟨b, 0, none⟩ v) := by
      intro k w2 v hk he hb hr
      refine ⟨by rw [hE], ?_⟩
      rw [hT]
      have hl : (insT A ⟨due, id, (n : Int) + 1⟩).length = k + 1 + (A.length - k) := by rw [(ins_perm A _).length_eq]; simp; omega
      have hv : tdV (insT A ⟨due, id, (n : Int) + 1⟩) = tdV (A.take k) ++ [.int .i64 due, .int .i64 id] ++ tdV (A.drop k) := by rw [he, tdV_app, tdV_app]; rfl
      exact ref_end h hb (by rw [hl, hv]; exact hr) (by rw [hl]; omega)
    have HFIN := Lib.hid hfin; clear hfin
    have HS := Lib.hid hG.sorted
    clear hbad hfp hE hT hp
    go_enter Try.func30, Try.ntmps30
    go_wp2_with fail
    refine hf.mono ?_
    rintro e w1 ⟨rfl, rfl⟩
    clear hf
    go_wp2_with fail
    go_loop [7] (fun s => ∃ k : Nat, s = .int .i64 k ∧ k ≤ A.length ∧ Hid (∀ j, (hj : j < A.length) → k ≤ j → due < A[j].due)) (fun s => (intOf s).toNat)
    case atStart => exact ⟨A.length, rfl, by omega, Lib.hid (fun j hj h => absurd hj (by omega))⟩
    case round =>
      obtain ⟨k, rfl, hk, hH⟩ := hrel
      by_cases hgo : ∃ m, ∃ (hm : m < A.length), k = m + 1 ∧ due < A[m].due
      · obtain ⟨m, hm, rfl, hlt⟩ := hgo
        obtain ⟨g, rfl, hc1, hc2, hx⟩ := h.at_ hm
        have x0 := (hx m hm).1
        have hq : decide (due < A[m].due) = true := decide_eq_true hlt
        have HH : Hid (∀ j, (hj : j < A.length) → m ≤ j → due < A[j].due) := Lib.hid (fun j hj hjm => by
          by_cases e : j = m
          · subst e; exact hlt
          · exact hH.out j hj (by omega))
        unfold maxLen at hc2
        clear hx hH hlt
        generalize A[m] = x at *
        go_wp2_with fail
        go_round
        case rel => exact ⟨m, by go_num, by omega, HH⟩
        case measure => simp [intOf]
      · have hins : insT A ⟨due, id, (n : Int) + 1⟩ = A.take k ++ [⟨due, id, (n : Int) + 1⟩] ++ A.drop k := by
          refine ins_at A _ k hk (fun j hj hjk => ?_) (fun hk' => hH.out k hk' (Nat.le_refl _))
          have h1 : ¬ due < (A[k - 1]'(by omega)).due := fun hh => hgo ⟨k - 1, by omega, by omega, hh⟩
          show A[j].due ≤ due
          by_cases e : j = k - 1
          · subst e; omega
          · have := List.pairwise_iff_getElem.1 HS.out j (k - 1) hj (by omega) (by omega)
            unfold ltT at this; omega
        have HINS := Lib.hid hins; clear hins
        have hgo' : ∀ m (hm : m < A.length), k = m + 1 → ¬ due < A[m].due := fun m hm e hh => hgo ⟨m, hm, e, hh⟩
        have HGO := Lib.hid hgo'; clear hgo' hgo hH
        cases p with
        | none =>
          have hA0 : A = [] := List.eq_nil_of_length_eq_zero (by
            rcases h.row.2 with ⟨_, h0⟩ | ⟨g, cap, cur, e, _⟩
            · exact h0
            · simp at e)
          have hc : c = 0 := by
            rcases h.row.2 with ⟨e, h0⟩ | ⟨g, cap, cur, e, _⟩
            · simp at e; exact e.2
            · simp at e
          subst hA0
          subst hc
          obtain rfl : k = 0 := by simp at hk; exact hk
          have C0 := Lib.hid c0
          have F0 := Lib.hid f0
          have hb2 : Below w.heap.size w w := Below.refl _ _
          have hr1 : w.ownsRow w.heap.size 80 2 (.slice none 0 0) 0 [] := World.ownsRow_nil _ _ _ _
          have HR1 := hr1
          go_wp2_with (first
            | (at_builtin; refine wpList_append_own_none rfl (.tmp 41) (.tmp 47) 49 rfl w.heap.size 80 i0 2 Try.underlying49 hinf (.slice none 0 0) 0 [] rfl HR1 rfl ?_; skip)
            | (at_builtin; refine wpList_append_own_at _ rfl (.tmp 49) (.tmp 53) 49 rfl w.heap.size 80 i0 (.agg #[.int .i64 0, .int .i64 0]) 2 16 Try.underlying49 hinf hz0 hz1 hz2 rfl (by decide) (.slice none 0 0) _ _ rfl (hr1.alloc _) ⟨w.heap.size, 0, none⟩ 1 1 [.int .i64 due, .int .i64 id] rfl rfl (two_cell _ _ _ _) (two_one _ _) (by unfold maxLen; omega) (by omega) (by simp <;> omega) ?_; intro v2 w3 hr2 hg2 _ _; have hb3 : Below w.heap.size w w3 := (hb2.alloc hb2.size _).grown hg2 (by simp <;> omega) (fun g hg => (World.ownsRow.lt (h := hr1) g hg).1); have hs3 := hb3.size; have d3 : w3.cell? ⟨b, 0, none⟩ = some _ := (hb3.cell (p := ⟨b, 0, none⟩) hbl).trans C0.out; clear hg2 hr1)
            | (at_builtin; refine wpList_append_own_none rfl (.tmp 56) (.tmp 62) 49 rfl w.heap.size 80 i0 2 Try.underlying49 hinf v2 1 [.int .i64 due, .int .i64 id] rfl (by simpa using hr2) rfl ?_; obtain ⟨p4, c4, rfl⟩ := row_shape hr2; have e3 : w3.frozen? ⟨b, 0, none⟩ = false := (hb3.frozen (p := ⟨b, 0, none⟩) hbl).trans F0.out))
          go_ret
          exact HFIN.out 0 w3 _ (Nat.le_refl _) HINS.out hb3 (by simpa [tdV] using hr2)
        | some ad =>
          obtain ⟨g, rfl, hcl, hcm⟩ : ∃ g, ad = ⟨g, 0, none⟩ ∧ A.length ≤ c ∧ c ≤ maxLen := by
            rcases h.row.2 with ⟨e, h0⟩ | ⟨g, cap, cur, e, _, _, h1, h2, _⟩
            · simp at e
            · simp only [Value.slice.injEq, Option.some.injEq] at e
              obtain ⟨rfl, _, rfl⟩ := e
              exact ⟨g, rfl, h1, h2⟩
          unfold maxLen at hcm
          cases k with
          | zero =>
            have hgl := h.lt g (h.inr g rfl).1
            have C0 := Lib.hid c0
            have F0 := Lib.hid f0
            have P2 : Hid (∀ (j : Nat) u, (tdV A)[j]? = some u → w.cell? (Addr.add ⟨g, 0, none⟩ j) = some u) := Lib.hid (by simpa using (part_cell h 0 (Nat.zero_le _)).2)
            have hz2l : (tdV A).length = A.length * 2 := tdV_len A
            have L3 := Lib.hid hz2l; clear hz2l
            go_wp2_with (first
              | (at_builtin; refine wpList_append_own_at _ rfl (.tmp 41) (.tmp 47) 49 rfl w.heap.size 80 i0 (.agg #[.int .i64 0, .int .i64 0]) 2 16 Try.underlying49 hinf hz0 hz1 hz2 rfl (by decide) (.slice none 0 0) 0 [] rfl (World.ownsRow_nil _ _ _ _) ⟨g, 0, none⟩ (0) c [] rfl rfl (fun j u hj => by simp at hj) (by simp) (by unfold maxLen; omega) (by omega) (Nat.le_refl _) ?_; intro v1 w2 hr1 hg1 _ _; simp only [Nat.zero_add, List.nil_append] at hr1; have hb2 : Below w.heap.size w w2 := (Below.refl _ _).grown hg1 (Nat.le_refl _) (fun g hg => by simp [Value.ownBlock] at hg); have hs2 := hb2.size; clear hg1)
              | (at_builtin; refine wpList_append_own_at _ rfl (.tmp 49) (.tmp 53) 49 rfl w.heap.size 80 i0 (.agg #[.int .i64 0, .int .i64 0]) 2 16 Try.underlying49 hinf hz0 hz1 hz2 rfl (by decide) v1 _ _ rfl (hr1.alloc _) ⟨w2.heap.size, 0, none⟩ 1 1 [.int .i64 due, .int .i64 id] rfl rfl (two_cell _ _ _ _) (two_one _ _) (by unfold maxLen; omega) (by omega) (by simp <;> omega) ?_; intro v2 w3 hr2 hg2 _ _; have hb3 : Below w.heap.size w w3 := (hb2.alloc hb2.size _).grown hg2 (by simp <;> omega) (fun g hg => (World.ownsRow.lt (h := hr1) g hg).1); have hs3 := hb3.size; have d3 : w3.cell? ⟨b, 0, none⟩ = some _ := (hb3.cell (p := ⟨b, 0, none⟩) hbl).trans C0.out; clear hg2 hr1)
              | (at_builtin; refine wpList_append_own_at _ rfl (.tmp 56) (.tmp 62) 49 rfl w.heap.size 80 i0 (.agg #[.int .i64 0, .int .i64 0]) 2 16 Try.underlying49 hinf hz0 hz1 hz2 rfl (by decide) v2 _ _ rfl hr2 ⟨g, 0, none⟩ A.length c (tdV A) rfl L3.out (fun j u hj => by have h1 := P2.out j u hj; rw [Addr.add_lit] at h1 ⊢; exact (hb3.cell (p := ⟨g, _, none⟩) hgl).trans h1) (tdV_one _) (by unfold maxLen; omega) (by omega) hs3 ?_; intro v3 w4 hr3 hg3 _ _; have hb4 : Below w.heap.size w w4 := hb3.trans ((Below.refl _ _).grown hg3 hs3 (fun g hg => (World.ownsRow.lt (h := hr2) g hg).1)); have d4 : w4.cell? ⟨b, 0, none⟩ = some _ := (hb4.cell (p := ⟨b, 0, none⟩) hbl).trans C0.out; have e4 : w4.frozen? ⟨b, 0, none⟩ = false := (hb4.frozen (p := ⟨b, 0, none⟩) hbl).trans F0.out; obtain ⟨p4, c4, rfl⟩ := row_shape hr3; clear hg3 hr2))
            go_ret
            exact HFIN.out 0 w4 _ (Nat.zero_le _) HINS.out hb4 (by simpa [tdV] using hr3)
          | succ m =>
            have hm : m < A.length := by omega
            obtain ⟨g', e', _, _, hx⟩ := h.at_ hm
            simp only [Option.some.injEq, Addr.mk.injEq, and_true] at e'
            subst e'
            have x0 := (hx m hm).1
            have hq : decide (due < A[m].due) = false := decide_eq_false (HGO.out m hm rfl)
            clear hx
            generalize A[m] = x at *
            by_cases hck : c = m + 1
            · subst hck
              have hAl : A.length = m + 1 := by omega
              rw [hAl] at c0
              have hgl := h.lt g (h.inr g rfl).1
              have C0 := Lib.hid c0
              have F0 := Lib.hid f0
              have P1 := Lib.hid (part_cell h (m + 1) hk).1
              have hs2' : (tdV (A.take (m + 1))).length = (m + 1) * 2 := by rw [tdV_len, List.length_take]; omega
              have L2 := Lib.hid hs2'; clear hs2'
              have hdr : tdV (A.drop (m + 1)) = [] := by rw [List.drop_of_length_le (by omega)]; rfl
              have HDR := Lib.hid hdr; clear hdr
              have HAL := Lib.hid hAl; clear hAl
              go_wp2_with (first
                | (at_builtin; refine wpList_append_own_at _ rfl (.tmp 41) (.tmp 47) 49 rfl w.heap.size 80 i0 (.agg #[.int .i64 0, .int .i64 0]) 2 16 Try.underlying49 hinf hz0 hz1 hz2 rfl (by decide) (.slice none 0 0) 0 [] rfl (World.ownsRow_nil _ _ _ _) ⟨g, 0, none⟩ (m + 1) (m + 1) (tdV (A.take (m + 1))) rfl L2.out P1.out (tdV_one _) (by unfold maxLen; omega) (by omega) (Nat.le_refl _) ?_; intro v1 w2 hr1 hg1 _ _; simp only [Nat.zero_add, List.nil_append] at hr1; have hb2 : Below w.heap.size w w2 := (Below.refl _ _).grown hg1 (Nat.le_refl _) (fun g hg => by simp [Value.ownBlock] at hg); have hs2 := hb2.size; clear hg1)
                | (at_builtin; refine wpList_append_own_at _ rfl (.tmp 49) (.tmp 53) 49 rfl w.heap.size 80 i0 (.agg #[.int .i64 0, .int .i64 0]) 2 16 Try.underlying49 hinf hz0 hz1 hz2 rfl (by decide) v1 _ _ rfl (hr1.alloc _) ⟨w2.heap.size, 0, none⟩ 1 1 [.int .i64 due, .int .i64 id] rfl rfl (two_cell _ _ _ _) (two_one _ _) (by unfold maxLen; omega) (by omega) (by simp <;> omega) ?_; intro v2 w3 hr2 hg2 _ _; have hb3 : Below w.heap.size w w3 := (hb2.alloc hb2.size _).grown hg2 (by simp <;> omega) (fun g hg => (World.ownsRow.lt (h := hr1) g hg).1); have hs3 := hb3.size; have d3 : w3.cell? ⟨b, 0, none⟩ = some _ := (hb3.cell (p := ⟨b, 0, none⟩) hbl).trans C0.out; clear hg2 hr1)
                | (at_builtin; refine wpList_append_own_at _ rfl (.tmp 56) (.tmp 62) 49 rfl w.heap.size 80 i0 (.agg #[.int .i64 0, .int .i64 0]) 2 16 Try.underlying49 hinf hz0 hz1 hz2 rfl (by decide) v2 _ _ rfl hr2 _ 0 _ [] rfl rfl (fun j u hj => by simp at hj) (by simp) (by unfold maxLen; omega) (by omega) hs3 ?_; intro v3 w4 hr3 hg3 _ _; have hb4 : Below w.heap.size w w4 := hb3.trans ((Below.refl _ _).grown hg3 hs3 (fun g hg => (World.ownsRow.lt (h := hr2) g hg).1)); have d4 : w4.cell? ⟨b, 0, none⟩ = some _ := (hb4.cell (p := ⟨b, 0, none⟩) hbl).trans C0.out; have e4 : w4.frozen? ⟨b, 0, none⟩ = false := (hb4.frozen (p := ⟨b, 0, none⟩) hbl).trans F0.out; obtain ⟨p4, c4, rfl⟩ := row_shape hr3; clear hg3 hr2))
              go_ret
              exact HFIN.out (m + 1) w4 _ hk HINS.out hb4 (by rw [HDR.out, HAL.out, Nat.sub_self]; exact hr3)
            · have hck2 : m + 1 < c := by omega
              have hgl := h.lt g (h.inr g rfl).1
              have C0 := Lib.hid c0
              have F0 := Lib.hid f0
              obtain ⟨P1, P2⟩ := part_cell h (m + 1) hk
              have P1 := Lib.hid P1
              have P2 := Lib.hid P2
              have hs2' : (tdV (A.take (m + 1))).length = (m + 1) * 2 := by rw [tdV_len, List.length_take]; omega
              have hs3' : (tdV (A.drop (m + 1))).length = (A.length - (m + 1)) * 2 := by rw [tdV_len, List.length_drop]
              have L2 := Lib.hid hs2'; clear hs2'
              have L3 := Lib.hid hs3'; clear hs3'
              go_wp2_with (first
                | (at_builtin; refine wpList_append_own_at _ rfl (.tmp 41) (.tmp 47) 49 rfl w.heap.size 80 i0 (.agg #[.int .i64 0, .int .i64 0]) 2 16 Try.underlying49 hinf hz0 hz1 hz2 rfl (by decide) (.slice none 0 0) 0 [] rfl (World.ownsRow_nil _ _ _ _) ⟨g, 0, none⟩ (m + 1) c (tdV (A.take (m + 1))) rfl L2.out P1.out (tdV_one _) (by unfold maxLen; omega) (by omega) (Nat.le_refl _) ?_; intro v1 w2 hr1 hg1 _ _; simp only [Nat.zero_add, List.nil_append] at hr1; have hb2 : Below w.heap.size w w2 := (Below.refl _ _).grown hg1 (Nat.le_refl _) (fun g hg => by simp [Value.ownBlock] at hg); have hs2 := hb2.size; clear hg1)
                | (at_builtin; refine wpList_append_own_at _ rfl (.tmp 49) (.tmp 53) 49 rfl w.heap.size 80 i0 (.agg #[.int .i64 0, .int .i64 0]) 2 16 Try.underlying49 hinf hz0 hz1 hz2 rfl (by decide) v1 _ _ rfl (hr1.alloc _) ⟨w2.heap.size, 0, none⟩ 1 1 [.int .i64 due, .int .i64 id] rfl rfl (two_cell _ _ _ _) (two_one _ _) (by unfold maxLen; omega) (by omega) (by simp <;> omega) ?_; intro v2 w3 hr2 hg2 _ _; have hb3 : Below w.heap.size w w3 := (hb2.alloc hb2.size _).grown hg2 (by simp <;> omega) (fun g hg => (World.ownsRow.lt (h := hr1) g hg).1); have hs3 := hb3.size; have d3 : w3.cell? ⟨b, 0, none⟩ = some _ := (hb3.cell (p := ⟨b, 0, none⟩) hbl).trans C0.out; clear hg2 hr1)
                | (at_builtin; refine wpList_append_own_at _ rfl (.tmp 56) (.tmp 62) 49 rfl w.heap.size 80 i0 (.agg #[.int .i64 0, .int .i64 0]) 2 16 Try.underlying49 hinf hz0 hz1 hz2 rfl (by decide) v2 _ _ rfl hr2 ⟨g, (m + 1) * 2, none⟩ (A.length - (m + 1)) (c - (m + 1)) (tdV (A.drop (m + 1))) rfl L3.out (fun j u hj => by have h1 := P2.out j u hj; rw [Addr.add_lit] at h1 ⊢; exact (hb3.cell (p := ⟨g, _, none⟩) hgl).trans h1) (tdV_one _) (by unfold maxLen; omega) (by omega) hs3 ?_; intro v3 w4 hr3 hg3 _ _; have hb4 : Below w.heap.size w w4 := hb3.trans ((Below.refl _ _).grown hg3 hs3 (fun g hg => (World.ownsRow.lt (h := hr2) g hg).1)); have d4 : w4.cell? ⟨b, 0, none⟩ = some _ := (hb4.cell (p := ⟨b, 0, none⟩) hbl).trans C0.out; have e4 : w4.frozen? ⟨b, 0, none⟩ = false := (hb4.frozen (p := ⟨b, 0, none⟩) hbl).trans F0.out; obtain ⟨p4, c4, rfl⟩ := row_shape hr3; clear hg3 hr2))
              go_ret
              exact HFIN.out (m + 1) w4 _ hk HINS.out hb4 hr3
end Go.Proofs.Ytgkiknkifleofaa.tm
