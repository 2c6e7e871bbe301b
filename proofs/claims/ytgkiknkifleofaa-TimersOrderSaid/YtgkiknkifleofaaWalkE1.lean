/- TimersOrder. Conditions: the arguments lie in memory. -/
import Derived.Test.YtgkiknkifleofaaWalkD1
namespace Go.Proofs.Ytgkiknkifleofaa.tm
open Go.RowKit mem TP
set_option linter.unusedVariables false
set_option linter.unusedSimpArgs false
set_option maxHeartbeats 1000000
set_option maxRecDepth 100000

theorem ActsAt.step {w w' : World} {v : Value} {l : List AD} (h : ActsAt w v l) (hs : w'.heap = w.heap) : ActsAt w' v l := by
  obtain ⟨p, c, rfl, h1, h2, h3⟩ := h
  refine ⟨p, c, rfl, h1, h2, fun hn => ?_⟩
  obtain ⟨g, o, rfl, hg, hc⟩ := h3 hn
  refine ⟨g, o, rfl, by rw [hs]; exact hg, fun j hj => ?_⟩
  have e : ∀ x, w'.cell? ⟨g, x, none⟩ = w.cell? ⟨g, x, none⟩ := fun x => by unfold World.cell?; rw [hs]
  rw [e, e, e]; exact hc j hj
theorem IntsAt.take {w : World} {p : Option Addr} {n c : Nat} {l : List Int} (h : IntsAt w (.slice p n c) l) (D : Nat) (hD : D ≤ l.length) : IntsAt w (.slice p D c) (l.take D) := by
  obtain ⟨p', c', e, h1, h2, h3⟩ := h
  simp only [Value.slice.injEq] at e
  obtain ⟨rfl, rfl, rfl⟩ := e
  have hl : (l.take D).length = D := by rw [List.length_take]; omega
  refine ⟨p, c, by rw [hl], by omega, h2, fun hn => ?_⟩
  obtain ⟨g, o, rfl, hg, hc⟩ := h3 (by intro e; subst e; simp at hn)
  exact ⟨g, o, rfl, hg, fun j hj => by rw [List.getElem_take]; exact hc j (by omega)⟩
theorem IntsAt.drop {w : World} {g o n c : Nat} {l : List Int} (h : IntsAt w (.slice (some ⟨g, o, none⟩) n c) l) (D : Nat) (hD : D ≤ l.length) : IntsAt w (.slice (some ⟨g, o + D, none⟩) (n - D) (c - D)) (l.drop D) := by
  obtain ⟨p', c', e, h1, h2, h3⟩ := h
  simp only [Value.slice.injEq] at e
  obtain ⟨rfl, rfl, rfl⟩ := e
  have hl : (l.drop D).length = l.length - D := by rw [List.length_drop]
  refine ⟨_, _, by rw [hl], by omega, by omega, fun hn => ?_⟩
  obtain ⟨g', o', e, hg, hc⟩ := h3 (by intro e; subst e; simp at hn)
  simp only [Option.some.injEq, Addr.mk.injEq] at e
  obtain ⟨rfl, rfl, _⟩ := e
  exact ⟨g, o + D, rfl, hg, fun j hj => by rw [List.getElem_drop, Nat.add_assoc]; exact hc (D + j) (by omega)⟩
theorem IntsAt.none' {w : World} {p : Option Addr} {c : Nat} (h : c ≤ maxLen) : IntsAt w (.slice p 0 c) [] := ⟨p, c, rfl, Nat.zero_le _, h, fun h => absurd rfl h⟩
def idxI (jx j : Nat) : Int := if jx < j then (jx : Int) else -1
theorem lawOrder (w : World) (v : Value) (l : List AD) (now : Int) (h : ActsAt w v l) : Calls Try.prog 6 #[v, .int .i64 now] w fun e w' => e = .returned (.bool true) ∧ Below w.heap.size w w' := by
  have hfl := SFilled (Below.refl _ _) h
  have hbd := fill_bd l
  have hfi := fill_fi (l.take 400)
  go_enter Try.func6, Try.ntmps6
  go_wp2_with fail
  refine hfl.mono ?_
  rintro e w1 ⟨b1, u1, F, rfl, hb1, hS1, hB1⟩
  clear hfl
  obtain ⟨hact, hblk⟩ := acts_row hB1.row
  have hoff := hB1.off
  clear hB1
  generalize hs : fill (l.take 400) = s at *
  have hcnt := hfi.cnt
  have halen := hfi.alen
  have HFI := Lib.hid hfi; clear hfi
  obtain ⟨A, n, L⟩ := s
  dsimp only at *
  clear hs h
  go_wp2_with fail
  have hFl := fun k hk => hS1.whl.lt k hk
  refine (ListM sortM sort0 w1 hS1.whl).mono ?_
  rintro e w2 ⟨v2, rfl, hr2, hb2⟩
  have hS2 := hS1.on hb2
  have hi2 := ids_at hr2
  have ho2 : Off v2 (A.map (·.id)) F := off_row hr2 hFl
  have hform : (v2 = .slice none 0 0 ∧ A.length = 0) ∨ ∃ g c, v2 = .slice (some ⟨g, 0, none⟩) A.length c := by
    rcases hr2.2 with ⟨e, h0⟩ | ⟨g, cap, cur, e, _⟩
    · exact .inl ⟨e, h0⟩
    · exact .inr ⟨_, _, e⟩
  clear hr2 hFl
  have hact := hact.below hb2 (Nat.le_refl _)
  obtain ⟨p, c, rfl, hc1, hc2, hc3⟩ := hact
  obtain ⟨p2, c2, rfl, hd1, hd2, hd3⟩ := hi2
  unfold maxLen at hc2 hd2
  simp only [List.length_map] at hd1 hd3 ho2 ⊢
  have hl400 : L.length ≤ 400 := by omega
  rw [halen] at hd1 ho2 hform ⊢
  have hq1 : (((L.length : Nat) : Int) != ((L.length : Nat) : Int)) = false := by simp
  have hL := SLen hS2
  rw [halen] at hL
  clear hS1 hb2
  have HC3 := Lib.hid hc3; clear hc3
  have HFO := Lib.hid hform; clear hform
  have HO2 := Lib.hid ho2; clear ho2
  have HD3 := Lib.hid hd3; clear hd3
  have HA := Lib.hid halen; clear halen
  have HN := Lib.hid hcnt; clear hcnt
  go_wp2_with fail
  refine hL.mono ?_
  rintro e w3 ⟨rfl, rfl⟩
  clear hL
  go_wp2_with fail
  go_loopw [8, 9, 10, 11] (fun s8 s9 s10 s11 wr => ∃ k m : Nat, s11 = .int .i64 k ∧ k ≤ L.length ∧ s8 = .int .i64 (prevD A k) ∧ s9 = .int .i64 (prevP A k) ∧ s10 = .int .i64 (cntB A now k) ∧ wr = w2.drewN m) (fun _ _ _ s _ => L.length - (intOf s).toNat)
  case atStart => exact ⟨0, 0, rfl, by omega, rfl, rfl, rfl, rfl⟩
  case round =>
    obtain ⟨k, m, rfl, hk, rfl, rfl, rfl, rfl⟩ := hrel
    by_cases hlt : k < L.length
    · have hkA : k < A.length := by rw [HA.out]; exact hlt
      have hLne : L ≠ [] := by intro e; subst e; simp at hlt
      obtain ⟨g, o, rfl, hg, hx⟩ := HC3.out hLne
      obtain ⟨g2, o2, rfl, hg2, hy⟩ := HD3.out (by intro e; have : (A.map (·.id)).length = 0 := by rw [e]; rfl
                                                   rw [List.length_map] at this; omega)
      have hyk : w2.cell? ⟨g2, o2 + k, none⟩ = some (.int .i64 A[k].id) := by
        have := hy k hkA; rw [List.getElem_map] at this; exact this
      obtain ⟨jx, hj, hnum, hjd, hji⟩ := HFI.out.at_ _ (List.getElem_mem hkA)
      have hj : jx < L.length := hj
      have hjd : L[jx].due = A[k].due := hjd
      have hji : L[jx].id = A[k].id := hji
      have hfd := find_mem hS2.whl.good.ids (List.getElem_mem hkA)
      have hD := SDue (hS2.drewN m) A[k].id
      rw [hfd] at hD
      obtain ⟨hp1, hp2⟩ := prev_ok hS2.whl.good k hkA
      obtain ⟨hp3, hp4⟩ := prev_succ A k hkA
      have hcs := cnt_snoc A now k hkA
      have hcl := cnt_le A now k
      have hnd : (L.map (·.id)).Nodup := HFI.out.ids.nodup_iff.1 hS2.whl.good.ids
      have huniq : ∀ j, (h : j < L.length) → L[j].id = A[k].id → j = jx := by
        intro j hjl e
        have := List.pairwise_iff_getElem.1 hnd
        rcases Nat.lt_trichotomy j jx with h | h | h
        · have := this j jx (by simpa using hjl) (by simpa using hj) h
          simp at this; exact absurd (e.trans hji.symm) this
        · exact h
        · have := this jx j (by simpa using hj) (by simpa using hjl) h
          simp at this; exact absurd (hji.trans e.symm) this
      have hxj := (hx jx hj).2.1
      rw [hjd] at hxj
      generalize A[k] = x at *
      have HX := Lib.hid hx; clear hx
      have HY := Lib.hid hy; clear hy
      have HU := Lib.hid huniq; clear huniq
      have HJ := Lib.hid hji; clear hji
      have HP := Lib.hid (And.intro hp3 hp4); clear hp3 hp4
      have HCS := Lib.hid hcs; clear hcs
      have HNU := Lib.hid hnum; clear hnum
      have HP2 := Lib.hid hp2; clear hp2
      clear hfd hnd hjd
      go_wp2_with fail
      refine hD.mono ?_
      rintro e w4 ⟨rfl, rfl⟩
      clear hD
      generalize prevD A k = pd at *
      generalize prevP A k = pp at *
      generalize cntB A now k = cn at *
      go_wp2_with fail
      obtain ⟨wo, hwo⟩ : ∃ wo : World, wo = w2.drewN m := ⟨_, rfl⟩
      go_loopw [14, 15] (fun s14 s15 wr => ∃ j q : Nat, s15 = .int .i64 j ∧ j ≤ L.length ∧ s14 = .int .i64 (idxI jx j) ∧ wr = w2.drewN q) (fun _ s _ => L.length - (intOf s).toNat)
      case atStart => exact ⟨0, m, rfl, by omega, rfl, rfl⟩
      case round =>
        obtain ⟨j, q, rfl, hjl, rfl, rfl⟩ := hrel
        by_cases hjlt : j < L.length
        · have hz := (HX.out j hjlt).2.2
          have hnext : idxI jx (j + 1) = if L[j].id = x.id then (j : Int) else idxI jx j := by
            by_cases e : L[j].id = x.id
            · rw [if_pos e]
              have := HU.out j hjlt e
              subst this
              unfold idxI; rw [if_pos (by omega)]
            · rw [if_neg e]
              unfold idxI
              have : j ≠ jx := by intro h; subst h; exact e HJ.out
              by_cases h : jx < j
              · rw [if_pos h, if_pos (by omega)]
              · rw [if_neg h, if_neg (by omega)]
          by_cases e : L[j].id = x.id
          · have hq : (L[j].id == x.id) = true := by simp [e]
            rw [if_pos e] at hnext
            have HN2 := Lib.hid hnext; clear hnext
            clear e
            generalize L[j] = a at *
            go_wp2_with fail
            go_quiet (fail)
            go_wp2_with fail
            go_roundw
            case rel => exact ⟨j + 1, _, by go_num, by omega, by rw [HN2.out], rfl⟩
            case measure => simp [intOf]; omega
          · have hq : (L[j].id == x.id) = false := by simp [e]
            rw [if_neg e] at hnext
            have HN2 := Lib.hid hnext; clear hnext
            clear e
            generalize L[j] = a at *
            go_wp2_with fail
            go_quiet (fail)
            go_wp2_with fail
            go_roundw
            case rel => exact ⟨j + 1, _, by go_num, by omega, by rw [HN2.out], rfl⟩
            case measure => simp [intOf]; omega
        · have hix : idxI jx j = (jx : Int) := by unfold idxI; rw [if_pos (by omega)]
          rw [hix]
          have hP2 : x.due = pd → pp < (jx : Int) := fun e => by have := HP2.out e; have := HNU.out; omega
          have hq1 : (x.due != x.due) = false := by simp
          have hq2 : decide (x.due < pd) = false := decide_eq_false (by omega)
          by_cases he : x.due = pd
          · have hq3 : decide ((jx : Int) < pp) = false := decide_eq_false (by have := hP2 he; omega)
            have hq4 : (x.due == pd) = true := by simp [he]
            clear he hP2 hix
            by_cases hn : x.due ≤ now
            · have hq5 : decide (x.due ≤ now) = true := decide_eq_true hn
              go_wp2_with fail
              go_roundw
              case rel => exact ⟨k + 1, _, by go_num, by omega, by rw [HP.out.1], by rw [HP.out.2, HNU.out]; go_num, by rw [HCS.out, if_pos hn]; go_num, rfl⟩
              case measure => simp [intOf]; omega
            · have hq5 : decide (x.due ≤ now) = false := decide_eq_false hn
              go_wp2_with fail
              go_roundw
              case rel => exact ⟨k + 1, _, by go_num, by omega, by rw [HP.out.1], by rw [HP.out.2, HNU.out]; go_num, by rw [HCS.out, if_neg hn]; go_num, rfl⟩
              case measure => simp [intOf]; omega
          · have hq4 : (x.due == pd) = false := by simp [he]
            clear he hP2 hix
            by_cases hn : x.due ≤ now
            · have hq5 : decide (x.due ≤ now) = true := decide_eq_true hn
              go_wp2_with fail
              go_roundw
              case rel => exact ⟨k + 1, _, by go_num, by omega, by rw [HP.out.1], by rw [HP.out.2, HNU.out]; go_num, by rw [HCS.out, if_pos hn]; go_num, rfl⟩
              case measure => simp [intOf]; omega
            · have hq5 : decide (x.due ≤ now) = false := decide_eq_false hn
              go_wp2_with fail
              go_roundw
              case rel => exact ⟨k + 1, _, by go_num, by omega, by rw [HP.out.1], by rw [HP.out.2, HNU.out]; go_num, by rw [HCS.out, if_neg hn]; go_num, rfl⟩
              case measure => simp [intOf]; omega
    · have hk2 : k = A.length := by have := HA.out; omega
      have hcall := cnt_all A now hS2.whl.good.sorted
      rw [← hk2] at hcall
      rw [hcall]
      have HCA := Lib.hid hcall; clear hcall
      have HK := Lib.hid hk2; clear hk2
      have hD : (ready A now).length ≤ L.length := by rw [← HA.out]; exact ready_len A now
      have hi2 : IntsAt w2 (.slice p2 L.length c2) (A.map (·.id)) := ⟨p2, c2, by rw [List.length_map, HA.out], by rw [List.length_map, HA.out]; exact hd1, by unfold maxLen; exact hd2, by simpa using HD3.out⟩
      go_wp2_with fail
      have hS5 := hS2.drewN m
      have hi5 := hi2.drewN m
      generalize w2.drewN m = w5 at *
      obtain ⟨e1, e2⟩ := ready_ids A now
      have E1 := Lib.hid e1; clear e1
      have E2 := Lib.hid e2; clear e2
      generalize hDD : (ready A now).length = D at *
      have HDD := Lib.hid hDD; clear hDD
      rcases HFO.out with ⟨hf, h0⟩ | ⟨g, c', hf⟩
      · simp only [Value.slice.injEq] at hf
        obtain ⟨rfl, hL0, rfl⟩ := hf
        have hA0 : A = [] := List.eq_nil_of_length_eq_zero (by have := HA.out; omega)
        obtain rfl : D = 0 := by omega
        have hL1 : L.length = 0 := by have := HA.out; omega
        rw [hL1]
        have hS6 : St w w5.drew b1 A n F := hS5.drewN 1
        have hTake : ∀ w6, Step w w5.drew w6 b1 (later A now) n F F → IntsAt w6 (.slice none 0 0) ((ready A now).map (·.id)) ∧ IntsAt w6 (.slice none 0 0) ((later A now).map (·.id)) := by
          intro w6 hst
          rw [E1.out, E2.out, hA0]
          exact ⟨by simpa using IntsAt.none' (p := none) (c := 0) (by unfold maxLen; omega), by simpa using IntsAt.none' (p := none) (c := 0) (by unfold maxLen; omega)⟩
        have HTK := Lib.hid hTake; clear hTake
        have hA5 : A.length < 500 := by have := HA.out; omega
        go_region_held3 (fun w' => True) (trivial)
          (first
            | (go_at_call 12; refine (taken hS6 hA5 now).mono ?_; rintro e w6 ⟨v6, rfl, hr6, hst6⟩)
            | (go_at_call 13; refine (same (ids_at hr6) (HTK.out _ hst6).1).mono ?_; clear hr6; rintro e w7 ⟨rfl, q, rfl⟩; rw [decide_eq_true rfl])
            | (go_at_call 14; refine (SList (hst6.st.drewN q)).mono ?_; rintro e w8 ⟨v8, rfl, hi8, ho8, hb8, hS8⟩)
            | (go_at_call 13; refine (same hi8 (((HTK.out _ hst6).2.drewN q).below hb8 (Nat.le_refl _))).mono ?_; rintro e w9 ⟨rfl, q2, rfl⟩; rw [decide_eq_true rfl])
            | (go_at_call 10; refine (awake (hS8.drewN q2).bel).mono ?_; rintro e w10 ⟨rfl, hb10⟩))
        go_wp2_with fail
        go_ret
        exact ⟨rfl, hb10⟩
      · simp only [Value.slice.injEq] at hf
        obtain ⟨rfl, _, rfl⟩ := hf
        by_cases hcap : c2 = D
        · subst hcap
          have hLc : L.length = c2 := by omega
          have bb0 : (0 : Int) ≤ (c2 : Int) := by omega
          rw [hLc] at *
          have hS6 : St w w5.drew b1 A n F := hS5.drewN 1
          have hi6 : IntsAt w5.drew (.slice (some ⟨g, 0, none⟩) L.length c2) (A.map (·.id)) := hi5.drewN 1
          have hlA : (A.map (·.id)).length = L.length := by rw [List.length_map]; exact HA.out
          have hO5 : Off (.slice (some ⟨g, 0, none⟩) L.length c2) (A.map (·.id)) F := HO2.out
          have hTake : ∀ w6, Step w w5.drew w6 b1 (later A now) n F F → IntsAt w6 (.slice (some ⟨g, 0, none⟩) c2 c2) ((ready A now).map (·.id)) ∧ IntsAt w6 (.slice (some ⟨g, 0, none⟩) 0 0) ((later A now).map (·.id)) := by
            intro w6 hst
            obtain ⟨h1, _⟩ := hi6.step hO5 hst.touch hst.grow
            rw [E1.out, E2.out]
            exact ⟨h1.take c2 (by omega), by rw [List.drop_of_length_le (by omega)]; exact IntsAt.none' (by unfold maxLen; omega)⟩
          clear hi6 hlA hO5
          have HTK := Lib.hid hTake; clear hTake
          have hA5 : A.length < 500 := by have := HA.out; omega
          go_region_held3 (fun w' => True) (trivial)
            (first
              | (go_at_call 12; refine (taken hS6 hA5 now).mono ?_; rintro e w6 ⟨v6, rfl, hr6, hst6⟩)
              | (go_at_call 13; refine (same (ids_at hr6) (HTK.out _ hst6).1).mono ?_; clear hr6; rintro e w7 ⟨rfl, q, rfl⟩; rw [decide_eq_true rfl])
              | (go_at_call 14; refine (SList (hst6.st.drewN q)).mono ?_; rintro e w8 ⟨v8, rfl, hi8, ho8, hb8, hS8⟩)
              | (go_at_call 13; refine (same hi8 (((HTK.out _ hst6).2.drewN q).below hb8 (Nat.le_refl _))).mono ?_; rintro e w9 ⟨rfl, q2, rfl⟩; rw [decide_eq_true rfl])
              | (go_at_call 10; refine (awake (hS8.drewN q2).bel).mono ?_; rintro e w10 ⟨rfl, hb10⟩))
          go_wp2_with fail
          go_ret
          exact ⟨rfl, hb10⟩
        · have hlt2 : D < c2 := by omega
          have bb0 : (0 : Int) ≤ (D : Int) := by omega
          have bb1 : (D : Int) ≤ (c2 : Int) := by omega
          have bb2 : (D : Int) ≤ (L.length : Int) := by omega
          have bb3 : (L.length : Int) ≤ (c2 : Int) := by omega
          have bb4 : (D : Int) < (c2 : Int) := by omega
          have hS6 : St w w5.drew b1 A n F := hS5.drewN 1
          have hi6 : IntsAt w5.drew (.slice (some ⟨g, 0, none⟩) L.length c2) (A.map (·.id)) := hi5.drewN 1
          have hlA : (A.map (·.id)).length = L.length := by rw [List.length_map]; exact HA.out
          have hO5 : Off (.slice (some ⟨g, 0, none⟩) L.length c2) (A.map (·.id)) F := HO2.out
          have hTake : ∀ w6, Step w w5.drew w6 b1 (later A now) n F F → IntsAt w6 (.slice (some ⟨g, 0, none⟩) D c2) ((ready A now).map (·.id)) ∧ IntsAt w6 (.slice (some ⟨g, D, none⟩) (L.length - D) (c2 - D)) ((later A now).map (·.id)) := by
            intro w6 hst
            obtain ⟨h1, _⟩ := hi6.step hO5 hst.touch hst.grow
            rw [E1.out, E2.out]
            have h2 := h1.drop D (by omega)
            rw [Nat.zero_add] at h2
            exact ⟨h1.take D (by omega), h2⟩
          have HTK := Lib.hid hTake; clear hTake
          clear hi6 hlA
          have hA5 : A.length < 500 := by have := HA.out; omega
          go_region_held3 (fun w' => True) (trivial)
            (first
              | (go_at_call 12; refine (taken hS6 hA5 now).mono ?_; rintro e w6 ⟨v6, rfl, hr6, hst6⟩)
              | (go_at_call 13; refine (same (ids_at hr6) (HTK.out _ hst6).1).mono ?_; clear hr6; rintro e w7 ⟨rfl, q, rfl⟩; rw [decide_eq_true rfl])
              | (go_at_call 14; refine (SList (hst6.st.drewN q)).mono ?_; rintro e w8 ⟨v8, rfl, hi8, ho8, hb8, hS8⟩)
              | (go_at_call 13; refine (same hi8 (((HTK.out _ hst6).2.drewN q).below hb8 (Nat.le_refl _))).mono ?_; rintro e w9 ⟨rfl, q2, rfl⟩; rw [decide_eq_true rfl])
              | (go_at_call 10; refine (awake (hS8.drewN q2).bel).mono ?_; rintro e w10 ⟨rfl, hb10⟩))
          go_wp2_with fail
          go_ret
          exact ⟨rfl, hb10⟩
end Go.Proofs.Ytgkiknkifleofaa.tm
