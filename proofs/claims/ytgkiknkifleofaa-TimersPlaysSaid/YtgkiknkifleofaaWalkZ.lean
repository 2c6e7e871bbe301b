/- TimersSplit. Conditions: the arguments lie in memory. -/
import Derived.Test.YtgkiknkifleofaaWalkY
import Derived.Laws.AppendOwnNone
namespace Go.Proofs.Ytgkiknkifleofaa.tm
open Go.RowKit mem TP
set_option linter.unusedVariables false
set_option linter.unusedSimpArgs false
set_option maxHeartbeats 1000000
set_option maxRecDepth 100000

theorem ready_two (A : List TD) (a b : Int) (h : a ≤ b) : ready A a ++ ready (later A a) b = ready A b ∧ later (later A a) b = later A b := by
  unfold ready later
  induction A with
  | nil => simp
  | cons x l ih =>
    by_cases hx : x.due ≤ a
    · have hy : x.due ≤ b := by omega
      simp [dueB, hx, hy] at *
      exact ih
    · simp [dueB, hx]
theorem St.other {w0 w w' : World} {b n : Nat} {A : List TD} {F G : Nat → Prop} (h : St w0 w b A n F) (ht : TouchB G w w') (hb : Below w0.heap.size w0 w') (hd : ∀ k, F k → ¬ G k) : St w0 w' b A n F :=
  ⟨hb, h.whl.touch ht hd, h.own⟩
theorem row_touch {w w' : World} {base m : Nat} {v : Value} {xs : List Value} {G : Nat → Prop} (h : w.ownsRow base 2 1 v m xs) (ht : TouchB G w w') (hG : ∀ k, G k → k < base) : w'.ownsRow base 2 1 v m xs :=
  row_same h (fun g hg => ht.block g (World.ownsRow.lt (h := h) g hg).2 (fun e => by have := hG g e; have := (World.ownsRow.lt (h := h) g hg).1; omega))
theorem row_below {w w' : World} {base m B : Nat} {v : Value} {xs : List Value} (h : w.ownsRow base 2 1 v m xs) (hb : Below B w w') (hB : w.heap.size ≤ B) : w'.ownsRow base 2 1 v m xs :=
  row_same h (fun g hg => hb.block g (by have := (World.ownsRow.lt (h := h) g hg).2; omega))
theorem ids_app (A B : List TD) : idsV A ++ idsV B = idsV (A ++ B) := by unfold idsV; rw [List.map_append]
theorem ready_len (A : List TD) (a : Int) : (ready A a).length ≤ A.length := (List.takeWhile_sublist _).length_le
theorem later_len (A : List TD) (a : Int) : (later A a).length ≤ A.length := (List.dropWhile_sublist _).length_le

theorem lawSplit (w : World) (v : Value) (l : List AD) (now lat : Int) (h : ActsAt w v l) : Calls Try.prog 3 #[v, .int .i64 now, .int .i64 lat] w fun e w' => e = .returned (.bool true) ∧ Below w.heap.size w w' := by
  by_cases hlt : lat < now
  · have hd : decide (lat < now) = true := decide_eq_true hlt
    have hA := awake (Below.refl w.heap.size w)
    go_enter Try.func3, Try.ntmps3
    go_wp2_with fail
    refine hA.mono ?_
    rintro e w1 ⟨rfl, hb⟩
    go_wp2_with fail
    go_ret
    exact ⟨rfl, hb⟩
  have hd : decide (lat < now) = false := decide_eq_false hlt
  obtain ⟨i0, hinf, hz0, hz1, hz2⟩ := info_parts info2
  have hfl := SFilled (Below.refl _ _) h
  have hbd := fill_bd l
  go_enter Try.func3, Try.ntmps3
  go_wp2_with fail
  refine hfl.mono ?_
  rintro e w1 ⟨b1, u1, F1, rfl, hb1, hS1, hB1⟩
  have hfl2 := SFilled hS1.bel (h.below hb1 (Nat.le_refl _))
  clear hfl h hB1
  go_wp2_with fail
  refine hfl2.mono ?_
  rintro e w2 ⟨b2, u2, F2, rfl, hb2, hS2, hB2⟩
  have hF1 : ∀ k, F1 k → k < w1.heap.size := fun k hk => hS1.whl.lt k hk
  have hF2 : ∀ k, F2 k → w1.heap.size ≤ k := hB2.own
  have hF2l : ∀ k, F2 k → k < w2.heap.size := fun k hk => hS2.whl.lt k hk
  have hz := hb2.size
  have hF1l : ∀ k, F1 k → k < w2.heap.size := fun k hk => by have := hF1 k hk; omega
  have hdis : ∀ k, F2 k → ¬ F1 k := fun k h1 h2 => by have := hF1 k h2; have := hF2 k h1; omega
  have hdis' : ∀ k, F1 k → ¬ F2 k := fun k h1 h2 => hdis k h2 h1
  have hS1 := hS1.on hb2
  clear hfl2 hB2
  generalize (fill (l.take 400)).n = n at *
  have hal : (fill (l.take 400)).A.length < 500 := by have := hS1.whl.good.len; omega
  generalize (fill (l.take 400)).A = A at *
  have hF1l := Lib.hid hF1l
  have hF2l := Lib.hid hF2l
  have hdis := Lib.hid hdis
  have hdis' := Lib.hid hdis'
  clear hF1 hF2
  go_wp2_with fail
  refine (taken hS1 hal now).mono ?_
  rintro e w3 ⟨v3, rfl, hr3, hst3⟩
  have h2 := hS2.other hst3.touch hst3.st.bel hdis.out
  have h1 := hst3.st
  have hz3 := hst3.touch.size
  clear hS1 hS2 hst3
  go_wp2_with fail
  refine (taken h1 (by have := later_len A now; omega) lat).mono ?_
  rintro e w4 ⟨v4, rfl, hr4, hst4⟩
  have hr3 := row_touch hr3 hst4.touch hF1l.out
  have h2 := h2.other hst4.touch hst4.st.bel hdis.out
  have h1 := hst4.st
  have hz4 := hst4.touch.size
  clear hst4
  obtain ⟨e1, e2⟩ := ready_two A now lat (by omega)
  rw [e2] at h1
  have hlen : (ready A now).length + (ready (later A now) lat).length = (ready A lat).length := by rw [← e1]; simp
  have hlen2 := ready_len A lat
  have hws : w.heap.size ≤ w2.heap.size := Nat.le_trans hb1.size hb2.size
  have hrow : ∀ (w5 : World) (v5 : Value), w5.ownsRow w2.heap.size 2 1 v5 (ready A lat).length (idsV (ready A lat)) → Below w2.heap.size w4 w5 → St w w5 b1 (later A lat) n F1 ∧ St w w5 b2 A n F2 := by
    intro w5 v5 _ hb5
    have hb : Below w.heap.size w w5 := h1.bel.trans (hb5.mono hws)
    exact ⟨⟨hb, h1.whl.same hb5.size (fun k _ hF => hb5.block k (hF1l.out k hF)), h1.own⟩, ⟨hb, h2.whl.same hb5.size (fun k _ hF => hb5.block k (hF2l.out k hF)), h2.own⟩⟩
  have HK := Lib.hid hrow; clear hrow
  have hids : idsV (ready A now) ++ idsV (ready (later A now) lat) = idsV (ready A lat) := by rw [ids_app, e1]
  have HI := Lib.hid hids; clear hids
  have HLN := Lib.hid hlen; clear hlen
  clear e1 e2
  rcases hr4.2 with ⟨rfl, hz0'⟩ | ⟨g, cap, cur, rfl, hgb, hgh, hgc, hgm, hgs, hgt⟩
  · have hr5 : w4.ownsRow w2.heap.size 2 1 v3 (ready A lat).length (idsV (ready A lat)) := by
      have hx : (ready A now).length = (ready A lat).length := by have := HLN.out; omega
      have hy : ready (later A now) lat = [] := List.eq_nil_of_length_eq_zero hz0'
      have hw := HI.out
      rw [hy] at hw; simp [idsV] at hw
      rw [← hx]
      have : idsV (ready A lat) = idsV (ready A now) := by unfold idsV; exact hw.symm
      rw [this]; exact hr3
    obtain ⟨h1, h2⟩ := HK.out w4 v3 hr5 (Below.refl _ _)
    go_wp2_with (at_builtin; refine wpList_append_own_none rfl _ _ 27 rfl w2.heap.size 2 i0 1 Try.underlying27 hinf v3 (ready A now).length (idsV (ready A now)) rfl hr3 rfl ?_)
    clear hr3 hr4 HK hz0'
    refine (taken h2 hal lat).mono ?_
    rintro e w6 ⟨v6, rfl, hr6, hst6⟩
    have hr7 := row_touch hr5 hst6.touch hF2l.out
    have h1 := h1.other hst6.touch hst6.st.bel hdis'.out
    have h2 := hst6.st
    go_wp2_with fail
    refine (same (ids_at hr7) (ids_at hr6)).mono ?_
    rintro e w7 ⟨rfl, m, rfl⟩
    rw [decide_eq_true rfl]
    have h1 := h1.drewN m
    have h2 := h2.drewN m
    go_wp2_with fail
    refine (SList h1).mono ?_
    rintro e w8 ⟨v8, rfl, hi8, ho8, hb8, h1⟩
    have h2 := h2.on hb8
    go_wp2_with fail
    refine (SList h2).mono ?_
    rintro e w9 ⟨v9, rfl, hi9, ho9, hb9, h2⟩
    have hi8 := hi8.below hb9 (Nat.le_refl _)
    go_wp2_with fail
    refine (same hi8 hi9).mono ?_
    rintro e w10 ⟨rfl, m', rfl⟩
    rw [decide_eq_true rfl]
    go_wp2_with fail
    refine (awake (h2.drewN m').bel).mono ?_
    rintro e w11 ⟨rfl, hb11⟩
    go_wp2_with fail
    go_ret
    exact ⟨rfl, hb11⟩
  · have hl4 : (idsV (ready (later A now) lat)).length = (ready (later A now) lat).length := by simp [idsV]
    have hgl := hlen2
    have hx4 : w2.heap.size ≤ w4.heap.size := Nat.le_trans hz3 hz4
    have hcell : ∀ (j : Nat) u, (idsV (ready (later A now) lat))[j]? = some u → w4.cell? (Addr.add ⟨g, 0, none⟩ j) = some u := by
      intro j u hj
      rw [Addr.add_lit, Nat.zero_add]
      simp only [World.cell?, hgh]
      rw [← hgt, List.getElem?_take] at hj
      split at hj
      · simpa using hj
      · cases hj
    have HC := Lib.hid hcell; clear hcell
    have HL4 := Lib.hid hl4; clear hl4
    have hsum : (ready A now).length + (ready (later A now) lat).length ≤ 1000 := by have := HLN.out; omega
    clear hgt hgh hgs
    go_wp2_with (at_builtin; refine wpList_append_own _ rfl _ _ 27 rfl w2.heap.size 2 i0 (.int .i64 0) 1 8 Try.underlying27 hinf hz0 hz1 hz2 rfl (by decide) v3 (ready A now).length (idsV (ready A now)) rfl hr3 ⟨g, 0, none⟩ (ready (later A now) lat).length cap (idsV (ready (later A now) lat)) rfl ?c1 HC.out ?c2 ?c3 ?c4 ?c5 ?_)
    case c1 => rw [HL4.out, Nat.mul_one]
    case c2 => intro u hu; obtain ⟨x, _, rfl⟩ := List.mem_map.1 hu; rfl
    case c3 => unfold maxLen; omega
    case c4 => omega
    case c5 => exact hx4
    intro v5 w5 hr5 hgrow _
    rw [HI.out, HLN.out] at hr5
    have hb5 : Below w2.heap.size w4 w5 := (Below.refl _ _).grown hgrow hx4 (fun k hk => (World.ownsRow.lt (h := hr3) k hk).1)
    obtain ⟨h1, h2⟩ := HK.out w5 v5 hr5 hb5
    clear hr3 hr4 HK hgrow HC
    go_wp2_with fail
    refine (taken h2 hal lat).mono ?_
    rintro e w6 ⟨v6, rfl, hr6, hst6⟩
    have hr7 := row_touch hr5 hst6.touch hF2l.out
    have h1 := h1.other hst6.touch hst6.st.bel hdis'.out
    have h2 := hst6.st
    go_wp2_with fail
    refine (same (ids_at hr7) (ids_at hr6)).mono ?_
    rintro e w7 ⟨rfl, m, rfl⟩
    rw [decide_eq_true rfl]
    have h1 := h1.drewN m
    have h2 := h2.drewN m
    go_wp2_with fail
    refine (SList h1).mono ?_
    rintro e w8 ⟨v8, rfl, hi8, ho8, hb8, h1⟩
    have h2 := h2.on hb8
    go_wp2_with fail
    refine (SList h2).mono ?_
    rintro e w9 ⟨v9, rfl, hi9, ho9, hb9, h2⟩
    have hi8 := hi8.below hb9 (Nat.le_refl _)
    go_wp2_with fail
    refine (same hi8 hi9).mono ?_
    rintro e w10 ⟨rfl, m', rfl⟩
    rw [decide_eq_true rfl]
    go_wp2_with fail
    refine (awake (h2.drewN m').bel).mono ?_
    rintro e w11 ⟨rfl, hb11⟩
    go_wp2_with fail
    go_ret
    exact ⟨rfl, hb11⟩
end Go.Proofs.Ytgkiknkifleofaa.tm
