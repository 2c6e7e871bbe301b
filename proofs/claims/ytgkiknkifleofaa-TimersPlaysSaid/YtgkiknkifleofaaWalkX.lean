/- The wheel of a call's own, step by step; TimersTrace. Conditions: the arguments lie in memory. -/
import Derived.Test.YtgkiknkifleofaaWalkW
namespace Go.Proofs.Ytgkiknkifleofaa.tm
open Go.RowKit mem TP
set_option linter.unusedVariables false
set_option linter.unusedSimpArgs false
set_option maxHeartbeats 1000000
set_option maxRecDepth 100000

/-- a wheel of the call's own, in a world behind the call's first -/
structure St (w0 w : World) (b : Nat) (A : List TD) (n : Nat) (F : Nat → Prop) : Prop where
  bel : Below w0.heap.size w0 w
  whl : Wheel w b A n F
  own : ∀ k, F k → w0.heap.size ≤ k
/-- what a step of the wheel leaves -/
structure Step (w0 w w' : World) (b : Nat) (A : List TD) (n : Nat) (F F' : Nat → Prop) : Prop where
  st : St w0 w' b A n F'
  touch : TouchB F w w'
  grow : ∀ k, F' k → F k ∨ w.heap.size ≤ k
section
variable {w0 w : World} {b n : Nat} {A : List TD} {F : Nat → Prop}
theorem SAdd (h : St w0 w b A n F) (hn : n < 1000) (due id : Int) : Calls Try.prog 15 #[.pointer (some ⟨b, 0, none⟩), .int .i64 due, .int .i64 id] w fun e w' => e = .returned (.int .i64 (addE A due id)) ∧ ∃ F', Step w0 w w' b (addT A n due id) (addN A n due id) F F' := by
  refine (AddM w h.whl hn due id).mono ?_
  rintro e w' ⟨he, F', hW, hT, hF⟩
  exact ⟨he, F', ⟨h.bel.trans (hT.below h.own h.bel.size), hW, fun k hk => by rcases hF k hk with e | e; exact h.own k e; exact Nat.le_trans h.bel.size e⟩, hT, hF⟩
theorem SDrop (h : St w0 w b A n F) (id : Int) : Calls Try.prog 17 #[.pointer (some ⟨b, 0, none⟩), .int .i64 id] w fun e w' => e = .returned (.tuple #[.int .i64 (((findT A id).map (·.due)).getD 0), .bool (findT A id).isSome]) ∧ Step w0 w w' b (dropT A id) n F F := by
  refine (DropM w h.whl id).mono ?_
  rintro e w' ⟨he, hW, hT⟩
  exact ⟨he, ⟨h.bel.trans (hT.below h.own h.bel.size), hW, h.own⟩, hT, fun k hk => .inl hk⟩
theorem STake (h : St w0 w b A n F) (now : Int) : Calls Try.prog 20 #[.pointer (some ⟨b, 0, none⟩), .int .i64 now] w fun e w' => e = .returned (.tuple #[.int .i64 ((takeV A now).getD 0), .bool (takeV A now).isSome]) ∧ Step w0 w w' b (takeT A now) n F F := by
  refine (TakeM w h.whl now).mono ?_
  rintro e w' ⟨he, hW, hT⟩
  exact ⟨he, ⟨h.bel.trans (hT.below h.own h.bel.size), hW, h.own⟩, hT, fun k hk => .inl hk⟩
theorem St.on {w' : World} (h : St w0 w b A n F) (hb : Below w.heap.size w w') : St w0 w' b A n F := ⟨h.bel.trans (hb.mono h.bel.size), h.whl.below hb (Nat.le_refl _), h.own⟩
theorem St.still (h : St w0 w b A n F) : Step w0 w w b A n F F := ⟨h, TouchB.refl _ _, fun k hk => .inl hk⟩
theorem SList (h : St w0 w b A n F) : Calls Try.prog 14 #[.pointer (some ⟨b, 0, none⟩)] w fun e w' => ∃ v, e = .returned v ∧ IntsAt w' v (A.map (·.id)) ∧ Off v (A.map (·.id)) F ∧ Below w.heap.size w w' ∧ St w0 w' b A n F := by
  refine (ListM sortM sort0 w h.whl).mono ?_
  rintro e w' ⟨v, he, hr, hb⟩
  exact ⟨v, he, ids_at hr, off_row hr (fun k hk => h.whl.lt k hk), hb, h.on hb⟩
theorem SLen (h : St w0 w b A n F) : Calls Try.prog 16 #[.pointer (some ⟨b, 0, none⟩)] w fun e w' => e = .returned (.int .i64 A.length) ∧ w = w' := LenM w h.whl
theorem SDue (h : St w0 w b A n F) (id : Int) : Calls Try.prog 18 #[.pointer (some ⟨b, 0, none⟩), .int .i64 id] w fun e w' => e = .returned (.tuple #[.int .i64 (((findT A id).map (·.due)).getD 0), .bool (findT A id).isSome]) ∧ w = w' := DueM w h.whl id
theorem SFirst (h : St w0 w b A n F) : Calls Try.prog 21 #[.pointer (some ⟨b, 0, none⟩)] w fun e w' => e = .returned (.tuple #[.int .i64 ((A.head?.map (·.due)).getD 0), .bool A.head?.isSome]) ∧ w = w' := FirstM w h.whl
theorem St.drewN (h : St w0 w b A n F) (m : Nat) : St w0 (w.drewN m) b A n F := ⟨h.bel.drewN m, h.whl.same (Nat.le_refl _) (fun _ _ _ => rfl), h.own⟩
end
/-- filled, in these words -/
theorem SFilled {w0 w : World} {v : Value} {l : List AD} (hb : Below w0.heap.size w0 w) (h : ActsAt w v l) : Calls Try.prog 11 #[v] w fun e w' => ∃ b u F, e = .returned (.tuple #[.pointer (some ⟨b, 0, none⟩), u]) ∧ Below w.heap.size w w' ∧ St w0 w' b (fill (l.take 400)).A (fill (l.take 400)).n F ∧ Both w.heap.size w' b (fill (l.take 400)) u F := by
  refine (filled1 h).mono ?_
  rintro e w' ⟨b, u, F, he, hb1, hB⟩
  exact ⟨b, u, F, he, hb1, ⟨hb.trans (hb1.mono hb.size), hB.whl, fun k hk => Nat.le_trans hb.size (hB.own k hk)⟩, hB⟩
theorem awake {w0 w : World} (hb : Below w0.heap.size w0 w) : Calls Try.prog 10 #[] w fun e w' => e = .returned (.bool true) ∧ Below w0.heap.size w0 w' :=
  (awake1 sortM sort0 w).mono fun e w' ⟨he, h⟩ => ⟨he, hb.trans (h.mono hb.size)⟩
theorem fill_bd (l : List AD) : (fill (l.take 400)).n ≤ 400 := by
  have := (fill_n (l.take 400)).1; rw [List.length_take] at this; omega
theorem same' {w0 w : World} {v1 v2 : Value} {a b : List Int} (hb : Below w0.heap.size w0 w) (h1 : IntsAt w v1 a) (h2 : IntsAt w v2 b) : Calls Try.prog 13 #[v1, v2] w fun e w' => e = .returned (.bool (decide (a = b))) ∧ ∃ n, w' = w.drewN n := same h1 h2
theorem lawTrace (w : World) (v : Value) (l : List AD) (due id : Int) (h : ActsAt w v l) : Calls Try.prog 4 #[v, .int .i64 due, .int .i64 id] w fun e w' => e = .returned (.bool true) ∧ Below w.heap.size w w' := by
  have hfl := SFilled (Below.refl _ _) h
  have hbd := fill_bd l
  go_enter Try.func4, Try.ntmps4
  go_wp2_with fail
  refine hfl.mono ?_
  rintro e w1 ⟨b, u, F, rfl, hb1, hS1, hB1⟩
  clear hfl hB1 h
  generalize (fill (l.take 400)).A = A at *
  generalize (fill (l.take 400)).n = n at *
  go_wp2_with fail
  refine (SList hS1).mono ?_
  rintro e w2 ⟨v2, rfl, hi2, ho2, hb2, hS2⟩
  clear hS1
  go_wp2_with fail
  refine (SAdd hS2 (by omega) due id).mono ?_
  rintro e w3 ⟨rfl, F3, hS3⟩
  obtain ⟨hi3, ho3⟩ := hi2.step ho2 hS3.touch hS3.grow
  obtain ⟨h3, ht3, hg3⟩ := hS3
  by_cases hE : addE A due id = 0
  · have hq : (addE A due id != 0) = false := by simp [hE]
    have hA : addT A n due id = insT A ⟨due, id, (n : Int) + 1⟩ := by unfold addT; rw [if_pos hE]
    have hN : addN A n due id = n + 1 := by unfold addN; rw [if_pos hE]
    rw [hA, hN] at h3
    obtain ⟨hf, hd⟩ := drop_ins hS2.whl.good (by omega) hE
    have hlen : (insT A ⟨due, id, (n : Int) + 1⟩).length = A.length + 1 := by rw [(ins_perm A _).length_eq]; simp
    have hf0 := (add_ok hE).2.2
    have hAl : A.length ≤ 1000 := by have := hS2.whl.good.len; omega
    clear hA hN hE hS2 ht3 hg3 ho2 hi2
    have hL := SLen h3
    rw [hlen] at hL
    have hD := SDrop h3 id
    rw [hf, hd] at hD
    obtain ⟨p, c, rfl, hc1, hc2, hc3⟩ := hi3
    have hi3 : IntsAt w3 (.slice p (A.map (·.id)).length c) (A.map (·.id)) := ⟨p, c, rfl, hc1, hc2, hc3⟩
    simp only [List.length_map] at hi3 ho3 ⊢
    have hz : ((((A.length + 1 : Nat) : Int)) != (A.length : Int) + 1) = false := by simp
    have HF := Lib.hid hf; clear hf
    have HD := Lib.hid hd; clear hd
    have HL := Lib.hid hlen; clear hlen
    have HF0 := Lib.hid hf0; clear hf0
    clear hc1 hc2 hc3
    go_wp2_with fail
    refine hL.mono ?_
    rintro e w4 ⟨rfl, rfl⟩
    clear hL
    go_wp2_with fail
    refine hD.mono ?_
    rintro e w4 ⟨rfl, hS4⟩
    clear hD
    obtain ⟨hi4, ho4⟩ := hi3.step ho3 hS4.touch hS4.grow
    have h4 := hS4.st
    clear hS4 h3 hi3 ho3
    have hD := SDrop h4 id
    rw [HF0.out, show dropT A id = A from by
      unfold dropT; rw [List.filter_eq_self]
      intro y hy; simp
      intro e; exact findT_none.1 HF0.out (by rw [← e]; exact List.mem_map_of_mem (f := (·.id)) hy)] at hD
    go_wp2_with fail
    refine hD.mono ?_
    rintro e w5 ⟨rfl, hS5⟩
    obtain ⟨hi5, ho5⟩ := hi4.step ho4 hS5.touch hS5.grow
    have h5 := hS5.st
    clear hS5 h4 hi4 ho4 hD
    go_wp2_with fail
    refine (SList h5).mono ?_
    rintro e w6 ⟨v6, rfl, hi6, ho6, hb6, h6⟩
    have hi6' := hi5.below hb6 (Nat.le_refl _)
    go_wp2_with fail
    refine (same hi6 hi6').mono ?_
    rintro e w7 ⟨rfl, m, rfl⟩
    rw [decide_eq_true rfl]
    go_wp2_with fail
    refine (awake (h6.drewN m).bel).mono ?_
    rintro e w8 ⟨rfl, hb8⟩
    go_wp2_with fail
    go_ret
    exact ⟨rfl, hb8⟩
  · have hq : (addE A due id != 0) = true := by simp [hE]
    have hA : addT A n due id = A := by unfold addT; rw [if_neg hE]
    have hN : addN A n due id = n := by unfold addN; rw [if_neg hE]
    rw [hA, hN] at h3
    clear hA hN hE hS2 ht3 hg3 ho2 hi2
    go_wp2_with fail
    refine (SList h3).mono ?_
    rintro e w4 ⟨v4, rfl, hi4, ho4, hb4, h4⟩
    have hi3' := hi3.below hb4 (Nat.le_refl _)
    go_wp2_with fail
    refine (same hi4 hi3').mono ?_
    rintro e w5 ⟨rfl, m, rfl⟩
    rw [decide_eq_true rfl]
    go_wp2_with fail
    refine (awake (h4.drewN m).bel).mono ?_
    rintro e w6 ⟨rfl, hb6⟩
    go_wp2_with fail
    go_ret
    exact ⟨rfl, hb6⟩
end Go.Proofs.Ytgkiknkifleofaa.tm
