
/- The reference's split, IsTerm, Object, Follow. Conditions: as said. -/
import Derived.Test.YtpnlnbolhkcnjaaGreatCoN
namespace Go.Proofs.YtpnlnbolhkcnjaaGreat.cl
open Go.RowKit mem words
set_option linter.unusedVariables false
set_option linter.unusedSimpArgs false
set_option maxHeartbeats 2000000
set_option maxRecDepth 100000

theorem split_k7 (w : World) (B : Nat) (p : Option Addr) (c : Nat) (l : List Int) (hB : B ≤ w.heap.size) (h : WAt w B (.slice p l.length c) l) (hw : Wds l) (hl : l.length ≤ 100000) : Calls Tryz.prog 137 #[.int .i64 7, .slice p l.length c] w (SplitR 7 l w) := by
  have HBi := Lib.hid (bits121 w B p c l hB h hw hl)
  have HQ : Hid (fxd 7 l.length = l.length) := Lib.hid rfl
  unfold SplitR
  generalize fmd 7 l = r at *
  generalize fxd 7 l.length = q at *
  clear h hw
  go_enter Tryz.func137, Tryz.ntmps137
  go_wp2_with fail
  refine HBi.out.mono ?_
  rintro e w' ⟨rfl, rfl⟩
  go_wp2_with fail
  go_ret2
  exact ⟨_, rfl, fun _ => by rw [HQ.out], Below.refl _ _⟩
theorem split92 (w : World) (B : Nat) (p : Option Addr) (c : Nat) (k : Int) (l : List Int) (hB : B ≤ w.heap.size) (h : WAt w B (.slice p l.length c) l) (hw : Wds l) (hl : l.length ≤ 100000) (k0 : 0 ≤ k) (k8 : k ≤ 8) : Calls Tryz.prog 137 #[.int .i64 k, .slice p l.length c] w (SplitR k l w) := by
  have hk : k = 0 ∨ k = 1 ∨ k = 2 ∨ k = 3 ∨ k = 4 ∨ k = 5 ∨ k = 6 ∨ k = 7 ∨ k = 8 := by omega
  rcases hk with rfl | rfl | rfl | rfl | rfl | rfl | rfl | rfl | rfl
  · exact split_k0 w p c l
  · exact split_k1 w p c l
  · exact split_k2 w B p c l hB h hw
  · exact split_k3 w B p c l hB h hw
  · exact split_k4 w B p c l hB h hw
  · exact split_k5 w B p c l hB h hw
  · exact split_k6 w B p c l hB h hw
  · exact split_k7 w B p c l hB h hw hl
  · exact split_k8 w B p c l hB h hw
theorem BookAt.below {w w' : World} {B B' : Nat} {v1 v2 v3 v4 : Value} {m : Mm} {K : Bk} (h : BookAt w B v1 v2 v3 v4 m K) (hb : Below B' w w') (hB : B ≤ B') : BookAt w' B v1 v2 v3 v4 m K :=
  ⟨h.y.below hb hB, h.o.below hb hB, h.fy.below hb hB, h.fo.below hb hB, h.oy, h.oo, h.wy, h.wo, h.ly, h.lo⟩
theorem BookAt.more {w : World} {B B' : Nat} {v1 v2 v3 v4 : Value} {m : Mm} {K : Bk} (h : BookAt w B v1 v2 v3 v4 m K) (hB : B ≤ B') : BookAt w B' v1 v2 v3 v4 m K :=
  ⟨h.y.more hB, h.o.more hB, h.fy.more hB, h.fo.more hB, h.oy, h.oo, h.wy, h.wo, h.ly, h.lo⟩
theorem BookAt.form {w : World} {B : Nat} {v1 v2 v3 v4 : Value} {m : Mm} {K : Bk} (h : BookAt w B v1 v2 v3 v4 m K) : ∃ p1 c1 p2 c2 p3 c3 p4 c4, v1 = .slice p1 m.y.length c1 ∧ v2 = .slice p2 m.o.length c2 ∧ v3 = .slice p3 m.y.length c3 ∧ v4 = .slice p4 m.o.length c4 := by
  obtain ⟨p1, c1, e1, _⟩ := h.y
  obtain ⟨p2, c2, e2, _⟩ := h.o
  obtain ⟨p3, c3, e3, _⟩ := h.fy
  obtain ⟨p4, c4, e4, _⟩ := h.fo
  rw [marks_len h.oy.pos, h.oy.1] at e3
  rw [marks_len h.oo.pos, h.oo.1] at e4
  exact ⟨p1, c1, p2, c2, p3, c3, p4, c4, e1, e2, e3, e4⟩
theorem isTerm33 (w : World) (B : Nat) (v1 v2 v3 v4 : Value) (m : Mm) (K : Bk) (hB : B ≤ w.heap.size) (h : BookAt w B v1 v2 v3 v4 m K) (v : Int) (l0 : 0 ≤ v) (l1 : v ≤ 18446744073709551615) :
    Calls Tryz.prog 138 #[bookV v1 v2 m.at_ v3 v4, .int .u64 v] w fun e w' => ∃ b, e = .returned (.bool b) ∧ (b = true ↔ Tm K v) ∧ Below w.heap.size w w' := by
  have HO := Lib.hid (fun W (hb : Below w.heap.size w W) => object62 W B v1 v2 v3 v4 m K (Nat.le_trans hB hb.size) (h.below hb hB) v l0 l1)
  obtain ⟨p1, c1, p2, c2, p3, c3, p4, c4, rfl, rfl, rfl, rfl⟩ := h.form
  have HS := Lib.hid (fun W => RSmallOf v l0 l1 W)
  have HA := Lib.hid (fun W => RAtomOf v l0 l1 W)
  have HNil := Lib.hid (fun W => RNil W)
  have HT : Hid (Tm K v ↔ (soOk v = true ∨ aoOk v = true ∨ v = 11 ∨ ∃ x, Pt K v x)) := Lib.hid Iff.rfl
  have HB0 : Hid (Below w.heap.size w (w.alloc (.cells #[.slice p1 m.y.length c1, .slice p2 m.o.length c2, .int .i64 m.at_, .slice p3 m.y.length c3, .slice p4 m.o.length c4] 101))) := Lib.hid ((Below.refl _ _).alloc (Nat.le_refl _) _)
  unfold bookV ObR at *
  clear h
  generalize soOk v = S at *
  generalize aoOk v = A at *
  generalize soN v = sn at *
  generalize aoN v = an at *
  have fin : ∀ (b : Bool) (W : World), Below w.heap.size w W → (b = true ↔ Tm K v) → ∀ (N : Bool), N = decide (v = 11) → True := fun _ _ _ _ _ _ => trivial
  clear fin
  go_enter Tryz.func138, Tryz.ntmps138
  go_wp2_with fail
  refine (HS.out _).mono ?_
  rintro e w' ⟨rfl, rfl⟩
  go_wp2_with fail
  refine (HA.out _).mono ?_
  rintro e w' ⟨rfl, rfl⟩
  go_wp2_with fail
  refine (HO.out _ HB0.out).mono ?_
  rintro e W2 ⟨hb2, hob⟩
  have HB2 := Lib.hid (HB0.out.trans (hb2.mono HB0.out.size))
  have hform : ∃ (k : Int) (u : Value) (o : Bool) (ix : Int) (f : Bool), e = .returned (.tuple #[.int .i64 k, u, .bool o, .int .i64 ix, .bool f]) ∧ (∃ p n c, u = .slice p n c) ∧ (f = true ↔ ∃ x, Pt K v x) := by
    rcases hob with ⟨x, p, n, c, hx, rfl, _⟩ | ⟨hn, rfl⟩
    · exact ⟨_, _, _, _, true, rfl, ⟨_, _, _, rfl⟩, by simp; exact ⟨x, hx⟩⟩
    · exact ⟨_, _, _, _, false, rfl, ⟨_, _, _, rfl⟩, by simp; exact fun x hx => hn ⟨x, hx⟩⟩
  obtain ⟨k, u, o, ix, f, rfl, ⟨pu, nu, cu, rfl⟩, hf⟩ := hform
  have HF := Lib.hid hf
  clear hb2 hob hf
  cases S
  · cases A
    · by_cases h11 : v = 11
      · have HY : Hid (Tm K v) := Lib.hid (HT.out.2 (.inr (.inr (.inl h11))))
        have q : (v == 11) = true := by simpa using h11
        clear h11 HT HF HO HS HA
        go_wp2_with fail
        refine (HNil.out _).mono ?_
        rintro e w' ⟨rfl, rfl⟩
        go_wp2_with fail
        go_ret
        exact ⟨true, rfl, by simp [HY.out], HB2.out⟩
      · have q : (v == 11) = false := by simpa using h11
        have HY : Hid (f = true ↔ Tm K v) := Lib.hid (by rw [HF.out, HT.out]; simp [h11])
        clear h11 HT HF HO HS HA
        go_wp2_with fail
        refine (HNil.out _).mono ?_
        rintro e w' ⟨rfl, rfl⟩
        go_wp2_with fail
        go_ret
        exact ⟨f, rfl, HY.out, HB2.out⟩
    · have HY : Hid (Tm K v) := Lib.hid (HT.out.2 (.inr (.inl rfl)))
      clear HT HF HO HS HA
      go_wp2_with fail
      go_ret
      exact ⟨true, rfl, by simp [HY.out], HB2.out⟩
  · have HY : Hid (Tm K v) := Lib.hid (HT.out.2 (.inl rfl))
    clear HT HF HO HS HA
    go_wp2_with fail
    go_ret
    exact ⟨true, rfl, by simp [HY.out], HB2.out⟩
theorem obj66 (w : World) (B : Nat) (v1 v2 v3 v4 : Value) (m : Mm) (K : Bk) (hB : B ≤ w.heap.size) (h : BookAt w B v1 v2 v3 v4 m K) (v : Int) (l0 : 0 ≤ v) (l1 : v ≤ 18446744073709551615) (x : List Int) (hx : Pt K v x) :
    Calls Tryz.prog 127 #[bookV v1 v2 m.at_ v3 v4, .int .u64 v] w fun e w' => Below w.heap.size w w' ∧ ∃ p c, e = .returned (.tuple #[.int .i64 (knd x), .slice p (wds x).length c, .bool true]) ∧ WAt w' B (.slice p (wds x).length c) (wds x) := by
  have HO := Lib.hid (fun W (hb : Below w.heap.size w W) => object62B W B v1 v2 v3 v4 m K (Nat.le_trans hB hb.size) (h.below hb hB) v l0 l1)
  have HX := Lib.hid (fun y (hy : Pt K v y) => Pt.uniq (B := K) ⟨h.oy.pos, h.oo.pos⟩ hy hx)
  have HX' := Lib.hid hx
  obtain ⟨p1, c1, p2, c2, p3, c3, p4, c4, rfl, rfl, rfl, rfl⟩ := h.form
  have HB0 : Hid (Below w.heap.size w (w.alloc (.cells #[.slice p1 m.y.length c1, .slice p2 m.o.length c2, .int .i64 m.at_, .slice p3 m.y.length c3, .slice p4 m.o.length c4] 101))) := Lib.hid ((Below.refl _ _).alloc (Nat.le_refl _) _)
  unfold bookV ObB at *
  clear h hx
  go_enter Tryz.func127, Tryz.ntmps127
  go_wp2_with fail
  refine (HO.out _ HB0.out).mono ?_
  rintro e W2 ⟨hb2, hob⟩
  have HB2 := Lib.hid (HB0.out.trans (hb2.mono HB0.out.size))
  rcases hob with ⟨y, p, n, c, hy, rfl, hu⟩ | ⟨hn, rfl⟩
  · obtain rfl := HX.out y hy
    have hn : n = (wds y).length := by
      obtain ⟨_, _, e, _⟩ := hu
      simp only [Value.slice.injEq] at e
      exact e.2.1
    subst hn
    have HU := Lib.hid hu
    clear hb2 hy hu HX HX' HO
    go_wp2_with fail
    go_ret3
    exact ⟨HB2.out, _, _, rfl, HU.out⟩
  · exact absurd ⟨x, HX'.out⟩ hn
theorem fol_eq {x : List Int} (h : IsObj x) : (wds x).drop (fxd (knd x) (wds x).length) = fol x := by
  obtain ⟨y, r, rfl, hk, hl⟩ := h
  have e1 : wds (y :: r) = if y % 4 = 0 then r else y :: r := rfl
  have e2 : knd (y :: r) = if y % 4 = 0 then hoK y else 0 := rfl
  have e3 : fol (y :: r) = (y :: r).drop (if y % 4 ≠ 0 then 0 else if hoK y = 1 then 1 else if hoK y = 2 then 5 else (y :: r).length) := rfl
  rw [e1, e2, e3]
  unfold fxd
  by_cases h4 : y % 4 = 0
  · have ho : hoOk y = true := by
      unfold hok at hk
      simpa [h4] using hk
    have hk1 : 1 ≤ hoK y := by
      unfold hoK
      rw [if_pos ho]
      unfold hoOk at ho
      have := of_decide_eq_true ho
      omega
    rw [if_pos h4, if_pos h4, if_neg (show ¬ (y % 4 ≠ 0) by omega)]
    by_cases h1 : hoK y = 1
    · rw [if_pos (.inr h1), if_pos h1]
      rfl
    · rw [if_neg (by omega), if_neg h1]
      by_cases h2 : hoK y = 2
      · rw [if_pos h2, if_pos h2]
        show _ = r.drop 4
        by_cases hr : 4 ≤ r.length
        · rw [Nat.min_eq_left hr]
        · rw [Nat.min_eq_right (by omega), List.drop_length, List.drop_eq_nil_of_le (by omega)]
      · rw [if_neg h2, if_neg h2]
        simp
  · rw [if_neg h4, if_neg h4, if_pos h4]
    simp
theorem wds_len {x : List Int} (h : IsObj x) : (wds x).length ≤ x.length := by
  unfold wds
  split
  · rw [List.length_tail]; omega
  · exact Nat.le_refl _
theorem wds_mem {x : List Int} {v : Int} (h : v ∈ wds x) : v ∈ x := by
  unfold wds at h
  split at h
  · exact List.mem_of_mem_tail h
  · exact h
end Go.Proofs.YtpnlnbolhkcnjaaGreat.cl
