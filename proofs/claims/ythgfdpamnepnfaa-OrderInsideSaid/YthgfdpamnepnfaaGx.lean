/- Several texts in one, one behind the other: ToJ, ToK, ToL. No condition beyond theirs. -/
import Derived.Test.YthgfdpamnepnfaaGs
import Derived.Test.YthgfdpamnepnfaaGq
import Derived.Test.YthgfdpamnepnfaaGw
import Derived.Test.YthgfdpamnepnfaaGv
/- slices.CompactFunc at terms. Conditions: as said. -/
namespace Go.Proofs.Ythgfdpamnepnfaa.tm
open Go.RowKit mem names
set_option linter.unusedVariables false
set_option linter.unusedSimpArgs false
set_option maxHeartbeats 1000000
set_option maxRecDepth 100000

variable {α : Type} {enc : α → TF × Value} {w0 wr w : World} {b n cap : Nat} {d : List α} {S : α → Prop} {c : α → α → Int}
/-- of equal neighbours the first alone, among the first k -/
def uniqP (c : α → α → Int) (d : List α) : Nat → List α
  | 0 => []
  | 1 => d.take 1
  | k + 2 => uniqP c d (k + 1) ++ (match d[k + 1]?, d[k]? with | some x, some y => if c x y = 0 then [] else [x] | _, _ => [])
theorem uniqP_keep {k : Nat} {x y : α} (h1 : d[k + 1]? = some x) (h2 : d[k]? = some y) (h : c x y ≠ 0) : uniqP c d (k + 2) = uniqP c d (k + 1) ++ [x] := by
  show uniqP c d (k + 1) ++ _ = _
  rw [h1, h2]; simp [h]
theorem uniqP_skip {k : Nat} {x y : α} (h1 : d[k + 1]? = some x) (h2 : d[k]? = some y) (h : c x y = 0) : uniqP c d (k + 2) = uniqP c d (k + 1) := by
  show uniqP c d (k + 1) ++ _ = _
  rw [h1, h2]; simp [h]
theorem uniqP_le : ∀ k, (uniqP c d k).length ≤ k
  | 0 => by simp [uniqP]
  | 1 => by simp [uniqP]; omega
  | k + 2 => by
    have := uniqP_le (k + 1)
    show (uniqP c d (k + 1) ++ _).length ≤ _
    rw [List.length_append]
    split
    · split <;> simp <;> omega
    · simp; omega
theorem uniqP_mem : ∀ k, ∀ x ∈ uniqP c d k, x ∈ d
  | 0 => fun x h => by simp [uniqP] at h
  | 1 => fun x h => List.mem_of_mem_take h
  | k + 2 => fun x h => by
    have h' : x ∈ uniqP c d (k + 1) ++ _ := h
    rcases List.mem_append.1 h' with h' | h'
    · exact uniqP_mem (k + 1) x h'
    · split at h'
      · rename_i a b h1 h2
        split at h'
        · simp at h'
        · simp at h'; subst h'; exact List.mem_of_getElem? h1
      · simp at h'
def CInv (c : α → α → Int) (enc : α → TF × Value) (w0 wr : World) (b n cap : Nat) (d : List α) (k i : Nat) : Prop :=
  ∃ Q, RowW enc w0 wr b n cap Q ∧ Q.take k = uniqP c d i ∧ Q.drop (i - 1) = d.drop (i - 1) ∧ (uniqP c d i).length = k
def CPost (c : α → α → Int) (enc : α → TF × Value) (w0 : World) (b n cap : Nat) (d : List α) (e : Ending) (w' : World) : Prop :=
  ∃ m, m = (uniqP c d n).length ∧ e = .returned (.slice (some ⟨b, 0, none⟩) m cap) ∧ TouchB (fun k => k = b) w0 w' ∧ w'.ownsRow 0 24 9 (.slice (some ⟨b, 0, none⟩) n cap) n (flatR ((uniqP c d n).map enc ++ List.replicate (n - m) (zeroF, nilV)))
theorem CInv.elt {k i : Nat} (h : CInv c enc w0 wr b n cap d k i) (hi : 1 ≤ i) (hin : i < d.length) :
    ∃ x y, d[i]? = some x ∧ d[i - 1]? = some y ∧ Cells wr b (i * 9) (enc x).1 (enc x).2 ∧ Cells wr b ((i - 1) * 9) (enc y).1 (enc y).2 ∧ (∀ o, wr.frozen? ⟨b, o, none⟩ = false) ∧ b < wr.heap.size ∧ TouchB (fun k => k = b) w0 wr := by
  obtain ⟨Q, h1, h2, h3, h4⟩ := h
  have hg : ∀ j, i - 1 ≤ j → Q[j]? = d[j]? := fun j hj => by
    have := congrArg (fun l => l[j - (i - 1)]?) h3
    simp only [List.getElem?_drop] at this
    rwa [show i - 1 + (j - (i - 1)) = j by omega] at this
  have e1 := List.getElem?_eq_getElem hin
  have e2 := List.getElem?_eq_getElem (l := d) (i := i - 1) (by omega)
  have q1 := (hg i (by omega)).trans e1
  have q2 := (hg (i - 1) (by omega)).trans e2
  have cg : ∀ {j : Nat} {x : α}, Q[j]? = some x → Cells wr b (j * 9) (enc x).1 (enc x).2 := fun {j x} hj => by
    obtain ⟨a1, a2⟩ := List.getElem?_eq_some_iff.1 hj
    have := h1.cells j a1
    rwa [a2] at this
  exact ⟨_, _, e1, e2, cg q1, cg q2, fun o => h1.frozen o, h1.lt, h1.touch⟩
theorem CInv.below {k i : Nat} {w' : World} (h : CInv c enc w0 wr b n cap d k i) (hb : Below wr.heap.size wr w') : CInv c enc w0 w' b n cap d k i := by
  obtain ⟨Q, h1, h2⟩ := h
  exact ⟨Q, h1.below hb h1.touch.size, h2⟩
theorem CInv.skip {k i : Nat} {x y : α} (h : CInv c enc w0 wr b n cap d k i) (hi : 1 ≤ i) (hx : d[i]? = some x) (hy : d[i - 1]? = some y) (hc : c x y = 0) : CInv c enc w0 wr b n cap d k (i + 1) := by
  obtain ⟨j, rfl⟩ : ∃ j, i = j + 1 := ⟨i - 1, by omega⟩
  obtain ⟨Q, h1, h2, h3, h4⟩ := h
  have e := uniqP_skip (c := c) hx hy hc
  refine ⟨Q, h1, by rw [e]; exact h2, ?_, by rw [e]; exact h4⟩
  have := congrArg (List.drop 1) h3
  simpa [List.drop_drop] using this
theorem CInv.keep {k i : Nat} {x y : α} (h : CInv c enc w0 wr b n cap d k i) (hi : 1 ≤ i) (hki : k < i) (hx : d[i]? = some x) (hy : d[i - 1]? = some y) (hc : c x y ≠ 0) : CInv c enc w0 (set9 wr b (k * 9) (enc x).1 (enc x).2) b n cap d (k + 1) (i + 1) := by
  obtain ⟨j, rfl⟩ : ∃ j, i = j + 1 := ⟨i - 1, by omega⟩
  obtain ⟨Q, h1, h2, h3, h4⟩ := h
  have hl := congrArg List.length h3
  simp at hl
  have hjd := (List.getElem?_eq_some_iff.1 hx).1
  have e := uniqP_keep (c := c) hx hy hc
  refine ⟨Q.set k x, h1.set k (by omega) x, ?_, ?_, by rw [e]; simp [h4]⟩
  · rw [e, ← h2, List.take_add_one, List.take_set_of_le (Nat.le_refl _), List.getElem?_set_self (by omega)]
    rfl
  · rw [List.drop_set_of_lt (by omega)]
    have := congrArg (List.drop 1) h3
    simpa [List.drop_drop] using this
/-- all has been looked at: what is behind is cleared -/
theorem CInv.clear {k : Nat} (h : CInv c enc w0 wr b n cap d k n) (hn : n = d.length) (hkn : k < n) : ∃ cur, wr.heap[b]? = some (.cells cur 24 (0, 0)) ∧ k * 9 + (n - k) * 9 ≤ cur.size ∧ k ≤ cap ∧ n ≤ cap ∧
    (TouchB (fun k => k = b) w0 (wr.setRow b (cur.toList.take (k * 9) ++ flatR (List.replicate (n - k) (zeroF, nilV)) ++ cur.toList.drop (k * 9 + (n - k) * 9)).toArray) ∧ (wr.setRow b (cur.toList.take (k * 9) ++ flatR (List.replicate (n - k) (zeroF, nilV)) ++ cur.toList.drop (k * 9 + (n - k) * 9)).toArray).ownsRow 0 24 9 (.slice (some ⟨b, 0, none⟩) n cap) n (flatR ((uniqP c d n).map enc ++ List.replicate (n - k) (zeroF, nilV)))) := by
  obtain ⟨Q, h1, h2, h3, h4⟩ := h
  have hQ := h1.len
  rcases h1.own.2 with ⟨h', _⟩ | ⟨g', cap', cur, h', hbg, hg, hc1, hm, hs, ht⟩
  · simp at h'
  · simp only [Value.slice.injEq, Option.some.injEq, Addr.mk.injEq, and_true, true_and] at h'
    obtain ⟨rfl, rfl⟩ := h'
    refine ⟨cur, hg, by omega, by omega, hc1, (h1.touch.trans (setRow_touch _ _ _) (fun _ _ e => e)), ?_, ?_⟩
    · rw [flatR_len]; simp; omega
    · have hlt : b < wr.heap.size := h1.lt
      refine .inr ⟨b, cap, _, rfl, Nat.zero_le _, setRow_heap wr b cur _ 24 (0, 0) hg, hc1, hm, ?_, ?_⟩
      · have hl := flatR_len (List.replicate (n - k) (zeroF, nilV))
        simp only [List.length_replicate] at hl
        simp [hl, hs]; omega
      · have ek : (flatR (Q.map enc)).take (k * 9) = flatR ((uniqP c d n).map enc) := by
          rw [← h2, List.map_take]
          have : flatR (Q.map enc) = flatR ((Q.map enc).take k) ++ flatR ((Q.map enc).drop k) := by rw [← flatR_append, List.take_append_drop]
          rw [this, List.take_append_of_le_length (by rw [flatR_len]; simp; omega), List.take_of_length_le (by rw [flatR_len]; simp; omega)]
        have et : cur.toList.take (k * 9) = flatR ((uniqP c d n).map enc) := by
          rw [← ek, ← ht, List.take_take, Nat.min_eq_left (by omega)]
        rw [et, flatR_append]
        have hl := flatR_len (List.replicate (n - k) (zeroF, nilV))
        have hl2 := flatR_len ((uniqP c d n).map enc)
        simp only [List.length_replicate, List.length_map] at hl hl2
        rw [List.take_append_of_le_length (by simp [hl, hl2, h4]; omega), List.take_of_length_le (by simp [hl, hl2, h4]; omega)]
theorem CInv.frozen {k i : Nat} (h : CInv c enc w0 wr b n cap d k i) (o : Nat) : wr.frozen? ⟨b, o, none⟩ = false := by
  obtain ⟨Q, h1, _⟩ := h
  exact h1.frozen o
theorem CInv.atq {k i q : Nat} (h : CInv c enc w0 wr b n cap d k i) (hq : q < n) (hd : n ≤ d.length) : ∃ f u, Cells wr b (q * 9) f u := by
  obtain ⟨Q, h1, _⟩ := h
  exact ⟨_, _, h1.cells q (by rw [h1.len]; exact hq)⟩
set_option maxHeartbeats 8000000 in
theorem compact (hsh : ∀ x, S x → ∃ p m k, (enc x).2 = .slice p m k) (hC : ∀ W x y, TouchB (fun k => k = b) w0 W → S x → S y → Calls Try.prog 46 #[aggV (enc x).1 (enc x).2, aggV (enc y).1 (enc y).2] W (BPost (decide (c x y = 0)) W)) (hS : ∀ x ∈ d, S x) (h : RowW enc w0 w b n cap d) (hn : n ≤ 1000000) :
    Calls Try.prog 45 #[.slice (some ⟨b, 0, none⟩) n cap, .func (.func 46) #[] #[]] w (CPost c enc w0 b n cap d) := by
  have hlen := h.len
  have hroom := h.room
  by_cases h2 : n < 2
  · have hu : uniqP c d n = d := by
      have : n = 0 ∨ n = 1 := by omega
      rcases this with h0 | h0
      · subst h0; rw [List.eq_nil_of_length_eq_zero hlen]; rfl
      · subst h0
        show d.take 1 = d
        rw [List.take_of_length_le (by omega)]
    have HP : Hid (CPost c enc w0 b n cap d (.returned (.slice (some ⟨b, 0, none⟩) n cap)) w) := Lib.hid ⟨n, by rw [hu, hlen], rfl, h.touch, by rw [hu]; simpa using h.own⟩
    have q0 : (n : Int) < 2 := by omega
    clear hu hlen h hS hC hsh hroom
    go_enter Try.func45, Try.ntmps45
    go_wp2_with fail
    go_ret
    exact HP.out
  have HStart : Hid (uniqP c d 1 = d.take 1) := Lib.hid rfl
  have HRow0 := Lib.hid h
  have HSh := Lib.hid hsh
  have HCall := Lib.hid hC
  have HSd := Lib.hid hS
  have HLen := Lib.hid hlen
  have hcap : n ≤ cap := hroom.1
  have hcap2 : cap ≤ 9223372036854775807 := by have := hroom.2; unfold maxLen at this; omega
  have HSkip1 : Hid (∀ k x y, 1 ≤ k → uniqP c d k = d.take k → d[k]? = some x → d[k - 1]? = some y → c x y ≠ 0 → uniqP c d (k + 1) = d.take (k + 1)) := Lib.hid (fun k x y h1 h2 h3 h4 h5 => by
    obtain ⟨j, rfl⟩ : ∃ j, k = j + 1 := ⟨k - 1, by omega⟩
    rw [uniqP_keep h3 h4 h5, h2, List.take_add_one (i := j + 1), h3]; rfl)
  have HFull : Hid (∀ wr, RowW enc w0 wr b n cap d → uniqP c d n = d.take n → CPost c enc w0 b n cap d (.returned (.slice (some ⟨b, 0, none⟩) n cap)) wr) := Lib.hid (fun wr hr hu => by
    have e : d.take n = d := List.take_of_length_le (by omega)
    rw [e] at hu
    exact ⟨n, by rw [hu, hlen], rfl, hr.touch, by rw [hu]; simpa using hr.own⟩)
  clear hlen h hS hC hsh hroom
  have q0 : ¬ ((n : Int) < 2) := by omega
  go_enter Try.func45, Try.ntmps45
  go_wp2_with fail
  go_loopw [5] (fun s wr => ∃ k : Nat, s = .int .i64 k ∧ 1 ≤ k ∧ k ≤ n ∧ Hid (uniqP c d k = d.take k) ∧ Hid (RowW enc w0 wr b n cap d)) (fun s _ => n - (intOf s).toNat)
  case atStart => exact ⟨1, by go_num, by omega, by omega, HStart, HRow0⟩
  case round =>
    obtain ⟨k, rfl, h1k, hkn, HU, HR⟩ := hrel
    by_cases hlt : k < n
    · obtain ⟨kp, hkp⟩ : ∃ kp, k - 1 = kp := ⟨_, rfl⟩
      have r0 : (k : Int) - 1 = (kp : Int) := by omega
      have CI : CInv c enc w0 wr b n cap d k k := ⟨d, HR.out, HU.out.symm, rfl, by rw [HU.out, List.length_take, HLen.out]; omega⟩
      obtain ⟨x, y, hx, hy, hcx, hcy, hfz, hbl, htb⟩ := CI.elt h1k (by rw [HLen.out]; exact hlt)
      have HX := Lib.hid hx
      have HY := Lib.hid hy
      have hSx := HSd.out x (List.mem_of_getElem? hx)
      have hSy := HSd.out y (List.mem_of_getElem? hy)
      have HC := Lib.hid (HCall.out wr.drew x y (htb.drewN 1) hSx hSy)
      have HCI := Lib.hid CI
      rw [hkp] at hcy
      clear hx hy CI hfz
      have hsx := HSh.out x hSx
      have hsy := HSh.out y hSy
      obtain ⟨z, hz⟩ : ∃ z, c x y = z := ⟨_, rfl⟩
      have HZ := Lib.hid hz
      rw [hz] at HC
      clear hz
      obtain ⟨p1, m1, c1, ex⟩ := hsx
      obtain ⟨p2, m2, c2, ey⟩ := hsy
      obtain ⟨X9, eX⟩ : ∃ X9, enc x = X9 := ⟨_, rfl⟩
      obtain ⟨Y9, eY⟩ : ∃ Y9, enc y = Y9 := ⟨_, rfl⟩
      have HEX := Lib.hid eX
      rw [eX] at hcx ex HC
      rw [eY] at hcy ey HC
      clear eX eY
      obtain ⟨⟨k1, i1, g1, n1, fn1, a1, by1, s1⟩, v1⟩ := X9
      obtain ⟨⟨k2, i2, g2, n2, fn2, a2, by2, s2⟩, v2⟩ := Y9
      dsimp only at hcx hcy HC ex ey
      subst ex
      subst ey
      have HA1 := Lib.hid hcx
      have HB1 := Lib.hid hcy
      unfold aggV BPost at HC
      dsimp only at HC
      obtain ⟨x0, x1, x2, x3, x4, x5, x6, x7, x8⟩ := hcx
      obtain ⟨y0, y1, y2, y3, y4, y5, y6, y7, y8⟩ := hcy
      dsimp only at x0 x1 x2 x3 x4 x5 x6 x7 x8 y0 y1 y2 y3 y4 y5 y6 y7 y8
      have r1 : (k : Int) < (n : Int) := by omega
      have r2 : (0 : Int) ≤ (k : Int) := by omega
      have r3 : (kp : Int) < (n : Int) := by omega
      have r4 : (0 : Int) ≤ (kp : Int) := by omega
      have r5 : IntKind.i64.wrap (kp : Int) = (kp : Int) := IntWalk.i64_in _ (by omega)
      clear hkp
      by_cases hz : z = 0
      · have qz : decide (z = 0) = true := decide_eq_true hz
        have HI2 : Hid (∀ w', Below wr.drew.heap.size wr.drew w' → CInv c enc w0 w' b n cap d k (k + 1)) := Lib.hid (fun w' hb => ((HCI.out.skip h1k HX.out HY.out (by rw [HZ.out]; exact hz)).below ((Below.drewN (Below.refl _ _) 1))).below hb)
        clear hz HCI
        go_wp2_with fail
        go_region_held3 (fun w' => (w'.cell? ⟨b, k * 9, none⟩ = some (.int .i64 k1) ∧ w'.cell? ⟨b, k * 9 + 1, none⟩ = some (.int .i64 i1) ∧ w'.cell? ⟨b, k * 9 + 1 + 1, none⟩ = some (.int .i64 g1) ∧ w'.cell? ⟨b, k * 9 + 1 + 1 + 1, none⟩ = some (.string n1) ∧ w'.cell? ⟨b, k * 9 + 1 + 1 + 1 + 1, none⟩ = some (.string fn1) ∧ w'.cell? ⟨b, k * 9 + 1 + 1 + 1 + 1 + 1, none⟩ = some (.int .i64 a1) ∧ w'.cell? ⟨b, k * 9 + 1 + 1 + 1 + 1 + 1 + 1, none⟩ = some (.slice p1 m1 c1) ∧ w'.cell? ⟨b, k * 9 + 1 + 1 + 1 + 1 + 1 + 1 + 1, none⟩ = some (.string by1) ∧ w'.cell? ⟨b, k * 9 + 1 + 1 + 1 + 1 + 1 + 1 + 1 + 1, none⟩ = some (.int .i64 s1)) ∧ w'.cell? ⟨b, kp * 9, none⟩ = some (.int .i64 k2) ∧ w'.cell? ⟨b, kp * 9 + 1, none⟩ = some (.int .i64 i2) ∧ w'.cell? ⟨b, kp * 9 + 1 + 1, none⟩ = some (.int .i64 g2) ∧ w'.cell? ⟨b, kp * 9 + 1 + 1 + 1, none⟩ = some (.string n2) ∧ w'.cell? ⟨b, kp * 9 + 1 + 1 + 1 + 1, none⟩ = some (.string fn2) ∧ w'.cell? ⟨b, kp * 9 + 1 + 1 + 1 + 1 + 1, none⟩ = some (.int .i64 a2) ∧ w'.cell? ⟨b, kp * 9 + 1 + 1 + 1 + 1 + 1 + 1, none⟩ = some (.slice p2 m2 c2) ∧ w'.cell? ⟨b, kp * 9 + 1 + 1 + 1 + 1 + 1 + 1 + 1, none⟩ = some (.string by2) ∧ w'.cell? ⟨b, kp * 9 + 1 + 1 + 1 + 1 + 1 + 1 + 1 + 1, none⟩ = some (.int .i64 s2)) (go_keep)
          (first
            | (go_at_call 46; (with_reducible refine HC.out.mono ?_); rintro e5 w5 ⟨rfl, hb5⟩; have HA5 := Lib.hid (HA1.out.same (hb5.block b hbl)); have HB5 := Lib.hid (HB1.out.same (hb5.block b hbl)); obtain ⟨z0, z1, z2, z3, z4, z5, z6, z7, z8⟩ := HA5.out; obtain ⟨t0, t1, t2, t3, t4, t5, t6, t7, t8⟩ := HB5.out; dsimp only at z0 z1 z2 z3 z4 z5 z6 z7 z8 t0 t1 t2 t3 t4 t5 t6 t7 t8))
        clear HC HA1 HB1 HA5 HB5 x0 x1 x2 x3 x4 x5 x6 x7 x8 y0 y1 y2 y3 y4 y5 y6 y7 y8
        have HI3 := Lib.hid (HI2.out w5 hb5)
        clear hb5 HI2 HR HU r1 r2 r3 r4 r5 r0 z0 z1 z2 z3 z4 z5 z6 z7 z8 t0 t1 t2 t3 t4 t5 t6 t7 t8
        obtain ⟨nk, hnk⟩ : ∃ nk, n - k = nk := ⟨_, rfl⟩
        have e0 : (k : Int) ≤ (n : Int) := by omega
        have e1 : (k : Int) ≤ (cap : Int) := by omega
        have e2 : (n : Int) - (k : Int) = (nk : Int) := by omega
        have e3 : (0 : Int) ≤ (k : Int) := by omega
        have e4 : k < cap := by omega
        have e6 : k + nk ≤ n := by omega
        have e7 : n ≤ k + nk := by omega
        go_wp2_with fail
        clear e0 e1 e2 e3
        obtain ⟨wo, rfl⟩ : ∃ wo : World, wo = wr := ⟨_, rfl⟩
        (try rw [hnk])
        go_loopw [5, 7] (fun s t wr => ∃ q j : Nat, s = .int .i64 q ∧ t = .int .i64 j ∧ 1 ≤ j ∧ k + j ≤ n ∧ q + 1 ≤ k + j ∧ Hid (CInv c enc w0 wr b n cap d q (k + j))) (fun _ t _ => n - (intOf t).toNat)
        case atStart => exact ⟨k, 1, rfl, by go_num, by omega, by omega, by omega, HI3⟩
        case round =>
          obtain ⟨q, j, rfl, rfl, hi1, hin, hqi, HI⟩ := hrel
          by_cases hj : k + j < n
          · obtain ⟨jp, hjp⟩ : ∃ jp, j - 1 = jp := ⟨_, rfl⟩
            have r0 : (j : Int) - 1 = (jp : Int) := by omega
            obtain ⟨x, y, hx, hy, hcx, hcy, hfz, hbl, htb⟩ := HI.out.elt (by omega) (by rw [HLen.out]; exact hj)
            have HX := Lib.hid hx
            have HY := Lib.hid hy
            have hSx := HSd.out x (List.mem_of_getElem? hx)
            have hSy := HSd.out y (List.mem_of_getElem? hy)
            have HC := Lib.hid (HCall.out wr.drew x y (htb.drewN 1) hSx hSy)
            rw [show (k + j) * 9 = k * 9 + j * 9 by omega] at hcx
            rw [show (k + j - 1) * 9 = k * 9 + jp * 9 by omega] at hcy
            clear hx hy hfz
            have hsx := HSh.out x hSx
            have hsy := HSh.out y hSy
            obtain ⟨z, hz⟩ : ∃ z, c x y = z := ⟨_, rfl⟩
            have HZ := Lib.hid hz
            rw [hz] at HC
            clear hz
            obtain ⟨p3, m3, c3, ex⟩ := hsx
            obtain ⟨p4, m4, c4, ey⟩ := hsy
            obtain ⟨X9, eX⟩ : ∃ X9, enc x = X9 := ⟨_, rfl⟩
            obtain ⟨Y9, eY⟩ : ∃ Y9, enc y = Y9 := ⟨_, rfl⟩
            have HEX := Lib.hid eX
            rw [eX] at hcx ex HC
            rw [eY] at hcy ey HC
            clear eX eY
            obtain ⟨⟨k3, i3, g3, n3, fn3, a3, by3, s3⟩, v1⟩ := X9
            obtain ⟨⟨k4, i4, g4, n4, fn4, a4, by4, s4⟩, v2⟩ := Y9
            dsimp only at hcx hcy HC ex ey
            subst ex
            subst ey
            have HA1 := Lib.hid hcx
            have HB1 := Lib.hid hcy
            unfold aggV BPost at HC
            dsimp only at HC
            obtain ⟨x0, x1, x2, x3, x4, x5, x6, x7, x8⟩ := hcx
            obtain ⟨y0, y1, y2, y3, y4, y5, y6, y7, y8⟩ := hcy
            dsimp only at x0 x1 x2 x3 x4 x5 x6 x7 x8 y0 y1 y2 y3 y4 y5 y6 y7 y8
            have r1 : (j : Int) < (nk : Int) := by omega
            have r2 : (0 : Int) ≤ (j : Int) := by omega
            have r3 : (jp : Int) < (nk : Int) := by omega
            have r4 : (0 : Int) ≤ (jp : Int) := by omega
            have r5 : IntKind.i64.wrap (jp : Int) = (jp : Int) := IntWalk.i64_in _ (by omega)
            have hqn : q < n := by omega
            clear hjp
            by_cases hz : z = 0
            · have qz : decide (z = 0) = true := decide_eq_true hz
              have HI2 : Hid (∀ w', Below wr.drew.heap.size wr.drew w' → CInv c enc w0 w' b n cap d q (k + (j + 1))) := Lib.hid (fun w' hb => ((HI.out.skip (by omega) HX.out HY.out (by rw [HZ.out]; exact hz)).below ((Below.drewN (Below.refl _ _) 1))).below hb)
              clear hz
              go_wp2_with fail
              go_region_held3 (fun w' => (w'.cell? ⟨b, k * 9 + j * 9, none⟩ = some (.int .i64 k3) ∧ w'.cell? ⟨b, k * 9 + j * 9 + 1, none⟩ = some (.int .i64 i3) ∧ w'.cell? ⟨b, k * 9 + j * 9 + 1 + 1, none⟩ = some (.int .i64 g3) ∧ w'.cell? ⟨b, k * 9 + j * 9 + 1 + 1 + 1, none⟩ = some (.string n3) ∧ w'.cell? ⟨b, k * 9 + j * 9 + 1 + 1 + 1 + 1, none⟩ = some (.string fn3) ∧ w'.cell? ⟨b, k * 9 + j * 9 + 1 + 1 + 1 + 1 + 1, none⟩ = some (.int .i64 a3) ∧ w'.cell? ⟨b, k * 9 + j * 9 + 1 + 1 + 1 + 1 + 1 + 1, none⟩ = some (.slice p3 m3 c3) ∧ w'.cell? ⟨b, k * 9 + j * 9 + 1 + 1 + 1 + 1 + 1 + 1 + 1, none⟩ = some (.string by3) ∧ w'.cell? ⟨b, k * 9 + j * 9 + 1 + 1 + 1 + 1 + 1 + 1 + 1 + 1, none⟩ = some (.int .i64 s3)) ∧ w'.cell? ⟨b, k * 9 + jp * 9, none⟩ = some (.int .i64 k4) ∧ w'.cell? ⟨b, k * 9 + jp * 9 + 1, none⟩ = some (.int .i64 i4) ∧ w'.cell? ⟨b, k * 9 + jp * 9 + 1 + 1, none⟩ = some (.int .i64 g4) ∧ w'.cell? ⟨b, k * 9 + jp * 9 + 1 + 1 + 1, none⟩ = some (.string n4) ∧ w'.cell? ⟨b, k * 9 + jp * 9 + 1 + 1 + 1 + 1, none⟩ = some (.string fn4) ∧ w'.cell? ⟨b, k * 9 + jp * 9 + 1 + 1 + 1 + 1 + 1, none⟩ = some (.int .i64 a4) ∧ w'.cell? ⟨b, k * 9 + jp * 9 + 1 + 1 + 1 + 1 + 1 + 1, none⟩ = some (.slice p4 m4 c4) ∧ w'.cell? ⟨b, k * 9 + jp * 9 + 1 + 1 + 1 + 1 + 1 + 1 + 1, none⟩ = some (.string by4) ∧ w'.cell? ⟨b, k * 9 + jp * 9 + 1 + 1 + 1 + 1 + 1 + 1 + 1 + 1, none⟩ = some (.int .i64 s4)) (go_keep)
                (first
                  | (go_at_call 46; (with_reducible refine HC.out.mono ?_); rintro e5 w5 ⟨rfl, hb5⟩; have HA5 := Lib.hid (HA1.out.same (hb5.block b hbl)); have HB5 := Lib.hid (HB1.out.same (hb5.block b hbl)); obtain ⟨z0, z1, z2, z3, z4, z5, z6, z7, z8⟩ := HA5.out; obtain ⟨t0, t1, t2, t3, t4, t5, t6, t7, t8⟩ := HB5.out; dsimp only at z0 z1 z2 z3 z4 z5 z6 z7 z8 t0 t1 t2 t3 t4 t5 t6 t7 t8))
              clear HC HA1 HB1 HA5 HB5 x0 x1 x2 x3 x4 x5 x6 x7 x8 y0 y1 y2 y3 y4 y5 y6 y7 y8
              have HI3 := Lib.hid (HI2.out w5 hb5)
              clear hb5 HI2 HI
              go_wp2_with fail
              go_roundw
              case rel => exact ⟨q, j + 1, rfl, by go_num, by omega, by omega, by omega, HI3⟩
              case measure => simp [intOf]; omega
            · have qz : decide (z = 0) = false := decide_eq_false hz
              have HI2 : Hid (∀ w', Below wr.drew.heap.size wr.drew w' → CInv c enc w0 w' b n cap d q (k + j)) := Lib.hid (fun w' hb => (HI.out.below ((Below.drewN (Below.refl _ _) 1))).below hb)
              have hzz : c x y ≠ 0 := by rw [HZ.out]; exact hz
              have HZZ := Lib.hid hzz
              clear hz hzz
              go_wp2_with fail
              go_region_held3 (fun w' => (w'.cell? ⟨b, k * 9 + j * 9, none⟩ = some (.int .i64 k3) ∧ w'.cell? ⟨b, k * 9 + j * 9 + 1, none⟩ = some (.int .i64 i3) ∧ w'.cell? ⟨b, k * 9 + j * 9 + 1 + 1, none⟩ = some (.int .i64 g3) ∧ w'.cell? ⟨b, k * 9 + j * 9 + 1 + 1 + 1, none⟩ = some (.string n3) ∧ w'.cell? ⟨b, k * 9 + j * 9 + 1 + 1 + 1 + 1, none⟩ = some (.string fn3) ∧ w'.cell? ⟨b, k * 9 + j * 9 + 1 + 1 + 1 + 1 + 1, none⟩ = some (.int .i64 a3) ∧ w'.cell? ⟨b, k * 9 + j * 9 + 1 + 1 + 1 + 1 + 1 + 1, none⟩ = some (.slice p3 m3 c3) ∧ w'.cell? ⟨b, k * 9 + j * 9 + 1 + 1 + 1 + 1 + 1 + 1 + 1, none⟩ = some (.string by3) ∧ w'.cell? ⟨b, k * 9 + j * 9 + 1 + 1 + 1 + 1 + 1 + 1 + 1 + 1, none⟩ = some (.int .i64 s3)) ∧ w'.cell? ⟨b, k * 9 + jp * 9, none⟩ = some (.int .i64 k4) ∧ w'.cell? ⟨b, k * 9 + jp * 9 + 1, none⟩ = some (.int .i64 i4) ∧ w'.cell? ⟨b, k * 9 + jp * 9 + 1 + 1, none⟩ = some (.int .i64 g4) ∧ w'.cell? ⟨b, k * 9 + jp * 9 + 1 + 1 + 1, none⟩ = some (.string n4) ∧ w'.cell? ⟨b, k * 9 + jp * 9 + 1 + 1 + 1 + 1, none⟩ = some (.string fn4) ∧ w'.cell? ⟨b, k * 9 + jp * 9 + 1 + 1 + 1 + 1 + 1, none⟩ = some (.int .i64 a4) ∧ w'.cell? ⟨b, k * 9 + jp * 9 + 1 + 1 + 1 + 1 + 1 + 1, none⟩ = some (.slice p4 m4 c4) ∧ w'.cell? ⟨b, k * 9 + jp * 9 + 1 + 1 + 1 + 1 + 1 + 1 + 1, none⟩ = some (.string by4) ∧ w'.cell? ⟨b, k * 9 + jp * 9 + 1 + 1 + 1 + 1 + 1 + 1 + 1 + 1, none⟩ = some (.int .i64 s4)) (go_keep)
                (first
                  | (go_at_call 46; (with_reducible refine HC.out.mono ?_); rintro e5 w5 ⟨rfl, hb5⟩; have HA5 := Lib.hid (HA1.out.same (hb5.block b hbl)); have HB5 := Lib.hid (HB1.out.same (hb5.block b hbl)); obtain ⟨z0, z1, z2, z3, z4, z5, z6, z7, z8⟩ := HA5.out; obtain ⟨t0, t1, t2, t3, t4, t5, t6, t7, t8⟩ := HB5.out; dsimp only at z0 z1 z2 z3 z4 z5 z6 z7 z8 t0 t1 t2 t3 t4 t5 t6 t7 t8))
              clear HC HA1 HB1 HA5 HB5 x0 x1 x2 x3 x4 x5 x6 x7 x8 y0 y1 y2 y3 y4 y5 y6 y7 y8
              have hI5 := HI2.out w5 hb5
              have hk5 := hI5.keep (by omega) (by omega) HX.out HY.out HZZ.out
              rw [HEX.out] at hk5
              unfold set9 at hk5
              dsimp only at hk5
              have HK5 := Lib.hid hk5
              obtain ⟨f6, u6, hc6⟩ := hI5.atq hqn (by rw [HLen.out]; omega)
              have hfz := fun o => hI5.frozen o
              obtain ⟨k6, i6, g6, n6, fn6, a6, by6, s6⟩ := f6
              obtain ⟨v0, v1, v2, v3, v4, v5, v6, v7, v8⟩ := hc6
              dsimp only at v0 v1 v2 v3 v4 v5 v6 v7 v8
              have r6 : (q : Int) < (n : Int) := by omega
              have r7 : (0 : Int) ≤ (q : Int) := by omega
              clear hb5 HI2 HI hI5 hk5 t0 t1 t2 t3 t4 t5 t6 t7 t8
              go_wp2_with fail
              go_roundw
              case rel => exact ⟨q + 1, j + 1, by go_num, by go_num, by omega, by omega, by omega, HK5⟩
              case measure => simp [intOf]; omega
          · have hkj : k + j = n := by omega
            have hI := HI.out
            rw [hkj] at hI
            obtain ⟨_, _, _, _, hml⟩ := hI
            have HML := Lib.hid hml
            obtain ⟨cur, c1, c2, c3, c4, c5, c6⟩ := (show CInv c enc w0 wr b n cap d q n by have := HI.out; rwa [hkj] at this).clear HLen.out.symm (by omega)
            have hcl := fun ty => clear24 wr b cur c1 (q * 9) (n - q) (cap - q) ty (by omega) c2
            have HT := Lib.hid c5
            have HO := Lib.hid c6
            generalize (cur.toList.take (q * 9) ++ flatR (List.replicate (n - q) (zeroF, nilV)) ++ cur.toList.drop (q * 9 + (n - q) * 9)).toArray = Z at *
            have e0 : (q : Int) ≤ (n : Int) := by omega
            have e1 : (q : Int) ≤ (cap : Int) := by omega
            have e3 : (0 : Int) ≤ (q : Int) := by omega
            have e4 : q < cap := by omega
            have e5 : ¬ ((j : Int) < (nk : Int)) := by omega
            have HFin : Hid (CPost c enc w0 b n cap d (.returned (.slice (some ⟨b, 0, none⟩) q cap)) (wr.setRow b Z)) := Lib.hid ⟨q, HML.out.symm, rfl, HT.out, HO.out⟩
            clear c1 c2 c3 c4 c5 c6 hml HML HT HO hkj HI
            go_wp2_with fail
            go_ret
            exact HFin.out
      · have qz : decide (z = 0) = false := decide_eq_false hz
        have HU2 := Lib.hid (HSkip1.out k x y h1k HU.out HX.out HY.out (by rw [HZ.out]; exact hz))
        clear hz HCI
        go_wp2_with fail
        go_region_held3 (fun w' => (w'.cell? ⟨b, k * 9, none⟩ = some (.int .i64 k1) ∧ w'.cell? ⟨b, k * 9 + 1, none⟩ = some (.int .i64 i1) ∧ w'.cell? ⟨b, k * 9 + 1 + 1, none⟩ = some (.int .i64 g1) ∧ w'.cell? ⟨b, k * 9 + 1 + 1 + 1, none⟩ = some (.string n1) ∧ w'.cell? ⟨b, k * 9 + 1 + 1 + 1 + 1, none⟩ = some (.string fn1) ∧ w'.cell? ⟨b, k * 9 + 1 + 1 + 1 + 1 + 1, none⟩ = some (.int .i64 a1) ∧ w'.cell? ⟨b, k * 9 + 1 + 1 + 1 + 1 + 1 + 1, none⟩ = some (.slice p1 m1 c1) ∧ w'.cell? ⟨b, k * 9 + 1 + 1 + 1 + 1 + 1 + 1 + 1, none⟩ = some (.string by1) ∧ w'.cell? ⟨b, k * 9 + 1 + 1 + 1 + 1 + 1 + 1 + 1 + 1, none⟩ = some (.int .i64 s1)) ∧ w'.cell? ⟨b, kp * 9, none⟩ = some (.int .i64 k2) ∧ w'.cell? ⟨b, kp * 9 + 1, none⟩ = some (.int .i64 i2) ∧ w'.cell? ⟨b, kp * 9 + 1 + 1, none⟩ = some (.int .i64 g2) ∧ w'.cell? ⟨b, kp * 9 + 1 + 1 + 1, none⟩ = some (.string n2) ∧ w'.cell? ⟨b, kp * 9 + 1 + 1 + 1 + 1, none⟩ = some (.string fn2) ∧ w'.cell? ⟨b, kp * 9 + 1 + 1 + 1 + 1 + 1, none⟩ = some (.int .i64 a2) ∧ w'.cell? ⟨b, kp * 9 + 1 + 1 + 1 + 1 + 1 + 1, none⟩ = some (.slice p2 m2 c2) ∧ w'.cell? ⟨b, kp * 9 + 1 + 1 + 1 + 1 + 1 + 1 + 1, none⟩ = some (.string by2) ∧ w'.cell? ⟨b, kp * 9 + 1 + 1 + 1 + 1 + 1 + 1 + 1 + 1, none⟩ = some (.int .i64 s2)) (go_keep)
          (first
            | (go_at_call 46; (with_reducible refine HC.out.mono ?_); rintro e5 w5 ⟨rfl, hb5⟩; have HA5 := Lib.hid (HA1.out.same (hb5.block b hbl)); have HB5 := Lib.hid (HB1.out.same (hb5.block b hbl)); obtain ⟨z0, z1, z2, z3, z4, z5, z6, z7, z8⟩ := HA5.out; obtain ⟨t0, t1, t2, t3, t4, t5, t6, t7, t8⟩ := HB5.out; dsimp only at z0 z1 z2 z3 z4 z5 z6 z7 z8 t0 t1 t2 t3 t4 t5 t6 t7 t8))
        clear HC HA1 HB1 HA5 HB5 x0 x1 x2 x3 x4 x5 x6 x7 x8 y0 y1 y2 y3 y4 y5 y6 y7 y8
        have HR5 := Lib.hid ((HR.out.drewN 1).below hb5 HR.out.touch.size)
        clear hb5 HR HU
        go_wp2_with fail
        go_roundw
        case rel => exact ⟨k + 1, by go_num, by omega, by omega, HU2, HR5⟩
        case measure => simp [intOf]; omega
    · obtain rfl : k = n := by omega
      have HF := Lib.hid (HFull.out wr HR.out HU.out)
      go_wp2_with fail
      go_ret
      exact HF.out
end Go.Proofs.Ythgfdpamnepnfaa.tm
/- order.Sort with its row, order.Unique. Conditions: the terms lie in memory; they are few enough. -/
namespace Go.Proofs.Ythgfdpamnepnfaa.tm
open Go.RowKit mem names
set_option linter.unusedVariables false
set_option linter.unusedSimpArgs false
set_option maxHeartbeats 1000000
set_option maxRecDepth 100000

def SRow {n : Nat} (l : List (Tm (n + 1))) (w : World) (e : Ending) (w1 : World) : Prop :=
  ∃ (w0 : World) (F : Nat → Prop) (es M : List (Tag n)), e = .returned (.slice (some ⟨w.heap.size, 0, none⟩) l.length l.length) ∧ w.heap.size < w0.heap.size ∧ Below w.heap.size w w0 ∧ (∀ g, F g → w.heap.size < g ∧ g < w0.heap.size) ∧ Typed w0 F ∧ (∀ x ∈ es, TagOK w0 F w.heap.size x) ∧ es.map (fun x => x.2.1) = l ∧ es.map (fun x => x.1) = List.range' 0 l.length ∧ M.Perm es ∧ M.Pairwise (tlt cmpT (fun x => x.1)) ∧ RowW encT w0 w1 w.heap.size l.length l.length M
set_option maxHeartbeats 4000000 in
theorem sortRowW {n N : Nat} (hst : StableS N) (w : World) (B : Nat) (v : Value) (l : List (Tm (n + 1))) (hB : B ≤ w.heap.size) (h1 : ItemsAt w B (n + 1) v l) (hs : nodesL (n + 1) l ≤ 100000000) (hN : l.length ≤ N) (hN2 : N ≤ 1000000) :
    Calls Try.prog 18 #[v] w (SRow l w) := by
  have ih : ∀ m, n + 1 = m + 1 → CopyS m := fun m _ => copyAll m
  have HSt := Lib.hid hst
  clear hst
  have hlen := nodes_len (n + 1) l
  obtain ⟨p, c, rfl, hc, hm⟩ := h1.shape
  have HP := Lib.hid (copyEl ih w B p l.length c l hB h1 hs)
  have hle : l.length ≤ 100000000 := by omega
  have hle2 : (l.length : Int) ≤ 100000000 := by omega
  have hmk := fun W => make24 W (l.length : Int) l.length rfl (by omega)
  have HS0 := Lib.hid hs
  have HN := Lib.hid hN
  clear ih h1 hs hlen hc hm hN
  obtain ⟨i0, hi0, hz0, hz1, hz2⟩ := info_parts info24
  go_enter Try.func18, Try.ntmps18
  go_wp2_with fail
  have HI : RowInv (EltL l) w (w.alloc (.cells (madeCells #[.int .i64 0, .int .i64 0, .int .i64 0, .string ⟨#[]⟩, .string ⟨#[]⟩, .int .i64 0, .slice none 0 0, .string ⟨#[]⟩, .int .i64 0] (l.length * 9)) 24)) l.length 0 [] (fun _ => False) := RowInv.start _ (by unfold maxLen; omega) (size_madeCells _ _)
  generalize (w.alloc (.cells (madeCells #[.int .i64 0, .int .i64 0, .int .i64 0, .string ⟨#[]⟩, .string ⟨#[]⟩, .int .i64 0, .slice none 0 0, .string ⟨#[]⟩, .int .i64 0] (l.length * 9)) 24)) = w0 at *
  go_loopw [3, 11] (fun s t wr => ∃ (k : Nat) (rs : List (TF × Value)) (F : Nat → Prop), s = .slice (some ⟨w.heap.size, 0, none⟩) k l.length ∧ t = .int .i64 k ∧ k ≤ l.length ∧ Hid (RowInv (EltL l) w wr l.length k rs F)) (fun _ t _ => l.length - (intOf t).toNat)
  case atStart => exact ⟨0, [], fun _ => False, rfl, rfl, by omega, Lib.hid HI⟩
  case round =>
    obtain ⟨k, rs, F, rfl, rfl, hk, HR⟩ := hrel
    by_cases hlt : k < l.length
    · obtain ⟨g, o, x, q, m, d, rfl, hg, hC, hCall⟩ := HP.out k hlt
      have HCall := Lib.hid hCall
      clear hCall
      have hC := hC.same (HR.out.below.block g hg)
      have hgr : g < wr.heap.size := Nat.lt_of_lt_of_le hg HR.out.below.size
      obtain ⟨x0, x1, x2, x3, x4, x5, x6, x7, x8⟩ := hC
      obtain ⟨kk, ii, gg, nm, fn, ar, by_, bt⟩ := x
      dsimp only at x0 x1 x2 x3 x4 x5 x6 x7 x8
      unfold EPost aggV at HCall
      dsimp only at HCall
      go_wp2_with fail
      have hb1 : Below wr.heap.size wr (wr.alloc (cells9 ⟨kk, ii, gg, nm, fn, ar, by_, bt⟩ (.slice q m d))) := (Below.refl _ _).alloc (Nat.le_refl _) _
      refine (HCall.out _ (HR.out.below.trans (hb1.mono HR.out.below.size))).mono ?_
      rintro e w2 ⟨F', g', rfl, hE, hin, hty, hpt, hb2⟩
      have hb2' : Below wr.heap.size wr w2 := hb1.trans (hb2.mono (by simp))
      have hb3 : Below w2.heap.size w2 (w2.alloc (cells9 ⟨kk, ii, gg, nm, fn, ar, by_, bt⟩ (.slice (some ⟨g', 0, none⟩) m m))) := (Below.refl _ _).alloc (Nat.le_refl _) _
      have hbw3 : Below wr.heap.size wr (w2.alloc (cells9 ⟨kk, ii, gg, nm, fn, ar, by_, bt⟩ (.slice (some ⟨g', 0, none⟩) m m))) := hb2'.trans (hb3.mono hb2'.size)
      have HS : ∀ g, F' g → (w2.alloc (cells9 ⟨kk, ii, gg, nm, fn, ar, by_, bt⟩ (.slice (some ⟨g', 0, none⟩) m m))).heap[g]? = w2.heap[g]? := fun g hg => hb3.block g (hin g hg).2
      have HE := Lib.hid (eltL_mono l w.heap.size _ _ _ _ _ _ _ HS (fun g hg => hb3.block g (Nat.lt_of_lt_of_le hg (Nat.le_trans HR.out.below.size hb2'.size))) (fun _ h => h) hE)
      have HPt := Lib.hid ((hpt w.heap.size (by have := HR.out.lt; simp; omega)).mono HS (fun _ h => h))
      have HTy := Lib.hid (hty.same HS)
      have HIn : Hid (∀ g, F' g → wr.heap.size ≤ g ∧ g < (w2.alloc (cells9 ⟨kk, ii, gg, nm, fn, ar, by_, bt⟩ (.slice (some ⟨g', 0, none⟩) m m))).heap.size) := Lib.hid (fun g hg => by have := hin g hg; simp at this ⊢; omega)
      have HOwn := Lib.hid (HR.out.ownAt hbw3)
      have HNC := Lib.hid (nine_cell w2 ⟨kk, ii, gg, nm, fn, ar, by_, bt⟩ (.slice (some ⟨g', 0, none⟩) m m))
      have HNO := Lib.hid (nine_one ⟨kk, ii, gg, nm, fn, ar, by_, bt⟩ (some ⟨g', 0, none⟩) m m)
      have HBW := Lib.hid hbw3
      clear hE hin hty hpt hb2 hb1 hb2' hb3 hbw3 HS
      unfold cells9 at HE HPt HTy HIn HOwn HNC HBW
      dsimp only at HE HPt HTy HIn HOwn HNC HBW
      go_wp2_with (at_builtin; refine wpList_append_fits rfl (.tmp 15) (.tmp 18) 22 rfl w.heap.size 24 i0 9 Try.underlying22 hi0 hz1 w.heap.size k l.length (flatR rs) rfl HOwn.out ⟨w2.heap.size, 0, none⟩ 1 1 (nineL ⟨kk, ii, gg, nm, fn, ar, by_, bt⟩ (.slice (some ⟨g', 0, none⟩) m m)) rfl rfl HNC.out HNO.out (by omega) ?_; intro w4 hown4 hg4)
      have HNext := Lib.hid (HR.out.next (eltL_mono l w.heap.size) HBW.out HE.out HPt.out HTy.out HIn.out hg4 hown4)
      go_roundw
      case rel => exact ⟨k + 1, _, _, rfl, by go_num, by omega, HNext⟩
      case measure => simp [intOf]; omega
    · obtain rfl : k = l.length := by omega
      have hr := HR.out
      have hns := fun j (h : j < l.length) => nodes_mem h
      obtain ⟨e, k1, k2, k3, k4⟩ := tagged (w := wr) (F := F) (g := w.heap.size) l rs 0 hr.len (fun j h h' => ⟨(hr.elt j h').1.2, (hr.elt j h').2, by have := hns j h; have := HS0.out; omega⟩)
      have hel : e.length = l.length := by rw [← k2]; simp
      have hrow : RowW encT wr wr w.heap.size l.length l.length e := ⟨by rw [k1]; exact row_base hr.own (fun k _ => Nat.zero_le _), hel, TouchB.refl _ _⟩
      have HC := Lib.hid (HSt.out _ encT wr wr w.heap.size l.length l.length (TagOK wr F w.heap.size) cmpT (fun x => x.1) e (tagCmp wr F w.heap.size hr.inr) (TP.mono (TP.comap (tpV (n := n)) (fun x : Tag n => x.2.1)) (fun _ _ => trivial)) k4 (tag_pairwise e (by rw [hel]; exact k3)) hrow HN.out)
      have HFin := Lib.hid (fun w1 M hp hs (hr1 : RowW encT wr w1 w.heap.size l.length l.length M) => (⟨wr, F, e, M, rfl, hr.lt, hr.below, hr.inr, hr.typed, k4, k2, k3, hp, hs, hr1⟩ : SRow l w (.returned (.slice (some ⟨w.heap.size, 0, none⟩) l.length l.length)) w1))
      clear hr hns k1 k2 k3 k4 hrow
      go_wp2_with fail
      refine HC.out.mono ?_
      rintro e1 w1 ⟨rfl, M, hp, hs1, hr1⟩
      have HF := Lib.hid (HFin.out w1 M hp hs1 (by simpa using hr1))
      clear hp hs1 hr1
      go_wp2_with fail
      go_ret
      obtain ⟨w0', F0, es0, M0, _, hrest⟩ := HF.out
      exact ⟨w0', F0, es0, M0, rfl, hrest⟩
noncomputable def uniqL {n : Nat} (l : List (Tm (n + 1))) : List (Tm (n + 1)) := uniqP cmpV l l.length
theorem uniqP_map {n : Nat} (M : List (Tag n)) : ∀ k, (uniqP cmpT M k).map (fun x => x.2.1) = uniqP cmpV (M.map (fun x => x.2.1)) k
  | 0 => rfl
  | 1 => by show (M.take 1).map _ = (M.map _).take 1; rw [List.map_take]
  | k + 2 => by
    show (uniqP cmpT M (k + 1) ++ _).map _ = uniqP cmpV (M.map _) (k + 1) ++ _
    rw [List.map_append, uniqP_map M (k + 1)]
    congr 1
    rw [List.getElem?_map, List.getElem?_map]
    cases M[k + 1]? with
    | none => rfl
    | some x => cases M[k]? with
      | none => rfl
      | some y =>
        show (if cmpV x.2.1 y.2.1 = 0 then _ else _ : List (Tag n)).map _ = if cmpV x.2.1 y.2.1 = 0 then _ else _
        split <;> rfl
theorem compact_new {n : Nat} {w w0 w2 : World} {F : Nat → Prop} {l : List (Tm (n + 1))} {es M : List (Tag n)} {m : Nat} (hw : w.heap.size < w0.heap.size) (hb : Below w.heap.size w w0) (hF : ∀ g, F g → w.heap.size < g ∧ g < w0.heap.size) (hty : Typed w0 F) (hok : ∀ x ∈ es, TagOK w0 F w.heap.size x) (hl : es.map (fun x => x.2.1) = l) (htag : es.map (fun x => x.1) = List.range' 0 l.length)
    (hp : M.Perm es) (hs : M.Pairwise (tlt cmpT (fun x => x.1))) (hm : m = (uniqP cmpT M l.length).length) (ht : TouchB (fun k => k = w.heap.size) w0 w2) (hr : w2.ownsRow 0 24 9 (.slice (some ⟨w.heap.size, 0, none⟩) l.length l.length) l.length (flatR ((uniqP cmpT M l.length).map encT ++ List.replicate (l.length - m) (zeroF, nilV)))) :
    NewAt w w2 (fun g => F g ∨ g = w.heap.size) (n + 1) (.slice (some ⟨w.heap.size, 0, none⟩) (uniqL (sortL l)).length l.length) (uniqL (sortL l)) ∧ m = (uniqL (sortL l)).length := by
  have hle : es.length = l.length := by rw [← hl]; simp
  have hM := tagged_sorted es M (by rw [hle]; exact htag) hp hs
  rw [hl] at hM
  have hml : M.length = l.length := by rw [hp.length_eq, hle]
  have hsl : (sortL l).length = l.length := sortL_len l
  obtain ⟨U, hU⟩ : ∃ U, uniqP cmpT M l.length = U := ⟨_, rfl⟩
  have hUL : uniqL (sortL l) = U.map (fun x => x.2.1) := by
    unfold uniqL
    rw [← hU, uniqP_map, hM, hsl]
  have hmem : ∀ x ∈ U, x ∈ es := fun x hx => hp.mem_iff.1 (uniqP_mem _ x (by rw [hU]; exact hx))
  rw [hU] at hm hr
  have hUm : (uniqL (sortL l)).length = m := by rw [hUL, hm]; simp
  have hmle : m ≤ l.length := by rw [hm, ← hU]; exact uniqP_le _
  have hsame : ∀ g, F g → w2.heap[g]? = w0.heap[g]? := fun g hg => ht.block g (hF g hg).2 (by have := (hF g hg).1; omega)
  have hlen : (U.map encT ++ List.replicate (l.length - m) ((zeroF, nilV) : TF × Value)).length = l.length := by simp; omega
  have hcells := fun j hj => row_cells hr hlen j hj
  have hcU : ∀ j, (hj : j < U.length) → Cells w2 w.heap.size (j * 9) U[j].2.1.f U[j].2.2 := fun j hj => by
    have := hcells j (by simp; omega)
    rw [List.getElem_append_left (by simpa using hj)] at this
    simpa [encT] using this
  refine ⟨⟨?_, fun g hg => ?_, ?_, fun g hg => ?_, ?_⟩, hUm.symm⟩
  · rcases hr.2 with ⟨h', _⟩ | ⟨g', cap', cur, h', hbg, hg', hnc, hcm, hcs, htake⟩
    · simp at h'
    · simp only [Value.slice.injEq, Option.some.injEq, Addr.mk.injEq, and_true, true_and] at h'
      obtain ⟨rfl, rfl⟩ := h'
      refine ⟨_, _, rfl, by omega, hcm, fun _ => ⟨_, 0, rfl, .inr rfl, fun j hj => ?_⟩⟩
      have hj' : j < U.length := by omega
      have ej : (uniqL (sortL l))[j] = U[j].2.1 := by simp only [hUL, List.getElem_map]
      refine ⟨U[j].2.2, ?_, ?_⟩
      · rw [ej, Nat.zero_add]; exact hcU j hj'
      · rw [ej]
        exact (hok U[j] (hmem _ (List.getElem_mem hj'))).1.mono hsame (fun _ h => .inl h)
  · have := ht.size
    rcases hg with hg | rfl
    · have := hF g hg; omega
    · omega
  · rcases hr.2 with ⟨h', _⟩ | ⟨g', cap', cur, h', hbg, hg, hnc, hcm, hcs, htake⟩
    · simp at h'
    · simp only [Value.slice.injEq, Option.some.injEq, Addr.mk.injEq, and_true, true_and] at h'
      obtain ⟨rfl, rfl⟩ := h'
      refine (hty.same hsame).add hg hcs fun j hj => ?_
      by_cases hj' : j < U.length
      · exact ⟨_, _, hcU j hj', (hok U[j] (hmem _ (List.getElem_mem hj'))).2.1.mono hsame (fun _ h => h)⟩
      · have := hcells j (by omega)
        rw [List.getElem_append_right (by simpa using hj')] at this
        rw [List.getElem_replicate] at this
        exact ⟨_, _, this, PtrOK.nil⟩
  · rcases hr.2 with ⟨h', _⟩ | ⟨g', cap', cur, h', hbg, hg', hnc, hcm, hcs, htake⟩
    · simp at h'
    · simp only [Value.slice.injEq, Option.some.injEq, Addr.mk.injEq, and_true, true_and] at h'
      obtain ⟨rfl, rfl⟩ := h'
      exact ⟨_, _, _, rfl, .inr ⟨_, 0, cur, _, by rw [Nat.zero_mul], .inr rfl, hg, hg', by omega, by omega⟩⟩
  · exact ⟨ht.os.trans hb.os, ht.tape.trans hb.tape, ht.output.trans hb.output, Nat.le_trans hb.size ht.size, fun k hk => (ht.block k (by omega) (by omega)).trans (hb.block k hk)⟩
def UPost {n : Nat} (l : List (Tm (n + 1))) (w : World) (e : Ending) (w' : World) : Prop := ∃ F g c, e = .returned (.slice (some ⟨g, 0, none⟩) l.length c) ∧ NewAt w w' F (n + 1) (.slice (some ⟨g, 0, none⟩) l.length c) l
theorem uniqueW {n N : Nat} (hst : StableS N) (w : World) (B : Nat) (v : Value) (l : List (Tm (n + 1))) (hB : B ≤ w.heap.size) (h1 : ItemsAt w B (n + 1) v l) (hs : nodesL (n + 1) l ≤ 100000000) (hN : l.length ≤ N) (hN2 : N ≤ 1000000) :
    Calls Try.prog 25 #[v] w (UPost (uniqL (sortL l)) w) := by
  have HS := Lib.hid (sortRowW hst w B v l hB h1 hs hN hN2)
  have HC : Hid (∀ w1, SRow l w (.returned (.slice (some ⟨w.heap.size, 0, none⟩) l.length l.length)) w1 → Calls Try.prog 45 #[.slice (some ⟨w.heap.size, 0, none⟩) l.length l.length, .func (.func 46) #[] #[]] w1 (UPost (uniqL (sortL l)) w)) := Lib.hid (by
    rintro w1 ⟨w0, F, es, M, _, a1, a2, a3, a4, a5, a6, a7, a8, a9, a10⟩
    have hcmp := tagCmp w0 F w.heap.size (n := n) a3
    refine (compact (S := TagOK w0 F w.heap.size) (c := cmpT) (enc := encT) (b := w.heap.size) (n := l.length) (cap := l.length) hcmp.shape (fun W x y ht hx hy => ?_) (fun x hx => a5 x (a8.mem_iff.1 hx)) a10 (by omega)).mono ?_
    · obtain ⟨p1, m1, c1, e1⟩ := hcmp.shape x hx
      obtain ⟨p2, m2, c2, e2⟩ := hcmp.shape y hy
      rw [e1, e2]
      refine uniqClosure _ _ _ _ _ _ _ _ _ W (fun W' hb => ?_)
      rw [← e1, ← e2]
      exact hcmp.call W' x y (ht.ofBelow hb (by have := ht.size; omega)) hx hy
    · rintro e w2 ⟨m, hm, rfl, ht, hr⟩
      obtain ⟨h1, h2⟩ := compact_new a1 a2 a3 a4 a5 a6 a7 a8 a9 hm ht hr
      exact ⟨_, _, _, by rw [h2], h1⟩)
  obtain ⟨p, c, rfl, hc, hm⟩ := h1.shape
  clear hst hB h1 hs hN hc hm
  go_enter Try.func25, Try.ntmps25
  go_wp2_with fail
  refine HS.out.mono ?_
  rintro e w1 hr
  have hr0 := hr
  obtain ⟨w0, F, es, M, rfl, _⟩ := hr0
  have HCC := Lib.hid (HC.out w1 hr)
  clear hr
  rename_i q1 
  clear q1
  go_wp2_with fail
  refine HCC.out.mono ?_
  rintro e w2 ⟨F2, g2, c2, rfl, hn⟩
  have HN := Lib.hid hn
  clear hn
  go_wp2_with fail
  go_ret
  exact ⟨F2, g2, c2, rfl, HN.out⟩
end Go.Proofs.Ythgfdpamnepnfaa.tm
/- stagehandref04.Unique. Conditions: the terms lie in memory; they are few enough. -/
namespace Go.Proofs.Ythgfdpamnepnfaa.tm
open Go.RowKit mem names
set_option linter.unusedVariables false
set_option linter.unusedSimpArgs false
set_option maxHeartbeats 1000000
set_option maxRecDepth 100000

theorem uniqL_zero {n : Nat} (A : List (Tm (n + 1))) : uniqP cmpV A 0 = [] := rfl
theorem uniqL_first {n : Nat} {A : List (Tm (n + 1))} {t : Tm (n + 1)} (h : A[0]? = some t) : uniqP cmpV A 1 = [] ++ [t] := by
  show A.take 1 = _
  cases A with
  | nil => simp at h
  | cons a A => simp at h; subst h; rfl
set_option maxHeartbeats 8000000 in
theorem RUnique {n : Nat} (w : World) (B : Nat) (v : Value) (l : List (Tm (n + 1))) (hB : B ≤ w.heap.size) (h1 : ItemsAt w B (n + 1) v l) (hs : nodesL (n + 1) l ≤ 100000000) : Calls Try.prog 26 #[v] w (RPost (uniqL (sortL l)) w) := by
  obtain ⟨i0, hi0, hz0, hz1, hz2⟩ := info_parts info24
  have HSort := Lib.hid (rsortW w B v l hB h1 hs)
  have hnl := nodes_len (n + 1) l
  have n1 : nodesL (n + 1) (sortL l) ≤ 100000000 := by rw [sortL_nodes]; omega
  have hsl := sortL_len l
  obtain ⟨A, hA⟩ : ∃ A, sortL l = A := ⟨_, rfl⟩
  rw [hA] at HSort n1 hsl ⊢
  have ha1 : A.length ≤ 100000000 := by omega
  have HN1 := Lib.hid (fun i t (hi : A[i]? = some t) => nodes_get hi)
  have HN1' := Lib.hid n1
  have HU : Hid (uniqL A = uniqP cmpV A A.length) := Lib.hid rfl
  obtain ⟨T, hT⟩ : ∃ T, uniqL A = T := ⟨_, rfl⟩
  rw [hT] at HU ⊢
  obtain ⟨p0, c0, rfl, _, _⟩ := h1.shape
  unfold RPost at HSort ⊢
  clear h1 hs hB hnl n1 hsl hA hT
  go_enter Try.func26, Try.ntmps26
  go_wp2_with fail
  refine HSort.out.mono ?_
  rintro e wc ⟨pa, ca, rfl, hIa, hbw⟩
  have HIA := Lib.hid hIa
  have HBW0 := Lib.hid hbw
  have HR0 : Hid (RRow (n := n) wc wc.heap.size wc.heap.size (.slice none 0 0) [] []) := Lib.hid (RRow.nil _ _ _)
  have HT0 : Hid (uniqP cmpV A 0 = []) := Lib.hid rfl
  clear hIa hbw HSort
  go_wp2_with fail
  go_loopw [4, 5] (fun s x wr => ∃ (i m : Nat) (O : List (Tm (n + 1))) (rs : List (TF × Value)) (p : Option Addr) (c : Nat), s = .slice p m c ∧ x = .int .i64 i ∧ i ≤ A.length ∧ m ≤ i ∧ Hid (uniqP cmpV A i = O) ∧ Hid (O.length = m) ∧ Hid (RRow wr wc.heap.size wc.heap.size (.slice p m c) rs O) ∧ Hid (Below wc.heap.size wc wr)) (fun _ x _ => A.length - (intOf x).toNat)
  case atStart => exact ⟨0, 0, [], [], none, 0, rfl, by go_num, by omega, by omega, HT0, Lib.hid rfl, HR0, Lib.hid (Below.refl _ _)⟩
  case round =>
    obtain ⟨i, m, O, rs, p, c', rfl, rfl, hia, hmi, HI, HOL, HR, HB⟩ := hrel
    by_cases h1 : i < A.length
    · obtain ⟨ga, oa, rfl, hla⟩ := HIA.out.addr (by omega)
      have HEA := Lib.hid (fun i (hi : i < A.length) => HIA.out.elt i hi)
      have hgla : ga < wr.heap.size := Nat.lt_of_lt_of_le hla HB.out.size
      have hbl := HB.out
      by_cases h0 : i = 0
      · subst h0
        obtain ⟨t1, x1, p1, m1, c1, hA1, hf1, hC1, hI1⟩ := HEA.out 0 (by omega)
        have HTf1 := Lib.hid hf1
        have HIt1 := Lib.hid hI1
        have HAt1 := Lib.hid hA1
        obtain ⟨k1, i1, g1, n1, fn1, a1, by1, s1⟩ := x1
        have hC1 := hC1.same (hbl.block ga hla)
        have HC1 := Lib.hid hC1
        obtain ⟨x0, x1, x2, x3, x4, x5, x6, x7, x8⟩ := hC1
        dsimp only at x0 x1 x2 x3 x4 x5 x6 x7 x8
        clear hA1 hf1 hI1
        clear hbl
        have HInv : Hid (uniqP cmpV A (0 + 1) = O ++ [t1]) := Lib.hid (by have := uniqL_first HAt1.out; rw [← HI.out]; exact this)
        have r1 : (0 : Int) < (A.length : Int) := by omega
        go_wp2_with fail
        go_big_region
        have HRW : Hid (RRow wr.drew wc.heap.size wc.heap.size (.slice p m c') rs O) := Lib.hid (HR.out.below (Below.drewN (Below.refl _ _) 1) HB.out.size)
        have HBW : Hid (Below wc.heap.size wc wr.drew) := Lib.hid (HB.out.drewN 1)
        clear HR HB
        have hC1 := HC1.out
        clear x0 x1 x2 x3 x4 x5 x6 x7 x8
        have HCd : Hid (Cells wr.drew ga (oa + 0 * 9) ⟨k1, i1, g1, n1, fn1, a1, by1, s1⟩ (.slice p1 m1 c1)) := Lib.hid (hC1.same rfl)
        clear hC1
        generalize wr.drew = w5 at *
        obtain ⟨x0, x1, x2, x3, x4, x5, x6, x7, x8⟩ := HCd.out
        dsimp only at x0 x1 x2 x3 x4 x5 x6 x7 x8
        simp only [Nat.zero_mul, Nat.add_zero] at x0 x1 x2 x3 x4 x5 x6 x7 x8
        have HRN := Lib.hid (HRW.out.below ((Below.refl _ w5).alloc (Nat.le_refl _) (cells9 ⟨k1, i1, g1, n1, fn1, a1, by1, s1⟩ (.slice p1 m1 c1))) HBW.out.size)
        have HM1 : Hid (m + 1 ≤ maxLen) := Lib.hid (by unfold maxLen; omega)
        have HM2 : Hid ((m + 1) * 112 ≤ 140737488355328) := Lib.hid (by omega)
        have HNC := Lib.hid (nine_cell w5 ⟨k1, i1, g1, n1, fn1, a1, by1, s1⟩ (.slice p1 m1 c1))
        have HNO := Lib.hid (nine_one ⟨k1, i1, g1, n1, fn1, a1, by1, s1⟩ p1 m1 c1)
        have HBA : Hid (Below wc.heap.size wc (w5.alloc (cells9 ⟨k1, i1, g1, n1, fn1, a1, by1, s1⟩ (.slice p1 m1 c1)))) := Lib.hid (HBW.out.alloc HBW.out.size _)
        have HEl := Lib.hid (HIt1.out.below HBA.out (Nat.le_refl _))
        have HOwn := Lib.hid HRN.out.1
        rw [HOL.out] at HOwn
        unfold cells9 at HRN HNC HEl HBA HOwn
        dsimp only at HRN HNC HEl HBA HOwn
        go_wp2_with (at_builtin; refine wpList_append_own_at _ rfl (.tmp 29) (.tmp 34) 22 rfl wc.heap.size 24 i0 (.agg #[.int .i64 0, .int .i64 0, .int .i64 0, .string ⟨#[]⟩, .string ⟨#[]⟩, .int .i64 0, .slice none 0 0, .string ⟨#[]⟩, .int .i64 0]) 9 112 Try.underlying22 hi0 hz0 hz1 hz2 rfl (by decide) (.slice p m c') m (flatR rs) rfl HOwn.out ⟨w5.heap.size, 0, none⟩ 1 1 (nineL ⟨k1, i1, g1, n1, fn1, a1, by1, s1⟩ (.slice p1 m1 c1)) rfl rfl HNC.out HNO.out HM1.out HM2.out HBA.out.size ?_; intro v' w4 hown4 hg4 _ _; have HR4 := Lib.hid (HRN.out.push1 HOL.out HTf1.out HEl.out (Nat.le_refl _) HBA.out.size hown4 hg4); have HB4 : Hid (Below wc.heap.size wc w4) := Lib.hid (HBA.out.grown hg4 HBA.out.size (fun k hk => HRN.out.own_ge k hk)); have HOL4 : Hid ((O ++ [t1]).length = m + 1) := Lib.hid (by simp [HOL.out]); obtain ⟨p4, c4, rfl⟩ := HR4.out.shape; rw [HOL4.out] at HR4 ⊢; clear hown4 hg4)
        go_roundw
        case rel => exact ⟨0 + 1, m + 1, _, _, p4, c4, by go_num, by go_num, by omega, by omega, HInv, HOL4, HR4, HB4⟩
        case measure => simp [intOf]; omega
      · obtain ⟨ip, hip⟩ : ∃ ip, i = ip + 1 := ⟨i - 1, by omega⟩
        have hip1 : ip < A.length := by omega
        obtain ⟨t1, x1, p1, m1, c1, hA1, hf1, hC1, hI1⟩ := HEA.out i (by omega)
        have HTf1 := Lib.hid hf1
        have HIt1 := Lib.hid hI1
        have HAt1 := Lib.hid hA1
        obtain ⟨k1, i1, g1, n1, fn1, a1, by1, s1⟩ := x1
        have hC1 := hC1.same (hbl.block ga hla)
        have HC1 := Lib.hid hC1
        obtain ⟨x0, x1, x2, x3, x4, x5, x6, x7, x8⟩ := hC1
        dsimp only at x0 x1 x2 x3 x4 x5 x6 x7 x8
        clear hA1 hf1 hI1
        obtain ⟨t2, x2, p2, m2, c2, hA2, hf2, hC2, hI2⟩ := HEA.out ip (by omega)
        have HTf2 := Lib.hid hf2
        have HIt2 := Lib.hid hI2
        have HAt2 := Lib.hid hA2
        obtain ⟨k2, i2, g2, n2, fn2, a2, by2, s2⟩ := x2
        have hC2 := hC2.same (hbl.block ga hla)
        have HC2 := Lib.hid hC2
        obtain ⟨y0, y1, y2, y3, y4, y5, y6, y7, y8⟩ := hC2
        dsimp only at y0 y1 y2 y3 y4 y5 y6 y7 y8
        clear hA2 hf2 hI2
        clear hbl
        have HCmp := Lib.hid (RCompare wr.drew wc.heap.size _ _ t2 t1 (HB.out.drewN 1).size (HIt2.out.below (HB.out.drewN 1) (Nat.le_refl _)) (HIt1.out.below (HB.out.drewN 1) (Nat.le_refl _)) (by have := HN1.out ip t2 HAt2.out; have := HN1'.out; omega) (by have := HN1.out i t1 HAt1.out; have := HN1'.out; omega))
        have HZ : Hid (cmpV t1 t2 = - cmpV t2 t1) := Lib.hid ((tpV (n := n)).anti t2 t1)
        have HK := Lib.hid (fun (hz : cmpV t2 t1 ≠ 0) => by
          have := uniqP_keep (c := cmpV) (d := A) (k := ip) (by rw [← hip]; exact HAt1.out) HAt2.out (by rw [HZ.out]; omega)
          rw [show ip + 2 = i + 1 by omega, show ip + 1 = i by omega, HI.out] at this
          exact this)
        have HS := Lib.hid (fun (hz : cmpV t2 t1 = 0) => by
          have := uniqP_skip (c := cmpV) (d := A) (k := ip) (by rw [← hip]; exact HAt1.out) HAt2.out (by rw [HZ.out]; omega)
          rw [show ip + 2 = i + 1 by omega, show ip + 1 = i by omega, HI.out] at this
          exact this)
        rw [HTf1.out, HTf2.out] at HCmp
        clear HZ
        generalize cmpV t2 t1 = z at *
        unfold aggV IPostC at HCmp
        dsimp only at HCmp
        have r0 : (i : Int) - 1 = (ip : Int) := by omega
        have r1 : (i : Int) < (A.length : Int) := by omega
        have r2 : (ip : Int) < (A.length : Int) := by omega
        have r3 : ((i : Int) == 0) = false := by have : ¬ (i : Int) = 0 := by omega
                                                 simpa using this
        have r5 : (0 : Int) ≤ (i : Int) := by omega
        have r6 : (0 : Int) ≤ (ip : Int) := by omega
        have r7 : IntKind.i64.wrap (ip : Int) = (ip : Int) := IntWalk.i64_in _ (by omega)
        have b1 : ip < i := by omega
        clear hip
        by_cases hz : z = 0
        · have q1 : (z != 0) = false := by simp [hz]
          have HInv := Lib.hid (HS.out hz)
          clear HS HK hz
          go_wp2_with fail
          go_region_held3 (fun w' => (w'.cell? ⟨ga, oa + i * 9, none⟩ = some (.int .i64 k1) ∧ w'.cell? ⟨ga, oa + i * 9 + 1, none⟩ = some (.int .i64 i1) ∧ w'.cell? ⟨ga, oa + i * 9 + 1 + 1, none⟩ = some (.int .i64 g1) ∧ w'.cell? ⟨ga, oa + i * 9 + 1 + 1 + 1, none⟩ = some (.string n1) ∧ w'.cell? ⟨ga, oa + i * 9 + 1 + 1 + 1 + 1, none⟩ = some (.string fn1) ∧ w'.cell? ⟨ga, oa + i * 9 + 1 + 1 + 1 + 1 + 1, none⟩ = some (.int .i64 a1) ∧ w'.cell? ⟨ga, oa + i * 9 + 1 + 1 + 1 + 1 + 1 + 1, none⟩ = some (.slice p1 m1 c1) ∧ w'.cell? ⟨ga, oa + i * 9 + 1 + 1 + 1 + 1 + 1 + 1 + 1, none⟩ = some (.string by1) ∧ w'.cell? ⟨ga, oa + i * 9 + 1 + 1 + 1 + 1 + 1 + 1 + 1 + 1, none⟩ = some (.int .i64 s1)) ∧ w'.cell? ⟨ga, oa + ip * 9, none⟩ = some (.int .i64 k2) ∧ w'.cell? ⟨ga, oa + ip * 9 + 1, none⟩ = some (.int .i64 i2) ∧ w'.cell? ⟨ga, oa + ip * 9 + 1 + 1, none⟩ = some (.int .i64 g2) ∧ w'.cell? ⟨ga, oa + ip * 9 + 1 + 1 + 1, none⟩ = some (.string n2) ∧ w'.cell? ⟨ga, oa + ip * 9 + 1 + 1 + 1 + 1, none⟩ = some (.string fn2) ∧ w'.cell? ⟨ga, oa + ip * 9 + 1 + 1 + 1 + 1 + 1, none⟩ = some (.int .i64 a2) ∧ w'.cell? ⟨ga, oa + ip * 9 + 1 + 1 + 1 + 1 + 1 + 1, none⟩ = some (.slice p2 m2 c2) ∧ w'.cell? ⟨ga, oa + ip * 9 + 1 + 1 + 1 + 1 + 1 + 1 + 1, none⟩ = some (.string by2) ∧ w'.cell? ⟨ga, oa + ip * 9 + 1 + 1 + 1 + 1 + 1 + 1 + 1 + 1, none⟩ = some (.int .i64 s2)) (go_keep)
            (first
              | (go_at_call 13; (with_reducible refine HCmp.out.mono ?_); rintro e5 w5 ⟨rfl, hb5⟩; have HA5 := Lib.hid (HC1.out.same (hb5.block ga hgla)); have HB5 := Lib.hid (HC2.out.same (hb5.block ga hgla)); obtain ⟨z0, z1, z2, z3, z4, z5, z6, z7, z8⟩ := HA5.out; obtain ⟨u0, u1, u2, u3, u4, u5, u6, u7, u8⟩ := HB5.out; dsimp only at z0 z1 z2 z3 z4 z5 z6 z7 z8 u0 u1 u2 u3 u4 u5 u6 u7 u8))
          have HRW : Hid (RRow w5 wc.heap.size wc.heap.size (.slice p m c') rs O) := Lib.hid ((HR.out.below (Below.drewN (Below.refl _ _) 1) HB.out.size).below hb5 (HB.out.drewN 1).size)
          have HBW : Hid (Below wc.heap.size wc w5) := Lib.hid ((HB.out.drewN 1).trans (hb5.mono (HB.out.drewN 1).size))
          clear hb5 HCmp HR HB x0 x1 x2 x3 x4 x5 x6 x7 x8 y0 y1 y2 y3 y4 y5 y6 y7 y8 HA5 HB5
          go_wp2_with fail
          go_roundw
          case rel => exact ⟨i + 1, m, O, rs, p, c', rfl, by go_num, by omega, by omega, HInv, HOL, HRW, HBW⟩
          case measure => simp [intOf]; omega
        · have q1 : (z != 0) = true := by simpa using hz
          have HInv := Lib.hid (HK.out hz)
          clear HS HK hz
          go_wp2_with fail
          go_region_held3 (fun w' => (w'.cell? ⟨ga, oa + i * 9, none⟩ = some (.int .i64 k1) ∧ w'.cell? ⟨ga, oa + i * 9 + 1, none⟩ = some (.int .i64 i1) ∧ w'.cell? ⟨ga, oa + i * 9 + 1 + 1, none⟩ = some (.int .i64 g1) ∧ w'.cell? ⟨ga, oa + i * 9 + 1 + 1 + 1, none⟩ = some (.string n1) ∧ w'.cell? ⟨ga, oa + i * 9 + 1 + 1 + 1 + 1, none⟩ = some (.string fn1) ∧ w'.cell? ⟨ga, oa + i * 9 + 1 + 1 + 1 + 1 + 1, none⟩ = some (.int .i64 a1) ∧ w'.cell? ⟨ga, oa + i * 9 + 1 + 1 + 1 + 1 + 1 + 1, none⟩ = some (.slice p1 m1 c1) ∧ w'.cell? ⟨ga, oa + i * 9 + 1 + 1 + 1 + 1 + 1 + 1 + 1, none⟩ = some (.string by1) ∧ w'.cell? ⟨ga, oa + i * 9 + 1 + 1 + 1 + 1 + 1 + 1 + 1 + 1, none⟩ = some (.int .i64 s1)) ∧ w'.cell? ⟨ga, oa + ip * 9, none⟩ = some (.int .i64 k2) ∧ w'.cell? ⟨ga, oa + ip * 9 + 1, none⟩ = some (.int .i64 i2) ∧ w'.cell? ⟨ga, oa + ip * 9 + 1 + 1, none⟩ = some (.int .i64 g2) ∧ w'.cell? ⟨ga, oa + ip * 9 + 1 + 1 + 1, none⟩ = some (.string n2) ∧ w'.cell? ⟨ga, oa + ip * 9 + 1 + 1 + 1 + 1, none⟩ = some (.string fn2) ∧ w'.cell? ⟨ga, oa + ip * 9 + 1 + 1 + 1 + 1 + 1, none⟩ = some (.int .i64 a2) ∧ w'.cell? ⟨ga, oa + ip * 9 + 1 + 1 + 1 + 1 + 1 + 1, none⟩ = some (.slice p2 m2 c2) ∧ w'.cell? ⟨ga, oa + ip * 9 + 1 + 1 + 1 + 1 + 1 + 1 + 1, none⟩ = some (.string by2) ∧ w'.cell? ⟨ga, oa + ip * 9 + 1 + 1 + 1 + 1 + 1 + 1 + 1 + 1, none⟩ = some (.int .i64 s2)) (go_keep)
            (first
              | (go_at_call 13; (with_reducible refine HCmp.out.mono ?_); rintro e5 w5 ⟨rfl, hb5⟩; have HA5 := Lib.hid (HC1.out.same (hb5.block ga hgla)); have HB5 := Lib.hid (HC2.out.same (hb5.block ga hgla)); obtain ⟨z0, z1, z2, z3, z4, z5, z6, z7, z8⟩ := HA5.out; obtain ⟨u0, u1, u2, u3, u4, u5, u6, u7, u8⟩ := HB5.out; dsimp only at z0 z1 z2 z3 z4 z5 z6 z7 z8 u0 u1 u2 u3 u4 u5 u6 u7 u8))
          have HRW : Hid (RRow w5 wc.heap.size wc.heap.size (.slice p m c') rs O) := Lib.hid ((HR.out.below (Below.drewN (Below.refl _ _) 1) HB.out.size).below hb5 (HB.out.drewN 1).size)
          have HBW : Hid (Below wc.heap.size wc w5) := Lib.hid ((HB.out.drewN 1).trans (hb5.mono (HB.out.drewN 1).size))
          clear hb5 HCmp HR HB x0 x1 x2 x3 x4 x5 x6 x7 x8 y0 y1 y2 y3 y4 y5 y6 y7 y8 HA5 HB5
          have HRN := Lib.hid (HRW.out.below ((Below.refl _ w5).alloc (Nat.le_refl _) (cells9 ⟨k1, i1, g1, n1, fn1, a1, by1, s1⟩ (.slice p1 m1 c1))) HBW.out.size)
          have HM1 : Hid (m + 1 ≤ maxLen) := Lib.hid (by unfold maxLen; omega)
          have HM2 : Hid ((m + 1) * 112 ≤ 140737488355328) := Lib.hid (by omega)
          have HNC := Lib.hid (nine_cell w5 ⟨k1, i1, g1, n1, fn1, a1, by1, s1⟩ (.slice p1 m1 c1))
          have HNO := Lib.hid (nine_one ⟨k1, i1, g1, n1, fn1, a1, by1, s1⟩ p1 m1 c1)
          have HBA : Hid (Below wc.heap.size wc (w5.alloc (cells9 ⟨k1, i1, g1, n1, fn1, a1, by1, s1⟩ (.slice p1 m1 c1)))) := Lib.hid (HBW.out.alloc HBW.out.size _)
          have HEl := Lib.hid (HIt1.out.below HBA.out (Nat.le_refl _))
          have HOwn := Lib.hid HRN.out.1
          rw [HOL.out] at HOwn
          unfold cells9 at HRN HNC HEl HBA HOwn
          dsimp only at HRN HNC HEl HBA HOwn
          go_wp2_with (at_builtin; refine wpList_append_own_at _ rfl (.tmp 29) (.tmp 34) 22 rfl wc.heap.size 24 i0 (.agg #[.int .i64 0, .int .i64 0, .int .i64 0, .string ⟨#[]⟩, .string ⟨#[]⟩, .int .i64 0, .slice none 0 0, .string ⟨#[]⟩, .int .i64 0]) 9 112 Try.underlying22 hi0 hz0 hz1 hz2 rfl (by decide) (.slice p m c') m (flatR rs) rfl HOwn.out ⟨w5.heap.size, 0, none⟩ 1 1 (nineL ⟨k1, i1, g1, n1, fn1, a1, by1, s1⟩ (.slice p1 m1 c1)) rfl rfl HNC.out HNO.out HM1.out HM2.out HBA.out.size ?_; intro v' w4 hown4 hg4 _ _; have HR4 := Lib.hid (HRN.out.push1 HOL.out HTf1.out HEl.out (Nat.le_refl _) HBA.out.size hown4 hg4); have HB4 : Hid (Below wc.heap.size wc w4) := Lib.hid (HBA.out.grown hg4 HBA.out.size (fun k hk => HRN.out.own_ge k hk)); have HOL4 : Hid ((O ++ [t1]).length = m + 1) := Lib.hid (by simp [HOL.out]); obtain ⟨p4, c4, rfl⟩ := HR4.out.shape; rw [HOL4.out] at HR4 ⊢; clear hown4 hg4)
          go_roundw
          case rel => exact ⟨i + 1, m + 1, _, _, p4, c4, by go_num, by go_num, by omega, by omega, HInv, HOL4, HR4, HB4⟩
          case measure => simp [intOf]; omega
    · obtain rfl : i = A.length := by omega
      have HE : Hid (O = T) := Lib.hid (by rw [HU.out, HI.out])
      have HItm := Lib.hid (HR.out.items HB.out.size)
      have HBF := Lib.hid (HBW0.out.trans (HB.out.mono HBW0.out.size))
      go_wp2_with fail
      go_ret
      exact ⟨p, c', by rw [← HE.out, HOL.out]; rfl, by rw [← HE.out, HOL.out]; exact HItm.out, HBF.out⟩
end Go.Proofs.Ythgfdpamnepnfaa.tm
