/- The walk of NamesKeeps: it returns true. Conditions: the lists are in memory that the call does not own. -/
import Derived.Test.YtlcabmkjacimnaaNamesK
namespace Go.Proofs.Ytlcabmkjacimnaa.names
open Go.RowKit mem
set_option linter.unusedVariables false
set_option linter.unusedSimpArgs false
set_option maxHeartbeats 2000000

/-! ### the plain law: what a list of puts keeps -/
def pf (L l : List ByteArray) (k : Nat) : List ByteArray := (l.take k).foldl putL L
theorem pf_succ (L l : List ByteArray) (k : Nat) (h : k < l.length) : pf L l (k + 1) = putL (pf L l k) l[k] := by
  unfold pf; rw [List.take_succ_eq_append_getElem h, List.foldl_append]; rfl
theorem ix_none {L : List ByteArray} {s : ByteArray} (h : ix L s = none) : s ∉ L := by
  unfold ix at h; rw [List.findIdx?_eq_none_iff] at h
  intro hs; have := h s hs; simp at this
theorem ix_of_mem {L : List ByteArray} {s : ByteArray} (h : s ∈ L) : (ix L s).isSome = true := by
  cases hx : ix L s with
  | none => exact absurd h (ix_none hx)
  | some i => rfl

structure Good (L : List ByteArray) : Prop where
  nodup : L.Nodup
  valid : ∀ s ∈ L, vName s = true
theorem good_put {L : List ByteArray} (h : Good L) (s : ByteArray) : Good (putL L s) := by
  unfold putL
  split
  · rename_i hv
    split
    · exact h
    · rename_i hx
      have hn := ix_none hx
      refine ⟨?_, ?_⟩
      · rw [List.nodup_append]
        exact ⟨h.nodup, by simp, fun a ha b hb => by simp at hb; subst hb; intro e; exact hn (e ▸ ha)⟩
      · intro t ht; rw [List.mem_append] at ht
        rcases ht with ht | ht
        · exact h.valid t ht
        · simp at ht; subst ht; exact hv
  · exact h
theorem pre_put (L : List ByteArray) (s : ByteArray) : L <+: putL L s := by
  unfold putL; split
  · split
    · exact List.prefix_refl _
    · exact List.prefix_append _ _
  · exact List.prefix_refl _
theorem mem_put (L : List ByteArray) (s : ByteArray) (hv : vName s = true) : s ∈ putL L s := by
  unfold putL; rw [if_pos hv]
  split
  · rename_i i hx; exact List.mem_of_getElem? (ix_lt hx).2
  · simp
theorem fold_good (l : List ByteArray) : ∀ L : List ByteArray, Good L → Good (l.foldl putL L) := by
  induction l with
  | nil => intro L h; exact h
  | cons s l ih => intro L h; exact ih _ (good_put h s)
theorem fold_pre (l : List ByteArray) : ∀ L : List ByteArray, L <+: l.foldl putL L := by
  induction l with
  | nil => intro L; exact List.prefix_refl _
  | cons s l ih => intro L; exact (pre_put L s).trans (ih _)
theorem fold_mem (l : List ByteArray) : ∀ (L : List ByteArray) (s : ByteArray), s ∈ l → vName s = true → s ∈ l.foldl putL L := by
  induction l with
  | nil => intro L s h; simp at h
  | cons t l ih =>
    intro L s h hv
    rcases List.mem_cons.1 h with rfl | h
    · exact (fold_pre l (putL L s)).subset (mem_put L s hv)
    · exact ih _ s h hv
theorem fold_len (l : List ByteArray) : ∀ L : List ByteArray, (l.foldl putL L).length ≤ L.length + l.length := by
  induction l with
  | nil => intro L; simp
  | cons s l ih => intro L; have := ih (putL L s); have := putL_len L s; simp only [List.foldl_cons, List.length_cons]; omega

theorem keeps_find {L1 L2 : List ByteArray} (hp : L1 <+: L2) (hg : Good L2) (k : Nat) (hk : k < L1.length) : findB L2 L1[k] = true ∧ findI L2 L1[k] = (k : Int) ∧ nameB L2 (k : Int) = true ∧ nameS L2 (k : Int) = L1[k] := by
  obtain ⟨r, rfl⟩ := hp
  have hk2 : k < (L1 ++ r).length := by simp; omega
  have hget : (L1 ++ r)[k] = L1[k] := by simp [List.getElem_append_left hk]
  have hx : ix (L1 ++ r) L1[k] = some k := by
    unfold ix; rw [List.findIdx?_eq_some_iff_getElem]
    refine ⟨hk2, by simp [hget], fun j hj => ?_⟩
    simp
    intro e
    have hj2 : j < L1.length := by omega
    have h1 : (L1 ++ r)[j] = (L1 ++ r)[k] := by rw [hget]; exact e.symm
    exact (List.pairwise_iff_getElem.1 hg.nodup) j k _ hk2 hj h1
  refine ⟨by unfold findB; rw [hx]; rfl, by unfold findI; rw [hx]; rfl, by unfold nameB; rw [decide_eq_true_eq]; omega, ?_⟩
  unfold nameS; rw [if_pos (by omega)]
  simp [List.getElem?_eq_getElem hk2, hget]
theorem keeps_valid {L2 : List ByteArray} (hg : Good L2) {s : ByteArray} (h : vName s = true → s ∈ L2) : findB L2 s = vName s := by
  unfold findB
  cases hv : vName s
  · cases hx : ix L2 s with
    | none => rfl
    | some i => have := hg.valid s (List.mem_of_getElem? (ix_lt hx).2); rw [hv] at this; cases this
  · exact ix_of_mem (h hv)

/-! ### the walk -/
/-- the call's own list may be written -/
def Wr (w : World) (p : Option Addr) (n : Nat) : Prop := ∀ i, i < n → ∃ g cur, p = some ⟨g, 0, none⟩ ∧ w.heap[g]? = some (.cells cur 9 (0, 0)) ∧ n ≤ cur.size
theorem Wr.ofRow {w : World} {base : Nat} {p : Option Addr} {c n : Nat} {xs : List Value} (h : w.ownsRow base 9 1 (.slice p n c) n xs) : Wr w p n := by
  intro i hi
  obtain ⟨hl, ⟨hv, hn⟩ | ⟨g, cap, cur, hv, hb, hh, hn, hm, hc, r⟩⟩ := h
  · omega
  · obtain ⟨rfl, rfl⟩ : p = some ⟨g, 0, none⟩ ∧ c = cap := by simpa using hv
    exact ⟨g, cur, rfl, hh, by omega⟩
theorem Wr.store {w : World} {g n i : Nat} (h : Wr w (some ⟨g, 0, none⟩) n) (v : Value) : Wr (w.setCell ⟨g, i, none⟩ v) (some ⟨g, 0, none⟩) n := by
  intro j hj
  obtain ⟨g', cur, hg, hh, hs⟩ := h j hj
  cases hg
  exact ⟨g, _, rfl, block_setCell _ _ _ _ _ _ _ hh, by simpa using hs⟩
theorem Wr.cell {w : World} {p : Option Addr} {n i : Nat} (h : Wr w p n) (hi : i < n) : ∃ g v, p = some ⟨g, 0, none⟩ ∧ w.cell? ⟨g, i, none⟩ = some v ∧ w.frozen? ⟨g, i, none⟩ = false := by
  obtain ⟨g, cur, hg, hh, hs⟩ := h i hi
  refine ⟨g, cur[i]'(by omega), hg, ?_, ?_⟩
  · simp only [World.cell?, hh]; simp
  · simp [World.frozen?, hh]

theorem touch_below {w w' : World} {S : Nat → Prop} {W : World} (ht : TouchB S w w') (hS : ∀ k, S k → W.heap.size ≤ k) (hb : Below W.heap.size W w) : Below W.heap.size W w' :=
  hb.trans (ht.below hS hb.size)

set_option maxRecDepth 100000 in
theorem lawKeeps (W : World) (pl : Option Addr) (l : List ByteArray) (cl : Nat) (hl : Strs W pl l) (hm : l.length ≤ maxLen) (pa : Option Addr) (r : List ByteArray) (ca : Nat) (ha : Strs W pa r) (hma : r.length ≤ maxLen) :
    Calls Try.prog 12 #[.slice pl l.length cl, .slice pa r.length ca] W fun e w' => e = .returned (.bool true) ∧ Below W.heap.size W w' := by
  unfold maxLen at hm hma
  have big : 300 < l.length ∨ (¬ 300 < l.length ∧ 300 < r.length) ∨ (¬ 300 < l.length ∧ ¬ 300 < r.length) := by omega
  rcases big with h1 | ⟨h1, h2⟩ | ⟨h1, h2⟩
  · go_enter Try.func12, Try.ntmps12
    go_wp2_with (first | (go_at_call 31; refine (large _ _ _ _).mono ?_; rintro e w' ⟨rfl, rfl⟩) | (go_at_call 19; refine (awake _).mono ?_; rintro e w1 ⟨rfl, hb⟩))
    go_ret
    exact ⟨rfl, hb⟩
  · go_enter Try.func12, Try.ntmps12
    go_wp2_with (first | (go_at_call 31; refine (large _ _ _ _).mono ?_; rintro e w' ⟨rfl, rfl⟩) | (go_at_call 19; refine (awake _).mono ?_; rintro e w1 ⟨rfl, hb⟩))
    go_ret
    exact ⟨rfl, hb⟩
  have HL := Lib.hid hl; clear hl
  have HA := Lib.hid ha; clear ha
  go_enter Try.func12, Try.ntmps12
  go_wp2_with (go_at_call 31; refine (large _ _ _ _).mono ?_; rintro e w' ⟨rfl, rfl⟩)
  refine (new_own _ (Below.refl _ _)).mono ?_
  rintro e w0 ⟨rfl, hT0, hb0, -, -⟩
  go_wp2_with fail
  go_loopw [6] (fun i wr => ∃ (k : Nat) (p : Option Addr) (c : Nat), i = .int .i64 k ∧ k ≤ l.length ∧ Own W.heap.size wr (W.heap.size + 1) (pf [] l k) W.heap.size p c ∧ Below W.heap.size W wr) (fun i _ => l.length - (intOf i).toNat)
  case atStart => exact ⟨0, none, 0, rfl, Nat.zero_le _, hT0, hb0⟩
  case round =>
    obtain ⟨k, p, c, rfl, hk, hT, hb⟩ := hrel
    have hlen : (pf [] l k).length ≤ l.length := by have := fold_len (l.take k) []; simp only [List.length_nil, List.length_take] at this; unfold pf; omega
    by_cases hlt : k < l.length
    · obtain ⟨a1, rfl, _, e1⟩ := (HL.out.below hb) k hlt
      have hps := Lib.hid (pf_succ [] l k hlt)
      go_wp2_with fail
      refine (put_own hT _ (by omega) hb).mono ?_
      rintro e w2 ⟨rfl, p2, c2, hT2, hb2, -, -⟩
      go_wp2_with fail
      go_roundw
      case rel => exact ⟨k + 1, p2, c2, by go_num, by omega, by rw [hps.out]; exact hT2, hb2⟩
      case measure => simp [intOf]; omega
    · obtain rfl : k = l.length := by omega
      have hg1 := Lib.hid (fold_good (l.take l.length) [] ⟨by simp, by simp⟩)
      have hm1 := Lib.hid (fun s hs hv => fold_mem (l.take l.length) [] s hs hv)
      obtain ⟨L1, hL1⟩ : ∃ L1, L1 = pf [] l l.length := ⟨_, rfl⟩
      rw [← hL1] at hT hlen
      have HL1 := Lib.hid hL1; clear hL1
      go_wp2_with fail
      refine (All _ _ _ _ _ _ hT.tab (by omega) (by unfold maxLen; omega)).mono ?_
      rintro e w2 ⟨v, rfl, hv2, hb2⟩
      obtain ⟨pb, cb, rfl⟩ := row_shape hv2
      have hT2 := hT.below hb2
      go_wp2_with fail
      refine (All _ _ _ _ _ _ hT2.tab (by omega) (by unfold maxLen; omega)).mono ?_
      rintro e w3 ⟨v, rfl, hv3, hb3⟩
      obtain ⟨ps, cs, rfl⟩ := row_shape hv3
      have hT3 := hT2.below hb3
      have hW3 : Below W.heap.size W w3 := (hb.trans (hb2.mono hb.size)).trans (hb3.mono (by have := hb.size; have := hb2.size; omega))
      have hs3 : Strs w3 pb L1 := (Strs.ofRow hv2).below hb3
      have hpb : Hid (∀ a, pb = some a → wr.heap.size ≤ a.block ∧ a.block < w2.heap.size) := Lib.hid (fun a ha => by subst ha; exact hv2.lt _ rfl)
      have hps : Hid (∀ a, ps = some a → w2.heap.size ≤ a.block ∧ a.block < w3.heap.size) := Lib.hid (fun a ha => by subst ha; exact hv3.lt _ rfl)
      have hft : Hid (∀ k, foot (W.heap.size + 1) W.heap.size p k → W.heap.size ≤ k ∧ k < wr.heap.size) := Lib.hid (fun k hk => ⟨hT.new k hk, hT.tab.lt k hk⟩)
      have z2 := hb2.size
      have z3 := hb3.size
      have z1 := hb.size
      have hW := Wr.ofRow hv3
      clear hv2 hv3 hT hT2 hb3
      obtain ⟨wo, rfl⟩ : ∃ wo : World, wo = wr := ⟨_, rfl⟩
      go_wp2_with fail
      go_loopw [9] (fun i wr => ∃ k : Nat, i = .int .i64 k ∧ k ≤ L1.length ∧ Wr wr ps L1.length ∧ TouchB (fun b => ∃ a, ps = some a ∧ b = a.block) w3 wr) (fun i _ => L1.length - (intOf i).toNat)
      case atStart => exact ⟨0, rfl, Nat.zero_le _, hW, TouchB.refl _ _⟩
      case round =>
        obtain ⟨k, rfl, hk, hWr, ht⟩ := hrel
        by_cases hlt : k < L1.length
        · obtain ⟨g, v, rfl, hc, hf⟩ := hWr.cell hlt
          have HWr := Lib.hid hWr; clear hWr hW
          go_wp2_with fail
          go_roundw
          case rel => exact ⟨k + 1, by go_num, by omega, HWr.out.store _, ht.setCell _ _ (fun _ => ⟨_, rfl, rfl⟩)⟩
          case measure => simp [intOf]; omega
        · have hTr : Own W.heap.size wr (W.heap.size + 1) L1 W.heap.size p c := ⟨hT3.tab.touch ht (fun k hk ⟨a, ha, e⟩ => by have := hps.out a ha; have := hft.out k hk; omega), hT3.new⟩
          have hsr : Strs wr pb L1 := hs3.touch ht (fun a ha ⟨a', ha', e⟩ => by have := hps.out a' ha'; have := hpb.out a ha; omega)
          have hWrr : Below W.heap.size W wr := touch_below ht (fun k ⟨a, ha, e⟩ => by have := hps.out a ha; omega) hW3
          have zr := ht.size
          clear hWr hW hT3 hs3 hW3 ht
          obtain ⟨wp, rfl⟩ : ∃ wp : World, wp = wr := ⟨_, rfl⟩
          go_wp2_with fail
          go_loopw [10] (fun i wr => ∃ (k : Nat) (p' : Option Addr) (c' : Nat), i = .int .i64 k ∧ k ≤ r.length ∧ Own W.heap.size wr (W.heap.size + 1) (pf L1 r k) W.heap.size p' c' ∧ Strs wr pb L1 ∧ (∀ a, pb = some a → ¬ foot (W.heap.size + 1) W.heap.size p' a.block) ∧ wp.heap.size ≤ wr.heap.size ∧ Below W.heap.size W wr) (fun i _ => r.length - (intOf i).toNat)
          case atStart => exact ⟨0, p, c, rfl, Nat.zero_le _, hTr, hsr, (fun a ha hf => by have := hpb.out a ha; have := hft.out _ hf; omega), Nat.le_refl _, hWrr⟩
          case round =>
            obtain ⟨k, p', c', rfl, hk, hT, hs, hd, hz, hb⟩ := hrel
            have hlen2 : (pf L1 r k).length ≤ 600 := by have := fold_len (r.take k) L1; simp only [List.length_take] at this; unfold pf; omega
            have HD := Lib.hid hd; clear hd
            by_cases hlt : k < r.length
            · obtain ⟨a1, rfl, _, e1⟩ := (HA.out.below hb) k hlt
              have hpr := Lib.hid (pf_succ L1 r k hlt)
              go_wp2_with fail
              refine (put_own hT _ (by omega) hb).mono ?_
              rintro e w5 ⟨rfl, p5, c5, hT5, hb5, ht5, hf5⟩
              go_wp2_with fail
              go_roundw
              case rel =>
                refine ⟨k + 1, p5, c5, by go_num, by omega, by rw [hpr.out]; exact hT5, hs.touch ht5 (fun a ha => HD.out a ha), fun a ha hf => ?_, by have := ht5.size; omega, hb5⟩
                rcases hf5 _ hf with h | h
                · exact HD.out a ha h
                · have := hpb.out a ha; omega
              case measure => simp [intOf]; omega
            · obtain rfl : k = r.length := by omega
              have hg2 : Good (pf L1 r r.length) := fold_good _ _ (by rw [HL1.out]; exact hg1.out)
              have hp2 : L1 <+: pf L1 r r.length := fold_pre _ _
              have hle : L1.length ≤ (pf L1 r r.length).length := hp2.length_le
              have hmem : Hid (∀ s ∈ l, vName s = true → s ∈ pf L1 r r.length) := Lib.hid (fun s hs' hv => hp2.subset (by rw [HL1.out]; exact hm1.out s (by rw [List.take_length]; exact hs') hv))
              generalize hL2 : pf L1 r r.length = L2 at *
              have HL2 := Lib.hid hL2; clear hL2
              have hdl : decide (L2.length < L1.length) = false := by simp; omega
              have HG := Lib.hid hg2; clear hg2
              have HP := Lib.hid hp2; clear hp2
              clear hTr hsr hWrr
              obtain ⟨wq, rfl⟩ : ∃ wq : World, wq = wr := ⟨_, rfl⟩
              go_wp2_with fail
              refine (Len _ _ _ _ _ _ hT.tab).mono ?_
              rintro e w6 ⟨rfl, rfl⟩
              go_wp2_with fail
              go_loopw [11] (fun i wr => ∃ k : Nat, i = .int .i64 k ∧ k ≤ L1.length ∧ wq = wr) (fun i _ => L1.length - (intOf i).toNat)
              case atStart => exact ⟨0, rfl, Nat.zero_le _, rfl⟩
              case round =>
                obtain ⟨k, rfl, hk, rfl⟩ := hrel
                by_cases hlt : k < L1.length
                · obtain ⟨a1, rfl, _, e1⟩ := hs k hlt
                  have HF := Lib.hid (keeps_find HP.out HG.out k hlt)
                  go_wp2_with fail
                  refine (Find _ _ _ _ _ _ hT.tab _).mono ?_
                  rintro e w7 ⟨rfl, rfl⟩
                  rw [HF.out.1, HF.out.2.1]
                  go_wp2_with fail
                  refine (Name _ _ _ _ _ _ hT.tab _ (by unfold maxLen; omega)).mono ?_
                  rintro e w7 ⟨rfl, rfl⟩
                  rw [HF.out.2.2.1, HF.out.2.2.2]
                  go_wp2_with fail
                  go_roundw
                  case rel => exact ⟨k + 1, by go_num, by omega, trivial⟩
                  case measure => simp [intOf]; omega
                · go_wp2_with fail
                  go_loopw [16] (fun i wr => ∃ k : Nat, i = .int .i64 k ∧ k ≤ l.length ∧ Below wq.heap.size wq wr) (fun i _ => l.length - (intOf i).toNat)
                  case atStart => exact ⟨0, rfl, Nat.zero_le _, Below.refl _ _⟩
                  case round =>
                    obtain ⟨i, rfl, hi, hbi⟩ := hrel
                    have hbW := hb.trans (hbi.mono hb.size)
                    by_cases hit : i < l.length
                    · obtain ⟨a1, rfl, _, e1⟩ := (HL.out.below hbW) i hit
                      have HV := Lib.hid (keeps_valid HG.out (hmem.out l[i] (List.getElem_mem _)))
                      go_wp2_with fail
                      refine (Find _ _ _ _ _ _ (hT.tab.below hbi) _).mono ?_
                      rintro e w7 ⟨rfl, rfl⟩
                      rw [HV.out]
                      go_wp2_with fail
                      refine (Valid _ _).mono ?_
                      rintro e w8 ⟨rfl, hb8⟩
                      go_wp2_with fail
                      go_roundw
                      case rel => exact ⟨i + 1, by go_num, by omega, hbi.trans (hb8.mono hbi.size)⟩
                      case measure => simp [intOf]; omega
                    · go_wp2_with fail
                      refine (awake _).mono ?_
                      rintro e w8 ⟨rfl, hb8⟩
                      go_wp2_with fail
                      go_ret
                      exact ⟨rfl, hbW.trans (hb8.mono hbW.size)⟩
end Go.Proofs.Ytlcabmkjacimnaa.names
