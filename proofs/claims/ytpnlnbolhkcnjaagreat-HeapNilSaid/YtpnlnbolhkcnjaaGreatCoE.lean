
/- Slices of words and of marks in memory; where the objects of an area begin: the ref's Begins, and scan. Conditions: as said. -/
import Derived.Test.YtpnlnbolhkcnjaaGreatWordsC
import Derived.Test.YtpnlnbolhkcnjaaGreatCoD
import Derived.Test.YtpnlnbolhkcnjaaGreatMem
import Derived.Deep.QuietTactic
import Derived.BigQuiet
import Derived.WalkSpells
import Derived.StillTailTactics
import Derived.Outline
import Derived.IntWalk
import Derived.OwnWalk
import Derived.Laws.OwnMore
namespace Go.Proofs.YtpnlnbolhkcnjaaGreat.cl
open Go.RowKit mem words
set_option linter.unusedVariables false
set_option linter.unusedSimpArgs false
set_option maxHeartbeats 1000000
set_option maxRecDepth 100000

/-- a slice that reads as a list -/
def RowAt {α : Type} (enc : α → Value) (w : World) (B : Nat) (v : Value) (l : List α) : Prop :=
  ∃ p c, v = .slice p l.length c ∧ l.length ≤ c ∧ c ≤ maxLen ∧ (l ≠ [] → ∃ g o, p = some ⟨g, o, none⟩ ∧ g < B ∧ ∀ j, (h : j < l.length) → w.cell? ⟨g, o + j, none⟩ = some (enc l[j]))
theorem RowAt.same {α : Type} {enc : α → Value} {w w' : World} {B : Nat} {v : Value} {l : List α} (h : RowAt enc w B v l) (hs : ∀ g, g < B → w'.heap[g]? = w.heap[g]?) : RowAt enc w' B v l := by
  obtain ⟨p, c, e, h1, h2, h3⟩ := h
  refine ⟨p, c, e, h1, h2, fun hn => ?_⟩
  obtain ⟨g, o, e', hg, hc⟩ := h3 hn
  exact ⟨g, o, e', hg, fun j hj => (World.cell?_of_block (w := w) (w' := w') (a := ⟨g, o + j, none⟩) (hs g hg)).trans (hc j hj)⟩
theorem RowAt.below {α : Type} {enc : α → Value} {w w' : World} {B B' : Nat} {v : Value} {l : List α} (h : RowAt enc w B v l) (hb : Below B' w w') (hB : B ≤ B') : RowAt enc w' B v l :=
  h.same fun g hg => hb.block g (by omega)
theorem RowAt.more {α : Type} {enc : α → Value} {w : World} {B B' : Nat} {v : Value} {l : List α} (h : RowAt enc w B v l) (hB : B ≤ B') : RowAt enc w B' v l := by
  obtain ⟨p, c, e, h1, h2, h3⟩ := h
  refine ⟨p, c, e, h1, h2, fun hn => ?_⟩
  obtain ⟨g, o, e', hg, hc⟩ := h3 hn
  exact ⟨g, o, e', by omega, hc⟩
def Wds (l : List Int) : Prop := ∀ x ∈ l, 0 ≤ x ∧ x ≤ 18446744073709551615
abbrev WAt (w : World) (B : Nat) (v : Value) (l : List Int) : Prop := RowAt (Value.int .u64) w B v l
abbrev FAt (w : World) (B : Nat) (v : Value) (l : List Bool) : Prop := RowAt Value.bool w B v l
theorem info4 : (Tryz.prog.info? 4).map (fun i => (i.zero, i.size, i.bytes)) = some (some (.bool false), 1, 1) := by kernel_rfl
theorem info34 : (Tryz.prog.info? 40).map (fun i => (i.zero, i.size, i.bytes)) = some (some (.int .u64 0), 1, 8) := by kernel_rfl
theorem row_lt {w : World} {base e size n cap g : Nat} {xs : List Value} (h : w.ownsRow base e size (.slice (some ⟨g, 0, none⟩) n cap) n xs) : g < w.heap.size := by
  rcases h.2 with ⟨h', _⟩ | ⟨g', cap', cur, h', _, hg, _⟩
  · simp at h'
  · simp only [Value.slice.injEq, Option.some.injEq, Addr.mk.injEq, and_true, true_and] at h'
    obtain ⟨rfl, rfl⟩ := h'
    exact (Array.getElem?_eq_some_iff.1 hg).1
/-- an owned row of marks -/
theorem own_flags {w : World} {base g n : Nat} {l : List Bool} (h : w.ownsRow base 4 1 (.slice (some ⟨g, 0, none⟩) n n) n (l.map Value.bool)) (hn : l.length = n) (hm : n ≤ 100000) : FAt w (g + 1) (.slice (some ⟨g, 0, none⟩) n n) l := by
  subst hn
  refine ⟨_, _, rfl, Nat.le_refl _, by unfold maxLen; omega, fun _ => ⟨g, 0, rfl, by omega, fun j hj => ?_⟩⟩
  rw [Nat.zero_add, h.cellAt j (by omega)]
  rw [List.getElem?_map, List.getElem?_eq_getElem hj]
  rfl
theorem hoN_rng (x : Int) (h : 0 ≤ x) : 0 ≤ hoN x ∧ hoN x ≤ 65535 := by
  unfold hoN
  split
  · rename_i hh
    unfold hoOk at hh
    have := of_decide_eq_true hh
    omega
  · omega
def BegPost (l : List Int) (w : World) (e : Ending) (w' : World) : Prop :=
  Below w.heap.size w w' ∧ w.heap.size < w'.heap.size ∧ ((∃ a, Objs l a ∧ e = .returned (.tuple #[.slice (some ⟨w.heap.size, 0, none⟩) l.length l.length, .bool true]) ∧ FAt w' w'.heap.size (.slice (some ⟨w.heap.size, 0, none⟩) l.length l.length) (marks a)) ∨
    ((¬ ∃ a, Objs l a) ∧ e = .returned (.tuple #[.slice none 0 0, .bool false])))
/-- the sizes that a round meets -/
theorem hok_cases (x : Int) : (¬ x % 4 = 0 ∧ hok x = true ∧ osz x = 2) ∨ (x % 4 = 0 ∧ hoOk x = true ∧ hok x = true ∧ osz x = 1 + (hoN x).toNat) ∨ (x % 4 = 0 ∧ hoOk x = false ∧ hok x = false) := by
  unfold hok osz
  by_cases h : x % 4 = 0
  · cases ho : hoOk x
    · exact .inr (.inr ⟨h, rfl, by simp [h]⟩)
    · exact .inr (.inl ⟨h, rfl, by simp, by rw [if_pos h]⟩)
  · exact .inl ⟨h, by simp [h], by rw [if_neg h]⟩
theorem begins59 (w : World) (B : Nat) (v : Value) (l : List Int) (hB : B ≤ w.heap.size) (h : WAt w B v l) (hw : Wds l) (hl : l.length ≤ 100000) : Calls Tryz.prog 126 #[v] w (BegPost l w) := by
  obtain ⟨p, c, rfl, hc1, hc2, hp⟩ := h
  obtain ⟨i0, hi0, hz0, hz1, hz2⟩ := info_parts info4
  have HP := Lib.hid hp
  have HW := Lib.hid hw
  clear hp hw
  go_enter Tryz.func126, Tryz.ntmps126
  go_wp2_with (at_make; refine wpList_make_full _ rfl _ _ 99 rfl w.heap.size 4 i0 (.bool false) 1 Tryz.underlying99 hi0 hz0 hz1 .i64 .i64 _ _ l.length rfl rfl rfl rfl (by rw [hz2]; omega) (by unfold maxLen; omega) (Nat.le_refl _) ?_; intro w1 hown hgrow)
  have HO : Hid (w1.ownsRow w.heap.size 4 1 (.slice (some ⟨w.heap.size, 0, none⟩) l.length l.length) l.length ((List.replicate l.length false).map Value.bool)) := Lib.hid (by simpa [toList_madeCells_one, Value.cells] using hown)
  have HB1 : Hid (Below w.heap.size w w1) := Lib.hid ((Below.refl _ _).grown hgrow (Nat.le_refl _) (fun k e => by simp at e))
  clear hown hgrow
  go_loopw [5, 6, 7, 8, 9] (fun a _ _ _ _ wr => ∃ (i : Nat) (out : List Bool), a = .int .i64 i ∧ i ≤ l.length ∧ Hid (Scn l i out) ∧ Hid (wr.ownsRow w.heap.size 4 1 (.slice (some ⟨w.heap.size, 0, none⟩) l.length l.length) l.length (out.map Value.bool)) ∧ Hid (Below w.heap.size w wr)) (fun a _ _ _ _ _ => l.length - (intOf a).toNat)
  case atStart => exact ⟨0, _, by go_num, Nat.zero_le _, Lib.hid (Scn.zero l), HO, HB1⟩
  case round =>
    obtain ⟨i, out, rfl, hil, HS, HOw, HBw⟩ := hrel
    clear HO HB1
    by_cases hlt : i < l.length
    · obtain ⟨g, o, rfl, hg, hc⟩ := HP.out (by intro e; subst e; simp at hlt)
      have hx := (HBw.out.cell (p := ⟨g, o + i, none⟩) (show g < w.heap.size by omega)).trans (hc i hlt)
      have hxr := HW.out _ (List.getElem_mem hlt)
      have hxe : l[i]? = some l[i] := List.getElem?_eq_getElem hlt
      generalize l[i] = x at hx hxr hxe
      have HX := Lib.hid hxe
      have hol : out.length = l.length := HS.out.len
      have hcb : wr.cell? ⟨w.heap.size, i, none⟩ = some (.bool (out[i]'(by omega))) := by
        rw [HOw.out.cellAt i (by omega), List.getElem?_map, List.getElem?_eq_getElem (by omega)]
        rfl
      generalize out[i]'(by omega) = b0 at hcb
      have hfz := HOw.out.frozenAt i
      obtain ⟨hst, hgr⟩ := HOw.out.stored i (.bool true)
      have HOw2 : Hid ((wr.setCell ⟨w.heap.size, i, none⟩ (.bool true)).ownsRow w.heap.size 4 1 (.slice (some ⟨w.heap.size, 0, none⟩) l.length l.length) l.length ((out.set i true).map Value.bool)) := Lib.hid (by rw [List.map_set]; exact hst)
      have HBw2 : Hid (Below w.heap.size w (wr.setCell ⟨w.heap.size, i, none⟩ (.bool true))) := Lib.hid (HBw.out.setCell (Nat.le_refl _) _)
      have hx2 : (wr.setCell ⟨w.heap.size, i, none⟩ (.bool true)).cell? ⟨g, o + i, none⟩ = some (.int .u64 x) := (World.cell?_of_block (w := wr) (a := ⟨g, o + i, none⟩) (Below.heap_setCell _ _ _ _ (show g ≠ w.heap.size by omega))).trans hx
      clear hst hgr hxe hc
      have hN := hoN_rng x hxr.1
      have HT := Lib.hid (fun W => RTag x hxr.1 hxr.2 W)
      have HH := Lib.hid (fun W => RHeaderOf x hxr.1 hxr.2 W)
      have ri : (0 : Int) ≤ (i : Int) := by omega
      rcases hok_cases x with ⟨h4, hk, hs⟩ | ⟨h4, ho, hk, hs⟩ | ⟨h4, ho, hk⟩
      · have q4 : (x % 4 == 0) = false := by simpa using h4
        have HK := Lib.hid hk
        have HSz := Lib.hid hs
        clear hk hs h4
        by_cases hf : 2 ≤ l.length - i
        · have q5 : decide ((l.length : Int) - (i : Int) < 2) = false := decide_eq_false (by omega)
          have HSn := Lib.hid (HS.out.step HX.out HK.out (by rw [HSz.out]; exact hf))
          go_wp2_with (go_at_call 20; refine (HT.out _).mono ?_; rintro e w' ⟨rfl, rfl⟩)
          go_roundw
          case rel => exact ⟨i + 2, out.set i true, by go_num, by omega, Lib.hid (by have := HSn.out; rwa [HSz.out] at this), HOw2, HBw2⟩
          case measure => simp [intOf]; omega
        · have q5 : decide ((l.length : Int) - (i : Int) < 2) = true := decide_eq_true (by omega)
          have HNo := Lib.hid (HS.out.fail HX.out (.inr (by rw [HSz.out]; omega)))
          go_wp2_with (go_at_call 20; refine (HT.out _).mono ?_; rintro e w' ⟨rfl, rfl⟩)
          go_ret2
          exact ⟨HBw2.out, row_lt HOw2.out, .inr ⟨HNo.out, rfl⟩⟩
      · have q4 : (x % 4 == 0) = true := by simpa using h4
        have HK := Lib.hid hk
        have HSz := Lib.hid hs
        have HHo := Lib.hid ho
        rw [ho] at HH
        clear hk hs h4 ho
        by_cases hf : 1 + (hoN x).toNat ≤ l.length - i
        · have q5 : decide ((l.length : Int) - (i : Int) < 1 + hoN x) = false := decide_eq_false (by omega)
          have HSn := Lib.hid (HS.out.step HX.out HK.out (by rw [HSz.out]; exact hf))
          have HNN := Lib.hid hN
          go_wp2_with (first | (go_at_call 20; refine (HT.out _).mono ?_; rintro e w' ⟨rfl, rfl⟩) | (go_at_call 182; refine (HH.out _).mono ?_; rintro e w' ⟨rfl, rfl⟩))
          go_roundw
          case rel => exact ⟨i + (1 + (hoN x).toNat), out.set i true, by rw [show ((i + (1 + (hoN x).toNat) : Nat) : Int) = (i : Int) + (1 + hoN x) by have := HNN.out; omega], by omega, Lib.hid (by have := HSn.out; rwa [HSz.out] at this), HOw2, HBw2⟩
          case measure => simp [intOf]; omega
        · have q5 : decide ((l.length : Int) - (i : Int) < 1 + hoN x) = true := decide_eq_true (by omega)
          have HNo := Lib.hid (HS.out.fail HX.out (.inr (by rw [HSz.out]; omega)))
          go_wp2_with (first | (go_at_call 20; refine (HT.out _).mono ?_; rintro e w' ⟨rfl, rfl⟩) | (go_at_call 182; refine (HH.out _).mono ?_; rintro e w' ⟨rfl, rfl⟩))
          go_ret2
          exact ⟨HBw2.out, row_lt HOw2.out, .inr ⟨HNo.out, rfl⟩⟩
      · have q4 : (x % 4 == 0) = true := by simpa using h4
        have HNo := Lib.hid (HS.out.fail HX.out (.inl hk))
        rw [ho] at HH
        clear hk h4 ho
        go_wp2_with (first | (go_at_call 20; refine (HT.out _).mono ?_; rintro e w' ⟨rfl, rfl⟩) | (go_at_call 182; refine (HH.out _).mono ?_; rintro e w' ⟨rfl, rfl⟩))
        go_ret2
        exact ⟨HBw2.out, row_lt HOw2.out, .inr ⟨HNo.out, rfl⟩⟩
    · obtain ⟨a, ha, rfl⟩ := HS.out.done hlt
      have HA := Lib.hid ha
      have hml : (marks a).length = l.length := HS.out.len
      have HFl := Lib.hid (own_flags HOw.out hml hl)
      clear ha hml
      go_wp2_with fail
      go_ret2
      exact ⟨HBw.out, row_lt HOw.out, .inl ⟨a, HA.out, rfl, HFl.out.more (row_lt HOw.out)⟩⟩
end Go.Proofs.YtpnlnbolhkcnjaaGreat.cl
