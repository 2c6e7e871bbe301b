
/- Where the objects of an area begin: heap's scan. Conditions: as said. -/
import Derived.Test.YtpnlnbolhkcnjaaGreatCoE
namespace Go.Proofs.YtpnlnbolhkcnjaaGreat.cl
open Go.RowKit mem words
set_option linter.unusedVariables false
set_option linter.unusedSimpArgs false
set_option maxHeartbeats 1000000
set_option maxRecDepth 100000

def ScanPost (v : Value) (l : List Int) (w : World) (e : Ending) (w' : World) : Prop :=
  Below w.heap.size w w' ∧ ((∃ a g, Objs l a ∧ e = .returned (.tuple #[.agg #[v, .slice (some ⟨g, 0, none⟩) l.length l.length], .bool true]) ∧ FAt w' w'.heap.size (.slice (some ⟨g, 0, none⟩) l.length l.length) (marks a)) ∨
    ((¬ ∃ a, Objs l a) ∧ e = .returned (.tuple #[.agg #[.slice none 0 0, .slice none 0 0], .bool false])))
theorem two_cells {w : World} {z : Nat} {a b : Value} {t : TypeId} (h : w.heap[z]? = some (.cells #[a, b] t)) : w.cell? ⟨z, 0, none⟩ = some a ∧ w.cell? ⟨z, 1, none⟩ = some b ∧ ∀ o, w.frozen? ⟨z, o, none⟩ = false := by
  refine ⟨?_, ?_, fun o => ?_⟩
  · simp only [World.cell?, h]; rfl
  · simp only [World.cell?, h]; rfl
  · simp only [World.frozen?, h]; simp
theorem scan111 (w : World) (B : Nat) (v : Value) (l : List Int) (hB : B ≤ w.heap.size) (h : WAt w B v l) (hw : Wds l) (hl : l.length ≤ 100000) : Calls Tryz.prog 129 #[v] w (ScanPost v l w) := by
  obtain ⟨p, c, rfl, hc1, hc2, hp⟩ := h
  obtain ⟨i0, hi0, hz0, hz1, hz2⟩ := info_parts info4
  have HP := Lib.hid hp
  have HW := Lib.hid hw
  clear hp hw
  have hz := (MapKept.heap_alloc w (.cells #[.slice none 0 0, .slice none 0 0] 108)).1
  have hbz : Below w.heap.size w (w.alloc (.cells #[.slice none 0 0, .slice none 0 0] 108)) := (Below.refl _ _).alloc (Nat.le_refl _) _
  have hsz : w.heap.size < (w.alloc (.cells #[.slice none 0 0, .slice none 0 0] 108)).heap.size := by simp
  go_enter Tryz.func129, Tryz.ntmps129
  have HZ := Lib.hid hz
  have HBZ := Lib.hid hbz
  have HSZ := Lib.hid hsz
  clear hz hbz hsz
  go_wp2_with (at_make; refine wpList_make_full _ rfl _ _ 99 rfl w.heap.size 4 i0 (.bool false) 1 Tryz.underlying99 hi0 hz0 hz1 .i64 .i64 _ _ l.length rfl rfl rfl rfl (by rw [hz2]; omega) (by unfold maxLen; omega) (by simp) ?_; intro w1 hown hgrow)
  simp only [World.size_alloc] at hown
  have hg1 : w.heap.size + 1 < w1.heap.size := row_lt hown
  have hz1 : w1.heap[w.heap.size]? = some (.cells #[.slice none 0 0, .slice none 0 0] 108) := (hgrow.block _ HSZ.out (by simp)).trans HZ.out
  have hb1 : Below w.heap.size w w1 := HBZ.out.grown hgrow HBZ.out.size (fun k e => by simp at e)
  have hb2 := (Below.refl w1.heap.size w1).alloc (Nat.le_refl _) (.cells #[.slice p l.length c, .slice (some ⟨w.heap.size + 1, 0, none⟩) l.length l.length] 108)
  have HZ4 := Lib.hid (MapKept.heap_alloc w1 (.cells #[.slice p l.length c, .slice (some ⟨w.heap.size + 1, 0, none⟩) l.length l.length] 108)).1
  have HZ2 := Lib.hid ((hb2.block _ (show w.heap.size < w1.heap.size by omega)).trans hz1)
  have HO : Hid ((w1.alloc (.cells #[.slice p l.length c, .slice (some ⟨w.heap.size + 1, 0, none⟩) l.length l.length] 108)).ownsRow w.heap.size 4 1 (.slice (some ⟨w.heap.size + 1, 0, none⟩) l.length l.length) l.length ((List.replicate l.length false).map Value.bool)) := Lib.hid (row_same (by simpa [toList_madeCells_one, Value.cells] using hown) (fun k hk => by simp [Value.ownBlock] at hk; subst hk; exact hb2.block _ hg1))
  have HB1 := Lib.hid (hb1.trans (hb2.mono hb1.size))
  have HN1 : Hid (w.heap.size + 1 < w1.heap.size) := Lib.hid hg1
  clear hown hgrow hg1 hz1 hb1 hb2 HZ HBZ HSZ
  generalize (w1.alloc (.cells #[.slice p l.length c, .slice (some ⟨w.heap.size + 1, 0, none⟩) l.length l.length] 108)) = W2 at *
  generalize w1.heap.size = z4 at *
  go_loopw [5, 6, 7, 8, 9] (fun a _ _ _ _ wr => ∃ (i : Nat) (out : List Bool), a = .int .i64 i ∧ i ≤ l.length ∧ Hid (Scn l i out) ∧ Hid (wr.ownsRow w.heap.size 4 1 (.slice (some ⟨w.heap.size + 1, 0, none⟩) l.length l.length) l.length (out.map Value.bool)) ∧ Hid (Below w.heap.size w wr) ∧ Hid (wr.heap[w.heap.size]? = some (.cells #[.slice none 0 0, .slice none 0 0] 108)) ∧ Hid (wr.heap[z4]? = some (.cells #[.slice p l.length c, .slice (some ⟨w.heap.size + 1, 0, none⟩) l.length l.length] 108))) (fun a _ _ _ _ _ => l.length - (intOf a).toNat)
  case atStart => exact ⟨0, _, by go_num, Nat.zero_le _, Lib.hid (Scn.zero l), HO, HB1, HZ2, HZ4⟩
  case round =>
    obtain ⟨i, out, rfl, hil, HS, HOw, HBw, HY2, HY4⟩ := hrel
    clear HO HB1 HZ2 HZ4
    obtain ⟨y20, y21, y2f⟩ := two_cells HY2.out
    obtain ⟨y40, y41, y4f⟩ := two_cells HY4.out
    by_cases hlt : i < l.length
    · obtain ⟨g, o, rfl, hg, hc⟩ := HP.out (by intro e; subst e; simp at hlt)
      have hx := (HBw.out.cell (p := ⟨g, o + i, none⟩) (show g < w.heap.size by omega)).trans (hc i hlt)
      have hxr := HW.out _ (List.getElem_mem hlt)
      have hxe : l[i]? = some l[i] := List.getElem?_eq_getElem hlt
      generalize l[i] = x at hx hxr hxe
      have HX := Lib.hid hxe
      have hol : out.length = l.length := HS.out.len
      have hcb : wr.cell? ⟨w.heap.size + 1, i, none⟩ = some (.bool (out[i]'(by omega))) := by
        rw [HOw.out.cellAt i (by omega), List.getElem?_map, List.getElem?_eq_getElem (by omega)]
        rfl
      generalize out[i]'(by omega) = b0 at hcb
      have hfz := HOw.out.frozenAt i
      obtain ⟨hst, hgr⟩ := HOw.out.stored i (.bool true)
      have HOw2 : Hid ((wr.setCell ⟨w.heap.size + 1, i, none⟩ (.bool true)).ownsRow w.heap.size 4 1 (.slice (some ⟨w.heap.size + 1, 0, none⟩) l.length l.length) l.length ((out.set i true).map Value.bool)) := Lib.hid (by rw [List.map_set]; exact hst)
      have HBw2 : Hid (Below w.heap.size w (wr.setCell ⟨w.heap.size + 1, i, none⟩ (.bool true))) := Lib.hid (HBw.out.setCell (Nat.le_succ _) _)
      have hx2 : (wr.setCell ⟨w.heap.size + 1, i, none⟩ (.bool true)).cell? ⟨g, o + i, none⟩ = some (.int .u64 x) := (World.cell?_of_block (w := wr) (a := ⟨g, o + i, none⟩) (Below.heap_setCell _ _ _ _ (show g ≠ w.heap.size + 1 by omega))).trans hx
      have HY22 : Hid ((wr.setCell ⟨w.heap.size + 1, i, none⟩ (.bool true)).heap[w.heap.size]? = some _) := Lib.hid ((Below.heap_setCell _ _ _ _ (show w.heap.size ≠ w.heap.size + 1 by omega)).trans HY2.out)
      have HY42 : Hid ((wr.setCell ⟨w.heap.size + 1, i, none⟩ (.bool true)).heap[z4]? = some _) := Lib.hid ((Below.heap_setCell _ _ _ _ (show z4 ≠ w.heap.size + 1 by have := HN1.out; omega)).trans HY4.out)
      clear hst hgr hxe hc
      have hN := hoN_rng x hxr.1
      have HT := Lib.hid (fun W => Tag x hxr.1 hxr.2 W)
      have HH := Lib.hid (fun W => HeaderOf x hxr.1 hxr.2 W)
      have ri : (0 : Int) ≤ (i : Int) := by omega
      rcases hok_cases x with ⟨h4, hk, hs⟩ | ⟨h4, ho, hk, hs⟩ | ⟨h4, ho, hk⟩
      · have q4 : (x % 4 == 0) = false := by simpa using h4
        have HK := Lib.hid hk
        have HSz := Lib.hid hs
        clear hk hs h4
        by_cases hf : 2 ≤ l.length - i
        · have q5 : decide ((l.length : Int) - (i : Int) < 2) = false := decide_eq_false (by omega)
          have HSn := Lib.hid (HS.out.step HX.out HK.out (by rw [HSz.out]; exact hf))
          go_wp2_with (go_at_call 145; refine (HT.out _).mono ?_; rintro e w' ⟨rfl, rfl⟩)
          go_roundw
          case rel => exact ⟨i + 2, out.set i true, by go_num, by omega, Lib.hid (by have := HSn.out; rwa [HSz.out] at this), HOw2, HBw2, HY22, HY42⟩
          case measure => simp [intOf]; omega
        · have q5 : decide ((l.length : Int) - (i : Int) < 2) = true := decide_eq_true (by omega)
          have HNo := Lib.hid (HS.out.fail HX.out (.inr (by rw [HSz.out]; omega)))
          go_wp2_with (go_at_call 145; refine (HT.out _).mono ?_; rintro e w' ⟨rfl, rfl⟩)
          have hb9 : Below w.heap.size w _ := (HBw2.out.setCell (p := ⟨w.heap.size, 0, none⟩) (Nat.le_refl _) (.slice none 0 0)).setCell (p := ⟨w.heap.size, 1, none⟩) (Nat.le_refl _) (.slice none 0 0)
          exact bodyPost_ret (v := .tuple #[.agg #[.slice none 0 0, .slice none 0 0], .bool false]) (by simp [results, Tryz.results129, go_sem, *]) rfl ⟨hb9, .inr ⟨HNo.out, rfl⟩⟩
      · have q4 : (x % 4 == 0) = true := by simpa using h4
        have HK := Lib.hid hk
        have HSz := Lib.hid hs
        have HHo := Lib.hid ho
        rw [ho] at HH
        clear hk hs h4 ho
        by_cases hf : 1 + (hoN x).toNat ≤ l.length - i
        · have q5 : decide ((l.length : Int) - (i : Int) < 1 + hoN x) = false := decide_eq_false (by omega)
          have HSn := Lib.hid (HS.out.step HX.out HK.out (by rw [HSz.out]; exact hf))
          have HNN := Lib.hid hN
          go_wp2_with (first | (go_at_call 145; refine (HT.out _).mono ?_; rintro e w' ⟨rfl, rfl⟩) | (go_at_call 184; refine (HH.out _).mono ?_; rintro e w' ⟨rfl, rfl⟩))
          go_roundw
          case rel => exact ⟨i + (1 + (hoN x).toNat), out.set i true, by rw [show ((i + (1 + (hoN x).toNat) : Nat) : Int) = (i : Int) + (1 + hoN x) by have := HNN.out; omega], by omega, Lib.hid (by have := HSn.out; rwa [HSz.out] at this), HOw2, HBw2, HY22, HY42⟩
          case measure => simp [intOf]; omega
        · have q5 : decide ((l.length : Int) - (i : Int) < 1 + hoN x) = true := decide_eq_true (by omega)
          have HNo := Lib.hid (HS.out.fail HX.out (.inr (by rw [HSz.out]; omega)))
          go_wp2_with (first | (go_at_call 145; refine (HT.out _).mono ?_; rintro e w' ⟨rfl, rfl⟩) | (go_at_call 184; refine (HH.out _).mono ?_; rintro e w' ⟨rfl, rfl⟩))
          have hb9 : Below w.heap.size w _ := (HBw2.out.setCell (p := ⟨w.heap.size, 0, none⟩) (Nat.le_refl _) (.slice none 0 0)).setCell (p := ⟨w.heap.size, 1, none⟩) (Nat.le_refl _) (.slice none 0 0)
          exact bodyPost_ret (v := .tuple #[.agg #[.slice none 0 0, .slice none 0 0], .bool false]) (by simp [results, Tryz.results129, go_sem, *]) rfl ⟨hb9, .inr ⟨HNo.out, rfl⟩⟩
      · have q4 : (x % 4 == 0) = true := by simpa using h4
        have HNo := Lib.hid (HS.out.fail HX.out (.inl hk))
        rw [ho] at HH
        clear hk h4 ho
        go_wp2_with (first | (go_at_call 145; refine (HT.out _).mono ?_; rintro e w' ⟨rfl, rfl⟩) | (go_at_call 184; refine (HH.out _).mono ?_; rintro e w' ⟨rfl, rfl⟩))
        have hb9 : Below w.heap.size w _ := (HBw2.out.setCell (p := ⟨w.heap.size, 0, none⟩) (Nat.le_refl _) (.slice none 0 0)).setCell (p := ⟨w.heap.size, 1, none⟩) (Nat.le_refl _) (.slice none 0 0)
        exact bodyPost_ret (v := .tuple #[.agg #[.slice none 0 0, .slice none 0 0], .bool false]) (by simp [results, Tryz.results129, go_sem, *]) rfl ⟨hb9, .inr ⟨HNo.out, rfl⟩⟩
    · obtain ⟨a, ha, rfl⟩ := HS.out.done hlt
      have HA := Lib.hid ha
      have hml : (marks a).length = l.length := HS.out.len
      have HML := Lib.hid hml
      clear ha hml
      go_wp2_with fail
      have hb9 : Below w.heap.size w _ := (HBw.out.setCell (p := ⟨w.heap.size, 0, none⟩) (Nat.le_refl _) (.slice p l.length c)).setCell (p := ⟨w.heap.size, 1, none⟩) (Nat.le_refl _) (.slice (some ⟨w.heap.size + 1, 0, none⟩) l.length l.length)
      have HO9 : ((wr.setCell ⟨w.heap.size, 0, none⟩ (.slice p l.length c)).setCell ⟨w.heap.size, 1, none⟩ (.slice (some ⟨w.heap.size + 1, 0, none⟩) l.length l.length)).ownsRow w.heap.size 4 1 (.slice (some ⟨w.heap.size + 1, 0, none⟩) l.length l.length) l.length ((marks a).map Value.bool) := row_same HOw.out (fun k hk => by
        simp [Value.ownBlock] at hk
        subst hk
        exact (Below.heap_setCell _ _ _ _ (by simp)).trans (Below.heap_setCell _ _ _ _ (by simp)))
      exact bodyPost_ret (v := .tuple #[.agg #[.slice p l.length c, (.slice (some ⟨w.heap.size + 1, 0, none⟩) l.length l.length)], .bool true]) (by simp [results, Tryz.results129, go_sem, *]) rfl ⟨hb9, .inl ⟨a, _, HA.out, rfl, (own_flags HO9 HML.out hl).more (row_lt HO9)⟩⟩
end Go.Proofs.YtpnlnbolhkcnjaaGreat.cl
