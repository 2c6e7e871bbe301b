/- Several texts in one, one behind the other: LwG. No condition beyond theirs. -/
import Derived.Test.YthgfdpamnepnfaaHe
import Derived.Test.YthgfdpamnepnfaaGx
/- OrderUnique: the walk. Conditions: the terms lie in memory. -/
namespace Go.Proofs.Ythgfdpamnepnfaa.tm
open Go.RowKit mem names
set_option linter.unusedVariables false
set_option linter.unusedSimpArgs false
set_option maxHeartbeats 4000000
set_option maxRecDepth 100000

theorem lawUnique {n : Nat} (w : World) (v : Value) (l : List (Tm (n + 1))) (I1 : ItemsAt w w.heap.size (n + 1) v l) :
    Calls Try.prog 5 #[v] w fun e w' => e = .returned (.bool true) ∧ Below w.heap.size w w' := by
  have HSh := Lib.hid (fun W => shownW W)
  have HGreat := Lib.hid (fun W (hb : Below w.heap.size w W) => Great W w.heap.size v l 6000 hb.size (by omega) (by omega) (I1.below hb (Nat.le_refl _)))
  have HN := Lib.hid (fun (h : greatS (n + 1) l 6000 = false) => great_nodes h)
  have HLend := Lib.hid (fun (hn : nodesL (n + 1) l ≤ 6000) W (hb : Below w.heap.size w W) => lendLW W w.heap.size v l hb.size (I1.below hb (Nat.le_refl _)) (by omega))
  have HUniq := Lib.hid (fun (hn : nodesL (n + 1) l ≤ 6000) (h100 : l.length ≤ 100) W u (h : LentW W w.heap.size (n + 1) v u l) => uniqueW (stableN 100 (by omega)) W W.heap.size u l (Nat.le_refl _) h.items (by omega) h100 (by omega))
  have HRU := Lib.hid (fun (hn : nodesL (n + 1) l ≤ 6000) W (hb : Below w.heap.size w W) => RUnique W w.heap.size v l hb.size (I1.below hb (Nat.le_refl _)) (by omega))
  have HSame := Lib.hid (fun W v1 v2 (h1 : ItemsAt W W.heap.size (n + 1) v1 (uniqL (sortL l))) (h2 : ItemsAt W W.heap.size (n + 1) v2 (uniqL (sortL l))) => by have := sameList (n + 1) W W.heap.size v1 v2 _ _ (Nat.le_refl _) h1 h2; rwa [eqB_t rfl] at this)
  have HKept := Lib.hid (fun W u (h : LentW W w.heap.size (n + 1) v u l) => h.keptL)
  have HSpoil := Lib.hid (fun X W W1 F g c (h : NewAt X W F (n + 1) (.slice (some ⟨g, 0, none⟩) (uniqL (sortL l)).length c) (uniqL (sortL l))) (hb : Below W.heap.size W W1) => spoilNew h hb)
  obtain ⟨p, c, rfl, hlc, hcm⟩ := I1.shape
  clear I1 hlc hcm
  unfold BPost at *
  unfold LLW at HLend
  unfold UPost at HUniq
  unfold RPost at HRU
  generalize greatS (n + 1) l 6000 = G at *
  obtain ⟨s, hs⟩ : ∃ s, uniqL (sortL l) = s := ⟨_, rfl⟩
  rw [hs] at HUniq HRU HSame HSpoil
  clear hs
  go_enter Try.func5, Try.ntmps5
  go_wp2_with fail
  refine (HSh.out w).mono ?_
  rintro e w1 ⟨rfl, hb1⟩
  have HB1 := Lib.hid hb1
  clear hb1 HSh
  by_cases h100 : l.length ≤ 100
  · have H100 := Lib.hid h100
    have q0 : ¬ (100 : Int) < (l.length : Int) := by omega
    have q1 : decide ((100 : Int) < (l.length : Int)) = false := decide_eq_false q0
    have HGW := Lib.hid (HGreat.out w1 HB1.out)
    clear h100
    go_wp2_with fail
    refine HGW.out.mono ?_
    rintro e w2 ⟨rfl, hb2⟩
    have HB2 := Lib.hid (HB1.out.trans (hb2.mono HB1.out.size))
    clear hb2 HGW HB1 HGreat
    cases G
    · have hn := HN.out rfl
      have hn' : nodesL (n + 1) l ≤ 6000 := by omega
      have HLW := Lib.hid (HLend.out hn' w2 HB2.out)
      have HU' := Lib.hid (HUniq.out hn' H100.out)
      have HRU' := Lib.hid (HRU.out hn')
      clear hn hn' HN HLend HUniq HRU
      go_wp2_with fail
      refine HLW.out.mono ?_
      rintro e w3 ⟨p', c', rfl, hL3, hb3⟩
      have HB3 := Lib.hid (HB2.out.trans (hb3.mono HB2.out.size))
      have hw3 : w.heap.size ≤ w3.heap.size := HB3.out.size
      have HL3 := Lib.hid hL3
      have HSW := Lib.hid (HU'.out w3 _ hL3)
      clear hL3 hb3 HB2 HLW HU'
      go_wp2_with fail
      refine HSW.out.mono ?_
      rintro e w4 ⟨F, g, cg, rfl, hN4⟩
      have HN4 := Lib.hid hN4
      have HB4 := Lib.hid (HB3.out.trans (hN4.below.mono HB3.out.size))
      have HL4 := Lib.hid (HL3.out.below hN4.below)
      have HRW := Lib.hid (HRU'.out w4 HB4.out)
      clear hN4 HSW HRU' HB3
      go_wp2_with fail
      refine HRW.out.mono ?_
      rintro e w5 ⟨p5, c5, rfl, hI5, hb5⟩
      have HI5 := Lib.hid ((HN4.out.items.toAt (fun x hx => (HN4.out.inr x hx).2)).below hb5 (Nat.le_refl _))
      have HSa := Lib.hid (HSame.out w5 _ _ (HI5.out.more hb5.size) hI5)
      have HB5 := Lib.hid (HB4.out.trans (hb5.mono HB4.out.size))
      have HL5 := Lib.hid (HL4.out.below hb5)
      have HF5 := Lib.hid hb5
      clear hI5 hb5 HI5 HSame HRW HB4 HL4
      go_wp2_with fail
      refine HSa.out.mono ?_
      rintro e w6 ⟨rfl, hb6⟩
      have HB6 := Lib.hid (HB5.out.trans (hb6.mono HB5.out.size))
      have HL6 := Lib.hid (HL5.out.below hb6)
      have HF6 := Lib.hid (HF5.out.trans (hb6.mono HF5.out.size))
      have HK := Lib.hid (HKept.out w6 _ HL6.out)
      clear hb6 HSa HB5 HL5 HF5
      go_wp2_with fail
      refine HK.out.mono ?_
      rintro e w9 ⟨rfl, hb9⟩
      have HB9 := Lib.hid (HB6.out.trans (hb9.mono HB6.out.size))
      have HF9 := Lib.hid (HF6.out.trans (hb9.mono HF6.out.size))
      have HSp := Lib.hid (HSpoil.out w3 w4 w9 F g _ HN4.out HF9.out)
      clear hb9 HK HB6 HL6 HF6 HSpoil
      go_wp2_with fail
      refine HSp.out.mono ?_
      rintro e w10 ⟨rfl, ht⟩
      have hw34 : Below w3.heap.size w3 w9 := HN4.out.below.trans (HF9.out.mono HN4.out.below.size)
      have HL10 := Lib.hid (HL3.out.touch (Nat.le_refl _) w9 hw34 ht (fun g hg => (HN4.out.inr g hg).1))
      have HB10 := Lib.hid (below_touch HB9.out ht (fun g hg => Nat.le_trans hw3 (HN4.out.inr g hg).1))
      have HK2 := Lib.hid (HKept.out w10 _ HL10.out)
      clear ht hw34 HSp
      go_wp2_with fail
      refine HK2.out.mono ?_
      rintro e w11 ⟨rfl, hb11⟩
      have hbf := HB10.out.trans (hb11.mono HB10.out.size)
      go_wp2_with fail
      go_ret
      exact ⟨rfl, hbf⟩
    · go_wp2_with fail
      go_ret
      exact ⟨rfl, HB2.out⟩
  · have q0 : (100 : Int) < (l.length : Int) := by omega
    have q1 : decide ((100 : Int) < (l.length : Int)) = true := decide_eq_true q0
    go_wp2_with fail
    go_ret
    exact ⟨rfl, HB1.out⟩
theorem lawUniqueR {n : Nat} (w : World) (v : Value) (l : List (Tm n)) (I1 : ItemsAt w w.heap.size n v l) :
    Calls Try.prog 5 #[v] w fun e w' => e = .returned (.bool true) ∧ Below w.heap.size w w' :=
  lawUnique w v (liftL n l) I1.lift
end Go.Proofs.Ythgfdpamnepnfaa.tm
