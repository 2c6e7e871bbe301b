/- Several texts in one, one behind the other: TnE, TnI, TnJ, TnP, TnQ, TnR. No condition beyond theirs. -/
import Derived.Test.YtnakbepcalciiaaGreatGl
import Derived.Test.YtnakbepcalciiaaGreatGb
import Derived.Test.YtnakbepcalciiaaGreatGe
import Derived.Test.YtnakbepcalciiaaGreatGh
import Derived.Laws.MakeOwn
import Derived.Test.YtnakbepcalciiaaGreatGi
import Derived.Test.YtnakbepcalciiaaGreatGj
import Derived.BigRegion
import Derived.Deep.RegionHeld3

/- The reference's order: counted, rest. Conditions: the terms lie in memory, and are formed. -/
namespace Go.Proofs.YtnakbepcalciiaaGreat.tm
open Go.RowKit mem names
set_option linter.unusedVariables false
set_option linter.unusedSimpArgs false
set_option maxHeartbeats 4000000
set_option maxRecDepth 100000

def RCmpS (n : Nat) : Prop := ∀ (w : World) (B : Nat) (v1 v2 : Value) (a b : Tm (n + 1)), B ≤ w.heap.size → ItemsAt w B n v1 a.items → ItemsAt w B n v2 b.items → formedT a = true → formedT b = true → Calls Tryz.prog 147 #[aggV a.f v1, aggV b.f v2] w (IPostC (cmpTm (n + 1) a b) w)
/-- two elements -/
theorem pairElR {n : Nat} (ih : ∀ m, n = m + 1 → RCmpS m) (w : World) (B : Nat) (p1 p2 : Option Addr) (n1 n2 c1 c2 : Nat) (l1 l2 : List (Tm n)) (hB : B ≤ w.heap.size) (h1 : ItemsAt w B n (.slice p1 n1 c1) l1) (h2 : ItemsAt w B n (.slice p2 n2 c2) l2) (f1 : ∀ x ∈ l1, FT n x) (f2 : ∀ x ∈ l2, FT n x) :
    ∀ i j, (hi : i < l1.length) → (hj : j < l2.length) → ∃ g1 o1 x1 q1 m1 d1 g2 o2 x2 q2 m2 d2, p1 = some ⟨g1, o1, none⟩ ∧ g1 < w.heap.size ∧ Cells w g1 (o1 + i * 9) x1 (.slice q1 m1 d1) ∧ p2 = some ⟨g2, o2, none⟩ ∧ g2 < w.heap.size ∧ Cells w g2 (o2 + j * 9) x2 (.slice q2 m2 d2) ∧
      x1.kind = kdT n l1[i] ∧ x2.kind = kdT n l2[j] ∧ ∀ W, Below w.heap.size w W → Calls Tryz.prog 147 #[aggV x1 (.slice q1 m1 d1), aggV x2 (.slice q2 m2 d2)] W (IPostC (cmpTm n l1[i] l2[j]) W) := by
  cases n with
  | zero => intro i j hi; rw [Tm.nil0 l1] at hi; exact absurd hi (by simp)
  | succ n =>
    intro i j hi hj
    obtain ⟨g1, o1, d1, e1, _, _, hg1, hx1⟩ := h1.at_ (by intro e; subst e; simp at hi)
    obtain ⟨u1, hC1, hI1⟩ := hx1 i hi
    obtain ⟨g2, o2, d2, e2, _, _, hg2, hx2⟩ := h2.at_ (by intro e; subst e; simp at hj)
    obtain ⟨u2, hC2, hI2⟩ := hx2 j hj
    simp only [Value.slice.injEq] at e1 e2
    obtain ⟨q1, c1', rfl, _, _⟩ := hI1.shape
    obtain ⟨q2, c2', rfl, _, _⟩ := hI2.shape
    refine ⟨g1, o1, l1[i].f, q1, _, c1', g2, o2, l2[j].f, q2, _, c2', e1.1, by omega, hC1, e2.1, by omega, hC2, rfl, rfl, fun W hb => ?_⟩
    exact ih n rfl W B _ _ l1[i] l2[j] (Nat.le_trans hB hb.size) (hI1.below hb hB) (hI2.below hb hB) (f1 _ (List.getElem_mem hi)) (f2 _ (List.getElem_mem hj))
theorem countedR {n : Nat} (ih : ∀ m, n = m + 1 → RCmpS m) (w : World) (B : Nat) (v1 v2 : Value) (l1 l2 : List (Tm n)) (hB : B ≤ w.heap.size) (h1 : ItemsAt w B n v1 l1) (h2 : ItemsAt w B n v2 l2) (f1 : ∀ x ∈ l1, FT n x) (f2 : ∀ x ∈ l2, FT n x) :
    Calls Tryz.prog 186 #[v1, v2] w (IPostC (itemsC (cmpTm n) l1 l2) w) := by
  obtain ⟨p1, c1, rfl, hc1, hm1⟩ := h1.shape
  obtain ⟨p2, c2, rfl, hc2, hm2⟩ := h2.shape
  unfold maxLen at hm1 hm2
  by_cases hl : l1.length = l2.length
  · rw [show itemsC (cmpTm n) l1 l2 = eachC (cmpTm n) l1 l2 by unfold itemsC; rw [if_pos hl]]
    have HP := Lib.hid (pairElR ih w B p1 p2 _ _ c1 c2 l1 l2 hB h1 h2 f1 f2)
    have HAt := Lib.hid (each_at (cmpTm n) l1 l2)
    have HZ := Lib.hid (each_zero (cmpTm n) l1 l2 hl)
    generalize eachC (cmpTm n) l1 l2 = r at *
    have HL := Lib.hid hl
    rw [← hl] at hc2
    rw [← hl]
    clear ih h1 h2 f1 f2 hl
    go_enter Tryz.func186, Tryz.ntmps186
    go_wp2_with fail
    go_loopw [5] (fun s wr => ∃ k : Nat, s = .int .i64 k ∧ k ≤ l1.length ∧ Hid (∀ j, (a : j < l1.length) → (b : j < l2.length) → j < k → cmpTm n l1[j] l2[j] = 0) ∧ Below w.heap.size w wr) (fun s _ => l1.length - (intOf s).toNat)
    case atStart => exact ⟨0, rfl, by omega, Lib.hid (fun j _ _ h => by omega), Below.refl _ _⟩
    case round =>
      obtain ⟨k, rfl, hk, HA, hb⟩ := hrel
      by_cases hlt : k < l1.length
      · have hkb : k < l2.length := by have := HL.out; omega
        obtain ⟨g1, o1, x1, q1, m1, d1, g2, o2, x2, q2, m2, d2, rfl, hg1, hC1, rfl, hg2, hC2, ek1, ek2, hCall⟩ := HP.out k k hlt hkb
        clear ek1 ek2
        have hC1 := hC1.same (hb.block g1 hg1)
        have hC2 := hC2.same (hb.block g2 hg2)
        obtain ⟨x10, x11, x12, x13, x14, x15, x16, x17, x18⟩ := hC1
        obtain ⟨y10, y11, y12, y13, y14, y15, y16, y17, y18⟩ := hC2
        have hb' : Below w.heap.size w wr.drew := hb.drewN 1
        have HC := Lib.hid (hCall wr.drew hb')
        clear hCall
        have HA1 := Lib.hid (HAt.out k hlt hkb HA.out)
        have HA2 : Hid (cmpTm n l1[k] l2[k] = 0 → ∀ j, (a : j < l1.length) → (b : j < l2.length) → j < k + 1 → cmpTm n l1[j] l2[j] = 0) := Lib.hid (fun e j a b hj => by
          by_cases e2 : j = k
          · subst e2; exact e
          · exact HA.out j a b (by omega))
        generalize cmpTm n l1[k] l2[k] = x at *
        unfold aggV IPostC at HC
        go_wp2_with fail
        go_still_tail 8, (by kernel_rfl)
        change wpList _ _ _ _ _ wr.drew
        clear x10 x11 x12 x13 x14 x15 x16 x17 x18 y10 y11 y12 y13 y14 y15 y16 y17 y18
        generalize wr.drew = w2 at *
        go_wp2_with fail
        refine HC.out.mono ?_
        rintro e w3 ⟨rfl, hb3⟩
        have hb4 : Below w.heap.size w w3 := hb'.trans (hb3.mono hb'.size)
        by_cases hx : x = 0
        · subst hx
          have H2 := Lib.hid (HA2.out rfl)
          clear HA1 HA2
          go_wp2_with fail
          go_roundw
          case rel => exact ⟨k + 1, by go_num, by omega, H2, hb4⟩
          case measure => simp [intOf]; omega
        · have q : (x != 0) = true := by simp [hx]
          have HF := Lib.hid (HA1.out hx)
          clear HA1 HA2 hx
          go_wp2_with fail
          go_ret
          exact ⟨ret1i HF.out.symm, hb4⟩
      · have HF := Lib.hid (HZ.out (fun j a b => HA.out j a b (by omega)))
        go_wp2_with fail
        go_ret
        exact ⟨ret1i HF.out.symm, hb⟩
  · rw [show itemsC (cmpTm n) l1 l2 = cmpI l1.length l2.length by unfold itemsC; rw [if_neg hl]]
    have HI := Lib.hid (fun W => ints (l1.length : Int) (l2.length : Int) W)
    have q : ((l1.length : Int) != (l2.length : Int)) = true := by simp; omega
    clear ih h1 h2 f1 f2 hl
    generalize cmpI (l1.length : Int) (l2.length : Int) = z at *
    generalize l1.length = a at *
    generalize l2.length = b at *
    go_enter Tryz.func186, Tryz.ntmps186
    go_wp2_with fail
    refine (HI.out _).mono ?_
    rintro e w' ⟨rfl, rfl⟩
    go_wp2_with fail
    go_ret
    exact ⟨rfl, Below.refl _ _⟩
def VPost (v : Value) (w : World) (e : Ending) (w' : World) : Prop := e = .returned v ∧ Below w.heap.size w w'
def listF : TF := ⟨9, 0, 0, ⟨#[]⟩, ⟨#[]⟩, 0, ⟨#[]⟩, 0⟩
theorem rest2 (g o c : Nat) (f : TF) (q : Option Addr) (m d : Nat) (w : World) (hg : g < w.heap.size) (hC : Cells w g (o + 9) f (.slice q m d)) :
    Calls Tryz.prog 206 #[.slice (some ⟨g, o, none⟩) 2 c] w (VPost (aggV f (.slice q m d)) w) := by
  obtain ⟨k, i, gg, nm, fn, ar, by_, bt⟩ := f
  obtain ⟨x0, x1, x2, x3, x4, x5, x6, x7, x8⟩ := hC
  dsimp only at x0 x1 x2 x3 x4 x5 x6 x7 x8
  unfold VPost aggV
  dsimp only
  go_enter Tryz.func206, Tryz.ntmps206
  go_wp2_with fail
  exact bodyPost_ret (v := (.agg #[.int .i64 k, .int .i64 i, .int .i64 gg, .string nm, .string fn, .int .i64 ar, .slice q m d, .string by_, .int .i64 bt])) (by simp [results, Tryz.results206, go_sem, *]) rfl ⟨rfl, by (repeat' (first | with_reducible exact Below.refl _ _ | with_reducible refine Below.alloc ?_ ?_ _ | with_reducible exact Nat.le_refl _ | with_reducible refine Below.setCell ?_ ?_ _))⟩
theorem rest3 (g o a x : Nat) (w : World) (hx : a ≤ x) (hm : x + 3 ≤ maxLen) :
    Calls Tryz.prog 206 #[.slice (some ⟨g, o, none⟩) (a + 3) (x + 3)] w (VPost (aggV listF (.slice (some ⟨g, o + 9, none⟩) (a + 2) (x + 2))) w) := by
  unfold maxLen at hm
  unfold VPost aggV listF
  dsimp only
  have q : ((a : Int) + 3 == 2) = false := by simp; omega
  have q2 : ((a + 3 : Nat) : Int) = (a : Int) + 3 := by omega
  go_enter Tryz.func206, Tryz.ntmps206
  go_wp2_with fail
  exact bodyPost_ret (v := (.agg #[.int .i64 9, .int .i64 0, .int .i64 0, .string ⟨#[]⟩, .string ⟨#[]⟩, .int .i64 0, .slice (some ⟨g, o + 9, none⟩) (a + 2) (x + 2), .string ⟨#[]⟩, .int .i64 0])) (by simp [results, Tryz.results206, go_sem, *]) rfl ⟨rfl, by (repeat' (first | with_reducible exact Below.refl _ _ | with_reducible refine Below.alloc ?_ ?_ _ | with_reducible exact Nat.le_refl _ | with_reducible refine Below.setCell ?_ ?_ _))⟩
end Go.Proofs.YtnakbepcalciiaaGreat.tm

/- Copies of terms. Conditions: the terms lie in memory. -/
namespace Go.Proofs.YtnakbepcalciiaaGreat.tm
open Go.RowKit mem names
set_option linter.unusedVariables false
set_option linter.unusedSimpArgs false
set_option maxHeartbeats 4000000
set_option maxRecDepth 100000

theorem NewAt.touch {w W0 w1 w' : World} {F S : Nat → Prop} {n : Nat} {u : Value} {l : List (Tm n)} (h : NewAt W0 w1 F n u l) (ht : TouchB S w1 w') (hS : ∀ g, F g → ¬ S g) (hb : Below w.heap.size w w') (hw : w.heap.size ≤ W0.heap.size) : NewAt w w' F n u l := by
  have hs : ∀ g, F g → w'.heap[g]? = w1.heap[g]? := fun g hg => ht.block g (h.inr g hg).2 (hS g hg)
  refine ⟨h.items.mono hs (fun _ h => h), fun g hg => ?_, h.typed.same hs, fun g hg => ?_, hb⟩
  · have := h.inr g hg
    have := ht.size
    omega
  · exact (h.ptr g (by omega)).mono hs (fun _ h => h)
/-- a list has been copied -/
def LPost {n : Nat} (l : List (Tm n)) (w : World) (e : Ending) (w' : World) : Prop := ∃ F g, e = .returned (.slice (some ⟨g, 0, none⟩) l.length l.length) ∧ NewAt w w' F n (.slice (some ⟨g, 0, none⟩) l.length l.length) l ∧ F g
/-- a term has been copied -/
def TPost {n : Nat} (f : TF) (l : List (Tm n)) (w : World) (e : Ending) (w' : World) : Prop := ∃ F g, e = .returned (aggV f (.slice (some ⟨g, 0, none⟩) l.length l.length)) ∧ NewAt w w' F n (.slice (some ⟨g, 0, none⟩) l.length l.length) l ∧ F g
theorem copyT {n : Nat} (x : TF) (p : Option Addr) (len c : Nat) (l : List (Tm n)) (w : World) (hC : ∀ W, Below w.heap.size w W → Calls Tryz.prog 200 #[.slice p len c] W (LPost l W)) :
    Calls Tryz.prog 169 #[aggV x (.slice p len c)] w (TPost x l w) := by
  have HC := Lib.hid hC
  clear hC
  obtain ⟨k, i, gg, nm, fn, ar, by_, bt⟩ := x
  unfold aggV
  dsimp only
  go_enter Tryz.func169, Tryz.ntmps169
  go_wp2_with fail
  obtain ⟨hN1, hN2, hbw, hsz⟩ := boxes2 w ⟨k, i, gg, nm, fn, ar, by_, bt⟩ zeroF (.slice p len c) nilV
  unfold cells9 zeroF nilV at hN1 hN2 hbw hsz
  dsimp only at hN1 hN2 hbw hsz
  generalize ((w.alloc (.cells #[.int .i64 k, .int .i64 i, .int .i64 gg, .string nm, .string fn, .int .i64 ar, .slice p len c, .string by_, .int .i64 bt] 30)).alloc (.cells #[.int .i64 0, .int .i64 0, .int .i64 0, .string ⟨#[]⟩, .string ⟨#[]⟩, .int .i64 0, .slice none 0 0, .string ⟨#[]⟩, .int .i64 0] 30)) = W0 at *
  have HZ : Hid (W0.heap.size = w.heap.size + 2) := Lib.hid hsz
  have HZ1 : w.heap.size < W0.heap.size := by omega
  have HZ2 : w.heap.size + 1 < W0.heap.size := by omega
  clear hsz
  have HN1 := Lib.hid hN1
  have HN2 := Lib.hid hN2
  obtain ⟨x0, x1, x2, x3, x4, x5, x6, x7, x8, xz⟩ := hN1
  obtain ⟨y0, y1, y2, y3, y4, y5, y6, y7, y8, yz⟩ := hN2
  dsimp only at x0 x1 x2 x3 x4 x5 x6 x7 x8 y0 y1 y2 y3 y4 y5 y6 y7 y8
  have HCW := Lib.hid (HC.out W0 hbw)
  clear HC
  go_wp2_with fail
  refine HCW.out.mono ?_
  rintro e w1 ⟨F, g, rfl, hnew, hFg⟩
  have HNew := Lib.hid hnew
  have hb := hnew.below
  have HM1 := Lib.hid (HN1.out.below hb HZ1)
  have HM2 := Lib.hid (HN2.out.below hb HZ2)
  have hzz1 : w.heap.size < w1.heap.size := Nat.lt_of_lt_of_le HZ1 hb.size
  have hzz2 : w.heap.size + 1 < w1.heap.size := Nat.lt_of_lt_of_le HZ2 hb.size
  have hbb := hbw.trans (hb.mono hbw.size)
  clear x0 x1 x2 x3 x4 x5 x6 x7 x8 xz y0 y1 y2 y3 y4 y5 y6 y7 y8 yz hnew hb
  obtain ⟨x0, x1, x2, x3, x4, x5, x6, x7, x8, xz⟩ := HM1.out
  obtain ⟨y0, y1, y2, y3, y4, y5, y6, y7, y8, yz⟩ := HM2.out
  dsimp only at x0 x1 x2 x3 x4 x5 x6 x7 x8 y0 y1 y2 y3 y4 y5 y6 y7 y8
  go_wp2_with fail
  have hz2 := HZ.out
  have hinr := HNew.out.inr
  refine bodyPost_ret (v := (.agg #[.int .i64 k, .int .i64 i, .int .i64 gg, .string nm, .string fn, .int .i64 ar, .slice (some ⟨g, 0, none⟩) l.length l.length, .string by_, .int .i64 bt])) (by simp [results, Tryz.results169, go_sem, *]) rfl ⟨F, g, rfl, HNew.out.touch (S := fun k => k = w.heap.size ∨ k = w.heap.size + 1) (by (repeat' (first | with_reducible exact TouchB.refl _ _ | with_reducible refine TouchB.setCell ?_ _ _ (fun _ => Or.inl rfl) | with_reducible refine TouchB.setCell ?_ _ _ (fun _ => Or.inr rfl)))) (fun q hq => by have := hinr q hq; omega) (by (repeat' (first | with_reducible exact hbb | with_reducible refine Below.setCell ?_ ?_ _ | (simp; done) | (simp; omega)))) (by omega), hFg⟩
end Go.Proofs.YtnakbepcalciiaaGreat.tm

/- A row of terms that grows within its room. No condition. -/
namespace Go.Proofs.YtnakbepcalciiaaGreat.tm
open Go.RowKit mem names
set_option linter.unusedVariables false
set_option linter.unusedSimpArgs false
set_option maxHeartbeats 4000000
set_option maxRecDepth 100000

def EMono (B : Nat) (E : World → (Nat → Prop) → Nat → TF → Value → Prop) : Prop :=
  ∀ (w w' : World) (F F' : Nat → Prop) (j : Nat) (f : TF) (u : Value), (∀ g, F g → w'.heap[g]? = w.heap[g]?) → (∀ g, g < B → w'.heap[g]? = w.heap[g]?) → (∀ g, F g → F' g) → E w F j f u → E w' F' j f u
structure RowInv (E : World → (Nat → Prop) → Nat → TF → Value → Prop) (w wr : World) (cap k : Nat) (rs : List (TF × Value)) (F : Nat → Prop) : Prop where
  own : wr.ownsRow w.heap.size 30 9 (.slice (some ⟨w.heap.size, 0, none⟩) k cap) k (flatR rs)
  len : rs.length = k
  elt : ∀ j, (h : j < rs.length) → E wr F j rs[j].1 rs[j].2 ∧ PtrOK wr F w.heap.size rs[j].2
  typed : Typed wr F
  inr : ∀ g, F g → w.heap.size < g ∧ g < wr.heap.size
  below : Below w.heap.size w wr
  lt : w.heap.size < wr.heap.size
variable {E : World → (Nat → Prop) → Nat → TF → Value → Prop} {w wr : World} {cap k : Nat} {rs : List (TF × Value)} {F : Nat → Prop}
theorem RowInv.start (cs : Array Value) (hc : cap ≤ maxLen) (hs : cs.size = cap * 9) : RowInv E w (w.alloc (.cells cs 30)) cap 0 [] (fun _ => False) :=
  ⟨World.ownsRow_made w cs cap (Nat.le_refl _) hc hs, rfl, fun j h => by simp at h, fun g h => h.elim, fun g h => h.elim, (Below.refl _ _).alloc (Nat.le_refl _) _, by simp⟩
theorem RowInv.ownAt (h : RowInv E w wr cap k rs F) {w3 : World} (hb : Below wr.heap.size wr w3) : w3.ownsRow w.heap.size 30 9 (.slice (some ⟨w.heap.size, 0, none⟩) k cap) k (flatR rs) :=
  row_same h.own fun q hq => hb.block q (by
    have e : w.heap.size = q := by simpa [Value.ownBlock] using hq
    have := h.lt
    omega)
theorem RowInv.next (hE : EMono w.heap.size E) (h : RowInv E w wr cap k rs F) {w3 w4 : World} {F' : Nat → Prop} {f : TF} {u : Value} (hb : Below wr.heap.size wr w3) (h1 : E w3 F' k f u) (h2 : PtrOK w3 F' w.heap.size u) (h3 : Typed w3 F') (h4 : ∀ g, F' g → wr.heap.size ≤ g ∧ g < w3.heap.size)
    (hg : w3.grownBy w4 (some w.heap.size)) (hown : w4.ownsRow w.heap.size 30 9 (.slice (some ⟨w.heap.size, 0, none⟩) (k + 1) cap) (k + 1) (flatR rs ++ nineL f u)) : RowInv E w w4 cap (k + 1) (rs ++ [(f, u)]) (fun g => F g ∨ F' g) := by
  have hlt := h.lt
  have hsz := hb.size
  have hs3 : ∀ g, F g → w3.heap[g]? = wr.heap[g]? := fun g hg => hb.block g (h.inr g hg).2
  have hs4 : ∀ g, F g → w4.heap[g]? = wr.heap[g]? := fun g hF => (hg.block g (by have := (h.inr g hF).2; omega) (by have := (h.inr g hF).1; simp; omega)).trans (hs3 g hF)
  have hs4' : ∀ g, F' g → w4.heap[g]? = w3.heap[g]? := fun g hF => hg.block g (h4 g hF).2 (by have := (h4 g hF).1; simp; omega)
  have hl := h.len
  have hg4 := hg.size
  refine ⟨?_, by simp [hl], fun j hj => ?_, ?_, fun g hF => ?_, ?_, by omega⟩
  · rw [flatR_append]
    have e : flatR [(f, u)] = nineL f u := by simp [flatR]
    rw [e]; exact hown
  · by_cases e : j < rs.length
    · rw [List.getElem_append_left e]
      obtain ⟨a1, a2⟩ := h.elt j e
      exact ⟨hE _ _ _ _ _ _ _ hs4 (fun g hg' => (hg.block g (by omega) (by simp; omega)).trans (hb.block g (by omega))) (fun _ h => .inl h) a1, a2.mono hs4 (fun _ h => .inl h)⟩
    · have ej : j = rs.length := by simp at hj; omega
      subst ej
      rw [List.getElem_append_right (Nat.le_refl _)]
      simp only [Nat.sub_self, List.getElem_cons_zero]
      refine ⟨?_, h2.mono hs4' (fun _ h => .inr h)⟩
      rw [hl]
      exact hE _ _ _ _ _ _ _ hs4' (fun g hg' => hg.block g (by omega) (by simp; omega)) (fun _ h => .inr h) h1
  · exact (h.typed.same hs4).union (h3.same hs4')
  · rcases hF with hF | hF
    · have := h.inr g hF; omega
    · have := h4 g hF; omega
  · have hb1 := h.below.trans (hb.mono (by omega))
    exact ⟨hg.os.trans hb1.os, hg.tape.trans hb1.tape, hg.output.trans hb1.output, Nat.le_trans hb1.size hg.size, fun q hq => (hg.block q (by omega) (by simp; omega)).trans (hb1.block q hq)⟩
theorem RowInv.cells (h : RowInv E w wr cap k rs F) (j : Nat) (hj : j < rs.length) : Cells wr w.heap.size (j * 9) rs[j].1 rs[j].2 := row_cells h.own h.len j hj
/-- the whole room is used -/
theorem RowInv.full (h : RowInv E w wr cap k rs F) (hk : k = cap) : Typed wr (fun g => F g ∨ g = w.heap.size) := by
  have hown := h.own
  rcases hown.2 with ⟨h', _⟩ | ⟨g', cap', cur, h', hbg, hg, hnc, hcm, hcs, htake⟩
  · simp at h'
  · simp only [Value.slice.injEq, Option.some.injEq, Addr.mk.injEq, and_true, true_and] at h'
    obtain ⟨rfl, rfl⟩ := h'
    refine h.typed.add hg hcs fun j hj => ?_
    have hj' : j < rs.length := by rw [h.len]; omega
    exact ⟨_, _, h.cells j hj', (h.elt j hj').2⟩
theorem RowInv.root (h : RowInv E w wr cap k rs F) (m : Nat) (hm : m ≤ cap) (g : Nat) (hgw : g < w.heap.size) : PtrOK wr (fun g => F g ∨ g = w.heap.size) g (.slice (some ⟨w.heap.size, 0, none⟩) m cap) := by
  have hown := h.own
  rcases hown.2 with ⟨h', _⟩ | ⟨g', cap', cur, h', hbg, hg, hnc, hcm, hcs, htake⟩
  · simp at h'
  · simp only [Value.slice.injEq, Option.some.injEq, Addr.mk.injEq, and_true, true_and] at h'
    obtain ⟨rfl, rfl⟩ := h'
    exact ⟨_, _, _, rfl, .inr ⟨_, 0, cur, _, by rw [Nat.zero_mul], .inr rfl, hgw, hg, by rw [Nat.zero_add, hcs]; omega, by omega⟩⟩

/-! ### elements that have been copied -/
def EltIn (w : World) (F : Nat → Prop) : (n : Nat) → Tm n → TF → Value → Prop
  | 0, _, _, _ => False
  | n + 1, t, f, u => t.f = f ∧ ItemsIn w F n u t.items
theorem EltIn.mono {w w' : World} {F F' : Nat → Prop} (hs : ∀ g, F g → w'.heap[g]? = w.heap[g]?) (hF : ∀ g, F g → F' g) {n : Nat} {t : Tm n} {f : TF} {u : Value} (h : EltIn w F n t f u) : EltIn w' F' n t f u := by
  cases n with
  | zero => exact h
  | succ n => exact ⟨h.1, h.2.mono hs hF⟩
def EltL {n : Nat} (l : List (Tm n)) (w : World) (F : Nat → Prop) (j : Nat) (f : TF) (u : Value) : Prop := ∃ h : j < l.length, EltIn w F n l[j] f u
theorem eltL_mono {n : Nat} (l : List (Tm n)) (B : Nat) : EMono B (EltL l) := fun w w' F F' j f u h1 h2 h3 ⟨h, he⟩ => ⟨h, he.mono h1 h3⟩
theorem ItemsIn.mk {n : Nat} {w : World} {F : Nat → Prop} {g cap : Nat} (l : List (Tm n)) (rs : List (TF × Value)) (hl : rs.length = l.length) (hc : l.length ≤ cap) (hm : cap ≤ maxLen) (hF : F g) (h : ∀ j, (hj : j < rs.length) → Cells w g (j * 9) rs[j].1 rs[j].2 ∧ EltL l w F j rs[j].1 rs[j].2) : ItemsIn w F n (.slice (some ⟨g, 0, none⟩) l.length cap) l := by
  cases n with
  | zero =>
    have := Tm.nil0 l
    subst this
    exact ⟨_, _, rfl, hm⟩
  | succ n =>
    refine ⟨_, _, rfl, hc, hm, fun _ => ⟨g, 0, rfl, hF, fun j hj => ?_⟩⟩
    obtain ⟨h1, _, h2, h3⟩ := h j (by omega)
    refine ⟨_, ?_, h3⟩
    rw [Nat.zero_add, h2]
    exact h1
theorem make24 (W : World) (c : Int) (cap : Nat) (h : c = cap) (hc : cap ≤ 1000000000000) : (Instr.makeSlice 28 (.int .i64 0) (.int .i64 c)).run Tryz.prog W = .ok (.slice (some ⟨W.heap.size, 0, none⟩) 0 cap) (W.alloc (.cells (madeCells #[.int .i64 0, .int .i64 0, .int .i64 0, .string ⟨#[]⟩, .string ⟨#[]⟩, .int .i64 0, .slice none 0 0, .string ⟨#[]⟩, .int .i64 0] (cap * 9)) 30)) := by
  obtain ⟨i0, hi, hz, hs, hb⟩ := info_parts info24
  subst h
  have := run_make (P := Tryz.prog) W 28 30 i0 _ Tryz.underlying28 hi hz .i64 .i64 0 (cap : Int) (by omega) (by omega) (by rw [hb]; omega) (by omega)
  rw [hs] at this
  simp only [Int.toNat_natCast, Int.toNat_zero] at this
  exact this
end Go.Proofs.YtnakbepcalciiaaGreat.tm

/- Sorting in place: the row, exchanges. Conditions: as said. -/
namespace Go.Proofs.YtnakbepcalciiaaGreat.tm
open Go.RowKit mem names
set_option linter.unusedVariables false
set_option linter.unusedSimpArgs false
set_option maxHeartbeats 1000000
set_option maxRecDepth 100000

/-- nine stores -/
def set9 (w : World) (b o : Nat) (f : TF) (v : Value) : World :=
  ((((((((w.setCell ⟨b, o, none⟩ (.int .i64 f.kind)).setCell ⟨b, o + 1, none⟩ (.int .i64 f.int)).setCell ⟨b, o + 2, none⟩ (.int .i64 f.gen)).setCell ⟨b, o + 3, none⟩ (.string f.name)).setCell ⟨b, o + 4, none⟩ (.string f.func)).setCell ⟨b, o + 5, none⟩ (.int .i64 f.arity)).setCell ⟨b, o + 6, none⟩ v).setCell ⟨b, o + 7, none⟩ (.string f.bytes)).setCell ⟨b, o + 8, none⟩ (.int .i64 f.bits)
theorem flatR_set : ∀ (d : List (TF × Value)) (j : Nat) (f : TF) (v : Value), j < d.length →
    (((((((((flatR d).set (j * 9) (.int .i64 f.kind)).set (j * 9 + 1) (.int .i64 f.int)).set (j * 9 + 2) (.int .i64 f.gen)).set (j * 9 + 3) (.string f.name)).set (j * 9 + 4) (.string f.func)).set (j * 9 + 5) (.int .i64 f.arity)).set (j * 9 + 6) v).set (j * 9 + 7) (.string f.bytes)).set (j * 9 + 8) (.int .i64 f.bits) = flatR (d.set j (f, v))
  | r :: d, 0, f, v, _ => rfl
  | r :: d, j + 1, f, v, h => by
    have ih := flatR_set d j f v (by simpa using h)
    have e : ∀ (l : List Value) (k : Nat) (x : Value), (nineL r.1 r.2 ++ l).set ((j + 1) * 9 + k) x = nineL r.1 r.2 ++ l.set (j * 9 + k) x := fun l k x => by
      rw [List.set_append_right _ _ (by simp [nineL]; omega)]
      congr 2
      simp [nineL]; omega
    have e0 : ∀ (l : List Value) (x : Value), (nineL r.1 r.2 ++ l).set ((j + 1) * 9) x = nineL r.1 r.2 ++ l.set (j * 9) x := fun l x => e l 0 x
    show (((((((((nineL r.1 r.2 ++ flatR d).set _ _).set _ _).set _ _).set _ _).set _ _).set _ _).set _ _).set _ _).set _ _ = nineL r.1 r.2 ++ flatR (d.set j (f, v))
    rw [e0, e, e, e, e, e, e, e, e, ih]
theorem set9_row {w : World} {base b n cap : Nat} {d : List (TF × Value)} (h : w.ownsRow base 30 9 (.slice (some ⟨b, 0, none⟩) n cap) n (flatR d)) (j : Nat) (hj : j < d.length) (f : TF) (v : Value) :
    (set9 w b (j * 9) f v).ownsRow base 30 9 (.slice (some ⟨b, 0, none⟩) n cap) n (flatR (d.set j (f, v))) := by
  rw [← flatR_set d j f v hj]
  unfold set9
  exact ((((((((h.stored _ _).1.stored _ _).1.stored _ _).1.stored _ _).1.stored _ _).1.stored _ _).1.stored _ _).1.stored _ _).1.stored _ _ |>.1
theorem set9_touch (w : World) (b o : Nat) (f : TF) (v : Value) : TouchB (fun k => k = b) w (set9 w b o f v) := by
  unfold set9
  repeat' (first | with_reducible exact TouchB.refl _ _ | with_reducible refine TouchB.setCell ?_ _ _ (fun _ => rfl))
structure RowW {α : Type} (enc : α → TF × Value) (w0 wr : World) (b n cap : Nat) (d : List α) : Prop where
  own : wr.ownsRow 0 30 9 (.slice (some ⟨b, 0, none⟩) n cap) n (flatR (d.map enc))
  len : d.length = n
  touch : TouchB (fun k => k = b) w0 wr
variable {α : Type} {enc : α → TF × Value} {w0 wr : World} {b n cap : Nat} {d : List α}
theorem RowW.lt (h : RowW enc w0 wr b n cap d) : b < wr.heap.size := by
  rcases h.own.2 with ⟨h', _⟩ | ⟨g', cap', cur, h', hbg, hg, _⟩
  · simp at h'
  · simp only [Value.slice.injEq, Option.some.injEq, Addr.mk.injEq, and_true, true_and] at h'
    obtain ⟨rfl, rfl⟩ := h'
    exact (Array.getElem?_eq_some_iff.1 hg).1
theorem RowW.room (h : RowW enc w0 wr b n cap d) : n ≤ cap ∧ cap ≤ maxLen := by
  rcases h.own.2 with ⟨h', _⟩ | ⟨g', cap', cur, h', hbg, hg, h1, h2, _⟩
  · simp at h'
  · simp only [Value.slice.injEq, Option.some.injEq, Addr.mk.injEq, and_true, true_and] at h'
    obtain ⟨rfl, rfl⟩ := h'
    exact ⟨h1, h2⟩
theorem RowW.cells (h : RowW enc w0 wr b n cap d) (j : Nat) (hj : j < d.length) : Cells wr b (j * 9) (enc d[j]).1 (enc d[j]).2 := by
  have := row_cells h.own (by simp [h.len]) j (by simpa using hj)
  simpa using this
theorem RowW.frozen (h : RowW enc w0 wr b n cap d) (o : Nat) : wr.frozen? ⟨b, o, none⟩ = false := h.own.frozenAt o
theorem RowW.below (h : RowW enc w0 wr b n cap d) {w' : World} (hb : Below wr.heap.size wr w') (hw : w0.heap.size ≤ wr.heap.size) : RowW enc w0 w' b n cap d :=
  ⟨row_same h.own (fun q hq => hb.block q (by
    have e : b = q := by simpa [Value.ownBlock] using hq
    have := h.lt
    omega)), h.len, h.touch.ofBelow hb hw⟩
theorem RowW.drewN (h : RowW enc w0 wr b n cap d) (k : Nat) : RowW enc w0 (wr.drewN k) b n cap d := ⟨h.own, h.len, h.touch.drewN k⟩
theorem RowW.set (h : RowW enc w0 wr b n cap d) (j : Nat) (hj : j < d.length) (x : α) : RowW enc w0 (set9 wr b (j * 9) (enc x).1 (enc x).2) b n cap (d.set j x) := by
  refine ⟨?_, by simp [h.len], h.touch.trans (set9_touch _ _ _ _ _) (fun _ _ e => e)⟩
  rw [List.map_set]
  exact set9_row h.own j (by simpa using hj) _ _
/-- two places are exchanged -/
theorem RowW.swap (h : RowW enc w0 wr b n cap d) (i j : Nat) (hi : i < d.length) (hj : j < d.length) :
    RowW enc w0 (set9 (set9 wr b (i * 9) (enc d[j]).1 (enc d[j]).2) b (j * 9) (enc d[i]).1 (enc d[i]).2).drew b n cap ((d.set i d[j]).set j d[i]) :=
  ((h.set i hi d[j]).set j (by simpa using hj) d[i]).drewN 1
theorem swap_adj (P Q : List α) (y x : α) : (((P ++ y :: x :: Q).set P.length x).set (P.length + 1) y) = P ++ x :: y :: Q := by
  rw [List.set_append_right _ _ (Nat.le_refl _), List.set_append_right _ _ (by omega)]
  simp
theorem swap_adj' (P Q : List α) (y x : α) : (((P ++ y :: x :: Q).set (P.length + 1) y).set P.length x) = P ++ x :: y :: Q := by
  rw [List.set_append_right _ _ (by omega), List.set_append_right _ _ (Nat.le_refl _)]
  simp
/-- what is asked of a comparison: in every world of the sort -/
structure CmpW (enc : α → TF × Value) (w0 : World) (b : Nat) (g : Nat) (S : α → Prop) (c : α → α → Int) : Prop where
  shape : ∀ x, S x → ∃ p m k, (enc x).2 = .slice p m k
  call : ∀ W x y, TouchB (fun k => k = b) w0 W → S x → S y → Calls Tryz.prog g #[aggV (enc x).1 (enc x).2, aggV (enc y).1 (enc y).2] W (IPostC (c x y) W)
end Go.Proofs.YtnakbepcalciiaaGreat.tm

/- slices.insertionSortCmpFunc at terms. Conditions: the comparison is a total preorder; the tags grow. -/
namespace Go.Proofs.YtnakbepcalciiaaGreat.tm
open Go.RowKit mem names
set_option linter.unusedVariables false
set_option linter.unusedSimpArgs false
set_option maxHeartbeats 1000000
set_option maxRecDepth 100000

variable {α : Type} {enc : α → TF × Value} {w0 wr w : World} {b n cap : Nat} {d : List α} {S : α → Prop} {c : α → α → Int} {tg : α → Nat}
/-- less, or equal and earlier -/
def tlt (c : α → α → Int) (tg : α → Nat) (x y : α) : Prop := c x y < 0 ∨ (c x y = 0 ∧ tg x < tg y)
theorem tlt_trans (h : TP S c) {x y z : α} (hx : S x) (hy : S y) (hz : S z) (h1 : tlt c tg x y) (h2 : tlt c tg y z) : tlt c tg x z := by
  have k1 : c x y ≤ 0 := by rcases h1 with h | h <;> omega
  have k2 : c y z ≤ 0 := by rcases h2 with h | h <;> omega
  have k3 := h.trans x y z hx hy hz k1 k2
  by_cases e : c x z = 0
  · have := h.zero hx hy hz k1 k2 e
    rcases h1 with h1 | h1
    · omega
    · rcases h2 with h2 | h2
      · omega
      · exact .inr ⟨e, by omega⟩
  · exact .inl (by omega)
/-- one element is put in -/
structure InsInv (S : α → Prop) (c : α → α → Int) (tg : α → Nat) (S1 : List α) (x : α) (S2 : List α) : Prop where
  sorted : (S1 ++ S2).Pairwise (tlt c tg)
  tags : ∀ s ∈ S1 ++ S2, tg s < tg x
  less : ∀ s ∈ S2, tlt c tg x s
  ok : ∀ s ∈ S1 ++ x :: S2, S s
theorem InsInv.step {S1 S2 : List α} {x y : α} (h : InsInv S c tg (S1 ++ [y]) x S2) (hlt : c x y < 0) : InsInv S c tg S1 x (y :: S2) := by
  obtain ⟨h1, h2, h3, h4⟩ := h
  refine ⟨by simpa using h1, fun s hs => h2 s (by simpa using hs), fun s hs => ?_, fun s hs => h4 s (by simp at hs ⊢; rcases hs with h | h | h | h <;> simp [h])⟩
  rcases List.mem_cons.1 hs with rfl | hs
  · exact .inl hlt
  · exact h3 s hs
theorem InsInv.stop {S1 S2 : List α} {x : α} (htp : TP S c) (h : InsInv S c tg S1 x S2) (hs : ∀ T y, S1 = T ++ [y] → 0 ≤ c x y) : (S1 ++ x :: S2).Pairwise (tlt c tg) := by
  obtain ⟨h1, h2, h3, h4⟩ := h
  rw [List.pairwise_append] at h1 ⊢
  refine ⟨h1.1, List.pairwise_cons.2 ⟨h3, h1.2.1⟩, fun s hs1 t ht => ?_⟩
  rcases List.mem_cons.1 ht with rfl | ht
  · rcases List.eq_nil_or_concat S1 with rfl | ⟨T, y, rfl⟩
    · simp at hs1
    · rw [List.concat_eq_append] at *
      have hy := hs T y rfl
      have e := htp.anti t y
      have hyt : tlt c tg y t := by
        by_cases e0 : c y t = 0
        · exact .inr ⟨e0, h2 y (by simp)⟩
        · exact .inl (by omega)
      rcases List.mem_append.1 hs1 with hs2 | hs2
      · have : tlt c tg s y := (List.pairwise_append.1 h1.1).2.2 s hs2 y (by simp)
        exact tlt_trans htp (h4 s (by simp [hs2])) (h4 y (by simp)) (h4 t (by simp)) this hyt
      · simp at hs2; subst hs2; exact hyt
  · exact h1.2.2 s hs1 t ht
def SortPost (c : α → α → Int) (tg : α → Nat) (enc : α → TF × Value) (w0 : World) (b n cap : Nat) (A M C : List α) (e : Ending) (w' : World) : Prop :=
  e = .returned (.tuple #[]) ∧ ∃ M', M'.Perm M ∧ M'.Pairwise (tlt c tg) ∧ RowW enc w0 w' b n cap (A ++ M' ++ C)
theorem getElem_mid (P Q : List α) (x : α) {i : Nat} (hi : i = P.length) (h : i < (P ++ x :: Q).length) : (P ++ x :: Q)[i] = x := by
  subst hi
  rw [List.getElem_append_right (Nat.le_refl _)]
  simp
def InRow (enc : α → TF × Value) (w0 wr : World) (b n cap : Nat) (A C : List α) (S : α → Prop) (c : α → α → Int) (tg : α → Nat) (T U : List α) (x : α) (a j : Nat) : Prop :=
  ∃ S1 S2, a + S1.length = j ∧ InsInv S c tg S1 x S2 ∧ (S1 ++ S2).Perm T ∧ RowW enc w0 wr b n cap (A ++ (S1 ++ x :: S2 ++ U) ++ C)
theorem RowW.cellsAt {P Q : List α} {x : α} (h : RowW enc w0 wr b n cap (P ++ x :: Q)) {i : Nat} (hi : P.length = i) : Cells wr b (i * 9) (enc x).1 (enc x).2 := by
  have := h.cells i (by simp; omega)
  rwa [getElem_mid P Q x hi.symm] at this
theorem RowW.swapAdj {P Q : List α} {x y : α} (h : RowW enc w0 wr b n cap (P ++ y :: x :: Q)) {jp : Nat} (hi : P.length = jp) : RowW enc w0 (set9 (set9 wr b ((jp + 1) * 9) (enc y).1 (enc y).2) b (jp * 9) (enc x).1 (enc x).2).drew b n cap (P ++ x :: y :: Q) := by
  subst hi
  have := h.swap (P.length + 1) P.length (by simp) (by simp)
  rw [getElem_mid P (x :: Q) y rfl, show (P ++ y :: x :: Q)[P.length + 1]'(by simp) = x by rw [List.getElem_append_right (by omega)]; simp, swap_adj'] at this
  exact this
theorem InRow.drewN {A C T U : List α} {x : α} {a j : Nat} (h : InRow enc w0 wr b n cap A C S c tg T U x a j) (q : Nat) : InRow enc w0 (wr.drewN q) b n cap A C S c tg T U x a j := by
  obtain ⟨S1, S2, h1, h2, h3, h4⟩ := h
  exact ⟨S1, S2, h1, h2, h3, h4.drewN q⟩
def OutRow (enc : α → TF × Value) (w0 wr : World) (b n cap : Nat) (A M C : List α) (c : α → α → Int) (tg : α → Nat) (a i : Nat) : Prop :=
  ∃ T0 T U, a + T.length = i ∧ M = T0 ++ U ∧ T.Perm T0 ∧ T.Pairwise (tlt c tg) ∧ RowW enc w0 wr b n cap (A ++ (T ++ U) ++ C)
/-- the next element is taken in hand -/
theorem OutRow.take {A M C : List α} {a i e : Nat} (h : OutRow enc w0 wr b n cap A M C c tg a i) (he : a + M.length = e) (hi : i < e) (hS : ∀ x ∈ M, S x) (hT : M.Pairwise (fun x y => tg x < tg y)) :
    ∃ T0 T U x, a + T0.length = i ∧ M = T0 ++ x :: U ∧ T.Perm T0 ∧ S x ∧ InRow enc w0 wr b n cap A C S c tg T U x a i := by
  obtain ⟨T0, T, U, h1, h2, h3, h4, h5⟩ := h
  have hl := h3.length_eq
  cases U with
  | nil => subst h2; simp at he; omega
  | cons x U =>
    have hx : S x := hS x (by rw [h2]; simp)
    refine ⟨T0, T, U, x, by omega, h2, h3, hx, T, [], h1, ⟨by simpa using h4, fun s hs => ?_, fun s hs => by simp at hs, fun s hs => ?_⟩, by simp, by simpa using h5⟩
    · rw [List.append_nil] at hs
      rw [h2, List.pairwise_append] at hT
      exact hT.2.2 s (h3.mem_iff.1 hs) x (by simp)
    · rcases List.mem_append.1 hs with hs | hs
      · exact hS s (by rw [h2]; simp [h3.mem_iff.1 hs])
      · simp at hs; subst hs; exact hx
/-- the next element has been put in -/
theorem InRow.done {A M C T0 T U : List α} {x : α} {a i j : Nat} (htp : TP S c) (h : InRow enc w0 wr b n cap A C S c tg T U x a j) (hM : M = T0 ++ x :: U) (hT : T.Perm T0) (hi : a + T0.length = i) (hs : ∀ S1 S2, a + S1.length = j → RowW enc w0 wr b n cap (A ++ (S1 ++ x :: S2 ++ U) ++ C) → ∀ R y, S1 = R ++ [y] → 0 ≤ c x y) : OutRow enc w0 wr b n cap A M C c tg a (i + 1) := by
  obtain ⟨S1, S2, h1, h2, h3, h4⟩ := h
  have hl := (h3.trans hT).length_eq
  refine ⟨T0 ++ [x], S1 ++ x :: S2, U, by simp at hl ⊢; omega, by simp [hM], ?_, h2.stop htp (hs S1 S2 h1 h4), h4⟩
  exact (List.perm_middle).trans ((List.Perm.cons x (h3.trans hT)).trans (List.perm_append_singleton x T0).symm)
/-- the element before the one in hand -/
theorem InRow.before {A C T U : List α} {x : α} {a j : Nat} (h : InRow enc w0 wr b n cap A C S c tg T U x a j) (hA : A.length = a) (hj : a < j) : ∃ jp P y Q, j = jp + 1 ∧ P.length = jp ∧ S x ∧ S y ∧ RowW enc w0 wr b n cap (P ++ y :: x :: Q) ∧ jp + 1 < n ∧
    (∀ S1 S2, a + S1.length = j → RowW enc w0 wr b n cap (A ++ (S1 ++ x :: S2 ++ U) ++ C) → ∀ R y', S1 = R ++ [y'] → RowW enc w0 wr b n cap (P ++ y :: x :: Q) → True) ∧
    (c x y < 0 → ∀ w', RowW enc w0 w' b n cap (P ++ x :: y :: Q) → InRow enc w0 w' b n cap A C S c tg T U x a jp) ∧
    (∀ w', RowW enc w0 w' b n cap (P ++ y :: x :: Q) → InRow enc w0 w' b n cap A C S c tg T U x a j) ∧
    (0 ≤ c x y → ∀ M T0 w', TP S c → RowW enc w0 w' b n cap (P ++ y :: x :: Q) → M = T0 ++ x :: U → T.Perm T0 → OutRow enc w0 w' b n cap A M C c tg a (a + T0.length + 1)) := by
  obtain ⟨S1, S2, h1, h2, h3, h4⟩ := h
  rcases List.eq_nil_or_concat S1 with rfl | ⟨R, y, rfl⟩
  · simp at h1; omega
  rw [List.concat_eq_append] at *
  have eq : ∀ (p q : α), A ++ (R ++ p :: q :: S2 ++ U) ++ C = (A ++ R) ++ p :: q :: (S2 ++ U ++ C) := fun p q => by simp
  have eq1 : A ++ (R ++ [y] ++ x :: S2 ++ U) ++ C = (A ++ R) ++ y :: x :: (S2 ++ U ++ C) := by simp
  have h4' := h4
  rw [eq1] at h4'
  have hl := h4'.len
  have h1' : a + R.length + 1 = j := by simp at h1; omega
  refine ⟨a + R.length, A ++ R, y, S2 ++ U ++ C, h1'.symm, by simp [hA], h2.ok x (by simp), h2.ok y (by simp), h4', by simp at hl; omega, fun _ _ _ _ _ _ _ _ => trivial, fun hlt w' hw => ?_, fun w' hw => ?_, fun hge M T0 w' htp hw hM hT => ?_⟩
  · refine ⟨R, y :: S2, rfl, h2.step hlt, by simpa using h3, ?_⟩
    rw [eq x y]; exact hw
  · refine ⟨R ++ [y], S2, by simp; omega, h2, h3, ?_⟩
    rw [eq1]; exact hw
  · have hll := (h3.trans hT).length_eq
    refine ⟨T0 ++ [x], R ++ [y] ++ x :: S2, U, by simp at hll ⊢; omega, by simp [hM], ?_, h2.stop htp (fun R' y' e => ?_), ?_⟩
    · exact (List.perm_middle).trans ((List.Perm.cons x (h3.trans hT)).trans (List.perm_append_singleton x T0).symm)
    · have := List.append_inj_right' e (by simp)
      simp at this; subst this; exact hge
    · rw [eq1]; exact hw
set_option maxHeartbeats 2000000 in
theorem insSort (hC : CmpW enc w0 b 179 S c) (htp : TP S c) (A M C : List α) (hS : ∀ x ∈ M, S x) (hT : M.Pairwise (fun x y => tg x < tg y)) (h : RowW enc w0 w b n cap (A ++ M ++ C)) (a e : Nat) (ha : A.length = a) (he : a + M.length = e) (hn : n ≤ 1000000) :
    Calls Tryz.prog 228 #[.slice (some ⟨b, 0, none⟩) n cap, .int .i64 a, .int .i64 e, .func (.func 179) #[] #[]] w (SortPost c tg enc w0 b n cap A M C) := by
  have hlen := h.len
  have hen : e ≤ n := by rw [← hlen]; simp; omega
  by_cases hM : M = []
  · subst hM
    simp at he
    subst he
    go_enter Tryz.func228, Tryz.ntmps228
    go_wp2_with fail
    refine wp_loop_rounds 1 ?_
    rw [rounds_succ]
    go_wp2_with fail
    go_end0
    exact ⟨rfl, [], by simp, by simp, by simpa using h⟩
  have hae : a < e := by have := List.length_pos_iff.2 hM; omega
  have HTake := Lib.hid (fun wr i (h : OutRow enc w0 wr b n cap A M C c tg a i) (hi : i < e) => h.take he hi hS hT)
  have HStart : Hid (OutRow enc w0 w b n cap A M C c tg a (a + 1)) := Lib.hid (by
    cases M with
    | nil => exact absurd rfl hM
    | cons x M => exact ⟨[x], [x], M, rfl, rfl, List.Perm.refl _, by simp, by simpa using h⟩)
  have HEnd : Hid (∀ wr, OutRow enc w0 wr b n cap A M C c tg a e → ∃ M', M'.Perm M ∧ M'.Pairwise (tlt c tg) ∧ RowW enc w0 wr b n cap (A ++ M' ++ C)) := Lib.hid (by
    rintro wr ⟨T0, T, U, h1, h2, h3, h4, h5⟩
    have hl := h3.length_eq
    have hU : U = [] := by
      have := congrArg List.length h2
      simp at this
      exact List.eq_nil_of_length_eq_zero (by omega)
    subst hU
    rw [List.append_nil] at h2 h5
    subst h2
    exact ⟨T, h3, h4, h5⟩)
  have HA := Lib.hid ha
  have HSh := Lib.hid hC.shape
  have HCall := Lib.hid hC.call
  have HTP := Lib.hid htp
  clear hS hT ha he hlen h hM hC htp
  go_enter Tryz.func228, Tryz.ntmps228
  go_wp2_with fail
  go_loopw [8] (fun s wr => ∃ i : Nat, s = .int .i64 i ∧ a < i ∧ i ≤ e ∧ Hid (OutRow enc w0 wr b n cap A M C c tg a i)) (fun s _ => e - (intOf s).toNat)
  case atStart => exact ⟨a + 1, by go_num, by omega, by omega, HStart⟩
  case round =>
    obtain ⟨i, rfl, hai, hie, HR⟩ := hrel
    by_cases hlt : i < e
    · obtain ⟨T0, T, U, x, hi0, hM, hT, hSx, hIn⟩ := HTake.out wr i HR.out hlt
      have HM := Lib.hid hM
      have HT := Lib.hid hT
      have HIn := Lib.hid hIn
      have HI0 := Lib.hid hi0
      have hsx := HSh.out x hSx
      clear hM hT hIn HR hi0
      go_wp2_with fail
      obtain ⟨wo, rfl⟩ : ∃ wo : World, wo = wr := ⟨_, rfl⟩
      go_loopw [9] (fun s wr => ∃ j : Nat, s = .int .i64 j ∧ a ≤ j ∧ j ≤ i ∧ Hid (InRow enc w0 wr b n cap A C S c tg T U x a j)) (fun s _ => (intOf s).toNat)
      case atStart => exact ⟨i, rfl, by omega, by omega, HIn⟩
      case round =>
        obtain ⟨j, rfl, haj, hji, HJ⟩ := hrel
        by_cases hlj : a < j
        · obtain ⟨jp, P, y, Q, rfl, hP, _, hSy, hRow, hjn, _, hMove, _, hDone⟩ := HJ.out.before HA.out hlj
          have HMove := Lib.hid hMove
          have HDone := Lib.hid hDone
          have HRow := Lib.hid hRow
          have HP := Lib.hid hP
          have hsy := HSh.out y hSy
          have hcx : Cells wr b ((jp + 1) * 9) (enc x).1 (enc x).2 := RowW.cellsAt (P := P ++ [y]) (Q := Q) (by simpa using hRow) (by simp [hP])
          have hcy : Cells wr b (jp * 9) (enc y).1 (enc y).2 := hRow.cellsAt hP
          have hbl : b < wr.heap.size := hRow.lt
          have HC := Lib.hid (HCall.out wr.drew x y (hRow.touch.drewN 1) hSx hSy)
          have HFz : Hid (∀ o, wr.frozen? ⟨b, o, none⟩ = false) := Lib.hid (fun o => hRow.frozen o)
          obtain ⟨p1, m1, c1, ex⟩ := hsx
          obtain ⟨p2, m2, c2, ey⟩ := hsy
          have hZc : ∃ z, c x y = z := ⟨_, rfl⟩
          obtain ⟨z, hz⟩ := hZc
          have HZ := Lib.hid hz
          rw [hz] at HC
          obtain ⟨X, eX⟩ : ∃ X, enc x = X := ⟨_, rfl⟩
          obtain ⟨Y, eY⟩ : ∃ Y, enc y = Y := ⟨_, rfl⟩
          have HEX := Lib.hid eX
          have HEY := Lib.hid eY
          rw [eX] at hcx HC ex
          rw [eY] at hcy HC ey
          obtain ⟨⟨k1, i1, g1, n1, fn1, a1, by1, s1⟩, v1⟩ := X
          obtain ⟨⟨k2, i2, g2, n2, fn2, a2, by2, s2⟩, v2⟩ := Y
          dsimp only at hcx hcy HC ex ey
          subst ex
          subst ey
          clear eX eY hz hP hRow hMove hDone
          have HA1 := Lib.hid hcx
          have HB1 := Lib.hid hcy
          unfold aggV IPostC at HC
          dsimp only at HC
          obtain ⟨x0, x1, x2, x3, x4, x5, x6, x7, x8⟩ := hcx
          obtain ⟨y0, y1, y2, y3, y4, y5, y6, y7, y8⟩ := hcy
          dsimp only at x0 x1 x2 x3 x4 x5 x6 x7 x8 y0 y1 y2 y3 y4 y5 y6 y7 y8
          have r1 : (a : Int) < (jp : Int) + 1 := by omega
          have r2 : (jp : Int) + 1 < (n : Int) := by omega
          have r3 : (jp : Int) < (n : Int) := by omega
          have r4 : (0 : Int) ≤ (jp : Int) + 1 := by omega
          have r5 : ((jp : Int) + 1).toNat = jp + 1 := by omega
          have r6 : IntKind.i64.wrap (jp : Int) = (jp : Int) := IntWalk.i64_in _ (by omega)
          by_cases hlz : z < 0
          · have q1 : decide (z < 0) = true := decide_eq_true hlz
            go_wp2_with fail
            go_region_held3 (fun w' => (w'.cell? ⟨b, (jp + 1) * 9, none⟩ = some (.int .i64 k1) ∧ w'.cell? ⟨b, (jp + 1) * 9 + 1, none⟩ = some (.int .i64 i1) ∧ w'.cell? ⟨b, (jp + 1) * 9 + 1 + 1, none⟩ = some (.int .i64 g1) ∧ w'.cell? ⟨b, (jp + 1) * 9 + 1 + 1 + 1, none⟩ = some (.string n1) ∧ w'.cell? ⟨b, (jp + 1) * 9 + 1 + 1 + 1 + 1, none⟩ = some (.string fn1) ∧ w'.cell? ⟨b, (jp + 1) * 9 + 1 + 1 + 1 + 1 + 1, none⟩ = some (.int .i64 a1) ∧ w'.cell? ⟨b, (jp + 1) * 9 + 1 + 1 + 1 + 1 + 1 + 1, none⟩ = some (.slice p1 m1 c1) ∧ w'.cell? ⟨b, (jp + 1) * 9 + 1 + 1 + 1 + 1 + 1 + 1 + 1, none⟩ = some (.string by1) ∧ w'.cell? ⟨b, (jp + 1) * 9 + 1 + 1 + 1 + 1 + 1 + 1 + 1 + 1, none⟩ = some (.int .i64 s1)) ∧ w'.cell? ⟨b, jp * 9, none⟩ = some (.int .i64 k2) ∧ w'.cell? ⟨b, jp * 9 + 1, none⟩ = some (.int .i64 i2) ∧ w'.cell? ⟨b, jp * 9 + 1 + 1, none⟩ = some (.int .i64 g2) ∧ w'.cell? ⟨b, jp * 9 + 1 + 1 + 1, none⟩ = some (.string n2) ∧ w'.cell? ⟨b, jp * 9 + 1 + 1 + 1 + 1, none⟩ = some (.string fn2) ∧ w'.cell? ⟨b, jp * 9 + 1 + 1 + 1 + 1 + 1, none⟩ = some (.int .i64 a2) ∧ w'.cell? ⟨b, jp * 9 + 1 + 1 + 1 + 1 + 1 + 1, none⟩ = some (.slice p2 m2 c2) ∧ w'.cell? ⟨b, jp * 9 + 1 + 1 + 1 + 1 + 1 + 1 + 1, none⟩ = some (.string by2) ∧ w'.cell? ⟨b, jp * 9 + 1 + 1 + 1 + 1 + 1 + 1 + 1 + 1, none⟩ = some (.int .i64 s2)) (go_keep)
              (first
                | (go_at_call 179; (with_reducible refine HC.out.mono ?_); rintro e5 w5 ⟨rfl, hb5⟩; have HA5 := Lib.hid (HA1.out.same (hb5.block b hbl)); have HB5 := Lib.hid (HB1.out.same (hb5.block b hbl)); obtain ⟨z0, z1, z2, z3, z4, z5, z6, z7, z8⟩ := HA5.out; obtain ⟨t0, t1, t2, t3, t4, t5, t6, t7, t8⟩ := HB5.out; dsimp only at z0 z1 z2 z3 z4 z5 z6 z7 z8 t0 t1 t2 t3 t4 t5 t6 t7 t8))
            have hr5 : RowW enc w0 w5 b n cap (P ++ y :: x :: Q) := (HRow.out.drewN 1).below hb5 HRow.out.touch.size
            have hfin := hr5.swapAdj HP.out
            rw [HEX.out, HEY.out] at hfin
            unfold set9 at hfin
            dsimp only at hfin
            have HFin := Lib.hid (HMove.out (by rw [HZ.out]; exact hlz) _ hfin)
            have hfz5 : ∀ o, w5.frozen? ⟨b, o, none⟩ = false := fun o => hr5.frozen o
            clear hr5 hfin hb5 HC HA1 HB1 HA5 HB5 HRow HDone HMove HFz x0 x1 x2 x3 x4 x5 x6 x7 x8 y0 y1 y2 y3 y4 y5 y6 y7 y8
            go_wp2_with fail
            go_big_region
            go_wp2_with fail
            go_roundw
            case rel => exact ⟨jp, by go_num, by omega, by omega, HFin⟩
            case measure => simp [intOf]
          · have q1 : decide (z < 0) = false := decide_eq_false hlz
            go_wp2_with fail
            go_region_held3 (fun w' => (w'.cell? ⟨b, (jp + 1) * 9, none⟩ = some (.int .i64 k1) ∧ w'.cell? ⟨b, (jp + 1) * 9 + 1, none⟩ = some (.int .i64 i1) ∧ w'.cell? ⟨b, (jp + 1) * 9 + 1 + 1, none⟩ = some (.int .i64 g1) ∧ w'.cell? ⟨b, (jp + 1) * 9 + 1 + 1 + 1, none⟩ = some (.string n1) ∧ w'.cell? ⟨b, (jp + 1) * 9 + 1 + 1 + 1 + 1, none⟩ = some (.string fn1) ∧ w'.cell? ⟨b, (jp + 1) * 9 + 1 + 1 + 1 + 1 + 1, none⟩ = some (.int .i64 a1) ∧ w'.cell? ⟨b, (jp + 1) * 9 + 1 + 1 + 1 + 1 + 1 + 1, none⟩ = some (.slice p1 m1 c1) ∧ w'.cell? ⟨b, (jp + 1) * 9 + 1 + 1 + 1 + 1 + 1 + 1 + 1, none⟩ = some (.string by1) ∧ w'.cell? ⟨b, (jp + 1) * 9 + 1 + 1 + 1 + 1 + 1 + 1 + 1 + 1, none⟩ = some (.int .i64 s1)) ∧ w'.cell? ⟨b, jp * 9, none⟩ = some (.int .i64 k2) ∧ w'.cell? ⟨b, jp * 9 + 1, none⟩ = some (.int .i64 i2) ∧ w'.cell? ⟨b, jp * 9 + 1 + 1, none⟩ = some (.int .i64 g2) ∧ w'.cell? ⟨b, jp * 9 + 1 + 1 + 1, none⟩ = some (.string n2) ∧ w'.cell? ⟨b, jp * 9 + 1 + 1 + 1 + 1, none⟩ = some (.string fn2) ∧ w'.cell? ⟨b, jp * 9 + 1 + 1 + 1 + 1 + 1, none⟩ = some (.int .i64 a2) ∧ w'.cell? ⟨b, jp * 9 + 1 + 1 + 1 + 1 + 1 + 1, none⟩ = some (.slice p2 m2 c2) ∧ w'.cell? ⟨b, jp * 9 + 1 + 1 + 1 + 1 + 1 + 1 + 1, none⟩ = some (.string by2) ∧ w'.cell? ⟨b, jp * 9 + 1 + 1 + 1 + 1 + 1 + 1 + 1 + 1, none⟩ = some (.int .i64 s2)) (go_keep)
              (first
                | (go_at_call 179; (with_reducible refine HC.out.mono ?_); rintro e5 w5 ⟨rfl, hb5⟩; have HA5 := Lib.hid (HA1.out.same (hb5.block b hbl)); have HB5 := Lib.hid (HB1.out.same (hb5.block b hbl)); obtain ⟨z0, z1, z2, z3, z4, z5, z6, z7, z8⟩ := HA5.out; obtain ⟨t0, t1, t2, t3, t4, t5, t6, t7, t8⟩ := HB5.out; dsimp only at z0 z1 z2 z3 z4 z5 z6 z7 z8 t0 t1 t2 t3 t4 t5 t6 t7 t8))
            have hr5 : RowW enc w0 w5 b n cap (P ++ y :: x :: Q) := (HRow.out.drewN 1).below hb5 HRow.out.touch.size
            have HFin := Lib.hid (HDone.out (by rw [HZ.out]; omega) M T0 w5 HTP.out hr5 HM.out HT.out)
            rw [HI0.out] at HFin
            clear hr5 hb5 HC HA1 HB1 HA5 HB5 HRow HDone HMove HFz x0 x1 x2 x3 x4 x5 x6 x7 x8 y0 y1 y2 y3 y4 y5 y6 y7 y8
            go_wp2_with fail
            go_roundw
            case rel => exact ⟨i + 1, by go_num, by omega, by omega, HFin⟩
            case measure => simp [intOf]; omega
        · have hja : j = a := by omega
          have HJA := Lib.hid hja
          have q1 : ¬ ((a : Int) < (j : Int)) := by omega
          have q2 : decide ((a : Int) < (j : Int)) = false := decide_eq_false q1
          have q3 : ¬ a < j := by omega
          have q4 : decide (a < j) = false := decide_eq_false q3
          clear hja hlj
          have HJ2 := Lib.hid (HJ.out.drewN 1)
          go_wp2_with fail
          go_big_region
          change Hid (InRow enc w0 wr.drew b n cap A C S c tg T U x a j) at HJ2
          generalize wr.drew = w5 at *
          go_wp2_with fail
          go_roundw
          case rel => exact ⟨i + 1, by go_num, by omega, by omega, Lib.hid (HJ2.out.done HTP.out HM.out HT.out HI0.out (fun S1 S2 h1 _ R y e => by subst e; have := HJA.out; simp at h1; omega))⟩
          case measure => simp [intOf]; omega
    · obtain rfl : i = e := by omega
      go_wp2_with fail
      go_end0
      exact ⟨rfl, HEnd.out _ HR.out⟩
end Go.Proofs.YtnakbepcalciiaaGreat.tm

/- Stable order: one list alone is it. No condition. -/
namespace Go.Proofs.YtnakbepcalciiaaGreat.tm
set_option linter.unusedVariables false
set_option linter.unusedSimpArgs false

theorem tpV {n : Nat} : TP (fun _ : Tm (n + 1) => True) (cmpV (n := n)) := by
  have h := (ordT (n + 1)).tp
  refine ⟨fun a b => ?_, fun a b => ?_, fun a b d _ _ _ x y => ?_⟩
  · unfold cmpV
    repeat' split
    all_goals first | exact h.range a b | simp
  · have e := h.anti a b
    unfold cmpV
    by_cases ha : validT a = true <;> by_cases hb : validT b = true <;> simp [ha, hb, e]
  · unfold cmpV at *
    by_cases ha : validT a = true <;> by_cases hb : validT b = true <;> by_cases hd : validT d = true <;> simp [ha, hb, hd] at x y ⊢
    exact h.trans a b d (valid_formed ha) (valid_formed hb) (valid_formed hd) x y
variable {β : Type} {c : β → β → Int}
def leB (c : β → β → Int) (x y : β) : Bool := decide (c x y ≤ 0)
theorem sort_unique (h : TP (fun _ => True) c) (l : List β) (p : List (Nat × β)) (hp : (p.map fun x => (x.2, x.1)).Perm l.zipIdx) (hs : p.Pairwise (tlt (fun x y : Nat × β => c x.2 y.2) (fun x => x.1))) : p.map (fun x => x.2) = l.mergeSort (leB c) := by
  rw [← List.mergeSort_zipIdx]
  have htr : ∀ a b d, leB c a b = true → leB c b d = true → leB c a d = true := fun a b d x y => by
    unfold leB at *
    rw [decide_eq_true_eq] at *
    exact h.trans a b d trivial trivial trivial x y
  have hto : ∀ a b, (leB c a b || leB c b a) = true := fun a b => by
    unfold leB
    have := h.anti a b
    rw [Bool.or_eq_true, decide_eq_true_eq, decide_eq_true_eq]; omega
  have e : (p.map fun x => (x.2, x.1)) = l.zipIdx.mergeSort (List.zipIdxLE (leB c)) := by
    refine List.Perm.eq_of_pairwise (le := fun a b => List.zipIdxLE (leB c) a b = true) ?_ ?_ ?_ (hp.trans (List.mergeSort_perm _ _).symm)
    · rintro ⟨a, i⟩ ⟨b, j⟩ ha hb h1 h2
      have hij : i = j := by
        unfold List.zipIdxLE leB at h1 h2
        have := h.anti a b
        simp only [decide_eq_true_eq] at h1 h2
        repeat' split at h1
        all_goals (repeat' split at h2)
        all_goals first | (cases h1; done) | (cases h2; done) | (simp at h1 h2; omega) | omega
      subst hij
      have ha' := hp.mem_iff.1 ha
      have hb' := List.mem_mergeSort.1 hb
      rw [List.mk_mem_zipIdx_iff_getElem?] at ha' hb'
      rw [ha'] at hb'
      simp only [Option.some.injEq] at hb'
      rw [hb']
    · rw [List.pairwise_map]
      refine hs.imp ?_
      rintro ⟨i, a⟩ ⟨j, b⟩ h1
      unfold tlt at h1
      unfold List.zipIdxLE leB
      dsimp only at h1 ⊢
      have := h.anti a b
      rcases h1 with h1 | ⟨h1, h2⟩
      · rw [if_pos (by rw [decide_eq_true_eq]; omega), if_neg (by rw [decide_eq_true_eq]; omega)]
      · rw [if_pos (by rw [decide_eq_true_eq]; omega), if_pos (by rw [decide_eq_true_eq]; omega)]
        exact decide_eq_true (by omega)
    · exact List.pairwise_mergeSort (List.zipIdxLE_trans htr) (List.zipIdxLE_total hto) _
  rw [← e, List.map_map]
  rfl
end Go.Proofs.YtnakbepcalciiaaGreat.tm
