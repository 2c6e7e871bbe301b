/- Several texts in one, one behind the other: TmJ, TmK, TmL, TmM. No condition beyond theirs. -/
import Derived.Test.YthgfdpamnepnfaaGb
import Derived.Laws.EntriesVeiled
import Derived.Deep.RegionHeld3
import Derived.Deep.CutRange
/- terms.kinds, the measure. No condition. -/
namespace Go.Proofs.Ythgfdpamnepnfaa.tm
open Go.RowKit mem names
set_option linter.unusedVariables false
set_option linter.unusedSimpArgs false
set_option maxHeartbeats 1000000
set_option maxRecDepth 100000

def fnV (k : Nat) : Value := .func (.func k) #[] #[]
def fnsV : Value := .agg #[.func (.func 92) #[] #[], .func (.func 93) #[] #[], .func (.func 94) #[] #[], .func (.func 89) #[] #[], .func (.func 95) #[] #[], .func (.func 96) #[] #[], .func (.func 89) #[] #[], .func (.func 97) #[] #[], .func (.func 98) #[] #[], .func (.func 99) #[] #[], .func (.func 100) #[] #[]]
theorem kinds (w : World) : Calls Try.prog 84 #[] w fun e w' => e = .returned fnsV ∧ Below w.heap.size w w' := by
  unfold fnsV
  go_enter Try.func84, Try.ntmps84
  go_wp2_with fail
  exact bodyPost_ret (v := .agg #[.func (.func 92) #[] #[], .func (.func 93) #[] #[], .func (.func 94) #[] #[], .func (.func 89) #[] #[], .func (.func 95) #[] #[], .func (.func 96) #[] #[], .func (.func 89) #[] #[], .func (.func 97) #[] #[], .func (.func 98) #[] #[], .func (.func 99) #[] #[], .func (.func 100) #[] #[]]) (by simp [results, Try.results84, go_sem, *]) rfl ⟨rfl, by (repeat' (first | with_reducible exact Below.refl _ _ | with_reducible exact Nat.le_refl _ | with_reducible refine Below.setCell ?_ ?_ _ | with_reducible refine Below.alloc ?_ ?_ _ | (simp; done) | (simp; omega)))⟩
def fnum (k : Int) : Nat := if k = 0 then 92 else if k = 1 then 93 else if k = 2 then 94 else if k = 3 then 89 else if k = 4 then 95 else if k = 5 then 96 else if k = 6 then 89 else if k = 7 then 97 else if k = 8 then 98 else if k = 9 then 99 else 100
theorem last_cell {w : World} {B n : Nat} {p : Option Addr} {m c : Nat} {l : List (Tm n)} (h : ItemsAt w B n (.slice p m c) l) (h2 : 2 ≤ m) : ∃ g0 o0, p = some ⟨g0, o0, none⟩ ∧ w.cell? ⟨g0, o0 + (m - 1) * 9, none⟩ = some (.int .i64 (lastK n l)) ∧ g0 < B := by
  obtain ⟨p', c', e, _, _⟩ := h.shape
  simp only [Value.slice.injEq] at e
  obtain ⟨rfl, rfl, rfl⟩ := e
  cases n with
  | zero => rw [Tm.nil0 l] at h2; simp at h2
  | succ n =>
    obtain ⟨g, o, c2, e, _, _, hg, hx⟩ := h.at_ (by intro e; subst e; simp at h2)
    simp only [Value.slice.injEq] at e
    obtain ⟨u, hC, _⟩ := hx (l.length - 1) (by omega)
    refine ⟨g, o, e.1, ?_, hg⟩
    have : lastK (n + 1) l = (l[l.length - 1]'(by omega)).f.kind := by
      change (Option.map (fun t : Tm (n + 1) => t.f.kind) (List.getLast? l)).getD 0 = _
      rw [List.getLast?_eq_getElem?, List.getElem?_eq_getElem (by omega)]; rfl
    rw [this]; exact hC.c0
theorem kindAll {n : Nat} (f : TF) (v : Value) (l : List (Tm n)) (w : World) (B : Nat) (hB : B ≤ w.heap.size) (hI : ItemsAt w B n v l) (h0 : 0 ≤ f.kind) (h1 : f.kind ≤ 10) : Calls Try.prog (fnum f.kind) #[aggV f v] w (KPost f v l.length (lastK n l) w) := by
  obtain ⟨p, c, rfl, hn, hc⟩ := hI.shape
  unfold maxLen at hc
  have hlast := fun h2 => last_cell hI h2
  obtain ⟨k, i, g, nm, fn, ar, by_, bt⟩ := f
  dsimp only at h0 h1 ⊢
  have ways : k = 0 ∨ k = 1 ∨ k = 2 ∨ k = 3 ∨ k = 4 ∨ k = 5 ∨ k = 6 ∨ k = 7 ∨ k = 8 ∨ k = 9 ∨ k = 10 := by omega
  rcases ways with rfl | rfl | rfl | rfl | rfl | rfl | rfl | rfl | rfl | rfl | rfl
  · exact kind0 i g nm fn ar by_ bt p _ c _ w hn (by omega)
  · exact kindInt i g nm fn ar by_ bt p _ c _ w hn (by omega)
  · exact kindAtom i g nm fn ar by_ bt p _ c _ w hn (by omega)
  · exact kindRef i g nm fn ar by_ bt p _ c _ w hn (by omega)
  · exact kindClosure i g nm fn ar by_ bt p _ c _ w hn (by omega)
  · exact kindExport i g nm fn ar by_ bt p _ c _ w hn (by omega)
  · exact kindPid i g nm fn ar by_ bt p _ c _ w hn (by omega)
  · exact kindTuple i g nm fn ar by_ bt p _ c _ w hn (by omega)
  · exact kindNil i g nm fn ar by_ bt p _ c _ w hn (by omega)
  · exact kindList i g nm fn ar by_ bt p _ c _ w hn (by omega) (fun h2 => by obtain ⟨g0, o0, e1, e2, e3⟩ := hlast h2; exact ⟨g0, o0, e1, e2, by omega⟩)
  · exact kindBits i g nm fn ar by_ bt p _ c _ w

def measC (s : Int) : Obj := .cells #[.func (.func 92) #[] #[], .func (.func 93) #[] #[], .func (.func 94) #[] #[], .func (.func 89) #[] #[], .func (.func 95) #[] #[], .func (.func 96) #[] #[], .func (.func 89) #[] #[], .func (.func 97) #[] #[], .func (.func 98) #[] #[], .func (.func 99) #[] #[], .func (.func 100) #[] #[], .int .i64 s] 80
def Meas (w : World) (g : Nat) (s : Int) : Prop := w.heap[g]? = some (measC s)
theorem Meas.fn {w : World} {g : Nat} {s : Int} (h : Meas w g s) (k : Nat) (hk : k ≤ 10) : w.cell? ⟨g, k, none⟩ = some (.func (.func (fnum k)) #[] #[]) := by
  unfold Meas measC at h
  have ways : k = 0 ∨ k = 1 ∨ k = 2 ∨ k = 3 ∨ k = 4 ∨ k = 5 ∨ k = 6 ∨ k = 7 ∨ k = 8 ∨ k = 9 ∨ k = 10 := by omega
  rcases ways with rfl | rfl | rfl | rfl | rfl | rfl | rfl | rfl | rfl | rfl | rfl <;> (simp only [World.cell?, h]; rfl)
theorem Meas.size {w : World} {g : Nat} {s : Int} (h : Meas w g s) : w.cell? ⟨g, 11, none⟩ = some (.int .i64 s) := by
  unfold Meas measC at h; simp only [World.cell?, h]; rfl
theorem Meas.frozen {w : World} {g : Nat} {s : Int} (h : Meas w g s) (o : Nat) : w.frozen? ⟨g, o, none⟩ = false := by
  unfold Meas measC at h; simp only [World.frozen?, h]; simp
theorem Meas.lt {w : World} {g : Nat} {s : Int} (h : Meas w g s) : g < w.heap.size := by
  rcases Nat.lt_or_ge g w.heap.size with h1 | h1
  · exact h1
  · unfold Meas at h; rw [Array.getElem?_eq_none h1] at h; cases h
theorem Meas.set {w : World} {g : Nat} {s : Int} (h : Meas w g s) (s' : Int) : Meas (w.setCell ⟨g, 11, none⟩ (.int .i64 s')) g s' := by
  have hl := h.lt
  unfold Meas measC at *
  unfold World.setCell
  rw [Array.getElem?_modify, if_pos rfl, h]
  rfl
theorem Meas.block {w w' : World} {g : Nat} {s : Int} (h : Meas w g s) (e : w'.heap[g]? = w.heap[g]?) : Meas w' g s := by
  unfold Meas at *; rw [e]; exact h
end Go.Proofs.Ythgfdpamnepnfaa.tm
/- terms: the measure's method. Conditions: the terms lie in memory, below the measure. -/
namespace Go.Proofs.Ythgfdpamnepnfaa.tm
open Go.RowKit mem names
set_option linter.unusedVariables false
set_option linter.unusedSimpArgs false
set_option maxHeartbeats 1000000
set_option maxRecDepth 100000

/-- what a measuring step leaves -/
def MPost (g : Nat) (s : Int) (b : Bool) (nodes : Nat) (whole : Int) (w : World) (e : Ending) (w' : World) : Prop :=
  e = .returned (.bool b) ∧ ∃ s', Meas w' g s' ∧ TouchB (fun k => k = g) w w' ∧ 0 ≤ s' ∧ s' ≤ s + 300 * nodes - 1 ∧ (b = true → s' = s + whole)
def ConS (n : Nat) : Prop := ∀ (w : World) (B g z : Nat) (v : Value) (l : List (Tm n)) (s : Int), B ≤ w.heap.size → ItemsAt w B n v l → Meas w g s → B ≤ g → w.cell? ⟨z, 0, none⟩ = some (.pointer (some ⟨g, 0, none⟩)) → z < w.heap.size → z ≠ g → 0 ≤ s → s + 300 * (nodesL n l : Int) - l.length ≤ 1000000000000 →
  Calls Try.prog 102 #[v, .func (.func 103) #[] #[.pointer (some ⟨z, 0, none⟩)]] w fun e w' => e = .returned (.bool (!formedL n l)) ∧ ∃ s', Meas w' g s' ∧ TouchB (fun k => k = g) w w' ∧ 0 ≤ s' ∧ s' ≤ s + 300 * nodesL n l - l.length ∧ (formedL n l = true → s' = s + wholeL n l)
def OfS (n : Nat) : Prop := ∀ (w : World) (B g : Nat) (v : Value) (t : Tm (n + 1)) (s : Int), B ≤ w.heap.size → ItemsAt w B n v t.items → Meas w g s → B ≤ g → 0 ≤ s → s + 300 * (nodesT t : Int) - 1 ≤ 1000000000000 →
  Calls Try.prog 85 #[.pointer (some ⟨g, 0, none⟩), aggV t.f v] w (MPost g s (formedT t) (nodesT t) (wholeT t) w)

theorem ofNo {n : Nat} (w : World) (g : Nat) (v : Value) (t : Tm (n + 1)) (s : Int) (hM : Meas w g s) (hs : 0 ≤ s) (hk : ¬ (0 ≤ t.f.kind ∧ t.f.kind ≤ 10)) (hv : ∃ p m c, v = .slice p m c) :
    Calls Try.prog 85 #[.pointer (some ⟨g, 0, none⟩), aggV t.f v] w (MPost g s (formedT t) (nodesT t) (wholeT t) w) := by
  have hno : formedT t = false := by
    unfold formedT okT
    rw [inB_f hk]; rfl
  rw [hno]
  obtain ⟨p, m, c, rfl⟩ := hv
  have hfin : ∀ w', TouchB (fun k => k = g) w w' → w'.heap[g]? = w.heap[g]? → MPost g s false (nodesT t) (wholeT t) w (.returned (.bool false)) w' := fun w' hb he => ⟨rfl, s, hM.block he, hb, hs, by have : 1 ≤ nodesT t := (by unfold nodesT; omega); omega, fun h => by cases h⟩
  have HF := Lib.hid hfin; clear hfin
  have hgl := hM.lt
  clear hM hno hs
  unfold aggV
  have hN1 : 1 ≤ nodesT t := by unfold nodesT; omega
  generalize nodesT t = N at *
  generalize wholeT t = W at *
  generalize t.f = f at *
  obtain ⟨k, i, gg, nm, fn, ar, by_, bt⟩ := f
  dsimp only at hk ⊢
  by_cases h0 : k < 0
  · have q : decide (k < 0) = true := decide_eq_true h0
    go_enter Try.func85, Try.ntmps85
    go_wp2_with fail
    go_ret
    exact HF.out _ (((TouchB.refl _ _).alloc _).alloc _) (by rw [Below.heap_alloc _ _ _ (by simp; omega), Below.heap_alloc _ _ _ hgl])
  · have h1 : 11 ≤ k := by omega
    have q : decide (k < 0) = false := decide_eq_false h0
    have q : decide (11 ≤ k) = true := decide_eq_true h1
    go_enter Try.func85, Try.ntmps85
    go_wp2_with fail
    go_ret
    exact HF.out _ (((TouchB.refl _ _).alloc _).alloc _) (by rw [Below.heap_alloc _ _ _ (by simp; omega), Below.heap_alloc _ _ _ hgl])
theorem box_two {w : World} {g : Nat} {f : TF} {v : Value} : ((w.alloc (.cells #[.pointer (some ⟨g, 0, none⟩)] 75)).alloc (cells9 f v)).heap[w.heap.size]? = some (.cells #[.pointer (some ⟨g, 0, none⟩)] 75) ∧ ((w.alloc (.cells #[.pointer (some ⟨g, 0, none⟩)] 75)).alloc (cells9 f v)).heap[w.heap.size + 1]? = some (cells9 f v) := by
  have h1 := (MapKept.heap_alloc w (.cells #[.pointer (some ⟨g, 0, none⟩)] 75)).1
  have h2 := (MapKept.heap_alloc (w.alloc (.cells #[.pointer (some ⟨g, 0, none⟩)] 75)) (cells9 f v)).1
  exact ⟨by rw [Below.heap_alloc _ _ _ (by simp)]; exact h1, by simpa using h2⟩
theorem set_blk {w : World} {z o : Nat} {u : Value} {c : Array Value} {e : TypeId} {fz : Nat × Nat} (h : w.heap[z]? = some (.cells c e fz)) : (w.setCell ⟨z, o, none⟩ u).heap[z]? = some (.cells (c.setIfInBounds o u) e fz) := by
  unfold World.setCell
  rw [Array.getElem?_modify, if_pos rfl, h]
  rfl
theorem nine_sets {w : World} {z : Nat} (f : TF) (v : Value) (h : w.heap[z]? = some (cells9 zeroF nilV)) : Nine (((((((((w.setCell ⟨z, 0, none⟩ (.int .i64 f.kind)).setCell ⟨z, 1, none⟩ (.int .i64 f.int)).setCell ⟨z, 2, none⟩ (.int .i64 f.gen)).setCell ⟨z, 3, none⟩ (.string f.name)).setCell ⟨z, 4, none⟩ (.string f.func)).setCell ⟨z, 5, none⟩ (.int .i64 f.arity)).setCell ⟨z, 6, none⟩ v).setCell ⟨z, 7, none⟩ (.string f.bytes)).setCell ⟨z, 8, none⟩ (.int .i64 f.bits)) z f v := by
  unfold cells9 zeroF nilV at h
  dsimp only at h
  have h := set_blk (o := 0) (u := .int .i64 f.kind) h
  have h := set_blk (o := 1) (u := .int .i64 f.int) h
  have h := set_blk (o := 2) (u := .int .i64 f.gen) h
  have h := set_blk (o := 3) (u := .string f.name) h
  have h := set_blk (o := 4) (u := .string f.func) h
  have h := set_blk (o := 5) (u := .int .i64 f.arity) h
  have h := set_blk (o := 6) (u := v) h
  have h := set_blk (o := 7) (u := .string f.bytes) h
  have h := set_blk (o := 8) (u := .int .i64 f.bits) h
  refine nine_of (h.trans ?_)
  simp [cells9]
theorem one_blk (W0 w1 : World) (hb : Below (W0.drew.alloc (cells9 zeroF nilV)).heap.size (W0.drew.alloc (cells9 zeroF nilV)) w1) : w1.heap[W0.heap.size]? = some (cells9 zeroF nilV) := by
  refine ((hb.block _ (by simp)).trans ?_)
  exact (MapKept.heap_alloc W0.drew (cells9 zeroF nilV)).1
theorem one_box (W0 w1 : World) (hb : Below (W0.drew.alloc (cells9 zeroF nilV)).heap.size (W0.drew.alloc (cells9 zeroF nilV)) w1) : Nine w1 W0.heap.size zeroF nilV := by
  refine nine_of ((hb.block _ (by simp)).trans ?_)
  exact (MapKept.heap_alloc W0.drew (cells9 zeroF nilV)).1
theorem okT_eq {n : Nat} (t : Tm (n + 1)) {f bf : TF} {p p3 : Option Addr} {len c n3 c3 : Nat} {ok : Bool} (h0 : 0 ≤ f.kind) (h1 : f.kind ≤ 10) (hF : t.f = f) (hbf : bareF f = bf) (hbv : bareV f (.slice p len c) = .slice p3 n3 c3) (hlen : t.items.length = len) (hok : okF f len (lastK n t.items) = ok) :
    okT t = (ok && (eqB { bf with kind := 0 } zeroF && decide (n3 = 0))) := by
  unfold okT bareOK
  rw [hF, hlen, hbf, hok, inB_t ⟨h0, h1⟩, Bool.true_and]
  congr 3
  unfold bareV nilV at hbv
  split at hbv
  · rename_i h; rw [if_pos h]; simp only [Value.slice.injEq] at hbv; rw [hbv.2.1]
  · rename_i h; rw [if_neg h]; simp only [Value.slice.injEq] at hbv; rw [hbv.2.1]
theorem formedT_eq {n : Nat} (t : Tm (n + 1)) {b : Bool} (h : okT t = b) : formedT t = (b && formedL n t.items) := by unfold formedT; rw [h]
/-- what a term's own size is, by kind; and its bound -/
theorem size_bound {f : TF} {len : Nat} {last : Int} (hok : okF f len last = true) (hN : True) : 1 ≤ sizeF f len ∧ (sizeF f len ≤ (len : Int) - 1 ∨ sizeF f len ≤ 257) ∧ (f.kind = 9 → 2 ≤ len) ∧ (f.kind = 10 → 0 ≤ f.bits ∧ f.bits ≤ 16384) ∧ (f.kind ≠ 9 → sizeF f len ≤ 257) := by
  obtain ⟨k, i, g, nm, fn, ar, by_, bt⟩ := f
  unfold sizeF
  unfold okF at hok
  dsimp only at *
  by_cases h9 : k = 9
  · subst h9
    simp at hok
    refine ⟨by simp; omega, .inl (by simp), fun _ => hok.1, fun h => by omega, fun h => absurd rfl h⟩
  · by_cases h10 : k = 10
    · subst h10
      simp [okBits, inB] at hok
      have hb := hok.1.1
      refine ⟨by simp; omega, .inr (by simp; omega), fun h => by omega, fun _ => by omega, fun _ => by simp; omega⟩
    · rw [if_neg h9, if_neg h10]
      exact ⟨by omega, .inr (by omega), fun h => absurd h h9, fun h => absurd h h10, fun _ => by omega⟩
end Go.Proofs.Ythgfdpamnepnfaa.tm
/- terms: the measure's loop over the elements. Conditions: as before. -/
namespace Go.Proofs.Ythgfdpamnepnfaa.tm
open Go.RowKit mem names
set_option linter.unusedVariables false
set_option linter.unusedSimpArgs false
set_option maxHeartbeats 1000000
set_option maxRecDepth 100000

theorem closure {n : Nat} (ho : OfS n) (w : World) (B g z : Nat) (v : Value) (t : Tm (n + 1)) (s : Int) (hB : B ≤ w.heap.size) (hI : ItemsAt w B n v t.items) (hM : Meas w g s) (hg : B ≤ g) (hp : w.cell? ⟨z, 0, none⟩ = some (.pointer (some ⟨g, 0, none⟩))) (hz : z < w.heap.size) (hs : 0 ≤ s) (hss : s + 300 * (nodesT t : Int) - 1 ≤ 1000000000000) :
    Calls Try.prog 103 #[aggV t.f v, .pointer (some ⟨z, 0, none⟩)] w fun e w' => e = .returned (.bool (!formedT t)) ∧ ∃ s', Meas w' g s' ∧ TouchB (fun k => k = g) w w' ∧ 0 ≤ s' ∧ s' ≤ s + 300 * nodesT t - 1 ∧ (formedT t = true → s' = s + wholeT t) := by
  obtain ⟨p, c, rfl, _, _⟩ := hI.shape
  have hgl := hM.lt
  have hO := fun (W : World) (hb : Below w.heap.size w W) => ho W B g _ t s (Nat.le_trans hB hb.size) (hI.below hb hB) (hM.block (hb.block g hgl)) hg hs hss
  have HO := Lib.hid hO
  clear hO hI hM
  unfold MPost at HO
  generalize formedT t = r at *
  generalize (nodesT t) = N at *
  generalize (wholeT t) = W at *
  generalize t.f = f at *
  generalize t.items.length = len at *
  obtain ⟨k, i, gg, nm, fn, ar, by_, bt⟩ := f
  unfold aggV at *
  dsimp only at *
  go_enter Try.func103, Try.ntmps103
  go_wp2_with fail
  refine (HO.out _ ((Below.refl _ _).alloc (Nat.le_refl _) _)).mono ?_
  rintro e w' ⟨rfl, s', m1, m2, m3, m4, m5⟩
  have HM := Lib.hid m1
  have HE := Lib.hid m5
  clear m1 m5
  go_wp2_with fail
  go_ret
  refine ⟨rfl, s', HM.out, ?_, m3, m4, HE.out⟩
  exact ((TouchB.refl _ w).alloc _).trans m2 (fun _ _ e => e)
/-- what the search leaves -/
def IPost {n : Nat} (g : Nat) (s : Int) (l : List (Tm n)) (w : World) (e : Ending) (w' : World) : Prop :=
  ∃ r : Int, e = .returned (.int .i64 r) ∧ (formedL n l = true → r = -1) ∧ (formedL n l = false → 0 ≤ r) ∧ ∃ s', Meas w' g s' ∧ TouchB (fun k => k = g) w w' ∧ 0 ≤ s' ∧ s' ≤ s + 300 * nodesL n l - l.length ∧ (formedL n l = true → s' = s + wholeL n l)
theorem search0 (w : World) (g z : Nat) (p : Option Addr) (c : Nat) (s : Int) (hM : Meas w g s) (hs : 0 ≤ s) (l : List (Tm 0)) :
    Calls Try.prog 106 #[.slice p 0 c, .func (.func 103) #[] #[.pointer (some ⟨z, 0, none⟩)]] w (IPost g s l w) := by
  have hfin : IPost g s l w (.returned (.int .i64 (-1))) w := ⟨-1, rfl, fun _ => rfl, (fun h => by cases h), s, hM, TouchB.refl _ _, hs, by rw [Tm.nil0 l]; simp [nodesL], fun _ => by simp [wholeL]⟩
  have HF := Lib.hid hfin
  clear hfin hM
  go_enter Try.func106, Try.ntmps106
  go_wp2_with fail
  refine wp_loop_rounds 1 ?_
  rw [rounds_succ]
  go_wp2_with fail
  go_ret
  exact HF.out
theorem search1 {n : Nat} (ho : OfS n) (w : World) (B g z : Nat) (v : Value) (l : List (Tm (n + 1))) (s : Int) (hB : B ≤ w.heap.size) (hI : ItemsAt w B (n + 1) v l) (hM : Meas w g s) (hg : B ≤ g) (hp : w.cell? ⟨z, 0, none⟩ = some (.pointer (some ⟨g, 0, none⟩))) (hz : z < w.heap.size) (hzg : z ≠ g) (hs : 0 ≤ s) (hss : s + 300 * (nodesL (n + 1) l : Int) - l.length ≤ 1000000000000) :
    Calls Try.prog 106 #[v, .func (.func 103) #[] #[.pointer (some ⟨z, 0, none⟩)]] w (IPost g s l w) := by
  obtain ⟨p, c, rfl, hlc, hcm⟩ := hI.shape
  have hgl := hM.lt
  have HI := Lib.hid hI
  have HM := Lib.hid hM
  have HP := Lib.hid hp
  have HS := Lib.hid hss
  clear hI hM hp hss
  unfold maxLen at hcm
  go_enter Try.func106, Try.ntmps106
  go_wp2_with fail
  go_loopw [8] (fun s8 wr => ∃ (k : Nat) (sk : Int), s8 = .int .i64 k ∧ k ≤ l.length ∧ Hid (Meas wr g sk) ∧ TouchB (fun k => k = g) w wr ∧ 0 ≤ sk ∧ Hid (sk = s + wholeL (n + 1) (l.take k)) ∧ Hid (∀ j, (h : j < l.length) → j < k → formedT l[j] = true) ∧ Hid (sk ≤ s + 300 * nodesL (n + 1) (l.take k) - k)) (fun s8 _ => l.length - (intOf s8).toNat)
  case atStart =>
    refine ⟨0, s, rfl, by omega, HM, TouchB.refl _ _, hs, Lib.hid ?_, Lib.hid (fun j _ h => by omega), Lib.hid ?_⟩
    · simp [wholeL]
    · simp [nodesL]
  case round =>
    obtain ⟨k, sk, rfl, hk, hMk, hT, hsk, hw, hall, hbd⟩ := hrel
    by_cases hlt : k < l.length
    · have hI2 := HI.out.same (w' := wr) (fun q hq => hT.block q (by omega) (by omega))
      obtain ⟨g1, o1, c1, e1, _, _, hg1, hx1⟩ := hI2.at_ (by intro e; subst e; simp at hlt)
      simp only [Value.slice.injEq] at e1
      obtain ⟨rfl, _, rfl⟩ := e1
      obtain ⟨u1, hC1, hI1⟩ := hx1 k hlt
      clear hx1 hI2
      have hpk : wr.cell? ⟨z, 0, none⟩ = some (.pointer (some ⟨g, 0, none⟩)) := (hT.cell (by exact hz) hzg).trans HP.out
      have hnm := nodes_mem hlt
      have hnd := nodes_len (n + 1) (l.drop (k + 1))
      simp only [List.length_drop] at hnd
      have hCl := closure ho wr B g z u1 l[k] sk (Nat.le_trans hB hT.size) hI1 hMk.out hg hpk (Nat.lt_of_lt_of_le hz hT.size) hsk (by have := HS.out; have := hbd.out; omega)
      have hsnoc := whole_snoc l k hlt
      have HSN := Lib.hid hsnoc
      have hnb : ∀ s' : Int, s' ≤ sk + 300 * nodesT l[k] - 1 → s' ≤ s + 300 * nodesL (n + 1) l - l.length ∧ s' ≤ s + 300 * nodesL (n + 1) (l.take (k + 1)) - ((k : Int) + 1) := fun s' h => by
        have := hbd.out
        refine ⟨by omega, ?_⟩
        have e : nodesL (n + 1) (l.take (k + 1)) = nodesL (n + 1) (l.take k) + nodesT l[k] := by
          rw [List.take_succ_eq_append_getElem hlt]
          unfold nodesL nodesT
          simp only [List.map_append, List.map_cons, List.map_nil, List.sum_append, List.sum_cons, List.sum_nil]; omega
        rw [e]; omega
      have HNB := Lib.hid hnb
      clear hnb hsnoc hnm hnd hMk
      obtain ⟨x0, x1, x2, x3, x4, x5, x6, x7, x8⟩ := hC1
      have HNO := Lib.hid (formed_no hlt)
      have HYES : Hid (formedT l[k] = true → ∀ j, (h : j < l.length) → j < k + 1 → formedT l[j] = true) := Lib.hid (fun h j hj hjk => by
        by_cases e : j = k
        · subst e; exact h
        · exact hall.out j hj (by omega))
      have HCl := Lib.hid hCl
      clear hCl hI1
      unfold aggV at HCl
      generalize l[k] = x at *
      generalize x.f = xf at *
      go_wp2_with fail
      refine HCl.out.mono ?_
      rintro e w2 ⟨rfl, s2, m1, m2, m3, m4, m5⟩
      have HM2 := Lib.hid m1
      have hT2 : TouchB (fun k => k = g) w w2 := hT.trans m2 (fun _ _ e => e)
      obtain ⟨b1, b2⟩ := HNB.out s2 m4
      by_cases hf : formedT x = true
      · have h5 := Lib.hid (m5 hf)
        have hY := HYES.out hf
        have HY := Lib.hid hY
        have B2 := Lib.hid b2
        clear hY b1 b2 m1 m4 m5 HNB
        rw [hf]
        go_wp2_with fail
        go_roundw
        case rel =>
          refine ⟨k + 1, s2, by go_num, by omega, HM2, hT2, m3, Lib.hid ?_, HY, Lib.hid ?_⟩
          · rw [HSN.out, h5.out, hw.out]; omega
          · have := B2.out; push_cast; omega
        case measure => simp [intOf]; omega
      · have hf : formedT x = false := by simpa using hf
        have hN := Lib.hid (HNO.out hf)
        rw [hf]
        have hB1 := Lib.hid b1
        clear b1 b2 m1 m4 m5 HNB
        go_wp2_with fail
        go_ret
        refine ⟨k, rfl, (fun h => by rw [hN.out] at h; cases h), (fun _ => by omega), s2, HM2.out, hT2, m3, hB1.out, (fun h => by rw [hN.out] at h; cases h)⟩
    · have hfin : formedL (n + 1) l = true := formed_yes (fun j hj => hall.out j hj (by omega))
      have HF := Lib.hid hfin
      have e : k = l.length := by omega
      have hw' : sk = s + wholeL (n + 1) l := by have := hw.out; rwa [List.take_of_length_le (by omega)] at this
      have hb' : sk ≤ s + 300 * nodesL (n + 1) l - l.length := by have := hbd.out; rw [List.take_of_length_le (by omega)] at this; omega
      have HW := Lib.hid hw'
      have HB := Lib.hid hb'
      clear hfin e hw' hb'
      go_wp2_with fail
      go_ret
      exact ⟨-1, rfl, fun _ => rfl, (fun h => by rw [HF.out] at h; cases h), sk, hMk.out, hT, hsk, HB.out, fun _ => HW.out⟩
theorem contains {n : Nat} (l : List (Tm n)) (g : Nat) (s : Int) (v fv : Value) (w : World) (h : Calls Try.prog 106 #[v, fv] w (IPost g s l w)) :
    Calls Try.prog 102 #[v, fv] w fun e w' => e = .returned (.bool (!formedL n l)) ∧ ∃ s', Meas w' g s' ∧ TouchB (fun k => k = g) w w' ∧ 0 ≤ s' ∧ s' ≤ s + 300 * nodesL n l - l.length ∧ (formedL n l = true → s' = s + wholeL n l) := by
  have HH := Lib.hid h
  clear h
  go_enter Try.func102, Try.ntmps102
  go_wp2_with fail
  refine HH.out.mono ?_
  rintro e w' ⟨r, rfl, h1, h2, h3⟩
  have H3 := Lib.hid h3
  clear h3
  by_cases hf : formedL n l = true
  · obtain rfl := h1 hf
    have HF := Lib.hid hf
    clear h1 h2 hf
    go_wp2_with fail
    go_ret
    exact ⟨by rw [HF.out]; rfl, H3.out⟩
  · have hf : formedL n l = false := by simpa using hf
    have h0 := h2 hf
    have HF := Lib.hid hf
    have q : decide (0 ≤ r) = true := decide_eq_true h0
    clear h1 h2 hf
    go_wp2_with fail
    go_ret
    exact ⟨by rw [HF.out]; rfl, H3.out⟩
theorem con0 : ConS 0 := by
  intro w B g z v l s hB hI hM hg hp hz hzg hs hss
  obtain ⟨p, c, rfl, _⟩ := hI
  exact contains l g s _ _ w (search0 w g z p c s hM hs l)
theorem con1 {n : Nat} (ho : OfS n) : ConS (n + 1) := by
  intro w B g z v l s hB hI hM hg hp hz hzg hs hss
  exact contains l g s _ _ w (search1 ho w B g z v l s hB hI hM hg hp hz hzg hs hss)
end Go.Proofs.Ythgfdpamnepnfaa.tm
/- terms: sum, Check, Valid. Conditions: the terms lie in memory; no more than a bound of them. -/
namespace Go.Proofs.Ythgfdpamnepnfaa.tm
open Go.RowKit mem names
set_option linter.unusedVariables false
set_option linter.unusedSimpArgs false
set_option maxHeartbeats 1000000
set_option maxRecDepth 100000

def SPost {n : Nat} (l : List (Tm n)) (w : World) (e : Ending) (w' : World) : Prop :=
  ∃ r : Int, e = .returned (.tuple #[.int .i64 r, .bool (formedL n l)]) ∧ (formedL n l = true → r = wholeL n l) ∧ 0 ≤ r ∧ Below w.heap.size w w'
theorem sumS {n : Nat} (ho : OfS n) (w : World) (B : Nat) (v : Value) (l : List (Tm (n + 1))) (hB : B ≤ w.heap.size) (hI : ItemsAt w B (n + 1) v l) (hss : 300 * (nodesL (n + 1) l : Int) ≤ 1000000000000) :
    Calls Try.prog 76 #[v] w (SPost l w) := by
  obtain ⟨p, c, rfl, hlc, hcm⟩ := hI.shape
  have HI := Lib.hid hI
  have HS := Lib.hid hss
  clear hI hss
  unfold maxLen at hcm
  go_enter Try.func76, Try.ntmps76
  go_wp2_with fail
  refine (kinds _).mono ?_
  rintro e w1 ⟨rfl, hb1⟩
  unfold fnsV
  go_wp2_with fail
  obtain ⟨W, hW⟩ : ∃ x, x = w1.alloc (measC 0) := ⟨_, rfl⟩
  have hMW : Meas W w1.heap.size 0 := by rw [hW]; exact (MapKept.heap_alloc w1 (measC 0)).1
  have hbW : Below w.heap.size w W := by rw [hW]; exact hb1.alloc hb1.size _
  have hgB : w.heap.size ≤ w1.heap.size := hb1.size
  unfold measC at hW
  rw [← hW]
  clear hW hb1
  generalize w1.heap.size = g at *
  have HMW := Lib.hid hMW
  clear hMW
  go_loopw [15] (fun s8 wr => ∃ (k : Nat) (sk : Int), s8 = .int .i64 k ∧ k ≤ l.length ∧ Hid (Meas wr g sk) ∧ TouchB (fun k => k = g) W wr ∧ 0 ≤ sk ∧ Hid (sk = wholeL (n + 1) (l.take k)) ∧ Hid (∀ j, (h : j < l.length) → j < k → formedT l[j] = true) ∧ Hid (sk ≤ 300 * nodesL (n + 1) (l.take k) - k)) (fun s8 _ => l.length - (intOf s8).toNat)
  case atStart =>
    refine ⟨0, 0, rfl, by omega, HMW, TouchB.refl _ _, by omega, Lib.hid ?_, Lib.hid (fun j _ h => by omega), Lib.hid ?_⟩
    · simp [wholeL]
    · simp [nodesL]
  case round =>
    obtain ⟨k, sk, rfl, hk, hMk, hT, hsk, hw, hall, hbd⟩ := hrel
    have hgr : g < wr.heap.size := hMk.out.lt
    have hTb : Below w.heap.size w wr := hbW.trans (hT.below (fun k e => by subst e; exact hgB) hbW.size)
    by_cases hlt : k < l.length
    · have hI2 := HI.out.below hTb hB
      obtain ⟨g1, o1, c1, e1, _, _, hg1, hx1⟩ := hI2.at_ (by intro e; subst e; simp at hlt)
      simp only [Value.slice.injEq] at e1
      obtain ⟨rfl, _, rfl⟩ := e1
      obtain ⟨u1, hC1, hI1⟩ := hx1 k hlt
      clear hx1 hI2
      obtain ⟨p1, c1, rfl, _, _⟩ := hI1.shape
      have hnm := nodes_mem hlt
      have hnd := nodes_len (n + 1) (l.drop (k + 1))
      simp only [List.length_drop] at hnd
      have hCl := fun (W' : World) (h : Below wr.heap.size wr W') => ho W' B g _ l[k] sk (Nat.le_trans hB (hTb.trans (h.mono hTb.size)).size) (hI1.below h (Nat.le_trans hB hTb.size)) (hMk.out.block (h.block g hgr)) (Nat.le_trans hB hgB) hsk (by have := HS.out; have := hbd.out; omega)
      have hsnoc := whole_snoc l k hlt
      have HSN := Lib.hid hsnoc
      have hnb : ∀ s' : Int, s' ≤ sk + 300 * nodesT l[k] - 1 → s' ≤ 300 * nodesL (n + 1) (l.take (k + 1)) - ((k : Int) + 1) := fun s' h => by
        have := hbd.out
        have e : nodesL (n + 1) (l.take (k + 1)) = nodesL (n + 1) (l.take k) + nodesT l[k] := by
          rw [List.take_succ_eq_append_getElem hlt]
          unfold nodesL nodesT
          simp only [List.map_append, List.map_cons, List.map_nil, List.sum_append, List.sum_cons, List.sum_nil]; omega
        rw [e]; omega
      have HNB := Lib.hid hnb
      clear hnb hsnoc hnm hnd hMk
      obtain ⟨x0, x1, x2, x3, x4, x5, x6, x7, x8⟩ := hC1
      have HNO := Lib.hid (formed_no hlt)
      have HYES : Hid (formedT l[k] = true → ∀ j, (h : j < l.length) → j < k + 1 → formedT l[j] = true) := Lib.hid (fun h j hj hjk => by
        by_cases e : j = k
        · subst e; exact h
        · exact hall.out j hj (by omega))
      have HCl := Lib.hid hCl
      clear hCl hI1
      unfold aggV MPost at HCl
      generalize l[k] = x at *
      generalize x.items.length = xl at *
      generalize x.f = xf at *
      go_wp2_with fail
      refine (HCl.out _ ((Below.refl _ _).alloc (Nat.le_refl _) _)).mono ?_
      rintro e w2 ⟨rfl, s2, m1, m2, m3, m4, m5⟩
      have HM2 := Lib.hid m1
      have hT2 : TouchB (fun k => k = g) W w2 := (hT.alloc _).trans m2 (fun _ _ e => e)
      have b2 := HNB.out s2 m4
      by_cases hf : formedT x = true
      · have h5 := Lib.hid (m5 hf)
        have hY := HYES.out hf
        have HY := Lib.hid hY
        have B2 := Lib.hid b2
        clear hY b2 m1 m4 m5 HNB
        rw [hf]
        go_wp2_with fail
        go_roundw
        case rel =>
          refine ⟨k + 1, s2, by go_num, by omega, HM2, hT2, m3, Lib.hid ?_, HY, Lib.hid ?_⟩
          · rw [HSN.out, h5.out, hw.out]
          · have := B2.out; push_cast; omega
        case measure => simp [intOf]; omega
      · have hf : formedT x = false := by simpa using hf
        have hN := Lib.hid (HNO.out hf)
        rw [hf]
        clear b2 m1 m4 m5 HNB
        go_wp2_with fail
        go_ret2
        exact ⟨0, (by rw [hN.out]; try rfl), (fun h => by rw [hN.out] at h; cases h), by omega, hbW.trans (hT2.below (fun k e => by subst e; exact hgB) hbW.size)⟩
    · have hfin : formedL (n + 1) l = true := formed_yes (fun j hj => hall.out j hj (by omega))
      have HF := Lib.hid hfin
      have e : k = l.length := by omega
      have hw' : sk = wholeL (n + 1) l := by have := hw.out; rwa [List.take_of_length_le (by omega)] at this
      have HW := Lib.hid hw'
      have hms := hMk.out.size
      clear hfin e hw'
      go_wp2_with fail
      go_ret2
      exact ⟨sk, (by rw [HF.out]; try rfl), fun _ => HW.out, hsk, hTb⟩
/-- one term alone -/
theorem oneL {n : Nat} (t : Tm (n + 1)) : formedL (n + 1) [t] = formedT t ∧ wholeL (n + 1) [t] = wholeT t ∧ nodesL (n + 1) [t] = nodesT t := by
  refine ⟨?_, ?_, ?_⟩
  · unfold formedL; simp [formedT]
  · unfold wholeL; simp [wholeT]
  · unfold nodesL; simp [nodesT]
noncomputable def checkT {n : Nat} (t : Tm (n + 1)) : Int := if formedT t = true then (if wholeT t ≤ 2000 then 0 else 3) else 2
noncomputable def validT {n : Nat} (t : Tm (n + 1)) : Bool := formedT t && decide (wholeT t ≤ 2000)
theorem Check {n : Nat} (ho : OfS n) (w : World) (B : Nat) (v : Value) (t : Tm (n + 1)) (hB : B ≤ w.heap.size) (hI : ItemsAt w B n v t.items) (hss : 300 * (nodesT t : Int) ≤ 1000000000000) :
    Calls Try.prog 58 #[aggV t.f v] w fun e w' => e = .returned (.int .i64 (checkT t)) ∧ Below w.heap.size w w' := by
  obtain ⟨p, c, rfl, _, hc⟩ := hI.shape
  obtain ⟨e1, e2, e3⟩ := oneL t
  have hrow : ∀ W : World, Below w.heap.size w W → ∀ g, W.heap[g]? = some (cells9 t.f (.slice p t.items.length c)) → g < W.heap.size → ItemsAt W W.heap.size (n + 1) (.slice (some ⟨g, 0, none⟩) 1 1) [t] := fun W hb g hg hgl => by
    refine ⟨_, 1, rfl, Nat.le_refl _, by unfold maxLen; omega, fun _ => ⟨g, 0, rfl, hgl, fun j hj => ?_⟩⟩
    obtain rfl : j = 0 := by simp at hj; omega
    have hN := nine_of hg
    exact ⟨_, ⟨hN.c0, hN.c1, hN.c2, hN.c3, hN.c4, hN.c5, hN.c6, hN.c7, hN.c8⟩, (hI.below hb hB).more (Nat.le_trans hB hb.size)⟩
  have hS := fun (W : World) (hb : Below w.heap.size w W) (g : Nat) (hg : W.heap[g]? = some (cells9 t.f (.slice p t.items.length c))) (hgl : g < W.heap.size) => sumS ho W W.heap.size _ [t] (Nat.le_refl _) (hrow W hb g hg hgl) (by rw [e3]; exact hss)
  unfold SPost at hS
  rw [e1, e2] at hS
  unfold checkT
  have HSS := Lib.hid hS
  clear hS hrow hI hss e1 e2 e3
  generalize formedT t = ok at *
  generalize wholeT t = W at *
  generalize t.f = f at *
  generalize t.items.length = len at *
  obtain ⟨k, i, gg, nm, fn, ar, by_, bt⟩ := f
  unfold aggV cells9 at *
  dsimp only at *
  generalize hck : (if ok = true then (if W ≤ 2000 then (0 : Int) else 3) else 2) = ck at *
  have HCK := Lib.hid hck
  clear hck
  go_enter Try.func58, Try.ntmps58
  go_wp2_with fail
  have hA := (MapKept.heap_alloc (w.alloc (.cells #[.int .i64 k, .int .i64 i, .int .i64 gg, .string nm, .string fn, .int .i64 ar, .slice p len c, .string by_, .int .i64 bt] 24)) (.cells #[.int .i64 k, .int .i64 i, .int .i64 gg, .string nm, .string fn, .int .i64 ar, .slice p len c, .string by_, .int .i64 bt] 24)).1
  have hbA := ((Below.refl w.heap.size w).alloc (Nat.le_refl _) (.cells #[.int .i64 k, .int .i64 i, .int .i64 gg, .string nm, .string fn, .int .i64 ar, .slice p len c, .string by_, .int .i64 bt] 24)).alloc (by simp) (.cells #[.int .i64 k, .int .i64 i, .int .i64 gg, .string nm, .string fn, .int .i64 ar, .slice p len c, .string by_, .int .i64 bt] 24)
  refine (HSS.out _ hbA (w.heap.size + 1) (by simpa using hA) (by simp)).mono ?_
  clear hA HSS
  rintro e w1 ⟨r, rfl, h1, h2, h3⟩
  have hb := hbA.trans (h3.mono (by simp; omega))
  clear h3 hbA
  by_cases hok : ok = true
  · subst hok
    obtain rfl := h1 rfl
    by_cases hw : r ≤ 2000
    · have q : decide (2000 < r) = false := decide_eq_false (by omega)
      obtain rfl : 0 = ck := by have := HCK.out; rwa [if_pos rfl, if_pos hw] at this
      clear hw h1
      go_wp2_with fail
      go_ret
      exact ⟨rfl, hb⟩
    · have q : decide (2000 < r) = true := decide_eq_true (by omega)
      obtain rfl : 3 = ck := by have := HCK.out; rwa [if_pos rfl, if_neg hw] at this
      clear hw h1
      go_wp2_with fail
      go_ret
      exact ⟨rfl, hb⟩
  · have hok : ok = false := by simpa using hok
    subst hok
    obtain rfl : 2 = ck := by have := HCK.out; rwa [if_neg (by decide)] at this
    clear h1
    go_wp2_with fail
    go_ret
    exact ⟨rfl, hb⟩
theorem checkT_0 {n : Nat} (t : Tm (n + 1)) : (checkT t == 0) = validT t := by
  unfold checkT validT
  by_cases h : formedT t = true
  · rw [if_pos h, h]
    by_cases h2 : wholeT t ≤ 2000
    · rw [if_pos h2, decide_eq_true h2]; rfl
    · rw [if_neg h2, decide_eq_false h2]; rfl
  · rw [if_neg h]
    have h : formedT t = false := by simpa using h
    rw [h]; rfl
theorem ValidTm {n : Nat} (ho : OfS n) (w : World) (B : Nat) (v : Value) (t : Tm (n + 1)) (hB : B ≤ w.heap.size) (hI : ItemsAt w B n v t.items) (hss : 300 * (nodesT t : Int) ≤ 1000000000000) :
    Calls Try.prog 39 #[aggV t.f v] w (BPost (validT t) w) := by
  obtain ⟨p, c, rfl, _, hc⟩ := hI.shape
  have hC := fun (W : World) (hb : Below w.heap.size w W) => Check ho W B _ t (Nat.le_trans hB hb.size) (hI.below hb hB) hss
  have hv := checkT_0 t
  have HC := Lib.hid hC
  clear hC hI hss
  generalize checkT t = ck at *
  generalize validT t = vt at *
  generalize t.f = f at *
  generalize t.items.length = len at *
  obtain ⟨k, i, gg, nm, fn, ar, by_, bt⟩ := f
  unfold aggV at *
  dsimp only at *
  go_enter Try.func39, Try.ntmps39
  go_wp2_with fail
  refine (HC.out _ ((Below.refl _ _).alloc (Nat.le_refl _) _)).mono ?_
  rintro e w1 ⟨rfl, hb⟩
  go_wp2_with fail
  go_ret
  exact ⟨rfl, ((Below.refl w.heap.size w).alloc (Nat.le_refl _) _).trans (hb.mono (by simp))⟩
end Go.Proofs.Ythgfdpamnepnfaa.tm
