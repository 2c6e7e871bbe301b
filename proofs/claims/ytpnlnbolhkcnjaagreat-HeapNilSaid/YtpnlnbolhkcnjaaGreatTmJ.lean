
/- terms.kinds, the measure. No condition. -/
import Derived.Test.YtpnlnbolhkcnjaaGreatTmI
import Derived.Laws.EntriesVeiled
namespace Go.Proofs.YtpnlnbolhkcnjaaGreat.tm
open Go.RowKit mem names
set_option linter.unusedVariables false
set_option linter.unusedSimpArgs false
set_option maxHeartbeats 1000000
set_option maxRecDepth 100000

def fnV (k : Nat) : Value := .func (.func k) #[] #[]
def fnsV : Value := .agg #[.func (.func 256) #[] #[], .func (.func 257) #[] #[], .func (.func 258) #[] #[], .func (.func 254) #[] #[], .func (.func 259) #[] #[], .func (.func 260) #[] #[], .func (.func 254) #[] #[], .func (.func 261) #[] #[], .func (.func 262) #[] #[], .func (.func 263) #[] #[], .func (.func 264) #[] #[]]
theorem kinds (w : World) : Calls Tryz.prog 227 #[] w fun e w' => e = .returned fnsV ∧ Below w.heap.size w w' := by
  unfold fnsV
  go_enter Tryz.func227, Tryz.ntmps227
  go_wp2_with fail
  exact bodyPost_ret (v := .agg #[.func (.func 256) #[] #[], .func (.func 257) #[] #[], .func (.func 258) #[] #[], .func (.func 254) #[] #[], .func (.func 259) #[] #[], .func (.func 260) #[] #[], .func (.func 254) #[] #[], .func (.func 261) #[] #[], .func (.func 262) #[] #[], .func (.func 263) #[] #[], .func (.func 264) #[] #[]]) (by simp [results, Tryz.results227, go_sem, *]) rfl ⟨rfl, by (repeat' (first | with_reducible exact Below.refl _ _ | with_reducible exact Nat.le_refl _ | with_reducible refine Below.setCell ?_ ?_ _ | with_reducible refine Below.alloc ?_ ?_ _ | (simp; done) | (simp; omega)))⟩
def fnum (k : Int) : Nat := if k = 0 then 256 else if k = 1 then 257 else if k = 2 then 258 else if k = 3 then 254 else if k = 4 then 259 else if k = 5 then 260 else if k = 6 then 254 else if k = 7 then 261 else if k = 8 then 262 else if k = 9 then 263 else 264
theorem last_cell {w : World} {B n : Nat} {p : Option Addr} {m c : Nat} {l : List (Tm n)} (h : ItemsAt w B n (.slice p m c) l) (h2 : 2 ≤ m) : ∃ g0 o0, p = some ⟨g0, o0, none⟩ ∧ w.cell? ⟨g0, o0 + (m - 1) * 9, none⟩ = some (.int .i64 (lastK n l)) ∧ g0 < B := by
  obtain ⟨p', c', e, _, _⟩ := h.shape
  simp only [Value.slice.injEq] at e
  obtain ⟨rfl, rfl, rfl⟩ := e
  cases n with
  | zero => rw [Tm.nil0 l] at h2; simp at h2
  | succ n =>
    obtain ⟨g, o, c2, e, _, _, hg, hx⟩ := h.at_ (by intro e; subst e; simp at h2)
    simp only [Value.slice.injEq] at e
    obtain ⟨u, hC, _⟩ := hx (l.length - 1) (by omega)
    refine ⟨g, o, e.1, ?_, hg⟩
    have : lastK (n + 1) l = (l[l.length - 1]'(by omega)).f.kind := by
      change (Option.map (fun t : Tm (n + 1) => t.f.kind) (List.getLast? l)).getD 0 = _
      rw [List.getLast?_eq_getElem?, List.getElem?_eq_getElem (by omega)]; rfl
    rw [this]; exact hC.c0
theorem kindAll {n : Nat} (f : TF) (v : Value) (l : List (Tm n)) (w : World) (B : Nat) (hB : B ≤ w.heap.size) (hI : ItemsAt w B n v l) (h0 : 0 ≤ f.kind) (h1 : f.kind ≤ 10) : Calls Tryz.prog (fnum f.kind) #[aggV f v] w (KPost f v l.length (lastK n l) w) := by
  obtain ⟨p, c, rfl, hn, hc⟩ := hI.shape
  unfold maxLen at hc
  have hlast := fun h2 => last_cell hI h2
  obtain ⟨k, i, g, nm, fn, ar, by_, bt⟩ := f
  dsimp only at h0 h1 ⊢
  have ways : k = 0 ∨ k = 1 ∨ k = 2 ∨ k = 3 ∨ k = 4 ∨ k = 5 ∨ k = 6 ∨ k = 7 ∨ k = 8 ∨ k = 9 ∨ k = 10 := by omega
  rcases ways with rfl | rfl | rfl | rfl | rfl | rfl | rfl | rfl | rfl | rfl | rfl
  · exact kind0 i g nm fn ar by_ bt p _ c _ w hn (by omega)
  · exact kindInt i g nm fn ar by_ bt p _ c _ w hn (by omega)
  · exact kindAtom i g nm fn ar by_ bt p _ c _ w hn (by omega)
  · exact kindRef i g nm fn ar by_ bt p _ c _ w hn (by omega)
  · exact kindClosure i g nm fn ar by_ bt p _ c _ w hn (by omega)
  · exact kindExport i g nm fn ar by_ bt p _ c _ w hn (by omega)
  · exact kindPid i g nm fn ar by_ bt p _ c _ w hn (by omega)
  · exact kindTuple i g nm fn ar by_ bt p _ c _ w hn (by omega)
  · exact kindNil i g nm fn ar by_ bt p _ c _ w hn (by omega)
  · exact kindList i g nm fn ar by_ bt p _ c _ w hn (by omega) (fun h2 => by obtain ⟨g0, o0, e1, e2, e3⟩ := hlast h2; exact ⟨g0, o0, e1, e2, by omega⟩)
  · exact kindBits i g nm fn ar by_ bt p _ c _ w

def measC (s : Int) : Obj := .cells #[.func (.func 256) #[] #[], .func (.func 257) #[] #[], .func (.func 258) #[] #[], .func (.func 254) #[] #[], .func (.func 259) #[] #[], .func (.func 260) #[] #[], .func (.func 254) #[] #[], .func (.func 261) #[] #[], .func (.func 262) #[] #[], .func (.func 263) #[] #[], .func (.func 264) #[] #[], .int .i64 s] 260
def Meas (w : World) (g : Nat) (s : Int) : Prop := w.heap[g]? = some (measC s)
theorem Meas.fn {w : World} {g : Nat} {s : Int} (h : Meas w g s) (k : Nat) (hk : k ≤ 10) : w.cell? ⟨g, k, none⟩ = some (.func (.func (fnum k)) #[] #[]) := by
  unfold Meas measC at h
  have ways : k = 0 ∨ k = 1 ∨ k = 2 ∨ k = 3 ∨ k = 4 ∨ k = 5 ∨ k = 6 ∨ k = 7 ∨ k = 8 ∨ k = 9 ∨ k = 10 := by omega
  rcases ways with rfl | rfl | rfl | rfl | rfl | rfl | rfl | rfl | rfl | rfl | rfl <;> (simp only [World.cell?, h]; rfl)
theorem Meas.size {w : World} {g : Nat} {s : Int} (h : Meas w g s) : w.cell? ⟨g, 11, none⟩ = some (.int .i64 s) := by
  unfold Meas measC at h; simp only [World.cell?, h]; rfl
theorem Meas.frozen {w : World} {g : Nat} {s : Int} (h : Meas w g s) (o : Nat) : w.frozen? ⟨g, o, none⟩ = false := by
  unfold Meas measC at h; simp only [World.frozen?, h]; simp
theorem Meas.lt {w : World} {g : Nat} {s : Int} (h : Meas w g s) : g < w.heap.size := by
  rcases Nat.lt_or_ge g w.heap.size with h1 | h1
  · exact h1
  · unfold Meas at h; rw [Array.getElem?_eq_none h1] at h; cases h
theorem Meas.set {w : World} {g : Nat} {s : Int} (h : Meas w g s) (s' : Int) : Meas (w.setCell ⟨g, 11, none⟩ (.int .i64 s')) g s' := by
  have hl := h.lt
  unfold Meas measC at *
  unfold World.setCell
  rw [Array.getElem?_modify, if_pos rfl, h]
  rfl
theorem Meas.block {w w' : World} {g : Nat} {s : Int} (h : Meas w g s) (e : w'.heap[g]? = w.heap[g]?) : Meas w' g s := by
  unfold Meas at *; rw [e]; exact h
end Go.Proofs.YtpnlnbolhkcnjaaGreat.tm
