/- TimersPlays. Conditions: the arguments lie in memory. -/
import Derived.Test.YtgkiknkifleofaaRefF
import Derived.Test.YtgkiknkifleofaaWalkC1
namespace Go.Proofs.Ytgkiknkifleofaa.tm
open Go.RowKit mem TP
set_option linter.unusedVariables false
set_option linter.unusedSimpArgs false
set_option maxHeartbeats 1000000
set_option maxRecDepth 100000

theorem Both2.le {w0 w : World} {b r n m : Nat} (h : Both2 w0 b r n w) (hm : n ≤ m) : Both2 w0 b r m w := by
  obtain ⟨A, n', F, p, c, G, hP, hn⟩ := h; exact ⟨A, n', F, p, c, G, hP, Nat.le_trans hn hm⟩
theorem Both2.bel {w0 w : World} {b r n : Nat} (h : Both2 w0 b r n w) : Below w0.heap.size w0 w := by
  obtain ⟨A, n', F, p, c, G, hP, hn⟩ := h; exact hP.st.bel
theorem stepAny {w0 w : World} {b r n : Nat} (h : Both2 w0 b r n w) (hn : n < 1000) (kd due id : Int) : Calls Try.prog 22 #[.pointer (some ⟨b, 0, none⟩), .pointer (some ⟨r, 0, none⟩), .agg #[.int .i64 kd, .int .i64 due, .int .i64 id]] w (StepPost w0 b r (n + 1)) := by
  obtain ⟨A, n', F, p, c, G, hP, hn'⟩ := h
  have up : ∀ e w' m, m ≤ n + 1 → StepPost w0 b r m e w' → StepPost w0 b r (n + 1) e w' := fun e w' m hm hh => ⟨hh.1, hh.2.le hm⟩
  by_cases h0 : kd = 0
  · subst h0; exact (stepAdd hP (by omega) due id).mono fun e w' hh => up e w' _ (by omega) hh
  by_cases h1 : kd = 1
  · subst h1; exact (stepDrop hP due id).mono fun e w' hh => up e w' _ (by omega) hh
  by_cases h2 : kd = 2
  · subst h2; exact (stepTake hP due id).mono fun e w' hh => up e w' _ (by omega) hh
  by_cases h3 : kd = 3
  · subst h3; exact (stepDue hP due id).mono fun e w' hh => up e w' _ (by omega) hh
  exact (stepLook hP ⟨h0, h1, h2, h3⟩ due id).mono fun e w' hh => up e w' _ (by omega) hh
theorem both_start {w0 w : World} {b : Nat} {F : Nat → Prop} (h : St w0 w b [] 0 F) : Both2 w0 b w.heap.size 0 (w.alloc (.cells #[.slice none 0 0] 51)) := by
  have hh := (MapKept.heap_alloc w (.cells #[.slice none 0 0] 51)).1
  refine ⟨[], 0, F, none, 0, fun k => k = w.heap.size, ⟨h.on ((Below.refl _ _).alloc (Nat.le_refl _) _), ⟨hh, World.ownsRow_nil _ _ _ _, by simp, rfl, fun g hg => by simp [Value.ownBlock] at hg, fun k hk => by rw [hk]; simp⟩, fun k hk => by rw [hk]; exact h.bel.size, fun k hF hk => by have := h.whl.lt k hF; omega⟩, Nat.le_refl _⟩
theorem lawPlays (w : World) (v : Value) (l : List AD) (h : ActsAt w v l) : Calls Try.prog 8 #[v] w fun e w' => e = .returned (.bool true) ∧ Below w.heap.size w w' := by
  obtain ⟨p, c, rfl, hc1, hc2, hc3⟩ := h
  unfold maxLen at hc2
  have HC := Lib.hid hc3; clear hc3
  by_cases hgt : 400 < l.length
  · have hq : decide (400 < l.length) = true := decide_eq_true hgt
    have hA := awake (Below.refl w.heap.size w)
    go_enter Try.func8, Try.ntmps8
    go_wp2_with fail
    refine hA.mono ?_
    rintro e w1 ⟨rfl, hb⟩
    go_wp2_with fail
    go_ret
    exact ⟨rfl, hb⟩
  · have hq : decide (400 < l.length) = false := decide_eq_false hgt
    go_enter Try.func8, Try.ntmps8
    go_wp2_with fail
    refine (SNew (Below.refl w.heap.size w)).mono ?_
    rintro e w1 ⟨b, F, rfl, hS⟩
    have hB := both_start hS
    clear hS
    go_wp2_with fail
    generalize w1.alloc (.cells #[.slice none 0 0] 51) = w2 at *
    generalize w1.heap.size = r at *
    go_loopw [5] (fun s wr => ∃ k : Nat, s = .int .i64 k ∧ k ≤ l.length ∧ Both2 w b r k wr) (fun s _ => l.length - (intOf s).toNat)
    case atStart => exact ⟨0, rfl, by omega, hB⟩
    case round =>
      obtain ⟨k, rfl, hk, hP⟩ := hrel
      by_cases hlt : k < l.length
      · obtain ⟨g, o, rfl, hg, hx⟩ := HC.out (by intro e; subst e; simp at hlt)
        obtain ⟨x0, x1, x2⟩ := hx k hlt
        have hb := hP.bel
        have y0 : wr.cell? ⟨g, o + k * 3, none⟩ = some (.int .i64 l[k].kind) := (hb.cell (p := ⟨g, o + k * 3, none⟩) hg).trans x0
        have y1 : wr.cell? ⟨g, o + k * 3 + 1, none⟩ = some (.int .i64 l[k].due) := (hb.cell (p := ⟨g, o + k * 3 + 1, none⟩) hg).trans x1
        have y2 : wr.cell? ⟨g, o + k * 3 + 1 + 1, none⟩ = some (.int .i64 l[k].id) := (hb.cell (p := ⟨g, o + k * 3 + 1 + 1, none⟩) hg).trans x2
        have hs := stepAny hP (by omega) l[k].kind l[k].due l[k].id
        clear x0 x1 x2 hx
        generalize l[k] = a at *
        go_wp2_with fail
        refine hs.mono ?_
        rintro e w3 ⟨rfl, hP3⟩
        clear hs
        go_wp2_with fail
        go_roundw
        case rel => exact ⟨k + 1, by go_num, by omega, hP3⟩
        case measure => simp [intOf]; omega
      · have hs := stepAny hP (by omega) 9 0 0
        go_wp2_with fail
        refine hs.mono ?_
        rintro e w3 ⟨rfl, hP3⟩
        clear hs
        go_wp2_with fail
        refine (awake hP3.bel).mono ?_
        rintro e w4 ⟨rfl, hb⟩
        go_wp2_with fail
        go_ret
        exact ⟨rfl, hb⟩
end Go.Proofs.Ytgkiknkifleofaa.tm
