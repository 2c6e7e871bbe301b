/- Several texts in one, one behind the other: Drawn, LkK, LkE, LkF. No condition beyond theirs. -/
import Derived.Test.YtnakbepcalciiaaGreatGa
import Derived.Calls
import Derived.Below
import Derived.Sort.Grow
import Derived.Deep.Draws
import Derived.Test.YtnakbepcalciiaaGreatGn
import Derived.Lib.OwnBridge
import Derived.Deep.CutRange
import Derived.Laws.Rows
/- The number of draws never falls along a run: so a call that leaves old memory alone ends in the old world, grown. Over any program. -/
namespace Go.Proofs.YtnakbepcalciiaaGreat.mem
open Go Go.RowKit
set_option linter.unusedVariables false
set_option linter.unusedSimpArgs false
set_option linter.unusedSectionVars false
set_option maxHeartbeats 4000000
set_option maxRecDepth 100000

def wOf {α : Type} : Result α → World
  | .ok _ w => w
  | .halt _ w => w
theorem ask_le {α : Type} : ∀ (x : Ask α) (w : World), w.drawn ≤ (w.ask x).2.drawn := by
  intro x
  induction x with
  | done a => intro w; exact Nat.le_refl _
  | ask what range k ih =>
    intro w
    unfold World.ask
    dsimp only
    split
    · exact ih _ _
    · exact Nat.le_trans (Nat.le_succ w.drawn) (ih _ ({ w with drawn := w.drawn + 1 } : World))
theorem sys_le (w : World) (c : Sys) : w.drawn ≤ (w.sys c).2.drawn := by
  have h := ask_le (Kernel.perform c w.os) w
  unfold World.sys
  split
  · exact Nat.le_refl _
  · rename_i heq
    rw [heq] at h
    exact h
theorem viewStore_le {p : Program} {w : World} {at_ : Addr} {u : TypeId} {k : Addr} {v : Value} {b : Bool} {w' : World} {l : List Addr} (h : w.viewStore p at_ u k v b = .ok (w', l)) : w'.drawn = w.drawn := by
  unfold World.viewStore at h
  simp only [bind, Except.bind, pure, Except.pure, throw, throwThe, MonadExceptOf.throw] at h
  repeat' (split at h)
  all_goals first | (cases h; rfl) | (cases h; done) | simp_all
theorem farStore_le {p : Program} {w : World} {a : Addr} {v : Value} {b : Bool} {w' : World} {l : List Addr} (h : w.farStore p a v b = .ok (w', l)) : w'.drawn = w.drawn := by
  unfold World.farStore at h
  split at h
  · split at h
    · rename_i hv
      cases h
      exact viewStore_le hv
    · cases h
  · cases h
theorem setCell_drawn (w : World) (a : Addr) (v : Value) : (w.setCell a v).drawn = w.drawn := by
  unfold World.setCell
  split <;> rfl
theorem run_le {α : Type} (p : Program) (x : Sem α) : ∀ w : World, w.drawn ≤ (wOf (x.run p w)).drawn := by
  induction x with
  | pure a => intro w; exact Nat.le_refl _
  | load m a k ih =>
    intro w
    unfold Sem.run
    split
    · exact ih _ _
    · split
      · exact ih _ _
      · exact Nat.le_refl _
  | store m a v k ih =>
    intro w
    cases v
    all_goals
      unfold Sem.run
      (repeat' split)
      all_goals first | exact Nat.le_refl _ | exact Nat.le_trans (Nat.le_of_eq (setCell_drawn _ _ _).symm) (ih _) | (rename_i hf; exact Nat.le_trans (Nat.le_of_eq (farStore_le hf).symm) (ih _))
  | new o k ih => intro w; exact ih _ ({ w with heap := w.heap.push o } : World)
  | shape r k ih => intro w; exact ih _ _
  | freeze a n k ih => intro w; unfold Sem.run; refine Nat.le_trans (Nat.le_of_eq ?_) (ih _); unfold World.freeze; split <;> rfl
  | frozen a k ih => intro w; exact ih _ _
  | getObj r k ih =>
    intro w
    unfold Sem.run
    split
    · exact Nat.le_refl _
    · exact ih _ _
    · exact Nat.le_refl _
  | setObj r o k ih =>
    intro w
    unfold Sem.run
    split
    · exact Nat.le_refl _
    · exact ih ({ w with heap := w.heap.setIfInBounds r o } : World)
    · exact Nat.le_refl _
  | choose q k ih =>
    intro w
    unfold Sem.run
    split
    · exact ih _ _
    · exact Nat.le_trans (Nat.le_succ w.drawn) (ih _ ({ w with drawn := w.drawn + 1 } : World))
  | sys c k ih => intro w; exact Nat.le_trans (sys_le w c) (ih _ _)
  | program k ih => intro w; exact ih _ _
  | mark m k ih => intro w; exact ih _
  | halt h => intro w; exact Nat.le_refl _
theorem run_ok {α : Type} {p : Program} {x : Sem α} {w w' : World} {a : α} (h : x.run p w = .ok a w') : w.drawn ≤ w'.drawn := by
  have := run_le p x w
  rw [h] at this
  exact this
theorem run_halt {α : Type} {p : Program} {x : Sem α} {w w' : World} {q : Halt} (h : x.run p w = .halt q w') : w.drawn ≤ w'.drawn := by
  have := run_le p x w
  rw [h] at this
  exact this
theorem runT_ok {α : Type} {p : Program} {x : Sem α} {w w' : World} {a : α} {es es' : Array Event} (h : x.runT p w es = (.ok a w', es')) : w.drawn ≤ w'.drawn := by
  rw [Sem.runT_eq] at h
  exact run_ok (Prod.mk.inj h).1
theorem runT_halt {α : Type} {p : Program} {x : Sem α} {w w' : World} {q : Halt} {es es' : Array Event} (h : x.runT p w es = (.halt q w', es')) : w.drawn ≤ w'.drawn := by
  rw [Sem.runT_eq] at h
  exact run_halt (Prod.mk.inj h).1
/-- what a step of a goroutine leaves has drawn d at least, unless it ends all -/
def Ge (d : Nat) : GStep → Prop
  | .go _ w _ => d ≤ w.drawn
  | .comm _ _ _ _ w _ => d ≤ w.drawn
  | .spawn _ _ w _ => d ≤ w.drawn
  | .count _ w _ => d ≤ w.drawn
  | .timer _ _ w _ => d ≤ w.drawn
  | .alone _ _ w _ => d ≤ w.drawn
  | .newcoro _ _ _ w _ => d ≤ w.drawn
  | .coroswitch _ _ _ w _ => d ≤ w.drawn
  | .collect _ w _ => d ≤ w.drawn
  | .watch _ w _ => d ≤ w.drawn
  | .ended _ _ _ => True
theorem Ge.mono {d d' : Nat} {s : GStep} (h : Ge d s) (hd : d' ≤ d) : Ge d' s := by
  cases s <;> first | trivial | exact Nat.le_trans hd h
theorem Ge.after {d : Nat} {s : GStep} (h : Ge d s) (es : Array Event) : Ge d (GStep.after es s) := by
  cases s <;> exact h
theorem ge_ite {d : Nat} {c : Prop} [Decidable c] {a b : GStep} (ha : Ge d a) (hb : Ge d b) : Ge d (if c then a else b) := by
  split
  · exact ha
  · exact hb
theorem ge_doReturn (p : Program) (main : Bool) (fr : Frame) (callers : List Frame) (dying : Option Dying) (v : Value) (w : World) : Ge w.drawn (doReturn p main fr callers dying v w) := by
  unfold doReturn
  repeat' split
  all_goals first | trivial | exact Nat.le_refl _
theorem ge_endThrow (fr : Frame) (m : String) (w : World) : Ge w.drawn (endThrow fr m w) := Nat.le_refl _
theorem ge_endPrinting (p : Program) (fr : Frame) (v : Value) (w : World) : Ge w.drawn (endPrinting p fr v w) := by
  unfold endPrinting
  dsimp only
  repeat' split
  all_goals first | trivial | exact Nat.le_refl _
theorem ge_endFatal (p : Program) (fr : Frame) (callers : List Frame) (dying : Option Dying) (m : String) (w : World) : Ge w.drawn (endFatal p fr callers dying m w) := by
  unfold endFatal
  dsimp only
  split
  · rename_i h; exact run_ok h
  · trivial
  · trivial
theorem ge_writeOn (p : Program) (fr : Frame) (d : Dying) (f : Fatal) (w : World) : Ge w.drawn (writeOn p fr d f w) := by
  unfold writeOn
  dsimp only
  split
  · trivial
  · split
    · rename_i h; exact runT_ok h
    · rename_i h; exact runT_halt h
    · trivial
    · trivial
theorem ge_endWith (w : World) (fd : Nat) (t : ByteArray) (o : Outcome) : Ge w.drawn (endWith w fd t o) := by
  unfold endWith
  dsimp only
  repeat' split
  all_goals first | trivial | exact Nat.le_refl _
theorem ge_die (p : Program) (fr : Frame) (d : Dying) (w : World) : Ge w.drawn (die p fr d w) := by
  unfold die
  split
  · exact ge_writeOn _ _ _ _ _
  · split
    · split
      · exact Nat.le_refl _
      · exact ge_endWith _ _ _ _
    · dsimp only
      split
      · exact Nat.le_refl _
      · split
        · rename_i h; exact run_ok h
        · trivial
      · refine Ge.after ?_ _
        simp only [Sem.runT_eq]
        split
        · rename_i h; exact run_ok h
        · rename_i h; exact run_ok h
        · trivial
        · rename_i h; exact (ge_endPrinting _ _ _ _).mono (run_halt h)
        · trivial
      · trivial
theorem ge_callDeferred (p : Program) (fr : Frame) (callers : List Frame) (dying : Option Dying) (d : Deferred) (w : World) : Ge w.drawn (callDeferred p fr callers dying d w) := by
  unfold callDeferred
  refine ge_ite trivial ?_
  dsimp only
  refine Ge.after ?_ _
  simp only [Sem.runT_eq]
  split
  all_goals first
    | trivial
    | (rename_i h; exact run_ok h)
    | (rename_i h; exact run_halt h)
    | (rename_i h; exact (ge_endFatal _ _ _ _ _ _).mono (run_halt h))
    | (rename_i h; exact (ge_endThrow _ _ _).mono (run_halt h))
    | (rename_i h; split <;> exact run_ok h)
theorem ge_unwind (p : Program) (main : Bool) (fr : Frame) (callers : List Frame) (dying : Option Dying) (w : World) : Ge w.drawn (unwind p main fr callers dying w) := by
  unfold unwind
  split
  · dsimp only
    refine Ge.after ?_ _
    simp only [Sem.runT_eq]
    split
    · rename_i h; exact run_ok h
    · trivial
  · exact ge_callDeferred _ _ _ _ _ _
  · split
    · trivial
    · split
      · trivial
      · split
        · exact Nat.le_refl _
        · split
          · split
            · exact Nat.le_refl _
            · split
              · rename_i h; exact run_ok h
              · trivial
              · trivial
          · split
            · exact ge_endPrinting _ _ _ _
            · trivial
    · split
      · exact ge_doReturn _ _ _ _ _ _ _
      · dsimp only
        refine Ge.after ?_ _
        simp only [Sem.runT_eq]
        split
        · rename_i h; exact (ge_doReturn _ _ _ _ _ _ _).mono (run_ok h)
        · trivial
        · trivial
theorem ge_early (p : Program) (fr : Frame) (callers : List Frame) (dying : Option Dying) (g : Nat) (w : World) : Ge w.drawn (early p fr callers dying g w) := by
  unfold early
  dsimp only
  repeat' split
  all_goals first
    | trivial
    | exact Nat.le_refl _
    | (simp only [Ge]; exact run_ok (by assumption))
theorem ge_apply (p : Program) (fr : Frame) (callers : List Frame) (dying : Option Dying) (s : Sem Next) (w : World) (listen : Bool) : Ge w.drawn (stepG.apply p listen fr callers dying s w) := by
  unfold stepG.apply
  dsimp only
  refine Ge.after ?_ _
  simp only [Sem.runT_eq]
  cases listen
  all_goals
    simp only [Bool.false_eq_true, if_false, if_true]
    split
    all_goals first
      | trivial
      | (rename_i h; exact run_ok h)
      | (rename_i h; exact run_halt h)
      | (rename_i h; exact (ge_endFatal _ _ _ _ _ _).mono (run_halt h))
      | (rename_i h; exact (ge_endThrow _ _ _).mono (run_halt h))
      | (rename_i h; exact (ge_early _ _ _ _ _ _).mono (run_halt h))
      | (rename_i h; exact ge_ite ((ge_endThrow _ _ _).mono (run_ok h)) (run_ok h))
      | (rename_i h; split <;> exact run_ok h)
theorem ge_oper (p : Program) (fr : Frame) (callers : List Frame) (dying : Option Dying) (w : World) (listen : Bool) : Ge w.drawn (stepG.oper p listen fr callers dying w) := by
  unfold stepG.oper
  repeat' split
  all_goals first | trivial | exact ge_apply _ _ _ _ _ _ _
theorem ge_elim {α : Type} {d : Nat} {o : Option α} {a : GStep} {f : α → GStep} (ha : Ge d a) (hf : ∀ x, Ge d (f x)) : Ge d (o.elim a f) := by
  cases o
  · exact ha
  · exact hf _
theorem ge_exec (p : Program) (main : Bool) (fr : Frame) (callers : List Frame) (dying : Option Dying) (w : World) (listen : Bool) : Ge w.drawn (stepG.exec p main listen fr callers dying w) := by
  unfold stepG.exec
  dsimp only
  split
  all_goals
    repeat' first
      | trivial
      | exact Nat.le_refl _
      | exact ge_apply _ _ _ _ _ _ _
      | exact ge_oper _ _ _ _ _ _
      | exact (ge_doReturn _ _ _ _ _ _ _).mono (run_ok (by assumption))
      | exact (ge_apply _ _ _ _ _ _ _).mono (run_ok (by assumption))
      | with_reducible (refine ge_ite ?_ ?_)
      | with_reducible (refine Ge.after ?_ _)
      | exact run_ok (by assumption)
      | exact run_halt (by assumption)
      | refine ge_elim ?_ (fun _ => ?_)
      | (simp only [Sem.runT_eq]; split)
      | split
theorem ge_stepG (p : Program) (main : Bool) (g : Goroutine) (w : World) (listen : Bool) : Ge w.drawn (stepG p main g w listen) := by
  unfold stepG
  dsimp only
  split
  · exact ge_die _ _ _ _
  · exact ge_exec _ _ _ _ _ _ _
  · exact ge_unwind _ _ _ _ _ _
/-- the same of the machine -/
def Gm (d : Nat) : Stepped → Prop
  | .next m => d ≤ m.world.drawn
  | .ended _ _ => True
theorem Gm.mono {d d' : Nat} {s : Stepped} (h : Gm d s) (hd : d' ≤ d) : Gm d' s := by
  cases s <;> first | trivial | exact Nat.le_trans hd h
theorem waitingAt_eq {rest : Rest} {cs : Array CommCase} {w w' : World} (h : waitingAt rest cs w = some w') : w'.drawn = w.drawn := by
  unfold waitingAt at h
  split at h
  · split at h
    · cases h; rfl
    · cases h
  · cases h; rfl
theorem gm_communicate (p : Program) (rest : Rest) (gs : Array Goroutine) (i : Nat) (g : Goroutine) (cases_ : Array CommCase) (blocking : Bool) (shape : CommShape) (w : World) : Gm w.drawn (communicate p rest gs i g cases_ blocking shape w).1 := by
  unfold communicate
  dsimp only
  repeat' first
    | trivial
    | exact Nat.le_refl _
    | exact Nat.le_of_eq (waitingAt_eq (by assumption)).symm
    | (dsimp only [Gm]; exact run_ok (by assumption))
    | (dsimp only [Gm]; exact Nat.le_trans (run_ok (by assumption)) (run_ok (by assumption)))
    | (dsimp only [Gm]; exact Nat.le_trans (run_ok (by assumption)) (run_halt (by assumption)))
    | split
theorem gm_look (p : Program) (gs : Array Goroutine) (rest : Rest) (w : World) : Gm w.drawn (look p gs rest w) := by
  unfold look
  dsimp only
  repeat' first
    | trivial
    | exact Nat.le_refl _
    | (dsimp only [Gm]; exact run_ok (by assumption))
    | split
theorem gm_serve (p : Program) (m : Machine) (k : Nat) : Gm m.world.drawn (serve p m k) := by
  unfold serve
  dsimp only
  repeat' first
    | trivial
    | exact Nat.le_refl _
    | split
theorem drain_eq (w : World) (c : Nat) : (drain w c).2.drawn = w.drawn := by
  unfold drain
  split <;> rfl
theorem retime_eq (m : Machine) (k : Nat) (t : Timer) (a b : Nat) : (retime m k t a b).2.world.drawn = m.world.drawn := by
  unfold retime
  cases h : t.chan with
  | none => rfl
  | some c => exact drain_eq _ _
theorem timerOp_eq {m : Machine} {op : TimerOp} {v : Value} {m' : Machine} (h : timerOp m op = .ok (v, m')) : m'.world.drawn = m.world.drawn := by
  have named : ∀ (m0 : Machine) (var : Addr) (f : Nat → Timer → Value × Machine), (∀ k t, (f k t).2.world.drawn = m.world.drawn) → timerOp.named m0 var f = .ok (v, m') → m'.world.drawn = m.world.drawn := by
    intro m0 var f hf h
    unfold timerOp.named at h
    split at h
    · rename_i c _
      have := hf c (m0.rest.timers.getD c default)
      injection h with h
      rw [h] at this
      exact this
    · cases h
  unfold timerOp at h
  split at h
  · split at h
    · cases h; rfl
    · split at h
      · split at h
        · cases h
        · cases h; rfl
      · cases h
  · exact named _ _ _ (fun k t => retime_eq _ _ _ _ _) h
  · split at h
    · rename_i ho
      refine named _ _ _ (fun k t => (retime_eq _ _ _ _ _).trans ?_) h
      unfold timerOp.opened at ho
      split at ho
      · split at ho
        · cases ho; rfl
        · cases ho
      · cases ho; rfl
    · cases h
  · cases h; rfl
theorem throw_w {fr : Frame} {m : String} {w w' : World} {g : Goroutine} {es : Array Event} (h : endThrow fr m w = .go g w' es) : w = w' := by
  unfold endThrow dieOf at h
  dsimp only at h
  injection h
theorem gm_runT (p : Program) (m : Machine) (i : Nat) (listen : Bool) : Gm m.world.drawn (runT p m i listen).1 := by
  unfold runT
  dsimp only
  generalize hs : stepG p (i == 0) _ m.world listen = s
  have hg : Ge m.world.drawn s := by rw [← hs]; exact ge_stepG _ _ _ _ _
  split
  · trivial
  · exact (gm_communicate _ _ _ _ _ _ _ _ _).mono hg
  · exact hg
  · exact hg
  · split
    · trivial
    · exact hg
  · exact hg
  · exact (gm_look _ _ _ _).mono hg
  · exact hg
  · exact hg
  · dsimp only
    split
    · exact hg
    · split
      · rename_i h
        have h2 := throw_w h
        subst h2
        exact hg
      · trivial
    · trivial
  · dsimp only
    split
    · rename_i h
      exact Nat.le_trans hg (Nat.le_of_eq (timerOp_eq h).symm)
    · split
      · rename_i h
        have h2 := throw_w h
        subst h2
        exact hg
      · trivial
    · trivial
    · trivial
def Gv (d : Nat) : Move → Prop
  | .goroutine m' _ => d ≤ m'.world.drawn
  | .machine s _ => Gm d s
theorem Gv.mono {d d' : Nat} {s : Move} (h : Gv d s) (hd : d' ≤ d) : Gv d' s := by
  cases s
  · exact Nat.le_trans hd h
  · exact Gm.mono h hd
theorem gv_askOn (p : Program) (m : Machine) : Gv m.world.drawn (askOn p m) := by
  have pick : ∀ m0 : Machine, m.world.drawn ≤ m0.world.drawn → ∀ rs : List Nat, Gv m.world.drawn (match (choose (.sched rs.length)).run p m0.world with
      | .halt _ w => Move.machine (.ended (.stuck "sched" "") w)
      | .ok k world =>
        if rs.length ≤ 1 then .goroutine { m0 with world } (rs.getD k 0) else
        match (choose (.extern "sched.slice" 65536)).run p world with
        | .halt _ w => .machine (.ended (.stuck "sched.slice" "") w)
        | .ok n world => .goroutine { m0 with world, rest := { m0.rest with slice := if n = 0 then none else some (rs.getD k 0, n) } } (rs.getD k 0)) := by
    intro m0 h0 rs
    split
    · trivial
    · rename_i h1
      split
      · exact Nat.le_trans h0 (run_ok h1)
      · split
        · trivial
        · rename_i h2
          exact Nat.le_trans h0 (Nat.le_trans (run_ok h1) (run_ok h2))
  unfold askOn
  dsimp only
  split
  · trivial
  · rename_i k1 wd h1
    have l1 := run_ok h1
    split
    · exact (gm_serve p { m with world := wd } _).mono l1
    · split
      · split
        · exact l1
        · split
          · exact l1
          · split
            · trivial
            · trivial
      · split
        · exact pick { m with world := wd } l1 _
        · split
          · trivial
          · rename_i wd2 h2
            exact pick { m with world := wd2 } (Nat.le_trans l1 (run_ok h2)) _
          · rename_i wd2 h2
            exact (Nat.le_trans l1 (run_ok h2) : m.world.drawn ≤ wd2.drawn)
          · rename_i k2 wd2 h2
            exact pick (Machine.advanceTo { m with world := wd2 } _) (Nat.le_trans l1 (run_ok h2) : m.world.drawn ≤ wd2.drawn) _
theorem gv_ask (p : Program) (m : Machine) : Gv m.world.drawn (ask p m) := by
  unfold ask
  split
  · split
    · trivial
    · rename_i h1
      have l1 := run_ok h1
      have hl := Gm.mono (gm_look p m.gs m.rest _) l1
      split
      · rename_i h2
        rw [h2] at hl
        exact (gv_askOn _ _).mono hl
      · exact hl
    · rename_i h1
      exact (gv_askOn _ _).mono (run_ok h1)
  · exact gv_askOn _ _
theorem gv_move (p : Program) (m : Machine) : Gv m.world.drawn (move p m) := by
  unfold move
  split
  · split
    · exact Nat.le_refl _
    · trivial
  · split
    · split
      · exact Nat.le_refl _
      · exact gv_ask p { m with rest := { m.rest with slice := none } }
    · exact gv_ask _ _
theorem gm_step (p : Program) (m : Machine) : Gm m.world.drawn (step p m) := by
  unfold step stepT
  have h := gv_move p m
  split
  · rename_i he
    rw [he] at h
    exact (gm_runT _ _ _ _).mono h
  · rename_i he
    rw [he] at h
    exact h
theorem steps_le {p : Program} {m m' : Machine} (h : Steps p m m') : m.world.drawn ≤ m'.world.drawn := by
  obtain ⟨n, h⟩ := h
  induction n generalizing m with
  | zero =>
    unfold runN at h
    cases h
    exact Nat.le_refl _
  | succ n ih =>
    unfold runN at h
    have hs := gm_step p m
    cases he : step p m with
    | next m1 =>
      rw [he] at hs h
      exact Nat.le_trans hs (ih h)
    | ended o w =>
      rw [he] at h
      cases h
/-- what a call ends in has drawn no fewer -/
theorem calls_drawn {P : Program} {f : FuncId} {args : Array Value} {w : World} {R : Ending → World → Prop} (h : Calls P f args w R) (hr : ∀ e w', R e w' → ∃ v, e = .returned v) : Calls P f args w fun e w' => R e w' ∧ w.drawn ≤ w'.drawn := by
  intro cs
  obtain ⟨e, w', fr, r, hc, rest⟩ := h cs
  refine ⟨e, w', fr, ⟨r, ?_⟩, hc, rest⟩
  obtain ⟨v, rfl⟩ := hr e w' r
  exact steps_le hc
theorem grow_of {w w' : World} (hb : Below w.heap.size w w') (hd : w.drawn ≤ w'.drawn) : ∃ n os, w' = Sort.grow (w.drewN n) os := by
  refine ⟨w'.drawn - w.drawn, w'.heap.extract w.heap.size w'.heap.size, ?_⟩
  obtain ⟨heap, tape, drawn, os, output⟩ := w
  obtain ⟨heap', tape', drawn', os', output'⟩ := w'
  obtain ⟨h1, h2, h3, h4, h5⟩ := hb
  simp only at h1 h2 h3 h4 h5 hd
  subst h1 h2 h3
  unfold Sort.grow World.drewN
  have e1 : drawn + (drawn' - drawn) = drawn' := by omega
  have e2 : heap ++ heap'.extract heap.size heap'.size = heap' := by
    refine Array.ext_getElem? (fun i => ?_)
    rw [Array.getElem?_append]
    split
    · rename_i hi
      exact (h5 i hi).symm
    · rename_i hi
      rw [Array.getElem?_extract]
      split
      · congr 1; omega
      · rename_i hn
        rw [Array.getElem?_eq_none]
        omega
  simp only [e1, e2]
/-- a call that leaves old memory alone ends in the old world, grown -/
theorem calls_grows {P : Program} {f : FuncId} {args : Array Value} {w : World} {R : Ending → World → Prop} (h : Calls P f args w R) (hr : ∀ e w', R e w' → (∃ v, e = .returned v) ∧ Below w.heap.size w w') : Calls P f args w fun e w' => R e w' ∧ ∃ n os, w' = Sort.grow (w.drewN n) os :=
  (calls_drawn h fun e w' r => (hr e w' r).1).mono fun e w' r => ⟨r.1, grow_of (hr e w' r.1).2 r.2⟩
end Go.Proofs.YtnakbepcalciiaaGreat.mem
/- slices.SortFunc over pairs and monitors. Conditions: the row is the call's own. -/
namespace Go.Proofs.YtnakbepcalciiaaGreat.lk
open Go.RowKit mem rec tm names pm Go.Sort
set_option linter.unusedVariables false
set_option linter.unusedSimpArgs false
set_option linter.unusedSectionVars false
set_option maxHeartbeats 1000000
set_option maxRecDepth 100000
section
variable {α : Type} [Inhabited α] {enc : α → List Value} {k : Nat} {e : TypeId}
theorem flatK_list (hk : ∀ x, (enc x).length = k) (h0 : 0 < k) (h1 : ∀ x, ∀ u ∈ enc x, u.oneCell' = true) (l : List α) : flatK enc k l.toArray = (l.flatMap enc).toArray := by
  have hE : EncOK enc k l := fun a _ => ⟨hk a, h1 a⟩
  have hs : (flatK enc k l.toArray).size = (l.flatMap enc).toArray.size := by rw [size_flatK]; simp only [List.size_toArray]; rw [flat_len hE]
  refine ext_get! hs fun t ht => ?_
  rw [size_flatK] at ht
  simp only [List.size_toArray] at ht
  obtain ⟨j, q, a, rfl, hq, ha⟩ := flat_inv h0 ht
  have e1 : (j * k + q) / k = j := (blk_iff k j _ h0).1 ⟨Nat.le_add_right _ _, by omega⟩
  have e2 : (j * k + q) % k = q := by rw [Nat.mul_comm, Nat.mul_add_mod]; exact Nat.mod_eq_of_lt hq
  rw [get_flatK _ _ _ _ (by simpa using ht), e1, e2]
  obtain ⟨hj, rfl⟩ := List.getElem?_eq_some_iff.1 ha
  rw [getElem!_pos l.toArray j (by simpa using hj)]
  have hg := flat_get hE ha hq
  rw [List.getElem?_eq_getElem (l := enc l[j]) (by rw [hk]; exact hq)] at hg
  obtain ⟨hlt, hg⟩ := List.getElem?_eq_some_iff.1 hg
  rw [getElem!_pos (l.flatMap enc).toArray _ (by simpa using hlt)]
  simp only [List.getElem_toArray]
  rw [hg, getElem!_pos _ q (by rw [hk]; exact hq)]
theorem holdsK_own (hk : ∀ x, (enc x).length = k) (h0 : 0 < k) (h1 : ∀ x, ∀ u ∈ enc x, u.oneCell' = true) {w : World} {base : Nat} {v : Value} {l : List α} (h : RecOwn enc e k w base v l) (hv : v ≠ .slice none 0 0) :
    ∃ g cap, v = .slice (some ⟨g, 0, none⟩) l.length cap ∧ base ≤ g ∧ g < w.heap.size ∧ l.length ≤ cap ∧ cap ≤ maxLen ∧ HoldsK enc k w g 0 l.toArray := by
  have hE : EncOK enc k l := fun a _ => ⟨hk a, h1 a⟩
  obtain ⟨h2, h3 | ⟨g, cap, cur, rfl, hb, hh, h4, h5, h6, h7⟩⟩ := id h
  · exact absurd h3.1 hv
  · have hlt : g < w.heap.size := (Array.getElem?_eq_some_iff.1 hh).1
    refine ⟨g, cap, rfl, hb, hlt, h4, h5, ?_⟩
    unfold HoldsK
    rw [flatK_list hk h0 h1]
    intro j hj
    have hj' : j < (l.flatMap enc).length := by simpa using hj
    have hj2 : j < l.length * k := by rw [flat_len hE] at hj'; exact hj'
    refine ⟨?_, by simp [World.frozen?, hh]⟩
    rw [Nat.zero_add, World.ownsRow.cellAt h _ hj2, getElem!_pos (l.flatMap enc).toArray j (by simpa using hj')]
    simp
theorem recAt_holds (hk : ∀ x, (enc x).length = k) (h0 : 0 < k) (h1 : ∀ x, ∀ u ∈ enc x, u.oneCell' = true) {w : World} {g cap : Nat} {l : List α} (hg : g < w.heap.size) (hc : l.length ≤ cap) (hm : cap ≤ maxLen) (h : HoldsK enc k w g 0 l.toArray) : RecAt enc k w w.heap.size (.slice (some ⟨g, 0, none⟩) l.length cap) l := by
  have hE : EncOK enc k l := fun a _ => ⟨hk a, h1 a⟩
  refine ⟨_, _, rfl, hc, hm, fun _ => ⟨g, 0, rfl, hg, fun j a hj q u hu => ?_⟩⟩
  unfold HoldsK at h
  rw [flatK_list hk h0 h1] at h
  have hq : q < k := by
    have := (List.getElem?_eq_some_iff.1 hu).1
    rwa [hk] at this
  have hf := flat_get hE hj hq
  rw [hu] at hf
  obtain ⟨hlt, hf⟩ := List.getElem?_eq_some_iff.1 hf
  have := (h (j * k + q) (by simpa using hlt)).1
  rw [getElem!_pos (l.flatMap enc).toArray _ (by simpa using hlt)] at this
  simp only [List.getElem_toArray] at this
  rw [hf] at this
  exact this
theorem sortK_touch (w : World) (blk off m : Nat) (dk : Array α) (os : Array Obj) : TouchB (fun i => i = blk) w (sortWorldK enc k w blk off m dk os) := by
  unfold sortWorldK putRowK
  refine ⟨rfl, rfl, rfl, ?_, fun i hi hn => ?_⟩
  · rw [size_grow, Sort.size_putRow]; exact Nat.le_add_right _ _
  · rw [heap_grow_old _ _ (by rw [Sort.size_putRow]; exact hi)]
    simp [putRow, mapBlock, Sort.ahead, Array.getElem?_modify, show blk ≠ i from fun e => hn e.symm]
theorem swo_of {cf : α → α → Int} (h : TP (fun _ => True) cf) : SWO (ltOf cf) where
  irrefl x := by
    unfold ltOf
    have := h.anti x x
    exact decide_eq_false (by omega)
  trans x y z h1 h2 := by
    unfold ltOf at *
    rw [decide_eq_true_iff] at *
    have a1 := h.trans x y z trivial trivial trivial (by omega) (by omega)
    by_cases h3 : cf x z = 0
    · exfalso
      have a2 := h.anti x z
      have a3 := h.trans y z x trivial trivial trivial (by omega) (by omega)
      have a4 := h.anti x y
      omega
    · omega
  ntrans x y z h1 h2 := by
    unfold ltOf at *
    rw [decide_eq_false_iff_not] at *
    have a1 := h.anti x y
    have a2 := h.anti y z
    have a3 := h.anti x z
    have a4 := h.trans z y x trivial trivial trivial (by omega) (by omega)
    omega
def SortP (enc : α → List Value) (k : Nat) (cf : α → α → Int) (v : Value) (l : List α) (w : World) (e : Ending) (w' : World) : Prop := e = .returned (.tuple #[]) ∧ ∃ l', l'.Perm l ∧ l'.Pairwise (fun x y => cf x y ≤ 0) ∧ RecAt enc k w' w'.heap.size v l' ∧ TouchB (fun i => v.ownBlock = some i) w w'
theorem sortRec {ρ : Go.Shelf.Ren} (L : SlLaysF0.n6 Tryz.prog ρ) (h0 : 0 < k) (aE : ∀ w, (isAgg (ρ.t 24)).run Tryz.prog w = .ok true w) (zE : ∀ w, (Go.sizeOf (ρ.t 24)).run Tryz.prog w = .ok k w) (hk : ∀ x, (enc x).length = k) (h1 : ∀ x, ∀ u ∈ enc x, u.oneCell' = true) {cf : α → α → Int} (tp : TP (fun _ => True) cf) {g : Nat} (eg : ∀ args w, (callFunc g args).run Tryz.prog w = .ok (.enter g args) w)
    (hcmp : ∀ W x y, Calls Tryz.prog g #[.agg (enc x).toArray, .agg (enc y).toArray] W fun e w' => e = .returned (.int .i64 (cf x y)) ∧ Below W.heap.size W w') {w : World} {base : Nat} {v : Value} {l : List α} (h : RecOwn enc e k w base v l) (hv : v ≠ .slice none 0 0) (hl : l.length ≤ 1000000000) :
    Calls Tryz.prog (ρ.f 6) #[v, .func (.func g) #[] #[]] w (SortP enc k cf v l w) := by
  obtain ⟨blk, cap, rfl, hb, hlt, hc, hm, hH⟩ := holdsK_own hk h0 h1 h hv
  have hsz : l.toArray.size = l.length := by simp
  have hcm : CmpLays Tryz.prog g #[] enc k cf blk 0 l.toArray.size w := by
    intro m os dk hs x y
    refine (calls_grows (hcmp (sortWorldK enc k w blk 0 m dk os) x y) (fun e w' h => ⟨⟨_, h.1⟩, h.2⟩)).mono ?_
    rintro e w' ⟨⟨rfl, _⟩, n, os', hw⟩
    exact ⟨rfl, n, os', hw⟩
  have hp := AnyQ.slices_SortFunc (α := α) L k aE zE enc hk h1 cf (swo_of tp) g #[] blk 0 cap l.toArray w eg hcm hH hlt (by rw [hsz]; omega)
  rw [hsz] at hp
  refine hp.mono ?_
  rintro e w' ⟨rfl, d', n, os, ⟨h4, _, h5⟩, h3, rfl⟩
  have hds : d'.size = l.length := by rw [h4, hsz]
  refine ⟨rfl, d'.toList, ?_, ?_, ?_, (sortK_touch w blk 0 n d' os).mono (fun i _ hi => by rw [hi]; rfl)⟩
  · have e1 : d'.extract 0 l.length = d' := by rw [← hds]; simp
    have e2 : l.toArray.extract 0 l.length = l.toArray := by rw [← hsz]; exact Array.extract_size
    rw [e1, e2] at h5
    exact h5
  · rw [List.pairwise_iff_getElem]
    intro i j hi hj hij
    have h6 := h3 i j (Nat.zero_le _) hij (by rw [← hds]; simpa using hj)
    rw [getElem!_pos _ j (by simpa using hj), getElem!_pos _ i (by simpa using hi)] at h6
    unfold ltOf at h6
    rw [decide_eq_false_iff_not] at h6
    have := tp.anti d'[i] d'[j]
    simp only [Array.getElem_toList]
    omega
  · have hHd := holdsK_sortWorldK_c enc k w blk 0 l.toArray d' n os hH hlt h4
    have hr := recAt_holds hk h0 h1 (l := d'.toList) (w := sortWorldK enc k w blk 0 n d' os) (g := blk) (cap := cap) (Nat.lt_of_lt_of_le hlt (sortK_touch w blk 0 n d' os).size) (by rw [Array.length_toList, hds]; exact hc) hm hHd
    rw [Array.length_toList, hds] at hr
    exact hr
end
theorem ins0P (p : Option Addr) (c : Nat) (fv : Value) (w : World) : Calls Tryz.prog 218 #[.slice p 0 c, .int .i64 0, .int .i64 0, fv] w fun e w' => e = .returned (.tuple #[]) ∧ w = w' := by
  go_enter Tryz.func218, Tryz.ntmps218
  go_wp2_with fail
  refine wp_loop_rounds 1 ?_
  rw [rounds_succ]
  go_wp2_with fail
  go_end0
  exact ⟨rfl, rfl⟩
theorem pdq0P (p : Option Addr) (c : Nat) (lim : Int) (fv : Value) (w : World) : Calls Tryz.prog 195 #[.slice p 0 c, .int .i64 0, .int .i64 0, .int .i64 lim, fv] w fun e w' => e = .returned (.tuple #[]) ∧ w = w' := by
  go_enter Tryz.func195, Tryz.ntmps195
  go_wp2_with fail
  refine wp_loop_rounds 1 ?_
  rw [rounds_succ]
  go_wp2_with fail
  refine (ins0P p c fv w).mono ?_
  rintro e w' ⟨rfl, rfl⟩
  go_wp2_with fail
  (try simp only [Exit.inBlock, Exit.then])
  refine bodyPost_ret (results_none rfl _ _ _) rfl ?_
  exact ⟨rfl, rfl⟩
theorem sort0P (p : Option Addr) (c : Nat) (fv : Value) (w : World) : Calls Tryz.prog 153 #[.slice p 0 c, fv] w fun e w' => e = .returned (.tuple #[]) ∧ w = w' := by
  have hl : ∀ W, Calls Tryz.prog 190 #[.int .u64 0] W fun e w' => e = .returned (.int .i64 (Lib.bitLen 0 : Nat)) ∧ w' = W := fun W =>
    Any.bits_Len (SlLaysF0.n15.bits (P := Tryz.prog) (ρ := Tryz.srtP_ren) { Tryz.srtP with }) 0 W (by omega) (by omega)
  go_enter Tryz.func153, Tryz.ntmps153
  go_wp2_with (first | (go_at_call 190; refine (hl _).mono ?_; rintro e w' ⟨rfl, rfl⟩) | (go_at_call 195; refine (pdq0P _ _ _ _ _).mono ?_; rintro e w' ⟨rfl, rfl⟩))
  go_end0
  exact ⟨rfl, rfl⟩
theorem ins0M (p : Option Addr) (c : Nat) (fv : Value) (w : World) : Calls Tryz.prog 208 #[.slice p 0 c, .int .i64 0, .int .i64 0, fv] w fun e w' => e = .returned (.tuple #[]) ∧ w = w' := by
  go_enter Tryz.func208, Tryz.ntmps208
  go_wp2_with fail
  refine wp_loop_rounds 1 ?_
  rw [rounds_succ]
  go_wp2_with fail
  go_end0
  exact ⟨rfl, rfl⟩
theorem pdq0M (p : Option Addr) (c : Nat) (lim : Int) (fv : Value) (w : World) : Calls Tryz.prog 189 #[.slice p 0 c, .int .i64 0, .int .i64 0, .int .i64 lim, fv] w fun e w' => e = .returned (.tuple #[]) ∧ w = w' := by
  go_enter Tryz.func189, Tryz.ntmps189
  go_wp2_with fail
  refine wp_loop_rounds 1 ?_
  rw [rounds_succ]
  go_wp2_with fail
  refine (ins0M p c fv w).mono ?_
  rintro e w' ⟨rfl, rfl⟩
  go_wp2_with fail
  (try simp only [Exit.inBlock, Exit.then])
  refine bodyPost_ret (results_none rfl _ _ _) rfl ?_
  exact ⟨rfl, rfl⟩
theorem sort0M (p : Option Addr) (c : Nat) (fv : Value) (w : World) : Calls Tryz.prog 148 #[.slice p 0 c, fv] w fun e w' => e = .returned (.tuple #[]) ∧ w = w' := by
  have hl : ∀ W, Calls Tryz.prog 190 #[.int .u64 0] W fun e w' => e = .returned (.int .i64 (Lib.bitLen 0 : Nat)) ∧ w' = W := fun W =>
    Any.bits_Len (SlLaysF0.n15.bits (P := Tryz.prog) (ρ := Tryz.srtM_ren) { Tryz.srtM with }) 0 W (by omega) (by omega)
  go_enter Tryz.func148, Tryz.ntmps148
  go_wp2_with (first | (go_at_call 190; refine (hl _).mono ?_; rintro e w' ⟨rfl, rfl⟩) | (go_at_call 189; refine (pdq0M _ _ _ _ _).mono ?_; rintro e w' ⟨rfl, rfl⟩))
  go_end0
  exact ⟨rfl, rfl⟩
theorem idL_one (x : Id) : ∀ u ∈ idL x, u.oneCell' = true := fun u hu => by
  simp only [idL, List.mem_cons, List.mem_nil_iff, or_false] at hu
  rcases hu with rfl | rfl | rfl | rfl <;> rfl
theorem prL_len (p : Pr) : (prL p).length = 8 := rfl
theorem prL_one (p : Pr) : ∀ u ∈ prL p, u.oneCell' = true := fun u hu => by
  rcases List.mem_append.1 hu with h | h
  · exact idL_one _ u h
  · exact idL_one _ u h
theorem mnL_len (m : Mn) : (mnL m).length = 12 := rfl
theorem mnL_one (m : Mn) : ∀ u ∈ mnL m, u.oneCell' = true := fun u hu => by
  rcases List.mem_append.1 hu with h | h
  · rcases List.mem_append.1 h with h | h
    · exact idL_one _ u h
    · exact idL_one _ u h
  · exact idL_one _ u h
theorem eight_of {w : World} {z : Nat} {p : Pr} {t : TypeId} (h : w.heap[z]? = some (.cells (prL p).toArray t)) : w.heap[z]? = some (.cells #[.int .i64 p.1.1, .string p.1.2.1, .int .i64 p.1.2.2.1, .int .i64 p.1.2.2.2, .int .i64 p.2.1, .string p.2.2.1, .int .i64 p.2.2.2.1, .int .i64 p.2.2.2.2] t) := h
end Go.Proofs.YtnakbepcalciiaaGreat.lk
/- pair: may a half link be. Conditions: as said. -/
namespace Go.Proofs.YtnakbepcalciiaaGreat.lk
open Go.RowKit mem rec tm names
set_option linter.unusedVariables false
set_option linter.unusedSimpArgs false
set_option maxHeartbeats 4000000
set_option maxRecDepth 100000
def zId : Id := (0, ⟨#[]⟩, 0, 0)
def pairB (node : ByteArray) (gen : Int) (far ra rb : Bool) (x y : Id) : Bool := ra && (rb && (locB node gen x && (decide (x ≠ y) && !(far && locB node gen y))))
def PairP (ok : Bool) (x y : Id) (w : World) (e : Ending) (w' : World) : Prop := e = .returned (.tuple #[prV (if ok then (x, y) else (zId, zId)), .int .i64 (if ok then 0 else 2)]) ∧ Below w.heap.size w w'
theorem eqlId (x y : Id) (w : World) : (binOp .eql 147 (idV x) (idV y)).run Tryz.prog w = .ok (.bool (decide (x = y))) w := by
  unfold idV
  rw [run_eql_struct]
  have := eqIn_id 9998 x y w
  unfold idV at this
  rw [this]
  rfl
theorem eight_cells {w : World} {z : Nat} {a b c d e f g h : Value} {t : TypeId} (hh : w.heap[z]? = some (.cells #[a, b, c, d, e, f, g, h] t)) : w.cell? ⟨z, 0, none⟩ = some a ∧ w.cell? ⟨z, 1, none⟩ = some b ∧ w.cell? ⟨z, 2, none⟩ = some c ∧ w.cell? ⟨z, 3, none⟩ = some d ∧ w.cell? ⟨z, 4, none⟩ = some e ∧ w.cell? ⟨z, 5, none⟩ = some f ∧ w.cell? ⟨z, 6, none⟩ = some g ∧ w.cell? ⟨z, 7, none⟩ = some h ∧ ∀ o, w.frozen? ⟨z, o, none⟩ = false := by
  refine ⟨?_, ?_, ?_, ?_, ?_, ?_, ?_, ?_, fun o => ?_⟩
  · simp only [World.cell?, hh]; rfl
  · simp only [World.cell?, hh]; rfl
  · simp only [World.cell?, hh]; rfl
  · simp only [World.cell?, hh]; rfl
  · simp only [World.cell?, hh]; rfl
  · simp only [World.cell?, hh]; rfl
  · simp only [World.cell?, hh]; rfl
  · simp only [World.cell?, hh]; rfl
  · simp only [World.frozen?, hh]; simp
theorem set4 {w : World} {g : Nat} {x0 x1 x2 x3 : Value} {t : TypeId} (h : w.heap[g]? = some (.cells #[x0, x1, x2, x3] t)) (a b c d : Value) : ((((w.setCell ⟨g, 0, none⟩ a).setCell ⟨g, 1, none⟩ b).setCell ⟨g, 2, none⟩ c).setCell ⟨g, 3, none⟩ d).heap[g]? = some (.cells #[a, b, c, d] t) :=
  heap_setCell_same _ _ _ _ _ _ (heap_setCell_same _ _ _ _ _ _ (heap_setCell_same _ _ _ _ _ _ (heap_setCell_same _ _ _ _ _ _ h)))
theorem sets4 {B : Nat} {w0 w : World} {g : Nat} (h : Below B w0 w) (hg : B ≤ g) (a b c d : Value) : Below B w0 ((((w.setCell ⟨g, 0, none⟩ a).setCell ⟨g, 1, none⟩ b).setCell ⟨g, 2, none⟩ c).setCell ⟨g, 3, none⟩ d) :=
  (((h.setCell hg _).setCell hg _).setCell hg _).setCell hg _
theorem sets8 {B : Nat} {w0 w : World} {g : Nat} (h : Below B w0 w) (hg : B ≤ g) (a b c d a2 b2 c2 d2 : Value) : Below B w0 ((((((((w.setCell ⟨g, 0, none⟩ a).setCell ⟨g, 1, none⟩ b).setCell ⟨g, 2, none⟩ c).setCell ⟨g, 3, none⟩ d).setCell ⟨g, 4, none⟩ a2).setCell ⟨g, 5, none⟩ b2).setCell ⟨g, 6, none⟩ c2).setCell ⟨g, 7, none⟩ d2) :=
  (((((((h.setCell hg _).setCell hg _).setCell hg _).setCell hg _).setCell hg _).setCell hg _).setCell hg _).setCell hg _
/-- an identity in a box of the call's own -/
def OfRel (W0 : World) (x : Id) (r : Bool) (a b : Value) (wc : World) : Prop := ∃ zx, a = .pointer (some ⟨zx, 0, none⟩) ∧ b = .bool r ∧ W0.heap.size ≤ zx ∧ wc.heap[zx]? = some (.cells #[.int .i64 x.1, .string x.2.1, .int .i64 x.2.2.1, .int .i64 x.2.2.2] 147) ∧ Below W0.heap.size W0 wc
/-- the two arms of a call that stands beside an alloc -/
theorem belowDA {w : World} (o : Obj) : Below w.heap.size w (w.alloc o).drew := belowD (belowA (Below.refl _ _) _ (Nat.le_refl _))
theorem belowDA_lt (w : World) (o : Obj) : w.heap.size < (w.alloc o).drew.heap.size := by
  show w.heap.size < (w.alloc o).heap.size
  rw [World.size_alloc]; omega
theorem alloc_newD (w : World) (o : Obj) : (w.alloc o).drew.heap[w.heap.size]? = some o := alloc_new w o
/-- the world in which pair begins to work: two boxes and a result -/
theorem pair_start (w : World) (fa fb : TF) (va vb : Value) (o : Obj) : Nine (((w.alloc (cells9 fa va)).alloc (cells9 fb vb)).alloc o) w.heap.size fa va ∧ Nine (((w.alloc (cells9 fa va)).alloc (cells9 fb vb)).alloc o) (w.heap.size + 1) fb vb ∧ (((w.alloc (cells9 fa va)).alloc (cells9 fb vb)).alloc o).heap[w.heap.size + 1 + 1]? = some o ∧ Below w.heap.size w (((w.alloc (cells9 fa va)).alloc (cells9 fb vb)).alloc o) ∧ (((w.alloc (cells9 fa va)).alloc (cells9 fb vb)).alloc o).heap.size = w.heap.size + 3 := by
  obtain ⟨h1, h2, hb⟩ := boxes2 w fa fb va vb
  obtain ⟨hb, hs⟩ := hb
  refine ⟨h1.below (belowA (Below.refl _ _) o (Nat.le_refl _)) (by rw [hs]; omega), h2.below (belowA (Below.refl _ _) o (Nat.le_refl _)) (by rw [hs]; omega), ?_, belowA hb o (by rw [hs]; omega), ?_⟩
  · have := alloc_new ((w.alloc (cells9 fa va)).alloc (cells9 fb vb)) o
    rw [hs] at this
    exact this
  · rw [World.size_alloc, hs]

theorem pair79 {n m : Nat} (w : World) {z mh mm : Nat} {node : ByteArray} {gen last : Int} (hz : w.heap[z]? = some (linkC node gen last mh mm)) (B : Nat) (va vb : Value) (ta : Tm (n + 1)) (tb : Tm (m + 1)) (far : Bool) (hB : B ≤ w.heap.size) (ha : ItemsAt w B n va ta.items) (hb : ItemsAt w B m vb tb.items) (sa : 300 * (nodesT ta : Int) ≤ 1000000000000) (sb : 300 * (nodesT tb : Int) ≤ 1000000000000) :
    Calls Tryz.prog 79 #[.pointer (some ⟨z, 0, none⟩), aggV ta.f va, aggV tb.f vb, .bool far] w (PairP (pairB node gen far (decide (ta.f.kind = 6) && validT ta) (decide (tb.f.kind = 6) && validT tb) (idOf ta.f) (idOf tb.f)) (idOf ta.f) (idOf tb.f) w) := by
  have hzl := (Array.getElem?_eq_some_iff.1 hz).1
  have HOA := Lib.hid (fun W (hW : Below w.heap.size w W) => of86 W B va ta 6 (Nat.le_trans hB hW.size) (ha.below hW hB) sa)
  have HOB := Lib.hid (fun W (hW : Below w.heap.size w W) => of86 W B vb tb 6 (Nat.le_trans hB hW.size) (hb.below hW hB) sb)
  have HN := Lib.hid (fun W (hW : Below w.heap.size w W) => none85 ((hW.block z hzl).trans hz))
  have HLX := Lib.hid (fun W (hW : Below w.heap.size w W) => local80 ((hW.block z hzl).trans hz) (idOf ta.f))
  have HLY := Lib.hid (fun W (hW : Below w.heap.size w W) => local80 ((hW.block z hzl).trans hz) (idOf tb.f))
  have HQ := Lib.hid (eqlId (idOf ta.f) (idOf tb.f))
  obtain ⟨pa, ca, rfl, _, _⟩ := ha.shape
  obtain ⟨pb, cb, rfl, _, _⟩ := hb.shape
  clear ha hb sa sb hB hz hzl
  unfold pairB
  rw [show decide (idOf ta.f ≠ idOf tb.f) = !decide (idOf ta.f = idOf tb.f) by simp]
  generalize (decide (ta.f.kind = 6) && validT ta) = ra at *
  generalize (decide (tb.f.kind = 6) && validT tb) = rb at *
  generalize ta.items.length = na at *
  generalize tb.items.length = nb at *
  generalize ta.f = fa at *
  generalize tb.f = fb at *
  generalize decide (idOf fa = idOf fb) = xy at *
  generalize locB node gen (idOf fa) = la at *
  generalize locB node gen (idOf fb) = lb at *
  obtain ⟨hA, hBx, hR, hb3, hs3⟩ := pair_start w fa fb (.slice pa na ca) (.slice pb nb cb) (.cells #[.int .i64 0, .string ⟨#[]⟩, .int .i64 0, .int .i64 0, .int .i64 0, .string ⟨#[]⟩, .int .i64 0, .int .i64 0] 149)
  obtain ⟨ok, hok⟩ : ∃ ok, (ra && (rb && (la && (!xy && !(far && lb))))) = ok := ⟨_, rfl⟩
  rw [hok]
  have HOK := Lib.hid hok
  clear hok
  obtain ⟨ak, ai, ag, an, af, aa, ab, az⟩ := fa
  obtain ⟨bk, bi, bg, bn, bf, ba, bb, bz⟩ := fb
  unfold PairP
  unfold prV
  unfold aggV idV idOf at *
  unfold cells9 at *
  dsimp only at *
  have HA := Lib.hid hA
  have HBx := Lib.hid hBx
  have HR := Lib.hid hR
  have HB3 := Lib.hid hb3
  have HS3 := Lib.hid hs3
  clear hA hBx hR hb3 hs3
  go_enter Tryz.func79, Tryz.ntmps79
  go_wp2_with fail
  refine (HN.out _ HB3.out).mono ?_
  rintro e w1 ⟨rfl, hw1⟩
  subst hw1
  clear HN
  generalize (((w.alloc (.cells #[.int .i64 ak, .int .i64 ai, .int .i64 ag, .string an, .string af, .int .i64 aa, .slice pa na ca, .string ab, .int .i64 az] 30)).alloc (.cells #[.int .i64 bk, .int .i64 bi, .int .i64 bg, .string bn, .string bf, .int .i64 ba, .slice pb nb cb, .string bb, .int .i64 bz] 30)).alloc (.cells #[.int .i64 0, .string ⟨#[]⟩, .int .i64 0, .int .i64 0, .int .i64 0, .string ⟨#[]⟩, .int .i64 0, .int .i64 0] 149)) = W1 at *
  have HOA1 := Lib.hid (fun W (hW : Below W1.heap.size W1 W) => HOA.out W (HB3.out.trans (hW.mono HB3.out.size)))
  have HAlt : w.heap.size < W1.heap.size := by have := HS3.out; omega
  have HBlt : w.heap.size + 1 < W1.heap.size := by have := HS3.out; omega
  have HRlt : w.heap.size + 1 + 1 < W1.heap.size := by have := HS3.out; omega
  obtain ⟨x0, x1, x2, x3, x4, x5, x6, x7, x8, xf⟩ := HA.out
  dsimp only at x0 x1 x2 x3 x4 x5 x6 x7 x8
  go_wp2_with fail
  refine (HOA1.out _ (Below.refl _ _)).mono ?_
  rintro e W2 ⟨rfl, hb2⟩
  clear x0 x1 x2 x3 x4 x5 x6 x7 x8 xf HOA HOA1 HA
  go_upto_region 4 with (fail)
  have hX := alloc_new W2 (.cells #[.int .i64 ak, .string an, .int .i64 ag, .int .i64 ai] 147)
  have hb3 := belowA hb2 (.cells #[.int .i64 ak, .string an, .int .i64 ag, .int .i64 ai] 147) hb2.size
  have hzx := hb2.size
  have hzl : W2.heap.size < (W2.alloc (.cells #[.int .i64 ak, .string an, .int .i64 ag, .int .i64 ai] 147)).heap.size := by rw [World.size_alloc]; omega
  clear hb2
  generalize (W2.alloc (.cells #[.int .i64 ak, .string an, .int .i64 ag, .int .i64 ai] 147)) = W3 at *
  generalize W2.heap.size = zx at *
  obtain ⟨y0, y1, y2, y3, y4, y5, y6, y7, y8, yf⟩ := HBx.out.below hb3 HBlt
  dsimp only at y0 y1 y2 y3 y4 y5 y6 y7 y8
  have hR3 := (hb3.block _ HRlt).trans HR.out
  have HBb := Lib.hid (HB3.out.trans (hb3.mono HB3.out.size))
  have HR3 := Lib.hid hR3
  have HX3 := Lib.hid hX
  have HRl : w.heap.size + 1 + 1 < W3.heap.size := Nat.lt_of_lt_of_le HRlt hb3.size
  clear hR3 hX hb3
  go_wp2_with fail
  refine (HOB.out _ HBb.out).mono ?_
  rintro e W4 ⟨rfl, hb4⟩
  clear y0 y1 y2 y3 y4 y5 y6 y7 y8 yf HBx HOB
  go_upto_region 5 with (fail)
  have hY := alloc_new W4 (.cells #[.int .i64 bk, .string bn, .int .i64 bg, .int .i64 bi] 147)
  have hb5 := belowA hb4 (.cells #[.int .i64 bk, .string bn, .int .i64 bg, .int .i64 bi] 147) hb4.size
  have hzy := hb4.size
  have hyl : W4.heap.size < (W4.alloc (.cells #[.int .i64 bk, .string bn, .int .i64 bg, .int .i64 bi] 147)).heap.size := by rw [World.size_alloc]; omega
  clear hb4
  generalize (W4.alloc (.cells #[.int .i64 bk, .string bn, .int .i64 bg, .int .i64 bi] 147)) = W5 at *
  generalize W4.heap.size = zy at *
  have hR5 := (hb5.block _ HRl).trans HR3.out
  have hX5 := (hb5.block _ hzl).trans HX3.out
  have HBd := Lib.hid (HBb.out.trans (hb5.mono HBb.out.size))
  have hRl5 : w.heap.size + 1 + 1 < W5.heap.size := Nat.lt_of_lt_of_le HRl hb5.size
  have hxl5 : zx < W5.heap.size := Nat.lt_of_lt_of_le hzl hb5.size
  have hq := HQ.out
  have HLX5 := Lib.hid (fun W (hW : Below W5.heap.size W5 W) => HLX.out W (HBd.out.trans (hW.mono HBd.out.size)))
  have HLY5 := Lib.hid (fun W (hW : Below W5.heap.size W5 W) => HLY.out W (HBd.out.trans (hW.mono HBd.out.size)))
  have HX5 := Lib.hid hX5
  have HY5 := Lib.hid hY
  have HR5 := Lib.hid hR5
  have HXa := Lib.hid (fun W (hW : Below W5.heap.size W5 W) => four_cells ((hW.block _ hxl5).trans hX5))
  have HYa := Lib.hid (fun W (hW : Below W5.heap.size W5 W) => four_cells ((hW.block _ hyl).trans hY))
  clear hb5 hX5 hY hR5 HLX HLY HQ HX3 HR3 HBb HR
  go_cut [51] from 27 to 51 (fun v wc => v = .bool (!ok) ∧ Below W5.heap.size W5 wc)
  case first =>
    obtain ⟨a0, a1, a2, a3, af'⟩ := HXa.out _ (Below.refl _ _)
    obtain ⟨b0, b1, b2, b3, bf'⟩ := HYa.out _ (Below.refl _ _)
    cases ra
    · go_wp2_with fail
      go_meet
      exact ⟨by rw [← HOK.out]; rfl, Below.refl _ _⟩
    cases rb
    · go_wp2_with fail
      go_meet
      exact ⟨by rw [← HOK.out]; rfl, Below.refl _ _⟩
    cases la
    · go_wp2_with fail
      refine (HLX5.out _ (Below.refl _ _)).mono ?_
      rintro e W6 ⟨rfl, hb6⟩
      go_wp2_with fail
      go_meet
      exact ⟨by rw [← HOK.out]; rfl, hb6⟩
    go_wp2_with fail
    refine (HLX5.out _ (Below.refl _ _)).mono ?_
    rintro e W6 ⟨rfl, hb6⟩
    clear a0 a1 a2 a3 af' b0 b1 b2 b3 bf'
    obtain ⟨a0, a1, a2, a3, af'⟩ := HXa.out _ hb6
    obtain ⟨b0, b1, b2, b3, bf'⟩ := HYa.out _ hb6
    cases xy
    · cases far
      · go_wp2_with fail
        go_meet
        exact ⟨by rw [← HOK.out]; rfl, hb6⟩
      · go_wp2_with fail
        refine (HLY5.out _ hb6).mono ?_
        rintro e W7 ⟨rfl, hb7⟩
        go_wp2_with fail
        go_meet
        exact ⟨by rw [← HOK.out]; cases lb <;> rfl, hb6.trans (hb7.mono hb6.size)⟩
    · go_wp2_with fail
      go_meet
      exact ⟨by rw [← HOK.out]; rfl, hb6⟩
  case rest =>
    obtain ⟨hv, hb6⟩ := hcut
    obtain ⟨r0, r1, r2, r3, r4, r5, r6, r7, rf⟩ := eight_cells ((hb6.block _ hRl5).trans HR5.out)
    obtain ⟨a0, a1, a2, a3, af'⟩ := HXa.out _ hb6
    obtain ⟨b0, b1, b2, b3, bf'⟩ := HYa.out _ hb6
    have HB6 := Lib.hid (HBd.out.trans (hb6.mono HBd.out.size))
    clear hb6 HLX5 HLY5
    cases ok
    · have hv : u51 = .bool true := hv
      subst hv
      go_wp2_with fail
      (try simp only [Exit.inBlock, Exit.then])
      refine bodyPost_ret (v := .tuple #[.agg #[.int .i64 0, .string ⟨#[]⟩, .int .i64 0, .int .i64 0, .int .i64 0, .string ⟨#[]⟩, .int .i64 0, .int .i64 0], .int .i64 2]) ?_ rfl ⟨rfl, ?_⟩
      · rw [results_cell_tmp rfl]
        go_simp
      · exact sets8 HB6.out (by omega) _ _ _ _ _ _ _ _
    · have hv : u51 = .bool false := hv
      subst hv
      go_wp2_with fail
      (try simp only [Exit.inBlock, Exit.then])
      refine bodyPost_ret (v := .tuple #[.agg #[.int .i64 ak, .string an, .int .i64 ag, .int .i64 ai, .int .i64 bk, .string bn, .int .i64 bg, .int .i64 bi], .int .i64 0]) ?_ rfl ⟨rfl, ?_⟩
      · rw [results_cell_tmp rfl]
        go_simp
      · exact sets8 HB6.out (by omega) _ _ _ _ _ _ _ _
end Go.Proofs.YtnakbepcalciiaaGreat.lk
/- Is a half link active; far. Conditions: as said. -/
namespace Go.Proofs.YtnakbepcalciiaaGreat.lk
open Go.RowKit mem rec tm names pm
set_option linter.unusedVariables false
set_option linter.unusedSimpArgs false
set_option maxHeartbeats 4000000
set_option maxRecDepth 100000
def actB (s : LkSt) (p : Pr) : Bool := decide (pFind s.H p = some 0)
theorem actB_eq (s : LkSt) (p : Pr) : actB s p = ((pFind s.H p).isSome && ((pFind s.H p).getD 0 == 0)) := by
  unfold actB
  cases pFind s.H p with
  | none => rfl
  | some v => simp only [Option.some.injEq, Option.isSome_some, Bool.true_and, Option.getD_some]; by_cases h : v = 0 <;> simp [h]
theorem active81 {w : World} {z mh mm : Nat} {s : LkSt} (h : LkAt w z mh mm s) (p : Pr) : Calls Tryz.prog 81 #[.pointer (some ⟨z, 0, none⟩), prV p] w fun e w' => e = .returned (.bool (actB s p)) ∧ Below w.heap.size w w' := by
  rw [actB_eq]
  obtain ⟨⟨x1, x2, x3, x4⟩, ⟨y1, y2, y3, y4⟩⟩ := p
  have hb := belowA (Below.refl w.heap.size w) (.cells #[.int .i64 x1, .string x2, .int .i64 x3, .int .i64 x4, .int .i64 y1, .string y2, .int .i64 y3, .int .i64 y4] 149) (Nat.le_refl _)
  have h' := h.below hb
  have hl := fun n => map82 (h'.drewN n) ((x1, x2, x3, x4), (y1, y2, y3, y4))
  have hn := alloc_new w (.cells #[.int .i64 x1, .string x2, .int .i64 x3, .int .i64 x4, .int .i64 y1, .string y2, .int .i64 y3, .int .i64 y4] 149)
  unfold prV at *
  dsimp only at *
  generalize (pFind s.H ((x1, x2, x3, x4), (y1, y2, y3, y4))).isSome = q1 at *
  generalize (pFind s.H ((x1, x2, x3, x4), (y1, y2, y3, y4))).getD 0 = q2 at *
  have HB := Lib.hid hb
  have HZ := Lib.hid (h'.obj)
  have HN := Lib.hid hn
  unfold linkC at HZ
  clear h h' hb hn
  go_enter Tryz.func81, Tryz.ntmps81
  go_upto_region 1 with (fail)
  generalize (w.alloc (.cells #[.int .i64 x1, .string x2, .int .i64 x3, .int .i64 x4, .int .i64 y1, .string y2, .int .i64 y3, .int .i64 y4] 149)) = W1 at *
  obtain ⟨c0, c1, c2, c3, c4, cf⟩ := five_cells HZ.out
  obtain ⟨r0, r1, r2, r3, r4, r5, r6, r7, rf⟩ := eight_cells HN.out
  cases q1
  · go_wp2_with fail
    go_quiet (fail)
    go_wp2_with fail
    go_ret
    exact ⟨rfl, belowN HB.out _⟩
  · go_wp2_with fail
    go_quiet (fail)
    go_wp2_with fail
    go_ret
    exact ⟨by simp, belowN HB.out _⟩
theorem far96 {w : World} {z mh mm : Nat} {s : LkSt} (h : LkAt w z mh mm s) (x : Id) (node : ByteArray) : Calls Tryz.prog 96 #[.pointer (some ⟨z, 0, none⟩), idV x, .string node] w fun e w' => e = .returned (.bool (decide (x.2.1 = node) && !locB s.node s.gen x)) ∧ Below w.heap.size w w' := by
  obtain ⟨x1, x2, x3, x4⟩ := x
  have hb := belowA (Below.refl w.heap.size w) (.cells #[.int .i64 x1, .string x2, .int .i64 x3, .int .i64 x4] 147) (Nat.le_refl _)
  have HL := Lib.hid (fun W (hW : Below w.heap.size w W) => local80 (w := W) ((hW.block z h.zlt).trans h.obj) (x1, x2, x3, x4))
  have hn := alloc_new w (.cells #[.int .i64 x1, .string x2, .int .i64 x3, .int .i64 x4] 147)
  have hlt : w.heap.size < (w.alloc (.cells #[.int .i64 x1, .string x2, .int .i64 x3, .int .i64 x4] 147)).heap.size := by rw [World.size_alloc]; omega
  unfold idV at *
  dsimp only at *
  have q1 := str_dec x2 node
  generalize decide (x2 = node) = q at *
  generalize locB s.node s.gen (x1, x2, x3, x4) = lc at *
  have HB := Lib.hid hb
  have HN := Lib.hid hn
  clear h hb hn
  go_enter Tryz.func96, Tryz.ntmps96
  go_upto_region 1 with (fail)
  generalize (w.alloc (.cells #[.int .i64 x1, .string x2, .int .i64 x3, .int .i64 x4] 147)) = W1 at *
  have HNa := Lib.hid (fun W (hW : Below W1.heap.size W1 W) => four_cells ((hW.block _ hlt).trans HN.out))
  obtain ⟨r0, r1, r2, r3, rf⟩ := HNa.out _ (Below.refl _ _)
  cases q
  · go_wp2_with fail
    go_ret
    exact ⟨rfl, HB.out⟩
  · go_wp2_with fail
    refine (HL.out _ HB.out).mono ?_
    rintro e W2 ⟨rfl, hb2⟩
    go_wp2_with fail
    go_ret
    exact ⟨rfl, HB.out.trans (hb2.mono HB.out.size)⟩
end Go.Proofs.YtnakbepcalciiaaGreat.lk
