/- The reference's wheel: Take; the two wheels side by side. Conditions: both lie in memory. -/
import Derived.Test.YtgkiknkifleofaaRefD
import Derived.Test.YtgkiknkifleofaaWalkZ
namespace Go.Proofs.Ytgkiknkifleofaa.tm
open Go.RowKit mem TP
set_option linter.unusedVariables false
set_option linter.unusedSimpArgs false
set_option maxHeartbeats 1000000
set_option maxRecDepth 100000

def RTakePost (b : Nat) (A : List TD) (G : Nat → Prop) (now : Int) (w : World) (e : Ending) (w' : World) : Prop := e = .returned (.tuple #[.int .i64 ((takeV A now).getD 0), .bool (takeV A now).isSome]) ∧ RPost b (takeT A now) G w w'
theorem RTake {w : World} {b c : Nat} {A : List TD} {p : Option Addr} {G : Nat → Prop} (h : RefW w b A p c G) (hn : (A.map (·.id)).Nodup) (now : Int) : Calls Try.prog 32 #[.pointer (some ⟨b, 0, none⟩), .int .i64 now] w (RTakePost b A G now w) := by
  obtain ⟨c0, f0⟩ := h.c0
  have hlen := h.len
  cases A with
  | nil =>
    have hfin : RTakePost b [] G now w (.returned (.tuple #[.int .i64 0, .bool false])) w := ⟨rfl, R.still h⟩
    go_enter Try.func32, Try.ntmps32
    go_wp2_with fail
    go_ret2
    exact hfin
  | cons x A' =>
    obtain ⟨g, rfl, hc1, hc2, hx⟩ := h.at_ (k := 0) (by simp)
    have x0 := (hx 0 (by simp)).1
    have x1 := (hx 0 (by simp)).2
    simp only [Nat.zero_mul, List.getElem_cons_zero, List.length_cons] at x0 x1 c0 hlen hc1
    unfold maxLen at hc2
    have hq0 : ((((A'.length + 1 : Nat) : Int)) == 0) = false := by simp; omega
    by_cases hd : x.due ≤ now
    · have hD := RDrop h hn x.id
      have e1 : takeV (x :: A') now = some x.id := by simp [takeV, hd]
      have e2 : takeT (x :: A') now = A' := by simp [takeT, hd]
      have hq : decide (now < x.due) = false := decide_eq_false (by omega)
      have hfin : ∀ (e : Ending) w', RDropPost b (x :: A') G x.id w e w' → RTakePost b (x :: A') G now w (.returned (.tuple #[.int .i64 x.id, .bool true])) w' := by
        intro e w' hh
        have := hh.2
        rw [dropT_head hn] at this
        exact ⟨by rw [e1]; rfl, by rw [e2]; exact this⟩
      have HF := Lib.hid hfin; clear hfin
      clear hx e1 e2 hd h
      go_enter Try.func32, Try.ntmps32
      go_wp2_with fail
      refine hD.mono ?_
      intro e w1 hpost
      have hE := hpost.1
      have HH := Lib.hid (HF.out e w1 hpost); clear hpost
      rw [hE]
      clear hD hE
      go_wp2_with fail
      go_ret2
      exact HH.out
    · have e1 : takeV (x :: A') now = none := by simp [takeV, hd]
      have e2 : takeT (x :: A') now = x :: A' := by simp [takeT, hd]
      have hq : decide (now < x.due) = true := decide_eq_true (by omega)
      have hfin : RTakePost b (x :: A') G now w (.returned (.tuple #[.int .i64 0, .bool false])) w := ⟨by rw [e1]; rfl, by rw [e2]; exact R.still h⟩
      clear hx e1 e2 hd h
      go_enter Try.func32, Try.ntmps32
      go_wp2_with fail
      go_ret2
      exact hfin

/-- both wheels, of the call's own, apart from each other -/
structure Pair (w0 w : World) (b r : Nat) (A : List TD) (n : Nat) (F : Nat → Prop) (A2 : List TD) (p : Option Addr) (c : Nat) (G : Nat → Prop) : Prop where
  st : St w0 w b A n F
  rf : RefW w r A2 p c G
  own : ∀ k, G k → w0.heap.size ≤ k
  apart : ∀ k, F k → ¬ G k
section
variable {w0 w w' : World} {b r n n' c : Nat} {A A' A2 : List TD} {F F' G : Nat → Prop} {p : Option Addr}
theorem Pair.step (h : Pair w0 w b r A n F A2 p c G) (hs : Step w0 w w' b A' n' F F') : Pair w0 w' b r A' n' F' A2 p c G :=
  ⟨hs.st, h.rf.same hs.touch.size (fun k hk hG => hs.touch.block k hk (fun hF => h.apart k hF hG)), h.own, fun k hk hG => by
    rcases hs.grow k hk with e | e
    · exact h.apart k e hG
    · have := h.rf.lt k hG; omega⟩
theorem Pair.ref (h : Pair w0 w b r A n F A2 p c G) (hr : RPost r A' G w w') : ∃ p' c' G', Pair w0 w' b r A n F A' p' c' G' ∧ TouchB G w w' := by
  obtain ⟨p', c', G', h1, h2, h3⟩ := hr
  refine ⟨p', c', G', ⟨h.st.other h2 (h.st.bel.trans (h2.below h.own h.st.bel.size)) h.apart, h1, fun k hk => ?_, fun k hF hk => ?_⟩, h2⟩
  · rcases h3 k hk with e | e
    · exact h.own k e
    · exact Nat.le_trans h.st.bel.size e
  · rcases h3 k hk with e | e
    · exact h.apart k hF e
    · have := h.st.whl.lt k hF; omega
theorem Pair.on (h : Pair w0 w b r A n F A2 p c G) (hb : Below w.heap.size w w') : Pair w0 w' b r A n F A2 p c G :=
  ⟨h.st.on hb, h.rf.same hb.size (fun k hk _ => hb.block k hk), h.own, h.apart⟩
theorem Pair.drewN (h : Pair w0 w b r A n F A2 p c G) (m : Nat) : Pair w0 (w.drewN m) b r A n F A2 p c G :=
  ⟨h.st.drewN m, h.rf.same (Nat.le_refl _) (fun _ _ _ => rfl), h.own, h.apart⟩
end
def Both2 (w0 : World) (b r : Nat) (n : Nat) (w' : World) : Prop := ∃ A n' F p c G, Pair w0 w' b r A n' F A p c G ∧ n' ≤ n
def StepPost (w0 : World) (b r n : Nat) (e : Ending) (w' : World) : Prop := e = .returned (.bool true) ∧ Both2 w0 b r n w'
theorem addN_le (A : List TD) (n : Nat) (due id : Int) : addN A n due id ≤ n + 1 := by unfold addN; split <;> omega

section
variable {w0 w : World} {b r n c : Nat} {A : List TD} {F G : Nat → Prop} {p : Option Addr}
theorem stepAdd (h : Pair w0 w b r A n F A p c G) (hn : n < 1000) (due id : Int) : Calls Try.prog 22 #[.pointer (some ⟨b, 0, none⟩), .pointer (some ⟨r, 0, none⟩), .agg #[.int .i64 0, .int .i64 due, .int .i64 id]] w (StepPost w0 b r (n + 1)) := by
  have h1 := h.on ((Below.refl w.heap.size w).alloc (Nat.le_refl _) (.cells #[.int .i64 0, .int .i64 due, .int .i64 id] 38))
  have hz1 : ¬ F w.heap.size := fun e => by have := h.st.whl.lt _ e; omega
  have hz2 : ¬ G w.heap.size := fun e => by have := h.rf.lt _ e; omega
  have hzs : w.heap.size < (w.alloc (.cells #[.int .i64 0, .int .i64 due, .int .i64 id] 38)).heap.size := by simp
  have hh := (MapKept.heap_alloc w (.cells #[.int .i64 0, .int .i64 due, .int .i64 id] 38)).1
  have k0 : (w.alloc (.cells #[.int .i64 0, .int .i64 due, .int .i64 id] 38)).cell? ⟨w.heap.size, 0, none⟩ = some (.int .i64 0) := by simp only [World.cell?, hh]; simp
  have k1 : (w.alloc (.cells #[.int .i64 0, .int .i64 due, .int .i64 id] 38)).cell? ⟨w.heap.size, 1, none⟩ = some (.int .i64 due) := by simp only [World.cell?, hh]; simp
  have k2 : (w.alloc (.cells #[.int .i64 0, .int .i64 due, .int .i64 id] 38)).cell? ⟨w.heap.size, 2, none⟩ = some (.int .i64 id) := by simp only [World.cell?, hh]; simp
  have hG := h.st.whl.good
  clear h hh
  go_enter Try.func22, Try.ntmps22
  go_wp2_with fail
  generalize w.alloc (.cells #[.int .i64 0, .int .i64 due, .int .i64 id] 38) = w1 at *
  generalize w.heap.size = z at *
  have h2 : Pair w0 w1.drew b r A n F A p c G := h1.drewN 1
  have k1' : w1.drew.cell? ⟨z, 1, none⟩ = some (.int .i64 due) := k1
  have k2' : w1.drew.cell? ⟨z, 2, none⟩ = some (.int .i64 id) := k2
  have hzs' : z < w1.drew.heap.size := hzs
  have HG := Lib.hid hG
  go_region_held3 (fun w' => w'.cell? ⟨z, 1, none⟩ = some (.int .i64 due) ∧ w'.cell? ⟨z, 2, none⟩ = some (.int .i64 id)) (go_keep)
    (first
      | (go_at_call 15; refine (SAdd h2.st hn due id).mono ?_; rintro e w2 ⟨rfl, F2, hs⟩; have q1 := (hs.touch.cell (p := ⟨z, 1, none⟩) hzs' hz1).trans k1'; have q2 := (hs.touch.cell (p := ⟨z, 2, none⟩) hzs' hz1).trans k2')
      | (go_at_call 30; refine (RAdd (h2.step hs).rf HG.out hn due id).mono ?_; rintro e w3 ⟨rfl, hR⟩; obtain ⟨p', c', G', hP, hT⟩ := (h2.step hs).ref hR; have q3 := (hT.cell (p := ⟨z, 1, none⟩) (Nat.lt_of_lt_of_le hzs' hs.touch.size) hz2).trans q1; have q4 := (hT.cell (p := ⟨z, 2, none⟩) (Nat.lt_of_lt_of_le hzs' hs.touch.size) hz2).trans q2))
  have hfin : StepPost w0 b r (n + 1) (.returned (.bool true)) w3 := ⟨rfl, _, _, _, _, _, _, hP, addN_le A n due id⟩
  have hq : (addE A due id == addE A due id) = true := by simp
  clear hP hR hs h2 h1
  go_wp2_with fail
  go_ret
  exact hfin
end
end Go.Proofs.Ytgkiknkifleofaa.tm
