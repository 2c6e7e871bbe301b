
/- The reference's find, meet, follow. Conditions: as said. -/
import Derived.Test.YtpnlnbolhkcnjaaGreatCoQ
import Derived.Maps.AppendAt
namespace Go.Proofs.YtpnlnbolhkcnjaaGreat.cl
open Go.RowKit mem words
set_option linter.unusedVariables false
set_option linter.unusedSimpArgs false
set_option maxHeartbeats 2000000
set_option maxRecDepth 100000

/-- words in a row of the call's own -/
def WOwn (w : World) (base : Nat) (v : Value) (l : List Int) : Prop := w.ownsRow base 40 1 v l.length (l.map (Value.int .u64))
theorem WOwn.nil (w : World) (base : Nat) : WOwn w base (.slice none 0 0) [] := World.ownsRow_nil _ _ _ _
theorem WOwn.form {w : World} {base : Nat} {v : Value} {l : List Int} (h : WOwn w base v l) : (v = .slice none 0 0 ∧ l = []) ∨ ∃ g c, v = .slice (some ⟨g, 0, none⟩) l.length c ∧ base ≤ g ∧ g < w.heap.size ∧ l.length ≤ c ∧ c ≤ maxLen := by
  rcases h.2 with ⟨h1, h2⟩ | ⟨g, cap, cur, h1, h2, h3, h4, h5, _⟩
  · exact .inl ⟨h1, List.eq_nil_of_length_eq_zero h2⟩
  · exact .inr ⟨g, cap, h1, h2, (Array.getElem?_eq_some_iff.1 h3).1, h4, h5⟩
theorem WOwn.shape {w : World} {base : Nat} {v : Value} {l : List Int} (h : WOwn w base v l) : ∃ p c, v = .slice p l.length c := by
  rcases h.form with ⟨rfl, rfl⟩ | ⟨g, c, rfl, _⟩
  · exact ⟨_, _, rfl⟩
  · exact ⟨_, _, rfl⟩
theorem WOwn.row {w : World} {base : Nat} {v : Value} {l : List Int} (h : WOwn w base v l) : WAt w w.heap.size v l := by
  rcases h.form with ⟨rfl, rfl⟩ | ⟨g, c, rfl, h1, h2, h3, h4⟩
  · exact ⟨none, 0, rfl, Nat.le_refl _, by unfold maxLen; omega, fun hn => absurd rfl hn⟩
  · refine ⟨_, _, rfl, h3, h4, fun _ => ⟨g, 0, rfl, h2, fun j hj => ?_⟩⟩
    rw [Nat.zero_add, World.ownsRow.cellAt h j (by omega)]
    rw [List.getElem?_map, List.getElem?_eq_getElem hj]
    rfl
theorem WOwn.ge {w : World} {base : Nat} {v : Value} {l : List Int} (h : WOwn w base v l) : ∀ k, v.ownBlock = some k → base ≤ k ∧ k < w.heap.size := by
  intro k hk
  rcases h.form with ⟨rfl, rfl⟩ | ⟨g, c, rfl, h1, h2, _⟩
  · simp [Value.ownBlock] at hk
  · simp only [Value.ownBlock, Option.some.injEq] at hk
    subst hk
    exact ⟨h1, h2⟩
theorem WOwn.below {w w' : World} {base : Nat} {v : Value} {l : List Int} (h : WOwn w base v l) (hb : Below w.heap.size w w') : WOwn w' base v l :=
  row_same h fun k hk => hb.block k (h.ge k hk).2
def fnd : List Int → Int → Int
  | [], _ => -1
  | x :: r, u => if x = u then 0 else if fnd r u = -1 then -1 else fnd r u + 1
theorem fnd_at : ∀ {l : List Int} {u : Int} {i : Nat}, l[i]? = some u → (∀ j, j < i → l[j]? ≠ some u) → fnd l u = i := by
  intro l
  induction l with
  | nil => intro u i h; simp at h
  | cons x r ih =>
    intro u i h h2
    cases i with
    | zero =>
      simp at h
      unfold fnd
      rw [if_pos h]
      rfl
    | succ i =>
      have hx : x ≠ u := fun e => h2 0 (by omega) (by rw [e]; rfl)
      have h3 := ih (u := u) (i := i) (by simpa using h) (fun j hj => by simpa using h2 (j + 1) (by omega))
      unfold fnd
      rw [if_neg hx, h3, if_neg (by omega)]
      omega
theorem fnd_no : ∀ {l : List Int} {u : Int}, u ∉ l → fnd l u = -1 := by
  intro l
  induction l with
  | nil => intro u _; rfl
  | cons x r ih =>
    intro u h
    rw [List.mem_cons] at h
    unfold fnd
    rw [if_neg (fun e => h (.inl e.symm)), ih (fun e => h (.inr e)), if_pos rfl]
theorem fnd_rng : ∀ (l : List Int) (u : Int), -1 ≤ fnd l u ∧ fnd l u < l.length := by
  intro l
  induction l with
  | nil => intro u; unfold fnd; simp
  | cons x r ih =>
    intro u
    have := ih u
    unfold fnd
    rw [List.length_cons]
    split
    · omega
    · split <;> omega
theorem fnd_mem {l : List Int} {u : Int} : 0 ≤ fnd l u ↔ u ∈ l := by
  constructor
  · intro h
    apply Classical.byContradiction
    intro hn
    rw [fnd_no hn] at h
    omega
  · induction l with
    | nil => intro h; simp at h
    | cons x r ih =>
      intro h
      unfold fnd
      split
      · omega
      · rename_i hx
        have := ih ((List.mem_cons.1 h).resolve_left (fun e => hx e.symm))
        rw [if_neg (by omega)]
        omega
theorem RowAt.nth' {w : World} {B : Nat} {p : Option Addr} {n c : Nat} {l : List Int} (h : WAt w B (.slice p n c) l) (h0 : 0 < l.length) : ∃ g o, p = some ⟨g, o, none⟩ ∧ g < B ∧ ∀ j x, l[j]? = some x → w.cell? ⟨g, o + j, none⟩ = some (.int .u64 x) := by
  obtain ⟨p', c', e, h1, h2, h3⟩ := h
  simp only [Value.slice.injEq] at e
  obtain ⟨rfl, rfl, rfl⟩ := e
  obtain ⟨g, o, e, hg, hc⟩ := h3 (List.length_pos_iff.1 h0)
  refine ⟨g, o, e, hg, fun j x hx => ?_⟩
  obtain ⟨hj, rfl⟩ := List.getElem?_eq_some_iff.1 hx
  exact hc j hj
end Go.Proofs.YtpnlnbolhkcnjaaGreat.cl
