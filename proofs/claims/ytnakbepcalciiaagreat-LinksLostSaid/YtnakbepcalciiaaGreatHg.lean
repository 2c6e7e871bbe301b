/- Several texts in one, one behind the other: TnN. No condition beyond theirs. -/
import Derived.Test.YtnakbepcalciiaaGreatHf

/- stagehandkit's Kept, KeptList: what was lent is as it was. Conditions: it lies in memory as it was lent. -/
namespace Go.Proofs.YtnakbepcalciiaaGreat.tm
open Go.RowKit mem names
set_option linter.unusedVariables false
set_option linter.unusedSimpArgs false
set_option maxHeartbeats 2000000
set_option maxRecDepth 100000

theorem sameBare (f : TF) (w : World) : Calls Tryz.prog 21 #[aggV f (.slice none 0 0), aggV f (.slice none 0 0)] w (BPost true w) := by
  have h := sameOne (n := 0) w 0 (.slice none 0 0) (.slice none 0 0) (Tm.mk f []) (Tm.mk f []) (Nat.zero_le _) ⟨none, 0, rfl, Nat.zero_le _⟩ ⟨none, 0, rfl, Nat.zero_le _⟩
  rw [eqB_t rfl] at h
  exact h
theorem LentIn.cases {w : World} {B : Nat} {F : Nat → Prop} {n : Nat} {v0 v : Value} {l : List (Tm n)} (h : LentIn w B F n v0 v l) : (∃ c0, v0 = .slice none 0 c0 ∧ v = .slice none 0 0) ∨ (∃ a0 g o c0 c, v0 = .slice (some a0) l.length c0 ∧ v = .slice (some ⟨g, o, none⟩) l.length c) := by
  cases n with
  | zero =>
    rw [Tm.nil0 l] at *
    obtain ⟨p0, c0, rfl, h1, h2⟩ := h
    rcases h2 with ⟨rfl, rfl⟩ | ⟨hp, g, o, c, rfl, h3, h4, h5, h6⟩
    · exact .inl ⟨c0, rfl, rfl⟩
    · cases p0 with
      | none => exact absurd rfl hp
      | some a0 => exact .inr ⟨a0, g, o, c0, c, rfl, rfl⟩
  | succ n =>
    obtain ⟨p0, c0, rfl, h1, h1', h2⟩ := h
    rcases h2 with ⟨rfl, rfl, rfl⟩ | ⟨hp, g, o, c, rfl, h3, h4, h5, h6⟩
    · exact .inl ⟨c0, rfl, rfl⟩
    · cases p0 with
      | none => exact absurd rfl hp
      | some a0 => exact .inr ⟨a0, g, o, c0, c, rfl, rfl⟩
end Go.Proofs.YtnakbepcalciiaaGreat.tm
