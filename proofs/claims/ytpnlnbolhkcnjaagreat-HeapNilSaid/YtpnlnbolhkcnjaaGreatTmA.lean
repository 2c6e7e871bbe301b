
/- Terms as trees, by depth; how a list of terms lies in memory. No condition. -/
import Derived.Test.YtpnlnbolhkcnjaaGreatMem
namespace Go.Proofs.YtpnlnbolhkcnjaaGreat.tm
open Go.RowKit mem
set_option linter.unusedVariables false
set_option linter.unusedSimpArgs false

/-- a term's own fields -/
structure TF where
  kind : Int
  int : Int
  gen : Int
  name : ByteArray
  func : ByteArray
  arity : Int
  bytes : ByteArray
  bits : Int
/-- a term whose elements nest less than n deep -/
def Tm : Nat → Type
  | 0 => Empty
  | n + 1 => TF × List (Tm n)
def Tm.f {n : Nat} (t : Tm (n + 1)) : TF := Prod.fst t
def Tm.items {n : Nat} (t : Tm (n + 1)) : List (Tm n) := Prod.snd t
def Tm.mk {n : Nat} (f : TF) (l : List (Tm n)) : Tm (n + 1) := (f, l)
theorem Tm.ext {n : Nat} {a b : Tm (n + 1)} (h1 : a.f = b.f) (h2 : a.items = b.items) : a = b := Prod.ext h1 h2
theorem Tm.nil0 (l : List (Tm 0)) : l = [] := by
  cases l with
  | nil => rfl
  | cons a l => exact (nomatch (show Empty from a))

/-- the value of a term: v is the value of its Items -/
def aggV (f : TF) (v : Value) : Value := .agg #[.int .i64 f.kind, .int .i64 f.int, .int .i64 f.gen, .string f.name, .string f.func, .int .i64 f.arity, v, .string f.bytes, .int .i64 f.bits]
/-- the nine cells of a term -/
structure Cells (w : World) (g o : Nat) (f : TF) (v : Value) : Prop where
  c0 : w.cell? ⟨g, o, none⟩ = some (.int .i64 f.kind)
  c1 : w.cell? ⟨g, o + 1, none⟩ = some (.int .i64 f.int)
  c2 : w.cell? ⟨g, o + 1 + 1, none⟩ = some (.int .i64 f.gen)
  c3 : w.cell? ⟨g, o + 1 + 1 + 1, none⟩ = some (.string f.name)
  c4 : w.cell? ⟨g, o + 1 + 1 + 1 + 1, none⟩ = some (.string f.func)
  c5 : w.cell? ⟨g, o + 1 + 1 + 1 + 1 + 1, none⟩ = some (.int .i64 f.arity)
  c6 : w.cell? ⟨g, o + 1 + 1 + 1 + 1 + 1 + 1, none⟩ = some v
  c7 : w.cell? ⟨g, o + 1 + 1 + 1 + 1 + 1 + 1 + 1, none⟩ = some (.string f.bytes)
  c8 : w.cell? ⟨g, o + 1 + 1 + 1 + 1 + 1 + 1 + 1 + 1, none⟩ = some (.int .i64 f.bits)
theorem Cells.same {w w' : World} {g o : Nat} {f : TF} {v : Value} (h : Cells w g o f v) (hs : w'.heap[g]? = w.heap[g]?) : Cells w' g o f v := by
  have e : ∀ x, w'.cell? ⟨g, x, none⟩ = w.cell? ⟨g, x, none⟩ := fun x => World.cell?_of_block (w := w) (w' := w') (a := ⟨g, x, none⟩) hs
  exact ⟨(e _).trans h.c0, (e _).trans h.c1, (e _).trans h.c2, (e _).trans h.c3, (e _).trans h.c4, (e _).trans h.c5, (e _).trans h.c6, (e _).trans h.c7, (e _).trans h.c8⟩

/-- a slice of terms in blocks below B -/
def ItemsAt (w : World) (B : Nat) : (n : Nat) → Value → List (Tm n) → Prop
  | 0, v, _ => ∃ p c, v = .slice p 0 c ∧ c ≤ maxLen
  | n + 1, v, l => ∃ p c, v = .slice p l.length c ∧ l.length ≤ c ∧ c ≤ maxLen ∧ (l ≠ [] → ∃ g o, p = some ⟨g, o, none⟩ ∧ g < B ∧
      ∀ j, (h : j < l.length) → ∃ u, Cells w g (o + j * 9) (l[j]).f u ∧ ItemsAt w B n u (l[j]).items)
theorem ItemsAt.shape {w : World} {B n : Nat} {v : Value} {l : List (Tm n)} (h : ItemsAt w B n v l) : ∃ p c, v = .slice p l.length c ∧ l.length ≤ c ∧ c ≤ maxLen := by
  cases n with
  | zero =>
    obtain ⟨p, c, rfl, hc⟩ := h
    have := Tm.nil0 l
    subst this
    exact ⟨p, c, rfl, Nat.zero_le _, hc⟩
  | succ n => obtain ⟨p, c, e, h1, h2, _⟩ := h; exact ⟨p, c, e, h1, h2⟩
theorem ItemsAt.same {w w' : World} {B : Nat} (hs : ∀ g, g < B → w'.heap[g]? = w.heap[g]?) : ∀ {n : Nat} {v : Value} {l : List (Tm n)}, ItemsAt w B n v l → ItemsAt w' B n v l := by
  intro n
  induction n with
  | zero => intro v l h; exact h
  | succ n ih =>
    intro v l h
    obtain ⟨p, c, e, h1, h2, h3⟩ := h
    refine ⟨p, c, e, h1, h2, fun hn => ?_⟩
    obtain ⟨g, o, e, hg, hc⟩ := h3 hn
    refine ⟨g, o, e, hg, fun j hj => ?_⟩
    obtain ⟨u, hc1, hc2⟩ := hc j hj
    exact ⟨u, hc1.same (hs g hg), ih hc2⟩
theorem ItemsAt.below {w w' : World} {B B' : Nat} {n : Nat} {v : Value} {l : List (Tm n)} (h : ItemsAt w B n v l) (hb : Below B' w w') (hB : B ≤ B') : ItemsAt w' B n v l :=
  h.same fun g hg => hb.block g (by omega)
theorem ItemsAt.drewN {w : World} {B : Nat} {n : Nat} {v : Value} {l : List (Tm n)} (h : ItemsAt w B n v l) (m : Nat) : ItemsAt (w.drewN m) B n v l := ItemsAt.same (w := w) (w' := w.drewN m) (B := B) (fun _ _ => rfl) h
theorem ItemsAt.more {w : World} {B B' : Nat} (hB : B ≤ B') : ∀ {n : Nat} {v : Value} {l : List (Tm n)}, ItemsAt w B n v l → ItemsAt w B' n v l := by
  intro n
  induction n with
  | zero => intro v l h; exact h
  | succ n ih =>
    intro v l h
    obtain ⟨p, c, e, h1, h2, h3⟩ := h
    refine ⟨p, c, e, h1, h2, fun hn => ?_⟩
    obtain ⟨g, o, e, hg, hc⟩ := h3 hn
    refine ⟨g, o, e, by omega, fun j hj => ?_⟩
    obtain ⟨u, hc1, hc2⟩ := hc j hj
    exact ⟨u, hc1, ih hc2⟩
/-- an element -/
theorem ItemsAt.at_ {w : World} {B n : Nat} {v : Value} {l : List (Tm (n + 1))} (h : ItemsAt w B (n + 1) v l) (hne : l ≠ []) : ∃ g o c, v = .slice (some ⟨g, o, none⟩) l.length c ∧ l.length ≤ c ∧ c ≤ maxLen ∧ g < B ∧
    ∀ j, (h : j < l.length) → ∃ u, Cells w g (o + j * 9) (l[j]).f u ∧ ItemsAt w B n u (l[j]).items := by
  obtain ⟨p, c, e, h1, h2, h3⟩ := h
  obtain ⟨g, o, rfl, hg, hc⟩ := h3 hne
  exact ⟨g, o, c, e, h1, h2, hg, hc⟩
/-- the elements from k on -/
theorem ItemsAt.nil_any {w : World} {B n c : Nat} {p : Option Addr} (hc : c ≤ maxLen) : ItemsAt w B n (.slice p 0 c) ([] : List (Tm n)) := by
  cases n with
  | zero => exact ⟨p, c, rfl, hc⟩
  | succ n => exact ⟨p, c, rfl, Nat.zero_le _, hc, fun h => absurd rfl h⟩

/-! ### deeper -/
def liftT : (n : Nat) → Tm n → Tm (n + 1)
  | 0, t => (nomatch (show Empty from t))
  | n + 1, t => Tm.mk t.f (t.items.map (liftT n))
def liftL (n : Nat) (l : List (Tm n)) : List (Tm (n + 1)) := l.map (liftT n)
theorem liftT_f {n : Nat} (t : Tm (n + 1)) : (liftT (n + 1) t).f = t.f := rfl
theorem liftT_items {n : Nat} (t : Tm (n + 1)) : (liftT (n + 1) t).items = liftL n t.items := rfl
theorem ItemsAt.lift {w : World} {B : Nat} : ∀ {n : Nat} {v : Value} {l : List (Tm n)}, ItemsAt w B n v l → ItemsAt w B (n + 1) v (liftL n l) := by
  intro n
  induction n with
  | zero =>
    intro v l h
    obtain ⟨p, c, rfl, hc⟩ := h
    have := Tm.nil0 l
    subst this
    exact ⟨p, c, rfl, Nat.zero_le _, hc, fun h => absurd rfl h⟩
  | succ n ih =>
    intro v l h
    obtain ⟨p, c, e, h1, h2, h3⟩ := h
    have hl : (liftL (n + 1) l).length = l.length := by simp [liftL]
    refine ⟨p, c, by rw [hl]; exact e, by rw [hl]; exact h1, h2, fun hn => ?_⟩
    obtain ⟨g, o, e, hg, hc⟩ := h3 (fun e => hn (by rw [e]; rfl))
    refine ⟨g, o, e, hg, fun j hj => ?_⟩
    rw [hl] at hj
    obtain ⟨u, hc1, hc2⟩ := hc j hj
    have he : (liftL (n + 1) l)[j]'(by rw [hl]; exact hj) = liftT (n + 1) l[j] := by simp [liftL]
    rw [he]
    exact ⟨u, hc1, ih hc2⟩
theorem ItemsAt.to {w : World} {B n m : Nat} {v : Value} {l : List (Tm n)} (h : ItemsAt w B n v l) (hm : n ≤ m) : ∃ l' : List (Tm m), ItemsAt w B m v l' := by
  induction m with
  | zero =>
    obtain rfl : n = 0 := by omega
    exact ⟨l, h⟩
  | succ m ih =>
    by_cases e : n = m + 1
    · subst e; exact ⟨l, h⟩
    · obtain ⟨l', h'⟩ := ih (by omega)
      exact ⟨_, h'.lift⟩
end Go.Proofs.YtpnlnbolhkcnjaaGreat.tm
