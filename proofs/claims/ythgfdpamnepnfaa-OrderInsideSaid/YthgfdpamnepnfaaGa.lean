/- Several texts in one, one behind the other: TmA, TmB, TmC, TmD, Nam, TmE. No condition beyond theirs. -/
import Derived.Test.YthgfdpamnepnfaaMem
import Derived.Deep.QuietTactic
import Derived.BigQuiet
import Derived.WalkSpells
import Derived.StillTailTactics
import Derived.Outline
import Derived.IntWalk
import Derived.Laws.Strings
/- Terms as trees, by depth; how a list of terms lies in memory. No condition. -/
namespace Go.Proofs.Ythgfdpamnepnfaa.tm
open Go.RowKit mem
set_option linter.unusedVariables false
set_option linter.unusedSimpArgs false

/-- a term's own fields -/
structure TF where
  kind : Int
  int : Int
  gen : Int
  name : ByteArray
  func : ByteArray
  arity : Int
  bytes : ByteArray
  bits : Int
/-- a term whose elements nest less than n deep -/
def Tm : Nat → Type
  | 0 => Empty
  | n + 1 => TF × List (Tm n)
def Tm.f {n : Nat} (t : Tm (n + 1)) : TF := Prod.fst t
def Tm.items {n : Nat} (t : Tm (n + 1)) : List (Tm n) := Prod.snd t
def Tm.mk {n : Nat} (f : TF) (l : List (Tm n)) : Tm (n + 1) := (f, l)
theorem Tm.ext {n : Nat} {a b : Tm (n + 1)} (h1 : a.f = b.f) (h2 : a.items = b.items) : a = b := Prod.ext h1 h2
theorem Tm.nil0 (l : List (Tm 0)) : l = [] := by
  cases l with
  | nil => rfl
  | cons a l => exact (nomatch (show Empty from a))

/-- the value of a term: v is the value of its Items -/
def aggV (f : TF) (v : Value) : Value := .agg #[.int .i64 f.kind, .int .i64 f.int, .int .i64 f.gen, .string f.name, .string f.func, .int .i64 f.arity, v, .string f.bytes, .int .i64 f.bits]
/-- the nine cells of a term -/
structure Cells (w : World) (g o : Nat) (f : TF) (v : Value) : Prop where
  c0 : w.cell? ⟨g, o, none⟩ = some (.int .i64 f.kind)
  c1 : w.cell? ⟨g, o + 1, none⟩ = some (.int .i64 f.int)
  c2 : w.cell? ⟨g, o + 1 + 1, none⟩ = some (.int .i64 f.gen)
  c3 : w.cell? ⟨g, o + 1 + 1 + 1, none⟩ = some (.string f.name)
  c4 : w.cell? ⟨g, o + 1 + 1 + 1 + 1, none⟩ = some (.string f.func)
  c5 : w.cell? ⟨g, o + 1 + 1 + 1 + 1 + 1, none⟩ = some (.int .i64 f.arity)
  c6 : w.cell? ⟨g, o + 1 + 1 + 1 + 1 + 1 + 1, none⟩ = some v
  c7 : w.cell? ⟨g, o + 1 + 1 + 1 + 1 + 1 + 1 + 1, none⟩ = some (.string f.bytes)
  c8 : w.cell? ⟨g, o + 1 + 1 + 1 + 1 + 1 + 1 + 1 + 1, none⟩ = some (.int .i64 f.bits)
theorem Cells.same {w w' : World} {g o : Nat} {f : TF} {v : Value} (h : Cells w g o f v) (hs : w'.heap[g]? = w.heap[g]?) : Cells w' g o f v := by
  have e : ∀ x, w'.cell? ⟨g, x, none⟩ = w.cell? ⟨g, x, none⟩ := fun x => World.cell?_of_block (w := w) (w' := w') (a := ⟨g, x, none⟩) hs
  exact ⟨(e _).trans h.c0, (e _).trans h.c1, (e _).trans h.c2, (e _).trans h.c3, (e _).trans h.c4, (e _).trans h.c5, (e _).trans h.c6, (e _).trans h.c7, (e _).trans h.c8⟩

/-- a slice of terms in blocks below B -/
def ItemsAt (w : World) (B : Nat) : (n : Nat) → Value → List (Tm n) → Prop
  | 0, v, _ => ∃ p c, v = .slice p 0 c ∧ c ≤ maxLen
  | n + 1, v, l => ∃ p c, v = .slice p l.length c ∧ l.length ≤ c ∧ c ≤ maxLen ∧ (l ≠ [] → ∃ g o, p = some ⟨g, o, none⟩ ∧ g < B ∧
      ∀ j, (h : j < l.length) → ∃ u, Cells w g (o + j * 9) (l[j]).f u ∧ ItemsAt w B n u (l[j]).items)
theorem ItemsAt.shape {w : World} {B n : Nat} {v : Value} {l : List (Tm n)} (h : ItemsAt w B n v l) : ∃ p c, v = .slice p l.length c ∧ l.length ≤ c ∧ c ≤ maxLen := by
  cases n with
  | zero =>
    obtain ⟨p, c, rfl, hc⟩ := h
    have := Tm.nil0 l
    subst this
    exact ⟨p, c, rfl, Nat.zero_le _, hc⟩
  | succ n => obtain ⟨p, c, e, h1, h2, _⟩ := h; exact ⟨p, c, e, h1, h2⟩
theorem ItemsAt.same {w w' : World} {B : Nat} (hs : ∀ g, g < B → w'.heap[g]? = w.heap[g]?) : ∀ {n : Nat} {v : Value} {l : List (Tm n)}, ItemsAt w B n v l → ItemsAt w' B n v l := by
  intro n
  induction n with
  | zero => intro v l h; exact h
  | succ n ih =>
    intro v l h
    obtain ⟨p, c, e, h1, h2, h3⟩ := h
    refine ⟨p, c, e, h1, h2, fun hn => ?_⟩
    obtain ⟨g, o, e, hg, hc⟩ := h3 hn
    refine ⟨g, o, e, hg, fun j hj => ?_⟩
    obtain ⟨u, hc1, hc2⟩ := hc j hj
    exact ⟨u, hc1.same (hs g hg), ih hc2⟩
theorem ItemsAt.below {w w' : World} {B B' : Nat} {n : Nat} {v : Value} {l : List (Tm n)} (h : ItemsAt w B n v l) (hb : Below B' w w') (hB : B ≤ B') : ItemsAt w' B n v l :=
  h.same fun g hg => hb.block g (by omega)
theorem ItemsAt.drewN {w : World} {B : Nat} {n : Nat} {v : Value} {l : List (Tm n)} (h : ItemsAt w B n v l) (m : Nat) : ItemsAt (w.drewN m) B n v l := ItemsAt.same (w := w) (w' := w.drewN m) (B := B) (fun _ _ => rfl) h
theorem ItemsAt.more {w : World} {B B' : Nat} (hB : B ≤ B') : ∀ {n : Nat} {v : Value} {l : List (Tm n)}, ItemsAt w B n v l → ItemsAt w B' n v l := by
  intro n
  induction n with
  | zero => intro v l h; exact h
  | succ n ih =>
    intro v l h
    obtain ⟨p, c, e, h1, h2, h3⟩ := h
    refine ⟨p, c, e, h1, h2, fun hn => ?_⟩
    obtain ⟨g, o, e, hg, hc⟩ := h3 hn
    refine ⟨g, o, e, by omega, fun j hj => ?_⟩
    obtain ⟨u, hc1, hc2⟩ := hc j hj
    exact ⟨u, hc1, ih hc2⟩
/-- an element -/
theorem ItemsAt.at_ {w : World} {B n : Nat} {v : Value} {l : List (Tm (n + 1))} (h : ItemsAt w B (n + 1) v l) (hne : l ≠ []) : ∃ g o c, v = .slice (some ⟨g, o, none⟩) l.length c ∧ l.length ≤ c ∧ c ≤ maxLen ∧ g < B ∧
    ∀ j, (h : j < l.length) → ∃ u, Cells w g (o + j * 9) (l[j]).f u ∧ ItemsAt w B n u (l[j]).items := by
  obtain ⟨p, c, e, h1, h2, h3⟩ := h
  obtain ⟨g, o, rfl, hg, hc⟩ := h3 hne
  exact ⟨g, o, c, e, h1, h2, hg, hc⟩
/-- the elements from k on -/
theorem ItemsAt.nil_any {w : World} {B n c : Nat} {p : Option Addr} (hc : c ≤ maxLen) : ItemsAt w B n (.slice p 0 c) ([] : List (Tm n)) := by
  cases n with
  | zero => exact ⟨p, c, rfl, hc⟩
  | succ n => exact ⟨p, c, rfl, Nat.zero_le _, hc, fun h => absurd rfl h⟩

/-! ### deeper -/
def liftT : (n : Nat) → Tm n → Tm (n + 1)
  | 0, t => (nomatch (show Empty from t))
  | n + 1, t => Tm.mk t.f (t.items.map (liftT n))
def liftL (n : Nat) (l : List (Tm n)) : List (Tm (n + 1)) := l.map (liftT n)
theorem liftT_f {n : Nat} (t : Tm (n + 1)) : (liftT (n + 1) t).f = t.f := rfl
theorem liftT_items {n : Nat} (t : Tm (n + 1)) : (liftT (n + 1) t).items = liftL n t.items := rfl
theorem ItemsAt.lift {w : World} {B : Nat} : ∀ {n : Nat} {v : Value} {l : List (Tm n)}, ItemsAt w B n v l → ItemsAt w B (n + 1) v (liftL n l) := by
  intro n
  induction n with
  | zero =>
    intro v l h
    obtain ⟨p, c, rfl, hc⟩ := h
    have := Tm.nil0 l
    subst this
    exact ⟨p, c, rfl, Nat.zero_le _, hc, fun h => absurd rfl h⟩
  | succ n ih =>
    intro v l h
    obtain ⟨p, c, e, h1, h2, h3⟩ := h
    have hl : (liftL (n + 1) l).length = l.length := by simp [liftL]
    refine ⟨p, c, by rw [hl]; exact e, by rw [hl]; exact h1, h2, fun hn => ?_⟩
    obtain ⟨g, o, e, hg, hc⟩ := h3 (fun e => hn (by rw [e]; rfl))
    refine ⟨g, o, e, hg, fun j hj => ?_⟩
    rw [hl] at hj
    obtain ⟨u, hc1, hc2⟩ := hc j hj
    have he : (liftL (n + 1) l)[j]'(by rw [hl]; exact hj) = liftT (n + 1) l[j] := by simp [liftL]
    rw [he]
    exact ⟨u, hc1, ih hc2⟩
theorem ItemsAt.to {w : World} {B n m : Nat} {v : Value} {l : List (Tm n)} (h : ItemsAt w B n v l) (hm : n ≤ m) : ∃ l' : List (Tm m), ItemsAt w B m v l' := by
  induction m with
  | zero =>
    obtain rfl : n = 0 := by omega
    exact ⟨l, h⟩
  | succ m ih =>
    by_cases e : n = m + 1
    · subst e; exact ⟨l, h⟩
    · obtain ⟨l', h'⟩ := ih (by omega)
      exact ⟨_, h'.lift⟩
end Go.Proofs.Ythgfdpamnepnfaa.tm
/- stagehandkit's Same and SameList. Conditions: the terms lie in memory. -/
namespace Go.Proofs.Ythgfdpamnepnfaa.tm
open Go.RowKit mem
set_option linter.unusedVariables false
set_option linter.unusedSimpArgs false
set_option maxHeartbeats 1000000
set_option maxRecDepth 100000

noncomputable def eqB {α : Type} (a b : α) : Bool := @decide (a = b) (Classical.propDecidable _)
theorem eqB_t {α : Type} {a b : α} (h : a = b) : eqB a b = true := @decide_eq_true _ (Classical.propDecidable _) h
theorem eqB_f {α : Type} {a b : α} (h : a ≠ b) : eqB a b = false := @decide_eq_false _ (Classical.propDecidable _) h
theorem ret1 {k : IntKind} {a b : Int} (h : a = b) : Ending.returned (.int k a) = .returned (.int k b) := by rw [h]
theorem ret1b {a b : Bool} (h : a = b) : Ending.returned (.bool a) = .returned (.bool b) := by rw [h]
def BPost (b : Bool) (w : World) (e : Ending) (w' : World) : Prop := e = .returned (.bool b) ∧ Below w.heap.size w w'

theorem str_ne' {a b : ByteArray} (h : a ≠ b) : ¬ a.toList = b.toList := by
  intro e
  rw [ByteArray.toList_eq, ByteArray.toList_eq] at e
  exact h (ByteArray.ext (Array.ext' e))
theorem str_ne {a b : ByteArray} (h : a ≠ b) : (a.toList == b.toList) = false := by
  cases hh : a.toList == b.toList with
  | false => rfl
  | true => exact absurd (eq_of_beq hh) (str_ne' h)
theorem bytes_self (a : ByteArray) : (a == a) = true := (bytes_beq a a).2 rfl
theorem bytes_ne {a b : ByteArray} (h : a ≠ b) : (a == b) = false := by
  cases hh : a == b with
  | false => rfl
  | true => exact absurd ((bytes_beq a b).1 hh) h
/-- a term by value -/
def SameS (n : Nat) : Prop := ∀ (w : World) (B : Nat) (v1 v2 : Value) (a b : List (Tm n)), B ≤ w.heap.size → ItemsAt w B n v1 a → ItemsAt w B n v2 b → Calls Try.prog 19 #[v1, v2] w (BPost (eqB a b) w)
theorem same_one {n : Nat} (ih : SameS n) (w : World) (B : Nat) (v1 v2 : Value) (a b : Tm (n + 1)) (hB : B ≤ w.heap.size) (h1 : ItemsAt w B n v1 a.items) (h2 : ItemsAt w B n v2 b.items) :
    Calls Try.prog 30 #[aggV a.f v1, aggV b.f v2] w (BPost (eqB a b) w) := by
  have hno : a.f ≠ b.f → eqB a b = false := fun h => eqB_f (fun e => h (by rw [e]))
  have hin : a.f = b.f → eqB a b = eqB a.items b.items := fun h => by
    by_cases e : a.items = b.items
    · rw [eqB_t e, eqB_t (Tm.ext h e)]
    · rw [eqB_f e, eqB_f (fun e2 => e (by rw [e2]))]
  have hI := fun (W : World) (hb : Below w.heap.size w W) => ih W B v1 v2 a.items b.items (Nat.le_trans hB hb.size) (h1.below hb hB) (h2.below hb hB)
  clear ih h1 h2
  generalize a.items = l1 at *
  generalize b.items = l2 at *
  generalize eqB a b = r at *
  generalize a.f = x at *
  generalize b.f = y at *
  obtain ⟨k1, i1, g1, n1, f1, a1, b1, s1⟩ := x
  obtain ⟨k2, i2, g2, n2, f2, a2, b2, s2⟩ := y
  unfold aggV
  dsimp only
  by_cases e : k1 ≠ k2
  · have hq : (k1 == k2) = false := by simp [e]
    rw [hno (by intro h; simp only [TF.mk.injEq] at h; simp_all)]
    clear hno hin hI e
    go_enter Try.func30, Try.ntmps30
    go_wp2_with fail
    go_ret
    exact ⟨rfl, ((Below.refl _ _).alloc (Nat.le_refl _) _).alloc (by simp) _⟩
  have e := Classical.not_not.1 e
  subst e
  have qk : (k1 == k1) = true := by first | exact bytes_self _ | simp
  by_cases e : i1 ≠ i2
  · have hq : (i1 == i2) = false := by simp [e]
    rw [hno (by intro h; simp only [TF.mk.injEq] at h; simp_all)]
    clear hno hin hI e
    go_enter Try.func30, Try.ntmps30
    go_wp2_with fail
    go_ret
    exact ⟨rfl, ((Below.refl _ _).alloc (Nat.le_refl _) _).alloc (by simp) _⟩
  have e := Classical.not_not.1 e
  subst e
  have qi : (i1 == i1) = true := by first | exact bytes_self _ | simp
  by_cases e : g1 ≠ g2
  · have hq : (g1 == g2) = false := by simp [e]
    rw [hno (by intro h; simp only [TF.mk.injEq] at h; simp_all)]
    clear hno hin hI e
    go_enter Try.func30, Try.ntmps30
    go_wp2_with fail
    go_ret
    exact ⟨rfl, ((Below.refl _ _).alloc (Nat.le_refl _) _).alloc (by simp) _⟩
  have e := Classical.not_not.1 e
  subst e
  have qg : (g1 == g1) = true := by first | exact bytes_self _ | simp
  by_cases e : n1 ≠ n2
  · have hq : (n1.toList == n2.toList) = false := str_ne e
    have hq2 : ¬ n1.toList = n2.toList := str_ne' e
    rw [hno (by intro h; simp only [TF.mk.injEq] at h; simp_all)]
    clear hno hin hI e
    go_enter Try.func30, Try.ntmps30
    go_wp2_with fail
    go_ret
    exact ⟨rfl, ((Below.refl _ _).alloc (Nat.le_refl _) _).alloc (by simp) _⟩
  have e := Classical.not_not.1 e
  subst e
  have qn : (n1 == n1) = true := by first | exact bytes_self _ | simp
  by_cases e : f1 ≠ f2
  · have hq : (f1.toList == f2.toList) = false := str_ne e
    have hq2 : ¬ f1.toList = f2.toList := str_ne' e
    rw [hno (by intro h; simp only [TF.mk.injEq] at h; simp_all)]
    clear hno hin hI e
    go_enter Try.func30, Try.ntmps30
    go_wp2_with fail
    go_ret
    exact ⟨rfl, ((Below.refl _ _).alloc (Nat.le_refl _) _).alloc (by simp) _⟩
  have e := Classical.not_not.1 e
  subst e
  have qf : (f1 == f1) = true := by first | exact bytes_self _ | simp
  by_cases e : a1 ≠ a2
  · have hq : (a1 == a2) = false := by simp [e]
    rw [hno (by intro h; simp only [TF.mk.injEq] at h; simp_all)]
    clear hno hin hI e
    go_enter Try.func30, Try.ntmps30
    go_wp2_with fail
    go_ret
    exact ⟨rfl, ((Below.refl _ _).alloc (Nat.le_refl _) _).alloc (by simp) _⟩
  have e := Classical.not_not.1 e
  subst e
  have qa : (a1 == a1) = true := by first | exact bytes_self _ | simp
  by_cases e : b1 ≠ b2
  · have hq : (b1.toList == b2.toList) = false := str_ne e
    have hq2 : ¬ b1.toList = b2.toList := str_ne' e
    rw [hno (by intro h; simp only [TF.mk.injEq] at h; simp_all)]
    clear hno hin hI e
    go_enter Try.func30, Try.ntmps30
    go_wp2_with fail
    go_ret
    exact ⟨rfl, ((Below.refl _ _).alloc (Nat.le_refl _) _).alloc (by simp) _⟩
  have e := Classical.not_not.1 e
  subst e
  have qb : (b1 == b1) = true := by first | exact bytes_self _ | simp
  by_cases e : s1 ≠ s2
  · have hq : (s1 == s2) = false := by simp [e]
    rw [hno (by intro h; simp only [TF.mk.injEq] at h; simp_all)]
    clear hno hin hI e
    go_enter Try.func30, Try.ntmps30
    go_wp2_with fail
    go_ret
    exact ⟨rfl, ((Below.refl _ _).alloc (Nat.le_refl _) _).alloc (by simp) _⟩
  have e := Classical.not_not.1 e
  subst e
  have qs : (s1 == s1) = true := by first | exact bytes_self _ | simp
  rw [hin rfl]
  clear hno hin
  go_enter Try.func30, Try.ntmps30
  go_wp2_with fail
  refine (hI _ (((Below.refl _ _).alloc (Nat.le_refl _) _).alloc (by simp) _)).mono ?_
  rintro e w' ⟨rfl, hb⟩
  go_wp2_with fail
  go_ret
  exact ⟨rfl, (((Below.refl _ _).alloc (Nat.le_refl _) _).alloc (by simp) _).trans (hb.mono (by simp; omega))⟩
end Go.Proofs.Ythgfdpamnepnfaa.tm
/- stagehandkit's SameList. Conditions: the terms lie in memory. -/
namespace Go.Proofs.Ythgfdpamnepnfaa.tm
open Go.RowKit mem
set_option linter.unusedVariables false
set_option linter.unusedSimpArgs false
set_option maxHeartbeats 1000000
set_option maxRecDepth 100000

theorem take_step {α : Type} {a b : List α} {k : Nat} (h : a.take k = b.take k) (ha : k < a.length) (hb : k < b.length) (e : a[k] = b[k]) : a.take (k + 1) = b.take (k + 1) := by
  rw [List.take_succ_eq_append_getElem ha, List.take_succ_eq_append_getElem hb, h, e]
theorem take_ne {α : Type} {a b : List α} {k : Nat} (ha : k < a.length) (hb : k < b.length) (e : a[k] ≠ b[k]) : a ≠ b := by
  intro h; subst h; exact e rfl
theorem sameZero : SameS 0 := by
  intro w B v1 v2 a b hB h1 h2
  obtain ⟨p1, c1, rfl, hc1⟩ := h1
  obtain ⟨p2, c2, rfl, hc2⟩ := h2
  rw [Tm.nil0 a, Tm.nil0 b, eqB_t rfl]
  go_enter Try.func19, Try.ntmps19
  go_wp2_with fail
  refine wp_loop_rounds 1 ?_
  rw [rounds_succ]
  go_wp2_with fail
  go_ret
  exact ⟨rfl, Below.refl _ _⟩
theorem sameSucc {n : Nat} (ih : SameS n) : SameS (n + 1) := by
  intro w B v1 v2 a b hB h1 h2
  obtain ⟨p1, c1, e1, hc1, hm1⟩ := h1.shape
  obtain ⟨p2, c2, e2, hc2, hm2⟩ := h2.shape
  unfold maxLen at hm1 hm2
  by_cases hl : a.length = b.length
  · have hd : (((a.length : Nat) : Int) != ((b.length : Nat) : Int)) = false := by simp [hl]
    have HL := Lib.hid hl; clear hl
    have H1 := Lib.hid h1; clear h1
    have H2 := Lib.hid h2; clear h2
    subst e1; subst e2
    go_enter Try.func19, Try.ntmps19
    go_wp2_with fail
    go_loopw [5] (fun s wr => ∃ k : Nat, s = .int .i64 k ∧ k ≤ a.length ∧ Hid (a.take k = b.take k) ∧ Below w.heap.size w wr) (fun s _ => a.length - (intOf s).toNat)
    case atStart => exact ⟨0, rfl, by omega, Lib.hid rfl, Below.refl _ _⟩
    case round =>
      obtain ⟨k, rfl, hk, ht, hb⟩ := hrel
      by_cases hlt : k < a.length
      · have hkb : k < b.length := by have := HL.out; omega
        obtain ⟨g1, o1, c1', e1, _, _, hg1, hx1⟩ := (H1.out.below hb hB).at_ (by intro e; subst e; simp at hlt)
        obtain ⟨g2, o2, c2', e2, _, _, hg2, hx2⟩ := (H2.out.below hb hB).at_ (by intro e; subst e; simp at hkb)
        simp only [Value.slice.injEq] at e1 e2
        obtain ⟨rfl, _, rfl⟩ := e1
        obtain ⟨rfl, _, rfl⟩ := e2
        obtain ⟨u1, hC1, hI1⟩ := hx1 k hlt
        obtain ⟨u2, hC2, hI2⟩ := hx2 k hkb
        have hS := fun (W : World) (hW : Below w.heap.size wr W) => same_one ih W B u1 u2 a[k] b[k] (by have := hW.size; have := hb.size; omega) (hI1.below hW hB) (hI2.below hW hB)
        obtain ⟨x0, x1, x2, x3, x4, x5, x6, x7, x8⟩ := hC1
        obtain ⟨y0, y1, y2, y3, y4, y5, y6, y7, y8⟩ := hC2
        have hys : a[k] = b[k] → a.take (k + 1) = b.take (k + 1) := fun e => take_step ht.out hlt hkb e
        have hno : a[k] ≠ b[k] → eqB a b = false := fun e => eqB_f (take_ne hlt hkb e)
        have HYS := Lib.hid hys; clear hys
        have HNO := Lib.hid hno; clear hno
        clear hx1 hx2 hI1 hI2
        unfold aggV at hS
        have HS := Lib.hid hS; clear hS
        generalize a[k] = x at *
        generalize b[k] = y at *
        generalize x.f = xf at *
        generalize y.f = yf at *
        have hb' : Below w.heap.size wr wr.drew := ⟨rfl, rfl, rfl, Nat.le_refl _, fun _ _ => rfl⟩
        go_wp2_with fail
        go_still_tail 8, (by kernel_rfl)
        change wpList _ _ _ _ _ wr.drew
        have hS := HS.out wr.drew hb'
        have hb2 : Below w.heap.size w wr.drew := hb.trans hb'
        clear x0 x1 x2 x3 x4 x5 x6 x7 x8 y0 y1 y2 y3 y4 y5 y6 y7 y8
        have hz := hb2.size
        generalize wr.drew = w2 at *
        go_wp2_with fail
        refine hS.mono ?_
        rintro e w3 ⟨rfl, hb3⟩
        have hb4 : Below w.heap.size w w3 := hb2.trans (hb3.mono hz)
        by_cases e : x = y
        · rw [eqB_t e]
          have HT := Lib.hid (HYS.out e)
          clear hS
          go_wp2_with fail
          go_roundw
          case rel => exact ⟨k + 1, by go_num, by omega, HT, hb4⟩
          case measure => simp [intOf]; omega
        · rw [eqB_f e]
          have HN := Lib.hid (HNO.out e)
          clear hS
          go_wp2_with fail
          go_ret
          exact ⟨ret1b HN.out.symm, hb4⟩
      · have hfin : a = b := by
          have := ht.out
          rwa [List.take_of_length_le (by omega), List.take_of_length_le (by have := HL.out; omega)] at this
        have HF := Lib.hid (eqB_t hfin); clear hfin
        go_wp2_with fail
        go_ret
        exact ⟨ret1b HF.out.symm, hb⟩
  · have hd : (((a.length : Nat) : Int) != ((b.length : Nat) : Int)) = true := by simp; omega
    have hfin := eqB_f (fun e : a = b => hl (by rw [e]))
    have HF := Lib.hid hfin; clear hfin
    subst e1; subst e2
    go_enter Try.func19, Try.ntmps19
    go_wp2_with fail
    go_ret
    exact ⟨ret1b HF.out.symm, Below.refl _ _⟩
theorem sameList (n : Nat) : SameS n := by
  induction n with
  | zero => exact sameZero
  | succ n ih => exact sameSucc ih
theorem sameOne {n : Nat} (w : World) (B : Nat) (v1 v2 : Value) (a b : Tm (n + 1)) (hB : B ≤ w.heap.size) (h1 : ItemsAt w B n v1 a.items) (h2 : ItemsAt w B n v2 b.items) :
    Calls Try.prog 30 #[aggV a.f v1, aggV b.f v2] w (BPost (eqB a b) w) := same_one (sameList n) w B v1 v2 a b hB h1 h2
end Go.Proofs.Ythgfdpamnepnfaa.tm
/- stagehandkit's left and Great. Conditions: the terms lie in memory. -/
namespace Go.Proofs.Ythgfdpamnepnfaa.tm
open Go.RowKit mem
set_option linter.unusedVariables false
set_option linter.unusedSimpArgs false
set_option maxHeartbeats 1000000
set_option maxRecDepth 100000

def leftB (f : TF) (m : Int) : Prop := m < (f.name.size : Int) ∨ m < (f.func.size : Int) ∨ m < (f.bytes.size : Int)
def leftN (f : TF) (m : Int) : Int := m - 1 - (f.name.size : Int) / 8 - (f.func.size : Int) / 8 - (f.bytes.size : Int) / 8
instance (f : TF) (m : Int) : Decidable (leftB f m) := by unfold leftB; infer_instance
def leftStep {n : Nat} (r : List (Tm n) → Int → Int) (m : Int) (t : Tm (n + 1)) : Int := if m < 0 then m else if leftB t.f m then -1 else r t.items (leftN t.f m)
def leftS : (n : Nat) → List (Tm n) → Int → Int
  | 0, _, m => m
  | n + 1, l, m => l.foldl (leftStep (leftS n)) m
theorem leftN_bd (f : TF) (m : Int) (h0 : 0 ≤ m) (h : ¬ leftB f m) : -1 ≤ leftN f m ∧ leftN f m < m := by
  unfold leftB at h; unfold leftN; omega
theorem fold_neg {n : Nat} (r : List (Tm n) → Int → Int) (m : Int) (h : m < 0) : ∀ (l : List (Tm (n + 1))), l.foldl (leftStep r) m = m := by
  intro l
  induction l with
  | nil => rfl
  | cons t l ih => rw [List.foldl_cons]; unfold leftStep at *; rw [if_pos h]; exact ih
theorem leftS_bd : ∀ (n : Nat) (l : List (Tm n)) (m : Int), -1 ≤ m → -1 ≤ leftS n l m ∧ leftS n l m ≤ m := by
  intro n
  induction n with
  | zero => intro l m h; exact ⟨h, Int.le_refl _⟩
  | succ n ih =>
    intro l
    induction l with
    | nil => intro m h; exact ⟨h, Int.le_refl _⟩
    | cons t l ih2 =>
      intro m h
      have e : leftS (n + 1) (t :: l) m = leftS (n + 1) l (leftStep (leftS n) m t) := rfl
      rw [e]
      have hs : -1 ≤ leftStep (leftS n) m t ∧ leftStep (leftS n) m t ≤ m := by
        unfold leftStep
        split
        · exact ⟨h, Int.le_refl _⟩
        · rename_i h0
          split
          · omega
          · rename_i h1
            have := leftN_bd t.f m (by omega) h1
            have := ih t.items (leftN t.f m) this.1
            omega
      have := ih2 _ hs.1
      omega
theorem left_snoc {n : Nat} (l : List (Tm (n + 1))) (m : Int) (k : Nat) (h : k < l.length) : leftS (n + 1) (l.take (k + 1)) m = leftStep (leftS n) (leftS (n + 1) (l.take k) m) l[k] := by
  unfold leftS
  rw [List.take_succ_eq_append_getElem h, List.foldl_append]; rfl
theorem left_end {n : Nat} (l : List (Tm (n + 1))) (m : Int) (k : Nat) (h : k ≤ l.length) (hn : leftS (n + 1) (l.take k) m < 0) : leftS (n + 1) l m = leftS (n + 1) (l.take k) m := by
  have e : leftS (n + 1) l m = (l.drop k).foldl (leftStep (leftS n)) (leftS (n + 1) (l.take k) m) := by
    show l.foldl _ m = _
    conv => lhs; rw [← List.take_append_drop k l]
    rw [List.foldl_append]; rfl
  rw [e, fold_neg _ _ hn]
def LeftC (n : Nat) : Prop := ∀ (w : World) (B : Nat) (v : Value) (l : List (Tm n)) (m : Int), B ≤ w.heap.size → -1 ≤ m → m ≤ 10000 → ItemsAt w B n v l → Calls Try.prog 37 #[v, .int .i64 m] w fun e w' => e = .returned (.int .i64 (leftS n l m)) ∧ Below w.heap.size w w'
theorem leftZero : LeftC 0 := by
  intro w B v l m hB hm0 hm h
  obtain ⟨p, c, rfl, hc⟩ := h
  go_enter Try.func37, Try.ntmps37
  go_wp2_with fail
  refine wp_loop_rounds 1 ?_
  rw [rounds_succ]
  go_wp2_with fail
  all_goals
    go_ret
    exact ⟨rfl, Below.refl _ _⟩
theorem leftSucc {n : Nat} (ih : LeftC n) : LeftC (n + 1) := by
  intro w B v l m hB hm0 hm h
  obtain ⟨p, c, e, hc, hcm⟩ := h.shape
  subst e
  unfold maxLen at hcm
  have HI := Lib.hid h; clear h
  go_enter Try.func37, Try.ntmps37
  go_wp2_with fail
  go_loopw [1, 5] (fun s1 s wr => ∃ k : Nat, s = .int .i64 k ∧ k ≤ l.length ∧ s1 = .int .i64 (leftS (n + 1) (l.take k) m) ∧ Below w.heap.size w wr) (fun _ s _ => l.length - (intOf s).toNat)
  case atStart => exact ⟨0, rfl, by omega, rfl, Below.refl _ _⟩
  case round =>
    obtain ⟨k, rfl, hk, rfl, hb⟩ := hrel
    obtain ⟨hm1, hm2⟩ := leftS_bd (n + 1) (l.take k) m hm0
    by_cases hlt : k < l.length
    · have hs := left_snoc l m k hlt
      by_cases hneg : leftS (n + 1) (l.take k) m < 0
      · have he := left_end l m k hk hneg
        have HE := Lib.hid he; clear he
        have hq : decide (0 ≤ leftS (n + 1) (l.take k) m) = false := decide_eq_false (by omega)
        clear hs
        generalize leftS (n + 1) (l.take k) m = q at *
        go_wp2_with fail
        go_ret
        exact ⟨ret1 HE.out.symm, hb⟩
      · have hq : decide (0 ≤ leftS (n + 1) (l.take k) m) = true := decide_eq_true (by omega)
        obtain ⟨g, o, c', e, _, _, hg, hx⟩ := (HI.out.below hb hB).at_ (by intro e; subst e; simp at hlt)
        simp only [Value.slice.injEq] at e
        obtain ⟨rfl, _, rfl⟩ := e
        obtain ⟨u, hC, hI⟩ := hx k hlt
        obtain ⟨pu, cu, rfl, hcu, hcm2⟩ := hI.shape
        obtain ⟨x0, x1, x2, x3, x4, x5, x6, x7, x8⟩ := hC
        unfold leftStep at hs
        rw [if_neg hneg] at hs
        have hend : ∀ z : Int, leftS (n + 1) (l.take (k + 1)) m = z → z < 0 → leftS (n + 1) l m = z := fun z hz hz0 => by
          rw [left_end l m (k + 1) (by omega) (by rw [hz]; exact hz0), hz]
        have HEND := Lib.hid hend; clear hend
        have HS := Lib.hid hs; clear hs
        clear hx
        generalize leftS (n + 1) (l.take k) m = q at *
        generalize l[k] = t at *
        have hih := fun (W : World) (hW : Below w.heap.size w W) (hW2 : Below wr.heap.size wr W) (hq0 : ¬ leftB t.f q) => ih W B _ t.items (leftN t.f q) (Nat.le_trans hB hW.size) (leftN_bd t.f q (by omega) hq0).1 (by have := (leftN_bd t.f q (by omega) hq0).2; omega) (hI.below hW2 (Nat.le_trans hB hb.size))
        have HIH := Lib.hid hih; clear hih
        clear hI
        have hsz := hb.size
        generalize t.items = its at *
        generalize hf : t.f = f at *
        clear hf
        have hb3 : ∀ (o1 : Obj), Below w.heap.size w (wr.alloc o1) := fun o1 => hb.alloc hsz o1
        by_cases h3 : q < (f.name.size : Int)
        · have hL : leftB f q := .inl h3
          have HR := Lib.hid (HEND.out (-1) (by rw [HS.out, if_pos hL]) (by omega))
          clear HS HEND HIH
          go_wp2_with fail
          go_ret
          exact ⟨ret1 HR.out.symm, hb3 _⟩
        by_cases h4 : q < (f.func.size : Int)
        · have hL : leftB f q := .inr (.inl h4)
          have HR := Lib.hid (HEND.out (-1) (by rw [HS.out, if_pos hL]) (by omega))
          clear HS HEND HIH
          go_wp2_with fail
          go_ret
          exact ⟨ret1 HR.out.symm, hb3 _⟩
        by_cases h5 : q < (f.bytes.size : Int)
        · have hL : leftB f q := .inr (.inr h5)
          have HR := Lib.hid (HEND.out (-1) (by rw [HS.out, if_pos hL]) (by omega))
          clear HS HEND HIH
          go_wp2_with fail
          go_ret
          exact ⟨ret1 HR.out.symm, hb3 _⟩
        have hL : ¬ leftB f q := by unfold leftB; omega
        have HS2 : Hid (leftS (n + 1) (l.take (k + 1)) m = leftS n its (leftN f q)) := Lib.hid (by rw [HS.out, if_neg hL])
        have hih := fun (W : World) hW hW2 => HIH.out W hW hW2 hL
        unfold leftN at hih
        have HIH2 := Lib.hid hih; clear hih
        clear HS HEND HIH
        go_wp2_with fail
        refine (HIH2.out _ (hb3 _) ((Below.refl _ _).alloc (Nat.le_refl _) _)).mono ?_
        rintro e w3 ⟨rfl, hb4⟩
        have hb5 := (hb3 (.cells #[.int .i64 0] 24)).size
        have hb6 : Below w.heap.size w w3 := (hb3 _).trans (hb4.mono (by simp; omega))
        have HS3 : Hid (leftS (n + 1) (l.take (k + 1)) m = leftS n its (q - 1 - (f.name.size : Int) / 8 - (f.func.size : Int) / 8 - (f.bytes.size : Int) / 8)) := HS2
        go_wp2_with fail
        go_roundw
        case rel => exact ⟨k + 1, by go_num, by omega, by rw [HS3.out], hb6⟩
        case measure => simp [intOf]; omega
    · have hkk : l.take k = l := List.take_of_length_le (by omega)
      rw [hkk] at *
      clear hkk
      have hq : decide (k < l.length) = false := decide_eq_false hlt
      go_wp2_with fail
      go_ret
      exact ⟨rfl, hb⟩
theorem leftAll (n : Nat) : LeftC n := by
  induction n with
  | zero => exact leftZero
  | succ n ih => exact leftSucc ih
def greatS (n : Nat) (l : List (Tm n)) (m : Int) : Bool := decide (leftS n l m < 0)
theorem Great {n : Nat} (w : World) (B : Nat) (v : Value) (l : List (Tm n)) (m : Int) (hB : B ≤ w.heap.size) (hm0 : -1 ≤ m) (hm : m ≤ 10000) (h : ItemsAt w B n v l) : Calls Try.prog 11 #[v, .int .i64 m] w (BPost (greatS n l m) w) := by
  have hL := leftAll n w B v l m hB hm0 hm h
  unfold greatS
  generalize leftS n l m = q at *
  clear h
  go_enter Try.func11, Try.ntmps11
  go_wp2_with fail
  refine hL.mono ?_
  rintro e w1 ⟨rfl, hb⟩
  go_wp2_with fail
  go_ret
  exact ⟨rfl, hb⟩
end Go.Proofs.Ythgfdpamnepnfaa.tm
/- Valid names: the program's Valid and the specification's return the same function of the string's bytes. Conditions: none on the string but that it is one that a Go program can hold. -/
namespace Go.Proofs.Ythgfdpamnepnfaa.names
open Go.RowKit
set_option linter.unusedVariables false
set_option linter.unusedSimpArgs false
set_option maxHeartbeats 1000000

/-- may the byte c stand at place k of a name? -/
def okAt (k : Nat) (c : Nat) : Bool := decide (97 ≤ c ∧ c ≤ 122) || (decide (0 < k) && (decide (65 ≤ c ∧ c ≤ 90) || decide (48 ≤ c ∧ c ≤ 57) || decide (c = 95) || decide (c = 64)))
def vName (s : ByteArray) : Bool := decide (1 ≤ s.size ∧ s.size ≤ 32 ∧ ∀ k : Nat, (h : k < s.size) → okAt k (s[k]'h).toNat = true)

theorem vName_false {s : ByteArray} (k : Nat) (h : k < s.size) (hk : okAt k (s[k]'h).toNat = false) : vName s = false := by
  unfold vName; rw [decide_eq_false_iff_not]; rintro ⟨_, _, h3⟩; rw [h3 k h] at hk; cases hk
theorem vName_true {s : ByteArray} (h1 : 1 ≤ s.size) (h2 : s.size ≤ 32) (h3 : ∀ k : Nat, (h : k < s.size) → okAt k (s[k]'h).toNat = true) : vName s = true := by
  unfold vName; exact decide_eq_true ⟨h1, h2, h3⟩
theorem ret1b {a b : Bool} (h : a = b) : Ending.returned (.bool a) = .returned (.bool b) := by rw [h]
theorem okAt_high (k c : Nat) (h : 128 ≤ c) : okAt k c = false := by
  unfold okAt; simp; omega

theorem toList_len (s : ByteArray) : s.toList.length = s.size := by
  rw [ByteArray.toList_eq, Array.length_toList]; rfl
theorem okAt_iff (k c : Nat) : okAt k c = true ↔ (97 ≤ c ∧ c ≤ 122) ∨ (0 < k ∧ ((65 ≤ c ∧ c ≤ 90) ∨ (48 ≤ c ∧ c ≤ 57) ∨ c = 95 ∨ c = 64)) := by
  unfold okAt; simp [or_assoc]
theorem okAt_not (k c : Nat) (h : ¬ ((97 ≤ c ∧ c ≤ 122) ∨ (0 < k ∧ ((65 ≤ c ∧ c ≤ 90) ∨ (48 ≤ c ∧ c ≤ 57) ∨ c = 95 ∨ c = 64)))) : okAt k c = false := by
  rw [Bool.eq_false_iff, ne_eq, okAt_iff]; exact h
/-- the classes of bytes -/
theorem classes (c : Nat) (h : c < 256) : ∃ lo hi : Int, ∃ b1 b2 : Bool, lo ≤ (c : Int) ∧ (c : Int) ≤ hi ∧ ((c : Int) == 95) = b1 ∧ ((c : Int) == 64) = b2 ∧ ((c : Int) != 95) = !b1 ∧ ((c : Int) != 64) = !b2 ∧ ((lo = 0 ∧ hi = 47 ∧ b1 = false ∧ b2 = false) ∨ (lo = 48 ∧ hi = 57 ∧ b1 = false ∧ b2 = false) ∨ (lo = 58 ∧ hi = 63 ∧ b1 = false ∧ b2 = false) ∨ (lo = 64 ∧ hi = 64 ∧ b1 = false ∧ b2 = true) ∨ (lo = 65 ∧ hi = 90 ∧ b1 = false ∧ b2 = false) ∨ (lo = 91 ∧ hi = 94 ∧ b1 = false ∧ b2 = false) ∨ (lo = 95 ∧ hi = 95 ∧ b1 = true ∧ b2 = false) ∨ (lo = 96 ∧ hi = 96 ∧ b1 = false ∧ b2 = false) ∨ (lo = 97 ∧ hi = 122 ∧ b1 = false ∧ b2 = false) ∨ (lo = 123 ∧ hi = 255 ∧ b1 = false ∧ b2 = false)) := by
  have : c ≤ 47 ∨ (48 ≤ c ∧ c ≤ 57) ∨ (58 ≤ c ∧ c ≤ 63) ∨ c = 64 ∨ (65 ≤ c ∧ c ≤ 90) ∨ (91 ≤ c ∧ c ≤ 94) ∨ c = 95 ∨ c = 96 ∨ (97 ≤ c ∧ c ≤ 122) ∨ 123 ≤ c := by omega
  rcases this with h | h | h | h | h | h | h | h | h | h
  · exact ⟨0, 47, false, false, by omega, by omega, by simp <;> omega, by simp <;> omega, by simp <;> omega, by simp <;> omega, by simp⟩
  · exact ⟨48, 57, false, false, by omega, by omega, by simp <;> omega, by simp <;> omega, by simp <;> omega, by simp <;> omega, by simp⟩
  · exact ⟨58, 63, false, false, by omega, by omega, by simp <;> omega, by simp <;> omega, by simp <;> omega, by simp <;> omega, by simp⟩
  · exact ⟨64, 64, false, true, by omega, by omega, by simp <;> omega, by simp <;> omega, by simp <;> omega, by simp <;> omega, by simp⟩
  · exact ⟨65, 90, false, false, by omega, by omega, by simp <;> omega, by simp <;> omega, by simp <;> omega, by simp <;> omega, by simp⟩
  · exact ⟨91, 94, false, false, by omega, by omega, by simp <;> omega, by simp <;> omega, by simp <;> omega, by simp <;> omega, by simp⟩
  · exact ⟨95, 95, true, false, by omega, by omega, by simp <;> omega, by simp <;> omega, by simp <;> omega, by simp <;> omega, by simp⟩
  · exact ⟨96, 96, false, false, by omega, by omega, by simp <;> omega, by simp <;> omega, by simp <;> omega, by simp <;> omega, by simp⟩
  · exact ⟨97, 122, false, false, by omega, by omega, by simp <;> omega, by simp <;> omega, by simp <;> omega, by simp <;> omega, by simp⟩
  · exact ⟨123, 255, false, false, by omega, by omega, by simp <;> omega, by simp <;> omega, by simp <;> omega, by simp <;> omega, by simp⟩
/-- what a round of the loop over runes sees -/
theorem rune_at (s : ByteArray) (pos : Nat) (h : pos < s.size) :
    ((Utf8.decode s pos).1 = ((s[pos]'h).toNat : Int) ∧ (s[pos]'h).toNat < 128 ∧ (Utf8.decode s pos).2 = 1) ∨ (128 ≤ (Utf8.decode s pos).1 ∧ 128 ≤ (s[pos]'h).toNat) := by
  by_cases ha : (s[pos]'h).toNat < 128
  · left; rw [decode_ascii s pos h ha]; exact ⟨rfl, ha, rfl⟩
  · right; exact ⟨by have := (decode_high s pos h (by omega)).1; omega, by omega⟩

theorem Valid (s : ByteArray) (w : World) :
    Calls Try.prog 91 #[.string s] w fun e w' => e = .returned (.bool (vName s)) ∧ Below w.heap.size w w' := by
  by_cases h1 : s.size = 0
  · have h3 : s.toList.isEmpty = true := by rw [List.isEmpty_iff, ← List.length_eq_zero_iff, toList_len]; exact h1
    go_enter Try.func91, Try.ntmps91
    go_wp2_with fail
    go_ret
    exact ⟨ret1b (by unfold vName; symm; rw [decide_eq_false_iff_not]; omega), Below.refl _ _⟩
  have h3 : s.toList.isEmpty = false := by rw [List.isEmpty_eq_false_iff]; intro e; exact h1 (by rw [← toList_len, e]; rfl)
  by_cases h2 : 32 < s.size
  · go_enter Try.func91, Try.ntmps91
    go_wp2_with fail
    go_ret
    exact ⟨ret1b (by unfold vName; symm; rw [decide_eq_false_iff_not]; omega), Below.refl _ _⟩
  go_enter Try.func91, Try.ntmps91
  go_wp2_with fail
  go_loopw [3] (fun _ w' => ∃ pos : Nat, w' = w.iter s pos ∧ pos ≤ s.size ∧ ∀ k : Nat, (h : k < s.size) → k < pos → okAt k (s[k]'h).toNat = true) (fun _ w' => s.size - w'.iterPos w.heap.size)
  case atStart => exact ⟨0, rfl, by omega, by omega⟩
  case round =>
    obtain ⟨pos, rfl, hpos, hall⟩ := hrel
    have HALL := Lib.hid hall
    clear hall
    by_cases hp : pos < s.size
    · by_cases ha : s[pos].toNat < 128
      · have hnx : ∀ ty, (Instr.next (.pointer (some ⟨w.heap.size, 0, none⟩)) true ty).run Try.prog (w.iter s pos) = _ := fun ty => run_next_ascii w s pos ty hp ha
        have HP : Hid (pos = 0 ∨ 0 < pos) := Lib.hid (by omega)
        obtain ⟨lo, hi, b1, b2, c1, c2, c3, c4, c5, c6, hG⟩ := classes s[pos].toNat (by omega)
        rcases HP.out with hp0 | hp0
        · subst hp0
          rcases hG with ⟨rfl, rfl, rfl, rfl⟩ | ⟨rfl, rfl, rfl, rfl⟩ | ⟨rfl, rfl, rfl, rfl⟩ | ⟨rfl, rfl, rfl, rfl⟩ | ⟨rfl, rfl, rfl, rfl⟩ | ⟨rfl, rfl, rfl, rfl⟩ | ⟨rfl, rfl, rfl, rfl⟩ | ⟨rfl, rfl, rfl, rfl⟩ | ⟨rfl, rfl, rfl, rfl⟩ | ⟨rfl, rfl, rfl, rfl⟩
          all_goals go_wp2
          all_goals first
            | (go_ret
               exact ⟨ret1b (vName_false 0 hp (okAt_not _ _ (by omega))).symm, (Below.refl _ _).alloc (Nat.le_refl _) _⟩)
            | (go_roundw
               case rel => exact ⟨0 + 1, rfl, by omega, fun k h hk => by obtain rfl : k = 0 := by omega
                                                                         exact (okAt_iff _ _).2 (by omega)⟩
               case measure => simp; omega)
            | (exfalso; simp only [Bool.not_eq_eq_eq_not, Bool.not_false, Bool.not_true, decide_eq_true_eq, decide_eq_false_iff_not] at *; omega)
        · rcases hG with ⟨rfl, rfl, rfl, rfl⟩ | ⟨rfl, rfl, rfl, rfl⟩ | ⟨rfl, rfl, rfl, rfl⟩ | ⟨rfl, rfl, rfl, rfl⟩ | ⟨rfl, rfl, rfl, rfl⟩ | ⟨rfl, rfl, rfl, rfl⟩ | ⟨rfl, rfl, rfl, rfl⟩ | ⟨rfl, rfl, rfl, rfl⟩ | ⟨rfl, rfl, rfl, rfl⟩ | ⟨rfl, rfl, rfl, rfl⟩
          all_goals go_wp2
          all_goals first
            | (go_ret
               exact ⟨ret1b (vName_false pos hp (okAt_not _ _ (by omega))).symm, (Below.refl _ _).alloc (Nat.le_refl _) _⟩)
            | (go_roundw
               case rel =>
                refine ⟨pos + 1, rfl, by omega, fun k h hk => ?_⟩
                by_cases hkp : k < pos
                · exact HALL.out k h hkp
                · obtain rfl : k = pos := by omega
                  exact (okAt_iff _ _).2 (by omega)
               case measure => simp; omega)
            | (exfalso; simp only [Bool.not_eq_eq_eq_not, Bool.not_false, Bool.not_true, decide_eq_true_eq, decide_eq_false_iff_not] at *; omega)
      · have hnx : ∀ ty, (Instr.next (.pointer (some ⟨w.heap.size, 0, none⟩)) true ty).run Try.prog (w.iter s pos) = _ := fun ty => run_next_any w s pos ty hp
        have hr := (decode_high s pos hp (by omega)).1
        generalize hdr : (Utf8.decode s pos).1 = r at *
        generalize hdw : (Utf8.decode s pos).2 = wd at *
        clear hdr hdw
        have q1 : ((r : Int) == 95) = false := by simp; omega
        have q2 : ((r : Int) == 64) = false := by simp; omega
        by_cases hp0 : 0 < pos
        all_goals go_wp2
        all_goals first
          | (go_ret
             exact ⟨ret1b (vName_false pos hp (okAt_high _ _ (by omega))).symm, (Below.refl _ _).alloc (Nat.le_refl _) _⟩)
          | (exfalso; simp only [Bool.not_eq_eq_eq_not, Bool.not_false, Bool.not_true, decide_eq_true_eq, decide_eq_false_iff_not] at *; omega)
    · have hnx : ∀ ty, (Instr.next (.pointer (some ⟨w.heap.size, 0, none⟩)) true ty).run Try.prog (w.iter s pos) = _ := fun ty => run_next_end w s pos ty hp
      go_wp2
      go_ret
      exact ⟨ret1b (vName_true (by omega) (by omega) (fun k h => HALL.out k h (by omega))).symm, (Below.refl _ _).alloc (Nat.le_refl _) _⟩

end Go.Proofs.Ythgfdpamnepnfaa.names
/- terms: what each kind requires. Conditions: the term's elements lie in memory. -/
namespace Go
theorem RowKit.Below.drewN {B : Nat} {a w : World} (h : RowKit.Below B a w) (n : Nat) : RowKit.Below B a (w.drewN n) := ⟨h.os, h.tape, h.output, h.size, h.block⟩
end Go
namespace Go.Proofs.Ythgfdpamnepnfaa.tm
open Go.RowKit mem names
set_option linter.unusedVariables false
set_option linter.unusedSimpArgs false
set_option maxHeartbeats 1000000
set_option maxRecDepth 100000

def inB (n a b : Int) : Bool := decide (a ≤ n ∧ n ≤ b)
theorem inB_t {n a b : Int} (h : a ≤ n ∧ n ≤ b) : inB n a b = true := decide_eq_true h
theorem inB_f {n a b : Int} (h : ¬ (a ≤ n ∧ n ≤ b)) : inB n a b = false := decide_eq_false h
theorem within (n a b : Int) (w : World) : Calls Try.prog 90 #[.int .i64 n, .int .i64 a, .int .i64 b] w fun e w' => e = .returned (.bool (inB n a b)) ∧ w = w' := by
  by_cases h1 : a ≤ n
  · by_cases h2 : n ≤ b
    · rw [inB_t ⟨h1, h2⟩]
      have q1 : decide (a ≤ n) = true := decide_eq_true h1
      have q2 : decide (n ≤ b) = true := decide_eq_true h2
      go_enter Try.func90, Try.ntmps90
      go_wp2_with fail
      go_ret
      exact ⟨rfl, rfl⟩
    · rw [inB_f (fun h => h2 h.2)]
      have q1 : decide (a ≤ n) = true := decide_eq_true h1
      have q2 : decide (n ≤ b) = false := decide_eq_false h2
      go_enter Try.func90, Try.ntmps90
      go_wp2_with fail
      go_ret
      exact ⟨rfl, rfl⟩
  · rw [inB_f (fun h => h1 h.1)]
    have q1 : decide (a ≤ n) = false := decide_eq_false h1
    go_enter Try.func90, Try.ntmps90
    go_wp2_with fail
    go_ret
    exact ⟨rfl, rfl⟩

def zeroF : TF := ⟨0, 0, 0, ⟨#[]⟩, ⟨#[]⟩, 0, ⟨#[]⟩, 0⟩
def nilV : Value := .slice none 0 0
def lastByte (s : ByteArray) : Nat := (s.data.toList.getLastD 0).toNat
def okBits (f : TF) : Bool := inB f.bits 0 16384 && decide ((f.bytes.size : Int) = (f.bits + 7) / 8) && decide (f.bits % 8 = 0 ∨ lastByte f.bytes % 2 ^ (8 - (f.bits % 8).toNat) = 0)
def okF (f : TF) (n : Nat) (last : Int) : Bool :=
  if f.kind = 1 ∨ f.kind = 8 then true
  else if f.kind = 2 then vName f.name
  else if f.kind = 3 ∨ f.kind = 6 then inB f.int 1 2147483647 && (inB f.gen 1 2147483647 && vName f.name)
  else if f.kind = 4 then inB f.int 0 999 && (inB f.gen 1 2147483647 && (vName f.name && (inB f.arity 0 16 && decide (n ≤ 200))))
  else if f.kind = 5 then vName f.name && (vName f.func && inB f.arity 0 16)
  else if f.kind = 7 then decide (n ≤ 255)
  else if f.kind = 9 then decide (2 ≤ n) && decide (last ≠ 9)
  else if f.kind = 10 then okBits f
  else false
/-- the fields that a kind uses are struck -/
def bareF (f : TF) : TF :=
  if f.kind = 1 then { f with int := 0 }
  else if f.kind = 2 then { f with name := ⟨#[]⟩ }
  else if f.kind = 3 ∨ f.kind = 6 then { f with int := 0, gen := 0, name := ⟨#[]⟩ }
  else if f.kind = 4 then { f with int := 0, gen := 0, name := ⟨#[]⟩, arity := 0 }
  else if f.kind = 5 then { f with name := ⟨#[]⟩, func := ⟨#[]⟩, arity := 0 }
  else if f.kind = 10 then { f with bytes := ⟨#[]⟩, bits := 0 }
  else f
def bareV (f : TF) (v : Value) : Value := if f.kind = 4 ∨ f.kind = 7 ∨ f.kind = 9 then nilV else v
theorem bcell {W w1 : World} (hb : Below W.heap.size W w1) : (∀ b o, b < W.heap.size → w1.cell? ⟨b, o, none⟩ = W.cell? ⟨b, o, none⟩) ∧ (∀ b o, b < W.heap.size → w1.frozen? ⟨b, o, none⟩ = W.frozen? ⟨b, o, none⟩) :=
  ⟨fun b o h => hb.cell (p := ⟨b, o, none⟩) h, fun b o h => hb.frozen (p := ⟨b, o, none⟩) h⟩
def KPost (f : TF) (v : Value) (n : Nat) (last : Int) (w : World) (e : Ending) (w' : World) : Prop := e = .returned (.tuple #[aggV (bareF f) (bareV f v), .bool (okF f n last)]) ∧ Below w.heap.size w w'
theorem kp {f f' : TF} {v v' : Value} {n : Nat} {last : Int} {b : Bool} {w w' : World} (h1 : aggV (bareF f) (bareV f v) = aggV f' v') (h2 : okF f n last = b) (h3 : Below w.heap.size w w') : KPost f v n last w (.returned (.tuple #[aggV f' v', .bool b])) w' :=
  ⟨by rw [h1, h2], h3⟩

def cells9 (f : TF) (v : Value) : Obj := .cells #[.int .i64 f.kind, .int .i64 f.int, .int .i64 f.gen, .string f.name, .string f.func, .int .i64 f.arity, v, .string f.bytes, .int .i64 f.bits] 24
structure Nine (w : World) (z : Nat) (f : TF) (v : Value) : Prop where
  c0 : w.cell? ⟨z, 0, none⟩ = some (.int .i64 f.kind)
  c1 : w.cell? ⟨z, 1, none⟩ = some (.int .i64 f.int)
  c2 : w.cell? ⟨z, 2, none⟩ = some (.int .i64 f.gen)
  c3 : w.cell? ⟨z, 3, none⟩ = some (.string f.name)
  c4 : w.cell? ⟨z, 4, none⟩ = some (.string f.func)
  c5 : w.cell? ⟨z, 5, none⟩ = some (.int .i64 f.arity)
  c6 : w.cell? ⟨z, 6, none⟩ = some v
  c7 : w.cell? ⟨z, 7, none⟩ = some (.string f.bytes)
  c8 : w.cell? ⟨z, 8, none⟩ = some (.int .i64 f.bits)
  fz : ∀ o, w.frozen? ⟨z, o, none⟩ = false
theorem nine_of {w : World} {z : Nat} {f : TF} {v : Value} (h : w.heap[z]? = some (cells9 f v)) : Nine w z f v := by
  unfold cells9 at h
  refine ⟨?_, ?_, ?_, ?_, ?_, ?_, ?_, ?_, ?_, fun o => by simp only [World.frozen?, h]; simp⟩ <;> (simp only [World.cell?, h]; rfl)
/-- the boxes of a parameter and of a result, behind a call -/
theorem two_box {w w1 : World} {f : TF} {v : Value} (hb : Below ((w.alloc (cells9 f v)).alloc (cells9 zeroF nilV)).heap.size ((w.alloc (cells9 f v)).alloc (cells9 zeroF nilV)) w1) : Nine w1 w.heap.size f v ∧ Nine w1 (w.heap.size + 1) zeroF nilV ∧ Below w.heap.size w w1 := by
  have h1 := (MapKept.heap_alloc w (cells9 f v)).1
  have h2 := (MapKept.heap_alloc (w.alloc (cells9 f v)) (cells9 zeroF nilV)).1
  have h3 : ((w.alloc (cells9 f v)).alloc (cells9 zeroF nilV)).heap[w.heap.size]? = some (cells9 f v) := by rw [Below.heap_alloc _ _ _ (by simp)]; exact h1
  refine ⟨nine_of ((hb.block _ (by simp; omega)).trans h3), nine_of ((hb.block _ (by simp)).trans (by simpa using h2)), ?_⟩
  exact (((Below.refl _ w).alloc (Nat.le_refl _) _).alloc (by simp) _).trans (hb.mono (by simp; omega))
theorem Nine.below {w w1 : World} {z B : Nat} {f : TF} {v : Value} (h : Nine w z f v) (hb : Below B w w1) (hz : z < B) : Nine w1 z f v := by
  obtain ⟨h0, h1, h2, h3, h4, h5, h6, h7, h8, hz'⟩ := h
  have c := fun o => hb.cell (p := ⟨z, o, none⟩) hz
  exact ⟨(c 0).trans h0, (c 1).trans h1, (c 2).trans h2, (c 3).trans h3, (c 4).trans h4, (c 5).trans h5, (c 6).trans h6, (c 7).trans h7, (c 8).trans h8, fun o => (hb.frozen (p := ⟨z, o, none⟩) hz).trans (hz' o)⟩
end Go.Proofs.Ythgfdpamnepnfaa.tm
