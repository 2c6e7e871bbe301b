
/- Areas of memory as lists of objects, in plain Lean. Conditions: as said. -/
import Derived.Test.YtpnlnbolhkcnjaaGreatWd
namespace Go.Proofs.YtpnlnbolhkcnjaaGreat.cl
open words
set_option linter.unusedVariables false
set_option linter.unusedSimpArgs false

def osz (x : Int) : Nat := if x % 4 = 0 then 1 + (hoN x).toNat else 2
def hok (x : Int) : Bool := decide (x % 4 ≠ 0) || hoOk x
def IsObj (o : List Int) : Prop := ∃ x r, o = x :: r ∧ hok x = true ∧ o.length = osz x
theorem osz_pos (x : Int) : 0 < osz x := by unfold osz; split <;> omega
theorem IsObj.pos {o : List Int} (h : IsObj o) : 0 < o.length := by
  obtain ⟨x, r, rfl, _, _⟩ := h
  simp
def Pos (a : List (List Int)) : Prop := ∀ o ∈ a, 0 < o.length
theorem Pos.tail {o : List Int} {r : List (List Int)} (h : Pos (o :: r)) : Pos r := fun x hx => h x (List.mem_cons_of_mem _ hx)
theorem Pos.head {o : List Int} {r : List (List Int)} (h : Pos (o :: r)) : 0 < o.length := h o List.mem_cons_self
/-- the object x begins at i -/
def At : List (List Int) → Nat → List Int → Prop
  | [], _, _ => False
  | o :: r, i, x => (i = 0 ∧ x = o) ∨ (o.length ≤ i ∧ At r (i - o.length) x)
theorem At.mem : ∀ {a : List (List Int)} {i : Nat} {x : List Int}, At a i x → x ∈ a := by
  intro a
  induction a with
  | nil => intro i x h; exact h.elim
  | cons o r ih =>
    intro i x h
    rcases h with ⟨_, rfl⟩ | ⟨_, h⟩
    · exact List.mem_cons_self
    · exact List.mem_cons_of_mem _ (ih h)
theorem At.bound : ∀ {a : List (List Int)} {i : Nat} {x : List Int}, At a i x → i + x.length ≤ a.flatten.length := by
  intro a
  induction a with
  | nil => intro i x h; exact h.elim
  | cons o r ih =>
    intro i x h
    rw [List.flatten_cons, List.length_append]
    rcases h with ⟨rfl, rfl⟩ | ⟨h1, h⟩
    · omega
    · have := ih h
      omega
theorem At.uniq : ∀ {a : List (List Int)}, Pos a → ∀ {i : Nat} {x y : List Int}, At a i x → At a i y → x = y := by
  intro a
  induction a with
  | nil => intro _ i x y h; exact h.elim
  | cons o r ih =>
    intro hp i x y h1 h2
    have := hp.head
    rcases h1 with ⟨e1, rfl⟩ | ⟨l1, h1⟩ <;> rcases h2 with ⟨e2, rfl⟩ | ⟨l2, h2⟩
    · rfl
    · omega
    · omega
    · exact ih hp.tail h1 h2
theorem At.get : ∀ {a : List (List Int)} {i : Nat} {x : List Int}, At a i x → ∀ k, k < x.length → a.flatten[i + k]? = x[k]? := by
  intro a
  induction a with
  | nil => intro i x h; exact h.elim
  | cons o r ih =>
    intro i x h k hk
    rw [List.flatten_cons]
    rcases h with ⟨rfl, rfl⟩ | ⟨h1, h⟩
    · rw [Nat.zero_add, List.getElem?_append_left hk]
    · rw [List.getElem?_append_right (by omega), ← ih h k hk]
      congr 1
      omega
theorem At.left {b : List (List Int)} : ∀ {a : List (List Int)} {i : Nat} {x : List Int}, At a i x → At (a ++ b) i x := by
  intro a
  induction a with
  | nil => intro i x h; exact h.elim
  | cons o r ih =>
    intro i x h
    rcases h with h | ⟨h1, h⟩
    · exact .inl h
    · exact .inr ⟨h1, ih h⟩
theorem At.app_iff {b : List (List Int)} : ∀ {a : List (List Int)} {i : Nat} {x : List Int}, At (a ++ b) i x ↔ At a i x ∨ (a.flatten.length ≤ i ∧ At b (i - a.flatten.length) x) := by
  intro a
  induction a with
  | nil => intro i x; simp [At]
  | cons o r ih =>
    intro i x
    rw [List.cons_append, List.flatten_cons, List.length_append]
    show (i = 0 ∧ x = o) ∨ (o.length ≤ i ∧ At (r ++ b) (i - o.length) x) ↔ ((i = 0 ∧ x = o) ∨ (o.length ≤ i ∧ At r (i - o.length) x)) ∨ _
    rw [ih]
    constructor
    · rintro (h | ⟨h1, h | ⟨h2, h⟩⟩)
      · exact .inl (.inl h)
      · exact .inl (.inr ⟨h1, h⟩)
      · exact .inr ⟨by omega, by rwa [Nat.sub_sub] at h⟩
    · rintro ((h | ⟨h1, h⟩) | ⟨h1, h⟩)
      · exact .inl h
      · exact .inr ⟨h1, .inl h⟩
      · exact .inr ⟨by omega, .inr ⟨by omega, by rwa [Nat.sub_sub]⟩⟩
theorem At.right {a b : List (List Int)} {i : Nat} {x : List Int} (h : At b i x) : At (a ++ b) (a.flatten.length + i) x :=
  At.app_iff.2 (.inr ⟨by omega, by rwa [Nat.add_sub_cancel_left]⟩)
theorem At.one {o : List Int} {i : Nat} {x : List Int} : At [o] i x ↔ i = 0 ∧ x = o := by simp [At]
theorem At.disj : ∀ {a : List (List Int)}, Pos a → ∀ {i j : Nat} {x y : List Int}, At a i x → At a j y → i < j → i + x.length ≤ j := by
  intro a
  induction a with
  | nil => intro _ i j x y h; exact h.elim
  | cons o r ih =>
    intro hp i j x y h1 h2 hij
    rcases h1 with ⟨e1, rfl⟩ | ⟨l1, h1⟩ <;> rcases h2 with ⟨e2, rfl⟩ | ⟨l2, h2⟩
    · omega
    · omega
    · omega
    · have := ih hp.tail h1 h2 (by omega)
      omega
/-- where objects begin -/
def marks (a : List (List Int)) : List Bool := a.flatMap (fun o => true :: List.replicate (o.length - 1) false)
theorem marks_cons (o : List Int) (r : List (List Int)) : marks (o :: r) = (true :: List.replicate (o.length - 1) false) ++ marks r := by unfold marks; rw [List.flatMap_cons]
theorem marks_append (a b : List (List Int)) : marks (a ++ b) = marks a ++ marks b := by unfold marks; rw [List.flatMap_append]
theorem marks_len : ∀ {a : List (List Int)}, Pos a → (marks a).length = a.flatten.length := by
  intro a
  induction a with
  | nil => intro _; rfl
  | cons o r ih =>
    intro hp
    have := hp.head
    rw [marks_cons, List.length_append, ih hp.tail, List.flatten_cons, List.length_append, List.length_cons, List.length_replicate]
    omega
theorem marks_iff : ∀ {a : List (List Int)}, Pos a → ∀ {i : Nat}, (marks a)[i]? = some true ↔ ∃ x, At a i x := by
  intro a
  induction a with
  | nil => intro _ i; simp [marks, At]
  | cons o r ih =>
    intro hp i
    have h0 := hp.head
    have hl : (true :: List.replicate (o.length - 1) false).length = o.length := by simp; omega
    rw [marks_cons]
    by_cases hi : i < o.length
    · rw [List.getElem?_append_left (by omega)]
      cases i with
      | zero => simp [At]
      | succ k =>
        rw [List.getElem?_cons_succ, List.getElem?_replicate, if_pos (by omega)]
        simp [At]
        intro x h
        omega
    · rw [List.getElem?_append_right (by omega), hl, ih hp.tail]
      constructor
      · rintro ⟨x, h⟩
        exact ⟨x, .inr ⟨by omega, h⟩⟩
      · rintro ⟨x, h | ⟨_, h⟩⟩
        · omega
        · exact ⟨x, h⟩
/-- a word of an object is replaced -/
def upd : List (List Int) → Nat → Nat → Int → List (List Int)
  | [], _, _, _ => []
  | o :: r, i, k, v => if i = 0 then o.set k v :: r else o :: upd r (i - o.length) k v
theorem upd_flat {k : Nat} {v : Int} : ∀ {a : List (List Int)}, Pos a → ∀ {i : Nat} {x : List Int}, At a i x → k < x.length → (upd a i k v).flatten = a.flatten.set (i + k) v := by
  intro a
  induction a with
  | nil => intro _ i x h; exact h.elim
  | cons o r ih =>
    intro hp i x h hk
    have := hp.head
    unfold upd
    rcases h with ⟨rfl, rfl⟩ | ⟨h1, h⟩
    · rw [if_pos rfl, List.flatten_cons, List.flatten_cons, Nat.zero_add, List.set_append_left _ _ hk]
    · rw [if_neg (by omega), List.flatten_cons, List.flatten_cons, ih hp.tail h hk, List.set_append_right _ _ (by omega)]
      congr 2
      omega
theorem upd_at {k : Nat} {v : Int} : ∀ {a : List (List Int)}, Pos a → ∀ {i : Nat} {x : List Int}, At a i x → ∀ {j : Nat} {y : List Int}, At (upd a i k v) j y ↔ (j = i ∧ y = x.set k v) ∨ (j ≠ i ∧ At a j y) := by
  intro a
  induction a with
  | nil => intro _ i x h; exact h.elim
  | cons o r ih =>
    intro hp i x h j y
    have := hp.head
    unfold upd
    rcases h with ⟨rfl, rfl⟩ | ⟨h1, h⟩
    · rw [if_pos rfl]
      show (j = 0 ∧ y = x.set k v) ∨ ((x.set k v).length ≤ j ∧ At r (j - (x.set k v).length) y) ↔ _ ∨ (j ≠ 0 ∧ ((j = 0 ∧ y = x) ∨ (x.length ≤ j ∧ At r (j - x.length) y)))
      rw [List.length_set]
      constructor
      · rintro (h | ⟨h1, h2⟩)
        · exact .inl h
        · exact .inr ⟨by omega, .inr ⟨h1, h2⟩⟩
      · rintro (h | ⟨h0, h | h⟩)
        · exact .inl h
        · exact absurd h.1 h0
        · exact .inr h
    · rw [if_neg (by omega)]
      show (j = 0 ∧ y = o) ∨ (o.length ≤ j ∧ At (upd r (i - o.length) k v) (j - o.length) y) ↔ _ ∨ (j ≠ i ∧ ((j = 0 ∧ y = o) ∨ (o.length ≤ j ∧ At r (j - o.length) y)))
      rw [ih hp.tail h]
      constructor
      · rintro (⟨rfl, rfl⟩ | ⟨h2, ⟨h3, h4⟩ | ⟨h3, h4⟩⟩)
        · exact .inr ⟨by omega, .inl ⟨rfl, rfl⟩⟩
        · exact .inl ⟨by omega, h4⟩
        · exact .inr ⟨by omega, .inr ⟨h2, h4⟩⟩
      · rintro (⟨rfl, h4⟩ | ⟨h2, ⟨rfl, rfl⟩ | ⟨h3, h4⟩⟩)
        · exact .inr ⟨h1, .inl ⟨rfl, h4⟩⟩
        · exact .inl ⟨rfl, rfl⟩
        · exact .inr ⟨h3, .inr ⟨by omega, h4⟩⟩
theorem upd_pos {k : Nat} {v : Int} : ∀ {a : List (List Int)} {i : Nat}, Pos a → Pos (upd a i k v) := by
  intro a
  induction a with
  | nil => intro i h; exact h
  | cons o r ih =>
    intro i h
    unfold upd
    split
    · intro x hx
      rcases List.mem_cons.1 hx with rfl | hx
      · rw [List.length_set]; exact h.head
      · exact h.tail x hx
    · intro x hx
      rcases List.mem_cons.1 hx with rfl | hx
      · exact h.head
      · exact ih h.tail x hx
theorem upd_mem {k : Nat} {v : Int} : ∀ {a : List (List Int)} {i : Nat} {y : List Int}, y ∈ upd a i k v → y ∈ a ∨ ∃ x ∈ a, y = x.set k v := by
  intro a
  induction a with
  | nil => intro i y h; exact .inl h
  | cons o r ih =>
    intro i y h
    unfold upd at h
    split at h
    · rcases List.mem_cons.1 h with rfl | h
      · exact .inr ⟨o, List.mem_cons_self, rfl⟩
      · exact .inl (List.mem_cons_of_mem _ h)
    · rcases List.mem_cons.1 h with rfl | h
      · exact .inl List.mem_cons_self
      · rcases ih h with h | ⟨x, hx, rfl⟩
        · exact .inl (List.mem_cons_of_mem _ h)
        · exact .inr ⟨x, List.mem_cons_of_mem _ hx, rfl⟩
theorem At.of_mem : ∀ {a : List (List Int)} {x : List Int}, x ∈ a → ∃ i, At a i x := by
  intro a
  induction a with
  | nil => intro x h; simp at h
  | cons o r ih =>
    intro x h
    rcases List.mem_cons.1 h with rfl | h
    · exact ⟨0, .inl ⟨rfl, rfl⟩⟩
    · obtain ⟨i, hi⟩ := ih h
      exact ⟨o.length + i, .inr ⟨by omega, by rwa [Nat.add_sub_cancel_left]⟩⟩
theorem upd_pre {k : Nat} {v : Int} : ∀ {b : List (List Int)}, Pos b → ∀ {i : Nat}, b.flatten.length ≤ i → ∀ r, ∃ r', upd (b ++ r) i k v = b ++ r' := by
  intro b
  induction b with
  | nil => intro _ i _ r; exact ⟨_, rfl⟩
  | cons o b ih =>
    intro hp i hi r
    have := hp.head
    rw [List.flatten_cons, List.length_append] at hi
    obtain ⟨r', hr⟩ := ih hp.tail (i := i - o.length) (by omega) r
    refine ⟨r', ?_⟩
    rw [List.cons_append]
    unfold upd
    rw [if_neg (by omega), hr]
    rfl
theorem upd_objs {a : List (List Int)} (ha : ∀ o ∈ a, IsObj o) {i k : Nat} {x : List Int} {v : Int} (hx : At a i x) (hp : Pos a) (hh : (x.set k v).headD 0 % 4 = 0 ↔ x.headD 0 % 4 = 0) (hk : k = 0 → ¬ x.headD 0 % 4 = 0) {y : List Int} (hy : y ∈ upd a i k v) : IsObj y := by
  obtain ⟨j, hj⟩ := At.of_mem hy
  rcases (upd_at hp hx).1 hj with ⟨rfl, rfl⟩ | ⟨_, h⟩
  · obtain ⟨c, r, rfl, hc, hl⟩ := ha x hx.mem
    cases k with
    | zero =>
      have h1 := hk rfl
      have h2 : ¬ v % 4 = 0 := fun h => h1 (hh.1 (by simpa using h))
      refine ⟨v, r, rfl, by unfold hok; simp [h2], ?_⟩
      have h3 : osz c = 2 := by unfold osz; rw [if_neg (by simpa using h1)]
      have h4 : osz v = 2 := by unfold osz; rw [if_neg h2]
      rw [List.set_cons_zero, List.length_cons, h4, ← h3, ← hl, List.length_cons]
    | succ k => exact ⟨c, r.set k v, rfl, hc, by rw [List.length_set]; exact hl⟩
  · exact ha y h.mem
/-- an area consists of objects -/
def Objs (l : List Int) (a : List (List Int)) : Prop := a.flatten = l ∧ ∀ o ∈ a, IsObj o
theorem Objs.pos {l : List Int} {a : List (List Int)} (h : Objs l a) : Pos a := fun o ho => (h.2 o ho).pos
theorem objs_prefix : ∀ {d a : List (List Int)} {t : List Int}, (∀ o ∈ d, IsObj o) → (∀ o ∈ a, IsObj o) → a.flatten = d.flatten ++ t → ∃ r, a = d ++ r ∧ r.flatten = t := by
  intro d
  induction d with
  | nil => intro a t _ _ h; exact ⟨a, rfl, by simpa using h⟩
  | cons o d ih =>
    intro a t hd ha h
    obtain ⟨x, r, rfl, hx, hl⟩ := hd o List.mem_cons_self
    cases a with
    | nil => simp at h
    | cons o' a =>
      obtain ⟨x', r', rfl, hx', hl'⟩ := ha o' List.mem_cons_self
      rw [List.flatten_cons, List.flatten_cons, List.append_assoc] at h
      obtain rfl : x' = x := by simpa using congrArg (·.head?) h
      obtain ⟨e1, e2⟩ := List.append_inj h (by rw [hl, hl'])
      obtain ⟨q, e3, e4⟩ := ih (fun y hy => hd y (List.mem_cons_of_mem _ hy)) (fun y hy => ha y (List.mem_cons_of_mem _ hy)) e2
      exact ⟨q, by rw [e1, e3]; rfl, e4⟩
theorem Objs.uniq {l : List Int} {a b : List (List Int)} (h1 : Objs l a) (h2 : Objs l b) : a = b := by
  obtain ⟨r, e1, e2⟩ := objs_prefix (d := b) (a := a) (t := []) h2.2 h1.2 (by rw [h1.1, h2.1, List.append_nil])
  cases r with
  | nil => rw [e1, List.append_nil]
  | cons o r =>
    have : IsObj o := h1.2 o (by rw [e1]; simp)
    have h3 := this.pos
    simp at e2
    rw [e2.1] at h3
    simp at h3
/-- a scan under way -/
def Scn (l : List Int) (i : Nat) (out : List Bool) : Prop := ∃ d, Objs (l.take i) d ∧ i ≤ l.length ∧ out = marks d ++ List.replicate (l.length - i) false
theorem Scn.zero (l : List Int) : Scn l 0 (List.replicate l.length false) := ⟨[], ⟨by simp, fun _ h => by simp at h⟩, Nat.zero_le _, by simp [marks]⟩
theorem Scn.len {l : List Int} {i : Nat} {out : List Bool} (h : Scn l i out) : out.length = l.length := by
  obtain ⟨d, h1, h2, rfl⟩ := h
  rw [List.length_append, marks_len h1.pos, h1.1, List.length_replicate, List.length_take]
  omega
theorem Scn.step {l : List Int} {i : Nat} {out : List Bool} {x : Int} (h : Scn l i out) (hx : l[i]? = some x) (ho : hok x = true) (hs : osz x ≤ l.length - i) : Scn l (i + osz x) (out.set i true) := by
  obtain ⟨d, h1, h2, rfl⟩ := h
  obtain ⟨hi, hxe⟩ := List.getElem?_eq_some_iff.1 hx
  have hp := osz_pos x
  have hml : (marks d).length = i := by rw [marks_len h1.pos, h1.1, List.length_take]; omega
  have htk : ((l.drop i).take (osz x)).length = osz x := by rw [List.length_take, List.length_drop]; omega
  refine ⟨d ++ [(l.drop i).take (osz x)], ⟨?_, ?_⟩, by omega, ?_⟩
  · rw [List.flatten_append, h1.1, List.flatten_cons, List.flatten_nil, List.append_nil, List.take_add]
  · intro o ho'
    rcases List.mem_append.1 ho' with h | h
    · exact h1.2 o h
    · obtain rfl : o = (l.drop i).take (osz x) := by simpa using h
      have hd : l.drop i = x :: l.drop (i + 1) := by rw [← hxe, ← List.drop_eq_getElem_cons hi]
      obtain ⟨q, hq⟩ : ∃ q, osz x = q + 1 := ⟨osz x - 1, by omega⟩
      refine ⟨x, (l.drop (i + 1)).take q, ?_, ho, htk⟩
      rw [hd, hq, List.take_succ_cons]
  · rw [marks_append, List.set_append_right _ _ (by omega), hml, Nat.sub_self, List.append_assoc]
    congr 1
    obtain ⟨q, hq⟩ : ∃ q, l.length - i = osz x + q := ⟨l.length - i - osz x, by omega⟩
    obtain ⟨z, hz⟩ : ∃ z, osz x = z + 1 := ⟨osz x - 1, by omega⟩
    have e1 : l.length - (i + osz x) = q := by omega
    unfold marks
    rw [List.flatMap_cons, List.flatMap_nil, List.append_nil, htk, e1, hq, hz, Nat.add_sub_cancel, show z + 1 + q = (z + q) + 1 by omega, List.replicate_succ, List.set_cons_zero, List.cons_append, ← List.replicate_append_replicate]
theorem Scn.fail {l : List Int} {i : Nat} {out : List Bool} {x : Int} (h : Scn l i out) (hx : l[i]? = some x) (hn : hok x = false ∨ l.length - i < osz x) : ¬ ∃ a, Objs l a := by
  rintro ⟨a, ha⟩
  obtain ⟨d, h1, h2, rfl⟩ := h
  obtain ⟨hi, hxe⟩ := List.getElem?_eq_some_iff.1 hx
  obtain ⟨r, e1, e2⟩ := objs_prefix (d := d) (a := a) (t := l.drop i) h1.2 ha.2 (by rw [ha.1, h1.1, List.take_append_drop])
  rw [List.drop_eq_getElem_cons hi, hxe] at e2
  cases r with
  | nil => simp at e2
  | cons o r =>
    obtain ⟨y, q, rfl, hy, hl⟩ := ha.2 o (by rw [e1]; simp)
    have e3 := congrArg List.length e2
    rw [List.flatten_cons, List.cons_append] at e2
    obtain ⟨rfl, _⟩ := List.cons.inj e2
    rcases hn with hn | hn
    · rw [hn] at hy; exact Bool.noConfusion hy
    · rw [List.flatten_cons, List.length_append, hl, List.length_cons, List.length_drop] at e3
      omega
theorem Scn.done {l : List Int} {i : Nat} {out : List Bool} (h : Scn l i out) (hi : ¬ i < l.length) : ∃ a, Objs l a ∧ out = marks a := by
  obtain ⟨d, h1, h2, rfl⟩ := h
  obtain rfl : i = l.length := by omega
  exact ⟨d, by rwa [List.take_length] at h1, by simp⟩
end Go.Proofs.YtpnlnbolhkcnjaaGreat.cl
