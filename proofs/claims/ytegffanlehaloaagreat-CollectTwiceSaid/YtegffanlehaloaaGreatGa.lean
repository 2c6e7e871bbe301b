/- Several texts in one, one behind the other: Wd, CoA, CoB, CoC. No condition beyond theirs. -/
import Derived.Lib.Hide

/- The words of the memory of a process, in plain Lean. -/
namespace Go.Proofs.YtegffanlehaloaaGreat.words

def smallOk (n : Int) : Bool := decide (-576460752303423488 ≤ n ∧ n < 576460752303423488)
def smallW (n : Int) : Int := if smallOk n then 16 * (n % 1152921504606846976) + 3 else 0
def idxOk (i : Int) : Bool := decide (0 ≤ i ∧ i < 2147483648)
def atomW (i : Int) : Int := if idxOk i then 16 * i + 7 else 0
def ptrW (tag : Int) (old : Bool) (i : Int) : Int := if idxOk i then 8 * i + tag + (if old then 4 else 0) else 0
def hdOk (k n : Int) : Bool := decide (1 ≤ k ∧ k ≤ 8 ∧ 0 ≤ n ∧ n ≤ 65535)
def hdW (k n : Int) : Int := if hdOk k n then 64 * n + 4 * k else 0
def soOk (w : Int) : Bool := decide (w % 16 = 3)
def soN (w : Int) : Int := if soOk w then (if w / 16 ≥ 576460752303423488 then w / 16 - 1152921504606846976 else w / 16) else 0
def aoOk (w : Int) : Bool := decide (w % 16 = 7 ∧ w / 16 < 2147483648)
def aoN (w : Int) : Int := if aoOk w then w / 16 else 0
def pOk (w : Int) : Bool := decide ((w % 4 = 1 ∨ w % 4 = 2) ∧ w / 8 < 2147483648)
def pOld (w : Int) : Bool := pOk w && decide (w / 4 % 2 = 1)
def pIx (w : Int) : Int := if pOk w then w / 8 else 0
def hoOk (w : Int) : Bool := decide (w % 4 = 0 ∧ 1 ≤ w / 4 % 16 ∧ w / 4 % 16 ≤ 8 ∧ w / 64 ≤ 65535)
def hoK (w : Int) : Int := if hoOk w then w / 4 % 16 else 0
def hoN (w : Int) : Int := if hoOk w then w / 64 else 0
def vOk (w : Int) : Bool := soOk w || aoOk w || pOk w || hoOk w || decide (w = 11)
end Go.Proofs.YtegffanlehaloaaGreat.words

/- Areas of memory as lists of objects, in plain Lean. Conditions: as said. -/
namespace Go.Proofs.YtegffanlehaloaaGreat.cl
open words
set_option linter.unusedVariables false
set_option linter.unusedSimpArgs false

def osz (x : Int) : Nat := if x % 4 = 0 then 1 + (hoN x).toNat else 2
def hok (x : Int) : Bool := decide (x % 4 ≠ 0) || hoOk x
def IsObj (o : List Int) : Prop := ∃ x r, o = x :: r ∧ hok x = true ∧ o.length = osz x
theorem osz_pos (x : Int) : 0 < osz x := by unfold osz; split <;> omega
theorem IsObj.pos {o : List Int} (h : IsObj o) : 0 < o.length := by
  obtain ⟨x, r, rfl, _, _⟩ := h
  simp
def Pos (a : List (List Int)) : Prop := ∀ o ∈ a, 0 < o.length
theorem Pos.tail {o : List Int} {r : List (List Int)} (h : Pos (o :: r)) : Pos r := fun x hx => h x (List.mem_cons_of_mem _ hx)
theorem Pos.head {o : List Int} {r : List (List Int)} (h : Pos (o :: r)) : 0 < o.length := h o List.mem_cons_self
/-- the object x begins at i -/
def At : List (List Int) → Nat → List Int → Prop
  | [], _, _ => False
  | o :: r, i, x => (i = 0 ∧ x = o) ∨ (o.length ≤ i ∧ At r (i - o.length) x)
theorem At.mem : ∀ {a : List (List Int)} {i : Nat} {x : List Int}, At a i x → x ∈ a := by
  intro a
  induction a with
  | nil => intro i x h; exact h.elim
  | cons o r ih =>
    intro i x h
    rcases h with ⟨_, rfl⟩ | ⟨_, h⟩
    · exact List.mem_cons_self
    · exact List.mem_cons_of_mem _ (ih h)
theorem At.bound : ∀ {a : List (List Int)} {i : Nat} {x : List Int}, At a i x → i + x.length ≤ a.flatten.length := by
  intro a
  induction a with
  | nil => intro i x h; exact h.elim
  | cons o r ih =>
    intro i x h
    rw [List.flatten_cons, List.length_append]
    rcases h with ⟨rfl, rfl⟩ | ⟨h1, h⟩
    · omega
    · have := ih h
      omega
theorem At.uniq : ∀ {a : List (List Int)}, Pos a → ∀ {i : Nat} {x y : List Int}, At a i x → At a i y → x = y := by
  intro a
  induction a with
  | nil => intro _ i x y h; exact h.elim
  | cons o r ih =>
    intro hp i x y h1 h2
    have := hp.head
    rcases h1 with ⟨e1, rfl⟩ | ⟨l1, h1⟩ <;> rcases h2 with ⟨e2, rfl⟩ | ⟨l2, h2⟩
    · rfl
    · omega
    · omega
    · exact ih hp.tail h1 h2
theorem At.get : ∀ {a : List (List Int)} {i : Nat} {x : List Int}, At a i x → ∀ k, k < x.length → a.flatten[i + k]? = x[k]? := by
  intro a
  induction a with
  | nil => intro i x h; exact h.elim
  | cons o r ih =>
    intro i x h k hk
    rw [List.flatten_cons]
    rcases h with ⟨rfl, rfl⟩ | ⟨h1, h⟩
    · rw [Nat.zero_add, List.getElem?_append_left hk]
    · rw [List.getElem?_append_right (by omega), ← ih h k hk]
      congr 1
      omega
theorem At.left {b : List (List Int)} : ∀ {a : List (List Int)} {i : Nat} {x : List Int}, At a i x → At (a ++ b) i x := by
  intro a
  induction a with
  | nil => intro i x h; exact h.elim
  | cons o r ih =>
    intro i x h
    rcases h with h | ⟨h1, h⟩
    · exact .inl h
    · exact .inr ⟨h1, ih h⟩
theorem At.app_iff {b : List (List Int)} : ∀ {a : List (List Int)} {i : Nat} {x : List Int}, At (a ++ b) i x ↔ At a i x ∨ (a.flatten.length ≤ i ∧ At b (i - a.flatten.length) x) := by
  intro a
  induction a with
  | nil => intro i x; simp [At]
  | cons o r ih =>
    intro i x
    rw [List.cons_append, List.flatten_cons, List.length_append]
    show (i = 0 ∧ x = o) ∨ (o.length ≤ i ∧ At (r ++ b) (i - o.length) x) ↔ ((i = 0 ∧ x = o) ∨ (o.length ≤ i ∧ At r (i - o.length) x)) ∨ _
    rw [ih]
    constructor
    · rintro (h | ⟨h1, h | ⟨h2, h⟩⟩)
      · exact .inl (.inl h)
      · exact .inl (.inr ⟨h1, h⟩)
      · exact .inr ⟨by omega, by rwa [Nat.sub_sub] at h⟩
    · rintro ((h | ⟨h1, h⟩) | ⟨h1, h⟩)
      · exact .inl h
      · exact .inr ⟨h1, .inl h⟩
      · exact .inr ⟨by omega, .inr ⟨by omega, by rwa [Nat.sub_sub]⟩⟩
theorem At.right {a b : List (List Int)} {i : Nat} {x : List Int} (h : At b i x) : At (a ++ b) (a.flatten.length + i) x :=
  At.app_iff.2 (.inr ⟨by omega, by rwa [Nat.add_sub_cancel_left]⟩)
theorem At.one {o : List Int} {i : Nat} {x : List Int} : At [o] i x ↔ i = 0 ∧ x = o := by simp [At]
theorem At.disj : ∀ {a : List (List Int)}, Pos a → ∀ {i j : Nat} {x y : List Int}, At a i x → At a j y → i < j → i + x.length ≤ j := by
  intro a
  induction a with
  | nil => intro _ i j x y h; exact h.elim
  | cons o r ih =>
    intro hp i j x y h1 h2 hij
    rcases h1 with ⟨e1, rfl⟩ | ⟨l1, h1⟩ <;> rcases h2 with ⟨e2, rfl⟩ | ⟨l2, h2⟩
    · omega
    · omega
    · omega
    · have := ih hp.tail h1 h2 (by omega)
      omega
/-- where objects begin -/
def marks (a : List (List Int)) : List Bool := a.flatMap (fun o => true :: List.replicate (o.length - 1) false)
theorem marks_cons (o : List Int) (r : List (List Int)) : marks (o :: r) = (true :: List.replicate (o.length - 1) false) ++ marks r := by unfold marks; rw [List.flatMap_cons]
theorem marks_append (a b : List (List Int)) : marks (a ++ b) = marks a ++ marks b := by unfold marks; rw [List.flatMap_append]
theorem marks_len : ∀ {a : List (List Int)}, Pos a → (marks a).length = a.flatten.length := by
  intro a
  induction a with
  | nil => intro _; rfl
  | cons o r ih =>
    intro hp
    have := hp.head
    rw [marks_cons, List.length_append, ih hp.tail, List.flatten_cons, List.length_append, List.length_cons, List.length_replicate]
    omega
theorem marks_iff : ∀ {a : List (List Int)}, Pos a → ∀ {i : Nat}, (marks a)[i]? = some true ↔ ∃ x, At a i x := by
  intro a
  induction a with
  | nil => intro _ i; simp [marks, At]
  | cons o r ih =>
    intro hp i
    have h0 := hp.head
    have hl : (true :: List.replicate (o.length - 1) false).length = o.length := by simp; omega
    rw [marks_cons]
    by_cases hi : i < o.length
    · rw [List.getElem?_append_left (by omega)]
      cases i with
      | zero => simp [At]
      | succ k =>
        rw [List.getElem?_cons_succ, List.getElem?_replicate, if_pos (by omega)]
        simp [At]
        intro x h
        omega
    · rw [List.getElem?_append_right (by omega), hl, ih hp.tail]
      constructor
      · rintro ⟨x, h⟩
        exact ⟨x, .inr ⟨by omega, h⟩⟩
      · rintro ⟨x, h | ⟨_, h⟩⟩
        · omega
        · exact ⟨x, h⟩
/-- a word of an object is replaced -/
def upd : List (List Int) → Nat → Nat → Int → List (List Int)
  | [], _, _, _ => []
  | o :: r, i, k, v => if i = 0 then o.set k v :: r else o :: upd r (i - o.length) k v
theorem upd_flat {k : Nat} {v : Int} : ∀ {a : List (List Int)}, Pos a → ∀ {i : Nat} {x : List Int}, At a i x → k < x.length → (upd a i k v).flatten = a.flatten.set (i + k) v := by
  intro a
  induction a with
  | nil => intro _ i x h; exact h.elim
  | cons o r ih =>
    intro hp i x h hk
    have := hp.head
    unfold upd
    rcases h with ⟨rfl, rfl⟩ | ⟨h1, h⟩
    · rw [if_pos rfl, List.flatten_cons, List.flatten_cons, Nat.zero_add, List.set_append_left _ _ hk]
    · rw [if_neg (by omega), List.flatten_cons, List.flatten_cons, ih hp.tail h hk, List.set_append_right _ _ (by omega)]
      congr 2
      omega
theorem upd_at {k : Nat} {v : Int} : ∀ {a : List (List Int)}, Pos a → ∀ {i : Nat} {x : List Int}, At a i x → ∀ {j : Nat} {y : List Int}, At (upd a i k v) j y ↔ (j = i ∧ y = x.set k v) ∨ (j ≠ i ∧ At a j y) := by
  intro a
  induction a with
  | nil => intro _ i x h; exact h.elim
  | cons o r ih =>
    intro hp i x h j y
    have := hp.head
    unfold upd
    rcases h with ⟨rfl, rfl⟩ | ⟨h1, h⟩
    · rw [if_pos rfl]
      show (j = 0 ∧ y = x.set k v) ∨ ((x.set k v).length ≤ j ∧ At r (j - (x.set k v).length) y) ↔ _ ∨ (j ≠ 0 ∧ ((j = 0 ∧ y = x) ∨ (x.length ≤ j ∧ At r (j - x.length) y)))
      rw [List.length_set]
      constructor
      · rintro (h | ⟨h1, h2⟩)
        · exact .inl h
        · exact .inr ⟨by omega, .inr ⟨h1, h2⟩⟩
      · rintro (h | ⟨h0, h | h⟩)
        · exact .inl h
        · exact absurd h.1 h0
        · exact .inr h
    · rw [if_neg (by omega)]
      show (j = 0 ∧ y = o) ∨ (o.length ≤ j ∧ At (upd r (i - o.length) k v) (j - o.length) y) ↔ _ ∨ (j ≠ i ∧ ((j = 0 ∧ y = o) ∨ (o.length ≤ j ∧ At r (j - o.length) y)))
      rw [ih hp.tail h]
      constructor
      · rintro (⟨rfl, rfl⟩ | ⟨h2, ⟨h3, h4⟩ | ⟨h3, h4⟩⟩)
        · exact .inr ⟨by omega, .inl ⟨rfl, rfl⟩⟩
        · exact .inl ⟨by omega, h4⟩
        · exact .inr ⟨by omega, .inr ⟨h2, h4⟩⟩
      · rintro (⟨rfl, h4⟩ | ⟨h2, ⟨rfl, rfl⟩ | ⟨h3, h4⟩⟩)
        · exact .inr ⟨h1, .inl ⟨rfl, h4⟩⟩
        · exact .inl ⟨rfl, rfl⟩
        · exact .inr ⟨h3, .inr ⟨by omega, h4⟩⟩
theorem upd_pos {k : Nat} {v : Int} : ∀ {a : List (List Int)} {i : Nat}, Pos a → Pos (upd a i k v) := by
  intro a
  induction a with
  | nil => intro i h; exact h
  | cons o r ih =>
    intro i h
    unfold upd
    split
    · intro x hx
      rcases List.mem_cons.1 hx with rfl | hx
      · rw [List.length_set]; exact h.head
      · exact h.tail x hx
    · intro x hx
      rcases List.mem_cons.1 hx with rfl | hx
      · exact h.head
      · exact ih h.tail x hx
theorem upd_mem {k : Nat} {v : Int} : ∀ {a : List (List Int)} {i : Nat} {y : List Int}, y ∈ upd a i k v → y ∈ a ∨ ∃ x ∈ a, y = x.set k v := by
  intro a
  induction a with
  | nil => intro i y h; exact .inl h
  | cons o r ih =>
    intro i y h
    unfold upd at h
    split at h
    · rcases List.mem_cons.1 h with rfl | h
      · exact .inr ⟨o, List.mem_cons_self, rfl⟩
      · exact .inl (List.mem_cons_of_mem _ h)
    · rcases List.mem_cons.1 h with rfl | h
      · exact .inl List.mem_cons_self
      · rcases ih h with h | ⟨x, hx, rfl⟩
        · exact .inl (List.mem_cons_of_mem _ h)
        · exact .inr ⟨x, List.mem_cons_of_mem _ hx, rfl⟩
theorem At.of_mem : ∀ {a : List (List Int)} {x : List Int}, x ∈ a → ∃ i, At a i x := by
  intro a
  induction a with
  | nil => intro x h; simp at h
  | cons o r ih =>
    intro x h
    rcases List.mem_cons.1 h with rfl | h
    · exact ⟨0, .inl ⟨rfl, rfl⟩⟩
    · obtain ⟨i, hi⟩ := ih h
      exact ⟨o.length + i, .inr ⟨by omega, by rwa [Nat.add_sub_cancel_left]⟩⟩
theorem upd_pre {k : Nat} {v : Int} : ∀ {b : List (List Int)}, Pos b → ∀ {i : Nat}, b.flatten.length ≤ i → ∀ r, ∃ r', upd (b ++ r) i k v = b ++ r' := by
  intro b
  induction b with
  | nil => intro _ i _ r; exact ⟨_, rfl⟩
  | cons o b ih =>
    intro hp i hi r
    have := hp.head
    rw [List.flatten_cons, List.length_append] at hi
    obtain ⟨r', hr⟩ := ih hp.tail (i := i - o.length) (by omega) r
    refine ⟨r', ?_⟩
    rw [List.cons_append]
    unfold upd
    rw [if_neg (by omega), hr]
    rfl
theorem upd_objs {a : List (List Int)} (ha : ∀ o ∈ a, IsObj o) {i k : Nat} {x : List Int} {v : Int} (hx : At a i x) (hp : Pos a) (hh : (x.set k v).headD 0 % 4 = 0 ↔ x.headD 0 % 4 = 0) (hk : k = 0 → ¬ x.headD 0 % 4 = 0) {y : List Int} (hy : y ∈ upd a i k v) : IsObj y := by
  obtain ⟨j, hj⟩ := At.of_mem hy
  rcases (upd_at hp hx).1 hj with ⟨rfl, rfl⟩ | ⟨_, h⟩
  · obtain ⟨c, r, rfl, hc, hl⟩ := ha x hx.mem
    cases k with
    | zero =>
      have h1 := hk rfl
      have h2 : ¬ v % 4 = 0 := fun h => h1 (hh.1 (by simpa using h))
      refine ⟨v, r, rfl, by unfold hok; simp [h2], ?_⟩
      have h3 : osz c = 2 := by unfold osz; rw [if_neg (by simpa using h1)]
      have h4 : osz v = 2 := by unfold osz; rw [if_neg h2]
      rw [List.set_cons_zero, List.length_cons, h4, ← h3, ← hl, List.length_cons]
    | succ k => exact ⟨c, r.set k v, rfl, hc, by rw [List.length_set]; exact hl⟩
  · exact ha y h.mem
/-- an area consists of objects -/
def Objs (l : List Int) (a : List (List Int)) : Prop := a.flatten = l ∧ ∀ o ∈ a, IsObj o
theorem Objs.pos {l : List Int} {a : List (List Int)} (h : Objs l a) : Pos a := fun o ho => (h.2 o ho).pos
theorem objs_prefix : ∀ {d a : List (List Int)} {t : List Int}, (∀ o ∈ d, IsObj o) → (∀ o ∈ a, IsObj o) → a.flatten = d.flatten ++ t → ∃ r, a = d ++ r ∧ r.flatten = t := by
  intro d
  induction d with
  | nil => intro a t _ _ h; exact ⟨a, rfl, by simpa using h⟩
  | cons o d ih =>
    intro a t hd ha h
    obtain ⟨x, r, rfl, hx, hl⟩ := hd o List.mem_cons_self
    cases a with
    | nil => simp at h
    | cons o' a =>
      obtain ⟨x', r', rfl, hx', hl'⟩ := ha o' List.mem_cons_self
      rw [List.flatten_cons, List.flatten_cons, List.append_assoc] at h
      obtain rfl : x' = x := by simpa using congrArg (·.head?) h
      obtain ⟨e1, e2⟩ := List.append_inj h (by rw [hl, hl'])
      obtain ⟨q, e3, e4⟩ := ih (fun y hy => hd y (List.mem_cons_of_mem _ hy)) (fun y hy => ha y (List.mem_cons_of_mem _ hy)) e2
      exact ⟨q, by rw [e1, e3]; rfl, e4⟩
theorem Objs.uniq {l : List Int} {a b : List (List Int)} (h1 : Objs l a) (h2 : Objs l b) : a = b := by
  obtain ⟨r, e1, e2⟩ := objs_prefix (d := b) (a := a) (t := []) h2.2 h1.2 (by rw [h1.1, h2.1, List.append_nil])
  cases r with
  | nil => rw [e1, List.append_nil]
  | cons o r =>
    have : IsObj o := h1.2 o (by rw [e1]; simp)
    have h3 := this.pos
    simp at e2
    rw [e2.1] at h3
    simp at h3
/-- a scan under way -/
def Scn (l : List Int) (i : Nat) (out : List Bool) : Prop := ∃ d, Objs (l.take i) d ∧ i ≤ l.length ∧ out = marks d ++ List.replicate (l.length - i) false
theorem Scn.zero (l : List Int) : Scn l 0 (List.replicate l.length false) := ⟨[], ⟨by simp, fun _ h => by simp at h⟩, Nat.zero_le _, by simp [marks]⟩
theorem Scn.len {l : List Int} {i : Nat} {out : List Bool} (h : Scn l i out) : out.length = l.length := by
  obtain ⟨d, h1, h2, rfl⟩ := h
  rw [List.length_append, marks_len h1.pos, h1.1, List.length_replicate, List.length_take]
  omega
theorem Scn.step {l : List Int} {i : Nat} {out : List Bool} {x : Int} (h : Scn l i out) (hx : l[i]? = some x) (ho : hok x = true) (hs : osz x ≤ l.length - i) : Scn l (i + osz x) (out.set i true) := by
  obtain ⟨d, h1, h2, rfl⟩ := h
  obtain ⟨hi, hxe⟩ := List.getElem?_eq_some_iff.1 hx
  have hp := osz_pos x
  have hml : (marks d).length = i := by rw [marks_len h1.pos, h1.1, List.length_take]; omega
  have htk : ((l.drop i).take (osz x)).length = osz x := by rw [List.length_take, List.length_drop]; omega
  refine ⟨d ++ [(l.drop i).take (osz x)], ⟨?_, ?_⟩, by omega, ?_⟩
  · rw [List.flatten_append, h1.1, List.flatten_cons, List.flatten_nil, List.append_nil, List.take_add]
  · intro o ho'
    rcases List.mem_append.1 ho' with h | h
    · exact h1.2 o h
    · obtain rfl : o = (l.drop i).take (osz x) := by simpa using h
      have hd : l.drop i = x :: l.drop (i + 1) := by rw [← hxe, ← List.drop_eq_getElem_cons hi]
      obtain ⟨q, hq⟩ : ∃ q, osz x = q + 1 := ⟨osz x - 1, by omega⟩
      refine ⟨x, (l.drop (i + 1)).take q, ?_, ho, htk⟩
      rw [hd, hq, List.take_succ_cons]
  · rw [marks_append, List.set_append_right _ _ (by omega), hml, Nat.sub_self, List.append_assoc]
    congr 1
    obtain ⟨q, hq⟩ : ∃ q, l.length - i = osz x + q := ⟨l.length - i - osz x, by omega⟩
    obtain ⟨z, hz⟩ : ∃ z, osz x = z + 1 := ⟨osz x - 1, by omega⟩
    have e1 : l.length - (i + osz x) = q := by omega
    unfold marks
    rw [List.flatMap_cons, List.flatMap_nil, List.append_nil, htk, e1, hq, hz, Nat.add_sub_cancel, show z + 1 + q = (z + q) + 1 by omega, List.replicate_succ, List.set_cons_zero, List.cons_append, ← List.replicate_append_replicate]
theorem Scn.fail {l : List Int} {i : Nat} {out : List Bool} {x : Int} (h : Scn l i out) (hx : l[i]? = some x) (hn : hok x = false ∨ l.length - i < osz x) : ¬ ∃ a, Objs l a := by
  rintro ⟨a, ha⟩
  obtain ⟨d, h1, h2, rfl⟩ := h
  obtain ⟨hi, hxe⟩ := List.getElem?_eq_some_iff.1 hx
  obtain ⟨r, e1, e2⟩ := objs_prefix (d := d) (a := a) (t := l.drop i) h1.2 ha.2 (by rw [ha.1, h1.1, List.take_append_drop])
  rw [List.drop_eq_getElem_cons hi, hxe] at e2
  cases r with
  | nil => simp at e2
  | cons o r =>
    obtain ⟨y, q, rfl, hy, hl⟩ := ha.2 o (by rw [e1]; simp)
    have e3 := congrArg List.length e2
    rw [List.flatten_cons, List.cons_append] at e2
    obtain ⟨rfl, _⟩ := List.cons.inj e2
    rcases hn with hn | hn
    · rw [hn] at hy; exact Bool.noConfusion hy
    · rw [List.flatten_cons, List.length_append, hl, List.length_cons, List.length_drop] at e3
      omega
theorem Scn.done {l : List Int} {i : Nat} {out : List Bool} (h : Scn l i out) (hi : ¬ i < l.length) : ∃ a, Objs l a ∧ out = marks a := by
  obtain ⟨d, h1, h2, rfl⟩ := h
  obtain rfl : i = l.length := by omega
  exact ⟨d, by rwa [List.take_length] at h1, by simp⟩
end Go.Proofs.YtegffanlehaloaaGreat.cl

/- Memory as a graph of objects: pointers, what is followed, the order in which objects are met, in plain Lean. Conditions: as said. -/
namespace Go.Proofs.YtegffanlehaloaaGreat.cl
open words
set_option linter.unusedVariables false
set_option linter.unusedSimpArgs false

structure Mm where
  y : List Int
  o : List Int
  at_ : Int
structure Bk where
  y : List (List Int)
  o : List (List Int)
def Mm.s (m : Mm) (b : Bool) : List Int := if b then m.o else m.y
def Bk.s (B : Bk) (b : Bool) : List (List Int) := if b then B.o else B.y
def Bk.pos (B : Bk) : Prop := Pos B.y ∧ Pos B.o
theorem Bk.pos.s {B : Bk} (h : B.pos) (b : Bool) : Pos (B.s b) := by cases b; exact h.1; exact h.2
/-- the word w points to the object x -/
def Pt (B : Bk) (w : Int) (x : List Int) : Prop := pOk w = true ∧ At (B.s (pOld w)) (pIx w).toNat x ∧ (x.headD 0 % 4 = 0 ↔ w % 4 = 2)
def Tm (B : Bk) (w : Int) : Prop := soOk w = true ∨ aoOk w = true ∨ w = 11 ∨ ∃ x, Pt B w x
/-- how many words of an object, its header among them, are not followed -/
def frm (x : List Int) : Nat := if x.headD 0 % 4 ≠ 0 then 0 else if hoK (x.headD 0) = 1 then 1 else if hoK (x.headD 0) = 2 then 5 else x.length
def fol (x : List Int) : List Int := x.drop (frm x)
theorem Pt.uniq {B : Bk} (hB : B.pos) {w : Int} {x y : List Int} (h1 : Pt B w x) (h2 : Pt B w y) : x = y := At.uniq (hB.s _) h1.2.1 h2.2.1
/-- the object that begins at i -/
def atF : List (List Int) → Nat → List Int
  | [], _ => []
  | o :: r, i => if i = 0 then o else if i < o.length then [] else atF r (i - o.length)
theorem At.f : ∀ {a : List (List Int)}, Pos a → ∀ {i : Nat} {x : List Int}, At a i x → atF a i = x := by
  intro a
  induction a with
  | nil => intro _ i x h; exact h.elim
  | cons o r ih =>
    intro hp i x h
    have := hp.head
    unfold atF
    rcases h with ⟨rfl, rfl⟩ | ⟨h1, h⟩
    · rw [if_pos rfl]
    · rw [if_neg (by omega), if_neg (by omega), ih hp.tail h]
/-- the object of a pointer -/
def ob (B : Bk) (w : Int) : List Int := atF (B.s (pOld w)) (pIx w).toNat
theorem Pt.ob {B : Bk} (hB : B.pos) {w : Int} {x : List Int} (h : Pt B w x) : cl.ob B w = x := At.f (hB.s _) h.2.1
/-- pointers to the same place are equal -/
theorem pOk_iff (w : Int) : pOk w = true ↔ (w % 4 = 1 ∨ w % 4 = 2) ∧ w / 8 < 2147483648 := by simp [pOk]
theorem pIx_eq {w : Int} (h : pOk w = true) : pIx w = w / 8 := by unfold pIx; rw [if_pos h]
theorem pOld_iff {w : Int} (h : pOk w = true) : pOld w = true ↔ w / 4 % 2 = 1 := by unfold pOld; rw [h, Bool.true_and, decide_eq_true_eq]
theorem ptr_eq {v w : Int} (hv : pOk v = true) (hw : pOk w = true) (v0 : 0 ≤ v) (w0 : 0 ≤ w) (ho : pOld v = pOld w) (hi : (pIx v).toNat = (pIx w).toNat) (ht : v % 4 = 2 ↔ w % 4 = 2) : v = w := by
  have h1 := (pOk_iff v).1 hv
  have h2 := (pOk_iff w).1 hw
  rw [pIx_eq hv, pIx_eq hw] at hi
  have h3 := pOld_iff hv
  have h4 := pOld_iff hw
  rw [ho, h4] at h3
  omega
theorem Pt.inj {B : Bk} (hB : B.pos) {v w : Int} {x y : List Int} (h1 : Pt B v x) (h2 : Pt B w y) (v0 : 0 ≤ v) (w0 : 0 ≤ w) (ho : pOld v = pOld w) (hi : (pIx v).toNat = (pIx w).toNat) : v = w := by
  obtain ⟨a1, b1, c1⟩ := h1
  obtain ⟨a2, b2, c2⟩ := h2
  rw [ho, hi] at b1
  obtain rfl := At.uniq (hB.s _) b1 b2
  exact ptr_eq a1 a2 v0 w0 ho hi (by rw [← c1, ← c2])
/-- the words of an object other than the terms in it are as they must be: this depends on no followed word -/
def wi (w lo hi : Int) : Bool := soOk w && decide (lo ≤ soN w ∧ soN w ≤ hi)
def usedOk (w n : Int) : Bool := decide (n % 64 = 0) || decide (w * 2 ^ (n % 64).toNat % 18446744073709551616 = 0)
def fmd (k : Int) (l : List Int) : Bool :=
  if k = 0 then true
  else if k = 1 then decide (l.length ≤ 255)
  else if k = 2 then decide (4 ≤ l.length ∧ l.length ≤ 204) && (aoOk (l.getD 0 0) && (wi (l.getD 1 0) 1 2147483647 && (wi (l.getD 2 0) 0 999 && wi (l.getD 3 0) 0 16)))
  else if k = 6 then decide (l.length = 1) && !smallOk (IntKind.i64.wrap (l.getD 0 0))
  else if k = 7 then !decide (l.length = 0) && (wi (l.getD 0 0) 0 512 && (decide ((l.length : Int) - 1 = (soN (l.getD 0 0) + 63) / 64) && usedOk (l.getD (l.length - 1) 0) (soN (l.getD 0 0))))
  else decide (l.length = 3) &&
    (if k = 3 then aoOk (l.getD 0 0) && (aoOk (l.getD 1 0) && wi (l.getD 2 0) 0 16)
     else if k = 4 ∨ k = 5 then aoOk (l.getD 0 0) && (wi (l.getD 1 0) 1 2147483647 && wi (l.getD 2 0) 1 2147483647)
     else wi (l.getD 0 0) 1 2147483647 && (wi (l.getD 1 0) 0 16384 && wi (l.getD 2 0) 513 16384))
def knd (x : List Int) : Int := if x.headD 0 % 4 = 0 then hoK (x.headD 0) else 0
def wds (x : List Int) : List Int := if x.headD 0 % 4 = 0 then x.tail else x
def okO (x : List Int) : Bool := fmd (knd x) (wds x)
/-- a memory has shape -/
structure Sh (m : Mm) (B : Bk) : Prop where
  y : Objs m.y B.y
  o : Objs m.o B.o
  ly : m.y.length ≤ 2147483647
  lo : m.o.length ≤ 2147483647
  m0 : 0 ≤ m.at_
  m1 : m.at_ ≤ m.y.length
  m2 : m.at_ < m.y.length → ∃ x, At B.y m.at_.toNat x
  ok : ∀ b i x, At (B.s b) i x → okO x = true ∧ ∀ v ∈ fol x, Tm B v ∧ (pOk v = true → pOld v = false → b = false ∧ ((i : Int) < m.at_ → pIx v < m.at_))
theorem Sh.pos {m : Mm} {B : Bk} (h : Sh m B) : B.pos := ⟨h.y.pos, h.o.pos⟩
theorem Sh.book {m : Mm} {B B' : Bk} (h : Sh m B) (h' : Sh m B') : B = B' := by
  obtain ⟨a, b⟩ := B
  obtain ⟨a', b'⟩ := B'
  have e1 : a = a' := Objs.uniq h.y h'.y
  have e2 : b = b' := Objs.uniq h.o h'.o
  rw [e1, e2]
/-- one word met -/
def metW (l : List Int) (w : Int) : List Int := if pOk w = true ∧ w ∉ l then l ++ [w] else l
def bfs (f : Int → List Int) : Nat → Nat → List Int → List Int
  | 0, _, l => l
  | n + 1, i, l => match l[i]? with
    | none => l
    | some w => bfs f n (i + 1) ((f w).foldl metW l)
def folB (B : Bk) (w : Int) : List Int := fol (ob B w)
def met (B : Bk) (roots : List Int) : List Int := bfs (folB B) 5001 0 (roots.foldl metW [])
theorem metW_mem {l : List Int} {w v : Int} : v ∈ metW l w ↔ v ∈ l ∨ (v = w ∧ pOk w = true) := by
  unfold metW
  split
  · rename_i h
    rw [List.mem_append, List.mem_singleton]
    constructor
    · rintro (h' | rfl)
      · exact .inl h'
      · exact .inr ⟨rfl, h.1⟩
    · rintro (h' | ⟨rfl, _⟩)
      · exact .inl h'
      · exact .inr rfl
  · rename_i h
    constructor
    · exact .inl
    · rintro (h' | ⟨rfl, hp⟩)
      · exact h'
      · by_cases hm : v ∈ l
        · exact hm
        · exact absurd ⟨hp, hm⟩ h
theorem fold_mem {ws : List Int} : ∀ {l : List Int} {v : Int}, v ∈ ws.foldl metW l ↔ v ∈ l ∨ (v ∈ ws ∧ pOk v = true) := by
  induction ws with
  | nil => intro l v; simp
  | cons w r ih =>
    intro l v
    rw [List.foldl_cons, ih, metW_mem, List.mem_cons]
    constructor
    · rintro ((h | ⟨rfl, h⟩) | h)
      · exact .inl h
      · exact .inr ⟨.inl rfl, h⟩
      · exact .inr ⟨.inr h.1, h.2⟩
    · rintro (h | ⟨rfl | h, h'⟩)
      · exact .inl (.inl h)
      · exact .inl (.inr ⟨rfl, h'⟩)
      · exact .inr ⟨h, h'⟩
theorem metW_nodup {l : List Int} {w : Int} (h : l.Nodup) : (metW l w).Nodup := by
  unfold metW
  split
  · rename_i hc
    rw [List.nodup_append]
    exact ⟨h, by simp, fun a ha b hb e => by simp at hb; subst hb; subst e; exact hc.2 ha⟩
  · exact h
theorem fold_nodup {ws : List Int} : ∀ {l : List Int}, l.Nodup → (ws.foldl metW l).Nodup := by
  induction ws with
  | nil => intro l h; exact h
  | cons w r ih => intro l h; exact ih (metW_nodup h)
theorem metW_pre (l : List Int) (w : Int) : ∃ t, metW l w = l ++ t := by
  unfold metW
  split
  · exact ⟨_, rfl⟩
  · exact ⟨[], by simp⟩
theorem fold_pre {ws : List Int} : ∀ (l : List Int), ∃ t, ws.foldl metW l = l ++ t := by
  induction ws with
  | nil => intro l; exact ⟨[], by simp⟩
  | cons w r ih =>
    intro l
    obtain ⟨t, ht⟩ := metW_pre l w
    obtain ⟨s, hs⟩ := ih (metW l w)
    exact ⟨t ++ s, by rw [List.foldl_cons, hs, ht, List.append_assoc]⟩
theorem bfs_pre {f : Int → List Int} : ∀ (n i : Nat) (l : List Int), ∃ t, bfs f n i l = l ++ t := by
  intro n
  induction n with
  | zero => intro i l; exact ⟨[], by simp [bfs]⟩
  | succ n ih =>
    intro i l
    unfold bfs
    split
    · exact ⟨[], by simp⟩
    · rename_i w _
      obtain ⟨t, ht⟩ := fold_pre (ws := f w) l
      obtain ⟨s, hs⟩ := ih (i + 1) ((f w).foldl metW l)
      exact ⟨t ++ s, by rw [hs, ht, List.append_assoc]⟩
theorem bfs_nodup {f : Int → List Int} : ∀ (n i : Nat) (l : List Int), l.Nodup → (bfs f n i l).Nodup := by
  intro n
  induction n with
  | zero => intro i l h; exact h
  | succ n ih =>
    intro i l h
    unfold bfs
    split
    · exact h
    · exact ih _ _ (fold_nodup h)
/-- all that is met lies in what is closed -/
theorem bfs_in {f : Int → List Int} {P : Int → Prop} (hP : ∀ w, P w → ∀ v ∈ f w, pOk v = true → P v) : ∀ (n i : Nat) (l : List Int), (∀ w ∈ l, P w) → ∀ w ∈ bfs f n i l, P w := by
  intro n
  induction n with
  | zero => intro i l h; exact h
  | succ n ih =>
    intro i l h
    unfold bfs
    split
    · exact h
    · rename_i w hw
      refine ih _ _ (fun v hv => ?_)
      rcases fold_mem.1 hv with h' | ⟨h1, h2⟩
      · exact h v h'
      · exact hP w (h w (List.mem_of_getElem? hw)) v h1 h2
/-- and it is closed, where the fuel suffices -/
theorem bfs_closed {f : Int → List Int} {P : Int → Prop} {N : Nat} (hP : ∀ w, P w → ∀ v ∈ f w, pOk v = true → P v) (hN : ∀ l : List Int, l.Nodup → (∀ w ∈ l, P w) → l.length < N) : ∀ (n i : Nat) (l : List Int), N ≤ n + i → l.Nodup → (∀ w ∈ l, P w) → (∀ j w, j < i → l[j]? = some w → ∀ v ∈ f w, pOk v = true → v ∈ l) → ∀ w ∈ bfs f n i l, ∀ v ∈ f w, pOk v = true → v ∈ bfs f n i l := by
  intro n
  induction n with
  | zero =>
    intro i l hn hd h hc w hw v hv hp
    have hl := hN l hd h
    have hw : w ∈ l := hw
    obtain ⟨j, hj⟩ := List.getElem?_of_mem hw
    have := (List.getElem?_eq_some_iff.1 hj).1
    exact hc j w (by omega) hj v hv hp
  | succ n ih =>
    intro i l hn hd h hc
    unfold bfs
    split
    · rename_i hi
      have hi := List.getElem?_eq_none_iff.1 hi
      intro w hw v hv hp
      obtain ⟨j, hj⟩ := List.getElem?_of_mem hw
      have := (List.getElem?_eq_some_iff.1 hj).1
      exact hc j w (by omega) hj v hv hp
    · rename_i u hu
      obtain ⟨t, ht⟩ := fold_pre (ws := f u) l
      refine ih (i + 1) _ (by omega) (fold_nodup hd) (fun v hv => ?_) (fun j w hj hw v hv hp => ?_)
      · rcases fold_mem.1 hv with h' | ⟨h1, h2⟩
        · exact h v h'
        · exact hP u (h u (List.mem_of_getElem? hu)) v h1 h2
      · have hi := (List.getElem?_eq_some_iff.1 hu).1
        rw [ht, List.getElem?_append_left (by omega)] at hw
        by_cases hji : j < i
        · exact fold_mem.2 (.inl (hc j w hji hw v hv hp))
        · obtain rfl : j = i := by omega
          rw [hu] at hw
          obtain rfl := Option.some.inj hw
          exact fold_mem.2 (.inr ⟨hv, hp⟩)
/-- the same graph by other names -/
theorem metW_map {g : Int → Int} {P : Int → Prop} {l : List Int} {w : Int} (hl : ∀ v ∈ l, P v) (hw : pOk w = true → P w) (hp : pOk (g w) = pOk w) (hi : ∀ u v, P u → P v → g u = g v → u = v) : metW (l.map g) (g w) = (metW l w).map g := by
  unfold metW
  rw [hp]
  by_cases h1 : pOk w = true
  · by_cases h2 : w ∈ l
    · rw [if_neg (fun h => h.2 (List.mem_map_of_mem h2)), if_neg (fun h => h.2 h2)]
    · have hm : g w ∉ l.map g := by
        intro h
        obtain ⟨v, hv, e⟩ := List.mem_map.1 h
        obtain rfl := hi v w (hl v hv) (hw h1) e
        exact h2 hv
      rw [if_pos ⟨h1, hm⟩, if_pos ⟨h1, h2⟩, List.map_append, List.map_cons, List.map_nil]
  · rw [if_neg (fun h => h1 h.1), if_neg (fun h => h1 h.1)]
theorem fold_map {g : Int → Int} {P : Int → Prop} (hi : ∀ u v, P u → P v → g u = g v → u = v) : ∀ {ws l : List Int}, (∀ v ∈ l, P v) → (∀ v ∈ ws, pOk v = true → P v) → (∀ v ∈ ws, pOk (g v) = pOk v) → (ws.map g).foldl metW (l.map g) = (ws.foldl metW l).map g := by
  intro ws
  induction ws with
  | nil => intro l _ _ _; rfl
  | cons w r ih =>
    intro l hl hw hp
    rw [List.map_cons, List.foldl_cons, List.foldl_cons, metW_map hl (hw w List.mem_cons_self) (hp w List.mem_cons_self) hi]
    refine ih (fun v hv => ?_) (fun v hv => hw v (List.mem_cons_of_mem _ hv)) (fun v hv => hp v (List.mem_cons_of_mem _ hv))
    rcases metW_mem.1 hv with h | ⟨rfl, h⟩
    · exact hl v h
    · exact hw v List.mem_cons_self h
theorem bfs_map {f1 f2 : Int → List Int} {g : Int → Int} {P : Int → Prop} (hi : ∀ u v, P u → P v → g u = g v → u = v) (hc : ∀ w, P w → ∀ v ∈ f1 w, pOk v = true → P v) (hg : ∀ w, P w → ∀ v ∈ f1 w, pOk (g v) = pOk v) (hf : ∀ w, P w → f2 (g w) = (f1 w).map g) : ∀ (n i : Nat) (l : List Int), (∀ w ∈ l, P w) → bfs f2 n i (l.map g) = (bfs f1 n i l).map g := by
  intro n
  induction n with
  | zero => intro i l h; rfl
  | succ n ih =>
    intro i l h
    unfold bfs
    rw [List.getElem?_map]
    cases hu : l[i]? with
    | none => rfl
    | some u =>
      have hPu := h u (List.mem_of_getElem? hu)
      show bfs f2 n (i + 1) ((f2 (g u)).foldl metW (l.map g)) = _
      rw [hf u hPu, fold_map hi h (hc u hPu) (hg u hPu)]
      refine ih (i + 1) _ (fun v hv => ?_)
      rcases fold_mem.1 hv with h' | ⟨h1, h2⟩
      · exact h v h'
      · exact hc u hPu v h1 h2
/-- a list of pointers to objects, each once, is no longer than the areas are -/
theorem nodup_le : ∀ (n : Nat) {l : List Nat}, l.Nodup → (∀ x ∈ l, x < n) → l.length ≤ n := by
  intro n
  induction n with
  | zero =>
    intro l _ h
    cases l with
    | nil => exact Nat.le_refl _
    | cons a r => have := h a List.mem_cons_self; omega
  | succ n ih =>
    intro l hd h
    have h1 := ih (l := l.erase n) (hd.erase n) (fun x hx => by
      have := h x (List.mem_of_mem_erase hx)
      have h2 := (List.Nodup.mem_erase_iff hd).1 hx
      omega)
    rw [List.length_erase] at h1
    split at h1 <;> omega
theorem pts_len {B : Bk} (hB : B.pos) {l : List Int} (hd : l.Nodup) (h0 : ∀ w ∈ l, 0 ≤ w) (hp : ∀ w ∈ l, ∃ x, Pt B w x) : l.length ≤ B.y.flatten.length + B.o.flatten.length := by
  have hc : (l.map (fun w => (if pOld w then B.y.flatten.length else 0) + (pIx w).toNat)).length ≤ B.y.flatten.length + B.o.flatten.length := by
    refine nodup_le _ ?_ ?_
    · refine List.Pairwise.map _ (R := fun a b => ¬ (a = b) ∧ a ∈ l ∧ b ∈ l) ?_ ?_
      · rintro a b ⟨hne, ha, hb⟩ e
        obtain ⟨x, hx⟩ := hp a ha
        obtain ⟨y, hy⟩ := hp b hb
        have b1 := hx.2.1.bound
        have b2 := hy.2.1.bound
        have p1 := (hB.s _) x hx.2.1.mem
        have p2 := (hB.s _) y hy.2.1.mem
        refine hne (Pt.inj hB hx hy (h0 a ha) (h0 b hb) ?_ ?_)
        · cases h1 : pOld a <;> cases h2 : pOld b <;> simp [h1, h2, Bk.s] at e b1 b2 ⊢ <;> omega
        · cases h1 : pOld a <;> cases h2 : pOld b <;> simp [h1, h2, Bk.s] at e b1 b2 ⊢ <;> omega
      · exact List.Pairwise.imp_of_mem (fun ha hb hne => ⟨hne, ha, hb⟩) hd
    · intro z hz
      obtain ⟨w, hw, rfl⟩ := List.mem_map.1 hz
      obtain ⟨x, hx⟩ := hp w hw
      have b1 := hx.2.1.bound
      have p1 := (hB.s _) x hx.2.1.mem
      cases h1 : pOld w <;> simp [h1, Bk.s] at b1 ⊢ <;> omega
  rwa [List.length_map] at hc
end Go.Proofs.YtegffanlehaloaaGreat.cl

/- Copying collection: what holds at each step, in plain Lean. Conditions: as said. -/
namespace Go.Proofs.YtegffanlehaloaaGreat.cl
open words
set_option linter.unusedVariables false
set_option linter.unusedSimpArgs false

/-- what a copying moves -/
def mov (full : Bool) (w : Int) : Bool := pOk w && (full || !pOld w)
def age (full : Bool) (mk : Int) (d : Int) : Bool := full || pOld d || decide (pIx d < mk)
/-- where a pointer has gone -/
def lk : List Int → List Int → Int → Int
  | d :: D, p :: I, w => if d = w then p else lk D I w
  | _, _, w => w
theorem lk_not : ∀ {D I : List Int} {w : Int}, w ∉ D → lk D I w = w := by
  intro D
  induction D with
  | nil => intro I w _; unfold lk; rfl
  | cons d D ih =>
    intro I w h
    cases I with
    | nil => unfold lk; rfl
    | cons p I =>
      unfold lk
      rw [if_neg (fun e => h (by rw [e]; exact List.mem_cons_self)), ih (fun h' => h (List.mem_cons_of_mem _ h'))]
theorem lk_get : ∀ {D I : List Int} {j : Nat} {d p : Int}, D.Nodup → D[j]? = some d → I[j]? = some p → lk D I d = p := by
  intro D
  induction D with
  | nil => intro I j d p _ h; simp at h
  | cons d0 D ih =>
    intro I j d p hd h1 h2
    cases I with
    | nil => simp at h2
    | cons p0 I =>
      unfold lk
      cases j with
      | zero =>
        simp at h1 h2
        rw [if_pos h1, h2]
      | succ j =>
        rw [List.getElem?_cons_succ] at h1 h2
        have hm := List.mem_of_getElem? h1
        rw [if_neg (fun e => (List.nodup_cons.1 hd).1 (by rw [e]; exact hm))]
        exact ih (List.nodup_cons.1 hd).2 h1 h2
theorem lk_app : ∀ {D I : List Int} {w p v : Int}, D.length = I.length → v ≠ w → lk (D ++ [w]) (I ++ [p]) v = lk D I v := by
  intro D
  induction D with
  | nil =>
    intro I w p v hl hv
    cases I with
    | nil => simp [lk, Ne.symm hv]
    | cons _ _ => simp at hl
  | cons d0 D ih =>
    intro I w p v hl hv
    cases I with
    | nil => simp at hl
    | cons p0 I =>
      rw [List.cons_append, List.cons_append]
      unfold lk
      rw [ih (by simpa using hl) hv]
theorem lk_mem {D I : List Int} {w : Int} (hl : D.length = I.length) (hd : D.Nodup) (hw : w ∈ D) : ∃ (j : Nat) (p : Int), D[j]? = some w ∧ I[j]? = some p ∧ lk D I w = p := by
  obtain ⟨j, hj⟩ := List.getElem?_of_mem hw
  have h1 := (List.getElem?_eq_some_iff.1 hj).1
  have h2 : I[j]? = some (I[j]'(by omega)) := List.getElem?_eq_getElem _
  exact ⟨j, _, hj, h2, lk_get hd hj h2⟩
inductive Rc (B : Bk) (roots : List Int) : Int → Prop
  | root {w : Int} : w ∈ roots → pOk w = true → Rc B roots w
  | step {w v : Int} : Rc B roots w → v ∈ folB B w → pOk v = true → Rc B roots v
def Bk.push (S : Bk) (b : Bool) (x : List Int) : Bk := if b then ⟨S.y, S.o ++ [x]⟩ else ⟨S.y ++ [x], S.o⟩
def Bk.up (S : Bk) (b : Bool) (i k : Nat) (v : Int) : Bk := if b then ⟨S.y, upd S.o i k v⟩ else ⟨upd S.y i k v, S.o⟩
theorem push_s (S : Bk) (b c : Bool) (x : List Int) : (S.push b x).s c = if c = b then S.s c ++ [x] else S.s c := by cases b <;> cases c <;> rfl
theorem up_s (S : Bk) (b c : Bool) (i k : Nat) (v : Int) : (S.up b i k v).s c = if c = b then upd (S.s c) i k v else S.s c := by cases b <;> cases c <;> rfl
/-- the state of a copying: B the memory, D what has been copied, I where it lies now, S the new memory; the words below k of copy i, and all of the copies before it, are settled -/
structure Inv (B : Bk) (mk : Int) (full : Bool) (base : List (List Int)) (roots : List Int) (S : Bk) (D I : List Int) (i k : Nat) : Prop where
  len : D.length = I.length
  nd : D.Nodup
  ndI : I.Nodup
  ix : i ≤ D.length ∧ (i = D.length → k = 0)
  src : ∀ d ∈ D, (∃ x, Pt B d x) ∧ mov full d = true ∧ 0 ≤ d ∧ Rc B roots d
  cp : ∀ j d p, D[j]? = some d → I[j]? = some p → ∃ x', Pt S p x' ∧ 0 ≤ p ∧ pOld p = age full mk d ∧ x'.length = (ob B d).length ∧ (x'.headD 0 % 4 = 0 ↔ (ob B d).headD 0 % 4 = 0) ∧
    ∀ q v, (ob B d)[q]? = some v → x'[q]? = some (if (j < i ∨ (j = i ∧ q < k)) ∧ frm (ob B d) ≤ q then lk D I v else v)
  set : ∀ j d, D[j]? = some d → ∀ q v, (j < i ∨ (j = i ∧ q < k)) → frm (ob B d) ≤ q → (ob B d)[q]? = some v → mov full v = true → v ∈ D
  new : ∀ p ∈ I, pOld p = true → base.flatten.length ≤ (pIx p).toNat
  pre : ∃ r, S.o = base ++ r
  all : ∀ b pos x', At (S.s b) pos x' → (b = true ∧ At base pos x') ∨ ∃ p ∈ I, pOld p = b ∧ (pIx p).toNat = pos
  obj : ∀ b, ∀ o ∈ S.s b, IsObj o
  sy : S.y.flatten.length = (D.map (fun d => if age full mk d then 0 else (ob B d).length)).sum
  so : S.o.flatten.length = base.flatten.length + (D.map (fun d => if age full mk d then (ob B d).length else 0)).sum
theorem Inv.pos {B : Bk} {mk : Int} {full : Bool} {base : List (List Int)} {roots : List Int} {S : Bk} {D I : List Int} {i k : Nat} (h : Inv B mk full base roots S D I i k) : S.pos :=
  ⟨fun o ho => (h.obj false o ho).pos, fun o ho => (h.obj true o ho).pos⟩
theorem Inv.begin {B : Bk} {mk : Int} {full : Bool} {base : List (List Int)} {roots : List Int} (hb : ∀ o ∈ base, IsObj o) : Inv B mk full base roots ⟨[], base⟩ [] [] 0 0 where
  len := rfl
  nd := List.nodup_nil
  ndI := List.nodup_nil
  ix := ⟨Nat.le_refl _, fun _ => rfl⟩
  src := fun d h => by simp at h
  cp := fun j d p h => by simp at h
  set := fun j d h => by simp at h
  new := fun p h => by simp at h
  pre := ⟨[], by simp⟩
  all := fun b pos x h => by
    cases b
    · exact h.elim
    · exact .inl ⟨rfl, h⟩
  obj := fun b o ho => by
    cases b
    · simp [Bk.s] at ho
    · exact hb o ho
  sy := by simp
  so := by simp
theorem ptrW_val {t : Int} (ht : t = 1 ∨ t = 2) (b : Bool) {n : Nat} (hn : n < 2147483648) : 0 ≤ ptrW t b n ∧ pOk (ptrW t b n) = true ∧ pOld (ptrW t b n) = b ∧ (pIx (ptrW t b n)).toNat = n ∧ ptrW t b n % 4 = t := by
  have h1 : idxOk (n : Int) = true := by unfold idxOk; exact decide_eq_true ⟨by omega, by omega⟩
  unfold ptrW
  rw [if_pos h1]
  have h2 : pOk (8 * (n : Int) + t + (if b then 4 else 0)) = true := by
    rw [pOk_iff]
    cases b <;> simp <;> omega
  refine ⟨by cases b <;> simp <;> omega, h2, ?_, ?_, ?_⟩
  · cases b
    · exact Bool.eq_false_iff.2 (fun h => by have := (pOld_iff h2).1 h; simp at this; omega)
    · exact (pOld_iff h2).2 (by simp; omega)
  · rw [pIx_eq h2]
    cases b <;> simp <;> omega
  · cases b <;> simp <;> omega
theorem headD_get {x : List Int} (h : 0 < x.length) : x[0]? = some (x.headD 0) := by
  cases x with
  | nil => simp at h
  | cons a r => rfl
/-- a copy more -/
theorem Inv.more {B : Bk} {mk : Int} {full : Bool} {base : List (List Int)} {roots : List Int} {S : Bk} {D I : List Int} {i k : Nat} (h : Inv B mk full base roots S D I i k) (hB : B.pos) (hBo : ∀ b, ∀ o ∈ B.s b, IsObj o) {w : Int} {x : List Int} (hx : Pt B w x) (hm : mov full w = true) (hn : w ∉ D) (w0 : 0 ≤ w) (hr : Rc B roots w)
    (hlen : (S.s (age full mk w)).flatten.length < 2147483648) {t : Int} (ht : t = 1 ∨ t = 2) (htw : w % 4 = t) :
    Inv B mk full base roots (S.push (age full mk w) x) (D ++ [w]) (I ++ [ptrW t (age full mk w) (S.s (age full mk w)).flatten.length]) i k := by
  obtain ⟨p0, pk, po, pi, pt⟩ := ptrW_val ht (age full mk w) hlen
  generalize hp : ptrW t (age full mk w) ((S.s (age full mk w)).flatten.length : Nat) = p at *
  have hxo := hx.ob hB
  have hpI : p ∉ I := by
    intro hpI
    obtain ⟨j, hj⟩ := List.getElem?_of_mem hpI
    have hjl := (List.getElem?_eq_some_iff.1 hj).1
    have hl := h.len
    obtain ⟨x', hx', _⟩ := h.cp j _ p (List.getElem?_eq_getElem (by omega)) hj
    have hb := hx'.2.1.bound
    have hq := (h.pos.s _) x' hx'.2.1.mem
    rw [po, pi] at hb
    omega
  have hlkD : ∀ v, v ≠ w → lk (D ++ [w]) (I ++ [p]) v = lk D I v := fun v hv => lk_app h.len hv
  have hPt : ∀ q y, Pt S q y → Pt (S.push (age full mk w) x) q y := fun q y hq => ⟨hq.1, by rw [push_s]; split; exact hq.2.1.left; exact hq.2.1, hq.2.2⟩
  refine ⟨by simp [h.len], ?_, ?_, ⟨by simp; have := h.ix.1; omega, fun e => ?_⟩, ?_, ?_, ?_, ?_, ?_, ?_, ?_, ?_, ?_⟩
  · rw [List.nodup_append]
    exact ⟨h.nd, by simp, fun a ha b hb e => by simp at hb; subst hb; subst e; exact hn ha⟩
  · rw [List.nodup_append]
    exact ⟨h.ndI, by simp, fun a ha b hb e => by simp at hb; subst hb; subst e; exact hpI ha⟩
  · have := h.ix.1
    simp at e
    omega
  · intro d hd
    rcases List.mem_append.1 hd with hd | hd
    · exact h.src d hd
    · obtain rfl : d = w := by simpa using hd
      exact ⟨⟨x, hx⟩, hm, w0, hr⟩
  · intro j d q hj hq
    by_cases hjl : j < D.length
    · rw [List.getElem?_append_left hjl] at hj
      rw [List.getElem?_append_left (by rw [← h.len]; exact hjl)] at hq
      obtain ⟨x', h1, h2, h3, h4, h4', h5⟩ := h.cp j d q hj hq
      refine ⟨x', hPt q x' h1, h2, h3, h4, h4', fun r v hv => ?_⟩
      rw [h5 r v hv]
      split
      · rename_i hc
        by_cases hvw : v = w
        · subst hvw
          exact absurd (h.set j d hj r v hc.1 hc.2 hv hm) hn
        · rw [hlkD v hvw]
      · rfl
    · rw [List.getElem?_append_right (by omega)] at hj
      rw [List.getElem?_append_right (by have := h.len; omega)] at hq
      have hjD : j = D.length := by
        have := (List.getElem?_eq_some_iff.1 hj).1
        simp at this
        omega
      subst hjD
      simp at hj
      rw [h.len] at hq
      simp at hq
      subst hj hq
      refine ⟨x, ⟨pk, ?_, ?_⟩, p0, po, by rw [hxo], by rw [hxo], fun r v hv => ?_⟩
      · rw [po, pi, push_s, if_pos rfl]
        exact At.right (At.one.2 ⟨rfl, rfl⟩)
      · rw [hx.2.2, htw, pt]
      · rw [hxo] at hv ⊢
        rw [hv, if_neg]
        rintro ⟨hc | ⟨hc, hk⟩, _⟩
        · have := h.ix.1
          omega
        · have := h.ix.2 hc.symm
          omega
  · intro j d hj q v hc hf hv hmv
    by_cases hjl : j < D.length
    · rw [List.getElem?_append_left hjl] at hj
      exact List.mem_append_left _ (h.set j d hj q v hc hf hv hmv)
    · have hjD : j = D.length := by
        have := (List.getElem?_eq_some_iff.1 hj).1
        simp at this
        omega
      rcases hc with hc | ⟨hc, hk⟩
      · have := h.ix.1
        omega
      · have := h.ix.2 (by omega)
        omega
  · intro q hq ho
    rcases List.mem_append.1 hq with hq | hq
    · exact h.new q hq ho
    · obtain rfl : q = p := by simpa using hq
      rw [pi]
      rw [po] at ho
      rw [ho]
      obtain ⟨r, hr⟩ := h.pre
      show base.flatten.length ≤ S.o.flatten.length
      rw [hr, List.flatten_append, List.length_append]
      omega
  · obtain ⟨r, hr⟩ := h.pre
    cases hag : age full mk w
    · exact ⟨r, hr⟩
    · exact ⟨r ++ [x], by show S.o ++ [x] = _; rw [hr, List.append_assoc]⟩
  · intro b pos x' hat
    rw [push_s] at hat
    split at hat
    · rename_i hb
      rcases At.app_iff.1 hat with hat | ⟨h1, h2⟩
      · rcases h.all b pos x' hat with h' | ⟨q, hq, h1, h2⟩
        · exact .inl h'
        · exact .inr ⟨q, List.mem_append_left _ hq, h1, h2⟩
      · obtain ⟨h3, _⟩ := At.one.1 h2
        refine .inr ⟨p, by simp, by rw [po, hb], ?_⟩
        rw [pi, ← hb]
        omega
    · rcases h.all b pos x' hat with h' | ⟨q, hq, h1, h2⟩
      · exact .inl h'
      · exact .inr ⟨q, List.mem_append_left _ hq, h1, h2⟩
  · intro b o ho
    rw [push_s] at ho
    split at ho
    · rcases List.mem_append.1 ho with ho | ho
      · exact h.obj b o ho
      · obtain rfl : o = x := by simpa using ho
        exact hBo _ _ hx.2.1.mem
    · exact h.obj b o ho
  · rw [List.map_append, List.sum_append, ← h.sy]
    cases hag : age full mk w
    · show (S.y ++ [x]).flatten.length = _
      simp [hag, hxo]
    · show S.y.flatten.length = _
      simp [hag]
  · rw [List.map_append, List.sum_append, ← Nat.add_assoc, ← h.so]
    cases hag : age full mk w
    · show S.o.flatten.length = _
      simp [hag]
    · show (S.o ++ [x]).flatten.length = _
      simp [hag, hxo]
/-- the first words of a copy need no settling -/
theorem Inv.start {B : Bk} {mk : Int} {full : Bool} {base : List (List Int)} {roots : List Int} {S : Bk} {D I : List Int} {i : Nat} (h : Inv B mk full base roots S D I i 0) {d : Int} (hd : D[i]? = some d) : Inv B mk full base roots S D I i (frm (ob B d)) := by
  have hi := (List.getElem?_eq_some_iff.1 hd).1
  refine { h with ix := ⟨h.ix.1, fun e => by omega⟩, cp := fun j d' p hj hp => ?_, set := fun j d' hj q v hc hf hv hm => ?_ }
  · obtain ⟨x', h1, h2, h3, h4, h4', h5⟩ := h.cp j d' p hj hp
    refine ⟨x', h1, h2, h3, h4, h4', fun q v hv => ?_⟩
    rw [h5 q v hv]
    by_cases hc : j < i
    · simp [hc]
    · by_cases he : j = i
      · subst he
        rw [hd] at hj
        obtain rfl := Option.some.inj hj
        rw [if_neg (by omega), if_neg (by omega)]
      · rw [if_neg (by omega), if_neg (by omega)]
  · rcases hc with hc | ⟨rfl, hc⟩
    · exact h.set j d' hj q v (.inl hc) hf hv hm
    · rw [hd] at hj
      obtain rfl := Option.some.inj hj
      omega
/-- a copy is done -/
theorem Inv.next {B : Bk} {mk : Int} {full : Bool} {base : List (List Int)} {roots : List Int} {S : Bk} {D I : List Int} {i k : Nat} (h : Inv B mk full base roots S D I i k) {d : Int} (hd : D[i]? = some d) (hk : (ob B d).length ≤ k) : Inv B mk full base roots S D I (i + 1) 0 := by
  have hi := (List.getElem?_eq_some_iff.1 hd).1
  refine { h with ix := ⟨by omega, fun _ => rfl⟩, cp := fun j d' p hj hp => ?_, set := fun j d' hj q v hc hf hv hm => ?_ }
  · obtain ⟨x', h1, h2, h3, h4, h4', h5⟩ := h.cp j d' p hj hp
    refine ⟨x', h1, h2, h3, h4, h4', fun q v hv => ?_⟩
    rw [h5 q v hv]
    by_cases he : j = i
    · subst he
      rw [hd] at hj
      obtain rfl := Option.some.inj hj
      have hq := (List.getElem?_eq_some_iff.1 hv).1
      by_cases hf : frm (ob B d) ≤ q
      · rw [if_pos ⟨by omega, hf⟩, if_pos ⟨by omega, hf⟩]
      · rw [if_neg (fun h => hf h.2), if_neg (fun h => hf h.2)]
    · by_cases hf : (j < i) ∧ frm (ob B d') ≤ q
      · rw [if_pos ⟨by omega, hf.2⟩, if_pos ⟨by omega, hf.2⟩]
      · rw [if_neg (by omega), if_neg (by omega)]
  · by_cases he : j = i
    · subst he
      rw [hd] at hj
      obtain rfl := Option.some.inj hj
      have hq := (List.getElem?_eq_some_iff.1 hv).1
      exact h.set j d hd q v (.inr ⟨rfl, by omega⟩) hf hv hm
    · exact h.set j d' hj q v (.inl (by omega)) hf hv hm
theorem frm_head {x y : List Int} (h : 0 < x.length) (h' : 0 < y.length) (hh : x.headD 0 % 4 = 0 ↔ y.headD 0 % 4 = 0) (he : x.headD 0 % 4 = 0 → x.headD 0 = y.headD 0) (hl : x.length = y.length) : frm x = frm y := by
  unfold frm
  by_cases h0 : x.headD 0 % 4 = 0
  · rw [← he h0, hl]
  · rw [if_pos h0, if_pos (fun h => h0 (hh.2 h))]
theorem frm_pos {x : List Int} (h : x.headD 0 % 4 = 0) (hx : 0 < x.length) : 1 ≤ frm x := by
  unfold frm
  rw [if_neg (by omega)]
  split
  · omega
  · split <;> omega
/-- a word of the copy is settled -/
theorem Inv.store {B : Bk} {mk : Int} {full : Bool} {base : List (List Int)} {roots : List Int} {S : Bk} {D I : List Int} {i k : Nat} (h : Inv B mk full base roots S D I i k) (hB : B.pos) {d p v : Int} (hd : D[i]? = some d) (hp : I[i]? = some p) (hf : frm (ob B d) ≤ k) (hv : (ob B d)[k]? = some v) (hm : mov full v = true → v ∈ D) (ht : lk D I v % 4 ≠ 0) :
    Inv B mk full base roots (S.up (pOld p) (pIx p).toNat k (lk D I v)) D I i (k + 1) := by
  have hi := (List.getElem?_eq_some_iff.1 hd).1
  have hk := (List.getElem?_eq_some_iff.1 hv).1
  obtain ⟨x', g1, g2, g3, g4, g4', g5⟩ := h.cp i d p hd hp
  have hpos := h.pos
  have hsp := hpos.s (pOld p)
  have hx0 : 0 < x'.length := hsp _ g1.2.1.mem
  have hhd : (x'.set k (lk D I v)).headD 0 % 4 = 0 ↔ x'.headD 0 % 4 = 0 := by
    cases k with
    | zero =>
      have : ¬ (ob B d).headD 0 % 4 = 0 := fun h0 => by have := frm_pos h0 (by omega); omega
      cases x' with
      | nil => simp at hx0
      | cons a r =>
        have h2 : ¬ a % 4 = 0 := fun h0 => this (g4'.1 h0)
        simp [ht, h2]
    | succ k =>
      cases x' with
      | nil => simp at hx0
      | cons a r => simp
  have hup : ∀ q y, q ≠ p → 0 ≤ q → Pt S q y → Pt (S.up (pOld p) (pIx p).toNat k (lk D I v)) q y := by
    intro q y hne q0 hq
    refine ⟨hq.1, ?_, hq.2.2⟩
    rw [up_s]
    split
    · rename_i ho
      have hq2 := hq.2.1
      rw [ho] at hq2 ⊢
      refine (upd_at hsp g1.2.1).2 (.inr ⟨fun e => hne ?_, hq2⟩)
      exact Pt.inj hpos hq g1 q0 g2 ho e
    · exact hq.2.1
  refine { h with ix := ⟨h.ix.1, fun e => by omega⟩, cp := fun j d' q hj hq => ?_, set := fun j d' hj q u hc hf' hu hmu => ?_, pre := ?_, all := fun b pos y hy => ?_, obj := fun b o ho => ?_, sy := ?_, so := ?_ }
  · by_cases hji : j = i
    · subst hji
      rw [hd] at hj
      rw [hp] at hq
      obtain rfl := Option.some.inj hj
      obtain rfl := Option.some.inj hq
      refine ⟨x'.set k (lk D I v), ⟨g1.1, ?_, by rw [hhd]; exact g1.2.2⟩, g2, g3, by rw [List.length_set, g4], by rw [hhd]; exact g4', fun r u hu => ?_⟩
      · rw [up_s, if_pos rfl]
        exact (upd_at hsp g1.2.1).2 (.inl ⟨rfl, rfl⟩)
      · by_cases hrk : r = k
        · subst hrk
          rw [hv] at hu
          obtain rfl := Option.some.inj hu
          rw [if_pos ⟨.inr ⟨rfl, by omega⟩, hf⟩, List.getElem?_set_self (by omega)]
        · rw [List.getElem?_set_ne (fun e => hrk e.symm), g5 r u hu]
          congr 1
          by_cases hc : r < k ∧ frm (ob B d) ≤ r
          · rw [if_pos ⟨.inr ⟨rfl, hc.1⟩, hc.2⟩, if_pos ⟨.inr ⟨rfl, by omega⟩, hc.2⟩]
          · rw [if_neg (by omega), if_neg (by omega)]
    · obtain ⟨y', e1, e2, e3, e4, e4', e5⟩ := h.cp j d' q hj hq
      have hqp : q ≠ p := by
        intro e
        subst e
        exact hji ((List.getElem?_inj (List.getElem?_eq_some_iff.1 hq).1 h.ndI).1 (hq.trans hp.symm))
      refine ⟨y', hup q y' hqp e2 e1, e2, e3, e4, e4', fun r u hu => ?_⟩
      rw [e5 r u hu]
      congr 1
      by_cases hc : j < i ∧ frm (ob B d') ≤ r
      · rw [if_pos ⟨.inl hc.1, hc.2⟩, if_pos ⟨.inl hc.1, hc.2⟩]
      · rw [if_neg (by omega), if_neg (by omega)]
  · by_cases hc' : j < i ∨ (j = i ∧ q < k)
    · exact h.set j d' hj q u hc' hf' hu hmu
    · obtain ⟨rfl, rfl⟩ : j = i ∧ q = k := by omega
      rw [hd] at hj
      obtain rfl := Option.some.inj hj
      rw [hv] at hu
      obtain rfl := Option.some.inj hu
      exact hm hmu
  · obtain ⟨r, hr⟩ := h.pre
    cases hop : pOld p
    · exact ⟨r, hr⟩
    · show ∃ r, upd S.o _ _ _ = base ++ r
      have hnew := h.new p (List.mem_of_getElem? hp) hop
      rw [hr]
      exact upd_pre (fun o ho => hpos.2 o (by rw [hr]; exact List.mem_append_left _ ho)) hnew r
  · rw [up_s] at hy
    split at hy
    · rename_i hb
      subst hb
      rcases (upd_at hsp g1.2.1).1 hy with ⟨rfl, rfl⟩ | ⟨hne, hy⟩
      · exact .inr ⟨p, List.mem_of_getElem? hp, rfl, rfl⟩
      · exact h.all _ pos y hy
    · exact h.all b pos y hy
  · rw [up_s] at ho
    split at ho
    · rename_i hb
      subst hb
      exact upd_objs (h.obj _) g1.2.1 hsp hhd (fun hk0 => by subst hk0; intro h0; have := frm_pos (g4'.1 h0) (by omega); omega) ho
    · exact h.obj b o ho
  · rw [← h.sy]
    cases hop : pOld p
    · show (upd S.y _ _ _).flatten.length = _
      have := upd_flat (k := k) (v := lk D I v) hpos.1 (by simpa [hop, Bk.s] using g1.2.1) (by omega)
      rw [this, List.length_set]
    · rfl
  · rw [← h.so]
    cases hop : pOld p
    · rfl
    · show (upd S.o _ _ _).flatten.length = _
      have := upd_flat (k := k) (v := lk D I v) hpos.2 (by simpa [hop, Bk.s] using g1.2.1) (by omega)
      rw [this, List.length_set]
end Go.Proofs.YtegffanlehaloaaGreat.cl
