
/- The list of the pointers to all objects, in plain Lean. Conditions: as said. -/
import Derived.Test.YtpnlnbolhkcnjaaGreatCqA
namespace Go.Proofs.YtpnlnbolhkcnjaaGreat.cl
open words
set_option linter.unusedVariables false
set_option linter.unusedSimpArgs false

/-- the pointer to what begins at i -/
def ptrF (b : Bool) (l : List Int) (i : Nat) : Int := ptrW (if l.getD i 0 % 4 = 0 then 2 else 1) b i
/-- the pointers to what begins below n -/
def ptrU (b : Bool) (l : List Int) (f : List Bool) (n : Nat) : List Int := ((List.range n).filter (fun i => f.getD i false)).map (ptrF b l)
theorem ptrU_yes {b : Bool} {l : List Int} {f : List Bool} {n : Nat} (h : f.getD n false = true) : ptrU b l f (n + 1) = ptrU b l f n ++ [ptrF b l n] := by
  unfold ptrU
  rw [List.range_succ, List.filter_append, List.map_append, List.filter_cons, if_pos h, List.filter_nil, List.map_cons, List.map_nil]
theorem ptrU_no {b : Bool} {l : List Int} {f : List Bool} {n : Nat} (h : f.getD n false = false) : ptrU b l f (n + 1) = ptrU b l f n := by
  unfold ptrU
  rw [List.range_succ, List.filter_append, List.map_append, List.filter_cons, if_neg (by rw [h]; decide), List.filter_nil, List.map_nil, List.append_nil]
theorem ptrU_pre {b : Bool} {l : List Int} {f : List Bool} {n : Nat} : ∀ k, ∃ r, ptrU b l f (n + k) = ptrU b l f n ++ r := by
  intro k
  induction k with
  | zero => exact ⟨[], by simp⟩
  | succ k ih =>
    obtain ⟨r, hr⟩ := ih
    cases h : f.getD (n + k) false
    · exact ⟨r, by rw [← Nat.add_assoc, ptrU_no h, hr]⟩
    · exact ⟨r ++ [ptrF b l (n + k)], by rw [← Nat.add_assoc, ptrU_yes h, hr, List.append_assoc]⟩
theorem ptrU_get {b : Bool} {l : List Int} {f : List Bool} {n N : Nat} (h : f.getD n false = true) (hN : n < N) : (ptrU b l f n).length < (ptrU b l f N).length ∧ (ptrU b l f N)[(ptrU b l f n).length]? = some (ptrF b l n) := by
  obtain ⟨k, rfl⟩ : ∃ k, N = n + 1 + k := ⟨N - (n + 1), by omega⟩
  obtain ⟨r, hr⟩ := ptrU_pre (b := b) (l := l) (f := f) (n := n + 1) k
  rw [hr, ptrU_yes h]
  constructor
  · simp
  · rw [List.append_assoc, List.getElem?_append_right (Nat.le_refl _), Nat.sub_self]
    rfl
/-- the pointers to all objects, the young ones first -/
def ptrs (m : Mm) (K : Bk) : List Int := ptrU false m.y (marks K.y) m.y.length ++ ptrU true m.o (marks K.o) m.o.length
theorem ptrF_pt {m : Mm} {K : Bk} (hy : Objs m.y K.y) (ho : Objs m.o K.o) (ly : m.y.length ≤ 100000) (lo : m.o.length ≤ 100000) {b : Bool} {i : Nat} {x : List Int} (hx : At (K.s b) i x) :
    Pt K (ptrF b (m.s b) i) x ∧ pOld (ptrF b (m.s b) i) = b ∧ pIx (ptrF b (m.s b) i) = i ∧ 0 ≤ ptrF b (m.s b) i ∧ ptrF b (m.s b) i ≤ 18446744073709551615 := by
  have hO : Objs (m.s b) (K.s b) := by cases b <;> assumption
  have hl : (m.s b).length ≤ 100000 := by cases b <;> assumption
  have hb := hx.bound
  have hp := hO.pos x hx.mem
  rw [hO.1] at hb
  have hd : (m.s b).getD i 0 = x.headD 0 := by
    have h0 := hx.get 0 hp
    rw [hO.1, Nat.add_zero, headD_get hp] at h0
    rw [List.getD_eq_getElem?_getD, h0]
    rfl
  obtain ⟨h0, h1, h2, h3, h4⟩ := ptrW_val (t := if (m.s b).getD i 0 % 4 = 0 then 2 else 1) (by split <;> simp) b (n := i) (by omega)
  have he : ptrF b (m.s b) i = ptrW (if (m.s b).getD i 0 % 4 = 0 then 2 else 1) b i := rfl
  rw [← he] at h0 h1 h2 h3 h4
  rw [hd] at h4
  clear he
  generalize ptrF b (m.s b) i = p at *
  have hr := (pOk_iff p).1 h1
  refine ⟨⟨h1, by rw [h2, h3]; exact hx, ?_⟩, h2, ?_, h0, ?_⟩
  · by_cases h : x.headD 0 % 4 = 0
    · rw [if_pos h] at h4
      exact ⟨fun _ => h4, fun _ => h⟩
    · rw [if_neg h] at h4
      exact ⟨fun h' => absurd h' h, fun h' => by omega⟩
  · rw [pIx_eq h1] at h3 ⊢
    omega
  · omega
theorem ptrU_mem {b : Bool} {l : List Int} {f : List Bool} {n : Nat} {p : Int} : p ∈ ptrU b l f n ↔ ∃ i, i < n ∧ f.getD i false = true ∧ p = ptrF b l i := by
  unfold ptrU
  rw [List.mem_map]
  constructor
  · rintro ⟨i, hi, rfl⟩
    rw [List.mem_filter, List.mem_range] at hi
    exact ⟨i, hi.1, hi.2, rfl⟩
  · rintro ⟨i, h1, h2, hp⟩
    rw [hp]
    exact ⟨i, by rw [List.mem_filter, List.mem_range]; exact ⟨h1, h2⟩, rfl⟩
theorem marks_at {l : List Int} {a : List (List Int)} (h : Objs l a) {i : Nat} : (i < l.length ∧ (marks a).getD i false = true) ↔ ∃ x, At a i x := by
  have hml : (marks a).length = l.length := by rw [marks_len h.pos, h.1]
  constructor
  · rintro ⟨h1, h2⟩
    exact (marks_getD h.pos (by omega)).1 h2
  · rintro ⟨x, hx⟩
    have hb := hx.bound
    have hp := h.pos x hx.mem
    rw [h.1] at hb
    exact ⟨by omega, (marks_getD h.pos (by omega)).2 ⟨x, hx⟩⟩
theorem ptrs_mem {m : Mm} {K : Bk} (hy : Objs m.y K.y) (ho : Objs m.o K.o) {p : Int} : p ∈ ptrs m K ↔ ∃ b i x, At (K.s b) i x ∧ p = ptrF b (m.s b) i := by
  unfold ptrs
  rw [List.mem_append, ptrU_mem, ptrU_mem]
  constructor
  · rintro (⟨i, h1, h2, hp⟩ | ⟨i, h1, h2, hp⟩)
    · obtain ⟨x, hx⟩ := (marks_at hy).1 ⟨h1, h2⟩
      exact ⟨false, i, x, hx, hp⟩
    · obtain ⟨x, hx⟩ := (marks_at ho).1 ⟨h1, h2⟩
      exact ⟨true, i, x, hx, hp⟩
  · rintro ⟨b, i, x, hx, hp⟩
    rw [hp]
    clear hp
    cases b
    · obtain ⟨h1, h2⟩ := (marks_at hy).2 ⟨x, hx⟩
      exact .inl ⟨i, h1, h2, rfl⟩
    · obtain ⟨h1, h2⟩ := (marks_at ho).2 ⟨x, hx⟩
      exact .inr ⟨i, h1, h2, rfl⟩
/-- how many come before an area's -/
def ptrO (m : Mm) (K : Bk) (b : Bool) : Nat := if b then (ptrU false m.y (marks K.y) m.y.length).length else 0
theorem ptrs_get {m : Mm} {K : Bk} {b : Bool} {i : Nat} (h : (marks (K.s b)).getD i false = true) (hi : i < (m.s b).length) :
    ptrO m K b + (ptrU b (m.s b) (marks (K.s b)) i).length < (ptrs m K).length ∧ (ptrs m K)[ptrO m K b + (ptrU b (m.s b) (marks (K.s b)) i).length]?.getD 0 = ptrF b (m.s b) i := by
  obtain ⟨h1, h2⟩ := ptrU_get (b := b) (l := m.s b) h hi
  unfold ptrs ptrO
  cases b
  · have h1 : (ptrU false m.y (marks K.y) i).length < (ptrU false m.y (marks K.y) m.y.length).length := h1
    have h2 : (ptrU false m.y (marks K.y) m.y.length)[(ptrU false m.y (marks K.y) i).length]? = some (ptrF false m.y i) := h2
    constructor
    · show 0 + (ptrU false m.y (marks K.y) i).length < _
      rw [List.length_append]
      omega
    · show (_ ++ _)[0 + (ptrU false m.y (marks K.y) i).length]?.getD 0 = ptrF false m.y i
      rw [Nat.zero_add, List.getElem?_append_left h1, h2, Option.getD_some]
  · have h1 : (ptrU true m.o (marks K.o) i).length < (ptrU true m.o (marks K.o) m.o.length).length := h1
    have h2 : (ptrU true m.o (marks K.o) m.o.length)[(ptrU true m.o (marks K.o) i).length]? = some (ptrF true m.o i) := h2
    constructor
    · show (ptrU false m.y (marks K.y) m.y.length).length + (ptrU true m.o (marks K.o) i).length < _
      rw [List.length_append]
      omega
    · show (_ ++ _)[(ptrU false m.y (marks K.y) m.y.length).length + (ptrU true m.o (marks K.o) i).length]?.getD 0 = ptrF true m.o i
      rw [List.getElem?_append_right (by omega), Nat.add_sub_cancel_left, h2, Option.getD_some]
theorem ptrs_end {m : Mm} {K : Bk} : ptrO m K false = 0 ∧ ptrO m K false + (ptrU false (m.s false) (marks (K.s false)) (m.s false).length).length = ptrO m K true ∧ ptrO m K true + (ptrU true (m.s true) (marks (K.s true)) (m.s true).length).length = (ptrs m K).length := by
  refine ⟨rfl, Nat.zero_add _, ?_⟩
  unfold ptrs ptrO
  rw [List.length_append]
  rfl
/-- what shape asks of the object of a pointer -/
def goodW (m : Mm) (K : Bk) (b : Bool) (k : Int) (v : Int) : Prop := Tm K v ∧ (pOk v = true → pOld v = false → b = false ∧ (k < m.at_ → pIx v < m.at_))
def goodP (m : Mm) (K : Bk) (p : Int) : Prop := okO (ob K p) = true ∧ ∀ v ∈ folB K p, goodW m K (pOld p) (pIx p) v
theorem sh_of_good {m : Mm} {K : Bk} (hy : Objs m.y K.y) (ho : Objs m.o K.o) (ly : m.y.length ≤ 100000) (lo : m.o.length ≤ 100000) (m0 : 0 ≤ m.at_) (m1 : m.at_ ≤ m.y.length) (m2 : m.at_ < m.y.length → ∃ x, At K.y m.at_.toNat x) (h : ∀ p ∈ ptrs m K, goodP m K p) : Sh m K := by
  refine ⟨hy, ho, by omega, by omega, m0, m1, m2, fun b i x hx => ?_⟩
  obtain ⟨h1, h2, h3, h4, h5⟩ := ptrF_pt hy ho ly lo hx
  have hg := h _ ((ptrs_mem hy ho).2 ⟨b, i, x, hx, rfl⟩)
  have hpos : K.pos := ⟨hy.pos, ho.pos⟩
  have hob := h1.ob hpos
  generalize ptrF b (m.s b) i = p at *
  unfold goodP folB goodW at hg
  rw [hob, h2, h3] at hg
  exact hg
theorem good_of_sh {m : Mm} {K : Bk} (hs : Sh m K) (ly : m.y.length ≤ 100000) (lo : m.o.length ≤ 100000) {p : Int} (hp : p ∈ ptrs m K) : goodP m K p := by
  obtain ⟨b, i, x, hx, hpe⟩ := (ptrs_mem hs.y hs.o).1 hp
  obtain ⟨h1, h2, h3, h4, h5⟩ := ptrF_pt hs.y hs.o ly lo hx
  rw [← hpe] at h1 h2 h3
  have hob := h1.ob hs.pos
  have := hs.ok b i x hx
  unfold goodP folB goodW
  rw [hob, h2, h3]
  exact this
end Go.Proofs.YtpnlnbolhkcnjaaGreat.cl
