/- Several texts in one, one behind the other: CtA. No condition beyond theirs. -/
import Derived.Test.YtegffanlehaloaaGx
/- Memories that are known: shape by a test, and what Full and Minor answer. Conditions: as said. -/
namespace Go.Proofs.Ytegffanlehaloaa.cl
open Go.RowKit mem words
set_option linter.unusedVariables false
set_option linter.unusedSimpArgs false
set_option maxHeartbeats 1000000
def atB (f : List Int → Bool) : List (List Int) → Nat → Bool
  | [], _ => false
  | o :: r, i => (decide (i = 0) && f o) || (decide (o.length ≤ i) && atB f r (i - o.length))
theorem atB_iff {f : List Int → Bool} : ∀ {a : List (List Int)} {i : Nat}, atB f a i = true ↔ ∃ x, At a i x ∧ f x = true := by
  intro a
  induction a with
  | nil => intro i; simp [atB, At]
  | cons o r ih =>
    intro i
    unfold atB
    simp only [Bool.or_eq_true, Bool.and_eq_true, decide_eq_true_eq, ih]
    constructor
    · rintro (⟨h1, h2⟩ | ⟨h1, x, h2, h3⟩)
      · exact ⟨o, .inl ⟨h1, rfl⟩, h2⟩
      · exact ⟨x, .inr ⟨h1, h2⟩, h3⟩
    · rintro ⟨x, ⟨h1, rfl⟩ | ⟨h1, h2⟩, h3⟩
      · exact .inl ⟨h1, h3⟩
      · exact .inr ⟨h1, x, h2, h3⟩
def allAt (f : Nat → List Int → Bool) : List (List Int) → Nat → Bool
  | [], _ => true
  | o :: r, i => f i o && allAt f r (i + o.length)
theorem allAt_at {f : Nat → List Int → Bool} : ∀ {a : List (List Int)} {j i : Nat} {x : List Int}, allAt f a j = true → At a i x → f (j + i) x = true := by
  intro a
  induction a with
  | nil => intro j i x _ h; exact h.elim
  | cons o r ih =>
    intro j i x h hx
    unfold allAt at h
    simp only [Bool.and_eq_true] at h
    rcases hx with ⟨rfl, rfl⟩ | ⟨h1, h2⟩
    · exact h.1
    · have := ih h.2 h2
      rwa [show j + o.length + (i - o.length) = j + i by omega] at this
def tmQ (K : Bk) (v : Int) : Bool := soOk v || (aoOk v || (decide (v = 11) || (pOk v && atB (fun x => decide (x.headD 0 % 4 = 0 ↔ v % 4 = 2)) (K.s (pOld v)) (pIx v).toNat)))
theorem tmQ_iff {K : Bk} {v : Int} : tmQ K v = true ↔ Tm K v := by
  unfold tmQ Tm
  simp only [Bool.or_eq_true, Bool.and_eq_true, decide_eq_true_eq, atB_iff]
  constructor
  · rintro (h | h | h | ⟨h1, x, h2, h3⟩)
    · exact .inl h
    · exact .inr (.inl h)
    · exact .inr (.inr (.inl h))
    · exact .inr (.inr (.inr ⟨x, h1, h2, h3⟩))
  · rintro (h | h | h | ⟨x, h1, h2, h3⟩)
    · exact .inl h
    · exact .inr (.inl h)
    · exact .inr (.inr (.inl h))
    · exact .inr (.inr (.inr ⟨h1, x, h2, h3⟩))
def objB : List Int → Bool
  | [] => false
  | x :: r => hok x && decide ((x :: r).length = osz x)
theorem objB_obj {o : List Int} (h : objB o = true) : IsObj o := by
  cases o with
  | nil => cases h
  | cons x r =>
    unfold objB at h
    simp only [Bool.and_eq_true, decide_eq_true_eq] at h
    exact ⟨x, r, rfl, h.1, h.2⟩
def chk (m : Mm) (K : Bk) (b : Bool) (i : Nat) (x : List Int) : Bool := okO x && (fol x).all fun v => tmQ K v && (!(pOk v) || (pOld v || (!b && (decide (m.at_ ≤ (i : Int)) || decide (pIx v < m.at_)))))
def shB (m : Mm) (K : Bk) : Bool := decide (K.y.flatten = m.y) && (decide (K.o.flatten = m.o) && (K.y.all objB && (K.o.all objB && (decide (m.y.length ≤ 5000) && (decide (m.o.length ≤ 5000) && (decide (0 ≤ m.at_) && (decide (m.at_ ≤ m.y.length) && ((decide ((m.y.length : Int) ≤ m.at_) || atB (fun _ => true) K.y m.at_.toNat) && (allAt (chk m K false) K.y 0 && allAt (chk m K true) K.o 0)))))))))
theorem shB_sh {m : Mm} {K : Bk} (h : shB m K = true) : Sh m K := by
  unfold shB at h
  simp only [Bool.and_eq_true, decide_eq_true_eq, Bool.or_eq_true, List.all_eq_true] at h
  obtain ⟨h1, h2, h3, h4, h5, h6, h7, h8, h9, h10, h11⟩ := h
  refine ⟨⟨h1, fun o ho => objB_obj (h3 o ho)⟩, ⟨h2, fun o ho => objB_obj (h4 o ho)⟩, by omega, by omega, h7, h8, fun hlt => ?_, fun b i x hx => ?_⟩
  · rcases h9 with h9 | h9
    · omega
    · obtain ⟨x, hx, _⟩ := atB_iff.1 h9
      exact ⟨x, hx⟩
  · have hc : chk m K b i x = true := by
      cases b
      · have := allAt_at h10 hx
        rwa [Nat.zero_add] at this
      · have := allAt_at h11 hx
        rwa [Nat.zero_add] at this
    unfold chk at hc
    simp only [Bool.and_eq_true, List.all_eq_true] at hc
    refine ⟨hc.1, fun v hv => ?_⟩
    obtain ⟨g1, g2⟩ := hc.2 v hv
    refine ⟨tmQ_iff.1 g1, fun hp ho => ?_⟩
    rw [hp, ho] at g2
    cases b
    · simp only [Bool.not_true, Bool.false_or, Bool.not_false, Bool.true_and, Bool.or_eq_true, decide_eq_true_eq] at g2
      exact ⟨rfl, fun hi => by omega⟩
    · simp at g2
theorem fits_of {m : Mm} {K : Bk} {roots : List Int} (h : shB m K = true) (hr : roots.all (tmQ K) = true) : FitsQ m roots := ⟨K, shB_sh h, fun v hv => tmQ_iff.1 (List.all_eq_true.1 hr v hv)⟩
theorem no_fits {m : Mm} {K : Bk} {roots : List Int} (h : shB m K = true) (hr : roots.all (tmQ K) = false) : ¬ FitsQ m roots := by
  rintro ⟨K', h1, h2⟩
  obtain rfl := Sh.book h1 (shB_sh h)
  have : roots.all (tmQ K') = true := List.all_eq_true.2 (fun v hv => tmQ_iff.2 (h2 v hv))
  rw [this] at hr
  cases hr
theorem own_len {w : World} {base : Nat} {q : Option Addr} {n c : Nat} {l : List Int} (h : WOwn w base (.slice q n c) l) : n = l.length := by
  obtain ⟨p, c', e⟩ := h.shape
  simp only [Value.slice.injEq] at e
  exact e.2.1
/-- the lengths of the answers -/
theorem full_len {m : Mm} {K : Bk} {roots : List Int} {W W' : World} {q0 q1 qT : Option Addr} {m0 m1 mT c0 c1 cT : Nat} {n2 er : Int} (h : AnsQ true m roots W W' (.slice q0 m0 c0) (.slice q1 m1 c1) n2 (.slice qT mT cT) er) (hK : shB m K = true) (hr : roots.all (tmQ K) = true) :
    er = 0 ∧ n2 = 0 ∧ m0 = 0 ∧ m1 = szBelow m K (met K roots) + szAbove m K (met K roots) + szOld K (met K roots) ∧ mT = roots.length := by
  rcases h with ⟨_, base, K', S, D, I, hb, e1, e2, o1, o2, o3, hp, hi, hs⟩ | ⟨hn, _⟩
  · obtain rfl := Sh.book hp.sh (shB_sh hK)
    have hd := done_of hp hi hs
    refine ⟨e2, e1, ?_, ?_, ?_⟩
    · rw [own_len o1]; exact hd.fullY
    · rw [own_len o2]; exact hd.fullO
    · rw [own_len o3, List.length_map]
  · exact absurd (fits_of hK hr) hn
theorem minor_len {m : Mm} {K : Bk} {roots : List Int} {W W' : World} {q0 q1 qT : Option Addr} {m0 m1 mT c0 c1 cT : Nat} {n2 er : Int} (h : AnsQ false m roots W W' (.slice q0 m0 c0) (.slice q1 m1 c1) n2 (.slice qT mT cT) er) (hK : shB m K = true) (hr : roots.all (tmQ K) = true) :
    er = 0 ∧ n2 = szAbove m K (met K roots) ∧ m0 = szAbove m K (met K roots) ∧ m1 = m.o.length + szBelow m K (met K roots) ∧ mT = roots.length := by
  rcases h with ⟨_, base, K', S, D, I, hb, e1, e2, o1, o2, o3, hp, hi, hs⟩ | ⟨hn, _⟩
  · obtain rfl := Sh.book hp.sh (shB_sh hK)
    have hd := done_of hp hi hs
    refine ⟨e2, ?_, ?_, ?_, ?_⟩
    · rw [e1, ← hd.minorY]; rfl
    · rw [own_len o1]; exact hd.minorY
    · rw [own_len o2]; exact hd.minorO
    · rw [own_len o3, List.length_map]
  · exact absurd (fits_of hK hr) hn
end Go.Proofs.Ytegffanlehaloaa.cl
