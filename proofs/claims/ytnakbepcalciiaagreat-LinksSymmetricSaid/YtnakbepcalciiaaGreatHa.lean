/- Several texts in one, one behind the other: LkZg. No condition beyond theirs. -/
import Derived.Test.YtnakbepcalciiaaGreatGz
/- The protocol: what a step does to the two half links. Conditions: as said. -/
namespace Go.Proofs.YtnakbepcalciiaaGreat.lk
open Go.RowKit mem rec tm names pm
set_option linter.unusedVariables false
set_option linter.unusedSimpArgs false
set_option maxHeartbeats 4000000
set_option maxRecDepth 100000
/-- a side that knows its one link alone -/
structure SOk (nm : ByteArray) (p q : Id) (S : LkSt) : Prop where
  node : S.node = nm
  gen : S.gen = 1
  nd : (keys S.H).Nodup
  one : ∀ k ∈ keys S.H, k = (p, q)
def sideOf (p q : Id) (S : LkSt) (way : List Sg) : Side := ⟨pFind S.H (p, q), S.last, way⟩
structure PIg (nm nm' : ByteArray) (p q : Id) (S T : LkSt) (a b : List Sg) (n : Nat) : Prop where
  s : SOk nm p q S
  t : SOk nm' q p T
  inv : PInv (sideOf p q S a) (sideOf q p T b)
  len : a.length + b.length ≤ n
  ls : S.last ≤ n
  lt : T.last ≤ n
theorem PIg.symm {nm nm' : ByteArray} {p q : Id} {S T : LkSt} {a b : List Sg} {n : Nat} (h : PIg nm nm' p q S T a b n) : PIg nm' nm q p T S b a n := ⟨h.t, h.s, h.inv.symm, by have := h.len; omega, h.lt, h.ls⟩
section
variable {nm nm' : ByteArray} {p q : Id} {S T : LkSt} {a b : List Sg} {n : Nat}
theorem SOk.put (h : SOk nm p q S) (v l : Int) : SOk nm p q { S with last := l, H := pPut S.H (p, q) v } := by
  refine ⟨h.node, h.gen, nodup_put h.nd _ _, fun k hk => ?_⟩
  rcases (mem_keys_put _ _ _ _).1 hk with e | e
  · exact e
  · exact h.one k e
theorem SOk.del (h : SOk nm p q S) : SOk nm p q { S with H := pDel S.H (p, q) } :=
  ⟨h.node, h.gen, nodup_del h.nd _, fun k hk => h.one k ((mem_keys_del h.nd _ _).1 hk).2⟩
theorem act_iff (S : LkSt) (k : Pr) : actB S k = true ↔ pFind S.H k = some 0 := by unfold actB; exact decide_eq_true_iff
theorem PIg.join (h : PIg nm nm' p q S T a b n) (hl : locB nm 1 q = false) : PIg nm nm' p q (joinS S p q) T a (if sendB S p q then b ++ [(1, 0)] else b) (n + 1) := by
  have hl' : locB S.node S.gen q = false := by rw [h.s.node, h.s.gen]; exact hl
  have e : joinS S p q = { S with H := pPut S.H (p, q) 0 } := by unfold joinS; rw [hl']; rfl
  have e2 : sendB S p q = !actB S (p, q) := by unfold sendB; rw [hl']; simp
  have hi := h.inv
  rw [e, e2]
  refine ⟨h.s.put 0 S.last, h.t, ?_, ?_, by have := h.ls; show S.last ≤ ((n + 1 : Nat) : Int); omega, by have := h.lt; omega⟩
  · have hf : pFind (pPut S.H (p, q) 0) (p, q) = some 0 := by rw [find_put, if_pos rfl]
    unfold sideOf at hi ⊢
    dsimp only
    rw [hf]
    by_cases ha : actB S (p, q) = true
    · rw [ha]
      rw [(act_iff _ _).1 ha] at hi
      exact hi
    · have hne : pFind S.H (p, q) ≠ some 0 := fun e => ha ((act_iff _ _).2 e)
      rw [Bool.not_eq_true] at ha
      rw [ha]
      exact pinv_join hi hne
  · have := h.len
    split
    · rw [List.length_append, List.length_singleton]; omega
    · omega
theorem PIg.part (h : PIg nm nm' p q S T a b n) (hl : locB nm 1 q = false) : PIg nm nm' p q (partS S p q) T a (if partB S p q then b ++ [(2, partN S p q)] else b) (n + 1) := by
  have hl' : locB S.node S.gen q = false := by rw [h.s.node, h.s.gen]; exact hl
  have hi := h.inv
  have hs := h.ls
  have ht := h.lt
  have hlen := h.len
  by_cases ha : actB S (p, q) = true
  · have e : partS S p q = { S with last := S.last + 1, H := pPut S.H (p, q) (S.last + 1) } := by unfold partS; rw [hl', ha]; rfl
    have e2 : partB S p q = true := by unfold partB; rw [hl', ha]; rfl
    have e3 : partN S p q = S.last + 1 := by unfold partN; rw [hl', ha]; rfl
    rw [e, e2, e3]
    refine ⟨h.s.put _ _, h.t, ?_, by rw [if_pos rfl, List.length_append, List.length_singleton]; omega, by show S.last + 1 ≤ ((n + 1 : Nat) : Int); omega, by omega⟩
    have hf : pFind (pPut S.H (p, q) (S.last + 1)) (p, q) = some (S.last + 1) := by rw [find_put, if_pos rfl]
    unfold sideOf at hi ⊢
    dsimp only
    rw [hf]
    exact pinv_part hi ((act_iff _ _).1 ha)
  · rw [Bool.not_eq_true] at ha
    have e : partS S p q = S := by unfold partS; rw [hl', ha]; rfl
    have e2 : partB S p q = false := by unfold partB; rw [hl', ha]; rfl
    rw [e, e2]
    exact ⟨h.s, h.t, hi, by rw [if_neg (by decide)]; omega, by omega, by omega⟩
theorem PIg.sig {s : Sg} {a' : List Sg} {S' : LkSt} (h : PIg nm nm' p q S T (s :: a') b n) (hS : SOk nm p q S') (hf : pFind S'.H (p, q) = sigH (pFind S.H (p, q)) s) (hla : S'.last = S.last) : PIg nm nm' p q S' T a' (if s.1 = 2 then b ++ [(3, s.2)] else b) n := by
  refine ⟨hS, h.t, ?_, ?_, by rw [hla]; exact h.ls, h.lt⟩
  · have := pinv_pass h.inv (s := s) (q := a') rfl
    unfold sideOf at this ⊢
    dsimp only at this
    rw [hf, hla]
    exact this
  · have := h.len
    rw [List.length_cons] at this
    split
    · rw [List.length_append, List.length_singleton]; omega
    · omega
theorem sig1 (h : Option Int) (k : Int) : sigH h (1, k) = if h.isSome then h else some 0 := rfl
theorem sig2 (h : Option Int) (k : Int) : sigH h (2, k) = if h = some 0 then none else h := rfl
theorem sig3 (h : Option Int) (k : Int) : sigH h (3, k) = if 0 < k ∧ h.getD 0 = k then none else h := rfl
theorem PIg.came {a' : List Sg} {k : Int} (h : PIg nm nm' p q S T ((1, k) :: a') b n) : PIg nm nm' p q (cameS S p q) T a' b n := by
  have hc : SOk nm p q (cameS S p q) ∧ pFind (cameS S p q).H (p, q) = sigH (pFind S.H (p, q)) (1, k) ∧ (cameS S p q).last = S.last := by
    rw [sig1]
    unfold cameS
    split
    · exact ⟨h.s, rfl, rfl⟩
    · exact ⟨h.s.put 0 S.last, by rw [find_put, if_pos rfl], rfl⟩
  exact h.sig hc.1 hc.2.1 hc.2.2
theorem PIg.fell {a' : List Sg} {k : Int} (h : PIg nm nm' p q S T ((2, k) :: a') b n) : PIg nm nm' p q (fellS S p q) T a' (b ++ [(3, k)]) n := by
  have hc : SOk nm p q (fellS S p q) ∧ pFind (fellS S p q).H (p, q) = sigH (pFind S.H (p, q)) (2, k) ∧ (fellS S p q).last = S.last := by
    rw [sig2]
    unfold fellS
    by_cases ha : actB S (p, q) = true
    · rw [if_pos ha, if_pos ((act_iff _ _).1 ha)]
      exact ⟨h.s.del, by rw [find_del h.s.nd, if_pos rfl], rfl⟩
    · rw [if_neg ha, if_neg (fun e => ha ((act_iff _ _).2 e))]
      exact ⟨h.s, rfl, rfl⟩
  exact h.sig hc.1 hc.2.1 hc.2.2
theorem PIg.ack {a' : List Sg} {k : Int} (h : PIg nm nm' p q S T ((3, k) :: a') b n) : PIg nm nm' p q (ackS S p q k) T a' b n := by
  have hb : ackB S (p, q) k = true ↔ 0 < k ∧ (pFind S.H (p, q)).getD 0 = k := by
    unfold ackB
    rw [Bool.and_eq_true, decide_eq_true_iff, beq_iff_eq]
  have hc : SOk nm p q (ackS S p q k) ∧ pFind (ackS S p q k).H (p, q) = sigH (pFind S.H (p, q)) (3, k) ∧ (ackS S p q k).last = S.last := by
    rw [sig3]
    unfold ackS
    by_cases ha : ackB S (p, q) k = true
    · rw [if_pos ha, if_pos (hb.1 ha)]
      exact ⟨h.s.del, by rw [find_del h.s.nd, if_pos rfl], rfl⟩
    · rw [if_neg ha, if_neg (fun e => ha (hb.2 e))]
      exact ⟨h.s, rfl, rfl⟩
  exact h.sig hc.1 hc.2.1 hc.2.2
theorem PIg.kinds {s : Sg} {a' : List Sg} (h : PIg nm nm' p q S T (s :: a') b n) : s.1 = 1 ∨ s.1 = 2 ∨ s.1 = 3 := h.inv.a.wf s List.mem_cons_self
theorem PIg.last0 (h : PIg nm nm' p q S T a b n) : 0 ≤ S.last := h.inv.a.n0
/-- the keys are none or the one -/
theorem SOk.keys (h : SOk nm p q S) : pm.keys S.H = [] ∨ pm.keys S.H = [(p, q)] := by
  have h1 := h.nd
  have h2 := h.one
  cases hk : pm.keys S.H with
  | nil => exact .inl rfl
  | cons x l =>
    rw [hk] at h1 h2
    obtain rfl := h2 x List.mem_cons_self
    cases l with
    | nil => exact .inr rfl
    | cons y l =>
      obtain rfl := h2 y (List.mem_cons_of_mem _ List.mem_cons_self)
      exact absurd List.mem_cons_self (List.nodup_cons.1 h1).1
theorem SOk.hlen (h : SOk nm p q S) : S.H.length ≤ 1 := by
  have e : (pm.keys S.H).length = S.H.length := List.length_map ..
  rcases h.keys with hk | hk <;> rw [hk] at e <;> simp at e <;> omega
/-- what Of answers holds the other just when the link is active -/
theorem SOk.of (h : SOk nm p q S) {L : List Pr} (hL : L.Perm ((pm.keys S.H).filter (fun k => decide (k.1 = p)))) : memI q (actL S L) = actB S (p, q) ∧ (actL S L).length ≤ 1 := by
  rcases h.keys with hk | hk
  · rw [hk] at hL
    obtain rfl := List.Perm.eq_nil hL
    have hf : pFind S.H (p, q) = none := find_none.2 (by rw [hk]; simp)
    refine ⟨?_, Nat.zero_le _⟩
    unfold actB
    rw [hf]
    rfl
  · rw [hk] at hL
    have : L = [(p, q)] := by
      rw [List.filter_cons, if_pos (by simp)] at hL
      exact List.perm_singleton.1 hL
    subst this
    unfold actL memI
    rw [List.filter_cons]
    by_cases ha : actB S (p, q) = true
    · rw [if_pos ha, ha]; simp
    · rw [if_neg ha]; rw [Bool.not_eq_true] at ha; rw [ha]; simp
end
/-- the two, and how many steps were made -/
structure PI (S0 S1 : LkSt) (q0 q1 : List Sg) (n : Nat) : Prop where
  h : PIg nmN nmM pA pX S0 S1 q0 q1 n
theorem lN : locB nmN 1 pX = false := by decide
theorem lM : locB nmM 1 pA = false := by decide
def LP (w : World) (base b z0 h0 m0 z1 h1 m1 n : Nat) : Prop := ∃ S0 S1 q0 q1, ProtE w base b z0 h0 m0 z1 h1 m1 S0 S1 q0 q1 ∧ PI S0 S1 q0 q1 n
theorem act0 {w : World} {base b z0 h0 m0 z1 h1 m1 n : Nat} (h : LP w base b z0 h0 m0 z1 h1 m1 n) (hb : base ≤ w.heap.size) (hn : n ≤ 1000) (jn : Bool) :
    Calls Tryz.prog 40 #[.pointer (some ⟨b, 0, none⟩), .int .i64 0, .bool jn] w (fun e w' => e = .returned (.bool true) ∧ Below b w w' ∧ LP w' base b z0 h0 m0 z1 h1 m1 (n + 1)) := by
  obtain ⟨S0, S1, q0, q1, ⟨v0, v1, hA⟩, hP⟩ := h
  have hx := hP.h
  have h5 := hx.len
  have h6 := hx.ls
  cases jn
  · refine (actP0 hA hb ⟨hx.s.node, hx.s.gen, hx.last0, by omega⟩ (by omega)).mono ?_
    rintro e w' ⟨rfl, hB, hE⟩
    exact ⟨rfl, hB, _, _, _, _, hE, ⟨hx.part lN⟩⟩
  · refine (actJ0 hA hb ⟨hx.s.node, hx.s.gen, hx.last0, by omega⟩ (by omega)).mono ?_
    rintro e w' ⟨rfl, hB, hE⟩
    exact ⟨rfl, hB, _, _, _, _, hE, ⟨hx.join lN⟩⟩
theorem pass0 {w : World} {base b z0 h0 m0 z1 h1 m1 n : Nat} {S0 S1 : LkSt} {q0 q1 : List Sg} (hE : ProtE w base b z0 h0 m0 z1 h1 m1 S0 S1 q0 q1) (hP : PI S0 S1 q0 q1 n) (hb : base ≤ w.heap.size) (hn : n ≤ 1000) :
    Calls Tryz.prog 39 #[.pointer (some ⟨b, 0, none⟩), .int .i64 0] w (fun e w' => e = .returned (.bool true) ∧ Below b w w' ∧ ∃ S0' S1' q0' q1', ProtE w' base b z0 h0 m0 z1 h1 m1 S0' S1' q0' q1' ∧ PI S0' S1' q0' q1' n ∧ (weigh q0' + weigh q1' < weigh q0 + weigh q1 ∨ (q0 = [] ∧ q0' = q0 ∧ q1' = q1))) := by
  obtain ⟨v0, v1, hA⟩ := hE
  have hx := hP.h
  have h5 := hx.len
  cases hq : q0 with
  | nil =>
    rw [hq] at hA hP
    refine (pass00 hA rfl).mono ?_
    rintro e w' ⟨rfl, rfl⟩
    exact ⟨rfl, Below.refl _ _, _, _, _, _, ⟨_, _, hA⟩, hP, .inr ⟨rfl, rfl, rfl⟩⟩
  | cons s q =>
    rw [hq] at hA hP hx h5
    have hw := weigh_cons s q
    obtain ⟨k, m⟩ := s
    have hk := hx.kinds
    dsimp only at hk hw
    rcases hk with rfl | rfl | rfl
    · refine (pass10 hA hb ⟨hx.s.node, hx.s.gen⟩ (by omega)).mono ?_
      rintro e w' ⟨rfl, hB, hE⟩
      rw [if_neg (by decide)] at hw
      exact ⟨rfl, hB, _, _, _, _, hE, ⟨hx.came⟩, .inl (by omega)⟩
    · refine (pass20 hA hb ⟨hx.s.node, hx.s.gen⟩ (by omega)).mono ?_
      rintro e w' ⟨rfl, hB, hE⟩
      rw [if_pos rfl] at hw
      exact ⟨rfl, hB, _, _, _, _, hE, ⟨hx.fell⟩, .inl (by rw [weigh_ack]; omega)⟩
    · refine (pass30 hA hb ⟨hx.s.node, hx.s.gen⟩ (by omega)).mono ?_
      rintro e w' ⟨rfl, hB, hE⟩
      rw [if_neg (by decide)] at hw
      exact ⟨rfl, hB, _, _, _, _, hE, ⟨hx.ack⟩, .inl (by omega)⟩
theorem act1 {w : World} {base b z0 h0 m0 z1 h1 m1 n : Nat} (h : LP w base b z0 h0 m0 z1 h1 m1 n) (hb : base ≤ w.heap.size) (hn : n ≤ 1000) (jn : Bool) :
    Calls Tryz.prog 40 #[.pointer (some ⟨b, 0, none⟩), .int .i64 1, .bool jn] w (fun e w' => e = .returned (.bool true) ∧ Below b w w' ∧ LP w' base b z0 h0 m0 z1 h1 m1 (n + 1)) := by
  obtain ⟨S0, S1, q0, q1, ⟨v0, v1, hA⟩, hP⟩ := h
  have hx := hP.h.symm
  have h5 := hx.len
  have h6 := hx.ls
  cases jn
  · refine (actP1 hA hb ⟨hx.s.node, hx.s.gen, hx.last0, by omega⟩ (by omega)).mono ?_
    rintro e w' ⟨rfl, hB, hE⟩
    exact ⟨rfl, hB, _, _, _, _, hE, ⟨(hx.part lM).symm⟩⟩
  · refine (actJ1 hA hb ⟨hx.s.node, hx.s.gen, hx.last0, by omega⟩ (by omega)).mono ?_
    rintro e w' ⟨rfl, hB, hE⟩
    exact ⟨rfl, hB, _, _, _, _, hE, ⟨(hx.join lM).symm⟩⟩
theorem pass1 {w : World} {base b z0 h0 m0 z1 h1 m1 n : Nat} {S0 S1 : LkSt} {q0 q1 : List Sg} (hE : ProtE w base b z0 h0 m0 z1 h1 m1 S0 S1 q0 q1) (hP : PI S0 S1 q0 q1 n) (hb : base ≤ w.heap.size) (hn : n ≤ 1000) :
    Calls Tryz.prog 39 #[.pointer (some ⟨b, 0, none⟩), .int .i64 1] w (fun e w' => e = .returned (.bool true) ∧ Below b w w' ∧ ∃ S0' S1' q0' q1', ProtE w' base b z0 h0 m0 z1 h1 m1 S0' S1' q0' q1' ∧ PI S0' S1' q0' q1' n ∧ (weigh q0' + weigh q1' < weigh q0 + weigh q1 ∨ (q1 = [] ∧ q0' = q0 ∧ q1' = q1))) := by
  obtain ⟨v0, v1, hA⟩ := hE
  have hx := hP.h.symm
  have h5 := hx.len
  cases hq : q1 with
  | nil =>
    rw [hq] at hA hP
    refine (pass01 hA rfl).mono ?_
    rintro e w' ⟨rfl, rfl⟩
    exact ⟨rfl, Below.refl _ _, _, _, _, _, ⟨_, _, hA⟩, hP, .inr ⟨rfl, rfl, rfl⟩⟩
  | cons s q =>
    rw [hq] at hA hP hx h5
    have hw := weigh_cons s q
    obtain ⟨k, m⟩ := s
    have hk := hx.kinds
    dsimp only at hk hw
    rcases hk with rfl | rfl | rfl
    · refine (pass11 hA hb ⟨hx.s.node, hx.s.gen⟩ (by omega)).mono ?_
      rintro e w' ⟨rfl, hB, hE⟩
      rw [if_neg (by decide)] at hw
      exact ⟨rfl, hB, _, _, _, _, hE, ⟨(hx.came).symm⟩, .inl (by omega)⟩
    · refine (pass21 hA hb ⟨hx.s.node, hx.s.gen⟩ (by omega)).mono ?_
      rintro e w' ⟨rfl, hB, hE⟩
      rw [if_pos rfl] at hw
      exact ⟨rfl, hB, _, _, _, _, hE, ⟨(hx.fell).symm⟩, .inl (by rw [weigh_ack]; omega)⟩
    · refine (pass31 hA hb ⟨hx.s.node, hx.s.gen⟩ (by omega)).mono ?_
      rintro e w' ⟨rfl, hB, hE⟩
      rw [if_neg (by decide)] at hw
      exact ⟨rfl, hB, _, _, _, _, hE, ⟨(hx.ack).symm⟩, .inl (by omega)⟩
end Go.Proofs.YtnakbepcalciiaaGreat.lk
