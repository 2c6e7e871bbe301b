/- The heap's own Push and Pop. Conditions: the heap of timers lies in memory. -/
import Derived.Test.YtgkiknkifleofaaWalkF
import Derived.Maps.AppendAt
namespace Go.Proofs.Ytgkiknkifleofaa.tm
open Go.RowKit mem TP
set_option linter.unusedVariables false
set_option linter.unusedSimpArgs false
set_option maxHeartbeats 1000000

def ptrV (q : Nat) : Value := .pointer (some ⟨q, 0, none⟩)
/-- the queue of a wheel, the nil one too -/
structure Que (w : World) (b : Nat) (p : Option Nat) (c : Nat) (Q : List Nat) (D : Nat → TD) (x0 x2 : Value) : Prop where
  blk : w.heap[b]? = some (.cells #[x0, .slice (p.map fun g => ⟨g, 0, none⟩) Q.length c, x2] 46 (0, 0))
  own : w.ownsRow 0 56 1 (.slice (p.map fun g => ⟨g, 0, none⟩) Q.length c) Q.length (Q.map ptrV)
  tim : ∀ i, (h : i < Q.length) → w.heap[Q[i]]? = some (.cells #[.int .i64 (D Q[i]).due, .int .i64 (D Q[i]).id, .int .i64 (D Q[i]).num, .int .i64 i] 60 (0, 0))

section
variable {w : World} {b g c : Nat} {p : Option Nat} {Q : List Nat} {D : Nat → TD} {x0 x2 : Value}
theorem Pile.que (h : Pile w b g c Q D x0 x2) : Que w b (some g) c Q D x0 x2 := by
  refine ⟨h.blk, ?_, h.tim⟩
  obtain ⟨cur, h1, h2, h3, h4⟩ := h.row
  refine ⟨by simp, .inr ⟨g, c, cur, rfl, Nat.zero_le _, h1, h3, h.cm, by omega, ?_⟩⟩
  apply List.ext_getElem?
  intro i
  rw [Nat.mul_one, List.getElem?_take]
  by_cases hi : i < Q.length
  · rw [if_pos hi, Array.getElem?_toList, h4 i hi]; simp [hi, ptrV]
  · rw [if_neg hi, List.getElem?_eq_none (by simp; omega)]
theorem Que.pile (h : Que w b (some g) c Q D x0 x2) : Pile w b g c Q D x0 x2 := by
  obtain ⟨hl, ⟨hv, _⟩ | ⟨g', cap, cur, hv, _, hh, hn, hm, hs, ht⟩⟩ := h.own
  · simp at hv
  · simp only [Option.map_some, Value.slice.injEq, Option.some.injEq, Addr.mk.injEq, and_true, true_and] at hv
    obtain ⟨rfl, rfl⟩ := hv
    refine ⟨h.blk, ⟨cur, hh, by omega, hn, fun i hi => ?_⟩, h.tim, hm⟩
    have := congrArg (fun l => l[i]?) ht
    simp only [Nat.mul_one, List.getElem?_take, hi, if_true, Array.getElem?_toList] at this
    rw [this]; simp [hi, ptrV]
theorem Que.nil (h : Que w b none c Q D x0 x2) : Q = [] ∧ c = 0 := by
  obtain ⟨hl, ⟨hv, hn⟩ | ⟨g', cap, cur, hv, _⟩⟩ := h.own
  · simp at hv; exact ⟨List.length_eq_zero_iff.1 hn, by simpa using hv.2⟩
  · simp at hv
end
theorem ptr_one (t : Nat) : ∀ u ∈ [ptrV t], u.oneCell' = true := by
  intro u hu; simp at hu; subst hu; rfl
theorem one_new (w : World) (x : Value) (t : TypeId) : ∀ (j : Nat) (u : Value), [x][j]? = some u → (w.alloc (.cells #[x] t)).cell? ((⟨w.heap.size, 0, none⟩ : Addr).add j) = some u := by
  intro j u hju
  cases j with
  | zero => simp at hju; subst hju; simp [Addr.add, World.cell?_alloc_new]
  | succ j => simp at hju
theorem row_shape {w : World} {base : Nat} {e : TypeId} {size : Nat} {v : Value} {n : Nat} {xs : List Value} (h : w.ownsRow base e size v n xs) : ∃ p c, v = .slice (Option.map (fun g => (⟨g, 0, none⟩ : Addr)) p) n c := by
  obtain ⟨_, ⟨rfl, rfl⟩ | ⟨g, cap, cur, rfl, _⟩⟩ := h
  · exact ⟨none, 0, rfl⟩
  · exact ⟨some g, cap, rfl⟩
theorem info56 : (Try.prog.info? 56).map (fun i => (i.zero, i.size, i.bytes)) = some (some (.pointer none), 1, 8) := by kernel_rfl

theorem push_end {w w4 : World} {b c t c4 : Nat} {p p4 : Option Nat} {Q : List Nat} {D : Nat → TD} {x0 x2 v3 : Value} (h : Que w b p c Q D x0 x2)
    (ht : w.heap[t]? = some (.cells #[.int .i64 (D t).due, .int .i64 (D t).id, .int .i64 (D t).num, v3] 60 (0, 0))) (hne : t ∉ Q)
    (hpt : ∀ k, (Value.slice (p.map fun g => (⟨g, 0, none⟩ : Addr)) Q.length c).ownBlock = some k → p = some k ∧ k ≠ t ∧ k ≠ b ∧ k < w.heap.size)
    (hg : ((w.setCell ⟨t, 3, none⟩ (.int .i64 Q.length)).alloc (.cells #[.pointer (some ⟨t, 0, none⟩)] 56)).grownBy w4 (Value.slice (p.map fun g => (⟨g, 0, none⟩ : Addr)) Q.length c).ownBlock)
    (hown : w4.ownsRow 0 56 1 (.slice (p4.map fun g => ⟨g, 0, none⟩) (Q.length + 1) c4) (Q.length + 1) (Q.map ptrV ++ [ptrV t]))
    (hat : (Value.slice (p4.map fun g => (⟨g, 0, none⟩ : Addr)) (Q.length + 1) c4).ownBlock = (Value.slice (p.map fun g => (⟨g, 0, none⟩ : Addr)) Q.length c).ownBlock ∨ (Value.slice (p4.map fun g => (⟨g, 0, none⟩ : Addr)) (Q.length + 1) c4).ownBlock = some ((w.setCell ⟨t, 3, none⟩ (.int .i64 Q.length)).alloc (.cells #[.pointer (some ⟨t, 0, none⟩)] 56)).heap.size)
    (hb4 : w4.heap[b]? = some (.cells #[x0, .slice (p.map fun g => ⟨g, 0, none⟩) Q.length c, x2] 46 (0, 0))) (htb : t ≠ b) :
    ∃ p' c', Que (w4.setCell ⟨b, 1, none⟩ (.slice (p4.map fun g => ⟨g, 0, none⟩) (Q.length + 1) c4)) b p' c' (Q ++ [t]) D x0 x2 ∧ TouchB (fun k => k = b ∨ k = t ∨ p = some k) w (w4.setCell ⟨b, 1, none⟩ (.slice (p4.map fun g => ⟨g, 0, none⟩) (Q.length + 1) c4)) ∧ (p' = p ∨ ∃ k, p' = some k ∧ w.heap.size ≤ k) := by
  have hbs : b < w.heap.size := (Array.getElem?_eq_some_iff.1 h.blk).1
  have hts : t < w.heap.size := (Array.getElem?_eq_some_iff.1 ht).1
  have hlen : (Q ++ [t]).length = Q.length + 1 := by simp
  have hkeep : ∀ k, k < w.heap.size → k ≠ t → p ≠ some k → w4.heap[k]? = w.heap[k]? := by
    intro k hk h1 h2
    rw [hg.block k (by simp; omega) (fun e => h2 (hpt k e.symm).1), Below.heap_alloc _ _ _ (by simpa using hk), Below.heap_setCell _ _ _ _ h1]
  have hpb : ∀ q, q ∈ Q → q ≠ b ∧ p ≠ some q ∧ q < w.heap.size := by
    intro q hq
    obtain ⟨i, hi, rfl⟩ := List.mem_iff_getElem.1 hq
    have h1 := h.tim i hi
    refine ⟨fun e => ?_, fun e => ?_, (Array.getElem?_eq_some_iff.1 h1).1⟩
    · rw [e, h.blk] at h1; simp at h1
    · obtain ⟨hl, ⟨hv, _⟩ | ⟨g', cap, cur, hv, _, hh, _⟩⟩ := h.own
      · rw [e] at hv; simp at hv
      · rw [e] at hv; simp at hv; rw [hv.1, hh] at h1; simp at h1
  have hpt2 : p ≠ some t := by
    intro e
    have := hpt t (by rw [e]; rfl)
    exact this.2.1 rfl
  refine ⟨p4, c4, ⟨?_, ?_, ?_⟩, ?_, ?_⟩
  · rw [block_setCell _ _ _ _ _ _ _ hb4, hlen]; rfl
  · rw [hlen, List.map_append]
    refine row_same hown (fun k hk => Below.heap_setCell _ _ _ _ (fun e => ?_))
    rcases hat with e1 | e1
    · rw [e1] at hk; exact (hpt k hk).2.2.1 e
    · rw [e1] at hk; simp at hk; simp at e; omega
  · intro i hi
    rw [hlen] at hi
    by_cases hiq : i < Q.length
    · have hq := hpb Q[i] (List.getElem_mem hiq)
      have hqt : Q[i] ≠ t := fun e => hne (e ▸ List.getElem_mem hiq)
      rw [List.getElem_append_left hiq, Below.heap_setCell _ _ _ _ hq.1, hkeep _ hq.2.2 hqt hq.2.1]
      exact h.tim i hiq
    · obtain rfl : i = Q.length := by omega
      rw [List.getElem_append_right (Nat.le_refl _)]
      simp only [Nat.sub_self, List.getElem_cons_zero]
      rw [Below.heap_setCell _ _ _ _ htb, hg.block t (by simp; omega) (fun e => hpt2 (hpt t e.symm).1), Below.heap_alloc _ _ _ (by simpa using hts), block_setCell _ _ _ _ _ _ _ ht]
      rfl
  · refine ⟨hg.os, hg.tape, hg.output, ?_, ?_⟩
    · have := hg.size; simp at this ⊢; omega
    · intro k hk hn
      rw [Below.heap_setCell _ _ _ _ (fun e => hn (.inl e)), hkeep k hk (fun e => hn (.inr (.inl e))) (fun e => hn (.inr (.inr e)))]
  · rcases hat with e1 | e1
    · left
      cases p4 with
      | none => cases p with
        | none => rfl
        | some g => simp [Value.ownBlock] at e1
      | some g4 => cases p with
        | none => simp [Value.ownBlock] at e1
        | some g => simp [Value.ownBlock] at e1; rw [e1]
    · right
      cases p4 with
      | none => simp [Value.ownBlock] at e1
      | some g4 => simp [Value.ownBlock] at e1; exact ⟨g4, rfl, by omega⟩

set_option maxRecDepth 100000 in
theorem pushM {w : World} {b c t : Nat} {p : Option Nat} {Q : List Nat} {D : Nat → TD} {x0 x2 v3 : Value} (h : Que w b p c Q D x0 x2) (hmax : Q.length < 1000)
    (ht : w.heap[t]? = some (.cells #[.int .i64 (D t).due, .int .i64 (D t).id, .int .i64 (D t).num, v3] 60 (0, 0))) (hne : t ∉ Q) :
    Calls Try.prog 80 #[.pointer (some ⟨b, 1, none⟩), .iface 56 (ptrV t)] w fun e w' => e = .returned (.tuple #[]) ∧ ∃ p' c', Que w' b p' c' (Q ++ [t]) D x0 x2 ∧ TouchB (fun k => k = b ∨ k = t ∨ p = some k) w w' ∧ (p' = p ∨ ∃ k, p' = some k ∧ w.heap.size ≤ k) := by
  have c1 : w.cell? ⟨b, 1, none⟩ = some (.slice (p.map fun g => ⟨g, 0, none⟩) Q.length c) := by simp [World.cell?, h.blk]
  have c3 : w.cell? ⟨t, 3, none⟩ = some v3 := by simp [World.cell?, ht]
  have f3 : w.frozen? ⟨t, 3, none⟩ = false := by simp [World.frozen?, ht]
  have htb : t ≠ b := by intro e; subst e; rw [h.blk] at ht; simp at ht
  obtain ⟨i0, hi, hz0, hz1, hz2⟩ := info_parts info56
  have hta : ∀ (v : Value) (w : World), (Instr.typeAssert (.iface 56 v) 20 56 true).run Try.prog w = .ok (.tuple #[v, .bool true]) w := fun v w => by kernel_rfl
  have hpt : ∀ k, (Value.slice (p.map fun g => (⟨g, 0, none⟩ : Addr)) Q.length c).ownBlock = some k → p = some k ∧ k ≠ t ∧ k ≠ b ∧ k < w.heap.size := by
    intro k hk
    have hlt := (h.own.lt k hk).2
    obtain ⟨hl, ⟨hv, _⟩ | ⟨g', cap, cur, hv, _, hh, _⟩⟩ := h.own
    · rw [hv] at hk; simp [Value.ownBlock] at hk
    · rw [hv] at hk; simp [Value.ownBlock] at hk; subst hk
      refine ⟨?_, ?_, ?_, hlt⟩
      · cases p with
        | none => simp at hv
        | some g => simp at hv; rw [hv.1]
      · intro e; subst e; rw [ht] at hh; simp at hh
      · intro e; subst e; rw [h.blk] at hh; simp at hh
  have hpn : ∀ k, p = some k → (Value.slice (p.map fun g => (⟨g, 0, none⟩ : Addr)) Q.length c).ownBlock = some k := by
    intro k hk; subst hk; rfl
  have hown1 : (w.setCell ⟨t, 3, none⟩ (.int .i64 Q.length)).ownsRow 0 56 1 (.slice (p.map fun g => ⟨g, 0, none⟩) Q.length c) Q.length (Q.map ptrV) :=
    row_same h.own (fun k hk => Below.heap_setCell _ _ _ _ (hpt k hk).2.1)
  have hnew : ∀ (j : Nat) (u : Value), [ptrV t][j]? = some u → ((w.setCell ⟨t, 3, none⟩ (.int .i64 Q.length)).alloc (.cells #[.pointer (some ⟨t, 0, none⟩)] 56)).cell? ((⟨w.heap.size, 0, none⟩ : Addr).add j) = some u := by
    have := one_new (w.setCell ⟨t, 3, none⟩ (.int .i64 Q.length)) (ptrV t) 56
    rw [World.size_setCell] at this; exact this
  have hblk1 : (w.setCell ⟨t, 3, none⟩ (.int .i64 Q.length)).heap[b]? = some (.cells #[x0, .slice (p.map fun g => ⟨g, 0, none⟩) Q.length c, x2] 46 (0, 0)) := by
    rw [Below.heap_setCell _ _ _ _ (fun e => htb e.symm)]; exact h.blk
  have hbs : b < w.heap.size := (Array.getElem?_eq_some_iff.1 h.blk).1
  have hgr : ∀ w3 : World, ((w.setCell ⟨t, 3, none⟩ (.int .i64 Q.length)).alloc (.cells #[.pointer (some ⟨t, 0, none⟩)] 56)).grownBy w3 (Value.slice (p.map fun g => (⟨g, 0, none⟩ : Addr)) Q.length c).ownBlock →
      w3.heap[b]? = some (.cells #[x0, .slice (p.map fun g => ⟨g, 0, none⟩) Q.length c, x2] 46 (0, 0)) := by
    intro w3 hg
    rw [hg.block b (by simp; omega) (fun e => (hpt b e.symm).2.2.1 rfl), Below.heap_alloc _ _ _ (by simpa using hbs)]
    exact hblk1
  have HPT := Lib.hid hpt
  have HO := Lib.hid hown1
  have HN := Lib.hid hnew
  have HG := Lib.hid hgr
  clear hpt hown1 hnew hgr hblk1
  have HH := Lib.hid h
  have HT := Lib.hid ht
  clear h ht
  unfold ptrV
  go_enter Try.func80, Try.ntmps80
  go_wp2_with (at_builtin; refine wpList_append_own_at _ rfl _ _ 44 rfl 0 56 i0 (.pointer none) 1 8 Try.underlying44 hi hz0 hz1 hz2 rfl (by decide) (.slice (p.map fun g => ⟨g, 0, none⟩) Q.length c) Q.length (Q.map ptrV) rfl (HO.out.alloc _) ⟨w.heap.size, 0, none⟩ 1 1 [ptrV t] rfl rfl HN.out (ptr_one t) (by unfold maxLen; omega) (by omega) (Nat.zero_le _) ?_; intro v4 w4 hown4 hg4 _ hat4; obtain ⟨p4, c4, rfl⟩ := row_shape hown4; have h14 := HG.out w4 hg4; have hc14 : w4.cell? ⟨b, 1, none⟩ = some (.slice (p.map fun g => ⟨g, 0, none⟩) Q.length c) := (by simp [World.cell?, h14]); have hf14 : w4.frozen? ⟨b, 1, none⟩ = false := (by simp [World.frozen?, h14]); have H14 := Lib.hid h14; clear h14)
  go_end0
  refine ⟨rfl, ?_⟩
  exact push_end HH.out HT.out hne HPT.out hg4 hown4 hat4 H14.out htb
end Go.Proofs.Ytgkiknkifleofaa.tm
