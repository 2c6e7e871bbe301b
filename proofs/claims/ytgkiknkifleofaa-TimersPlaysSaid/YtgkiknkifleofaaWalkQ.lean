/- slices.SortFunc over timers. Conditions: the timers lie in memory. -/
import Derived.Test.YtgkiknkifleofaaWalkS
import Derived.Test.YtgkiknkifleofaaLaid
import Derived.Lib.OwnBridge
namespace Go.Proofs.Ytgkiknkifleofaa.tm
open Go.RowKit mem TP Go.Sort
set_option linter.unusedVariables false
set_option linter.unusedSimpArgs false
set_option maxHeartbeats 1000000
set_option maxRecDepth 100000

theorem before2 (p q : Nat) (x y : TD) (w : World) (h1 : w.cell? ⟨p, 0, none⟩ = some (.int .i64 x.due)) (h2 : w.cell? ⟨p, 2, none⟩ = some (.int .i64 x.num)) (h3 : w.cell? ⟨q, 0, none⟩ = some (.int .i64 y.due)) (h4 : w.cell? ⟨q, 2, none⟩ = some (.int .i64 y.num)) :
    Calls Try.prog 26 #[.pointer (some ⟨p, 0, none⟩), .pointer (some ⟨q, 0, none⟩)] w fun e w' => e = .returned (.int .i64 (cmpT x y)) ∧ ∃ m os, w' = grow (w.drewN m) os := by
  go_enter Try.func26, Try.ntmps26
  go_wp2_with fail
  go_region_held3 (fun w' => w'.cell? ⟨p, 0, none⟩ = some (.int .i64 x.due) ∧ w'.cell? ⟨p, 2, none⟩ = some (.int .i64 x.num) ∧ w'.cell? ⟨q, 0, none⟩ = some (.int .i64 y.due) ∧ w'.cell? ⟨q, 2, none⟩ = some (.int .i64 y.num)) (go_keep)
    (first
      | (go_at_call 39; refine (Compare _ _ _).mono ?_; rintro e w' ⟨rfl, rfl⟩)
      | (go_at_call 38; refine (Or_new _ _ _).mono ?_; rintro e w' ⟨rfl, rfl⟩))
  go_wp2_with fail
  go_ret
  refine ⟨rfl, 1, #[.cells #[.int .i64 (cmpI x.due y.due), .int .i64 (cmpI x.num y.num)] 3], ?_⟩
  rw [alloc_eq_grow]; rfl

section
variable {Q : List Nat} {D : Nat → TD}
def encQ (q : { q // q ∈ Q }) : Value := ptrV q.1
def cfQ (D : Nat → TD) (x y : { q // q ∈ Q }) : Int := cmpT (D x.1) (D y.1)
theorem swoQ : SWO (ltOf (cfQ (Q := Q) D)) where
  irrefl x := by unfold ltOf cfQ; rw [decide_eq_false_iff_not, cmpT_lt]; omega
  trans x y z h1 h2 := by
    unfold ltOf cfQ at *; rw [decide_eq_true_iff, cmpT_lt] at *; omega
  ntrans x y z h1 h2 := by
    unfold ltOf cfQ at *; rw [decide_eq_false_iff_not, cmpT_lt] at *; omega
end
theorem cell_sort {α : Type} [Inhabited α] (enc : α → Value) (w : World) (blk off m : Nat) (dk : Array α) (os : Array Obj) (a : Addr) (ha : a.block < w.heap.size) (hne : a.block ≠ blk) :
    (sortWorld enc w blk off m dk os).cell? a = w.cell? a := by
  unfold sortWorld
  rw [cell?_grow _ _ _ (by rw [Sort.size_putRow]; exact ha), cell?_putRow_other _ _ _ _ _ _ (.inl hne)]
  rfl
theorem sort_touch {α : Type} [Inhabited α] (enc : α → Value) (w : World) (blk off m : Nat) (dk : Array α) (os : Array Obj) : TouchB (fun k => k = blk) w (sortWorld enc w blk off m dk os) := by
  unfold sortWorld
  refine ⟨rfl, rfl, rfl, ?_, fun k hk hn => ?_⟩
  · rw [size_grow, Sort.size_putRow]; exact Nat.le_add_right _ _
  · rw [heap_grow_old _ _ (by rw [Sort.size_putRow]; exact hk)]
    simp [putRow, mapBlock, Sort.ahead, Array.getElem?_modify, show blk ≠ k from fun e => hn e.symm]

theorem sortM : SortS := by
  intro w blk c Q D base hq0 hmax hown hdat
  have hpos := List.length_pos_iff.2 hq0
  haveI : Inhabited { q // q ∈ Q } := ⟨⟨Q[0], List.getElem_mem hpos⟩⟩
  have hrow : (Q.attach.map encQ) = Q.map ptrV := by
    unfold encQ
    have : (fun q : { q // q ∈ Q } => ptrV q.1) = ptrV ∘ Subtype.val := rfl
    rw [this, ← List.map_map, List.attach_map_subtype_val]
  rw [← hrow] at hown
  obtain ⟨g, cap, e, _, hlt, hcap, _, hl, hH⟩ := Lib.holds_of_ownsRow hown (by simp)
  simp only [Value.slice.injEq, Option.some.injEq, Addr.mk.injEq] at e
  obtain ⟨⟨rfl, _⟩, _, rfl⟩ := e
  have hsz : Q.attach.toArray.size = Q.length := by simp
  have hcmp : CmpLays1 (α := { q // q ∈ Q }) Try.prog 26 #[] encQ (cfQ D) blk 0 Q.attach.toArray.size w := by
    intro m os dk hs x y
    obtain ⟨n1, s1, d1, m1⟩ := hdat x.1 x.2
    obtain ⟨n2, s2, d2, m2⟩ := hdat y.1 y.2
    exact before2 x.1 y.1 (D x.1) (D y.1) _ ((cell_sort _ _ _ _ _ _ _ _ s1 n1).trans d1) ((cell_sort _ _ _ _ _ _ _ _ s1 n1).trans m1) ((cell_sort _ _ _ _ _ _ _ _ s2 n2).trans d2) ((cell_sort _ _ _ _ _ _ _ _ s2 n2).trans m2)
  have eg : ∀ args w, (callFunc 26 args).run Try.prog w = .ok (.enter 26 args) w := enters_of Try.func26 (by kernel_rfl) rfl
  have hlim : Lib.bitLen Q.attach.toArray.size < 4611686018427387904 := Nat.lt_of_le_of_lt (Lib.bitLen_le _ 62 (by omega) (by rw [hsz]; omega)) (by omega)
  have hp := Any.pdqsortCmpFunc_all (α := { q // q ∈ Q }) Try.pdqL encQ (cfQ D) 26 #[] swoQ blk 0 c Q.attach.toArray w eg hcmp ⟨fun _ => rfl, hH, hlt⟩ (Q.length + 1) 0 Q.attach.toArray.size (Lib.bitLen Q.attach.toArray.size) Q.attach.toArray w (by omega) rfl (SW.start hH) (Nat.zero_le _) (Nat.le_refl _) (by rw [hsz]; omega) hlim (Or.inl rfl)
  have hsort := pdq_sorts (ltOf (cfQ (Q := Q) D)) swoQ Q.attach.toArray 0 Q.attach.toArray.size (Lib.bitLen Q.attach.toArray.size) true true (Nat.zero_le _) (Nat.le_refl _) (Or.inl rfl)
  have hl : Calls Try.prog 37 #[.int .u64 (Q.length : Int)] w fun e w' => e = .returned (.int .i64 (Lib.bitLen Q.length : Nat)) ∧ w' = w := by
    have h := Any.bits_Len (SlLaysF0.n15.bits (P := Try.prog) (ρ := Try.pdqL_ren) { Try.pdqL with }) (Q.length : Int) w (by omega) (by omega)
    rw [Int.toNat_natCast] at h
    exact h
  have wr : IntKind.u64.wrap (Q.length : Int) = Q.length := by simp [IntKind.wrap, IntKind.bits, IntKind.signed]; omega
  rw [hsz] at hp hsort
  change Calls Try.prog 36 _ _ _ at hp
  have HS := Lib.hid hsort; clear hsort
  generalize pdq (ltOf (cfQ (Q := Q) D)) Q.attach.toArray 0 Q.length (Lib.bitLen Q.length) true true = d' at *
  have HH := Lib.hid hH; clear hH
  have HD := Lib.hid hdat; clear hdat
  clear hcmp eg hown hrow hlim
  go_enter Try.func25, Try.ntmps25
  go_wp2_with (first | (go_at_call 37; refine hl.mono ?_; rintro e w' ⟨rfl, rfl⟩) | (go_at_call 36; refine hp.mono ?_; rintro e w' ⟨rfl, n, os, rfl⟩))
  go_end0
  have h1 := HS.out
  obtain ⟨h2, h3⟩ := h1
  obtain ⟨h4, _, h5⟩ := h2
  refine ⟨rfl, d'.toList.map (·.1), ?_, ?_, ?_, sort_touch _ _ _ _ _ _ _⟩
  · have e1 : d'.extract 0 Q.length = d' := by rw [← hsz, ← h4]; simp
    have e2 : Q.attach.toArray.extract 0 Q.length = Q.attach.toArray := by rw [← hsz]; exact Array.extract_size
    rw [e1, e2] at h5
    have := h5.map (·.1)
    simpa using this
  · rw [List.pairwise_map, List.pairwise_iff_getElem]
    intro i j hi hj hij
    have h6 := h3 i j (Nat.zero_le _) hij (by simp at hj; omega)
    rw [getElem!_pos _ j (by simpa using hj), getElem!_pos _ i (by simpa using hi)] at h6
    unfold ltOf cfQ at h6
    simpa using h6
  · intro j hj
    have hj' : j < d'.size := by simpa using hj
    have := (holds_sortWorld (α := { q // q ∈ Q }) encQ _ blk 0 n Q.attach.toArray d' os hlt HH.out h4 j hj').1
    rw [Nat.zero_add, getElem!_pos d' j hj'] at this
    rw [this]
    simp [encQ]
theorem sort0 : Sort0 := by
  intro w p c
  have hl : ∀ W, Calls Try.prog 37 #[.int .u64 0] W fun e w' => e = .returned (.int .i64 (Lib.bitLen 0 : Nat)) ∧ w' = W := fun W =>
    Any.bits_Len (SlLaysF0.n15.bits (P := Try.prog) (ρ := Try.pdqL_ren) { Try.pdqL with }) 0 W (by omega) (by omega)
  go_enter Try.func25, Try.ntmps25
  go_wp2_with (first | (go_at_call 37; refine (hl _).mono ?_; rintro e w' ⟨rfl, rfl⟩) | (go_at_call 36; refine (pdq0 _ _ _ _ _).mono ?_; rintro e w' ⟨rfl, rfl⟩))
  go_end0
  exact ⟨rfl, rfl⟩
end Go.Proofs.Ytgkiknkifleofaa.tm
