/- The reference's wheel: Drop and Take. Conditions: the wheel lies in memory. -/
import Derived.Test.YtgkiknkifleofaaRefC
namespace Go.Proofs.Ytgkiknkifleofaa.tm
open Go.RowKit mem TP
set_option linter.unusedVariables false
set_option linter.unusedSimpArgs false
set_option maxHeartbeats 1000000
set_option maxRecDepth 100000

theorem drop_pos {A : List TD} (hn : (A.map (·.id)).Nodup) {id : Int} {k : Nat} (h : pos A id = some k) : dropT A id = A.take k ++ A.drop (k + 1) := by
  obtain ⟨hk, he, hb⟩ := pos_some h
  unfold dropT
  conv => lhs; rw [← List.take_append_drop k A, List.drop_eq_getElem_cons hk]
  rw [List.filter_append, List.filter_cons_of_neg (by simpa using he)]
  congr 1
  · rw [List.filter_eq_self]
    intro x hx
    obtain ⟨j, hj, rfl⟩ := List.mem_iff_getElem.1 hx
    rw [List.length_take] at hj
    rw [List.getElem_take]
    simpa using hb j (by omega)
  · rw [List.filter_eq_self]
    intro x hx
    obtain ⟨j, hj, rfl⟩ := List.mem_iff_getElem.1 hx
    rw [List.length_drop] at hj
    rw [List.getElem_drop]
    have := List.pairwise_iff_getElem.1 hn k (k + 1 + j) (by simpa using hk) (by simp; omega) (by omega)
    simp at this
    have h3 : A[k + 1 + j].id ≠ id := fun e => this (he.trans e.symm)
    simpa using h3
theorem drop_none {A : List TD} {id : Int} (h : pos A id = none) : dropT A id = A := by
  unfold dropT
  rw [List.filter_eq_self]
  intro x hx
  obtain ⟨j, hj, rfl⟩ := List.mem_iff_getElem.1 hx
  simpa using pos_none h j hj
def RDropPost (b : Nat) (A : List TD) (G : Nat → Prop) (id : Int) (w : World) (e : Ending) (w' : World) : Prop := e = .returned (.tuple #[.int .i64 (((findT A id).map (·.due)).getD 0), .bool (findT A id).isSome]) ∧ RPost b (dropT A id) G w w'
theorem RDrop {w : World} {b c : Nat} {A : List TD} {p : Option Addr} {G : Nat → Prop} (h : RefW w b A p c G) (hn : (A.map (·.id)).Nodup) (id : Int) : Calls Try.prog 31 #[.pointer (some ⟨b, 0, none⟩), .int .i64 id] w (RDropPost b A G id w) := by
  obtain ⟨i0, hinf, hz0, hz1, hz2⟩ := info_parts info80
  obtain ⟨c0, f0⟩ := h.c0
  have hlen := h.len
  have hbl := h.lt b h.inb
  have hf := RFind h id
  unfold RDropPost
  rw [find_pos hn id]
  unfold posI at hf
  cases hp : pos A id with
  | none =>
    rw [hp] at hf
    dsimp only at hf
    rw [drop_none hp]
    have hfin := R.still h
    go_enter Try.func31, Try.ntmps31
    go_wp2_with fail
    refine hf.mono ?_
    rintro e w1 ⟨rfl, rfl⟩
    clear hf
    go_wp2_with fail
    go_ret2
    exact ⟨rfl, hfin⟩
  | some k =>
    rw [hp] at hf
    dsimp only at hf
    obtain ⟨hk, _, _⟩ := pos_some hp
    obtain ⟨g, rfl, hcl, hcm, hx⟩ := h.at_ hk
    have x0 := (hx k hk).1
    have hgo : ((some k).bind fun k => A[k]?) = some A[k] := by simp [List.getElem?_eq_getElem hk]
    rw [hgo, drop_pos hn hp]
    have hfin : ∀ (w2 : World) (v : Value), Below w.heap.size w w2 → w2.ownsRow w.heap.size 80 2 v (k + (A.length - (k + 1))) (tdV (A.take k) ++ tdV (A.drop (k + 1))) → RPost b (A.take k ++ A.drop (k + 1)) G w (w2.setCell ⟨b, 0, none⟩ v) := by
      intro w2 v hb hr
      have hl : (A.take k ++ A.drop (k + 1)).length = k + (A.length - (k + 1)) := by simp; omega
      exact ref_end h hb (by rw [hl, tdV_app]; exact hr) (by rw [hl]; omega)
    have HFIN := Lib.hid hfin; clear hfin
    unfold maxLen at hcm
    clear hx hgo hp hn
    generalize A[k] = x at *
    by_cases hck : c = k + 1
    · subst hck
      have hAl : A.length = k + 1 := by omega
      rw [hAl] at c0
      have hgl := h.lt g (h.inr g rfl).1
      have P1 := Lib.hid (part_cell h k (by omega)).1
      have hs2' : (tdV (A.take k)).length = k * 2 := by rw [tdV_len, List.length_take]; omega
      have L2 := Lib.hid hs2'; clear hs2'
      have hdr : tdV (A.drop (k + 1)) = [] := by rw [List.drop_of_length_le (by omega)]; rfl
      have HDR := Lib.hid hdr; clear hdr
      have HAL := Lib.hid hAl; clear hAl
      have C0 := Lib.hid c0
      have F0 := Lib.hid f0
      go_enter Try.func31, Try.ntmps31
      go_wp2_with fail
      refine hf.mono ?_
      rintro e w1 ⟨rfl, rfl⟩
      clear hf
      go_wp2_with (first
        | (at_builtin; refine wpList_append_own_at _ rfl (.tmp 22) (.tmp 28) 49 rfl w.heap.size 80 i0 (.agg #[.int .i64 0, .int .i64 0]) 2 16 Try.underlying49 hinf hz0 hz1 hz2 rfl (by decide) (.slice none 0 0) 0 [] rfl (World.ownsRow_nil _ _ _ _) ⟨g, 0, none⟩ (k) (k + 1) (tdV (A.take k)) rfl L2.out P1.out (tdV_one _) (by unfold maxLen; omega) (by omega) (Nat.le_refl _) ?_; intro v1 w2 hr1 hg1 _ _; simp only [Nat.zero_add, List.nil_append] at hr1; have hb2 : Below w.heap.size w w2 := (Below.refl _ _).grown hg1 (Nat.le_refl _) (fun g hg => by simp [Value.ownBlock] at hg); have hs2 := hb2.size; have d2 : w2.cell? ⟨b, 0, none⟩ = some _ := (hb2.cell (p := ⟨b, 0, none⟩) hbl).trans C0.out; clear hg1)
        | (at_builtin; refine wpList_append_own_at _ rfl (.tmp 31) (.tmp 38) 49 rfl w.heap.size 80 i0 (.agg #[.int .i64 0, .int .i64 0]) 2 16 Try.underlying49 hinf hz0 hz1 hz2 rfl (by decide) v1 _ _ rfl hr1 _ 0 _ [] rfl rfl (fun j u hj => by simp at hj) (by simp) (by unfold maxLen; omega) (by omega) hs2 ?_; intro v3 w4 hr3 hg3 _ _; have hb4 : Below w.heap.size w w4 := hb2.trans ((Below.refl _ _).grown hg3 hs2 (fun g hg => (World.ownsRow.lt (h := hr1) g hg).1)); have d4 : w4.cell? ⟨b, 0, none⟩ = some _ := (hb4.cell (p := ⟨b, 0, none⟩) hbl).trans C0.out; have e4 : w4.frozen? ⟨b, 0, none⟩ = false := (hb4.frozen (p := ⟨b, 0, none⟩) hbl).trans F0.out; obtain ⟨p4, c4, rfl⟩ := row_shape hr3; clear hg3 hr1))
      go_ret2
      exact ⟨rfl, HFIN.out w4 _ hb4 (by rw [HDR.out, HAL.out, Nat.sub_self]; exact hr3)⟩
    · have hck2 : k + 1 < c := by omega
      have hgl := h.lt g (h.inr g rfl).1
      have P1 := Lib.hid (part_cell h k (by omega)).1
      have hs2' : (tdV (A.take k)).length = k * 2 := by rw [tdV_len, List.length_take]; omega
      have L2 := Lib.hid hs2'; clear hs2'
      have P2 := Lib.hid (part_cell h (k + 1) (by omega)).2
      have hs3' : (tdV (A.drop (k + 1))).length = (A.length - (k + 1)) * 2 := by rw [tdV_len, List.length_drop]
      have L3 := Lib.hid hs3'; clear hs3'
      have C0 := Lib.hid c0
      have F0 := Lib.hid f0
      go_enter Try.func31, Try.ntmps31
      go_wp2_with fail
      refine hf.mono ?_
      rintro e w1 ⟨rfl, rfl⟩
      clear hf
      go_wp2_with (first
        | (at_builtin; refine wpList_append_own_at _ rfl (.tmp 22) (.tmp 28) 49 rfl w.heap.size 80 i0 (.agg #[.int .i64 0, .int .i64 0]) 2 16 Try.underlying49 hinf hz0 hz1 hz2 rfl (by decide) (.slice none 0 0) 0 [] rfl (World.ownsRow_nil _ _ _ _) ⟨g, 0, none⟩ (k) c (tdV (A.take k)) rfl L2.out P1.out (tdV_one _) (by unfold maxLen; omega) (by omega) (Nat.le_refl _) ?_; intro v1 w2 hr1 hg1 _ _; simp only [Nat.zero_add, List.nil_append] at hr1; have hb2 : Below w.heap.size w w2 := (Below.refl _ _).grown hg1 (Nat.le_refl _) (fun g hg => by simp [Value.ownBlock] at hg); have hs2 := hb2.size; have d2 : w2.cell? ⟨b, 0, none⟩ = some _ := (hb2.cell (p := ⟨b, 0, none⟩) hbl).trans C0.out; clear hg1)
        | (at_builtin; refine wpList_append_own_at _ rfl (.tmp 31) (.tmp 38) 49 rfl w.heap.size 80 i0 (.agg #[.int .i64 0, .int .i64 0]) 2 16 Try.underlying49 hinf hz0 hz1 hz2 rfl (by decide) v1 _ _ rfl hr1 ⟨g, (k + 1) * 2, none⟩ (A.length - (k + 1)) (c - (k + 1)) (tdV (A.drop (k + 1))) rfl L3.out (fun j u hj => by have h1 := P2.out j u hj; rw [Addr.add_lit] at h1 ⊢; exact (hb2.cell (p := ⟨g, _, none⟩) hgl).trans h1) (tdV_one _) (by unfold maxLen; omega) (by omega) hs2 ?_; intro v3 w4 hr3 hg3 _ _; have hb4 : Below w.heap.size w w4 := hb2.trans ((Below.refl _ _).grown hg3 hs2 (fun g hg => (World.ownsRow.lt (h := hr1) g hg).1)); have d4 : w4.cell? ⟨b, 0, none⟩ = some _ := (hb4.cell (p := ⟨b, 0, none⟩) hbl).trans C0.out; have e4 : w4.frozen? ⟨b, 0, none⟩ = false := (hb4.frozen (p := ⟨b, 0, none⟩) hbl).trans F0.out; obtain ⟨p4, c4, rfl⟩ := row_shape hr3; clear hg3 hr1))
      go_ret2
      exact ⟨rfl, HFIN.out w4 _ hb4 hr3⟩
end Go.Proofs.Ytgkiknkifleofaa.tm
