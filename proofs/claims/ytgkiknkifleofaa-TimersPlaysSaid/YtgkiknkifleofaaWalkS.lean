/- List. Conditions: the wheel was made by New; slices.SortFunc's contract. -/
import Derived.Test.YtgkiknkifleofaaWalkR
namespace Go.Proofs.Ytgkiknkifleofaa.tm
open Go.RowKit mem TP
set_option linter.unusedVariables false
set_option linter.unusedSimpArgs false
set_option maxHeartbeats 1000000
set_option maxRecDepth 100000

def SortS : Prop := ∀ (w : World) (blk c : Nat) (Q : List Nat) (D : Nat → TD) (base : Nat), Q ≠ [] → Q.length ≤ 1000 →
  w.ownsRow base 56 1 (.slice (some ⟨blk, 0, none⟩) Q.length c) Q.length (Q.map ptrV) →
  (∀ q ∈ Q, q ≠ blk ∧ q < w.heap.size ∧ w.cell? ⟨q, 0, none⟩ = some (.int .i64 (D q).due) ∧ w.cell? ⟨q, 2, none⟩ = some (.int .i64 (D q).num)) →
  Calls Try.prog 25 #[.slice (some ⟨blk, 0, none⟩) Q.length c, .func (.func 26) #[] #[]] w fun e w' => e = .returned (.tuple #[]) ∧ ∃ Q' : List Nat, Q'.Perm Q ∧ Q'.Pairwise (fun x y => ¬ cmpT (D y) (D x) < 0) ∧
    (∀ j, (h : j < Q'.length) → w'.cell? ⟨blk, j, none⟩ = some (ptrV Q'[j])) ∧ TouchB (fun k => k = blk) w w'
def Sort0 : Prop := ∀ (w : World) (p : Option Addr) (c : Nat), Calls Try.prog 25 #[.slice p 0 c, .func (.func 26) #[] #[]] w fun e w' => e = .returned (.tuple #[]) ∧ w = w'

/-- sorted lists of the same timers are one -/
theorem sorted_one : ∀ (A B : List TD), A.Perm B → B.Pairwise ltT → A.Pairwise (fun x y => ¬ cmpT y x < 0) → A = B := by
  intro A
  induction A with
  | nil => intro B h _ _; exact (h.nil_eq)
  | cons a A ih =>
    intro B h hB hA
    cases B with
    | nil => exact absurd h.length_eq (by simp)
    | cons b B =>
      rw [List.pairwise_cons] at hA hB
      have hab : a = b := by
        have h1 : b ∈ a :: A := h.mem_iff.2 (List.mem_cons_self ..)
        have h2 : a ∈ b :: B := h.mem_iff.1 (List.mem_cons_self ..)
        rcases List.mem_cons.1 h2 with e | e
        · exact e
        rcases List.mem_cons.1 h1 with e1 | e1
        · exact e1.symm
        have h3 := hB.1 a e
        have h4 := hA.1 b e1
        rw [cmpT_lt] at h4
        unfold ltT at h3
        exact absurd h3 h4
      subst hab
      rw [ih B h.cons_inv hB.2 hA.2]
def idsV (A : List TD) : List Value := A.map fun x => .int .i64 x.id
def ListPost (A : List TD) (w : World) (e : Ending) (w' : World) : Prop := ∃ v, e = .returned v ∧ w'.ownsRow w.heap.size 2 1 v A.length (idsV A) ∧ Below w.heap.size w w'
/-- the loop behind the sort -/
theorem idsV_take (Q : List Nat) (D : Nat → TD) (k : Nat) (hk : k < Q.length) : idsV ((Q.take (k + 1)).map D) = idsV ((Q.take k).map D) ++ [.int .i64 (D Q[k]).id] := by
  rw [List.take_succ_eq_append_getElem hk]; unfold idsV; rw [List.map_append, List.map_append]; rfl

theorem ListM (hS : SortS) (hS0 : Sort0) {b n : Nat} {A : List TD} {F : Nat → Prop} (w : World) (h : Wheel w b A n F) : Calls Try.prog 14 #[.pointer (some ⟨b, 0, none⟩)] w (ListPost A w) := by
  obtain ⟨m, p, c, Q, D, kvs, hW, hG, hF, hL⟩ := h
  obtain ⟨c0, c1, c2, _⟩ := hW.c0
  have hi := isM b m w c0
  have hlen := hW.len
  have hmax : Q.length ≤ 1000 := by have := hG.len; have := hG.max; omega
  obtain ⟨i0, hinf, hz0, hz1, hz2⟩ := info_parts info2
  -- the clone, in both cases
  have hC : Calls Try.prog 24 #[.slice (p.map fun g => ⟨g, 0, none⟩) Q.length c] w fun e w' => ∃ v', e = .returned v' ∧ w'.ownsRow w.heap.size 56 1 v' Q.length (Q.map ptrV) ∧ (0 < Q.length → v' ≠ .slice none 0 0) ∧ Below w.heap.size w w' := by
    cases p with
    | none =>
      have hq := hW.que.nil.1
      subst hq
      refine (CloneNil _ _ w).mono ?_
      rintro e w' ⟨rfl, rfl⟩
      exact ⟨_, rfl, World.ownsRow_nil _ _ _ _, fun h => absurd h (by simp), Below.refl _ _⟩
    | some gr =>
      have hP := hW.que.pile
      refine (Clone gr Q.length c (Q.map ptrV) w (by simp) hmax ?_ ?_).mono ?_
      · intro j u hj
        rw [List.getElem?_map] at hj
        cases hq : Q[j]? with
        | none => rw [hq] at hj; simp at hj
        | some q =>
          obtain ⟨hjl, rfl⟩ := List.getElem?_eq_some_iff.1 hq
          rw [hq] at hj; simp at hj
          subst hj
          exact (hP.place j hjl).1
      · intro u hu
        obtain ⟨q, _, rfl⟩ := List.mem_map.1 hu
        rfl
      · rintro e w' ⟨v', he, h1, h2, h3⟩
        exact ⟨v', he, h1, fun _ => h2, h3⟩
  have hdat : ∀ q ∈ Q, ∃ v, w.heap[q]? = some (.cells #[.int .i64 (D q).due, .int .i64 (D q).id, .int .i64 (D q).num, v] 60 (0, 0)) := by
    intro q hq
    obtain ⟨i, hi, rfl⟩ := List.mem_iff_getElem.1 hq
    exact ⟨_, hW.que.tim i hi⟩
  have hperm := hW.perm
  have hsrt := hG.sorted
  have HD := Lib.hid hdat; clear hdat
  have HL := Lib.hid hlen; clear hlen
  have HP := Lib.hid hperm; clear hperm
  have HT := Lib.hid hsrt; clear hsrt
  clear hW hG hF hL
  by_cases hq0 : Q = []
  · subst hq0
    have hA : A = [] := by have := HL.out; exact List.eq_nil_of_length_eq_zero (by simpa using this.symm)
    subst hA
    go_enter Try.func14, Try.ntmps14
    go_wp2_with fail
    refine hi.mono ?_
    rintro e w1 ⟨rfl, rfl⟩
    clear hi
    go_wp2_with fail
    refine hC.mono ?_
    rintro e w1 ⟨v', rfl, hown, hnn, hb1⟩
    clear hC hnn
    obtain ⟨pp, cc, rfl⟩ : ∃ pp cc, v' = .slice pp 0 cc := by
      rcases hown.2 with ⟨e, _⟩ | ⟨g, cap, cur, e, _⟩
      · exact ⟨none, 0, e⟩
      · exact ⟨_, _, e⟩
    have hs := hS0 w1 pp cc
    go_wp2_with fail
    refine hs.mono ?_
    rintro e w2 ⟨rfl, rfl⟩
    clear hs hown
    go_wp2_with fail
    refine wp_loop_rounds 1 ?_
    rw [rounds_succ]
    go_wp2_with fail
    go_ret
    exact ⟨_, rfl, World.ownsRow_nil _ _ _ _, hb1⟩
  · have hpos : 0 < Q.length := List.length_pos_iff.2 hq0
    go_enter Try.func14, Try.ntmps14
    go_wp2_with fail
    refine hi.mono ?_
    rintro e w1 ⟨rfl, rfl⟩
    clear hi
    go_wp2_with fail
    refine hC.mono ?_
    rintro e w1 ⟨v', rfl, hown, hnn, hb1⟩
    clear hC
    obtain ⟨blk, cc, rfl, hblk, hbl⟩ : ∃ blk cc, v' = .slice (some ⟨blk, 0, none⟩) Q.length cc ∧ w.heap.size ≤ blk ∧ blk < w1.heap.size := by
      rcases hown.2 with ⟨e, _⟩ | ⟨g, cap, cur, e, h1, h2, _⟩
      · exact absurd e (hnn hpos)
      · exact ⟨_, _, e, h1, (Array.getElem?_eq_some_iff.1 h2).1⟩
    clear hnn
    have hlt : ∀ q ∈ Q, q < w.heap.size := fun q hq => by
      obtain ⟨v, h1⟩ := HD.out q hq
      exact (Array.getElem?_eq_some_iff.1 h1).1
    have hs := hS w1 blk cc Q D _ hq0 hmax hown (fun q hq => by
      have h0 := hlt q hq
      obtain ⟨v, h1⟩ := HD.out q hq
      have h2 := hb1.block q h0
      rw [h1] at h2
      refine ⟨by omega, ?_, ?_, ?_⟩
      · have := hb1.size; omega
      · simp [World.cell?, h2]
      · simp [World.cell?, h2])
    have HLT := Lib.hid hlt; clear hlt
    go_wp2_with fail
    refine hs.mono ?_
    rintro e w2 ⟨rfl, Q', hp', hsr, hcel, hT2⟩
    clear hs hown
    have hb2 : Below w.heap.size w w2 := hb1.trans (hT2.below (fun k hk => by omega) hb1.size)
    have hl' : Q'.length = Q.length := hp'.length_eq
    have hl2 : Q.length = Q'.length := hl'.symm
    have hle' : Q'.length ≤ 1000 := by omega
    rw [hl2] at hpos hmax ⊢
    have hid : ∀ q ∈ Q', w2.cell? ⟨q, 1, none⟩ = some (.int .i64 (D q).id) := fun q hq => by
      obtain ⟨v, h1⟩ := HD.out q (hp'.mem_iff.1 hq)
      have h2 := hb2.block q (HLT.out q (hp'.mem_iff.1 hq))
      rw [h1] at h2
      simp [World.cell?, h2]
    have hA : Q'.map D = A := sorted_one _ _ ((hp'.map D).trans HP.out) HT.out (by rw [List.pairwise_map]; exact hsr.imp (fun h => by omega))
    have HA := Lib.hid hA; clear hA
    have HI := Lib.hid hid; clear hid
    have HC := Lib.hid hcel; clear hcel
    clear hl' hl2
    have hbl2 : blk < w2.heap.size := Nat.lt_of_lt_of_le hbl hT2.size
    have hQl : ∀ q ∈ Q', q < w2.heap.size := fun q hq => by have := HLT.out q (hp'.mem_iff.1 hq); have := hb2.size; omega
    have HQ := Lib.hid hQl; clear hQl
    go_wp2_with fail
    go_loopw [4, 19] (fun v s wr => ∃ k : Nat, s = .int .i64 k ∧ k ≤ Q'.length ∧ wr.ownsRow w2.heap.size 2 1 v k (idsV ((Q'.take k).map D)) ∧ Below w2.heap.size w2 wr) (fun _ s _ => Q'.length - (intOf s).toNat)
    case atStart => exact ⟨0, rfl, by omega, World.ownsRow_nil _ _ _ _, Below.refl _ _⟩
    case round =>
      obtain ⟨k, rfl, hk, hown, hb⟩ := hrel
      by_cases hlt : k < Q'.length
      · have hc3 : wr.cell? ⟨blk, k, none⟩ = some (ptrV Q'[k]) := (hb.cell (p := ⟨blk, k, none⟩) hbl2).trans (HC.out k hlt)
        have hc4 : wr.cell? ⟨Q'[k], 1, none⟩ = some (.int .i64 (D Q'[k]).id) := (hb.cell (p := ⟨Q'[k], 1, none⟩) (HQ.out _ (List.getElem_mem hlt))).trans (HI.out _ (List.getElem_mem hlt))
        have HT1 := Lib.hid (idsV_take Q' D k hlt)
        generalize hq : Q'[k] = q at *
        clear hq
        unfold ptrV at hc3
        generalize hds : D q = dq at *
        clear hds
        have hsz := hb.size
        go_wp2_with (at_builtin; refine wpList_append_own _ rfl _ _ 27 rfl w2.heap.size 2 i0 (.int .i64 0) 1 8 Try.underlying27 hinf hz0 hz1 hz2 rfl (by decide) _ _ _ rfl (hown.alloc _) ⟨wr.heap.size, 0, none⟩ 1 1 [.int .i64 dq.id] rfl rfl ?c1 ?c2 ?c3 ?c4 ?c5 ?_)
        case c1 =>
          intro j u hj
          cases j with
          | zero => simp at hj; subst hj; simp [Addr.add]
          | succ j => simp at hj
        case c2 => intro u hu; simp at hu; subst hu; rfl
        case c3 => unfold maxLen; omega
        case c4 => omega
        case c5 => simp; omega
        intro v' w3 hown3 hgrow _
        have hb3 : Below w2.heap.size w2 w3 := (hb.alloc hsz _).grown hgrow (by simp; omega) (by intro g hg; exact (World.ownsRow.lt (h := hown) g hg).1)
        go_wp2_with fail
        go_roundw
        case rel => exact ⟨k + 1, by go_num, by omega, by rw [HT1.out, List.map_take]; exact hown3, hb3⟩
        case measure => simp [intOf]; omega
      · have hkk : k = Q'.length := by omega
        have HK := Lib.hid hkk; clear hkk
        go_wp2_with fail
        go_ret
        refine ⟨_, rfl, ?_, hb2.trans (hb.mono hb2.size)⟩
        have h1 := hown
        rw [HK.out, List.take_length, HA.out] at h1
        have h2 : Q'.length = A.length := by rw [← HA.out]; simp
        rw [h2] at h1
        exact row_base h1 (fun k hk => Nat.le_trans hb2.size (World.ownsRow.lt (h := h1) k hk).1)
end Go.Proofs.Ytgkiknkifleofaa.tm
