/- Drop and Take. Conditions: the wheel was made by New. -/
import Derived.Test.YtgkiknkifleofaaWalkM
import Derived.StillTailTactics
namespace Go.Proofs.Ytgkiknkifleofaa.tm
open Go.RowKit mem TP
set_option linter.unusedVariables false
set_option linter.unusedSimpArgs false
set_option maxHeartbeats 1000000
set_option maxRecDepth 100000

def dropT (A : List TD) (id : Int) : List TD := A.filter (fun x => decide (x.id ≠ id))
theorem perm_dropT {A : List TD} (hn : (A.map (·.id)).Nodup) {x : TD} (hx : x ∈ A) : A.Perm (x :: dropT A x.id) := by
  induction A with
  | nil => cases hx
  | cons a l ih =>
    rw [List.map_cons, List.nodup_cons] at hn
    rcases List.mem_cons.1 hx with e | e
    · subst e
      have : dropT (x :: l) x.id = l := by
        unfold dropT
        rw [List.filter_cons_of_neg (by simp)]
        rw [List.filter_eq_self]
        intro y hy
        simp
        intro e; exact hn.1 (by rw [← e]; exact List.mem_map_of_mem (f := (·.id)) hy)
      rw [this]
    · have hne : a.id ≠ x.id := by
        intro e2; exact hn.1 (by rw [e2]; exact List.mem_map_of_mem (f := (·.id)) e)
      have : dropT (a :: l) x.id = a :: dropT l x.id := by
        unfold dropT; rw [List.filter_cons_of_pos (by simp [hne])]
      rw [this]
      exact ((ih hn.2 e).cons a).trans (List.Perm.swap _ _ _)
theorem good_drop {A : List TD} {n : Nat} (h : Good A n) (id : Int) : Good (dropT A id) n := by
  have hs : (dropT A id).Sublist A := List.filter_sublist
  exact ⟨h.sorted.sublist hs, h.ids.sublist (hs.map _), fun x hx => h.nums x (hs.subset hx), fun x hx => h.dues x (hs.subset hx), Nat.le_trans hs.length_le h.len, h.max⟩

/-- the end of Drop and of Take -/
theorem drop_end {w w2 : World} {b m gr c n q : Nat} {Q Q' : List Nat} {D : Nat → TD} {kvs kvs' : List (Int × Value)} {A : List TD} {F : Nat → Prop} {x : TD}
    (hW : Wit w b m (some gr) c Q D kvs A n) (hG : Good A n) (hF : ∀ k, wfoot b m (some gr) Q k → F k) (hL : ∀ k, F k → k < w.heap.size) (hx : x ∈ A) (hD : D q = x)
    (hP : Pile w2 b gr c Q' D (.map (some m)) (.int .i64 n)) (hm : MapIs (Value.int .i64) w2 m kvs') (hk : kvs.Perm ((x.id, ptrV q) :: kvs')) (hq : (q :: Q').Perm Q) (hH : Heap (le D) Q' Q'.length)
    (hz : w.heap.size ≤ w2.heap.size) : Wheel w2 b (dropT A x.id) n F := by
  refine ⟨m, some gr, c, Q', D, kvs', ⟨hP.que, hm, hH, ?_, ?_⟩, good_drop hG _, ?_, fun k hk => Nat.lt_of_lt_of_le (hL k hk) hz⟩
  · have h1 := (hq.map D).trans (hW.perm.trans (perm_dropT hG.ids hx))
    rw [List.map_cons, hD] at h1
    exact h1.cons_inv
  · have h1 := hk.symm.trans (hW.kv.trans (hq.symm.map _))
    rw [List.map_cons, hD] at h1
    exact h1.cons_inv
  · intro k hk
    refine hF k ?_
    rcases hk with e | e | e | e
    · exact .inl e
    · exact .inr (.inl e)
    · exact .inr (.inr (.inl e))
    · exact .inr (.inr (.inr (hq.mem_iff.1 (List.mem_cons_of_mem _ e))))

theorem Wit.ne {w : World} {b m gr c n : Nat} {Q : List Nat} {D : Nat → TD} {kvs : List (Int × Value)} {A : List TD} (hW : Wit w b m (some gr) c Q D kvs A n) (k : Nat) (hk : k = b ∨ k = gr ∨ k ∈ Q) : k ≠ m := by
  obtain ⟨es, clock, hh, _⟩ := hW.map
  intro e; subst e
  have hP := hW.que.pile
  rcases hk with e | e | e
  · rw [e, hP.blk] at hh; simp at hh
  · obtain ⟨cur, h1, _⟩ := hP.row; rw [e, h1] at hh; simp at hh
  · obtain ⟨i, hi, e⟩ := List.mem_iff_getElem.1 e
    have := hP.tim i hi
    rw [e, hh] at this; simp at this

theorem DropM {b n : Nat} {A : List TD} {F : Nat → Prop} (w : World) (h : Wheel w b A n F) (id : Int) : Calls Try.prog 17 #[.pointer (some ⟨b, 0, none⟩), .int .i64 id] w fun e w' => e = .returned (.tuple #[.int .i64 (((findT A id).map (·.due)).getD 0), .bool (findT A id).isSome]) ∧ Wheel w' b (dropT A id) n F ∧ TouchB F w w' := by
  have h0 := h; obtain ⟨m, p, c, Q, D, kvs, hW, hG, hF, hL⟩ := h0
  obtain ⟨c0, c1, c2, _⟩ := hW.c0
  have hi := isM b m w c0
  have hl := run_lookup_ok key2 Try.underlying42 hW.map id (zero56 w)
  cases hf : findT A id with
  | none =>
    rw [(hW.miss (findT_none.1 hf)).1] at hl
    have hA : dropT A id = A := by
      unfold dropT; rw [List.filter_eq_self]
      intro y hy; simp
      intro e; exact findT_none.1 hf (by rw [← e]; exact List.mem_map_of_mem (f := (·.id)) hy)
    rw [hA]
    clear hW hG
    go_enter Try.func17, Try.ntmps17
    go_wp2_with fail
    refine hi.mono ?_
    rintro e w1 ⟨rfl, rfl⟩
    clear hi
    go_wp2_with fail
    go_ret2
    exact ⟨rfl, h, TouchB.refl _ _⟩
  | some x =>
    obtain ⟨hx, rfl⟩ := findT_some hf
    obtain ⟨i, hi', hD, hfi, hm⟩ := hW.find hG hx
    rw [hfi] at hl
    obtain ⟨gr, rfl, hP⟩ := hW.pile (by omega)
    obtain ⟨w2, hrun, hm2, hT2, hz2⟩ := run_delete (ty := 0) (at1 := 2) key2 Try.underlying42 hW.map x.id
    unfold ptrV at hl
    go_enter Try.func17, Try.ntmps17
    go_wp2_with fail
    refine hi.mono ?_
    rintro e w1 ⟨rfl, rfl⟩
    clear hi
    have hP2 : Pile w2 b gr c Q D (.map (some m)) (.int .i64 n) := hP.same (fun k hk => hT2.block k (hP.lt k hk) (hW.ne k hk))
    have c6 : w2.cell? ⟨Q[i], 3, none⟩ = some (.int .i64 i) := by simp [World.cell?, hP2.tim i hi']
    have hmax : Q.length ≤ 1000000 := by have := hW.len; have := hG.len; have := hG.max; omega
    go_wp2_with fail
    go_still_tail 8, (by kernel_rfl)
    change wpList _ _ _ _ _ w2.drew
    have hP2' : Pile w2.drew b gr c Q D (.map (some m)) (.int .i64 n) := hP2.same (fun k hk => rfl)
    have hT2' : TouchB (fun i => i = m) w w2.drew := hT2.drew
    have hm2' : MapIs (Value.int .i64) w2.drew m (alDel kvs x.id) := hm2.same rfl
    have hz2' : w2.drew.heap.size = w.heap.size := hz2
    clear c6 hP2 hT2 hm2 hz2 hrun
    generalize w2.drew = w2 at *
    have hP2 := hP2'; have hT2 := hT2'; have hm2 := hm2'; have hz2 := hz2'
    clear hP2' hT2' hm2' hz2'
    have hR := heapRemove hP2 hi' hmax hW.heap
    go_wp2_with fail
    refine hR.mono ?_
    rintro e w3 ⟨rfl, Q', hP3, hq, hH3, hT3, c7, c8⟩
    clear hR hl
    rw [← getElem_g _ _ hi'] at c7 hq
    rw [hD] at c7
    have hgo : Wheel w3 b (dropT A x.id) n F := drop_end hW hG hF hL hx hD hP3 (hm2.same (hT3.block m hm2.lt ?_)) (al_del (hW.keysN hG) hm) hq hH3 (by rw [← hz2]; exact hT3.size)
    · have hto : TouchB F w w3 := (hT2.mono (fun k _ e => hF k (.inr (.inl e)))).trans hT3 (fun k _ hk => hF k ?_)
      · go_wp2_with fail
        go_ret2
        exact ⟨rfl, hgo, hto⟩
      · rcases hk with e | e | e
        · exact .inl e
        · exact .inr (.inr (.inl (by rw [e])))
        · exact .inr (.inr (.inr e))
    · intro hk
      exact hW.ne m (by rcases hk with e | e | e; exact .inl e; exact .inr (.inl e); exact .inr (.inr e)) rfl
end Go.Proofs.Ytgkiknkifleofaa.tm
