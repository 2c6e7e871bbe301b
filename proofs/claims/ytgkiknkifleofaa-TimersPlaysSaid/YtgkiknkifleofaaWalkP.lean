/- Add. Conditions: the wheel was made by New. -/
import Derived.Test.YtgkiknkifleofaaWalkO
namespace Go.Proofs.Ytgkiknkifleofaa.tm
open Go.RowKit mem TP
set_option linter.unusedVariables false
set_option linter.unusedSimpArgs false
set_option maxHeartbeats 1000000
set_option maxRecDepth 100000

def insT : List TD → TD → List TD
  | [], x => [x]
  | y :: l, x => if y.due ≤ x.due then y :: insT l x else x :: y :: l
theorem ins_perm (A : List TD) (x : TD) : (insT A x).Perm (A ++ [x]) := by
  induction A with
  | nil => exact List.Perm.refl _
  | cons y l ih =>
    unfold insT
    split
    · exact ih.cons y
    · exact (List.perm_append_comm (l₁ := [x]) (l₂ := y :: l))
theorem ins_mem {A : List TD} {x y : TD} : y ∈ insT A x ↔ y ∈ A ∨ y = x := by
  rw [(ins_perm A x).mem_iff]; simp
theorem good_ins {A : List TD} {n : Nat} (h : Good A n) {x : TD} (hd : 0 ≤ x.due) (hi : x.id ∉ A.map (·.id)) (hx : x.num = (n : Int) + 1) (hn : n < 1000) : Good (insT A x) (n + 1) := by
  refine ⟨?_, ?_, ?_, ?_, ?_, by omega⟩
  · have hs := h.sorted
    have hm := h.nums
    clear h hi
    induction A with
    | nil => simp [insT]
    | cons y l ih =>
      rw [List.pairwise_cons] at hs
      unfold insT
      split
      · rename_i hle
        rw [List.pairwise_cons]
        refine ⟨fun z hz => ?_, ih hs.2 (fun z hz => hm z (List.mem_cons_of_mem _ hz))⟩
        rcases ins_mem.1 hz with e | e
        · exact hs.1 z e
        · subst e
          have := hm y (List.mem_cons_self ..)
          unfold ltT; omega
      · rename_i hle
        rw [List.pairwise_cons]
        refine ⟨fun z hz => ?_, List.pairwise_cons.2 hs⟩
        rcases List.mem_cons.1 hz with e | e
        · subst e; unfold ltT; omega
        · have := hs.1 z e
          unfold ltT at this ⊢; omega
  · rw [((ins_perm A x).map (·.id)).nodup_iff, List.map_append, List.nodup_append]
    refine ⟨h.ids, by simp, ?_⟩
    intro a ha b hb e
    simp at hb
    subst hb; subst e
    exact hi ha
  · intro y hy
    rcases ins_mem.1 hy with e | e
    · have := h.nums y e; omega
    · subst e; omega
  · intro y hy
    rcases ins_mem.1 hy with e | e
    · exact h.dues y e
    · subst e; exact hd
  · rw [(ins_perm A x).length_eq]; have := h.len; simp; omega

def addE (A : List TD) (due id : Int) : Int := if due < 0 ∨ id < 0 then 2 else if (findT A id).isSome then 8 else 0
def addT (A : List TD) (n : Nat) (due id : Int) : List TD := if addE A due id = 0 then insT A ⟨due, id, (n : Int) + 1⟩ else A
def addN (A : List TD) (n : Nat) (due id : Int) : Nat := if addE A due id = 0 then n + 1 else n
def AddPost (b : Nat) (A : List TD) (n : Nat) (F : Nat → Prop) (due id : Int) (w : World) (e : Ending) (w' : World) : Prop :=
  e = .returned (.int .i64 (addE A due id)) ∧ ∃ F', Wheel w' b (addT A n due id) (addN A n due id) F' ∧ TouchB F w w' ∧ ∀ k, F' k → F k ∨ w.heap.size ≤ k
theorem add_fail {b n : Nat} {A : List TD} {F : Nat → Prop} {w : World} {due id : Int} (h : Wheel w b A n F) (z : Int) (hz : z ≠ 0) (hE : addE A due id = z) : AddPost b A n F due id w (.returned (.int .i64 z)) w := by
  refine ⟨by rw [hE], F, ?_, TouchB.refl _ _, fun k hk => .inl hk⟩
  unfold addT addN
  rw [hE, if_neg hz, if_neg hz]
  exact h
def newD (D : Nat → TD) (z : Nat) (x : TD) (k : Nat) : TD := if k = z then x else D k
theorem newD_at (D : Nat → TD) (z : Nat) (x : TD) : newD D z x z = x := by simp [newD]
theorem newD_ne (D : Nat → TD) (z : Nat) (x : TD) (k : Nat) (h : k ≠ z) : newD D z x k = D k := by simp [newD, h]
def addW (w : World) (b : Nat) (n : Nat) (due id : Int) : World := (w.setCell ⟨b, 2, none⟩ (.int .i64 ((n : Int) + 1))).alloc (.cells #[.int .i64 due, .int .i64 id, .int .i64 ((n : Int) + 1), .int .i64 0] 60)
section
variable {w : World} {b m c n : Nat} {p : Option Nat} {Q : List Nat} {D : Nat → TD} {kvs : List (Int × Value)} {A : List TD}
theorem Wit.lt (hW : Wit w b m p c Q D kvs A n) (k : Nat) (hk : wfoot b m p Q k) : k < w.heap.size := by
  rcases hk with e | e | e | e
  · subst e; exact (Array.getElem?_eq_some_iff.1 hW.que.blk).1
  · subst e; exact hW.map.lt
  · exact hW.que.own_lt k e
  · obtain ⟨i, hi, rfl⟩ := List.mem_iff_getElem.1 e
    exact (Array.getElem?_eq_some_iff.1 (hW.que.tim i hi)).1
theorem add_blk (hW : Wit w b m p c Q D kvs A n) (due id : Int) (k : Nat) (hk : k < w.heap.size) (hb : k ≠ b) : (addW w b n due id).heap[k]? = w.heap[k]? := by
  unfold addW
  rw [Below.heap_alloc _ _ _ (by simpa using hk), Below.heap_setCell _ _ _ _ hb]
theorem add_que (hW : Wit w b m p c Q D kvs A n) (due id : Int) : Que (addW w b n due id) b p c Q (newD D w.heap.size ⟨due, id, (n : Int) + 1⟩) (.map (some m)) (.int .i64 ((n : Int) + 1)) ∧
    (addW w b n due id).heap[w.heap.size]? = some (.cells #[.int .i64 due, .int .i64 id, .int .i64 ((n : Int) + 1), .int .i64 0] 60 (0, 0)) ∧ MapIs (Value.int .i64) (addW w b n due id) m kvs := by
  have hbs : b < w.heap.size := hW.lt b (.inl rfl)
  have hqb : ∀ q, q ∈ Q → q ≠ b := by
    intro q hq e
    obtain ⟨i, hi, rfl⟩ := List.mem_iff_getElem.1 hq
    have h1 := hW.que.tim i hi
    rw [e, hW.que.blk] at h1; simp at h1
  refine ⟨⟨?_, ?_, ?_⟩, ?_, ?_⟩
  · unfold addW
    rw [Below.heap_alloc _ _ _ (by simpa using hbs), block_setCell _ _ _ _ _ _ _ hW.que.blk]; rfl
  · refine row_same hW.que.own (fun k hk => ?_)
    have hpk : p = some k := by cases p with | none => simp [Value.ownBlock] at hk | some g => simp [Value.ownBlock] at hk; rw [hk]
    refine add_blk hW due id k (hW.lt k (.inr (.inr (.inl hpk)))) (fun e => ?_)
    subst hpk
    obtain ⟨cur, h1, _⟩ := hW.que.pile.row
    rw [e, hW.que.blk] at h1; simp at h1
  · intro i hi
    have hq := List.getElem_mem hi
    rw [newD_ne _ _ _ _ (Nat.ne_of_lt (hW.lt _ (.inr (.inr (.inr hq))))), add_blk hW due id _ (hW.lt _ (.inr (.inr (.inr hq)))) (hqb _ hq)]
    exact hW.que.tim i hi
  · have := (MapKept.heap_alloc (w.setCell ⟨b, 2, none⟩ (.int .i64 ((n : Int) + 1))) (.cells #[.int .i64 due, .int .i64 id, .int .i64 ((n : Int) + 1), .int .i64 0] 60)).1
    simpa [addW] using this
  · refine hW.map.same (add_blk hW due id m hW.map.lt (fun e => ?_))
    obtain ⟨es, clock, hh, _⟩ := hW.map
    rw [e, hW.que.blk] at hh; simp at hh
theorem heap_D {D D' : Nat → TD} {Q : List Nat} (h : Heap (le D) Q Q.length) (hD : ∀ q, q ∈ Q → D' q = D q) : Heap (le D') Q Q.length := by
  intro k k0 kn
  have h1 := h k k0 kn
  unfold le at h1 ⊢
  rw [hD (g Q k) (by rw [← getElem_g _ _ kn]; exact List.getElem_mem _), hD (g Q ((k - 1) / 2)) (by rw [← getElem_g _ _ (by omega)]; exact List.getElem_mem _)]
  exact h1
theorem addW_size (w : World) (b n : Nat) (due id : Int) : (addW w b n due id).heap.size = w.heap.size + 1 := by simp [addW]
theorem add_end {F : Nat → Prop} {due id : Int} {w2 w3 : World} {p' : Option Nat} {c' : Nat} {Q' : List Nat} (hW : Wit w b m p c Q D kvs A n) (hG : Good A n) (hF : ∀ k, wfoot b m p Q k → F k) (hL : ∀ k, F k → k < w.heap.size) (hn : n < 1000) (hd : 0 ≤ due) (hj : 0 ≤ id) (hf : findT A id = none)
    (hm2 : MapIs (Value.int .i64) w2 m (alPut kvs id (ptrV w.heap.size))) (ht2 : TouchB (fun i => i = m) (addW w b n due id) w2)
    (hQ : Que w3 b p' c' Q' (newD D w.heap.size ⟨due, id, (n : Int) + 1⟩) (.map (some m)) (.int .i64 ((n : Int) + 1))) (hperm : Q'.Perm (Q ++ [w.heap.size])) (hH : Heap (le (newD D w.heap.size ⟨due, id, (n : Int) + 1⟩)) Q' Q'.length)
    (hT3 : TouchB (fun k => k = b ∨ k = w.heap.size ∨ p = some k ∨ k ∈ Q) w2 w3) (hp' : p' = p ∨ ∃ k, p' = some k ∧ w2.heap.size ≤ k) : AddPost b A n F due id w (.returned (.int .i64 0)) w3 := by
  have hE : addE A due id = 0 := by unfold addE; rw [if_neg (by omega), hf]; rfl
  have hs2 : w.heap.size + 1 ≤ w2.heap.size := by rw [← addW_size w b n due id]; exact ht2.size
  have hs3 := hT3.size
  have hmm : m < w.heap.size := hW.map.lt
  have hnm : ∀ k, (k = b ∨ p = some k ∨ k ∈ Q) → k ≠ m := by
    intro k hk e
    obtain ⟨es, clock, hh, _⟩ := hW.map
    subst e
    rcases hk with e | e | e
    · rw [e, hW.que.blk] at hh; simp at hh
    · subst e; obtain ⟨cur, h1, _⟩ := hW.que.pile.row; rw [h1] at hh; simp at hh
    · obtain ⟨i, hi, rfl⟩ := List.mem_iff_getElem.1 e
      rw [hW.que.tim i hi] at hh; simp at hh
  refine ⟨by rw [hE], fun k => F k ∨ (w.heap.size ≤ k ∧ k < w3.heap.size), ?_, ?_, fun k hk => hk.imp_right (·.1)⟩
  · unfold addT addN
    rw [hE, if_pos rfl, if_pos rfl]
    have hDQ : Q.map (newD D w.heap.size ⟨due, id, (n : Int) + 1⟩) = Q.map D := List.map_congr_left (fun q hq => newD_ne _ _ _ _ (Nat.ne_of_lt (hW.lt q (.inr (.inr (.inr hq))))))
    refine ⟨m, p', c', Q', newD D w.heap.size ⟨due, id, (n : Int) + 1⟩, alPut kvs id (ptrV w.heap.size), ⟨?_, hm2.same (hT3.block m hm2.lt ?_), hH, ?_, ?_⟩, good_ins hG hd (findT_none.1 hf) rfl hn, ?_, ?_⟩
    · exact hQ
    · rintro (e | e | e | e)
      · exact hnm m (.inl e) rfl
      · omega
      · exact hnm m (.inr (.inl e)) rfl
      · exact hnm m (.inr (.inr e)) rfl
    · refine (hperm.map _).trans ?_
      rw [List.map_append, hDQ]
      refine List.Perm.trans ?_ (ins_perm A _).symm
      simp only [List.map_cons, List.map_nil, newD_at]
      exact hW.perm.append_right _
    · rw [al_put _ (hW.miss (findT_none.1 hf)).2]
      refine List.Perm.trans ?_ ((hperm.map _).symm)
      rw [List.map_append]
      simp only [List.map_cons, List.map_nil, newD_at]
      refine List.Perm.append_right _ (hW.kv.trans ?_)
      rw [show Q.map (fun t => ((newD D w.heap.size ⟨due, id, (n : Int) + 1⟩ t).id, ptrV t)) = Q.map (fun t => ((D t).id, ptrV t)) from List.map_congr_left (fun q hq => by rw [newD_ne _ _ _ _ (Nat.ne_of_lt (hW.lt q (.inr (.inr (.inr hq)))))])]
    · rintro k (e | e | e | e)
      · exact .inl (hF k (.inl e))
      · exact .inl (hF k (.inr (.inl e)))
      · rcases hp' with e2 | ⟨k2, e2, e3⟩
        · exact .inl (hF k (.inr (.inr (.inl (by rw [← e2]; exact e)))))
        · refine .inr ⟨?_, hQ.own_lt k e⟩
          rw [e] at e2; simp at e2; omega
      · rcases List.mem_append.1 (hperm.mem_iff.1 e) with e2 | e2
        · exact .inl (hF k (.inr (.inr (.inr e2))))
        · simp at e2; exact .inr (by omega)
    · rintro k (e | e)
      · have := hL k e; omega
      · exact e.2
  · have hT1 : TouchB F w (addW w b n due id) := by
      unfold addW
      exact ((TouchB.refl _ _).setCell _ _ (fun _ => hF b (.inl rfl))).alloc _
    refine (hT1.trans ht2 (fun k _ e => hF k (.inr (.inl e)))).trans hT3 (fun k hk e => ?_)
    rcases e with e | e | e | e
    · exact hF k (.inl e)
    · omega
    · exact hF k (.inr (.inr (.inl e)))
    · exact hF k (.inr (.inr (.inr e)))
end
theorem AddM {b n : Nat} {A : List TD} {F : Nat → Prop} (w : World) (h : Wheel w b A n F) (hn : n < 1000) (due id : Int) : Calls Try.prog 15 #[.pointer (some ⟨b, 0, none⟩), .int .i64 due, .int .i64 id] w (AddPost b A n F due id w) := by
  have h0 := h
  obtain ⟨m, p, c, Q, D, kvs, hW, hG, hF, hL⟩ := h0
  obtain ⟨c0, c1, c2, f0, f1, f2⟩ := hW.c0
  have hi := isM b m w c0
  have hl := run_lookup_ok key2 Try.underlying42 hW.map id (zero56 w)
  by_cases hd : due < 0
  · have hd2 : decide (due < 0) = true := decide_eq_true hd
    have hp := add_fail h 2 (by omega) (show addE A due id = 2 from by unfold addE; rw [if_pos (.inl hd)])
    go_enter Try.func15, Try.ntmps15
    go_wp2_with fail
    refine hi.mono ?_
    rintro e w1 ⟨rfl, rfl⟩
    clear hi
    go_wp2_with fail
    go_ret
    exact hp
  have hd2 : decide (due < 0) = false := decide_eq_false hd
  by_cases hj : id < 0
  · have hj2 : decide (id < 0) = true := decide_eq_true hj
    have hp := add_fail h 2 (by omega) (show addE A due id = 2 from by unfold addE; rw [if_pos (.inr hj)])
    go_enter Try.func15, Try.ntmps15
    go_wp2_with fail
    refine hi.mono ?_
    rintro e w1 ⟨rfl, rfl⟩
    clear hi
    go_wp2_with fail
    go_ret
    exact hp
  have hj2 : decide (id < 0) = false := decide_eq_false hj
  cases hf : findT A id with
  | some x =>
    have hp := add_fail h 8 (by omega) (show addE A due id = 8 from by unfold addE; rw [if_neg (by omega), hf]; rfl)
    obtain ⟨hx, rfl⟩ := findT_some hf
    obtain ⟨i, hi', hD, hfi, hm⟩ := hW.find hG hx
    rw [hfi] at hl
    unfold ptrV at hl
    clear hm hfi hf hW hG
    go_enter Try.func15, Try.ntmps15
    go_wp2_with fail
    refine hi.mono ?_
    rintro e w1 ⟨rfl, rfl⟩
    clear hi
    go_wp2_with fail
    go_ret
    exact hp
  | none =>
    obtain ⟨hfi, hnk⟩ := hW.miss (findT_none.1 hf)
    rw [hfi] at hl
    obtain ⟨hQ1, ht1, hm1⟩ := add_que hW due id
    have c10 : (addW w b n due id).cell? ⟨b, 0, none⟩ = some (.map (some m)) := by simp [World.cell?, hQ1.blk]
    have hz := addW_size w b n due id
    have hW1 : addW w b n due id = addW w b n due id := rfl
    conv at hW1 => lhs; unfold addW
    have HW := Lib.hid hW; clear hW
    have HQ := Lib.hid hQ1; clear hQ1
    have HT := Lib.hid ht1; clear ht1
    have HZ := Lib.hid hz; clear hz
    go_enter Try.func15, Try.ntmps15
    go_wp2_with fail
    refine hi.mono ?_
    rintro e w1 ⟨rfl, rfl⟩
    clear hi
    go_wp2_with (at_mapUpdate; refine wpList_mapUpdate_al _ rfl _ _ _ 42 rfl key2 Try.underlying42 m kvs hm1 id (ptrV w.heap.size) rfl rfl rfl ?_; intro w2 hm2 ht2 hz2; have HZ2 := Lib.hid hz2; clear hz2)
    have hlen : Q.length < 1000 := by have := HW.out.len; have := hG.len; omega
    have hnm : ∀ k, (k = b ∨ p = some k ∨ k ∈ Q) → k ≠ m := by
      intro k hk e
      obtain ⟨es, clock, hh, _⟩ := HW.out.map
      subst e
      rcases hk with e | e | e
      · rw [e, HW.out.que.blk] at hh; simp at hh
      · subst e; obtain ⟨cur, h1, _⟩ := HW.out.que.pile.row; rw [h1] at hh; simp at hh
      · obtain ⟨i, hi, rfl⟩ := List.mem_iff_getElem.1 e
        rw [HW.out.que.tim i hi] at hh; simp at hh
    have hlt : ∀ k, k < w.heap.size → k < (addW w b n due id).heap.size := fun k hk => by have := HZ.out; omega
    have hQ2 : Que w2 b p c Q (newD D w.heap.size ⟨due, id, (n : Int) + 1⟩) (.map (some m)) (.int .i64 ((n : Int) + 1)) := HQ.out.same (fun k hk => ht2.block k (hlt k (HW.out.lt k (by rcases hk with e | e | e; exact .inl e; exact .inr (.inr (.inl e)); exact .inr (.inr (.inr e))))) (hnm k hk))
    have ht3 : w2.heap[w.heap.size]? = some (.cells #[.int .i64 (newD D w.heap.size ⟨due, id, (n : Int) + 1⟩ w.heap.size).due, .int .i64 (newD D w.heap.size ⟨due, id, (n : Int) + 1⟩ w.heap.size).id, .int .i64 (newD D w.heap.size ⟨due, id, (n : Int) + 1⟩ w.heap.size).num, .int .i64 0] 60 (0, 0)) := by
      rw [newD_at]
      exact (ht2.block _ (by have := HZ.out; omega) (by have := HW.out.map.lt; omega)).trans HT.out
    have hP := heapPush hQ2 hlen ht3 (fun e => absurd (HW.out.lt _ (.inr (.inr (.inr e)))) (by omega)) (heap_D HW.out.heap (fun q hq => newD_ne _ _ _ _ (Nat.ne_of_lt (HW.out.lt q (.inr (.inr (.inr hq)))))))
    clear hQ2 ht3 hlt hnm
    unfold ptrV at hP
    go_wp2_with fail
    refine hP.mono ?_
    rintro e w3 ⟨rfl, p', c', Q', hQ3, hperm, hH3, hT3, hp'⟩
    clear hP
    go_wp2_with fail
    go_ret
    exact add_end HW.out hG hF hL hn hd hj hf hm2 ht2 hQ3 hperm hH3 hT3 hp'
end Go.Proofs.Ytgkiknkifleofaa.tm
