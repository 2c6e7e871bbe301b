/- The contract of Put. Conditions: a table that New returned, with fewer than 1000 names; or a nil one. -/
import Derived.Test.YtlcabmkjacimnaaNamesC
import Derived.Maps.AppendAt
namespace Go.Proofs.Ytlcabmkjacimnaa.names
open Go.RowKit mem
set_option linter.unusedVariables false
set_option linter.unusedSimpArgs false
set_option maxHeartbeats 1000000

theorem Tab.below {w w' : World} {b : Nat} {L : List ByteArray} {m : Nat} {p : Option Addr} {c : Nat} (h : Tab w b L m p c) (hb : Below w.heap.size w w') : Tab w' b L m p c :=
  h.same fun k hk => hb.block k (h.lt k hk)
theorem TouchB.ofB {S : Nat → Prop} {w w' : World} (hb : Below w.heap.size w w') : TouchB S w w' := (TouchB.refl S w).ofBelow hb (Nat.le_refl _)

theorem one_new (w : World) (x : Value) (t : TypeId) : ∀ (j : Nat) (u : Value), [x][j]? = some u → (w.alloc (.cells #[x] t)).cell? ((⟨w.heap.size, 0, none⟩ : Addr).add j) = some u := by
  intro j u hju
  cases j with
  | zero => simp at hju; subst hju; rw [add0]; simp [World.cell?_alloc_new]
  | succ j => simp at hju
theorem one_cell (s : ByteArray) : ∀ u ∈ [Value.string s], u.oneCell' = true := by
  intro u hu; simp at hu; subst hu; rfl
theorem row_shape {w : World} {base : Nat} {e : TypeId} {size : Nat} {v : Value} {n : Nat} {xs : List Value} (h : w.ownsRow base e size v n xs) : ∃ p c, v = .slice p n c := by
  obtain ⟨_, ⟨rfl, rfl⟩ | ⟨g, cap, cur, rfl, _⟩⟩ := h
  · exact ⟨_, _, rfl⟩
  · exact ⟨_, _, rfl⟩
theorem block_setCell (w : World) (b : Nat) (c : Array Value) (t : TypeId) (f : Nat × Nat) (o : Nat) (v : Value) (h : w.heap[b]? = some (.cells c t f)) :
    (w.setCell ⟨b, o, none⟩ v).heap[b]? = some (.cells (c.setIfInBounds o v) t f) := by
  simp [World.setCell, Array.getElem?_modify, h]

theorem look {w : World} {b : Nat} {L : List ByteArray} {m : Nat} {p : Option Addr} {c : Nat} (hT : Tab w b L m p c) (s : ByteArray) :
    (Instr.lookup 69 (.map (some m)) (.string s) true).run Try.prog w = .ok (.tuple #[.int .i64 (findI L s), .bool (findB L s)]) w := by
  have hl := run_lookup_ok key9 Try.underlying69 hT.map s (zero3 w)
  rw [(find_val L s).1, (find_val L s).2] at hl
  exact hl
theorem grown_blk {w1 w2 w3 : World} {b : Nat} {L : List ByteArray} {m : Nat} {p : Option Addr} {c : Nat} {x : Obj} (hT1 : Tab w1 b L m p c) (ht2 : TouchB (fun i => i = m) w1 w2) (hg : (w2.alloc x).grownBy w3 (Value.slice p L.length c).ownBlock) :
    w3.heap[b]? = some (.cells #[.map (some m), .slice p L.length c] 71 (0, 0)) := by
  have hb := hT1.lt b (.inl rfl)
  have h2 := (ht2.block b hb hT1.ne1).trans hT1.blk
  have hb2 : b < w2.heap.size := Nat.lt_of_lt_of_le hb ht2.size
  rw [hg.block b (by simp; omega) (fun e => hT1.ne2 e.symm), Below.heap_alloc _ _ _ hb2]
  exact h2
theorem grown_cells {w3 : World} {b : Nat} {L : List ByteArray} {m : Nat} {p : Option Addr} {c : Nat} (h : w3.heap[b]? = some (.cells #[.map (some m), .slice p L.length c] 71 (0, 0))) :
    w3.cell? ⟨b, 1, none⟩ = some (.slice p L.length c) ∧ w3.frozen? ⟨b, 1, none⟩ = false := by
  simp [World.cell?, World.frozen?, h]

theorem put_end {w w1 w2 w3 : World} {b : Nat} {L : List ByteArray} {m : Nat} {p : Option Addr} {c : Nat} {s : ByteArray} {x : Obj} {v3 : Value} (hT : Tab w b L m p c) (hb : Below w.heap.size w w1) (hT1 : Tab w1 b L m p c) (hx : ix L s = none)
    (hm2 : MapIs Value.string w2 m (alPut (kvOf L) s (.int .i64 (L.length : Int)))) (ht2 : TouchB (fun i => i = m) w1 w2) (hz : w2.heap.size = w1.heap.size)
    (hg : (w2.alloc x).grownBy w3 (Value.slice p L.length c).ownBlock) (hown : w3.ownsRow 0 9 1 v3 (L.length + 1) (L.map Value.string ++ [.string s])) (hat : v3.ownBlock = (Value.slice p L.length c).ownBlock ∨ v3.ownBlock = some (w2.alloc x).heap.size) :
    ∃ p' c', Tab (w3.setCell ⟨b, 1, none⟩ v3) b (L ++ [s]) m p' c' ∧ TouchB (foot b m p) w (w3.setCell ⟨b, 1, none⟩ v3) ∧ ∀ k, foot b m p' k → foot b m p k ∨ w.heap.size ≤ k := by
  obtain ⟨p3, c3, rfl⟩ := row_shape hown
  have hlen : (L ++ [s]).length = L.length + 1 := by simp
  have hblk := grown_blk hT1 ht2 hg
  have hbs := hT.lt b (.inl rfl)
  have hms := hT.lt m (.inr (.inl rfl))
  have s1 := hb.size
  have hg' : ∀ k, k < w.heap.size → k ≠ m → (Value.slice p L.length c).ownBlock ≠ some k → w3.heap[k]? = w.heap[k]? := by
    intro k hk h1 h2
    rw [hg.block k (by simp; omega) (fun e => h2 e.symm), Below.heap_alloc _ _ _ (by omega), ht2.block k (by omega) h1, hb.block k hk]
  have hown' : ∀ k, (Value.slice p3 (L.length + 1) c3).ownBlock = some k → (Value.slice p L.length c).ownBlock = some k ∨ w.heap.size ≤ k := by
    intro k hk
    rcases hat with h | h
    · exact .inl (h ▸ hk)
    · rw [h] at hk; simp at hk; exact .inr (by omega)
  have hne2 : (Value.slice p3 (L.length + 1) c3).ownBlock ≠ some b := fun e => by
    rcases hown' b e with h | h
    · exact hT.ne2 h
    · omega
  have hne3 : (Value.slice p3 (L.length + 1) c3).ownBlock ≠ some m := fun e => by
    rcases hown' m e with h | h
    · exact hT.ne3 h
    · omega
  refine ⟨p3, c3, ⟨?_, ?_, ?_, hT.ne1, by rw [hlen]; exact hne2, by rw [hlen]; exact hne3⟩, ?_, ?_⟩
  · rw [block_setCell _ _ _ _ _ _ _ hblk, hlen]; rfl
  · have e1 : alPut (kvOf L) s (.int .i64 (L.length : Int)) = kvOf (L ++ [s]) := by
      unfold alPut; rw [alIdx_kv, hx, kv_snoc]
    rw [← e1]
    refine hm2.same ?_
    rw [Below.heap_setCell _ _ _ _ (fun e => hT.ne1 e.symm), hg.block m (by simp; omega) (fun e => hT.ne3 e.symm), Below.heap_alloc _ _ _ (by omega)]
  · rw [hlen, List.map_append]
    refine row_same hown (fun k hk => ?_)
    rw [Below.heap_setCell _ _ _ _ (fun e => hne2 (by rw [hk, e]))]
  · refine ⟨hg.os.trans (ht2.os.trans hb.os), hg.tape.trans (ht2.tape.trans hb.tape), hg.output.trans (ht2.output.trans hb.output), ?_, ?_⟩
    · have := hg.size; simp at this ⊢; omega
    · intro k hk hn
      rw [Below.heap_setCell _ _ _ _ (fun e => hn (.inl e))]
      refine hg' k hk (fun e => hn (.inr (.inl e))) (fun e => hn (.inr (.inr (own_slice e))))
  · rintro k (rfl | rfl | ⟨a, rfl, rfl⟩)
    · exact .inl (.inl rfl)
    · exact .inl (.inr (.inl rfl))
    · rcases hown' a.block rfl with h | h
      · exact .inl (.inr (.inr (own_slice h)))
      · exact .inr h
section
variable (w : World) (b : Nat) (L : List ByteArray) (m : Nat) (p : Option Addr) (c : Nat) (hT : Tab w b L m p c)
include hT
set_option maxRecDepth 100000 in
theorem Put (s : ByteArray) (hL : L.length < 1000) : Calls Try.prog 33 #[.pointer (some ⟨b, 0, none⟩), .string s] w fun e w' => e = .returned (.tuple #[.int .i64 (putI L s), .int .i64 (putE s)]) ∧
    ∃ p' c', Tab w' b (putL L s) m p' c' ∧ TouchB (foot b m p) w w' ∧ ∀ k, foot b m p' k → foot b m p k ∨ w.heap.size ≤ k := by
  have h0 := hT.c0
  cases hv : vName s
  · go_enter Try.func33, Try.ntmps33
    go_wp2_with (first | (go_at_call 56; refine (made b m _ h0).mono ?_; rintro e w' ⟨rfl, rfl⟩) | (go_at_call 17; refine (Valid s _).mono ?_; rintro e w1 ⟨rfl, hb⟩))
    go_ret2
    refine ⟨ret2i (by unfold putI; rw [hv]; rfl) (by unfold putE; rw [hv]; rfl), p, c, ?_, TouchB.ofB hb, fun k hk => .inl hk⟩
    unfold putL; rw [hv]; exact hT.below hb
  cases hx : ix L s with
  | some i =>
    have hfi : findI L s = i := by unfold findI; rw [hx]; rfl
    have hfb : findB L s = true := by unfold findB; rw [hx]; rfl
    have Hx := Lib.hid hx; clear hx
    have Hi := Lib.hid hfi; clear hfi
    go_enter Try.func33, Try.ntmps33
    go_wp2_with (first | (go_at_call 56; refine (made b m _ h0).mono ?_; rintro e w' ⟨rfl, rfl⟩) | (go_at_call 17; refine (Valid s _).mono ?_; rintro e w1 ⟨rfl, hb⟩; have hT1 := hT.below hb; have h01 := hT1.c0; have h11 := hT1.c1; have hl := look hT1 s))
    go_ret2
    refine ⟨ret2i (by unfold putI; rw [if_pos hv, Hx.out, Hi.out]; rfl) (by unfold putE; rw [hv]; rfl), p, c, ?_, TouchB.ofB hb, fun k hk => .inl hk⟩
    unfold putL; rw [if_pos hv, Hx.out]; exact hT1
  | none =>
    have hfi : findI L s = 0 := by unfold findI; rw [hx]; rfl
    have hfb : findB L s = false := by unfold findB; rw [hx]; rfl
    have Hx := Lib.hid hx; clear hx
    obtain ⟨i0, hi, hz0, hz1, hz2⟩ := info_parts info9
    have hcap : 0 < c ∨ c = 0 := by omega
    go_enter Try.func33, Try.ntmps33
    go_wp2_with (first | (go_at_call 56; refine (made b m _ h0).mono ?_; rintro e w' ⟨rfl, rfl⟩) | (go_at_call 17; refine (Valid s _).mono ?_; rintro e w1 ⟨rfl, hb⟩; have hT1 := hT.below hb; have h01 := hT1.c0; have h11 := hT1.c1; have hl := look hT1 s) | (at_mapUpdate; refine wpList_mapUpdate_al _ rfl _ _ _ 69 rfl key9 Try.underlying69 m (kvOf L) hT1.map s (.int .i64 (L.length : Int)) rfl rfl rfl ?_; intro w2 hm2 ht2 hz2'; have HZ := Lib.hid hz2'; clear hz2'; have h02 := (ht2.cell (p := ⟨b, 0, none⟩) (hT1.lt b (.inl rfl)) hT1.ne1).trans h01; have h12 := (ht2.cell (p := ⟨b, 1, none⟩) (hT1.lt b (.inl rfl)) hT1.ne1).trans h11; have hr2 := row_same (w' := w2) hT1.row (fun k hk => ht2.block k (hT1.row.lt k hk).2 (fun e => hT1.ne3 (e ▸ hk)))) | (at_builtin; refine wpList_append_own_at _ rfl _ _ 36 rfl 0 9 i0 (.string .empty) 1 16 Try.underlying36 hi hz0 hz1 hz2 rfl (by decide) (.slice p L.length c) L.length (L.map Value.string) rfl (hr2.alloc _) ⟨w2.heap.size, 0, none⟩ 1 1 [.string s] rfl rfl (one_new _ _ _) (one_cell s) (by unfold maxLen; omega) (by omega) (Nat.zero_le _) ?_; intro v3 w3 hown3 hg3 _ hat3; obtain ⟨p3, c3, rfl⟩ := row_shape hown3; have h13 := grown_blk hT1 ht2 hg3; obtain ⟨h13c, h13f⟩ := grown_cells h13; have H13 := Lib.hid h13; clear h13))
    go_ret2
    refine ⟨ret2i (by unfold putI; rw [if_pos hv, Hx.out]; rfl) (by unfold putE; rw [hv]; rfl), ?_⟩
    have hL' : putL L s = L ++ [s] := by unfold putL; rw [if_pos hv, Hx.out]
    rw [hL']
    exact put_end hT hb hT1 Hx.out hm2 ht2 HZ.out hg3 hown3 hat3
end
end Go.Proofs.Ytlcabmkjacimnaa.names
