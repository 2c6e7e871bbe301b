/- Take. Conditions: the wheel was made by New. -/
import Derived.Test.YtgkiknkifleofaaWalkN
namespace Go.Proofs.Ytgkiknkifleofaa.tm
open Go.RowKit mem TP
set_option linter.unusedVariables false
set_option linter.unusedSimpArgs false
set_option maxHeartbeats 1000000
set_option maxRecDepth 100000

/-- what Take returns, and what it leaves -/
def takeV (A : List TD) (now : Int) : Option Int := match A with
  | [] => none
  | x :: _ => if x.due ≤ now then some x.id else none
def takeT (A : List TD) (now : Int) : List TD := match A with
  | [] => []
  | x :: A' => if x.due ≤ now then A' else x :: A'
theorem dropT_head {x : TD} {A' : List TD} (hn : ((x :: A').map (·.id)).Nodup) : dropT (x :: A') x.id = A' := by
  rw [List.map_cons, List.nodup_cons] at hn
  unfold dropT
  rw [List.filter_cons_of_neg (by simp), List.filter_eq_self]
  intro y hy
  simp
  intro e; exact hn.1 (by rw [← e]; exact List.mem_map_of_mem (f := (·.id)) hy)
theorem TakeM {b n : Nat} {A : List TD} {F : Nat → Prop} (w : World) (h : Wheel w b A n F) (now : Int) : Calls Try.prog 20 #[.pointer (some ⟨b, 0, none⟩), .int .i64 now] w fun e w' => e = .returned (.tuple #[.int .i64 ((takeV A now).getD 0), .bool (takeV A now).isSome]) ∧ Wheel w' b (takeT A now) n F ∧ TouchB F w w' := by
  have h0 := h
  obtain ⟨m, p, c, Q, D, kvs, hW, hG, hF, hL⟩ := h0
  obtain ⟨c0, c1, c2, _⟩ := hW.c0
  have hl := hW.len
  have hi := isM b m w c0
  cases A with
  | nil =>
    rw [hl] at c1
    go_enter Try.func20, Try.ntmps20
    go_wp2_with fail
    refine hi.mono ?_
    rintro e w1 ⟨rfl, rfl⟩
    clear hi
    go_wp2_with fail
    go_ret2
    exact ⟨rfl, h, TouchB.refl _ _⟩
  | cons x A' =>
    obtain ⟨h0, hx⟩ := hW.head hG rfl
    obtain ⟨gr, rfl, hP⟩ := hW.pile h0
    have c3 := (hP.place 0 h0).1
    have c4 := (hP.data 0 h0).1
    rw [getElem_g _ _ h0] at c3 c4
    rw [hx] at c4
    have hlen : Q.length = A'.length + 1 := by rw [hl]; rfl
    rw [hlen] at c1
    by_cases hd : x.due ≤ now
    · have hd2 : decide (now < x.due) = false := by simp; omega
      have e1 : takeV (x :: A') now = some x.id := by simp [takeV, hd]
      have e2 : takeT (x :: A') now = A' := by simp [takeT, hd]
      rw [e1, e2]
      have hmax : Q.length ≤ 1000000 := by have := hG.len; have := hG.max; omega
      have hR := heapPop hP h0 hmax hW.heap
      have hta : ∀ (v : Value) (w : World), (Instr.typeAssert (.iface 56 v) 20 56 true).run Try.prog w = .ok (.tuple #[v, .bool true]) w := fun v w => by kernel_rfl
      go_enter Try.func20, Try.ntmps20
      go_wp2_with fail
      refine hi.mono ?_
      rintro e w1 ⟨rfl, rfl⟩
      clear hi
      go_wp2_with fail
      refine hR.mono ?_
      rintro e w3 ⟨rfl, Q', hP3, hq, hH3, hT3, c7, c8⟩
      clear hR
      unfold ptrV
      have hne : ∀ k, (k = b ∨ k = gr ∨ k ∈ Q') → k ≠ m := fun k hk => hW.ne k (by
        rcases hk with e | e | e
        · exact .inl e
        · exact .inr (.inl e)
        · exact .inr (.inr (hq.mem_iff.1 (List.mem_cons_of_mem _ e))))
      have hnq : g Q 0 ∈ Q := hq.mem_iff.1 (List.mem_cons_self ..)
      have hm3 : MapIs (Value.int .i64) w3 m kvs := hW.map.same (hT3.block m hW.map.lt (by
        intro hk
        exact hW.ne m (by rcases hk with e | e | e; exact .inl e; exact .inr (.inl e); exact .inr (.inr e)) rfl))
      have c9 : w3.cell? ⟨b, 0, none⟩ = some (.map (some m)) := by simp [World.cell?, hP3.blk]
      have hkv : (x.id, ptrV (g Q 0)) ∈ kvs := hW.kv.mem_iff.2 (List.mem_map.2 ⟨g Q 0, hnq, by rw [hx]⟩)
      rw [hx] at c8
      clear c7
      go_wp2_with fail
      go_still_tail 8, (by kernel_rfl)
      change wpList _ _ _ _ _ w3.drew
      have c8' : w3.drew.cell? ⟨g Q 0, 1, none⟩ = some (.int .i64 x.id) := c8
      have hP3' : Pile w3.drew b gr c Q' D (.map (some m)) (.int .i64 n) := hP3.same (fun k hk => rfl)
      have hT3' : TouchB (fun k => k = b ∨ pfoot gr Q k) w w3.drew := hT3.drew
      have hm3' : MapIs (Value.int .i64) w3.drew m kvs := hm3.same rfl
      clear c8 c9 hP3 hT3 hm3
      generalize w3.drew = w3 at *
      obtain ⟨w4, hrun, hm4, hT4, hz4⟩ := run_delete (ty := 0) (at1 := 2) key2 Try.underlying42 hm3' x.id
      have c9 : w4.cell? ⟨g Q 0, 1, none⟩ = some (.int .i64 x.id) := (hT4.cell (p := ⟨g Q 0, 1, none⟩) (World.block_lt_of_cell? w3 _ c8') (hW.ne _ (.inr (.inr hnq)))).trans c8'
      have hP4 : Pile w4 b gr c Q' D (.map (some m)) (.int .i64 n) := hP3'.same (fun k hk => hT4.block k (hP3'.lt k hk) (hne k hk))
      have hgo : Wheel w4 b (dropT (x :: A') x.id) n F := drop_end hW hG hF hL (List.mem_cons_self ..) hx hP4 hm4 (al_del (hW.keysN hG) hkv) hq hH3 (by rw [hz4]; exact hT3'.size)
      rw [dropT_head hG.ids] at hgo
      have hto : TouchB F w w4 := (hT3'.mono (fun k _ hk => hF k (by
        rcases hk with e | e | e
        · exact .inl e
        · exact .inr (.inr (.inl (by rw [e])))
        · exact .inr (.inr (.inr e))))).trans hT4 (fun k _ e => hF k (.inr (.inl e)))
      go_wp2_with fail
      go_ret2
      exact ⟨rfl, hgo, hto⟩
    · have hd2 : decide (now < x.due) = true := by simp; omega
      have e1 : takeV (x :: A') now = none := by simp [takeV, hd]
      have e2 : takeT (x :: A') now = x :: A' := by simp [takeT, hd]
      rw [e1, e2]
      clear hW hG hP
      go_enter Try.func20, Try.ntmps20
      go_wp2_with fail
      refine hi.mono ?_
      rintro e w1 ⟨rfl, rfl⟩
      clear hi
      go_wp2_with fail
      go_ret2
      exact ⟨rfl, h, TouchB.refl _ _⟩
end Go.Proofs.Ytgkiknkifleofaa.tm
