/- taken; TimersSplit. Conditions: the arguments lie in memory. -/
import Derived.Test.YtgkiknkifleofaaWalkX
namespace Go.Proofs.Ytgkiknkifleofaa.tm
open Go.RowKit mem TP
set_option linter.unusedVariables false
set_option linter.unusedSimpArgs false
set_option maxHeartbeats 1000000
set_option maxRecDepth 100000

def dueB (now : Int) (x : TD) : Bool := decide (x.due ≤ now)
def ready (A : List TD) (now : Int) : List TD := A.takeWhile (dueB now)
def later (A : List TD) (now : Int) : List TD := A.dropWhile (dueB now)
theorem take_some {A : List TD} {now : Int} {k : Nat} (hk : k < A.length) (h : A[k].due ≤ now) : takeV (A.drop k) now = some A[k].id ∧ takeT (A.drop k) now = A.drop (k + 1) := by
  rw [List.drop_eq_getElem_cons hk]
  unfold takeV takeT
  simp [h]
theorem take_none {A : List TD} {now : Int} {k : Nat} (h : ∀ (hk : k < A.length), ¬ A[k].due ≤ now) : takeV (A.drop k) now = none ∧ takeT (A.drop k) now = A.drop k := by
  by_cases hk : k < A.length
  · rw [List.drop_eq_getElem_cons hk]
    unfold takeV takeT
    simp [h hk]
  · rw [List.drop_of_length_le (by omega)]; exact ⟨rfl, rfl⟩
theorem ready_at {A : List TD} {now : Int} {k : Nat} (hk : k ≤ A.length) (h1 : ∀ j, (h : j < A.length) → j < k → A[j].due ≤ now) (h2 : ∀ (hk : k < A.length), ¬ A[k].due ≤ now) : ready A now = A.take k ∧ later A now = A.drop k := by
  induction A generalizing k with
  | nil => simp [ready, later]
  | cons x l ih =>
    cases k with
    | zero =>
      have := h2 (by simp)
      simp at this
      simp [ready, later, dueB, show ¬ x.due ≤ now by omega]
    | succ k =>
      have h0 := h1 0 (by simp) (by omega)
      simp at h0
      have hi := ih (k := k) (by simpa using hk) (fun j hj hjk => by have := h1 (j + 1) (by simpa using hj) (by omega); simpa using this) (fun hk' => by have := h2 (by simpa using hk'); simpa using this)
      unfold ready later at *
      simp [dueB, h0] at *
      exact hi
theorem idsV_snoc (A : List TD) (k : Nat) (hk : k < A.length) : idsV (A.take (k + 1)) = idsV (A.take k) ++ [.int .i64 A[k].id] := by
  rw [List.take_succ_eq_append_getElem hk]; unfold idsV; rw [List.map_append]; rfl
def TakenPost (w0 w : World) (b : Nat) (A : List TD) (n : Nat) (F : Nat → Prop) (now : Int) (e : Ending) (w' : World) : Prop :=
  ∃ v, e = .returned v ∧ w'.ownsRow w.heap.size 2 1 v (ready A now).length (idsV (ready A now)) ∧ Step w0 w w' b (later A now) n F F

theorem taken {w0 w : World} {b n : Nat} {A : List TD} {F : Nat → Prop} (h : St w0 w b A n F) (hn : A.length < 500) (now : Int) : Calls Try.prog 12 #[.pointer (some ⟨b, 0, none⟩), .int .i64 now] w (TakenPost w0 w b A n F now) := by
  obtain ⟨i0, hinf, hz0, hz1, hz2⟩ := info_parts info2
  have hFl : ∀ k, F k → k < w.heap.size := fun k hk => h.whl.lt k hk
  go_enter Try.func12, Try.ntmps12
  go_wp2_with fail
  go_loopw [5, 6] (fun v s wr => ∃ k : Nat, s = .int .i64 k ∧ k ≤ A.length ∧ Hid (∀ j, (h : j < A.length) → j < k → A[j].due ≤ now) ∧ wr.ownsRow w.heap.size 2 1 v k (idsV (A.take k)) ∧ Step w0 w wr b (A.drop k) n F F) (fun _ s _ => A.length - (intOf s).toNat)
  case atStart => exact ⟨0, rfl, by omega, Lib.hid (fun j _ hj => absurd hj (by omega)), World.ownsRow_nil _ _ _ _, h.still⟩
  case round =>
    obtain ⟨k, rfl, hk, hH, hr, hS⟩ := hrel
    have hsz := hS.touch.size
    have hk5 : k < 500 := by omega
    by_cases hd : ∃ (hk : k < A.length), A[k].due ≤ now
    · obtain ⟨hlt, hd⟩ := hd
      obtain ⟨e1, e2⟩ := take_some hlt hd
      have HS := Lib.hid (idsV_snoc A k hlt)
      have hH2 : Hid (∀ j, (h : j < A.length) → j < k + 1 → A[j].due ≤ now) := Lib.hid (fun j hj hjk => by
        by_cases e : j = k
        · subst e; exact hd
        · exact hH.out j hj (by omega))
      have hT := STake hS.st now
      rw [e1, e2] at hT
      have HFl := Lib.hid hFl; clear hFl
      generalize A[k] = x at *
      clear hH hd e1 e2
      go_wp2_with fail
      refine hT.mono ?_
      rintro e w2 ⟨rfl, hS2⟩
      clear hT
      have hr2 : w2.ownsRow w.heap.size 2 1 u5 k (idsV (A.take k)) := row_same hr (fun g hg => hS2.touch.block g (World.ownsRow.lt (h := hr) g hg).2 (fun hF => by have := HFl.out g hF; have := (World.ownsRow.lt (h := hr) g hg).1; omega))
      have hS3 : Step w0 w w2 b (A.drop (k + 1)) n F F := ⟨hS2.st, hS.touch.trans hS2.touch (fun _ _ e => e), fun k hk => .inl hk⟩
      have hsz2 := hS3.touch.size
      clear hS hS2 hr
      have HS3 := Lib.hid hS3; clear hS3
      go_wp2_with (at_builtin; refine wpList_append_own _ rfl _ _ 27 rfl w.heap.size 2 i0 (.int .i64 0) 1 8 Try.underlying27 hinf hz0 hz1 hz2 rfl (by decide) _ _ _ rfl (hr2.alloc _) ⟨w2.heap.size, 0, none⟩ 1 1 [.int .i64 x.id] rfl rfl ?c1 ?c2 ?c3 ?c4 ?c5 ?_)
      case c1 =>
        intro j u hj
        cases j with
        | zero => simp at hj; subst hj; simp [Addr.add]
        | succ j => simp at hj
      case c2 => intro u hu; simp at hu; subst hu; rfl
      case c3 => unfold maxLen; omega
      case c4 => omega
      case c5 => simp; omega
      intro v' w3 hr3 hgrow _
      have hS4 : Step w0 w w3 b (A.drop (k + 1)) n F F := by
        have hF3 := HS3.out
        have hb : Below w.heap.size w2 w3 := ((Below.refl w.heap.size w2).alloc hsz2 _).grown hgrow (by simp; omega) (fun g hg => (World.ownsRow.lt (h := hr2) g hg).1)
        refine ⟨⟨hF3.st.bel.trans (hb.mono h.bel.size), hF3.st.whl.same hb.size (fun k hk hFk => hb.block k (HFl.out k hFk)), hF3.st.own⟩, hF3.touch.ofBelow hb (Nat.le_refl _), fun k hk => .inl hk⟩
      have HS4 := Lib.hid hS4; clear hS4
      clear hgrow hr2
      go_wp2_with fail
      go_roundw
      case rel => exact ⟨k + 1, by go_num, by omega, hH2, by rw [HS.out]; exact hr3, HS4.out⟩
      case measure => simp [intOf]; omega
    · have hd' : ∀ (hk : k < A.length), ¬ A[k].due ≤ now := fun hk h => hd ⟨hk, h⟩
      obtain ⟨e1, e2⟩ := take_none hd'
      obtain ⟨e3, e4⟩ := ready_at hk hH.out hd'
      have hT := STake hS.st now
      rw [e1, e2, ← e4] at hT
      have hr' : wr.ownsRow w.heap.size 2 1 u5 (ready A now).length (idsV (ready A now)) := by
        rw [e3]; rw [List.length_take, Nat.min_eq_left hk]; exact hr
      have HFl := Lib.hid hFl; clear hFl
      clear hd hd' e1 e2 e3 e4 hr hH
      go_wp2_with fail
      refine hT.mono ?_
      rintro e w2 ⟨rfl, hS2⟩
      clear hT
      have hr2 : w2.ownsRow w.heap.size 2 1 u5 (ready A now).length (idsV (ready A now)) := row_same hr' (fun g hg => hS2.touch.block g (World.ownsRow.lt (h := hr') g hg).2 (fun hF => by have := HFl.out g hF; have := (World.ownsRow.lt (h := hr') g hg).1; omega))
      have hS3 : Step w0 w w2 b (later A now) n F F := ⟨hS2.st, hS.touch.trans hS2.touch (fun _ _ e => e), fun k hk => .inl hk⟩
      go_wp2_with fail
      go_ret
      exact ⟨_, rfl, hr2, hS3⟩
end Go.Proofs.Ytgkiknkifleofaa.tm
