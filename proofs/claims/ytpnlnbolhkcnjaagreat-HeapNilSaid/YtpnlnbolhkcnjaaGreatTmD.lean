
/- stagehandkit's left and Great. Conditions: the terms lie in memory. -/
import Derived.Test.YtpnlnbolhkcnjaaGreatTmC
namespace Go.Proofs.YtpnlnbolhkcnjaaGreat.tm
open Go.RowKit mem
set_option linter.unusedVariables false
set_option linter.unusedSimpArgs false
set_option maxHeartbeats 1000000
set_option maxRecDepth 100000

def leftB (f : TF) (m : Int) : Prop := m < (f.name.size : Int) ∨ m < (f.func.size : Int) ∨ m < (f.bytes.size : Int)
def leftN (f : TF) (m : Int) : Int := m - 1 - (f.name.size : Int) / 8 - (f.func.size : Int) / 8 - (f.bytes.size : Int) / 8
instance (f : TF) (m : Int) : Decidable (leftB f m) := by unfold leftB; infer_instance
def leftStep {n : Nat} (r : List (Tm n) → Int → Int) (m : Int) (t : Tm (n + 1)) : Int := if m < 0 then m else if leftB t.f m then -1 else r t.items (leftN t.f m)
def leftS : (n : Nat) → List (Tm n) → Int → Int
  | 0, _, m => m
  | n + 1, l, m => l.foldl (leftStep (leftS n)) m
theorem leftN_bd (f : TF) (m : Int) (h0 : 0 ≤ m) (h : ¬ leftB f m) : -1 ≤ leftN f m ∧ leftN f m < m := by
  unfold leftB at h; unfold leftN; omega
theorem fold_neg {n : Nat} (r : List (Tm n) → Int → Int) (m : Int) (h : m < 0) : ∀ (l : List (Tm (n + 1))), l.foldl (leftStep r) m = m := by
  intro l
  induction l with
  | nil => rfl
  | cons t l ih => rw [List.foldl_cons]; unfold leftStep at *; rw [if_pos h]; exact ih
theorem leftS_bd : ∀ (n : Nat) (l : List (Tm n)) (m : Int), -1 ≤ m → -1 ≤ leftS n l m ∧ leftS n l m ≤ m := by
  intro n
  induction n with
  | zero => intro l m h; exact ⟨h, Int.le_refl _⟩
  | succ n ih =>
    intro l
    induction l with
    | nil => intro m h; exact ⟨h, Int.le_refl _⟩
    | cons t l ih2 =>
      intro m h
      have e : leftS (n + 1) (t :: l) m = leftS (n + 1) l (leftStep (leftS n) m t) := rfl
      rw [e]
      have hs : -1 ≤ leftStep (leftS n) m t ∧ leftStep (leftS n) m t ≤ m := by
        unfold leftStep
        split
        · exact ⟨h, Int.le_refl _⟩
        · rename_i h0
          split
          · omega
          · rename_i h1
            have := leftN_bd t.f m (by omega) h1
            have := ih t.items (leftN t.f m) this.1
            omega
      have := ih2 _ hs.1
      omega
theorem left_snoc {n : Nat} (l : List (Tm (n + 1))) (m : Int) (k : Nat) (h : k < l.length) : leftS (n + 1) (l.take (k + 1)) m = leftStep (leftS n) (leftS (n + 1) (l.take k) m) l[k] := by
  unfold leftS
  rw [List.take_succ_eq_append_getElem h, List.foldl_append]; rfl
theorem left_end {n : Nat} (l : List (Tm (n + 1))) (m : Int) (k : Nat) (h : k ≤ l.length) (hn : leftS (n + 1) (l.take k) m < 0) : leftS (n + 1) l m = leftS (n + 1) (l.take k) m := by
  have e : leftS (n + 1) l m = (l.drop k).foldl (leftStep (leftS n)) (leftS (n + 1) (l.take k) m) := by
    show l.foldl _ m = _
    conv => lhs; rw [← List.take_append_drop k l]
    rw [List.foldl_append]; rfl
  rw [e, fold_neg _ _ hn]
def LeftC (n : Nat) : Prop := ∀ (w : World) (B : Nat) (v : Value) (l : List (Tm n)) (m : Int), B ≤ w.heap.size → -1 ≤ m → m ≤ 10000 → ItemsAt w B n v l → Calls Tryz.prog 87 #[v, .int .i64 m] w fun e w' => e = .returned (.int .i64 (leftS n l m)) ∧ Below w.heap.size w w'
theorem leftZero : LeftC 0 := by
  intro w B v l m hB hm0 hm h
  obtain ⟨p, c, rfl, hc⟩ := h
  go_enter Tryz.func87, Tryz.ntmps87
  go_wp2_with fail
  refine wp_loop_rounds 1 ?_
  rw [rounds_succ]
  go_wp2_with fail
  all_goals
    go_ret
    exact ⟨rfl, Below.refl _ _⟩
theorem leftSucc {n : Nat} (ih : LeftC n) : LeftC (n + 1) := by
  intro w B v l m hB hm0 hm h
  obtain ⟨p, c, e, hc, hcm⟩ := h.shape
  subst e
  unfold maxLen at hcm
  have HI := Lib.hid h; clear h
  go_enter Tryz.func87, Tryz.ntmps87
  go_wp2_with fail
  go_loopw [1, 5] (fun s1 s wr => ∃ k : Nat, s = .int .i64 k ∧ k ≤ l.length ∧ s1 = .int .i64 (leftS (n + 1) (l.take k) m) ∧ Below w.heap.size w wr) (fun _ s _ => l.length - (intOf s).toNat)
  case atStart => exact ⟨0, rfl, by omega, rfl, Below.refl _ _⟩
  case round =>
    obtain ⟨k, rfl, hk, rfl, hb⟩ := hrel
    obtain ⟨hm1, hm2⟩ := leftS_bd (n + 1) (l.take k) m hm0
    by_cases hlt : k < l.length
    · have hs := left_snoc l m k hlt
      by_cases hneg : leftS (n + 1) (l.take k) m < 0
      · have he := left_end l m k hk hneg
        have HE := Lib.hid he; clear he
        have hq : decide (0 ≤ leftS (n + 1) (l.take k) m) = false := decide_eq_false (by omega)
        clear hs
        generalize leftS (n + 1) (l.take k) m = q at *
        go_wp2_with fail
        go_ret
        exact ⟨ret1 HE.out.symm, hb⟩
      · have hq : decide (0 ≤ leftS (n + 1) (l.take k) m) = true := decide_eq_true (by omega)
        obtain ⟨g, o, c', e, _, _, hg, hx⟩ := (HI.out.below hb hB).at_ (by intro e; subst e; simp at hlt)
        simp only [Value.slice.injEq] at e
        obtain ⟨rfl, _, rfl⟩ := e
        obtain ⟨u, hC, hI⟩ := hx k hlt
        obtain ⟨pu, cu, rfl, hcu, hcm2⟩ := hI.shape
        obtain ⟨x0, x1, x2, x3, x4, x5, x6, x7, x8⟩ := hC
        unfold leftStep at hs
        rw [if_neg hneg] at hs
        have hend : ∀ z : Int, leftS (n + 1) (l.take (k + 1)) m = z → z < 0 → leftS (n + 1) l m = z := fun z hz hz0 => by
          rw [left_end l m (k + 1) (by omega) (by rw [hz]; exact hz0), hz]
        have HEND := Lib.hid hend; clear hend
        have HS := Lib.hid hs; clear hs
        clear hx
        generalize leftS (n + 1) (l.take k) m = q at *
        generalize l[k] = t at *
        have hih := fun (W : World) (hW : Below w.heap.size w W) (hW2 : Below wr.heap.size wr W) (hq0 : ¬ leftB t.f q) => ih W B _ t.items (leftN t.f q) (Nat.le_trans hB hW.size) (leftN_bd t.f q (by omega) hq0).1 (by have := (leftN_bd t.f q (by omega) hq0).2; omega) (hI.below hW2 (Nat.le_trans hB hb.size))
        have HIH := Lib.hid hih; clear hih
        clear hI
        have hsz := hb.size
        generalize t.items = its at *
        generalize hf : t.f = f at *
        clear hf
        have hb3 : ∀ (o1 : Obj), Below w.heap.size w (wr.alloc o1) := fun o1 => hb.alloc hsz o1
        by_cases h3 : q < (f.name.size : Int)
        · have hL : leftB f q := .inl h3
          have HR := Lib.hid (HEND.out (-1) (by rw [HS.out, if_pos hL]) (by omega))
          clear HS HEND HIH
          go_wp2_with fail
          go_ret
          exact ⟨ret1 HR.out.symm, hb3 _⟩
        by_cases h4 : q < (f.func.size : Int)
        · have hL : leftB f q := .inr (.inl h4)
          have HR := Lib.hid (HEND.out (-1) (by rw [HS.out, if_pos hL]) (by omega))
          clear HS HEND HIH
          go_wp2_with fail
          go_ret
          exact ⟨ret1 HR.out.symm, hb3 _⟩
        by_cases h5 : q < (f.bytes.size : Int)
        · have hL : leftB f q := .inr (.inr h5)
          have HR := Lib.hid (HEND.out (-1) (by rw [HS.out, if_pos hL]) (by omega))
          clear HS HEND HIH
          go_wp2_with fail
          go_ret
          exact ⟨ret1 HR.out.symm, hb3 _⟩
        have hL : ¬ leftB f q := by unfold leftB; omega
        have HS2 : Hid (leftS (n + 1) (l.take (k + 1)) m = leftS n its (leftN f q)) := Lib.hid (by rw [HS.out, if_neg hL])
        have hih := fun (W : World) hW hW2 => HIH.out W hW hW2 hL
        unfold leftN at hih
        have HIH2 := Lib.hid hih; clear hih
        clear HS HEND HIH
        go_wp2_with fail
        refine (HIH2.out _ (hb3 _) ((Below.refl _ _).alloc (Nat.le_refl _) _)).mono ?_
        rintro e w3 ⟨rfl, hb4⟩
        have hb5 := (hb3 (.cells #[.int .i64 0] 38)).size
        have hb6 : Below w.heap.size w w3 := (hb3 _).trans (hb4.mono (by simp; omega))
        have HS3 : Hid (leftS (n + 1) (l.take (k + 1)) m = leftS n its (q - 1 - (f.name.size : Int) / 8 - (f.func.size : Int) / 8 - (f.bytes.size : Int) / 8)) := HS2
        go_wp2_with fail
        go_roundw
        case rel => exact ⟨k + 1, by go_num, by omega, by rw [HS3.out], hb6⟩
        case measure => simp [intOf]; omega
    · have hkk : l.take k = l := List.take_of_length_le (by omega)
      rw [hkk] at *
      clear hkk
      have hq : decide (k < l.length) = false := decide_eq_false hlt
      go_wp2_with fail
      go_ret
      exact ⟨rfl, hb⟩
theorem leftAll (n : Nat) : LeftC n := by
  induction n with
  | zero => exact leftZero
  | succ n ih => exact leftSucc ih
def greatS (n : Nat) (l : List (Tm n)) (m : Int) : Bool := decide (leftS n l m < 0)
theorem Great {n : Nat} (w : World) (B : Nat) (v : Value) (l : List (Tm n)) (m : Int) (hB : B ≤ w.heap.size) (hm0 : -1 ≤ m) (hm : m ≤ 10000) (h : ItemsAt w B n v l) : Calls Tryz.prog 30 #[v, .int .i64 m] w (BPost (greatS n l m) w) := by
  have hL := leftAll n w B v l m hB hm0 hm h
  unfold greatS
  generalize leftS n l m = q at *
  clear h
  go_enter Tryz.func30, Tryz.ntmps30
  go_wp2_with fail
  refine hL.mono ?_
  rintro e w1 ⟨rfl, hb⟩
  go_wp2_with fail
  go_ret
  exact ⟨rfl, hb⟩
end Go.Proofs.YtpnlnbolhkcnjaaGreat.tm
