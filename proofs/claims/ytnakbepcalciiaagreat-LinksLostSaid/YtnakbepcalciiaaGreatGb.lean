/- Several texts in one, one behind the other: TmD, Nam, TmE, TnH. No condition beyond theirs. -/
import Derived.Test.YtnakbepcalciiaaGreatGa
import Derived.Laws.Strings
import Derived.Laws.OwnMore

/- stagehandkit's left and Great. Conditions: the terms lie in memory. -/
namespace Go.Proofs.YtnakbepcalciiaaGreat.tm
open Go.RowKit mem
set_option linter.unusedVariables false
set_option linter.unusedSimpArgs false
set_option maxHeartbeats 1000000
set_option maxRecDepth 100000

def leftB (f : TF) (m : Int) : Prop := m < (f.name.size : Int) ∨ m < (f.func.size : Int) ∨ m < (f.bytes.size : Int)
def leftN (f : TF) (m : Int) : Int := m - 1 - (f.name.size : Int) / 8 - (f.func.size : Int) / 8 - (f.bytes.size : Int) / 8
instance (f : TF) (m : Int) : Decidable (leftB f m) := by unfold leftB; infer_instance
def leftStep {n : Nat} (r : List (Tm n) → Int → Int) (m : Int) (t : Tm (n + 1)) : Int := if m < 0 then m else if leftB t.f m then -1 else r t.items (leftN t.f m)
def leftS : (n : Nat) → List (Tm n) → Int → Int
  | 0, _, m => m
  | n + 1, l, m => l.foldl (leftStep (leftS n)) m
theorem leftN_bd (f : TF) (m : Int) (h0 : 0 ≤ m) (h : ¬ leftB f m) : -1 ≤ leftN f m ∧ leftN f m < m := by
  unfold leftB at h; unfold leftN; omega
theorem fold_neg {n : Nat} (r : List (Tm n) → Int → Int) (m : Int) (h : m < 0) : ∀ (l : List (Tm (n + 1))), l.foldl (leftStep r) m = m := by
  intro l
  induction l with
  | nil => rfl
  | cons t l ih => rw [List.foldl_cons]; unfold leftStep at *; rw [if_pos h]; exact ih
theorem leftS_bd : ∀ (n : Nat) (l : List (Tm n)) (m : Int), -1 ≤ m → -1 ≤ leftS n l m ∧ leftS n l m ≤ m := by
  intro n
  induction n with
  | zero => intro l m h; exact ⟨h, Int.le_refl _⟩
  | succ n ih =>
    intro l
    induction l with
    | nil => intro m h; exact ⟨h, Int.le_refl _⟩
    | cons t l ih2 =>
      intro m h
      have e : leftS (n + 1) (t :: l) m = leftS (n + 1) l (leftStep (leftS n) m t) := rfl
      rw [e]
      have hs : -1 ≤ leftStep (leftS n) m t ∧ leftStep (leftS n) m t ≤ m := by
        unfold leftStep
        split
        · exact ⟨h, Int.le_refl _⟩
        · rename_i h0
          split
          · omega
          · rename_i h1
            have := leftN_bd t.f m (by omega) h1
            have := ih t.items (leftN t.f m) this.1
            omega
      have := ih2 _ hs.1
      omega
theorem left_snoc {n : Nat} (l : List (Tm (n + 1))) (m : Int) (k : Nat) (h : k < l.length) : leftS (n + 1) (l.take (k + 1)) m = leftStep (leftS n) (leftS (n + 1) (l.take k) m) l[k] := by
  unfold leftS
  rw [List.take_succ_eq_append_getElem h, List.foldl_append]; rfl
theorem left_end {n : Nat} (l : List (Tm (n + 1))) (m : Int) (k : Nat) (h : k ≤ l.length) (hn : leftS (n + 1) (l.take k) m < 0) : leftS (n + 1) l m = leftS (n + 1) (l.take k) m := by
  have e : leftS (n + 1) l m = (l.drop k).foldl (leftStep (leftS n)) (leftS (n + 1) (l.take k) m) := by
    show l.foldl _ m = _
    conv => lhs; rw [← List.take_append_drop k l]
    rw [List.foldl_append]; rfl
  rw [e, fold_neg _ _ hn]
def LeftC (n : Nat) : Prop := ∀ (w : World) (B : Nat) (v : Value) (l : List (Tm n)) (m : Int), B ≤ w.heap.size → -1 ≤ m → m ≤ 10000 → ItemsAt w B n v l → Calls Tryz.prog 84 #[v, .int .i64 m] w fun e w' => e = .returned (.int .i64 (leftS n l m)) ∧ Below w.heap.size w w'
theorem leftZero : LeftC 0 := by
  intro w B v l m hB hm0 hm h
  obtain ⟨p, c, rfl, hc⟩ := h
  go_enter Tryz.func84, Tryz.ntmps84
  go_wp2_with fail
  refine wp_loop_rounds 1 ?_
  rw [rounds_succ]
  go_wp2_with fail
  all_goals
    go_ret
    exact ⟨rfl, Below.refl _ _⟩
theorem leftSucc {n : Nat} (ih : LeftC n) : LeftC (n + 1) := by
  intro w B v l m hB hm0 hm h
  obtain ⟨p, c, e, hc, hcm⟩ := h.shape
  subst e
  unfold maxLen at hcm
  have HI := Lib.hid h; clear h
  go_enter Tryz.func84, Tryz.ntmps84
  go_wp2_with fail
  go_loopw [1, 5] (fun s1 s wr => ∃ k : Nat, s = .int .i64 k ∧ k ≤ l.length ∧ s1 = .int .i64 (leftS (n + 1) (l.take k) m) ∧ Below w.heap.size w wr) (fun _ s _ => l.length - (intOf s).toNat)
  case atStart => exact ⟨0, rfl, by omega, rfl, Below.refl _ _⟩
  case round =>
    obtain ⟨k, rfl, hk, rfl, hb⟩ := hrel
    obtain ⟨hm1, hm2⟩ := leftS_bd (n + 1) (l.take k) m hm0
    by_cases hlt : k < l.length
    · have hs := left_snoc l m k hlt
      by_cases hneg : leftS (n + 1) (l.take k) m < 0
      · have he := left_end l m k hk hneg
        have HE := Lib.hid he; clear he
        have hq : decide (0 ≤ leftS (n + 1) (l.take k) m) = false := decide_eq_false (by omega)
        clear hs
        generalize leftS (n + 1) (l.take k) m = q at *
        go_wp2_with fail
        go_ret
        exact ⟨ret1 HE.out.symm, hb⟩
      · have hq : decide (0 ≤ leftS (n + 1) (l.take k) m) = true := decide_eq_true (by omega)
        obtain ⟨g, o, c', e, _, _, hg, hx⟩ := (HI.out.below hb hB).at_ (by intro e; subst e; simp at hlt)
        simp only [Value.slice.injEq] at e
        obtain ⟨rfl, _, rfl⟩ := e
        obtain ⟨u, hC, hI⟩ := hx k hlt
        obtain ⟨pu, cu, rfl, hcu, hcm2⟩ := hI.shape
        obtain ⟨x0, x1, x2, x3, x4, x5, x6, x7, x8⟩ := hC
        unfold leftStep at hs
        rw [if_neg hneg] at hs
        have hend : ∀ z : Int, leftS (n + 1) (l.take (k + 1)) m = z → z < 0 → leftS (n + 1) l m = z := fun z hz hz0 => by
          rw [left_end l m (k + 1) (by omega) (by rw [hz]; exact hz0), hz]
        have HEND := Lib.hid hend; clear hend
        have HS := Lib.hid hs; clear hs
        clear hx
        generalize leftS (n + 1) (l.take k) m = q at *
        generalize l[k] = t at *
        have hih := fun (W : World) (hW : Below w.heap.size w W) (hW2 : Below wr.heap.size wr W) (hq0 : ¬ leftB t.f q) => ih W B _ t.items (leftN t.f q) (Nat.le_trans hB hW.size) (leftN_bd t.f q (by omega) hq0).1 (by have := (leftN_bd t.f q (by omega) hq0).2; omega) (hI.below hW2 (Nat.le_trans hB hb.size))
        have HIH := Lib.hid hih; clear hih
        clear hI
        have hsz := hb.size
        generalize t.items = its at *
        generalize hf : t.f = f at *
        clear hf
        have hb3 : ∀ (o1 : Obj), Below w.heap.size w (wr.alloc o1) := fun o1 => hb.alloc hsz o1
        by_cases h3 : q < (f.name.size : Int)
        · have hL : leftB f q := .inl h3
          have HR := Lib.hid (HEND.out (-1) (by rw [HS.out, if_pos hL]) (by omega))
          clear HS HEND HIH
          go_wp2_with fail
          go_ret
          exact ⟨ret1 HR.out.symm, hb3 _⟩
        by_cases h4 : q < (f.func.size : Int)
        · have hL : leftB f q := .inr (.inl h4)
          have HR := Lib.hid (HEND.out (-1) (by rw [HS.out, if_pos hL]) (by omega))
          clear HS HEND HIH
          go_wp2_with fail
          go_ret
          exact ⟨ret1 HR.out.symm, hb3 _⟩
        by_cases h5 : q < (f.bytes.size : Int)
        · have hL : leftB f q := .inr (.inr h5)
          have HR := Lib.hid (HEND.out (-1) (by rw [HS.out, if_pos hL]) (by omega))
          clear HS HEND HIH
          go_wp2_with fail
          go_ret
          exact ⟨ret1 HR.out.symm, hb3 _⟩
        have hL : ¬ leftB f q := by unfold leftB; omega
        have HS2 : Hid (leftS (n + 1) (l.take (k + 1)) m = leftS n its (leftN f q)) := Lib.hid (by rw [HS.out, if_neg hL])
        have hih := fun (W : World) hW hW2 => HIH.out W hW hW2 hL
        unfold leftN at hih
        have HIH2 := Lib.hid hih; clear hih
        clear HS HEND HIH
        go_wp2_with fail
        refine (HIH2.out _ (hb3 _) ((Below.refl _ _).alloc (Nat.le_refl _) _)).mono ?_
        rintro e w3 ⟨rfl, hb4⟩
        have hb5 := (hb3 (.cells #[.int .i64 0] 30)).size
        have hb6 : Below w.heap.size w w3 := (hb3 _).trans (hb4.mono (by simp; omega))
        have HS3 : Hid (leftS (n + 1) (l.take (k + 1)) m = leftS n its (q - 1 - (f.name.size : Int) / 8 - (f.func.size : Int) / 8 - (f.bytes.size : Int) / 8)) := HS2
        go_wp2_with fail
        go_roundw
        case rel => exact ⟨k + 1, by go_num, by omega, by rw [HS3.out], hb6⟩
        case measure => simp [intOf]; omega
    · have hkk : l.take k = l := List.take_of_length_le (by omega)
      rw [hkk] at *
      clear hkk
      have hq : decide (k < l.length) = false := decide_eq_false hlt
      go_wp2_with fail
      go_ret
      exact ⟨rfl, hb⟩
theorem leftAll (n : Nat) : LeftC n := by
  induction n with
  | zero => exact leftZero
  | succ n ih => exact leftSucc ih
def greatS (n : Nat) (l : List (Tm n)) (m : Int) : Bool := decide (leftS n l m < 0)
theorem Great {n : Nat} (w : World) (B : Nat) (v : Value) (l : List (Tm n)) (m : Int) (hB : B ≤ w.heap.size) (hm0 : -1 ≤ m) (hm : m ≤ 10000) (h : ItemsAt w B n v l) : Calls Tryz.prog 26 #[v, .int .i64 m] w (BPost (greatS n l m) w) := by
  have hL := leftAll n w B v l m hB hm0 hm h
  unfold greatS
  generalize leftS n l m = q at *
  clear h
  go_enter Tryz.func26, Tryz.ntmps26
  go_wp2_with fail
  refine hL.mono ?_
  rintro e w1 ⟨rfl, hb⟩
  go_wp2_with fail
  go_ret
  exact ⟨rfl, hb⟩
end Go.Proofs.YtnakbepcalciiaaGreat.tm

/- Valid names: the program's Valid and the specification's return the same function of the string's bytes. Conditions: none on the string but that it is one that a Go program can hold. -/
namespace Go.Proofs.YtnakbepcalciiaaGreat.names
open Go.RowKit
set_option linter.unusedVariables false
set_option linter.unusedSimpArgs false
set_option maxHeartbeats 1000000

/-- may the byte c stand at place k of a name? -/
def okAt (k : Nat) (c : Nat) : Bool := decide (97 ≤ c ∧ c ≤ 122) || (decide (0 < k) && (decide (65 ≤ c ∧ c ≤ 90) || decide (48 ≤ c ∧ c ≤ 57) || decide (c = 95) || decide (c = 64)))
def vName (s : ByteArray) : Bool := decide (1 ≤ s.size ∧ s.size ≤ 32 ∧ ∀ k : Nat, (h : k < s.size) → okAt k (s[k]'h).toNat = true)

theorem vName_false {s : ByteArray} (k : Nat) (h : k < s.size) (hk : okAt k (s[k]'h).toNat = false) : vName s = false := by
  unfold vName; rw [decide_eq_false_iff_not]; rintro ⟨_, _, h3⟩; rw [h3 k h] at hk; cases hk
theorem vName_true {s : ByteArray} (h1 : 1 ≤ s.size) (h2 : s.size ≤ 32) (h3 : ∀ k : Nat, (h : k < s.size) → okAt k (s[k]'h).toNat = true) : vName s = true := by
  unfold vName; exact decide_eq_true ⟨h1, h2, h3⟩
theorem ret1b {a b : Bool} (h : a = b) : Ending.returned (.bool a) = .returned (.bool b) := by rw [h]
theorem okAt_high (k c : Nat) (h : 128 ≤ c) : okAt k c = false := by
  unfold okAt; simp; omega

theorem toList_len (s : ByteArray) : s.toList.length = s.size := by
  rw [ByteArray.toList_eq, Array.length_toList]; rfl
theorem okAt_iff (k c : Nat) : okAt k c = true ↔ (97 ≤ c ∧ c ≤ 122) ∨ (0 < k ∧ ((65 ≤ c ∧ c ≤ 90) ∨ (48 ≤ c ∧ c ≤ 57) ∨ c = 95 ∨ c = 64)) := by
  unfold okAt; simp [or_assoc]
theorem okAt_not (k c : Nat) (h : ¬ ((97 ≤ c ∧ c ≤ 122) ∨ (0 < k ∧ ((65 ≤ c ∧ c ≤ 90) ∨ (48 ≤ c ∧ c ≤ 57) ∨ c = 95 ∨ c = 64)))) : okAt k c = false := by
  rw [Bool.eq_false_iff, ne_eq, okAt_iff]; exact h
/-- the classes of bytes -/
theorem classes (c : Nat) (h : c < 256) : ∃ lo hi : Int, ∃ b1 b2 : Bool, lo ≤ (c : Int) ∧ (c : Int) ≤ hi ∧ ((c : Int) == 95) = b1 ∧ ((c : Int) == 64) = b2 ∧ ((c : Int) != 95) = !b1 ∧ ((c : Int) != 64) = !b2 ∧ ((lo = 0 ∧ hi = 47 ∧ b1 = false ∧ b2 = false) ∨ (lo = 48 ∧ hi = 57 ∧ b1 = false ∧ b2 = false) ∨ (lo = 58 ∧ hi = 63 ∧ b1 = false ∧ b2 = false) ∨ (lo = 64 ∧ hi = 64 ∧ b1 = false ∧ b2 = true) ∨ (lo = 65 ∧ hi = 90 ∧ b1 = false ∧ b2 = false) ∨ (lo = 91 ∧ hi = 94 ∧ b1 = false ∧ b2 = false) ∨ (lo = 95 ∧ hi = 95 ∧ b1 = true ∧ b2 = false) ∨ (lo = 96 ∧ hi = 96 ∧ b1 = false ∧ b2 = false) ∨ (lo = 97 ∧ hi = 122 ∧ b1 = false ∧ b2 = false) ∨ (lo = 123 ∧ hi = 255 ∧ b1 = false ∧ b2 = false)) := by
  have : c ≤ 47 ∨ (48 ≤ c ∧ c ≤ 57) ∨ (58 ≤ c ∧ c ≤ 63) ∨ c = 64 ∨ (65 ≤ c ∧ c ≤ 90) ∨ (91 ≤ c ∧ c ≤ 94) ∨ c = 95 ∨ c = 96 ∨ (97 ≤ c ∧ c ≤ 122) ∨ 123 ≤ c := by omega
  rcases this with h | h | h | h | h | h | h | h | h | h
  · exact ⟨0, 47, false, false, by omega, by omega, by simp <;> omega, by simp <;> omega, by simp <;> omega, by simp <;> omega, by simp⟩
  · exact ⟨48, 57, false, false, by omega, by omega, by simp <;> omega, by simp <;> omega, by simp <;> omega, by simp <;> omega, by simp⟩
  · exact ⟨58, 63, false, false, by omega, by omega, by simp <;> omega, by simp <;> omega, by simp <;> omega, by simp <;> omega, by simp⟩
  · exact ⟨64, 64, false, true, by omega, by omega, by simp <;> omega, by simp <;> omega, by simp <;> omega, by simp <;> omega, by simp⟩
  · exact ⟨65, 90, false, false, by omega, by omega, by simp <;> omega, by simp <;> omega, by simp <;> omega, by simp <;> omega, by simp⟩
  · exact ⟨91, 94, false, false, by omega, by omega, by simp <;> omega, by simp <;> omega, by simp <;> omega, by simp <;> omega, by simp⟩
  · exact ⟨95, 95, true, false, by omega, by omega, by simp <;> omega, by simp <;> omega, by simp <;> omega, by simp <;> omega, by simp⟩
  · exact ⟨96, 96, false, false, by omega, by omega, by simp <;> omega, by simp <;> omega, by simp <;> omega, by simp <;> omega, by simp⟩
  · exact ⟨97, 122, false, false, by omega, by omega, by simp <;> omega, by simp <;> omega, by simp <;> omega, by simp <;> omega, by simp⟩
  · exact ⟨123, 255, false, false, by omega, by omega, by simp <;> omega, by simp <;> omega, by simp <;> omega, by simp <;> omega, by simp⟩
/-- what a round of the loop over runes sees -/
theorem rune_at (s : ByteArray) (pos : Nat) (h : pos < s.size) :
    ((Utf8.decode s pos).1 = ((s[pos]'h).toNat : Int) ∧ (s[pos]'h).toNat < 128 ∧ (Utf8.decode s pos).2 = 1) ∨ (128 ≤ (Utf8.decode s pos).1 ∧ 128 ≤ (s[pos]'h).toNat) := by
  by_cases ha : (s[pos]'h).toNat < 128
  · left; rw [decode_ascii s pos h ha]; exact ⟨rfl, ha, rfl⟩
  · right; exact ⟨by have := (decode_high s pos h (by omega)).1; omega, by omega⟩

theorem Valid (s : ByteArray) (w : World) :
    Calls Tryz.prog 78 #[.string s] w fun e w' => e = .returned (.bool (vName s)) ∧ Below w.heap.size w w' := by
  by_cases h1 : s.size = 0
  · have h3 : s.toList.isEmpty = true := by rw [List.isEmpty_iff, ← List.length_eq_zero_iff, toList_len]; exact h1
    go_enter Tryz.func78, Tryz.ntmps78
    go_wp2_with fail
    go_ret
    exact ⟨ret1b (by unfold vName; symm; rw [decide_eq_false_iff_not]; omega), Below.refl _ _⟩
  have h3 : s.toList.isEmpty = false := by rw [List.isEmpty_eq_false_iff]; intro e; exact h1 (by rw [← toList_len, e]; rfl)
  by_cases h2 : 32 < s.size
  · go_enter Tryz.func78, Tryz.ntmps78
    go_wp2_with fail
    go_ret
    exact ⟨ret1b (by unfold vName; symm; rw [decide_eq_false_iff_not]; omega), Below.refl _ _⟩
  go_enter Tryz.func78, Tryz.ntmps78
  go_wp2_with fail
  go_loopw [3] (fun _ w' => ∃ pos : Nat, w' = w.iter s pos ∧ pos ≤ s.size ∧ ∀ k : Nat, (h : k < s.size) → k < pos → okAt k (s[k]'h).toNat = true) (fun _ w' => s.size - w'.iterPos w.heap.size)
  case atStart => exact ⟨0, rfl, by omega, by omega⟩
  case round =>
    obtain ⟨pos, rfl, hpos, hall⟩ := hrel
    have HALL := Lib.hid hall
    clear hall
    by_cases hp : pos < s.size
    · by_cases ha : s[pos].toNat < 128
      · have hnx : ∀ ty, (Instr.next (.pointer (some ⟨w.heap.size, 0, none⟩)) true ty).run Tryz.prog (w.iter s pos) = _ := fun ty => run_next_ascii w s pos ty hp ha
        have HP : Hid (pos = 0 ∨ 0 < pos) := Lib.hid (by omega)
        obtain ⟨lo, hi, b1, b2, c1, c2, c3, c4, c5, c6, hG⟩ := classes s[pos].toNat (by omega)
        rcases HP.out with hp0 | hp0
        · subst hp0
          rcases hG with ⟨rfl, rfl, rfl, rfl⟩ | ⟨rfl, rfl, rfl, rfl⟩ | ⟨rfl, rfl, rfl, rfl⟩ | ⟨rfl, rfl, rfl, rfl⟩ | ⟨rfl, rfl, rfl, rfl⟩ | ⟨rfl, rfl, rfl, rfl⟩ | ⟨rfl, rfl, rfl, rfl⟩ | ⟨rfl, rfl, rfl, rfl⟩ | ⟨rfl, rfl, rfl, rfl⟩ | ⟨rfl, rfl, rfl, rfl⟩
          all_goals go_wp2
          all_goals first
            | (go_ret
               exact ⟨ret1b (vName_false 0 hp (okAt_not _ _ (by omega))).symm, (Below.refl _ _).alloc (Nat.le_refl _) _⟩)
            | (go_roundw
               case rel => exact ⟨0 + 1, rfl, by omega, fun k h hk => by obtain rfl : k = 0 := by omega
                                                                         exact (okAt_iff _ _).2 (by omega)⟩
               case measure => simp; omega)
            | (exfalso; simp only [Bool.not_eq_eq_eq_not, Bool.not_false, Bool.not_true, decide_eq_true_eq, decide_eq_false_iff_not] at *; omega)
        · rcases hG with ⟨rfl, rfl, rfl, rfl⟩ | ⟨rfl, rfl, rfl, rfl⟩ | ⟨rfl, rfl, rfl, rfl⟩ | ⟨rfl, rfl, rfl, rfl⟩ | ⟨rfl, rfl, rfl, rfl⟩ | ⟨rfl, rfl, rfl, rfl⟩ | ⟨rfl, rfl, rfl, rfl⟩ | ⟨rfl, rfl, rfl, rfl⟩ | ⟨rfl, rfl, rfl, rfl⟩ | ⟨rfl, rfl, rfl, rfl⟩
          all_goals go_wp2
          all_goals first
            | (go_ret
               exact ⟨ret1b (vName_false pos hp (okAt_not _ _ (by omega))).symm, (Below.refl _ _).alloc (Nat.le_refl _) _⟩)
            | (go_roundw
               case rel =>
                refine ⟨pos + 1, rfl, by omega, fun k h hk => ?_⟩
                by_cases hkp : k < pos
                · exact HALL.out k h hkp
                · obtain rfl : k = pos := by omega
                  exact (okAt_iff _ _).2 (by omega)
               case measure => simp; omega)
            | (exfalso; simp only [Bool.not_eq_eq_eq_not, Bool.not_false, Bool.not_true, decide_eq_true_eq, decide_eq_false_iff_not] at *; omega)
      · have hnx : ∀ ty, (Instr.next (.pointer (some ⟨w.heap.size, 0, none⟩)) true ty).run Tryz.prog (w.iter s pos) = _ := fun ty => run_next_any w s pos ty hp
        have hr := (decode_high s pos hp (by omega)).1
        generalize hdr : (Utf8.decode s pos).1 = r at *
        generalize hdw : (Utf8.decode s pos).2 = wd at *
        clear hdr hdw
        have q1 : ((r : Int) == 95) = false := by simp; omega
        have q2 : ((r : Int) == 64) = false := by simp; omega
        by_cases hp0 : 0 < pos
        all_goals go_wp2
        all_goals first
          | (go_ret
             exact ⟨ret1b (vName_false pos hp (okAt_high _ _ (by omega))).symm, (Below.refl _ _).alloc (Nat.le_refl _) _⟩)
          | (exfalso; simp only [Bool.not_eq_eq_eq_not, Bool.not_false, Bool.not_true, decide_eq_true_eq, decide_eq_false_iff_not] at *; omega)
    · have hnx : ∀ ty, (Instr.next (.pointer (some ⟨w.heap.size, 0, none⟩)) true ty).run Tryz.prog (w.iter s pos) = _ := fun ty => run_next_end w s pos ty hp
      go_wp2
      go_ret
      exact ⟨ret1b (vName_true (by omega) (by omega) (fun k h => HALL.out k h (by omega))).symm, (Below.refl _ _).alloc (Nat.le_refl _) _⟩

end Go.Proofs.YtnakbepcalciiaaGreat.names

/- terms: what each kind requires. Conditions: the term's elements lie in memory. -/
namespace Go
theorem RowKit.Below.drewN {B : Nat} {a w : World} (h : RowKit.Below B a w) (n : Nat) : RowKit.Below B a (w.drewN n) := ⟨h.os, h.tape, h.output, h.size, h.block⟩
end Go
namespace Go.Proofs.YtnakbepcalciiaaGreat.tm
open Go.RowKit mem names
set_option linter.unusedVariables false
set_option linter.unusedSimpArgs false
set_option maxHeartbeats 1000000
set_option maxRecDepth 100000

def inB (n a b : Int) : Bool := decide (a ≤ n ∧ n ≤ b)
theorem inB_t {n a b : Int} (h : a ≤ n ∧ n ≤ b) : inB n a b = true := decide_eq_true h
theorem inB_f {n a b : Int} (h : ¬ (a ≤ n ∧ n ≤ b)) : inB n a b = false := decide_eq_false h
theorem within (n a b : Int) (w : World) : Calls Tryz.prog 255 #[.int .i64 n, .int .i64 a, .int .i64 b] w fun e w' => e = .returned (.bool (inB n a b)) ∧ w = w' := by
  by_cases h1 : a ≤ n
  · by_cases h2 : n ≤ b
    · rw [inB_t ⟨h1, h2⟩]
      have q1 : decide (a ≤ n) = true := decide_eq_true h1
      have q2 : decide (n ≤ b) = true := decide_eq_true h2
      go_enter Tryz.func255, Tryz.ntmps255
      go_wp2_with fail
      go_ret
      exact ⟨rfl, rfl⟩
    · rw [inB_f (fun h => h2 h.2)]
      have q1 : decide (a ≤ n) = true := decide_eq_true h1
      have q2 : decide (n ≤ b) = false := decide_eq_false h2
      go_enter Tryz.func255, Tryz.ntmps255
      go_wp2_with fail
      go_ret
      exact ⟨rfl, rfl⟩
  · rw [inB_f (fun h => h1 h.1)]
    have q1 : decide (a ≤ n) = false := decide_eq_false h1
    go_enter Tryz.func255, Tryz.ntmps255
    go_wp2_with fail
    go_ret
    exact ⟨rfl, rfl⟩

def zeroF : TF := ⟨0, 0, 0, ⟨#[]⟩, ⟨#[]⟩, 0, ⟨#[]⟩, 0⟩
def nilV : Value := .slice none 0 0
def lastByte (s : ByteArray) : Nat := (s.data.toList.getLastD 0).toNat
def okBits (f : TF) : Bool := inB f.bits 0 16384 && decide ((f.bytes.size : Int) = (f.bits + 7) / 8) && decide (f.bits % 8 = 0 ∨ lastByte f.bytes % 2 ^ (8 - (f.bits % 8).toNat) = 0)
def okF (f : TF) (n : Nat) (last : Int) : Bool :=
  if f.kind = 1 ∨ f.kind = 8 then true
  else if f.kind = 2 then vName f.name
  else if f.kind = 3 ∨ f.kind = 6 then inB f.int 1 2147483647 && (inB f.gen 1 2147483647 && vName f.name)
  else if f.kind = 4 then inB f.int 0 999 && (inB f.gen 1 2147483647 && (vName f.name && (inB f.arity 0 16 && decide (n ≤ 200))))
  else if f.kind = 5 then vName f.name && (vName f.func && inB f.arity 0 16)
  else if f.kind = 7 then decide (n ≤ 255)
  else if f.kind = 9 then decide (2 ≤ n) && decide (last ≠ 9)
  else if f.kind = 10 then okBits f
  else false
/-- the fields that a kind uses are struck -/
def bareF (f : TF) : TF :=
  if f.kind = 1 then { f with int := 0 }
  else if f.kind = 2 then { f with name := ⟨#[]⟩ }
  else if f.kind = 3 ∨ f.kind = 6 then { f with int := 0, gen := 0, name := ⟨#[]⟩ }
  else if f.kind = 4 then { f with int := 0, gen := 0, name := ⟨#[]⟩, arity := 0 }
  else if f.kind = 5 then { f with name := ⟨#[]⟩, func := ⟨#[]⟩, arity := 0 }
  else if f.kind = 10 then { f with bytes := ⟨#[]⟩, bits := 0 }
  else f
def bareV (f : TF) (v : Value) : Value := if f.kind = 4 ∨ f.kind = 7 ∨ f.kind = 9 then nilV else v
theorem bcell {W w1 : World} (hb : Below W.heap.size W w1) : (∀ b o, b < W.heap.size → w1.cell? ⟨b, o, none⟩ = W.cell? ⟨b, o, none⟩) ∧ (∀ b o, b < W.heap.size → w1.frozen? ⟨b, o, none⟩ = W.frozen? ⟨b, o, none⟩) :=
  ⟨fun b o h => hb.cell (p := ⟨b, o, none⟩) h, fun b o h => hb.frozen (p := ⟨b, o, none⟩) h⟩
def KPost (f : TF) (v : Value) (n : Nat) (last : Int) (w : World) (e : Ending) (w' : World) : Prop := e = .returned (.tuple #[aggV (bareF f) (bareV f v), .bool (okF f n last)]) ∧ Below w.heap.size w w'
theorem kp {f f' : TF} {v v' : Value} {n : Nat} {last : Int} {b : Bool} {w w' : World} (h1 : aggV (bareF f) (bareV f v) = aggV f' v') (h2 : okF f n last = b) (h3 : Below w.heap.size w w') : KPost f v n last w (.returned (.tuple #[aggV f' v', .bool b])) w' :=
  ⟨by rw [h1, h2], h3⟩

def cells9 (f : TF) (v : Value) : Obj := .cells #[.int .i64 f.kind, .int .i64 f.int, .int .i64 f.gen, .string f.name, .string f.func, .int .i64 f.arity, v, .string f.bytes, .int .i64 f.bits] 30
structure Nine (w : World) (z : Nat) (f : TF) (v : Value) : Prop where
  c0 : w.cell? ⟨z, 0, none⟩ = some (.int .i64 f.kind)
  c1 : w.cell? ⟨z, 1, none⟩ = some (.int .i64 f.int)
  c2 : w.cell? ⟨z, 2, none⟩ = some (.int .i64 f.gen)
  c3 : w.cell? ⟨z, 3, none⟩ = some (.string f.name)
  c4 : w.cell? ⟨z, 4, none⟩ = some (.string f.func)
  c5 : w.cell? ⟨z, 5, none⟩ = some (.int .i64 f.arity)
  c6 : w.cell? ⟨z, 6, none⟩ = some v
  c7 : w.cell? ⟨z, 7, none⟩ = some (.string f.bytes)
  c8 : w.cell? ⟨z, 8, none⟩ = some (.int .i64 f.bits)
  fz : ∀ o, w.frozen? ⟨z, o, none⟩ = false
theorem nine_of {w : World} {z : Nat} {f : TF} {v : Value} (h : w.heap[z]? = some (cells9 f v)) : Nine w z f v := by
  unfold cells9 at h
  refine ⟨?_, ?_, ?_, ?_, ?_, ?_, ?_, ?_, ?_, fun o => by simp only [World.frozen?, h]; simp⟩ <;> (simp only [World.cell?, h]; rfl)
/-- the boxes of a parameter and of a result, behind a call -/
theorem two_box {w w1 : World} {f : TF} {v : Value} (hb : Below ((w.alloc (cells9 f v)).alloc (cells9 zeroF nilV)).heap.size ((w.alloc (cells9 f v)).alloc (cells9 zeroF nilV)) w1) : Nine w1 w.heap.size f v ∧ Nine w1 (w.heap.size + 1) zeroF nilV ∧ Below w.heap.size w w1 := by
  have h1 := (MapKept.heap_alloc w (cells9 f v)).1
  have h2 := (MapKept.heap_alloc (w.alloc (cells9 f v)) (cells9 zeroF nilV)).1
  have h3 : ((w.alloc (cells9 f v)).alloc (cells9 zeroF nilV)).heap[w.heap.size]? = some (cells9 f v) := by rw [Below.heap_alloc _ _ _ (by simp)]; exact h1
  refine ⟨nine_of ((hb.block _ (by simp; omega)).trans h3), nine_of ((hb.block _ (by simp)).trans (by simpa using h2)), ?_⟩
  exact (((Below.refl _ w).alloc (Nat.le_refl _) _).alloc (by simp) _).trans (hb.mono (by simp; omega))
theorem Nine.below {w w1 : World} {z B : Nat} {f : TF} {v : Value} (h : Nine w z f v) (hb : Below B w w1) (hz : z < B) : Nine w1 z f v := by
  obtain ⟨h0, h1, h2, h3, h4, h5, h6, h7, h8, hz'⟩ := h
  have c := fun o => hb.cell (p := ⟨z, o, none⟩) hz
  exact ⟨(c 0).trans h0, (c 1).trans h1, (c 2).trans h2, (c 3).trans h3, (c 4).trans h4, (c 5).trans h5, (c 6).trans h6, (c 7).trans h7, (c 8).trans h8, fun o => (hb.frozen (p := ⟨z, o, none⟩) hz).trans (hz' o)⟩
end Go.Proofs.YtnakbepcalciiaaGreat.tm

/- Terms in memory of one's own: where they lie, and that only they lie there. No condition. -/
namespace Go.Proofs.YtnakbepcalciiaaGreat.tm
open Go.RowKit mem names
set_option linter.unusedVariables false
set_option linter.unusedSimpArgs false
set_option maxHeartbeats 1000000
set_option maxRecDepth 100000

theorem info24 : (Tryz.prog.info? 30).map (fun i => (i.zero, i.size, i.bytes)) = some (some (.agg #[.int .i64 0, .int .i64 0, .int .i64 0, .string ⟨#[]⟩, .string ⟨#[]⟩, .int .i64 0, .slice none 0 0, .string ⟨#[]⟩, .int .i64 0]), 9, 112) := by kernel_rfl
/-- the nine values of a term -/
def nineL (f : TF) (v : Value) : List Value := [.int .i64 f.kind, .int .i64 f.int, .int .i64 f.gen, .string f.name, .string f.func, .int .i64 f.arity, v, .string f.bytes, .int .i64 f.bits]
/-- a row of terms -/
def flatR (rs : List (TF × Value)) : List Value := rs.flatMap (fun r => nineL r.1 r.2)
theorem flatR_len (rs : List (TF × Value)) : (flatR rs).length = rs.length * 9 := by
  induction rs with
  | nil => rfl
  | cons r rs ih => simp [flatR, nineL] at ih ⊢; omega
theorem flatR_append (a b : List (TF × Value)) : flatR (a ++ b) = flatR a ++ flatR b := by simp [flatR]
theorem flatR_get : ∀ (rs : List (TF × Value)) (j : Nat) (h : j < rs.length) (i : Nat), i < 9 → (flatR rs)[j * 9 + i]? = (nineL rs[j].1 rs[j].2)[i]?
  | r :: rs, 0, h, i, hi => by
    show (nineL r.1 r.2 ++ flatR rs)[0 * 9 + i]? = _
    rw [List.getElem?_append_left (by simp [nineL]; omega)]; simp
  | r :: rs, j + 1, h, i, hi => by
    show (nineL r.1 r.2 ++ flatR rs)[(j + 1) * 9 + i]? = _
    rw [List.getElem?_append_right (by simp [nineL]; omega), show (j + 1) * 9 + i - (nineL r.1 r.2).length = j * 9 + i by simp [nineL]; omega]
    exact flatR_get rs j (by simpa using h) i hi
theorem Cells.of {w : World} {g o : Nat} {f : TF} {v : Value} (h : ∀ i, i < 9 → w.cell? ⟨g, o + i, none⟩ = (nineL f v)[i]?) : Cells w g o f v :=
  ⟨h 0 (by omega), h 1 (by omega), h 2 (by omega), h 3 (by omega), h 4 (by omega), h 5 (by omega), h 6 (by omega), h 7 (by omega), h 8 (by omega)⟩
theorem Cells.all {w : World} {g o : Nat} {f : TF} {v : Value} (h : Cells w g o f v) : ∀ i, i < 9 → w.cell? ⟨g, o + i, none⟩ = (nineL f v)[i]? := by
  intro i hi
  rcases (show i = 0 ∨ i = 1 ∨ i = 2 ∨ i = 3 ∨ i = 4 ∨ i = 5 ∨ i = 6 ∨ i = 7 ∨ i = 8 by omega) with rfl | rfl | rfl | rfl | rfl | rfl | rfl | rfl | rfl
  · exact h.c0
  · exact h.c1
  · exact h.c2
  · exact h.c3
  · exact h.c4
  · exact h.c5
  · exact h.c6
  · exact h.c7
  · exact h.c8
/-- a row of one's own: its terms -/
theorem row_cells {w : World} {base g n cap : Nat} {rs : List (TF × Value)} (h : w.ownsRow base 30 9 (.slice (some ⟨g, 0, none⟩) n cap) n (flatR rs)) (hn : rs.length = n) (j : Nat) (hj : j < rs.length) : Cells w g (j * 9) rs[j].1 rs[j].2 := by
  refine Cells.of fun i hi => ?_
  rw [h.cellAt (j * 9 + i) (by omega)]
  exact flatR_get rs j hj i hi

/-! ### terms in certain blocks -/
def ItemsIn (w : World) (F : Nat → Prop) : (n : Nat) → Value → List (Tm n) → Prop
  | 0, v, _ => ∃ p c, v = .slice p 0 c ∧ c ≤ maxLen
  | n + 1, v, l => ∃ p c, v = .slice p l.length c ∧ l.length ≤ c ∧ c ≤ maxLen ∧ (l ≠ [] → ∃ g o, p = some ⟨g, o, none⟩ ∧ F g ∧
      ∀ j, (h : j < l.length) → ∃ u, Cells w g (o + j * 9) (l[j]).f u ∧ ItemsIn w F n u (l[j]).items)
theorem ItemsIn.mono {w w' : World} {F F' : Nat → Prop} (hs : ∀ g, F g → w'.heap[g]? = w.heap[g]?) (hF : ∀ g, F g → F' g) : ∀ {n : Nat} {v : Value} {l : List (Tm n)}, ItemsIn w F n v l → ItemsIn w' F' n v l := by
  intro n
  induction n with
  | zero => intro v l h; exact h
  | succ n ih =>
    intro v l h
    obtain ⟨p, c, e, h1, h2, h3⟩ := h
    refine ⟨p, c, e, h1, h2, fun hn => ?_⟩
    obtain ⟨g, o, e, hg, hc⟩ := h3 hn
    refine ⟨g, o, e, hF g hg, fun j hj => ?_⟩
    obtain ⟨u, hc1, hc2⟩ := hc j hj
    exact ⟨u, hc1.same (hs g hg), ih hc2⟩
theorem ItemsIn.toAt {w : World} {F : Nat → Prop} {B : Nat} (hF : ∀ g, F g → g < B) : ∀ {n : Nat} {v : Value} {l : List (Tm n)}, ItemsIn w F n v l → ItemsAt w B n v l := by
  intro n
  induction n with
  | zero => intro v l h; exact h
  | succ n ih =>
    intro v l h
    obtain ⟨p, c, e, h1, h2, h3⟩ := h
    refine ⟨p, c, e, h1, h2, fun hn => ?_⟩
    obtain ⟨g, o, e, hg, hc⟩ := h3 hn
    refine ⟨g, o, e, hF g hg, fun j hj => ?_⟩
    obtain ⟨u, hc1, hc2⟩ := hc j hj
    exact ⟨u, hc1, ih hc2⟩
theorem ItemsAt.toIn {w : World} {B : Nat} : ∀ {n : Nat} {v : Value} {l : List (Tm n)}, ItemsAt w B n v l → ItemsIn w (fun g => g < B) n v l := by
  intro n
  induction n with
  | zero => intro v l h; exact h
  | succ n ih =>
    intro v l h
    obtain ⟨p, c, e, h1, h2, h3⟩ := h
    refine ⟨p, c, e, h1, h2, fun hn => ?_⟩
    obtain ⟨g, o, e, hg, hc⟩ := h3 hn
    refine ⟨g, o, e, hg, fun j hj => ?_⟩
    obtain ⟨u, hc1, hc2⟩ := hc j hj
    exact ⟨u, hc1, ih hc2⟩
theorem ItemsIn.nil_any {w : World} {F : Nat → Prop} {n c : Nat} {p : Option Addr} (hc : c ≤ maxLen) : ItemsIn w F n (.slice p 0 c) ([] : List (Tm n)) := by
  cases n with
  | zero => exact ⟨p, c, rfl, hc⟩
  | succ n => exact ⟨p, c, rfl, Nat.zero_le _, hc, fun h => absurd rfl h⟩

/-! ### blocks of terms alone -/
/-- a slice of terms that lie in F's blocks, behind g -/
def PtrOK (w : World) (F : Nat → Prop) (g : Nat) (u : Value) : Prop :=
  ∃ p len c, u = .slice p len c ∧ (len = 0 ∨ ∃ g' k cur fz, p = some ⟨g', k * 9, none⟩ ∧ F g' ∧ g < g' ∧ w.heap[g']? = some (.cells cur 30 fz) ∧ (k + len) * 9 ≤ cur.size ∧ len ≤ maxLen)
/-- F's blocks hold terms, whose elements lie in later ones -/
def Typed (w : World) (F : Nat → Prop) : Prop :=
  ∀ g, F g → ∃ cur N, w.heap[g]? = some (.cells cur 30 (0, 0)) ∧ cur.size = N * 9 ∧ ∀ j, j < N → ∃ f u, Cells w g (j * 9) f u ∧ PtrOK w F g u
theorem PtrOK.nil {w : World} {F : Nat → Prop} {g : Nat} : PtrOK w F g nilV := ⟨none, 0, 0, rfl, .inl rfl⟩
theorem PtrOK.mono {w w' : World} {F F' : Nat → Prop} {g : Nat} {u : Value} (h : PtrOK w F g u) (hs : ∀ g, F g → w'.heap[g]? = w.heap[g]?) (hF : ∀ g, F g → F' g) : PtrOK w' F' g u := by
  obtain ⟨p, len, c, e, h⟩ := h
  refine ⟨p, len, c, e, ?_⟩
  rcases h with h | ⟨g', k, cur, fz, e, h1, h2, h3, h4⟩
  · exact .inl h
  · exact .inr ⟨g', k, cur, fz, e, hF _ h1, h2, (hs _ h1).trans h3, h4⟩
theorem PtrOK.less {w : World} {F : Nat → Prop} {g g' : Nat} {u : Value} (h : PtrOK w F g u) (hg : g' ≤ g) : PtrOK w F g' u := by
  obtain ⟨p, len, c, e, h⟩ := h
  refine ⟨p, len, c, e, ?_⟩
  rcases h with h | ⟨g1, k, cur, fz, e, h1, h2, h3, h4⟩
  · exact .inl h
  · exact .inr ⟨g1, k, cur, fz, e, h1, by omega, h3, h4⟩
theorem Typed.same {w w' : World} {F : Nat → Prop} (h : Typed w F) (hs : ∀ g, F g → w'.heap[g]? = w.heap[g]?) : Typed w' F := by
  intro g hg
  obtain ⟨cur, N, h1, h2, h3⟩ := h g hg
  refine ⟨cur, N, (hs g hg).trans h1, h2, fun j hj => ?_⟩
  obtain ⟨f, u, hc, hp⟩ := h3 j hj
  exact ⟨f, u, hc.same (hs g hg), hp.mono hs (fun _ h => h)⟩
theorem Typed.union {w : World} {F F' : Nat → Prop} (h : Typed w F) (h' : Typed w F') : Typed w (fun g => F g ∨ F' g) := by
  intro g hg
  rcases hg with hg | hg
  · obtain ⟨cur, N, h1, h2, h3⟩ := h g hg
    refine ⟨cur, N, h1, h2, fun j hj => ?_⟩
    obtain ⟨f, u, hc, hp⟩ := h3 j hj
    exact ⟨f, u, hc, hp.mono (fun _ _ => rfl) (fun _ h => .inl h)⟩
  · obtain ⟨cur, N, h1, h2, h3⟩ := h' g hg
    refine ⟨cur, N, h1, h2, fun j hj => ?_⟩
    obtain ⟨f, u, hc, hp⟩ := h3 j hj
    exact ⟨f, u, hc, hp.mono (fun _ _ => rfl) (fun _ h => .inr h)⟩
theorem Typed.add {w : World} {F : Nat → Prop} (h : Typed w F) {g0 : Nat} {cur : Array Value} {N : Nat} (h1 : w.heap[g0]? = some (.cells cur 30 (0, 0))) (h2 : cur.size = N * 9) (h3 : ∀ j, j < N → ∃ f u, Cells w g0 (j * 9) f u ∧ PtrOK w F g0 u) : Typed w (fun g => F g ∨ g = g0) := by
  intro g hg
  rcases hg with hg | rfl
  · obtain ⟨cur, N, h1, h2, h3⟩ := h g hg
    refine ⟨cur, N, h1, h2, fun j hj => ?_⟩
    obtain ⟨f, u, hc, hp⟩ := h3 j hj
    exact ⟨f, u, hc, hp.mono (fun _ _ => rfl) (fun _ h => .inl h)⟩
  · refine ⟨cur, N, h1, h2, fun j hj => ?_⟩
    obtain ⟨f, u, hc, hp⟩ := h3 j hj
    exact ⟨f, u, hc, hp.mono (fun _ _ => rfl) (fun _ h => .inl h)⟩
/-- the elements of a slice that has been made -/
structure NewAt (w w' : World) (F : Nat → Prop) (n : Nat) (u : Value) (l : List (Tm n)) : Prop where
  items : ItemsIn w' F n u l
  inr : ∀ g, F g → w.heap.size ≤ g ∧ g < w'.heap.size
  typed : Typed w' F
  ptr : ∀ g, g < w.heap.size → PtrOK w' F g u
  below : Below w.heap.size w w'
theorem grown_same {w w' : World} {g : Nat} {F : Nat → Prop} (h : w.grownBy w' (some g)) (hF : ∀ k, F k → k ≠ g ∧ k < w.heap.size) : ∀ k, F k → w'.heap[k]? = w.heap[k]? :=
  fun k hk => h.block k (hF k hk).2 (fun e => (hF k hk).1 (by simpa using e))
section
variable {P : Program} {w : World}
theorem wpList_append_fits {ops : Array Oper} {rest : List Oper} {o : Oper} {a : Act} {Q : Exit → Act → World → Prop} (hgd : o.guard = none) (s x : Operand) (t : TypeId)
    (ho : o.op = .call { callee := .builtin .append, args := #[s, x], argTypes := #[t, t] })
    (base : Nat) (e : TypeId) (i : TypeInfo) (size : Nat) (ht : P.underlying t = some (.slice e)) (hi : P.info? e = some i) (hsize : i.size = size)
    (g n cap : Nat) (xs : List Value) (hs : a.eval s = .slice (some ⟨g, 0, none⟩) n cap) (hown : w.ownsRow base e size (.slice (some ⟨g, 0, none⟩) n cap) n xs)
    (ad : Addr) (m c : Nat) (news : List Value) (hx : a.eval x = .slice (some ad) m c) (hl : news.length = m * size) (hnews : ∀ j u, news[j]? = some u → w.cell? (ad.add j) = some u) (h1 : ∀ u ∈ news, u.oneCell' = true)
    (hroom : n + m ≤ cap)
    (h : ∀ w', w'.ownsRow base e size (.slice (some ⟨g, 0, none⟩) (n + m) cap) (n + m) (xs ++ news) → w.grownBy w' (some g) → wpList P ops Q rest (a.put o.dst (.slice (some ⟨g, 0, none⟩) (n + m) cap)) w') :
    wpList P ops Q (o :: rest) a w := by
  refine wpList_plain hgd fun K hK => ?_
  obtain ⟨w', hr, h2, h3⟩ := run_append_fits (P := P) w base t o.type e i size ht hi hsize g n cap xs hown ad m c news hl hnews h1 hroom
  unfold Oper.wp execOp
  simp only [ho, resolve, invoke, builtin, Sem.run_bind, Sem.run_pure, Result.andThen_ok, List.map_toArray, List.map_cons, List.map_nil, hs, hx, hr]
  exact hK _ _ (h w' h2 h3)
end
/-- nine values that were just laid -/
theorem nine_cell (w : World) (f : TF) (v : Value) : ∀ j u, (nineL f v)[j]? = some u → (w.alloc (cells9 f v)).cell? ((⟨w.heap.size, 0, none⟩ : Addr).add j) = some u := by
  intro j u hj
  have hA := (MapKept.heap_alloc w (cells9 f v)).1
  unfold cells9 at hA ⊢
  rw [Addr.add_lit, Nat.zero_add, cell_of_row _ _ _ _ _ _ hA, ← hj]
  unfold nineL
  simp
theorem nine_one (f : TF) (p : Option Addr) (len c : Nat) : ∀ u ∈ nineL f (.slice p len c), u.oneCell' = true := by
  intro u hu
  simp [nineL] at hu
  rcases hu with rfl | rfl | rfl | rfl | rfl | rfl | rfl | rfl | rfl <;> rfl
end Go.Proofs.YtnakbepcalciiaaGreat.tm
