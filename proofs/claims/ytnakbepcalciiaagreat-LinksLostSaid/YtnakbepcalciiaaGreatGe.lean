/- Several texts in one, one behind the other: TmH, TmI, TmV, TmW, TmY, TmO. No condition beyond theirs. -/
import Derived.Test.YtnakbepcalciiaaGreatGb
import Derived.Test.YtnakbepcalciiaaGreatGd
import Derived.Deep.QuietTactic
import Derived.BigQuiet

/- terms: the function of bit strings. No condition. -/
namespace Go.Proofs.YtnakbepcalciiaaGreat.tm
open Go.RowKit mem names
set_option linter.unusedVariables false
set_option linter.unusedSimpArgs false
set_option maxHeartbeats 1000000
set_option maxRecDepth 100000
def shlN (b r : Nat) : Nat := b * 2 ^ r % 256
theorem shl_int (b r : Nat) : ((b : Int) * 2 ^ r % 256) = (shlN b r : Int) := by
  unfold shlN
  rw [Int.natCast_emod, Int.natCast_mul, Int.natCast_pow]; rfl
theorem shl_iff (b r : Nat) (hb : b < 256) (h1 : 1 ≤ r) (h7 : r ≤ 7) : shlN b r = 0 ↔ b % 2 ^ (8 - r) = 0 := by
  unfold shlN
  have ways : r = 1 ∨ r = 2 ∨ r = 3 ∨ r = 4 ∨ r = 5 ∨ r = 6 ∨ r = 7 := by omega
  rcases ways with rfl | rfl | rfl | rfl | rfl | rfl | rfl <;> (simp only [Nat.reducePow, Nat.reduceSub]; omega)
theorem last_byte (s : ByteArray) (m : Nat) (h : s.size = m + 1) : lastByte s = (s[m]'(by omega)).toNat := by
  unfold lastByte
  have hl : s.data.toList.length = m + 1 := by rw [Array.length_toList]; exact h
  rw [List.getLastD_eq_getLast?, List.getLast?_eq_getElem?, hl, Nat.add_sub_cancel, List.getElem?_eq_getElem (by omega)]
  rfl
theorem kindBits (i g : Int) (nm fn : ByteArray) (ar : Int) (by_ : ByteArray) (bt : Int) (p : Option Addr) (n c : Nat) (last : Int) (w : World) :
    Calls Tryz.prog 264 #[aggV ⟨10, i, g, nm, fn, ar, by_, bt⟩ (.slice p n c)] w (KPost ⟨10, i, g, nm, fn, ar, by_, bt⟩ (.slice p n c) n last w) := by
  have hb : bareF ⟨10, i, g, nm, fn, ar, by_, bt⟩ = ⟨10, i, g, nm, fn, ar, ⟨#[]⟩, 0⟩ := by simp [bareF]
  have hv : bareV ⟨10, i, g, nm, fn, ar, by_, bt⟩ (.slice p n c) = .slice p n c := by simp [bareV, nilV]
  have ho : okF ⟨10, i, g, nm, fn, ar, by_, bt⟩ n last = okBits ⟨10, i, g, nm, fn, ar, by_, bt⟩ := by simp [okF]
  unfold KPost
  rw [hb, hv, ho]
  unfold aggV okBits
  dsimp only
  clear hb hv ho
  by_cases h0 : inB bt 0 16384 = true
  · have hw := fun W => within bt 0 16384 W
    rw [h0] at hw
    rw [h0]
    have hbt := of_decide_eq_true h0
    by_cases h1 : (by_.size : Int) = (bt + 7) / 8
    · rw [decide_eq_true h1]
      have q1 : ((by_.size : Int) == (bt + 7) / 8) = true := by simp [h1]
      by_cases h2 : bt % 8 = 0
      · have q2 : (bt % 8 != 0) = false := by simp [h2]
        rw [decide_eq_true (Or.inl h2)]
        clear h1 h2 h0
        go_enter Tryz.func264, Tryz.ntmps264
        go_wp2_with fail
        refine (hw _).mono ?_
        rintro e w' ⟨rfl, rfl⟩
        go_wp2_with fail
        exact bodyPost_ret (v := (.tuple #[.agg #[.int .i64 10, .int .i64 i, .int .i64 g, .string nm, .string fn, .int .i64 ar, .slice p n c, .string ⟨#[]⟩, .int .i64 0], .bool true])) (by simp [results, Tryz.results264, go_sem, *]) rfl ⟨by simp, by (repeat' (first | with_reducible exact Below.refl _ _ | with_reducible exact Nat.le_refl _ | with_reducible refine Below.setCell ?_ ?_ _ | with_reducible refine Below.alloc ?_ ?_ _ | (simp; done) | (simp; omega)))⟩
      · have q2 : (bt % 8 != 0) = true := by simp [h2]
        obtain ⟨m, hm⟩ : ∃ m, by_.size = m + 1 := ⟨by_.size - 1, by omega⟩
        have hm2 : m < by_.size := by omega
        have HM := Lib.hid hm
        have hsz : (by_.size : Int) = (m : Int) + 1 := by omega
        have hsz2 : (bt + 7) / 8 = (m : Int) + 1 := by omega
        have hmm : (m : Int) < 10000 := by omega
        have hwm : IntKind.i64.wrap (m : Int) = m := IntWalk.i64_in _ (by omega)
        obtain ⟨r, hr⟩ : ∃ r : Nat, bt % 8 = (r : Int) := ⟨(bt % 8).toNat, by omega⟩
        have hr1 : 1 ≤ r := by omega
        have hr7 : r ≤ 7 := by omega
        have htm : bt.tmod 8 = (r : Int) := by rw [Int.tmod_eq_emod_of_nonneg hbt.1]; exact hr
        have hlast : lastByte by_ = (by_[m]'hm2).toNat := last_byte by_ m hm
        have hb8 : (by_[m]'hm2).toNat < 256 := UInt8.toNat_lt _
        have hix : ∀ w : World, (Instr.index 9 (.string by_) (.int .i64 (m : Int))).run Tryz.prog w = .ok (.int .u8 ((by_[m]'hm2).toNat : Int)) w := fun w => by
          rw [run_index_string w 9 by_ .i64 (m : Int) Tryz.underlying9, dif_pos ⟨by omega, by omega⟩]; rfl
        have hz := shl_int (by_[m]'hm2).toNat r
        have hiff : shlN (by_[m]'hm2).toNat r = 0 ↔ lastByte by_ % 2 ^ (8 - (bt % 8).toNat) = 0 := by
          rw [hlast, hr, Int.toNat_natCast]; exact shl_iff _ r hb8 hr1 hr7
        clear hlast hm h0
        generalize (by_[m]'hm2).toNat = b at *
        have HZ := Lib.hid hz; clear hz
        generalize shlN b r = s at *
        have hr0 : ((r : Int) != 0) = true := by simp; omega
        by_cases h3 : s = 0
        · have H3 := Lib.hid h3
          have hfin : (decide (bt % 8 = 0 ∨ lastByte by_ % 2 ^ (8 - (bt % 8).toNat) = 0)) = true := decide_eq_true (.inr (hiff.1 h3))
          rw [hfin]
          clear hfin hiff h3 h1 h2 q1 q2
          go_enter Tryz.func264, Tryz.ntmps264
          go_wp2_with fail
          refine (hw _).mono ?_
          rintro e w' ⟨rfl, rfl⟩
          go_wp2_with fail
          go_quiet (fail)
          go_wp2_with fail
          exact bodyPost_ret (v := (.tuple #[.agg #[.int .i64 10, .int .i64 i, .int .i64 g, .string nm, .string fn, .int .i64 ar, .slice p n c, .string ⟨#[]⟩, .int .i64 0], .bool true])) (by simp [results, Tryz.results264, go_sem, *]; rw [HZ.out, H3.out]; rfl) rfl ⟨by simp, by (repeat' (first | with_reducible exact Below.refl _ _ | with_reducible exact Nat.le_refl _ | with_reducible refine Below.setCell ?_ ?_ _ | with_reducible refine Below.alloc ?_ ?_ _ | with_reducible refine RowKit.Below.drewN ?_ _ | (simp; done) | (simp; omega)))⟩
        · have H3 := Lib.hid h3
          have hfin : (decide (bt % 8 = 0 ∨ lastByte by_ % 2 ^ (8 - (bt % 8).toNat) = 0)) = false := decide_eq_false (by intro h; rcases h with h | h; exact h2 h; exact h3 (hiff.2 h))
          rw [hfin]
          clear hfin hiff h3 h1 h2 q1 q2
          go_enter Tryz.func264, Tryz.ntmps264
          go_wp2_with fail
          refine (hw _).mono ?_
          rintro e w' ⟨rfl, rfl⟩
          go_wp2_with fail
          go_quiet (fail)
          go_wp2_with fail
          exact bodyPost_ret (v := (.tuple #[.agg #[.int .i64 10, .int .i64 i, .int .i64 g, .string nm, .string fn, .int .i64 ar, .slice p n c, .string ⟨#[]⟩, .int .i64 0], .bool false])) (by simp [results, Tryz.results264, go_sem, *]; rw [HZ.out]; have := H3.out; omega) rfl ⟨by simp, by (repeat' (first | with_reducible exact Below.refl _ _ | with_reducible exact Nat.le_refl _ | with_reducible refine Below.setCell ?_ ?_ _ | with_reducible refine Below.alloc ?_ ?_ _ | with_reducible refine RowKit.Below.drewN ?_ _ | (simp; done) | (simp; omega)))⟩
    · rw [decide_eq_false h1]
      have q1 : ((by_.size : Int) == (bt + 7) / 8) = false := by simp [h1]
      clear h1 h0
      go_enter Tryz.func264, Tryz.ntmps264
      go_wp2_with fail
      refine (hw _).mono ?_
      rintro e w' ⟨rfl, rfl⟩
      go_wp2_with fail
      exact bodyPost_ret (v := (.tuple #[.agg #[.int .i64 10, .int .i64 i, .int .i64 g, .string nm, .string fn, .int .i64 ar, .slice p n c, .string ⟨#[]⟩, .int .i64 0], .bool false])) (by simp [results, Tryz.results264, go_sem, *]) rfl ⟨by simp, by (repeat' (first | with_reducible exact Below.refl _ _ | with_reducible exact Nat.le_refl _ | with_reducible refine Below.setCell ?_ ?_ _ | with_reducible refine Below.alloc ?_ ?_ _ | (simp; done) | (simp; omega)))⟩
  · have h0 : inB bt 0 16384 = false := by simpa using h0
    have hw := fun W => within bt 0 16384 W
    rw [h0] at hw
    rw [h0]
    go_enter Tryz.func264, Tryz.ntmps264
    go_wp2_with fail
    refine (hw _).mono ?_
    rintro e w' ⟨rfl, rfl⟩
    go_wp2_with fail
    exact bodyPost_ret (v := (.tuple #[.agg #[.int .i64 10, .int .i64 i, .int .i64 g, .string nm, .string fn, .int .i64 ar, .slice p n c, .string ⟨#[]⟩, .int .i64 0], .bool false])) (by simp [results, Tryz.results264, go_sem, *]) rfl ⟨by simp, by (repeat' (first | with_reducible exact Below.refl _ _ | with_reducible exact Nat.le_refl _ | with_reducible refine Below.setCell ?_ ?_ _ | with_reducible refine Below.alloc ?_ ?_ _ | (simp; done) | (simp; omega)))⟩
end Go.Proofs.YtnakbepcalciiaaGreat.tm

/- Well-formed terms and their sizes; terms.Same beside the zero term; kinds. No condition. -/
namespace Go.Proofs.YtnakbepcalciiaaGreat.tm
open Go.RowKit mem names
set_option linter.unusedVariables false
set_option linter.unusedSimpArgs false
set_option maxHeartbeats 1000000
set_option maxRecDepth 100000

def lastK : (n : Nat) → List (Tm n) → Int
  | 0, _ => 0
  | n + 1, l => (l.getLast?.map (fun t => t.f.kind)).getD 0
noncomputable def bareOK (f : TF) (k : Nat) : Bool := eqB { bareF f with kind := 0 } zeroF && decide ((if f.kind = 4 ∨ f.kind = 7 ∨ f.kind = 9 then 0 else k) = 0)
noncomputable def okT {n : Nat} (t : Tm (n + 1)) : Bool := inB t.f.kind 0 10 && (okF t.f t.items.length (lastK n t.items) && bareOK t.f t.items.length)
noncomputable def formedL : (n : Nat) → List (Tm n) → Bool
  | 0, _ => true
  | n + 1, l => l.all (fun t => okT t && formedL n t.items)
noncomputable def formedT {n : Nat} (t : Tm (n + 1)) : Bool := okT t && formedL n t.items
def sizeF (f : TF) (k : Nat) : Int := if f.kind = 9 then (k : Int) - 1 else if f.kind = 10 then 1 + (f.bits + 63) / 64 else 1
def wholeL : (n : Nat) → List (Tm n) → Int
  | 0, _ => 0
  | n + 1, l => (l.map (fun t => sizeF t.f t.items.length + wholeL n t.items)).sum
def wholeT {n : Nat} (t : Tm (n + 1)) : Int := sizeF t.f t.items.length + wholeL n t.items
def nodesL : (n : Nat) → List (Tm n) → Nat
  | 0, _ => 0
  | n + 1, l => (l.map (fun t => 1 + nodesL n t.items)).sum
def nodesT {n : Nat} (t : Tm (n + 1)) : Nat := 1 + nodesL n t.items
theorem nodes_len : ∀ (n : Nat) (l : List (Tm n)), l.length ≤ nodesL n l := by
  intro n
  cases n with
  | zero => intro l; rw [Tm.nil0 l]; simp
  | succ n =>
    intro l
    induction l with
    | nil => simp [nodesL]
    | cons t l ih =>
      have e : nodesL (n + 1) (t :: l) = (1 + nodesL n t.items) + nodesL (n + 1) l := by simp [nodesL]
      rw [e]; simp; omega
theorem nodes_mem {n : Nat} {l : List (Tm (n + 1))} {k : Nat} (h : k < l.length) : nodesL (n + 1) (l.take k) + nodesT l[k] + nodesL (n + 1) (l.drop (k + 1)) = nodesL (n + 1) l := by
  have e : nodesL (n + 1) l = nodesL (n + 1) (l.take k ++ l[k] :: l.drop (k + 1)) := by rw [← List.drop_eq_getElem_cons h, List.take_append_drop]
  rw [e]
  unfold nodesL nodesT
  simp only [List.map_append, List.map_cons, List.sum_append, List.sum_cons]; omega
theorem whole_snoc {n : Nat} (l : List (Tm (n + 1))) (k : Nat) (h : k < l.length) : wholeL (n + 1) (l.take (k + 1)) = wholeL (n + 1) (l.take k) + wholeT l[k] := by
  rw [List.take_succ_eq_append_getElem h]
  unfold wholeL wholeT
  simp only [List.map_append, List.map_cons, List.map_nil, List.sum_append, List.sum_cons, List.sum_nil]; omega
theorem formed_no {n : Nat} {l : List (Tm (n + 1))} {k : Nat} (h : k < l.length) (hf : formedT l[k] = false) : formedL (n + 1) l = false := by
  unfold formedL
  rw [List.all_eq_false]
  exact ⟨l[k], List.getElem_mem h, by unfold formedT at hf; simp [hf]⟩
theorem formed_yes {n : Nat} {l : List (Tm (n + 1))} (h : ∀ k, (hk : k < l.length) → formedT l[k] = true) : formedL (n + 1) l = true := by
  unfold formedL
  rw [List.all_eq_true]
  intro x hx
  obtain ⟨k, hk, rfl⟩ := List.mem_iff_getElem.1 hx
  exact h k hk

/-- a list beside the empty one -/
theorem alike0 (p : Option Addr) (n c : Nat) (fv : Value) (w : World) : Calls Tryz.prog 168 #[.slice p n c, .slice none 0 0, fv] w fun e w' => e = .returned (.bool (decide (n = 0))) ∧ w = w' := by
  by_cases h : n = 0
  · subst h
    rw [decide_eq_true rfl]
    go_enter Tryz.func168, Tryz.ntmps168
    go_wp2_with fail
    refine wp_loop_rounds 1 ?_
    rw [rounds_succ]
    go_wp2_with fail
    go_ret
    exact ⟨rfl, rfl⟩
  · rw [decide_eq_false h]
    have hq : ((n : Int) != 0) = true := by simp; omega
    go_enter Tryz.func168, Tryz.ntmps168
    go_wp2_with fail
    go_ret
    exact ⟨rfl, rfl⟩
theorem eq_zeroF (k i g : Int) (nm fn : ByteArray) (ar : Int) (by_ : ByteArray) (bt : Int) : (⟨k, i, g, nm, fn, ar, by_, bt⟩ : TF) = zeroF ↔ (k = 0 ∧ i = 0 ∧ g = 0 ∧ nm = ⟨#[]⟩ ∧ fn = ⟨#[]⟩ ∧ ar = 0 ∧ by_ = ⟨#[]⟩ ∧ bt = 0) := by
  unfold zeroF; rw [TF.mk.injEq]
theorem str_nz' {a : ByteArray} (h : a ≠ ⟨#[]⟩) : ¬ a.toList = [] := by
  intro e
  rw [ByteArray.toList_eq] at e
  exact h (ByteArray.ext (Array.ext' e))
theorem str_nz {a : ByteArray} (h : a ≠ ⟨#[]⟩) : a.toList.isEmpty = false := by
  rw [List.isEmpty_eq_false_iff]; exact str_nz' h
theorem str_nz2 {a : ByteArray} (h : a ≠ ⟨#[]⟩) : (a.toList == []) = false := by
  cases hh : a.toList == [] with
  | false => rfl
  | true => exact absurd (eq_of_beq hh) (str_nz' h)
/-- terms.Same beside the zero term -/
theorem sameZ (f : TF) (p : Option Addr) (n c : Nat) (w : World) : Calls Tryz.prog 113 #[aggV f (.slice p n c), aggV zeroF (.slice none 0 0)] w fun e w' => e = .returned (.bool (eqB f zeroF && decide (n = 0))) ∧ Below w.heap.size w w' := by
  obtain ⟨k, i, g, nm, fn, ar, by_, bt⟩ := f
  have hno : ¬ (k = 0 ∧ i = 0 ∧ g = 0 ∧ nm = ⟨#[]⟩ ∧ fn = ⟨#[]⟩ ∧ ar = 0 ∧ by_ = ⟨#[]⟩ ∧ bt = 0) → eqB (⟨k, i, g, nm, fn, ar, by_, bt⟩ : TF) zeroF = false := fun h => eqB_f (fun e => h ((eq_zeroF _ _ _ _ _ _ _ _).1 e))
  have hyes : (k = 0 ∧ i = 0 ∧ g = 0 ∧ nm = ⟨#[]⟩ ∧ fn = ⟨#[]⟩ ∧ ar = 0 ∧ by_ = ⟨#[]⟩ ∧ bt = 0) → eqB (⟨k, i, g, nm, fn, ar, by_, bt⟩ : TF) zeroF = true := fun h => eqB_t ((eq_zeroF _ _ _ _ _ _ _ _).2 h)
  unfold aggV zeroF at *
  dsimp only at *
  generalize eqB (⟨k, i, g, nm, fn, ar, by_, bt⟩ : TF) (⟨0, 0, 0, ⟨#[]⟩, ⟨#[]⟩, 0, ⟨#[]⟩, 0⟩ : TF) = r at *
  by_cases e : k ≠ 0
  · have hq : (k == 0) = false := by simp [e]
    rw [hno (by simp_all), Bool.false_and]
    clear hno hyes e
    go_enter Tryz.func113, Tryz.ntmps113
    go_wp2_with fail
    go_ret
    exact ⟨rfl, ((Below.refl _ _).alloc (Nat.le_refl _) _).alloc (by simp) _⟩
  have e := Classical.not_not.1 e
  subst e
  by_cases e : i ≠ 0
  · have hq : (i == 0) = false := by simp [e]
    rw [hno (by simp_all), Bool.false_and]
    clear hno hyes e
    go_enter Tryz.func113, Tryz.ntmps113
    go_wp2_with fail
    go_ret
    exact ⟨rfl, ((Below.refl _ _).alloc (Nat.le_refl _) _).alloc (by simp) _⟩
  have e := Classical.not_not.1 e
  subst e
  by_cases e : g ≠ 0
  · have hq : (g == 0) = false := by simp [e]
    rw [hno (by simp_all), Bool.false_and]
    clear hno hyes e
    go_enter Tryz.func113, Tryz.ntmps113
    go_wp2_with fail
    go_ret
    exact ⟨rfl, ((Below.refl _ _).alloc (Nat.le_refl _) _).alloc (by simp) _⟩
  have e := Classical.not_not.1 e
  subst e
  by_cases e : nm ≠ (⟨#[]⟩ : ByteArray)
  · have hq : nm.toList.isEmpty = false := str_nz e
    have hq3 : (nm.toList == []) = false := str_nz2 e
    have hq2 : ¬ nm.toList = [] := str_nz' e
    rw [hno (by simp_all), Bool.false_and]
    clear hno hyes e
    go_enter Tryz.func113, Tryz.ntmps113
    go_wp2_with fail
    go_ret
    exact ⟨rfl, ((Below.refl _ _).alloc (Nat.le_refl _) _).alloc (by simp) _⟩
  have e := Classical.not_not.1 e
  subst e
  by_cases e : fn ≠ (⟨#[]⟩ : ByteArray)
  · have hq : fn.toList.isEmpty = false := str_nz e
    have hq3 : (fn.toList == []) = false := str_nz2 e
    have hq2 : ¬ fn.toList = [] := str_nz' e
    rw [hno (by simp_all), Bool.false_and]
    clear hno hyes e
    go_enter Tryz.func113, Tryz.ntmps113
    go_wp2_with fail
    go_ret
    exact ⟨rfl, ((Below.refl _ _).alloc (Nat.le_refl _) _).alloc (by simp) _⟩
  have e := Classical.not_not.1 e
  subst e
  by_cases e : ar ≠ 0
  · have hq : (ar == 0) = false := by simp [e]
    rw [hno (by simp_all), Bool.false_and]
    clear hno hyes e
    go_enter Tryz.func113, Tryz.ntmps113
    go_wp2_with fail
    go_ret
    exact ⟨rfl, ((Below.refl _ _).alloc (Nat.le_refl _) _).alloc (by simp) _⟩
  have e := Classical.not_not.1 e
  subst e
  by_cases e : by_ ≠ (⟨#[]⟩ : ByteArray)
  · have hq : by_.toList.isEmpty = false := str_nz e
    have hq3 : (by_.toList == []) = false := str_nz2 e
    have hq2 : ¬ by_.toList = [] := str_nz' e
    rw [hno (by simp_all), Bool.false_and]
    clear hno hyes e
    go_enter Tryz.func113, Tryz.ntmps113
    go_wp2_with fail
    go_ret
    exact ⟨rfl, ((Below.refl _ _).alloc (Nat.le_refl _) _).alloc (by simp) _⟩
  have e := Classical.not_not.1 e
  subst e
  by_cases e : bt ≠ 0
  · have hq : (bt == 0) = false := by simp [e]
    rw [hno (by simp_all), Bool.false_and]
    clear hno hyes e
    go_enter Tryz.func113, Tryz.ntmps113
    go_wp2_with fail
    go_ret
    exact ⟨rfl, ((Below.refl _ _).alloc (Nat.le_refl _) _).alloc (by simp) _⟩
  have e := Classical.not_not.1 e
  subst e
  rw [hyes ⟨rfl, rfl, rfl, rfl, rfl, rfl, rfl, rfl⟩, Bool.true_and]
  clear hno hyes
  go_enter Tryz.func113, Tryz.ntmps113
  go_wp2_with fail
  refine (alike0 _ _ _ _ _).mono ?_
  rintro e w' ⟨rfl, rfl⟩
  go_wp2_with fail
  go_ret
  exact ⟨rfl, ((Below.refl _ _).alloc (Nat.le_refl _) _).alloc (by simp) _⟩
end Go.Proofs.YtnakbepcalciiaaGreat.tm

/- The order of terms: each, items. Conditions: the terms lie in memory, and are formed. -/
namespace Go.Proofs.YtnakbepcalciiaaGreat.tm
open Go.RowKit mem names
set_option linter.unusedVariables false
set_option linter.unusedSimpArgs false
set_option maxHeartbeats 1000000
set_option maxRecDepth 100000

def headC (f1 f2 : TF) : Int := firstL [cmpB f1.name f2.name, cmpB f1.func f2.func, cmpI f1.gen f2.gen, cmpI f1.int f2.int, cmpI f1.arity f2.arity]
def bitsC (f1 f2 : TF) : Int :=
  let n := (min f1.bits f2.bits).toNat
  let k := Lib.compareBytes (f1.bytes.data.toList.take (n / 8)) (f2.bytes.data.toList.take (n / 8))
  if k = 0 then
    (if n % 8 = 0 then cmpI f1.bits f2.bits else
      (let x := ((f1.bytes.data.toList.getD (n / 8) 0).toNat / 2 ^ (8 - n % 8) : Nat)
       let y := ((f2.bytes.data.toList.getD (n / 8) 0).toNat / 2 ^ (8 - n % 8) : Nat)
       if cmpI x y = 0 then cmpI f1.bits f2.bits else cmpI x y))
  else k
def cmpF {α : Type} (kd : α → Int) (c : α → α → Int) (f1 f2 : TF) (l1 l2 : List α) : Int :=
  if f1.kind = f2.kind then
    (if f1.kind = 7 then itemsC c l1 l2 else if f1.kind = 9 then listsC kd c l1 l2 else if f1.kind = 10 then bitsC f1 f2 else if headC f1 f2 = 0 then itemsC c l1 l2 else headC f1 f2)
  else cmpI f1.kind f2.kind
def kdT : (n : Nat) → Tm n → Int
  | 0, _ => 0
  | n + 1, t => t.f.kind
def cmpTm : (n : Nat) → Tm n → Tm n → Int
  | 0, _, _ => 0
  | n + 1, a, b => cmpF (kdT n) (cmpTm n) a.f b.f a.items b.items
def IPostC (r : Int) (w : World) (e : Ending) (w' : World) : Prop := e = .returned (.int .i64 r) ∧ Below w.heap.size w w'
def CmpS (n : Nat) : Prop := ∀ (w : World) (B : Nat) (v1 v2 : Value) (a b : Tm (n + 1)), B ≤ w.heap.size → ItemsAt w B n v1 a.items → ItemsAt w B n v2 b.items → formedT a = true → formedT b = true → Calls Tryz.prog 203 #[aggV a.f v1, aggV b.f v2] w (IPostC (cmpTm (n + 1) a b) w)
theorem formed_at {n : Nat} {l : List (Tm (n + 1))} (hf : formedL (n + 1) l = true) (j : Nat) (h : j < l.length) : formedT l[j] = true := by
  unfold formedL at hf
  rw [List.all_eq_true] at hf
  exact hf l[j] (List.getElem_mem h)
/-- two elements -/
theorem pairEl {n : Nat} (ih : ∀ m, n = m + 1 → CmpS m) (w : World) (B : Nat) (p1 p2 : Option Addr) (n1 n2 c1 c2 : Nat) (l1 l2 : List (Tm n)) (hB : B ≤ w.heap.size) (h1 : ItemsAt w B n (.slice p1 n1 c1) l1) (h2 : ItemsAt w B n (.slice p2 n2 c2) l2) (f1 : formedL n l1 = true) (f2 : formedL n l2 = true) :
    ∀ i j, (hi : i < l1.length) → (hj : j < l2.length) → ∃ g1 o1 x1 q1 m1 d1 g2 o2 x2 q2 m2 d2, p1 = some ⟨g1, o1, none⟩ ∧ g1 < w.heap.size ∧ Cells w g1 (o1 + i * 9) x1 (.slice q1 m1 d1) ∧ p2 = some ⟨g2, o2, none⟩ ∧ g2 < w.heap.size ∧ Cells w g2 (o2 + j * 9) x2 (.slice q2 m2 d2) ∧
      x1.kind = kdT n l1[i] ∧ x2.kind = kdT n l2[j] ∧ ∀ W, Below w.heap.size w W → Calls Tryz.prog 203 #[aggV x1 (.slice q1 m1 d1), aggV x2 (.slice q2 m2 d2)] W (IPostC (cmpTm n l1[i] l2[j]) W) := by
  cases n with
  | zero => intro i j hi; rw [Tm.nil0 l1] at hi; exact absurd hi (by simp)
  | succ n =>
    intro i j hi hj
    obtain ⟨g1, o1, d1, e1, _, _, hg1, hx1⟩ := h1.at_ (by intro e; subst e; simp at hi)
    obtain ⟨u1, hC1, hI1⟩ := hx1 i hi
    obtain ⟨g2, o2, d2, e2, _, _, hg2, hx2⟩ := h2.at_ (by intro e; subst e; simp at hj)
    obtain ⟨u2, hC2, hI2⟩ := hx2 j hj
    simp only [Value.slice.injEq] at e1 e2
    obtain ⟨q1, c1', rfl, _, _⟩ := hI1.shape
    obtain ⟨q2, c2', rfl, _, _⟩ := hI2.shape
    refine ⟨g1, o1, l1[i].f, q1, _, c1', g2, o2, l2[j].f, q2, _, c2', e1.1, by omega, hC1, e2.1, by omega, hC2, rfl, rfl, fun W hb => ?_⟩
    exact ih n rfl W B _ _ l1[i] l2[j] (Nat.le_trans hB hb.size) (hI1.below hb hB) (hI2.below hb hB) (formed_at f1 i hi) (formed_at f2 j hj)
theorem each_at {α : Type} (c : α → α → Int) : ∀ (l m : List α) (k : Nat) (h1 : k < l.length) (h2 : k < m.length), (∀ j, (a : j < l.length) → (b : j < m.length) → j < k → c l[j] m[j] = 0) → c l[k] m[k] ≠ 0 → eachC c l m = c l[k] m[k]
  | x :: l, y :: m, 0, h1, h2, _, hn => by
    unfold eachC
    rw [if_neg (show ¬ c x y = 0 from hn)]; rfl
  | x :: l, y :: m, k + 1, h1, h2, ha, hn => by
    unfold eachC
    rw [if_pos (show c x y = 0 from ha 0 (by simp) (by simp) (by omega)), each_at c l m k (by simpa using h1) (by simpa using h2) (fun j a b hk => ha (j + 1) (by simpa using a) (by simpa using b) (by omega)) hn]; rfl
theorem each_zero {α : Type} (c : α → α → Int) : ∀ (l m : List α), l.length = m.length → (∀ j, (a : j < l.length) → (b : j < m.length) → c l[j] m[j] = 0) → eachC c l m = 0
  | [], [], _, _ => rfl
  | x :: l, y :: m, hl, ha => by
    unfold eachC
    rw [if_pos (show c x y = 0 from ha 0 (by simp) (by simp)), each_zero c l m (by simpa using hl) (fun j a b => ha (j + 1) (by simpa using a) (by simpa using b))]
theorem eachW {n : Nat} (ih : ∀ m, n = m + 1 → CmpS m) (w : World) (B : Nat) (v1 v2 : Value) (l1 l2 : List (Tm n)) (hB : B ≤ w.heap.size) (h1 : ItemsAt w B n v1 l1) (h2 : ItemsAt w B n v2 l2) (f1 : formedL n l1 = true) (f2 : formedL n l2 = true) (hl : l1.length = l2.length) :
    Calls Tryz.prog 269 #[v1, v2, .func (.func 203) #[] #[]] w (IPostC (eachC (cmpTm n) l1 l2) w) := by
  obtain ⟨p1, c1, rfl, hc1, hm1⟩ := h1.shape
  obtain ⟨p2, c2, rfl, hc2, hm2⟩ := h2.shape
  unfold maxLen at hm1 hm2
  have HP := Lib.hid (pairEl ih w B p1 p2 _ _ c1 c2 l1 l2 hB h1 h2 f1 f2)
  have HAt := Lib.hid (each_at (cmpTm n) l1 l2)
  have HZ := Lib.hid (each_zero (cmpTm n) l1 l2 hl)
  generalize eachC (cmpTm n) l1 l2 = r at *
  have HL := Lib.hid hl
  rw [← hl] at hc2
  rw [← hl]
  clear ih h1 h2 f1 f2 hl
  go_enter Tryz.func269, Tryz.ntmps269
  go_wp2_with fail
  go_loopw [11] (fun s wr => ∃ k : Nat, s = .int .i64 k ∧ k ≤ l1.length ∧ Hid (∀ j, (a : j < l1.length) → (b : j < l2.length) → j < k → cmpTm n l1[j] l2[j] = 0) ∧ Below w.heap.size w wr) (fun s _ => l1.length - (intOf s).toNat)
  case atStart => exact ⟨0, rfl, by omega, Lib.hid (fun j _ _ h => by omega), Below.refl _ _⟩
  case round =>
    obtain ⟨k, rfl, hk, HA, hb⟩ := hrel
    by_cases hlt : k < l1.length
    · have hkb : k < l2.length := by have := HL.out; omega
      obtain ⟨g1, o1, x1, q1, m1, d1, g2, o2, x2, q2, m2, d2, rfl, hg1, hC1, rfl, hg2, hC2, ek1, ek2, hCall⟩ := HP.out k k hlt hkb
      clear ek1 ek2
      have hC1 := hC1.same (hb.block g1 hg1)
      have hC2 := hC2.same (hb.block g2 hg2)
      obtain ⟨x10, x11, x12, x13, x14, x15, x16, x17, x18⟩ := hC1
      obtain ⟨y10, y11, y12, y13, y14, y15, y16, y17, y18⟩ := hC2
      have hb' : Below w.heap.size w wr.drew := hb.drewN 1
      have HC := Lib.hid (hCall wr.drew hb')
      clear hCall
      have HA1 := Lib.hid (HAt.out k hlt hkb HA.out)
      have HA2 : Hid (cmpTm n l1[k] l2[k] = 0 → ∀ j, (a : j < l1.length) → (b : j < l2.length) → j < k + 1 → cmpTm n l1[j] l2[j] = 0) := Lib.hid (fun e j a b hj => by
        by_cases e2 : j = k
        · subst e2; exact e
        · exact HA.out j a b (by omega))
      generalize cmpTm n l1[k] l2[k] = x at *
      unfold aggV IPostC at HC
      go_wp2_with fail
      go_still_tail 9, (by kernel_rfl)
      change wpList _ _ _ _ _ wr.drew
      clear x10 x11 x12 x13 x14 x15 x16 x17 x18 y10 y11 y12 y13 y14 y15 y16 y17 y18
      generalize wr.drew = w2 at *
      go_wp2_with fail
      refine HC.out.mono ?_
      rintro e w3 ⟨rfl, hb3⟩
      have hb4 : Below w.heap.size w w3 := hb'.trans (hb3.mono hb'.size)
      by_cases hx : x = 0
      · subst hx
        have H2 := Lib.hid (HA2.out rfl)
        clear HA1 HA2
        go_wp2_with fail
        go_roundw
        case rel => exact ⟨k + 1, by go_num, by omega, H2, hb4⟩
        case measure => simp [intOf]; omega
      · have q : (x != 0) = true := by simp [hx]
        have HF := Lib.hid (HA1.out hx)
        clear HA1 HA2 hx
        go_wp2_with fail
        go_ret
        exact ⟨ret1i HF.out.symm, hb4⟩
    · have HF := Lib.hid (HZ.out (fun j a b => HA.out j a b (by omega)))
      go_wp2_with fail
      go_ret
      exact ⟨ret1i HF.out.symm, hb⟩
end Go.Proofs.YtnakbepcalciiaaGreat.tm

/- The order of terms: items, lists. Conditions: as before. -/
namespace Go.Proofs.YtnakbepcalciiaaGreat.tm
open Go.RowKit mem names
set_option linter.unusedVariables false
set_option linter.unusedSimpArgs false
set_option maxHeartbeats 4000000
set_option maxRecDepth 100000

theorem cmpI_0 {a b : Int} (h : a = b) : cmpI a b = 0 := by subst h; unfold cmpI; simp
theorem cmpI_ne {a b : Int} (h : a ≠ b) : cmpI a b ≠ 0 := by unfold cmpI; split <;> (try split) <;> omega
theorem itemsW {n : Nat} (ih : ∀ m, n = m + 1 → CmpS m) (w : World) (B : Nat) (v1 v2 : Value) (l1 l2 : List (Tm n)) (hB : B ≤ w.heap.size) (h1 : ItemsAt w B n v1 l1) (h2 : ItemsAt w B n v2 l2) (f1 : formedL n l1 = true) (f2 : formedL n l2 = true) :
    Calls Tryz.prog 231 #[v1, v2] w (IPostC (itemsC (cmpTm n) l1 l2) w) := by
  have hE := fun h => eachW ih w B v1 v2 l1 l2 hB h1 h2 f1 f2 h
  obtain ⟨p1, c1, rfl, hc1, hm1⟩ := h1.shape
  obtain ⟨p2, c2, rfl, hc2, hm2⟩ := h2.shape
  have HE := Lib.hid hE
  have hC := fun W => cmpInt l1.length l2.length W
  have hr : itemsC (cmpTm n) l1 l2 = (if l1.length = l2.length then eachC (cmpTm n) l1 l2 else cmpI l1.length l2.length) := rfl
  rw [hr]
  clear ih h1 h2 f1 f2 hE hr
  generalize eachC (cmpTm n) l1 l2 = r at *
  unfold IPostC at HE
  by_cases h : l1.length = l2.length
  · rw [if_pos h]
    rw [cmpI_0 (by omega)] at hC
    have HH := Lib.hid (HE.out h)
    have HC := Lib.hid hC
    clear HE hC h
    generalize l1.length = a at *
    generalize l2.length = b at *
    go_enter Tryz.func231, Tryz.ntmps231
    go_wp2_with fail
    refine (HC.out _).mono ?_
    rintro e w' ⟨rfl, rfl⟩
    go_wp2_with fail
    refine HH.out.mono ?_
    rintro e w2 ⟨rfl, hb⟩
    go_wp2_with fail
    go_ret
    exact ⟨rfl, hb⟩
  · rw [if_neg h]
    have hne := cmpI_ne (a := (l1.length : Int)) (b := l2.length) (by omega)
    have HC := Lib.hid hC
    clear HE hC h
    generalize cmpI (l1.length : Int) l2.length = x at *
    have q : (x != 0) = true := by simp [hne]
    clear hne
    generalize l1.length = a at *
    generalize l2.length = b at *
    go_enter Tryz.func231, Tryz.ntmps231
    go_wp2_with fail
    refine (HC.out _).mono ?_
    rintro e w' ⟨rfl, rfl⟩
    go_wp2_with fail
    go_ret
    exact ⟨rfl, Below.refl _ _⟩

theorem lists_step {α : Type} (kd : α → Int) (c : α → α → Int) (a x : α) (l : List α) (b y : α) (m : List α) : listsC kd c (a :: x :: l) (b :: y :: m) = if c a b = 0 then listsC kd c (x :: l) (y :: m) else c a b := by
  show cellsC kd c a (x :: l) b (y :: m) = if c a b = 0 then cellsC kd c x l y m else c a b
  rw [cellsC]
/-- what one round of the loop over cells finds -/
theorem lists_at {α : Type} (kd : α → Int) (c : α → α → Int) (l m : List α) (k : Nat) (h1 : k + 1 < l.length) (h2 : k + 1 < m.length) :
    (c l[k] m[k] ≠ 0 → listsC kd c (l.drop k) (m.drop k) = c l[k] m[k]) ∧
    (c l[k] m[k] = 0 → listsC kd c (l.drop k) (m.drop k) = listsC kd c (l.drop (k + 1)) (m.drop (k + 1))) ∧
    (l.length = k + 2 → m.length = k + 2 → listsC kd c (l.drop (k + 1)) (m.drop (k + 1)) = c l[k + 1] m[k + 1]) ∧
    (l.length = k + 2 → m.length ≠ k + 2 → listsC kd c (l.drop (k + 1)) (m.drop (k + 1)) = cmpI (kd l[k + 1]) 9) ∧
    (l.length ≠ k + 2 → m.length = k + 2 → listsC kd c (l.drop (k + 1)) (m.drop (k + 1)) = cmpI 9 (kd m[k + 1])) := by
  have e1 : l.drop k = l[k] :: l.drop (k + 1) := List.drop_eq_getElem_cons (by omega)
  have e2 : m.drop k = m[k] :: m.drop (k + 1) := List.drop_eq_getElem_cons (by omega)
  have e3 : l.drop (k + 1) = l[k + 1] :: l.drop (k + 2) := List.drop_eq_getElem_cons h1
  have e4 : m.drop (k + 1) = m[k + 1] :: m.drop (k + 2) := List.drop_eq_getElem_cons h2
  refine ⟨fun h => ?_, fun h => ?_, fun ha hb => ?_, fun ha hb => ?_, fun ha hb => ?_⟩
  · rw [e1, e2, e3, e4, lists_step, if_neg h]
  · rw [e1, e2, e3, e4, lists_step, if_pos h]
  · rw [e3, e4, List.drop_of_length_le (by omega), List.drop_of_length_le (by omega)]; rfl
  · have e6 : m.drop (k + 2) = m[k + 2]'(by omega) :: m.drop (k + 3) := List.drop_eq_getElem_cons (by omega)
    rw [e3, e4, List.drop_of_length_le (by omega), e6]; rfl
  · have e6 : l.drop (k + 2) = l[k + 2]'(by omega) :: l.drop (k + 3) := List.drop_eq_getElem_cons (by omega)
    rw [e3, e4, List.drop_of_length_le (l := m) (by omega), e6]; rfl
end Go.Proofs.YtnakbepcalciiaaGreat.tm

/- The order of terms: bit strings. Conditions: the bits are formed. -/
namespace Go.Proofs.YtnakbepcalciiaaGreat.tm
open Go.RowKit mem names
set_option linter.unusedVariables false
set_option linter.unusedSimpArgs false
set_option maxHeartbeats 4000000
set_option maxRecDepth 100000

theorem takeB (x : ByteArray) (q : Nat) : (x.extract 0 q).data.toList = x.data.toList.take q := by
  rw [ByteArray.data_extract, Array.toList_extract]; simp
theorem bitsC_eq (f1 f2 : TF) (n q lf : Nat) (hn : (n : Int) = min f1.bits f2.bits) (hq : n / 8 = q) (hl : n % 8 = lf) :
    bitsC f1 f2 = (if cmpB (f1.bytes.extract 0 q) (f2.bytes.extract 0 q) = 0 then
      (if lf = 0 then cmpI f1.bits f2.bits else
        (if cmpI ((f1.bytes.data.toList.getD q 0).toNat / 2 ^ (8 - lf) : Nat) ((f2.bytes.data.toList.getD q 0).toNat / 2 ^ (8 - lf) : Nat) = 0 then cmpI f1.bits f2.bits else cmpI ((f1.bytes.data.toList.getD q 0).toNat / 2 ^ (8 - lf) : Nat) ((f2.bytes.data.toList.getD q 0).toNat / 2 ^ (8 - lf) : Nat)))
      else cmpB (f1.bytes.extract 0 q) (f2.bytes.extract 0 q)) := by
  unfold bitsC cmpB
  dsimp only
  rw [takeB, takeB, show (min f1.bits f2.bits).toNat = n by omega, hq, hl]
theorem nine_drew {w : World} {z : Nat} {f : TF} {v : Value} (h : Nine w z f v) : Nine w.drew z f v := ⟨h.c0, h.c1, h.c2, h.c3, h.c4, h.c5, h.c6, h.c7, h.c8, h.fz⟩
theorem boxes2 (w : World) (f1 f2 : TF) (v1 v2 : Value) : Nine ((w.alloc (cells9 f1 v1)).alloc (cells9 f2 v2)) w.heap.size f1 v1 ∧ Nine ((w.alloc (cells9 f1 v1)).alloc (cells9 f2 v2)) (w.heap.size + 1) f2 v2 ∧ Below w.heap.size w ((w.alloc (cells9 f1 v1)).alloc (cells9 f2 v2)) ∧ ((w.alloc (cells9 f1 v1)).alloc (cells9 f2 v2)).heap.size = w.heap.size + 2 := by
  have h1 := (MapKept.heap_alloc w (cells9 f1 v1)).1
  have h2 := (MapKept.heap_alloc (w.alloc (cells9 f1 v1)) (cells9 f2 v2)).1
  have h3 : ((w.alloc (cells9 f1 v1)).alloc (cells9 f2 v2)).heap[w.heap.size]? = some (cells9 f1 v1) := by rw [Below.heap_alloc _ _ _ (by simp)]; exact h1
  exact ⟨nine_of h3, nine_of (by simpa using h2), ((Below.refl _ _).alloc (Nat.le_refl _) _).alloc (by simp) _, by simp⟩
theorem bitsW1 (k1 i1 g1 k2 i2 g2 a b : Int) (nm1 fn1 nm2 fn2 x y : ByteArray) (ar1 ar2 : Int) (p1 p2 : Option Addr) (m1 c1 m2 c2 : Nat) (w : World) (h1 : 0 ≤ a ∧ a ≤ 16384) (h2 : 0 ≤ b ∧ b ≤ 16384) (s1 : (x.size : Int) = (a + 7) / 8) (s2 : (y.size : Int) = (b + 7) / 8) (hab : a ≤ b) :
    Calls Tryz.prog 233 #[aggV ⟨k1, i1, g1, nm1, fn1, ar1, x, a⟩ (.slice p1 m1 c1), aggV ⟨k2, i2, g2, nm2, fn2, ar2, y, b⟩ (.slice p2 m2 c2)] w (IPostC (bitsC ⟨k1, i1, g1, nm1, fn1, ar1, x, a⟩ ⟨k2, i2, g2, nm2, fn2, ar2, y, b⟩) w) := by
  obtain ⟨n, hn⟩ : ∃ n : Nat, (n : Int) = a := ⟨(a).toNat, by omega⟩
  obtain ⟨q, hq⟩ : ∃ q : Nat, n / 8 = q := ⟨_, rfl⟩
  obtain ⟨lf, hl⟩ : ∃ lf : Nat, n % 8 = lf := ⟨_, rfl⟩
  have HR := Lib.hid (bitsC_eq ⟨k1, i1, g1, nm1, fn1, ar1, x, a⟩ ⟨k2, i2, g2, nm2, fn2, ar2, y, b⟩ n q lf (by dsimp only; omega) hq hl)
  generalize bitsC ⟨k1, i1, g1, nm1, fn1, ar1, x, a⟩ ⟨k2, i2, g2, nm2, fn2, ar2, y, b⟩ = r at *
  dsimp only at HR
  have hd8 : a / 8 = (q : Int) := by omega
  have hm8 : a % 8 = (lf : Int) := by omega
  have htd : (a).tdiv 8 = (q : Int) := by rw [Int.tdiv_eq_ediv_of_nonneg (by omega)]; exact hd8
  have htm : (a).tmod 8 = (lf : Int) := by rw [Int.tmod_eq_emod_of_nonneg (by omega)]; exact hm8
  have hqb : (q : Int) ≤ 2048 := by omega
  have hq0 : (0 : Int) ≤ (q : Int) := by omega
  have hwq : IntKind.i64.wrap (q : Int) = q := IntWalk.i64_in _ (by omega)
  have hlf : lf < 8 := by omega
  have hlfi : (lf : Int) < 8 := by omega
  have hlf0 : (0 : Int) ≤ (lf : Int) := by omega
  have hma : (0 : Int) ≤ a := by omega
  have hx : q ≤ x.size := by omega
  have hy : q ≤ y.size := by omega
  have hxi : (q : Int) ≤ (x.size : Int) := by omega
  have hyi : (q : Int) ≤ (y.size : Int) := by omega
  have hx2 : lf ≠ 0 → q < x.size ∧ q < y.size := by omega
  have HX2 := Lib.hid hx2
  have hCS := Lib.hid (fun W => cmpString (x.extract 0 q) (y.extract 0 q) W)
  have hCI := Lib.hid (fun W => cmpInt a b W)
  clear hn hq hl hx2 s1 s2 h1 h2
  unfold aggV
  dsimp only
  generalize cmpB (x.extract 0 q) (y.extract 0 q) = z at *
  generalize cmpI a b = zi at *
  go_enter Tryz.func233, Tryz.ntmps233
  go_wp2_with fail
  obtain ⟨hN1, hN2, hbw, hsz⟩ := boxes2 w ⟨k1, i1, g1, nm1, fn1, ar1, x, a⟩ ⟨k2, i2, g2, nm2, fn2, ar2, y, b⟩ (.slice p1 m1 c1) (.slice p2 m2 c2)
  unfold cells9 at hN1 hN2 hbw hsz
  dsimp only at hN1 hN2 hbw hsz
  generalize ((w.alloc (.cells #[.int .i64 k1, .int .i64 i1, .int .i64 g1, .string nm1, .string fn1, .int .i64 ar1, .slice p1 m1 c1, .string x, .int .i64 a] 30)).alloc (.cells #[.int .i64 k2, .int .i64 i2, .int .i64 g2, .string nm2, .string fn2, .int .i64 ar2, .slice p2 m2 c2, .string y, .int .i64 b] 30)) = W0 at *
  clear hsz
  have HN1 := Lib.hid hN1
  have HN2 := Lib.hid hN2
  obtain ⟨x0, x1, x2, x3, x4, x5, x6, x7, x8, xz⟩ := hN1
  obtain ⟨y0, y1, y2, y3, y4, y5, y6, y7, y8, yz⟩ := hN2
  dsimp only at x0 x1 x2 x3 x4 x5 x6 x7 x8 y0 y1 y2 y3 y4 y5 y6 y7 y8
  go_still_tail 8, (by kernel_rfl)
  change wpList _ _ _ _ _ W0.drew
  have hN1 := nine_drew HN1.out
  have hN2 := nine_drew HN2.out
  have hbw1 := hbw.drewN 1
  clear x0 x1 x2 x3 x4 x5 x6 x7 x8 xz y0 y1 y2 y3 y4 y5 y6 y7 y8 yz HN1 HN2 hbw
  change Below w.heap.size w W0.drew at hbw1
  generalize W0.drew = W1 at *
  have HN1 := Lib.hid hN1
  have HN2 := Lib.hid hN2
  obtain ⟨x0, x1, x2, x3, x4, x5, x6, x7, x8, xz⟩ := hN1
  obtain ⟨y0, y1, y2, y3, y4, y5, y6, y7, y8, yz⟩ := hN2
  dsimp only at x0 x1 x2 x3 x4 x5 x6 x7 x8 y0 y1 y2 y3 y4 y5 y6 y7 y8
  go_wp2_with fail
  refine (hCS.out _).mono ?_
  rintro e w' ⟨rfl, rfl⟩
  by_cases hz : z = 0
  · subst hz
    have hr := HR.out
    rw [if_pos rfl] at hr
    clear HR
    by_cases h0 : lf = 0
    · subst h0
      rw [if_pos rfl] at hr
      have HR := Lib.hid hr
      clear hr
      go_wp2_with fail
      refine (hCI.out _).mono ?_
      rintro e w' ⟨rfl, rfl⟩
      go_wp2_with fail
      go_ret
      exact ⟨ret1i HR.out.symm, hbw1⟩
    · rw [if_neg h0] at hr
      obtain ⟨hx2, hy2⟩ := HX2.out h0
      have hgx : x.data.toList.getD q 0 = x[q]'hx2 := by
        rw [List.getD_eq_getElem?_getD, List.getElem?_eq_getElem (by rw [Array.length_toList]; exact hx2)]; rfl
      have hgy : y.data.toList.getD q 0 = y[q]'hy2 := by
        rw [List.getD_eq_getElem?_getD, List.getElem?_eq_getElem (by rw [Array.length_toList]; exact hy2)]; rfl
      rw [hgx, hgy] at hr
      have hix : ∀ w : World, (Instr.index 9 (.string x) (.int .i64 (q : Int))).run Tryz.prog w = .ok (.int .u8 ((x[q]'hx2).toNat : Int)) w := fun w => by
        rw [run_index_string w 9 x .i64 (q : Int) Tryz.underlying9, dif_pos ⟨by omega, by omega⟩]; rfl
      have hiy : ∀ w : World, (Instr.index 9 (.string y) (.int .i64 (q : Int))).run Tryz.prog w = .ok (.int .u8 ((y[q]'hy2).toNat : Int)) w := fun w => by
        rw [run_index_string w 9 y .i64 (q : Int) Tryz.underlying9, dif_pos ⟨by omega, by omega⟩]; rfl
      have hbx : (x[q]'hx2).toNat < 256 := UInt8.toNat_lt _
      have hby : (y[q]'hy2).toNat < 256 := UInt8.toNat_lt _
      clear hgx hgy
      generalize (x[q]'hx2).toNat = bx at *
      generalize (y[q]'hy2).toNat = byy at *
      have hCb := fun W => cmpByte ((bx / 2 ^ (8 - lf) : Nat) : Int) ((byy / 2 ^ (8 - lf) : Nat) : Int) W
      generalize cmpI ((bx / 2 ^ (8 - lf) : Nat) : Int) ((byy / 2 ^ (8 - lf) : Nat) : Int) = zz at *
      have HR := Lib.hid hr
      clear hr
      rcases (show lf = 1 ∨ lf = 2 ∨ lf = 3 ∨ lf = 4 ∨ lf = 5 ∨ lf = 6 ∨ lf = 7 by omega) with rfl | rfl | rfl | rfl | rfl | rfl | rfl
      all_goals
        clear h0 HX2 hx hy hxi hyi hlf hlfi hlf0
        have HCb := Lib.hid hCb
        clear hCb
        have hw1 : IntKind.i64.wrap 1 = 1 := by decide
        have hw2 : IntKind.i64.wrap 2 = 2 := by decide
        have hw3 : IntKind.i64.wrap 3 = 3 := by decide
        have hw4 : IntKind.i64.wrap 4 = 4 := by decide
        have hw5 : IntKind.i64.wrap 5 = 5 := by decide
        have hw6 : IntKind.i64.wrap 6 = 6 := by decide
        have hw7 : IntKind.i64.wrap 7 = 7 := by decide
        go_wp2_with fail
        go_still_tail 14, (by kernel_rfl)
        change wpList _ _ _ _ _ W1.drew
        have hN1 := nine_drew HN1.out
        have hN2 := nine_drew HN2.out
        have hbw2 : Below w.heap.size w W1.drew := hbw1.drewN 1
        clear x0 x1 x2 x3 x4 x5 x6 x7 x8 xz y0 y1 y2 y3 y4 y5 y6 y7 y8 yz HN1 HN2 hbw1
        generalize W1.drew = W2 at *
        obtain ⟨x0, x1, x2, x3, x4, x5, x6, x7, x8, xz⟩ := hN1
        obtain ⟨y0, y1, y2, y3, y4, y5, y6, y7, y8, yz⟩ := hN2
        dsimp only at x0 x1 x2 x3 x4 x5 x6 x7 x8 y0 y1 y2 y3 y4 y5 y6 y7 y8
        go_wp2_with fail
        refine (HCb.out _).mono ?_
        rintro e w' ⟨rfl, rfl⟩
        by_cases hzz : zz = 0
        · subst hzz
          go_wp2_with fail
          refine (hCI.out _).mono ?_
          rintro e w' ⟨rfl, rfl⟩
          go_wp2_with fail
          go_ret
          exact ⟨ret1i (by rw [HR.out]; simp), hbw2⟩
        · have qz : (zz != 0) = true := by simp [hzz]
          have HZ := Lib.hid hzz
          clear hzz
          go_wp2_with fail
          go_ret
          exact ⟨ret1i (by rw [HR.out, if_neg HZ.out]), hbw2⟩
  · have qz : (z != 0) = true := by simp [hz]
    have hr := HR.out
    rw [if_neg hz] at hr
    have HR := Lib.hid hr
    clear hr hz
    go_wp2_with fail
    go_ret
    exact ⟨ret1i HR.out.symm, hbw1⟩
theorem bitsW2 (k1 i1 g1 k2 i2 g2 a b : Int) (nm1 fn1 nm2 fn2 x y : ByteArray) (ar1 ar2 : Int) (p1 p2 : Option Addr) (m1 c1 m2 c2 : Nat) (w : World) (h1 : 0 ≤ a ∧ a ≤ 16384) (h2 : 0 ≤ b ∧ b ≤ 16384) (s1 : (x.size : Int) = (a + 7) / 8) (s2 : (y.size : Int) = (b + 7) / 8) (hab : b < a) :
    Calls Tryz.prog 233 #[aggV ⟨k1, i1, g1, nm1, fn1, ar1, x, a⟩ (.slice p1 m1 c1), aggV ⟨k2, i2, g2, nm2, fn2, ar2, y, b⟩ (.slice p2 m2 c2)] w (IPostC (bitsC ⟨k1, i1, g1, nm1, fn1, ar1, x, a⟩ ⟨k2, i2, g2, nm2, fn2, ar2, y, b⟩) w) := by
  obtain ⟨n, hn⟩ : ∃ n : Nat, (n : Int) = b := ⟨(b).toNat, by omega⟩
  obtain ⟨q, hq⟩ : ∃ q : Nat, n / 8 = q := ⟨_, rfl⟩
  obtain ⟨lf, hl⟩ : ∃ lf : Nat, n % 8 = lf := ⟨_, rfl⟩
  have HR := Lib.hid (bitsC_eq ⟨k1, i1, g1, nm1, fn1, ar1, x, a⟩ ⟨k2, i2, g2, nm2, fn2, ar2, y, b⟩ n q lf (by dsimp only; omega) hq hl)
  generalize bitsC ⟨k1, i1, g1, nm1, fn1, ar1, x, a⟩ ⟨k2, i2, g2, nm2, fn2, ar2, y, b⟩ = r at *
  dsimp only at HR
  have hd8 : b / 8 = (q : Int) := by omega
  have hm8 : b % 8 = (lf : Int) := by omega
  have htd : (b).tdiv 8 = (q : Int) := by rw [Int.tdiv_eq_ediv_of_nonneg (by omega)]; exact hd8
  have htm : (b).tmod 8 = (lf : Int) := by rw [Int.tmod_eq_emod_of_nonneg (by omega)]; exact hm8
  have hqb : (q : Int) ≤ 2048 := by omega
  have hq0 : (0 : Int) ≤ (q : Int) := by omega
  have hwq : IntKind.i64.wrap (q : Int) = q := IntWalk.i64_in _ (by omega)
  have hlf : lf < 8 := by omega
  have hlfi : (lf : Int) < 8 := by omega
  have hlf0 : (0 : Int) ≤ (lf : Int) := by omega
  have hma : (0 : Int) ≤ b := by omega
  have hx : q ≤ x.size := by omega
  have hy : q ≤ y.size := by omega
  have hxi : (q : Int) ≤ (x.size : Int) := by omega
  have hyi : (q : Int) ≤ (y.size : Int) := by omega
  have hx2 : lf ≠ 0 → q < x.size ∧ q < y.size := by omega
  have HX2 := Lib.hid hx2
  have hCS := Lib.hid (fun W => cmpString (x.extract 0 q) (y.extract 0 q) W)
  have hCI := Lib.hid (fun W => cmpInt a b W)
  clear hn hq hl hx2 s1 s2 h1 h2
  unfold aggV
  dsimp only
  generalize cmpB (x.extract 0 q) (y.extract 0 q) = z at *
  generalize cmpI a b = zi at *
  go_enter Tryz.func233, Tryz.ntmps233
  go_wp2_with fail
  obtain ⟨hN1, hN2, hbw, hsz⟩ := boxes2 w ⟨k1, i1, g1, nm1, fn1, ar1, x, a⟩ ⟨k2, i2, g2, nm2, fn2, ar2, y, b⟩ (.slice p1 m1 c1) (.slice p2 m2 c2)
  unfold cells9 at hN1 hN2 hbw hsz
  dsimp only at hN1 hN2 hbw hsz
  generalize ((w.alloc (.cells #[.int .i64 k1, .int .i64 i1, .int .i64 g1, .string nm1, .string fn1, .int .i64 ar1, .slice p1 m1 c1, .string x, .int .i64 a] 30)).alloc (.cells #[.int .i64 k2, .int .i64 i2, .int .i64 g2, .string nm2, .string fn2, .int .i64 ar2, .slice p2 m2 c2, .string y, .int .i64 b] 30)) = W0 at *
  clear hsz
  have HN1 := Lib.hid hN1
  have HN2 := Lib.hid hN2
  obtain ⟨x0, x1, x2, x3, x4, x5, x6, x7, x8, xz⟩ := hN1
  obtain ⟨y0, y1, y2, y3, y4, y5, y6, y7, y8, yz⟩ := hN2
  dsimp only at x0 x1 x2 x3 x4 x5 x6 x7 x8 y0 y1 y2 y3 y4 y5 y6 y7 y8
  go_still_tail 8, (by kernel_rfl)
  change wpList _ _ _ _ _ W0.drew
  have hN1 := nine_drew HN1.out
  have hN2 := nine_drew HN2.out
  have hbw1 := hbw.drewN 1
  clear x0 x1 x2 x3 x4 x5 x6 x7 x8 xz y0 y1 y2 y3 y4 y5 y6 y7 y8 yz HN1 HN2 hbw
  change Below w.heap.size w W0.drew at hbw1
  generalize W0.drew = W1 at *
  have HN1 := Lib.hid hN1
  have HN2 := Lib.hid hN2
  obtain ⟨x0, x1, x2, x3, x4, x5, x6, x7, x8, xz⟩ := hN1
  obtain ⟨y0, y1, y2, y3, y4, y5, y6, y7, y8, yz⟩ := hN2
  dsimp only at x0 x1 x2 x3 x4 x5 x6 x7 x8 y0 y1 y2 y3 y4 y5 y6 y7 y8
  go_wp2_with fail
  refine (hCS.out _).mono ?_
  rintro e w' ⟨rfl, rfl⟩
  by_cases hz : z = 0
  · subst hz
    have hr := HR.out
    rw [if_pos rfl] at hr
    clear HR
    by_cases h0 : lf = 0
    · subst h0
      rw [if_pos rfl] at hr
      have HR := Lib.hid hr
      clear hr
      go_wp2_with fail
      refine (hCI.out _).mono ?_
      rintro e w' ⟨rfl, rfl⟩
      go_wp2_with fail
      go_ret
      exact ⟨ret1i HR.out.symm, hbw1⟩
    · rw [if_neg h0] at hr
      obtain ⟨hx2, hy2⟩ := HX2.out h0
      have hgx : x.data.toList.getD q 0 = x[q]'hx2 := by
        rw [List.getD_eq_getElem?_getD, List.getElem?_eq_getElem (by rw [Array.length_toList]; exact hx2)]; rfl
      have hgy : y.data.toList.getD q 0 = y[q]'hy2 := by
        rw [List.getD_eq_getElem?_getD, List.getElem?_eq_getElem (by rw [Array.length_toList]; exact hy2)]; rfl
      rw [hgx, hgy] at hr
      have hix : ∀ w : World, (Instr.index 9 (.string x) (.int .i64 (q : Int))).run Tryz.prog w = .ok (.int .u8 ((x[q]'hx2).toNat : Int)) w := fun w => by
        rw [run_index_string w 9 x .i64 (q : Int) Tryz.underlying9, dif_pos ⟨by omega, by omega⟩]; rfl
      have hiy : ∀ w : World, (Instr.index 9 (.string y) (.int .i64 (q : Int))).run Tryz.prog w = .ok (.int .u8 ((y[q]'hy2).toNat : Int)) w := fun w => by
        rw [run_index_string w 9 y .i64 (q : Int) Tryz.underlying9, dif_pos ⟨by omega, by omega⟩]; rfl
      have hbx : (x[q]'hx2).toNat < 256 := UInt8.toNat_lt _
      have hby : (y[q]'hy2).toNat < 256 := UInt8.toNat_lt _
      clear hgx hgy
      generalize (x[q]'hx2).toNat = bx at *
      generalize (y[q]'hy2).toNat = byy at *
      have hCb := fun W => cmpByte ((bx / 2 ^ (8 - lf) : Nat) : Int) ((byy / 2 ^ (8 - lf) : Nat) : Int) W
      generalize cmpI ((bx / 2 ^ (8 - lf) : Nat) : Int) ((byy / 2 ^ (8 - lf) : Nat) : Int) = zz at *
      have HR := Lib.hid hr
      clear hr
      rcases (show lf = 1 ∨ lf = 2 ∨ lf = 3 ∨ lf = 4 ∨ lf = 5 ∨ lf = 6 ∨ lf = 7 by omega) with rfl | rfl | rfl | rfl | rfl | rfl | rfl
      all_goals
        clear h0 HX2 hx hy hxi hyi hlf hlfi hlf0
        have HCb := Lib.hid hCb
        clear hCb
        have hw1 : IntKind.i64.wrap 1 = 1 := by decide
        have hw2 : IntKind.i64.wrap 2 = 2 := by decide
        have hw3 : IntKind.i64.wrap 3 = 3 := by decide
        have hw4 : IntKind.i64.wrap 4 = 4 := by decide
        have hw5 : IntKind.i64.wrap 5 = 5 := by decide
        have hw6 : IntKind.i64.wrap 6 = 6 := by decide
        have hw7 : IntKind.i64.wrap 7 = 7 := by decide
        go_wp2_with fail
        go_still_tail 14, (by kernel_rfl)
        change wpList _ _ _ _ _ W1.drew
        have hN1 := nine_drew HN1.out
        have hN2 := nine_drew HN2.out
        have hbw2 : Below w.heap.size w W1.drew := hbw1.drewN 1
        clear x0 x1 x2 x3 x4 x5 x6 x7 x8 xz y0 y1 y2 y3 y4 y5 y6 y7 y8 yz HN1 HN2 hbw1
        generalize W1.drew = W2 at *
        obtain ⟨x0, x1, x2, x3, x4, x5, x6, x7, x8, xz⟩ := hN1
        obtain ⟨y0, y1, y2, y3, y4, y5, y6, y7, y8, yz⟩ := hN2
        dsimp only at x0 x1 x2 x3 x4 x5 x6 x7 x8 y0 y1 y2 y3 y4 y5 y6 y7 y8
        go_wp2_with fail
        refine (HCb.out _).mono ?_
        rintro e w' ⟨rfl, rfl⟩
        by_cases hzz : zz = 0
        · subst hzz
          go_wp2_with fail
          refine (hCI.out _).mono ?_
          rintro e w' ⟨rfl, rfl⟩
          go_wp2_with fail
          go_ret
          exact ⟨ret1i (by rw [HR.out]; simp), hbw2⟩
        · have qz : (zz != 0) = true := by simp [hzz]
          have HZ := Lib.hid hzz
          clear hzz
          go_wp2_with fail
          go_ret
          exact ⟨ret1i (by rw [HR.out, if_neg HZ.out]), hbw2⟩
  · have qz : (z != 0) = true := by simp [hz]
    have hr := HR.out
    rw [if_neg hz] at hr
    have HR := Lib.hid hr
    clear hr hz
    go_wp2_with fail
    go_ret
    exact ⟨ret1i HR.out.symm, hbw1⟩
theorem bitsW (f1 f2 : TF) (p1 p2 : Option Addr) (m1 c1 m2 c2 : Nat) (w : World) (h1 : 0 ≤ f1.bits ∧ f1.bits ≤ 16384) (h2 : 0 ≤ f2.bits ∧ f2.bits ≤ 16384) (s1 : (f1.bytes.size : Int) = (f1.bits + 7) / 8) (s2 : (f2.bytes.size : Int) = (f2.bits + 7) / 8) :
    Calls Tryz.prog 233 #[aggV f1 (.slice p1 m1 c1), aggV f2 (.slice p2 m2 c2)] w (IPostC (bitsC f1 f2) w) := by
  obtain ⟨k1, i1, g1, nm1, fn1, ar1, x, a⟩ := f1
  obtain ⟨k2, i2, g2, nm2, fn2, ar2, y, b⟩ := f2
  by_cases h : a ≤ b
  · exact bitsW1 k1 i1 g1 k2 i2 g2 a b nm1 fn1 nm2 fn2 x y ar1 ar2 p1 p2 m1 c1 m2 c2 w h1 h2 s1 s2 h
  · exact bitsW2 k1 i1 g1 k2 i2 g2 a b nm1 fn1 nm2 fn2 x y ar1 ar2 p1 p2 m1 c1 m2 c2 w h1 h2 s1 s2 (by omega)
end Go.Proofs.YtnakbepcalciiaaGreat.tm

/- The reference's terms: names, ranges, fields. No condition. -/
namespace Go.Proofs.YtnakbepcalciiaaGreat.tm
open Go.RowKit mem names
set_option linter.unusedVariables false
set_option linter.unusedSimpArgs false
set_option maxHeartbeats 4000000
set_option maxRecDepth 100000

theorem RName (s : ByteArray) (w : World) :
    Calls Tryz.prog 98 #[.string s] w fun e w' => e = .returned (.bool (vName s)) ∧ Below w.heap.size w w' := by
  by_cases h1 : s.size < 1
  · go_enter Tryz.func98, Tryz.ntmps98
    go_wp2_with fail
    go_ret
    exact ⟨tm.ret1b (by unfold vName; symm; rw [decide_eq_false_iff_not]; omega), Below.refl _ _⟩
  by_cases h2 : 32 < s.size
  · go_enter Tryz.func98, Tryz.ntmps98
    go_wp2_with fail
    go_ret
    exact ⟨tm.ret1b (by unfold vName; symm; rw [decide_eq_false_iff_not]; omega), Below.refl _ _⟩
  have h0 : 0 < s.size := by omega
  have F : (Hid (97 ≤ (s[0].toNat : Int) ∧ (s[0].toNat : Int) ≤ 122 → okAt 0 s[0].toNat = true)) := Lib.hid fun h => (okAt_iff _ _).2 (by omega)
  by_cases h3 : (s[0].toNat : Int) < 97
  · go_enter Tryz.func98, Tryz.ntmps98
    go_wp2_with fail
    go_ret
    exact ⟨tm.ret1b (vName_false 0 h0 (okAt_not _ _ (by omega))).symm, Below.refl _ _⟩
  by_cases h4 : (122 : Int) < s[0].toNat
  · go_enter Tryz.func98, Tryz.ntmps98
    go_wp2_with fail
    go_ret
    exact ⟨tm.ret1b (vName_false 0 h0 (okAt_not _ _ (by omega))).symm, Below.refl _ _⟩
  have hin : ∀ k : Nat, (h : k < s.size) → k < 1 → okAt k (s[k]'h).toNat = true := by
    intro k h hk
    have e : k = 0 := by omega
    subst e
    exact F.out (by omega)
  have HIN := Lib.hid hin
  clear hin
  go_enter Tryz.func98, Tryz.ntmps98
  go_wp2_with fail
  go_loop [3] (fun i => ∃ pos : Nat, i = .int .i64 pos ∧ 1 ≤ pos ∧ pos ≤ s.size ∧ Hid (∀ k : Nat, (h : k < s.size) → k < pos → okAt k (s[k]'h).toNat = true)) (fun i => s.size - (intOf i).toNat)
  case atStart => exact ⟨1, rfl, by omega, by omega, HIN⟩
  case round =>
    obtain ⟨pos, rfl, hpos1, hpos, HALL⟩ := hrel
    by_cases hp : pos < s.size
    · have HN : Hid (pos = 0 → 97 ≤ (s[pos].toNat : Int) ∧ (s[pos].toNat : Int) ≤ 122) := Lib.hid (by intro e; omega)
      obtain ⟨lo, hi, b1, b2, c1, c2, c3, c4, c5, c6, hG⟩ := classes s[pos].toNat (by have := s[pos].toNat_lt; omega)
      rcases hG with ⟨rfl, rfl, rfl, rfl⟩ | ⟨rfl, rfl, rfl, rfl⟩ | ⟨rfl, rfl, rfl, rfl⟩ | ⟨rfl, rfl, rfl, rfl⟩ | ⟨rfl, rfl, rfl, rfl⟩ | ⟨rfl, rfl, rfl, rfl⟩ | ⟨rfl, rfl, rfl, rfl⟩ | ⟨rfl, rfl, rfl, rfl⟩ | ⟨rfl, rfl, rfl, rfl⟩ | ⟨rfl, rfl, rfl, rfl⟩
      all_goals go_wp2
      all_goals first
        | (go_ret
           exact ⟨tm.ret1b (vName_false pos hp (okAt_not _ _ (by omega))).symm, Below.refl _ _⟩)
        | (go_round
           case rel =>
            refine ⟨pos + 1, by go_num, by omega, by omega, Lib.hid fun k h hk => ?_⟩
            by_cases hkp : k < pos
            · exact HALL.out k h hkp
            · obtain rfl : k = pos := by omega
              have hn := HN.out
              exact (okAt_iff _ _).2 (by omega)
           case measure => simp [intOf]; omega)
        | (exfalso; simp only [Bool.not_eq_eq_eq_not, Bool.not_false, Bool.not_true, decide_eq_true_eq, decide_eq_false_iff_not] at *; omega)
    · go_wp2
      go_ret
      exact ⟨tm.ret1b (vName_true (by omega) (by omega) (fun k h => HALL.out k h (by omega))).symm, Below.refl _ _⟩
theorem between (n a b : Int) (w : World) : Calls Tryz.prog 193 #[.int .i64 n, .int .i64 a, .int .i64 b] w fun e w' => e = .returned (.bool (inB n a b)) ∧ w = w' := by
  by_cases h1 : a ≤ n
  · by_cases h2 : n ≤ b
    · rw [inB_t ⟨h1, h2⟩]
      have q1 : decide (a ≤ n) = true := decide_eq_true h1
      have q2 : decide (n ≤ b) = true := decide_eq_true h2
      go_enter Tryz.func193, Tryz.ntmps193
      go_wp2_with fail
      go_ret
      exact ⟨rfl, rfl⟩
    · rw [inB_f (fun h => h2 h.2)]
      have q1 : decide (a ≤ n) = true := decide_eq_true h1
      have q2 : decide (n ≤ b) = false := decide_eq_false h2
      go_enter Tryz.func193, Tryz.ntmps193
      go_wp2_with fail
      go_ret
      exact ⟨rfl, rfl⟩
  · rw [inB_f (fun h => h1 h.1)]
    have q1 : decide (a ≤ n) = false := decide_eq_false h1
    go_enter Tryz.func193, Tryz.ntmps193
    go_wp2_with fail
    go_ret
    exact ⟨rfl, rfl⟩

end Go.Proofs.YtnakbepcalciiaaGreat.tm
