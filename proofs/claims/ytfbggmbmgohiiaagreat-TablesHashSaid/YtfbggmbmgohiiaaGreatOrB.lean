
/- Bit strings: bit by bit is byte by byte. No condition. -/
import Derived.Test.YtfbggmbmgohiiaaGreatOrA
import Derived.Test.YtfbggmbmgohiiaaGreatTmV
namespace Go.Proofs.YtfbggmbmgohiiaaGreat.tm
set_option linter.unusedVariables false
set_option linter.unusedSimpArgs false

theorem getD_in {α : Type} {l : List α} {i : Nat} {d : α} (h : i < l.length) : l.getD i d = l[i] := by rw [List.getD_eq_getElem?_getD, List.getElem?_eq_getElem h]; rfl
/-- the first n of two rows of numbers, from the first on -/
def lexN (x y : Nat → Int) : Nat → Int
  | 0 => 0
  | n + 1 => if lexN x y n = 0 then cmpI (x n) (y n) else lexN x y n
theorem lexN_front (x y : Nat → Int) : ∀ n, lexN x y (n + 1) = if cmpI (x 0) (y 0) = 0 then lexN (fun i => x (i + 1)) (fun i => y (i + 1)) n else cmpI (x 0) (y 0)
  | 0 => by
    show (if (0 : Int) = 0 then cmpI (x 0) (y 0) else 0) = _
    rw [if_pos rfl]
    split
    next e => rw [e]; rfl
    next => rfl
  | n + 1 => by
    rw [lexN, lexN_front x y n]
    split
    next e =>
      show (if _ = 0 then _ else _) = lexN _ _ (n + 1)
      rw [lexN]
    next e => first | rfl | rw [if_neg e]
theorem lexN_lex : ∀ (x y : Nat → Int) (p q : Nat), lexG cmpI ((List.range p).map x) ((List.range q).map y) = if lexN x y (min p q) = 0 then cmpI p q else lexN x y (min p q)
  | x, y, 0, 0 => rfl
  | x, y, 0, q + 1 => by
    rw [Nat.zero_min, List.range_succ_eq_map]
    show (-1 : Int) = if (0 : Int) = 0 then _ else _
    rw [if_pos rfl]; unfold cmpI; rw [if_pos (by omega)]
  | x, y, p + 1, 0 => by
    rw [Nat.min_zero, List.range_succ_eq_map]
    show (1 : Int) = if (0 : Int) = 0 then _ else _
    rw [if_pos rfl]; unfold cmpI; rw [if_neg (by omega), if_pos (by omega)]
  | x, y, p + 1, q + 1 => by
    have ih := lexN_lex (fun i => x (i + 1)) (fun i => y (i + 1)) p q
    rw [show min (p + 1) (q + 1) = min p q + 1 by omega, lexN_front, List.range_succ_eq_map, List.range_succ_eq_map, List.map_cons, List.map_cons, lexG, List.map_map, List.map_map]
    have ec : cmpI ((p + 1 : Nat) : Int) ((q + 1 : Nat) : Int) = cmpI (p : Int) (q : Int) := by unfold cmpI; congr 1 <;> (first | (simp; done) | (congr 1; simp))
    rw [ec]
    split
    next e => exact ih
    next e => first | rfl | rw [if_neg e]
theorem cb_snoc (a b : UInt8) : ∀ l m : List UInt8, l.length = m.length → Lib.compareBytes (l ++ [a]) (m ++ [b]) = if Lib.compareBytes l m = 0 then cmpU a b else Lib.compareBytes l m
  | [], [], _ => by
    rw [cb_lex, cb_lex]
    show (if cmpU a b = 0 then (0 : Int) else cmpU a b) = if (0 : Int) = 0 then _ else _
    rw [if_pos rfl]; split
    next e => exact e.symm
    next => rfl
  | x :: l, y :: m, h => by
    have ih := cb_snoc a b l m (by simpa using h)
    rw [cb_lex, cb_lex] at ih ⊢
    rw [List.cons_append, List.cons_append, lexG, lexG]
    split
    next e => exact ih
    next e => first | rfl | rw [if_neg e]
def byteAt (s : List UInt8) (i : Nat) : Nat := (s.getD i 0).toNat
def bitAt (s : List UInt8) (i : Nat) : Int := ((byteAt s (i / 8) / 2 ^ (7 - i % 8) % 2 : Nat) : Int)
theorem bit_step (x y r : Nat) (hr : r < 8) : (if cmpI ((x / 2 ^ (8 - r) : Nat) : Int) ((y / 2 ^ (8 - r) : Nat) : Int) = 0 then cmpI ((x / 2 ^ (7 - r) % 2 : Nat) : Int) ((y / 2 ^ (7 - r) % 2 : Nat) : Int) else cmpI ((x / 2 ^ (8 - r) : Nat) : Int) ((y / 2 ^ (8 - r) : Nat) : Int)) = cmpI ((x / 2 ^ (8 - (r + 1)) : Nat) : Int) ((y / 2 ^ (8 - (r + 1)) : Nat) : Int) := by
  rw [show 8 - (r + 1) = 7 - r by omega, show 8 - r = (7 - r) + 1 by omega, Nat.pow_succ, ← Nat.div_div_eq_div_mul, ← Nat.div_div_eq_div_mul]
  generalize x / 2 ^ (7 - r) = u
  generalize y / 2 ^ (7 - r) = v
  by_cases h1 : u / 2 < v / 2
  · have e1 : cmpI ((u / 2 : Nat) : Int) ((v / 2 : Nat) : Int) = -1 := by unfold cmpI; rw [if_pos (by omega)]
    have e2 : cmpI (u : Int) v = -1 := by unfold cmpI; rw [if_pos (by omega)]
    rw [e1, e2]; rfl
  · by_cases h2 : v / 2 < u / 2
    · have e1 : cmpI ((u / 2 : Nat) : Int) ((v / 2 : Nat) : Int) = 1 := by unfold cmpI; rw [if_neg (by omega), if_pos (by omega)]
      have e2 : cmpI (u : Int) v = 1 := by unfold cmpI; rw [if_neg (by omega), if_pos (by omega)]
      rw [e1, e2]; rfl
    · rw [if_pos (cmpI_z.2 (by omega))]
      unfold cmpI
      by_cases h3 : u < v
      · rw [if_pos (by omega), if_pos (by omega)]
      · by_cases h4 : v < u
        · rw [if_neg (by omega), if_pos (by omega), if_neg (by omega), if_pos (by omega)]
        · rw [if_neg (by omega), if_neg (by omega), if_neg (by omega), if_neg (by omega)]
/-- q whole bytes and r bits -/
def wholeC (a b : List UInt8) (q r : Nat) : Int :=
  if Lib.compareBytes (a.take q) (b.take q) = 0 then cmpI ((byteAt a q / 2 ^ (8 - r) : Nat) : Int) ((byteAt b q / 2 ^ (8 - r) : Nat) : Int) else Lib.compareBytes (a.take q) (b.take q)
theorem byteAt_lt (a : List UInt8) (q : Nat) : byteAt a q < 256 := UInt8.toNat_lt _
theorem whole_0 (a b : List UInt8) (q : Nat) : wholeC a b q 0 = Lib.compareBytes (a.take q) (b.take q) := by
  unfold wholeC
  have h1 : byteAt a q / 2 ^ (8 - 0) = 0 := Nat.div_eq_of_lt (byteAt_lt a q)
  have h2 : byteAt b q / 2 ^ (8 - 0) = 0 := Nat.div_eq_of_lt (byteAt_lt b q)
  rw [h1, h2]
  split
  next e => rw [e]; rfl
  next => rfl
theorem whole_8 (a b : List UInt8) (q : Nat) (ha : q < a.length) (hb : q < b.length) : wholeC a b q 8 = wholeC a b (q + 1) 0 := by
  rw [whole_0, List.take_succ_eq_append_getElem ha, List.take_succ_eq_append_getElem hb, cb_snoc _ _ _ _ (by simp; omega)]
  unfold wholeC cmpU byteAt
  rw [getD_in ha, getD_in hb]
  simp
theorem lexN_whole {n : Nat} (a b : List UInt8) (ha : ∀ q, q < n / 8 → q < a.length) (hb : ∀ q, q < n / 8 → q < b.length) : lexN (bitAt a) (bitAt b) n = wholeC a b (n / 8) (n % 8) := by
  induction n with
  | zero => rw [whole_0]; rfl
  | succ n ih =>
    have ih := ih (fun q hq => ha q (by omega)) (fun q hq => hb q (by omega))
    rw [lexN, ih]
    have hs : (if wholeC a b (n / 8) (n % 8) = 0 then cmpI (bitAt a n) (bitAt b n) else wholeC a b (n / 8) (n % 8)) = wholeC a b (n / 8) (n % 8 + 1) := by
      have hbs := bit_step (byteAt a (n / 8)) (byteAt b (n / 8)) (n % 8) (by omega)
      unfold wholeC bitAt
      by_cases e : Lib.compareBytes (a.take (n / 8)) (b.take (n / 8)) = 0
      · rw [if_pos e, if_pos e]; exact hbs
      · rw [if_neg e, if_neg e, if_neg e]
    rw [hs]
    by_cases e : n % 8 = 7
    · rw [show (n + 1) / 8 = n / 8 + 1 by omega, show (n + 1) % 8 = 0 by omega, show n % 8 + 1 = 8 by omega]
      exact whole_8 a b _ (ha _ (by omega)) (hb _ (by omega))
    · rw [show (n + 1) / 8 = n / 8 by omega, show (n + 1) % 8 = n % 8 + 1 by omega]
def bitL (f : TF) : List Int := (List.range f.bits.toNat).map (bitAt f.bytes.data.toList)
structure BitsOK (f : TF) : Prop where
  lo : 0 ≤ f.bits
  hi : f.bits ≤ 16384
  size : (f.bytes.size : Int) = (f.bits + 7) / 8
  last : f.bits % 8 = 0 ∨ lastByte f.bytes % 2 ^ (8 - (f.bits % 8).toNat) = 0
theorem bits_lexN (f1 f2 : TF) (h1 : BitsOK f1) (h2 : BitsOK f2) : bitsC f1 f2 = if lexN (bitAt f1.bytes.data.toList) (bitAt f2.bytes.data.toList) (min f1.bits f2.bits).toNat = 0 then cmpI f1.bits f2.bits else lexN (bitAt f1.bytes.data.toList) (bitAt f2.bytes.data.toList) (min f1.bits f2.bits).toNat := by
  obtain ⟨a1, _, a2, _⟩ := h1
  obtain ⟨b1, _, b2, _⟩ := h2
  have s1 : f1.bytes.data.toList.length = f1.bytes.size := by simp
  have s2 : f2.bytes.data.toList.length = f2.bytes.size := by simp
  rw [lexN_whole _ _ (fun q hq => by omega) (fun q hq => by omega)]
  unfold bitsC wholeC byteAt
  dsimp only
  generalize (min f1.bits f2.bits).toNat = n
  by_cases e : Lib.compareBytes (f1.bytes.data.toList.take (n / 8)) (f2.bytes.data.toList.take (n / 8)) = 0
  · simp only [e, if_true]
    by_cases e0 : n % 8 = 0
    · rw [if_pos e0, e0]
      have h1 : ((f1.bytes.data.toList).getD (n / 8) 0).toNat / 2 ^ (8 - 0) = 0 := Nat.div_eq_of_lt (UInt8.toNat_lt _)
      have h2 : ((f2.bytes.data.toList).getD (n / 8) 0).toNat / 2 ^ (8 - 0) = 0 := Nat.div_eq_of_lt (UInt8.toNat_lt _)
      rw [h1, h2]; rfl
    · rw [if_neg e0]
  · simp only [e, if_false]
theorem bits_lex (f1 f2 : TF) (h1 : BitsOK f1) (h2 : BitsOK f2) : bitsC f1 f2 = lexG cmpI (bitL f1) (bitL f2) := by
  rw [bits_lexN f1 f2 h1 h2]
  unfold bitL
  rw [lexN_lex]
  obtain ⟨a1, _, a2, _⟩ := h1
  obtain ⟨b1, _, b2, _⟩ := h2
  rw [show (min f1.bits f2.bits).toNat = min f1.bits.toNat f2.bits.toNat by omega, Int.toNat_of_nonneg a1, Int.toNat_of_nonneg b1]
theorem bits_range (f1 f2 : TF) : bitsC f1 f2 = -1 ∨ bitsC f1 f2 = 0 ∨ bitsC f1 f2 = 1 := by
  unfold bitsC
  dsimp only
  split
  · split
    · exact cmpI_range _ _
    · split
      · exact cmpI_range _ _
      · exact cmpI_range _ _
  · exact cb_three _ _
theorem bits_anti (f1 f2 : TF) : bitsC f2 f1 = - bitsC f1 f2 := by
  unfold bitsC
  dsimp only
  rw [show min f2.bits f1.bits = min f1.bits f2.bits by omega]
  generalize (min f1.bits f2.bits).toNat = n
  have e1 : Lib.compareBytes (f2.bytes.data.toList.take (n / 8)) (f1.bytes.data.toList.take (n / 8)) = - Lib.compareBytes (f1.bytes.data.toList.take (n / 8)) (f2.bytes.data.toList.take (n / 8)) := by
    rw [cb_lex, cb_lex]; exact lexG_anti tpU.anti _ _
  have e2 := cmpI_anti f1.bits f2.bits
  have e3 := cmpI_anti (((f1.bytes.data.toList.getD (n / 8) 0).toNat / 2 ^ (8 - n % 8) : Nat) : Int) (((f2.bytes.data.toList.getD (n / 8) 0).toNat / 2 ^ (8 - n % 8) : Nat) : Int)
  generalize cmpI (((f1.bytes.data.toList.getD (n / 8) 0).toNat / 2 ^ (8 - n % 8) : Nat) : Int) (((f2.bytes.data.toList.getD (n / 8) 0).toNat / 2 ^ (8 - n % 8) : Nat) : Int) = z at *
  rw [e1, e2, e3]
  split <;> split <;> (try split) <;> (try split) <;> omega
theorem tpBits : TP BitsOK bitsC := by
  refine ⟨bits_range, bits_anti, fun a b d ha hb hd x y => ?_⟩
  rw [bits_lex a b ha hb] at x
  rw [bits_lex b d hb hd] at y
  rw [bits_lex a d ha hd]
  exact tpI.lex.trans _ _ _ (fun _ _ => trivial) (fun _ _ => trivial) (fun _ _ => trivial) x y
theorem last_bits (f : TF) (h : BitsOK f) (h0 : f.bits % 8 ≠ 0) : lastByte f.bytes = byteAt f.bytes.data.toList (f.bits.toNat / 8) := by
  have s1 : f.bytes.data.toList.length = f.bytes.size := by simp
  have := h.size
  have := h.lo
  unfold lastByte byteAt
  have hl : f.bits.toNat / 8 = f.bytes.data.toList.length - 1 := by omega
  rw [hl, List.getLastD_eq_getLast?, List.getLast?_eq_getElem?, ← List.getD_eq_getElem?_getD]
theorem bits_eq (f1 f2 : TF) (h1 : BitsOK f1) (h2 : BitsOK f2) (h : bitsC f1 f2 = 0) : f1.bits = f2.bits ∧ f1.bytes = f2.bytes := by
  have l1 := last_bits f1 h1
  have l2 := last_bits f2 h2
  obtain ⟨a1, a0, a2, a3⟩ := h1
  obtain ⟨b1, b0, b2, b3⟩ := h2
  have s1 : f1.bytes.data.toList.length = f1.bytes.size := by simp
  have s2 : f2.bytes.data.toList.length = f2.bytes.size := by simp
  unfold bitsC at h
  dsimp only at h
  split at h
  next e =>
    have et := cb_eq0 e
    have eb : f1.bits = f2.bits := by
      split at h
      · exact cmpI_z.1 h
      · split at h
        · exact cmpI_z.1 h
        · contradiction
    refine ⟨eb, ?_⟩
    rw [show min f1.bits f2.bits = f1.bits by omega] at et h
    rw [← eb] at b2 b3 l2
    split at h
    next e0 =>
      rw [List.take_of_length_le (by omega), List.take_of_length_le (by omega)] at et
      exact ByteArray.ext (Array.ext' et)
    next e0 =>
      have hp : (f1.bits % 8).toNat = f1.bits.toNat % 8 := by omega
      have hx := a3.resolve_left (by omega)
      have hy := b3.resolve_left (by omega)
      rw [l1 (by omega), hp] at hx
      rw [l2 (by omega), hp] at hy
      split at h
      next e2 =>
        have e3 := cmpI_z.1 e2
        have hbyte : byteAt f1.bytes.data.toList (f1.bits.toNat / 8) = byteAt f2.bytes.data.toList (f1.bits.toNat / 8) := by
          have x1 := Nat.div_add_mod (byteAt f1.bytes.data.toList (f1.bits.toNat / 8)) (2 ^ (8 - f1.bits.toNat % 8))
          have x2 := Nat.div_add_mod (byteAt f2.bytes.data.toList (f1.bits.toNat / 8)) (2 ^ (8 - f1.bits.toNat % 8))
          rw [hx] at x1
          rw [hy] at x2
          have e4 : byteAt f1.bytes.data.toList (f1.bits.toNat / 8) / 2 ^ (8 - f1.bits.toNat % 8) = byteAt f2.bytes.data.toList (f1.bits.toNat / 8) / 2 ^ (8 - f1.bits.toNat % 8) := by unfold byteAt; exact Int.ofNat_inj.1 e3
          rw [← x1, ← x2, e4]
        have q1 : f1.bits.toNat / 8 < f1.bytes.data.toList.length := by omega
        have q2 : f1.bits.toNat / 8 < f2.bytes.data.toList.length := by omega
        have hb2 : f1.bytes.data.toList[f1.bits.toNat / 8] = f2.bytes.data.toList[f1.bits.toNat / 8] := by
          unfold byteAt at hbyte
          rw [getD_in q1, getD_in q2] at hbyte
          exact UInt8.toNat_inj.1 hbyte
        have t1 : f1.bytes.data.toList.take (f1.bits.toNat / 8 + 1) = f1.bytes.data.toList := List.take_of_length_le (by omega)
        have t2 : f2.bytes.data.toList.take (f1.bits.toNat / 8 + 1) = f2.bytes.data.toList := List.take_of_length_le (by omega)
        rw [List.take_succ_eq_append_getElem q1] at t1
        rw [List.take_succ_eq_append_getElem q2] at t2
        refine ByteArray.ext (Array.ext' ?_)
        rw [← t1, ← t2, et, hb2]
      next e2 => exact absurd h e2
  next e => exact absurd h e
end Go.Proofs.YtfbggmbmgohiiaaGreat.tm
