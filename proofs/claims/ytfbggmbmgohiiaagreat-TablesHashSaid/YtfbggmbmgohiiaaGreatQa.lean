/- Several texts in one, one behind the other: TbA, TbB, TbC, TbD, TbE, TbF, TbG, TbH. No condition beyond theirs. -/
import Derived.Test.YtfbggmbmgohiiaaGreatOrC
import Derived.Lib.UnsafeStr
import Derived.Test.YtfbggmbmgohiiaaGreatRec
import Derived.Lib.AppendStr
import Derived.Lib.Builder
import Derived.Lib.OthersKept
import Derived.Deep.RegionHeld3
import Derived.BigRegion
import Derived.Says
import Derived.Deep.LoopGhost
import Derived.Deep.Cut
import Derived.Deep.CutRange
import Derived.Deep.CutBlock
import Derived.Deep.RegionLaw
import Derived.Deep.MidRow
import Derived.StillTailTactics
import Derived.Laws.Cover3
import Derived.Laws.ResultCell
import Derived.Test.YtfbggmbmgohiiaaGreatTnA
import Derived.Test.YtfbggmbmgohiiaaGreatTmS
import Derived.Test.YtfbggmbmgohiiaaGreatTnG
import Derived.Lib.ConvBytes
/- The encoding of a term and its hash as plain functions. No condition. -/
namespace Go.Proofs.YtfbggmbmgohiiaaGreat.tb
open Go.RowKit mem tm names
set_option linter.unusedVariables false
set_option linter.unusedSimpArgs false
def byteOf (x : Int) : UInt8 := UInt8.ofNat (x % 256).toNat
theorem byteOf_nat (x : Int) : ((byteOf x).toNat : Int) = x % 256 := by
  unfold byteOf
  have h : (x % 256).toNat < 256 := by omega
  rw [UInt8.toNat_ofNat_of_lt' (by exact h)]
  omega
theorem wrap8 (x : Int) : IntKind.u8.wrap x = ((byteOf x).toNat : Int) := by
  rw [byteOf_nat]
  unfold IntKind.wrap
  have h1 : IntKind.u8.signed = false := rfl
  have h2 : ((2 : Int) ^ IntKind.u8.bits) = 256 := rfl
  simp only [h1, h2]
  simp
def numB (n : Int) (k : Nat) : List UInt8 := (List.range k).map (fun i => byteOf (n / 256 ^ (k - 1 - i)))
theorem numB_len (n : Int) (k : Nat) : (numB n k).length = k := by simp [numB]
def strB (s : ByteArray) : List UInt8 := s.data.toList
theorem strB_len (s : ByteArray) : (strB s).length = s.size := by simp [strB]
def atomB (s : ByteArray) : List UInt8 := 119 :: byteOf s.size :: strB s
theorem atomB_len (s : ByteArray) : (atomB s).length = s.size + 2 := by simp [atomB, strB_len]
def digB (u : Nat) : List UInt8 := if h : u = 0 then [] else byteOf u :: digB (u / 256)
termination_by u
decreasing_by omega
theorem digB_0 : digB 0 = [] := by rw [digB]; simp
theorem digB_s {u : Nat} (h : u ≠ 0) : digB u = byteOf u :: digB (u / 256) := by rw [digB]; simp [h]
theorem digB_len : ∀ (k u : Nat), u < 256 ^ k → (digB u).length ≤ k := by
  intro k
  induction k with
  | zero => intro u h; obtain rfl : u = 0 := by simpa using h
            rw [digB_0]; simp
  | succ k ih =>
    intro u h
    by_cases h0 : u = 0
    · subst h0; rw [digB_0]; simp
    · rw [digB_s h0]
      have := ih (u / 256) (by rw [Nat.pow_succ] at h; omega)
      simp; omega
theorem u64_rng (n : Int) : 0 ≤ IntKind.u64.wrap n ∧ IntKind.u64.wrap n ≤ 18446744073709551615 := by
  unfold IntKind.wrap
  have h1 : IntKind.u64.signed = false := rfl
  have h2 : ((2 : Int) ^ IntKind.u64.bits) = 18446744073709551616 := rfl
  simp only [h1, h2]
  simp
  omega
def magI (n : Int) : Int := if n < 0 then IntKind.u64.wrap (-IntKind.u64.wrap n) else IntKind.u64.wrap n
def magN (n : Int) : Nat := (magI n).toNat
theorem magN_eq (n : Int) : ((magN n : Nat) : Int) = magI n := by
  unfold magN magI
  have a := u64_rng n
  have b := u64_rng (-IntKind.u64.wrap n)
  split <;> omega
theorem magN_lt (n : Int) : magN n < 256 ^ 8 := by
  show _ < 18446744073709551616
  unfold magN magI
  have a := u64_rng n
  have b := u64_rng (-IntKind.u64.wrap n)
  split <;> omega
def intB (n : Int) : List UInt8 :=
  if 0 ≤ n ∧ n < 256 then [97, byteOf n]
  else if -2147483648 ≤ n ∧ n ≤ 2147483647 then 98 :: numB n 4
  else 110 :: byteOf (digB (magN n)).length :: (if n < 0 then 1 else 0) :: digB (magN n)
def bitsB (f : TF) : List UInt8 :=
  if f.bits.tmod 8 = 0 then 109 :: (numB f.bytes.size 4 ++ strB f.bytes)
  else 77 :: (numB f.bytes.size 4 ++ (byteOf (f.bits.tmod 8) :: strB f.bytes))
/-- what a term's own fields give; m: how many elements it has -/
def headB (f : TF) (m : Nat) : List UInt8 :=
  if f.kind = 1 then intB f.int
  else if f.kind = 2 then atomB f.name
  else if f.kind = 7 then [104, byteOf m]
  else if f.kind = 8 then [106]
  else if f.kind = 9 then 108 :: numB ((m : Int) - 1) 4
  else if f.kind = 10 then bitsB f
  else if f.kind = 6 then 88 :: (atomB f.name ++ (numB f.int 4 ++ (numB 0 4 ++ numB f.gen 4)))
  else if f.kind = 3 then 90 :: 0 :: 1 :: (atomB f.name ++ (numB f.gen 4 ++ numB f.int 4))
  else if f.kind = 5 then 113 :: (atomB f.name ++ (atomB f.func ++ intB f.arity))
  else if f.kind = 4 then 112 :: byteOf f.arity :: (numB f.int 2 ++ (byteOf m :: (atomB f.name ++ numB f.gen 4)))
  else []
def encL : (n : Nat) → List (Tm n) → List UInt8
  | 0, _ => []
  | n + 1, l => l.flatMap (fun t => headB t.f t.items.length ++ encL n t.items)
def encT {n : Nat} (t : Tm (n + 1)) : List UInt8 := headB t.f t.items.length ++ encL n t.items
theorem encL_nil : ∀ n, encL n [] = []
  | 0 => rfl
  | n + 1 => rfl
theorem encL_cons {n : Nat} (t : Tm (n + 1)) (l : List (Tm (n + 1))) : encL (n + 1) (t :: l) = encT t ++ encL (n + 1) l := by simp [encL, encT]
theorem encL_take {n : Nat} (l : List (Tm (n + 1))) (k : Nat) (h : k < l.length) : encL (n + 1) (l.take (k + 1)) = encL (n + 1) (l.take k) ++ encT l[k] := by
  rw [← List.take_append_getElem h]
  unfold encL encT
  rw [List.flatMap_append]
  simp only [List.flatMap_cons, List.flatMap_nil, List.append_nil]
theorem vName_size {s : ByteArray} (h : vName s = true) : s.size ≤ 255 := by
  unfold vName at h
  simp only [Bool.and_eq_true, decide_eq_true_eq] at h
  omega
theorem intB_len (n : Int) : (intB n).length ≤ 11 := by
  unfold intB
  split
  · simp
  · split
    · simp [numB_len]
    · have := digB_len 8 (magN n) (magN_lt n)
      simp; omega
/-- a well-formed term's own part is short -/
theorem headB_len {n : Nat} {t : Tm (n + 1)} (h : formedT t = true) : (headB t.f t.items.length).length ≤ 3000 := by
  obtain ⟨h1, h2, h3, h4⟩ := ft_ok h
  have hi' := intB_len t.f.int
  unfold headB
  unfold okF at h2
  by_cases k1 : t.f.kind = 1
  · rw [if_pos k1]; omega
  by_cases k2 : t.f.kind = 2
  · rw [if_neg k1, if_pos k2, atomB_len]
    simp [k1, k2] at h2
    have := vName_size h2; omega
  by_cases k7 : t.f.kind = 7
  · rw [if_neg k1, if_neg k2, if_pos k7]; simp
  by_cases k8 : t.f.kind = 8
  · rw [if_neg k1, if_neg k2, if_neg k7, if_pos k8]; simp
  by_cases k9 : t.f.kind = 9
  · rw [if_neg k1, if_neg k2, if_neg k7, if_neg k8, if_pos k9]; simp [numB_len]
  by_cases k10 : t.f.kind = 10
  · rw [if_neg k1, if_neg k2, if_neg k7, if_neg k8, if_neg k9, if_pos k10]
    rw [k10] at h2
    simp [okBits, inB] at h2
    have e : (t.f.bytes.size : Int) = (t.f.bits + 7) / 8 := h2.1.2
    have hb := h2.1.1
    unfold bitsB
    split <;> simp [numB_len, strB_len] <;> omega
  by_cases k6 : t.f.kind = 6
  · rw [if_neg k1, if_neg k2, if_neg k7, if_neg k8, if_neg k9, if_neg k10, if_pos k6]
    rw [k6] at h2
    simp at h2
    have := vName_size h2.2.2
    simp [numB_len, atomB_len]; omega
  by_cases k3 : t.f.kind = 3
  · rw [if_neg k1, if_neg k2, if_neg k7, if_neg k8, if_neg k9, if_neg k10, if_neg k6, if_pos k3]
    rw [k3] at h2
    simp at h2
    have := vName_size h2.2.2
    simp [numB_len, atomB_len]; omega
  by_cases k5 : t.f.kind = 5
  · rw [if_neg k1, if_neg k2, if_neg k7, if_neg k8, if_neg k9, if_neg k10, if_neg k6, if_neg k3, if_pos k5]
    rw [k5] at h2
    simp [inB] at h2
    have a := vName_size h2.1
    have b := vName_size h2.2.1
    have c := intB_len t.f.arity
    simp [numB_len, atomB_len]; omega
  by_cases k4 : t.f.kind = 4
  · rw [if_neg k1, if_neg k2, if_neg k7, if_neg k8, if_neg k9, if_neg k10, if_neg k6, if_neg k3, if_neg k5, if_pos k4]
    rw [k4] at h2
    simp at h2
    have := vName_size h2.2.2.1
    simp [numB_len, atomB_len]; omega
  simp [k1, k2, k7, k8, k9, k10, k6, k3, k5, k4]
/-! ### the hash -/
def crcStep (s : Int) : Int := if s % 2 = 1 then bits .xor .u32 (s / 2) 3988292384 else s / 2
def crcN : Nat → Int → Int
  | 0, s => s
  | k + 1, s => crcN k (crcStep s)
def crcB (s : Int) (c : UInt8) : Int := crcN 8 (bits .xor .u32 s c.toNat)
def crcL (l : List UInt8) : Int := l.foldl crcB 4294967295
def hashB (l : List UInt8) : Int := bits .xor .u32 (crcL l) 4294967295
theorem wrapU32 (n : Nat) (h : n < 4294967296) : IntKind.u32.wrap (n : Int) = n := by
  unfold IntKind.wrap
  have h1 : IntKind.u32.signed = false := rfl
  have h2 : ((2 : Int) ^ IntKind.u32.bits) = 4294967296 := rfl
  simp only [h1, h2]
  simp; omega
theorem xor_rng (a b : Int) : 0 ≤ bits .xor .u32 a b ∧ bits .xor .u32 a b ≤ 4294967295 := by
  unfold bits
  dsimp only
  have := (BitVec.ofInt IntKind.u32.bits a ^^^ BitVec.ofInt IntKind.u32.bits b).isLt
  have e : 2 ^ IntKind.u32.bits = 4294967296 := rfl
  rw [wrapU32 _ (by omega)]
  omega
theorem xor_comm (a b : Int) : bits .xor .u32 a b = bits .xor .u32 b a := by unfold bits; simp only [BitVec.xor_comm]
theorem nat32 (a : Int) (h0 : 0 ≤ a) (h1 : a ≤ 4294967295) : (BitVec.ofInt IntKind.u32.bits a).toNat = a.toNat := by
  show (BitVec.ofInt 32 a).toNat = _
  rw [BitVec.toNat_ofInt]
  omega
theorem xor_zero (a : Int) (h0 : 0 ≤ a) (h1 : a ≤ 4294967295) : bits .xor .u32 a 0 = a := by
  unfold bits
  dsimp only
  rw [BitVec.toNat_xor, nat32 a h0 h1, nat32 0 (by decide) (by decide)]
  simp only [Int.toNat_zero, Nat.xor_zero]
  rw [wrapU32 _ (by omega)]
  omega
theorem and_one (a : Int) (h0 : 0 ≤ a) (h1 : a ≤ 4294967295) : bits .and .u32 a 1 = a % 2 := by
  unfold bits
  dsimp only
  rw [BitVec.toNat_and, nat32 a h0 h1, nat32 1 (by decide) (by decide)]
  have e : a.toNat &&& (1 : Int).toNat = a.toNat % 2 := Nat.and_one_is_mod _
  rw [e, wrapU32 _ (by omega)]
  omega
theorem crc_even {s : Int} (h0 : 0 ≤ s) (h1 : s ≤ 4294967295) (h : s % 2 = 0) : bits .xor .u32 (s / 2) 0 = crcStep s := by
  unfold crcStep
  rw [if_neg (by omega), xor_zero _ (by omega) (by omega)]
theorem crc_odd {s : Int} (h : s % 2 = 1) : bits .xor .u32 (s / 2) 3988292384 = crcStep s := by
  unfold crcStep
  rw [if_pos h]
theorem crcStep_rng {s : Int} (h0 : 0 ≤ s) (h1 : s ≤ 4294967295) : 0 ≤ crcStep s ∧ crcStep s ≤ 4294967295 := by
  unfold crcStep
  split
  · exact xor_rng _ _
  · omega
theorem crcN_snoc : ∀ (k : Nat) (s : Int), crcN (k + 1) s = crcStep (crcN k s)
  | 0, s => rfl
  | k + 1, s => by
    show crcN (k + 1) (crcStep s) = _
    rw [crcN_snoc k (crcStep s)]
    rfl
theorem crcN_rng : ∀ (k : Nat) {s : Int}, 0 ≤ s → s ≤ 4294967295 → 0 ≤ crcN k s ∧ crcN k s ≤ 4294967295
  | 0, s, h0, h1 => ⟨h0, h1⟩
  | k + 1, s, h0, h1 => crcN_rng k (crcStep_rng h0 h1).1 (crcStep_rng h0 h1).2
theorem crcL_rng (l : List UInt8) : 0 ≤ crcL l ∧ crcL l ≤ 4294967295 := by
  unfold crcL
  have : ∀ (l : List UInt8) (s : Int), 0 ≤ s → s ≤ 4294967295 → 0 ≤ l.foldl crcB s ∧ l.foldl crcB s ≤ 4294967295 := by
    intro l
    induction l with
    | nil => intro s h0 h1; exact ⟨h0, h1⟩
    | cons c l ih =>
      intro s h0 h1
      have := xor_rng s c.toNat
      have := crcN_rng 8 this.1 this.2
      exact ih _ this.1 this.2
  exact this l _ (by decide) (by decide)
theorem crcL_take (l : List UInt8) (k : Nat) (h : k < l.length) : crcL (l.take (k + 1)) = crcB (crcL (l.take k)) l[k] := by
  unfold crcL
  rw [← List.take_append_getElem h, List.foldl_append]
  rfl
end Go.Proofs.YtfbggmbmgohiiaaGreat.tb
/- The writer of wire: a strings.Builder in a block of the call's own. Conditions: as said. -/
namespace Go.Proofs.YtfbggmbmgohiiaaGreat.tb
open Go.RowKit mem rec tm names
set_option linter.unusedVariables false
set_option linter.unusedSimpArgs false
set_option maxHeartbeats 4000000
set_option maxRecDepth 100000
theorem belowA {B : Nat} {a b : World} (h : Below B a b) (o : Obj) (hB : B ≤ b.heap.size := by omega) : Below B a (b.alloc o) := h.alloc hB o
theorem belowN {B : Nat} {a b : World} (h : Below B a b) (n : Nat) : Below B a (b.drewN n) := ⟨h.os, h.tape, h.output, h.size, h.block⟩
theorem belowD {B : Nat} {a b : World} (h : Below B a b) : Below B a b.drew := ⟨h.os, h.tape, h.output, h.size, h.block⟩
theorem belowCC {w w1 w2 : World} (h : Below w.heap.size w w1) (k : Below w1.heap.size w1 w2) : Below w.heap.size w w2 := h.trans (k.mono h.size)
theorem alloc_new (w : World) (o : Obj) : (w.alloc o).heap[w.heap.size]? = some o := (MapKept.heap_alloc w o).1
def encB (b : UInt8) : List Value := [.int .u8 b.toNat]
theorem encB_ok (l : List UInt8) : EncOK encB 1 l := fun a _ => ⟨rfl, fun u hu => by simp [encB] at hu; subst hu; rfl⟩
theorem encB_flat (l : List UInt8) : l.flatMap encB = Lib.byteCells l := by
  induction l with
  | nil => rfl
  | cons a l ih => rw [List.flatMap_cons, ih]; rfl
theorem info5 : (Tryz.prog.info? 5).map (fun i => (i.zero, i.size, i.bytes)) = some (some (.int .u8 0), 1, 1) := by kernel_rfl
theorem elty_of {sl e s b : Nat} {z : Value} (hu : Tryz.prog.underlying sl = some (.slice e)) (hi : (Tryz.prog.info? e).map (fun i => (i.zero, i.size, i.bytes)) = some (some z, s, b)) (hz : z.cells.size = s) (hs : 0 < s) (hb : b ≤ 10000) : ElTy sl e s := by
  cases hq : Tryz.prog.info? e with
  | none => rw [hq] at hi; simp at hi
  | some i =>
    rw [hq] at hi
    simp only [Option.map_some, Option.some.injEq, Prod.mk.injEq] at hi
    exact ⟨hu, ⟨i, z, hq, hi.1, hi.2.1, hz, by omega⟩, hs⟩
theorem elB : ElTy 86 5 1 := elty_of Tryz.underlying86 info5 rfl (by decide) (by decide)
theorem step_append_rec {α : Type} {enc : α → List Value} {sl e k : Nat} (T : ElTy sl e k) {w : World} {ops : Array Oper} {o : Oper} {a : Act} {K : Act → World → Prop} {Q : Exit → Act → World → Prop} {E : Prop} (hgd : o.guard = none) (x y : Operand)
    (ho : o.op = .call { callee := .builtin .append, args := #[x, y], argTypes := #[sl, sl] }) {base : Nat} {v : Value} {l : List α} (hs : a.eval x = v) (hown : RecOwn enc e k w base v l) (hb : base ≤ w.heap.size)
    {B : Nat} {vx : Value} {xs : List α} (hx : a.eval y = vx) (hrow : RecAt enc k w B vx xs) (hE : EncOK enc k xs) (hn : l.length + xs.length ≤ 1000000000)
    (hK : ∀ v' w', AppR enc e k w base v l xs v' w' → K (a.put o.dst v') w') : if Region.wanted o (yielded ops a.tmps) = true then Oper.wp Tryz.prog o a w K Q else E := by
  have hw : Region.wanted o (yielded ops a.tmps) = true := by simp [Region.wanted, hgd]
  rw [if_pos hw]
  obtain ⟨v', w', hr, h2⟩ := run_append_rec T hown hb o.type hrow hE hn
  unfold Oper.wp execOp
  simp only [ho, resolve, invoke, builtin, Sem.run_bind, Sem.run_pure, Result.andThen_ok, List.map_toArray, List.map_cons, List.map_nil, hs, hx, hr]
  exact hK _ _ h2
/-- a string's bytes appended to a row of the call's own -/
theorem run_append_str {w : World} {base : Nat} {v : Value} {l : List UInt8} (h : RecOwn encB 5 1 w base v l) (hb : base ≤ w.heap.size) (ty : TypeId) (s : ByteArray) (hn : l.length + s.size ≤ 1000000000) :
    ∃ v' w', (Builtin.append_ #[86, 9] ty #[v, .string s]).run Tryz.prog w = .ok v' w' ∧ AppR encB 5 1 w base v l (strB s) v' w' := by
  obtain ⟨i, z, hi, hz, hs, hzs, hby⟩ := elB.info
  have h0 := info5
  rw [hi] at h0
  simp only [Option.map_some, Option.some.injEq, Prod.mk.injEq] at h0
  obtain ⟨hz', hs', hb'⟩ := h0
  have hcells : (strB s).flatMap encB = Lib.strCells s := by rw [encB_flat]; rfl
  have hlen : ((l ++ strB s).flatMap encB).length = (l ++ strB s).length * 1 := flat_len (encB_ok _)
  have hxl : (l.flatMap encB).length = l.length := by simpa using flat_len (encB_ok l)
  have grown : ∀ (old : Nat), old < l.length + s.size → ∀ (vv : Value),
      AppR encB 5 1 w base vv l (strB s) (.slice (some ⟨w.heap.size, 0, none⟩) (l.length + s.size) (grownCap w (l.length + s.size) old 5)) (w.drew.alloc (.cells ((l.flatMap encB).toArray ++ (Lib.strCells s).toArray ++ Builtin.zeroCells (Value.int .u8 0).cells (grownCap w (l.length + s.size) old 5 - (l.length + s.size))) 5)) := by
    intro old ho vv
    have hge := grownCap_ge w (l.length + s.size) old 5
    have hcm : grownCap w (l.length + s.size) old 5 ≤ maxLen := grownCap_le_maxLen w (l.length + s.size) old 5 (by unfold maxLen; omega)
    refine ⟨⟨hlen, .inr ⟨w.heap.size, _, _, by rw [List.length_append, strB_len], hb, (MapKept.heap_alloc w.drew _).1, by rw [List.length_append, strB_len]; exact hge, hcm, ?_, ?_⟩⟩, ⟨rfl, rfl, rfl, by simp, fun k hk _ => Below.heap_alloc _ _ _ hk⟩, .inr rfl⟩
    · have hz1 : (Value.int IntKind.u8 0).cells.size = 1 := rfl
      simp only [Array.size_append, List.size_toArray, size_zeroCells, hz1, hxl, Lib.strCells_length]
      omega
    · simp only [Array.toList_append, List.append_assoc]
      rw [← List.append_assoc, ← hlen, List.flatMap_append, hcells]
      exact List.take_left
  rcases h.2 with ⟨rfl, h00⟩ | ⟨g, cap, cur, rfl, hbg, hg, hnc, hcm, hcs, htake⟩
  · obtain rfl := List.eq_nil_of_length_eq_zero h00
    by_cases hm : s.size = 0
    · have hn0 : strB s = [] := List.eq_nil_of_length_eq_zero (by rw [strB_len]; exact hm)
      refine ⟨.slice none 0 0, w, ?_, by rw [hn0]; exact h, ⟨rfl, rfl, rfl, Nat.le_refl _, fun _ _ _ => rfl⟩, .inl rfl⟩
      have hf := Lib.run_firstCells_string (P := Tryz.prog) w 1 s
      rw [hm] at hf
      have hn1 : Lib.strCells s = [] := List.eq_nil_of_length_eq_zero (by rw [Lib.strCells_length]; exact hm)
      simp [Builtin.append_, run_underlying Tryz.underlying86, run_underlying Tryz.underlying9, sizeOf, typeInfo, hi, hs', Builtin.lenOf, hm, hf]
    · have hr := run_append_nil_string (P := Tryz.prog) w 86 9 ty 5 i (.int .u8 0) Tryz.underlying86 Tryz.underlying9 hi hz' s (by omega) (by simp at hn; omega) (by rw [hb']; simp at hn; omega)
      have hgr := grown 0 (by simp; omega) (.slice none 0 0)
      simp only [List.length_nil, Nat.zero_add, List.flatMap_nil, Array.empty_append] at hgr
      have e1 : (s.data.map fun b => Value.int .u8 b.toNat) = (Lib.strCells s).toArray := by
        apply Array.ext'
        simp [Lib.strCells]
      rw [e1] at hr
      exact ⟨_, _, hr, by simpa using hgr⟩
  · by_cases hroom : l.length + s.size ≤ cap
    · have hcs' : cur.size = cap := by simpa using hcs
      have hr := Lib.run_append_room_string (P := Tryz.prog) w 86 9 ty 5 i Tryz.underlying86 Tryz.underlying9 hi hs' g l.length cap cur hg s hroom (by omega)
      refine ⟨_, _, hr, ⟨hlen, .inr ⟨g, cap, _, by rw [List.length_append, strB_len], hbg, setRow_heap w g cur _ 5 _ hg, by rw [List.length_append, strB_len]; exact hroom, hcm, ?_, ?_⟩⟩, ⟨rfl, rfl, rfl, by simp, fun k _ hk => setRow_other w g k _ (fun e => hk (by simp [Value.ownBlock, e]))⟩, .inl rfl⟩
      · simp only [List.size_toArray, List.length_append, List.length_take, List.length_drop, Array.length_toList, Lib.strCells_length]
        omega
      · have ht' : cur.toList.take l.length = l.flatMap encB := by simpa using htake
        rw [ht', ← hlen, List.flatMap_append, hcells]
        exact List.take_left
    · have holds : ∀ j u, (l.flatMap encB)[j]? = some u → w.cell? ((⟨g, 0, none⟩ : Addr).add j) = some u := h.cells (g := g) rfl
      have hr := Lib.run_append_grow_string (P := Tryz.prog) w 86 9 ty 5 i (.int .u8 0) Tryz.underlying86 Tryz.underlying9 hi hz' ⟨g, 0, none⟩ l.length cap (l.flatMap encB) (by rw [hs']; simpa using hxl) holds s (by omega) (by omega) (by rw [hb']; exact growslice_fits (by omega) (by omega))
      exact ⟨_, _, hr, grown cap (by omega) _⟩
theorem wpList_append_str {w : World} {ops : Array Oper} {rest : List Oper} {o : Oper} {a : Act} {Q : Exit → Act → World → Prop} (hgd : o.guard = none) (x y : Operand)
    (ho : o.op = .call { callee := .builtin .append, args := #[x, y], argTypes := #[86, 9] }) {base : Nat} {v : Value} {l : List UInt8} (hs : a.eval x = v) (hown : RecOwn encB 5 1 w base v l) (hb : base ≤ w.heap.size)
    {s : ByteArray} (hx : a.eval y = .string s) (hn : l.length + s.size ≤ 1000000000)
    (h : ∀ v' w', AppR encB 5 1 w base v l (strB s) v' w' → wpList Tryz.prog ops Q rest (a.put o.dst v') w') : wpList Tryz.prog ops Q (o :: rest) a w := by
  refine wpList_plain hgd fun K hK => ?_
  obtain ⟨v', w', hr, h2⟩ := run_append_str hown hb o.type s hn
  unfold Oper.wp execOp
  simp only [ho, resolve, invoke, builtin, Sem.run_bind, Sem.run_pure, Result.andThen_ok, List.map_toArray, List.map_cons, List.map_nil, hs, hx, hr]
  exact hK _ _ (h v' w' h2)
theorem recTouch {α : Type} {enc : α → List Value} {s : Nat} {S : Nat → Prop} {w w1 : World} {B : Nat} {v : Value} {l : List α} (h : RecAt enc s w B v l) (ht : TouchB S w w1) (hB : B ≤ w.heap.size) (hn : ∀ g, v.ownBlock = some g → ¬ S g) : RecAt enc s w1 B v l := by
  obtain ⟨p, c, rfl, h1, h2, h3⟩ := h
  refine ⟨p, c, rfl, h1, h2, fun hne => ?_⟩
  obtain ⟨g, o, rfl, hg, hc⟩ := h3 hne
  exact ⟨g, o, rfl, hg, fun j a hj k u hu => (World.cell?_of_block (w := w) (w' := w1) (a := ⟨g, o + (j * s + k), none⟩) (ht.block g (by omega) (hn g rfl))).trans (hc j a hj k u hu)⟩
/-- a writer in block b: the bytes so far; v: its slice -/
structure WrAt (w : World) (B b : Nat) (v : Value) (l : List UInt8) : Prop where
  obj : ∃ p, (p = .pointer none ∨ p = .pointer (some ⟨b, 0, none⟩)) ∧ w.heap[b]? = some (.cells #[p, v] 120)
  row : RecOwn encB 5 1 w B v l
  ne : v.ownBlock ≠ some b
  hb : B ≤ b
theorem WrAt.lt {w : World} {B b : Nat} {v : Value} {l : List UInt8} (h : WrAt w B b v l) : b < w.heap.size := by
  obtain ⟨p, _, h⟩ := h.obj
  exact (Array.getElem?_eq_some_iff.1 h).1
theorem WrAt.same {w w' : World} {B b : Nat} {v : Value} {l : List UInt8} (h : WrAt w B b v l) (h1 : w'.heap[b]? = w.heap[b]?) (h2 : ∀ k, v.ownBlock = some k → w'.heap[k]? = w.heap[k]?) : WrAt w' B b v l := by
  obtain ⟨p, hp, ho⟩ := h.obj
  exact ⟨⟨p, hp, h1.trans ho⟩, h.row.same h2, h.ne, h.hb⟩
theorem WrAt.below {w w' : World} {B b : Nat} {v : Value} {l : List UInt8} (h : WrAt w B b v l) (hb : Below w.heap.size w w') : WrAt w' B b v l := h.same (hb.block _ h.lt) (fun k hk => hb.block k (h.row.lt hk).2)
/-- what a writer's method leaves: the old world but for the writer's block and its row -/
structure WrS (b : Nat) (v v' : Value) (w w' : World) : Prop where
  touch : TouchB (fun k => k = b ∨ v.ownBlock = some k) w w'
  place : ∀ k, v'.ownBlock = some k → v.ownBlock = some k ∨ w.heap.size ≤ k
theorem WrS.refl (b : Nat) (v : Value) (w : World) : WrS b v v w w := ⟨TouchB.refl _ _, fun k h => .inl h⟩
theorem WrS.trans {b : Nat} {v v' v'' : Value} {w w' w'' : World} (h : WrS b v v' w w') (k : WrS b v' v'' w' w'') : WrS b v v'' w w'' :=
  ⟨h.touch.trans k.touch (fun i hi hs => by
    rcases hs with rfl | hs
    · exact .inl rfl
    · rcases h.place i hs with h1 | h1
      · exact .inr h1
      · omega), fun i hi => by
    rcases k.place i hi with h1 | h1
    · exact h.place i h1
    · exact .inr (Nat.le_trans h.touch.size h1)⟩
/-- what lies between the calls: memory of the caller's own is made -/
theorem WrS.grow {b : Nat} {v v' : Value} {w w1 w' : World} (hb : Below w.heap.size w w1) (h : WrS b v v' w1 w') : WrS b v v' w w' :=
  ⟨((TouchB.refl _ w).ofBelow hb (Nat.le_refl _)).trans h.touch (fun i _ hs => hs), fun k hk => by
    rcases h.place k hk with h1 | h1
    · exact .inl h1
    · exact .inr (Nat.le_trans hb.size h1)⟩
theorem WrS.after {b : Nat} {v v' : Value} {w w1 w' : World} (h : WrS b v v' w w1) (hb : Below w1.heap.size w1 w') : WrS b v v' w w' :=
  ⟨h.touch.ofBelow hb h.touch.size, h.place⟩
/-- a block that is not the writer's stays -/
theorem WrS.other {b : Nat} {v v' : Value} {w w' : World} (h : WrS b v v' w w') {k : Nat} (hk : k < w.heap.size) (h1 : k ≠ b) (h2 : v.ownBlock ≠ some k) : w'.heap[k]? = w.heap[k]? :=
  h.touch.block k hk (fun e => by rcases e with e | e; exact h1 e; exact h2 e)
theorem WrS.low {b B : Nat} {v v' : Value} {w w' : World} (h : WrS b v v' w w') (hb : B ≤ b) (hv : ∀ k, v.ownBlock = some k → B ≤ k) (hB : B ≤ w.heap.size) : Below B w w' :=
  h.touch.below (fun k hk => by rcases hk with rfl | hk; exact hb; exact hv k hk) hB
/-- a method's outcome -/
def WrQ (B b : Nat) (v : Value) (l : List UInt8) (w w' : World) : Prop := ∃ v', WrAt w' B b v' l ∧ WrS b v v' w w'
theorem two_cells {w : World} {z : Nat} {a b : Value} {t : TypeId} (h : w.heap[z]? = some (.cells #[a, b] t)) : w.cell? ⟨z, 0, none⟩ = some a ∧ w.cell? ⟨z, 1, none⟩ = some b ∧ ∀ o, w.frozen? ⟨z, o, none⟩ = false := by
  refine ⟨?_, ?_, fun o => ?_⟩
  · simp only [World.cell?, h]; rfl
  · simp only [World.cell?, h]; rfl
  · simp only [World.frozen?, h]; simp
theorem lies120 : liesAt Tryz.prog Tryz.prog.depth 120 (2 / Tryz.prog.cellsOf 120) 0 118 1 = true := by kernel_rfl
theorem size118 : (Tryz.prog.info? 118).map (·.size) = some 2 := by kernel_rfl
theorem copy122 {w : World} {B b : Nat} {v : Value} {l : List UInt8} (h : WrAt w B b v l) : Calls Tryz.prog 122 #[.pointer (some ⟨b, 0, none⟩)] w fun e w' => e = .returned (.tuple #[]) ∧ w'.heap[b]? = some (.cells #[.pointer (some ⟨b, 0, none⟩), v] 120) ∧ TouchB (fun k => k = b) w w' ∧ w'.heap.size = w.heap.size := by
  obtain ⟨j, hj, hjs⟩ := Option.map_eq_some_iff.1 size118
  obtain ⟨p, hp, ho⟩ := h.obj
  clear h
  obtain ⟨c0, c1, cf⟩ := two_cells ho
  have hsh : w.shape? b = some (120, 2) := by simp [World.shape?, ho]
  have HO := Lib.hid ho
  clear ho
  rcases hp with rfl | rfl
  · go_enter Tryz.func122, Tryz.ntmps122
    go_wp2
    rw [Lib.run_to_unsafe w ⟨b, 0, none⟩ Tryz.underlying116 Tryz.underlying166 hj (by rw [hjs]; decide) hsh (Nat.zero_lt_succ 1)]
    simp only [Result.andThen]
    rw [Oper.upon_value]
    go_wp2
    rw [run_callFunc_extern Tryz.func137 (by kernel_rfl) (by kernel_rfl) (by kernel_rfl) (e := Extern.AbiNoEscape.same) (by kernel_rfl)]
    rw [Lib.run_noEscape]
    simp only [Result.andThen]
    rw [Oper.upon_value]
    go_wp2
    rw [Lib.run_from_unsafe w ⟨b, 0, none⟩ Tryz.underlying166 Tryz.underlying116 hj hsh lies120]
    simp only [Result.andThen]
    rw [Oper.upon_value]
    go_wp2
    go_end0
    exact ⟨rfl, heap_setCell_same w b 0 _ 120 _ HO.out, (TouchB.refl _ w).setCell ⟨b, 0, none⟩ _ (fun _ => rfl), by simp⟩
  · go_enter Tryz.func122, Tryz.ntmps122
    go_wp2
    rw [Lib.run_neq_ptr_same w _ Tryz.underlying116 hj]
    go_wp2
    go_end0
    exact ⟨rfl, HO.out, TouchB.refl _ _, rfl⟩
end Go.Proofs.YtfbggmbmgohiiaaGreat.tb
/- The writer's methods: Write, WriteString, bytes, number, atom. Conditions: as said. -/
namespace Go.Proofs.YtfbggmbmgohiiaaGreat.tb
open Go.RowKit mem rec tm names
set_option linter.unusedVariables false
set_option linter.unusedSimpArgs false
set_option maxHeartbeats 4000000
set_option maxRecDepth 100000
/-- what is left of a call of Write -/
theorem wr_done {w w1 w2 : World} {B b : Nat} {v v' : Value} {l xs : List UInt8} (h : WrAt w B b v l) (h1 : w1.heap[b]? = some (.cells #[.pointer (some ⟨b, 0, none⟩), v] 120)) (ht : TouchB (fun k => k = b) w w1) (hs : w1.heap.size = w.heap.size) (hA : AppR encB 5 1 w1 B v l xs v' w2) : WrQ B b v (l ++ xs) w (w2.setCell ⟨b, 1, none⟩ v') := by
  have hlt := h.lt
  have hb2 : w2.heap[b]? = some (.cells #[.pointer (some ⟨b, 0, none⟩), v] 120) := (hA.other (by omega) h.ne).trans h1
  have hne' : v'.ownBlock ≠ some b := hA.place (by omega) h.ne
  refine ⟨v', ⟨⟨_, .inr rfl, heap_setCell_same w2 b 1 _ 120 v' hb2⟩, hA.own.same (fun k hk => Below.heap_setCell _ _ _ _ (fun e => hne' (by rw [hk]; exact congrArg some e))), hne', h.hb⟩, ?_, ?_⟩
  · refine TouchB.setCell ?_ ⟨b, 1, none⟩ _ (fun _ => .inl rfl)
    refine TouchB.trans (ht.mono (fun i _ e => .inl e)) (hA.touch (TouchB.refl (fun k => v.ownBlock = some k) w1) (fun k hk _ => hk)) (fun i _ e => .inr e)
  · intro k hk
    rcases hA.at_ with e | e
    · exact .inl (e ▸ hk)
    · rw [e] at hk
      have := Option.some.inj hk
      exact .inr (by omega)
theorem write98 {w : World} {B b : Nat} {v : Value} {l : List UInt8} (h : WrAt w B b v l) (hB : B ≤ w.heap.size) {xs : List UInt8} {vx : Value} (hx : RecAt encB 1 w w.heap.size vx xs) (hxb : vx.ownBlock ≠ some b) (hn : l.length + xs.length ≤ 1000000000) :
    Calls Tryz.prog 98 #[.pointer (some ⟨b, 0, none⟩), vx] w fun e w' => e = .returned (.tuple #[.int .i64 xs.length, .nilIface]) ∧ WrQ B b v (l ++ xs) w w' := by
  have HC := Lib.hid (copy122 h)
  have H0 := Lib.hid h
  have HX := Lib.hid (fun (w1 : World) (h1 : TouchB (fun k => k = b) w w1) => recTouch hx h1 (Nat.le_refl _) (fun g hg e => hxb (by rw [hg, e])))
  obtain ⟨px, cx, rfl, _, _⟩ := hx.shape
  obtain ⟨pv, cv, rfl, _, _⟩ := h.row.shape
  clear h hx
  go_enter Tryz.func98, Tryz.ntmps98
  go_wp2_with fail
  refine HC.out.mono ?_
  rintro e w1 ⟨rfl, h1, ht, hs⟩
  obtain ⟨c0, c1, cf⟩ := two_cells h1
  have HT := Lib.hid ht
  have H1 := Lib.hid h1
  have HS := Lib.hid hs
  have hrow : RecOwn encB 5 1 w1 B (.slice pv l.length cv) l := H0.out.row.same (fun k hk => HT.out.block k (H0.out.row.lt hk).2 (fun e => H0.out.ne (by rw [hk, e])))
  have HR := Lib.hid hrow
  have hB1 : B ≤ w1.heap.size := by omega
  have HX1 := Lib.hid (HX.out w1 ht)
  clear h1 ht hs hrow
  go_wp2_with (first
    | (refine wpList_append_rec elB rfl (.tmp 12) (.tmp 13) rfl rfl HR.out hB1 rfl HX1.out (encB_ok _) hn ?_; intro v' w2 hA; obtain ⟨ao', cap', hv, _, _⟩ := hA.own.shape; rw [List.length_append] at hv; subst hv; have HA : Hid (AppR encB 5 1 w1 B (.slice pv l.length cv) l xs (.slice ao' (l.length + xs.length) cap') w2) := Lib.hid hA; clear hA; obtain ⟨d0, d1, df⟩ := two_cells ((HA.out.other (by have := H0.out.lt; have := HS.out; omega) H0.out.ne).trans H1.out)))
  go_ret2
  exact ⟨rfl, wr_done H0.out H1.out HT.out HS.out HA.out⟩
theorem writeS102 {w : World} {B b : Nat} {v : Value} {l : List UInt8} (h : WrAt w B b v l) (hB : B ≤ w.heap.size) (s : ByteArray) (hn : l.length + s.size ≤ 1000000000) :
    Calls Tryz.prog 102 #[.pointer (some ⟨b, 0, none⟩), .string s] w fun e w' => e = .returned (.tuple #[.int .i64 s.size, .nilIface]) ∧ WrQ B b v (l ++ strB s) w w' := by
  have HC := Lib.hid (copy122 h)
  have H0 := Lib.hid h
  obtain ⟨pv, cv, rfl, _, _⟩ := h.row.shape
  clear h
  go_enter Tryz.func102, Tryz.ntmps102
  go_wp2_with fail
  refine HC.out.mono ?_
  rintro e w1 ⟨rfl, h1, ht, hs⟩
  obtain ⟨c0, c1, cf⟩ := two_cells h1
  have HT := Lib.hid ht
  have H1 := Lib.hid h1
  have HS := Lib.hid hs
  have hrow : RecOwn encB 5 1 w1 B (.slice pv l.length cv) l := H0.out.row.same (fun k hk => HT.out.block k (H0.out.row.lt hk).2 (fun e => H0.out.ne (by rw [hk, e])))
  have HR := Lib.hid hrow
  have hB1 : B ≤ w1.heap.size := by omega
  clear h1 ht hs hrow
  go_wp2_with (first
    | (refine wpList_append_str rfl (.tmp 12) (.tmp 13) rfl rfl HR.out hB1 rfl hn ?_; intro v' w2 hA; obtain ⟨ao', cap', hv, _, _⟩ := hA.own.shape; rw [List.length_append, strB_len] at hv; subst hv; have HA : Hid (AppR encB 5 1 w1 B (.slice pv l.length cv) l (strB s) (.slice ao' (l.length + s.size) cap') w2) := Lib.hid hA; clear hA; obtain ⟨d0, d1, df⟩ := two_cells ((HA.out.other (by have := H0.out.lt; have := HS.out; omega) H0.out.ne).trans H1.out)))
  go_ret2
  exact ⟨rfl, wr_done H0.out H1.out HT.out HS.out HA.out⟩
theorem bytes77 {w : World} {B b : Nat} {v : Value} {l : List UInt8} (h : WrAt w B b v l) (hB : B ≤ w.heap.size) {xs : List UInt8} {vx : Value} (hx : RecAt encB 1 w w.heap.size vx xs) (hxb : vx.ownBlock ≠ some b) (hn : l.length + xs.length ≤ 1000000000) :
    Calls Tryz.prog 77 #[.pointer (some ⟨b, 0, none⟩), vx] w fun e w' => e = .returned (.tuple #[]) ∧ WrQ B b v (l ++ xs) w w' := by
  have HC := Lib.hid (write98 h hB hx hxb hn)
  obtain ⟨px, cx, rfl, _, _⟩ := hx.shape
  clear h hx hB hn hxb
  go_enter Tryz.func77, Tryz.ntmps77
  go_wp2_with fail
  refine HC.out.mono ?_
  rintro e w1 ⟨rfl, hq⟩
  have HQ := Lib.hid hq
  clear hq
  go_wp2_with fail
  go_end0
  exact ⟨rfl, HQ.out⟩
/-- bytes that the caller has just laid -/
def oneRow (w : World) (xs : List UInt8) : World := w.alloc (.cells (xs.flatMap encB).toArray 5)
theorem row_new (w : World) (xs : List UInt8) (c : Nat) (h : xs.length ≤ c) (hc : c ≤ maxLen) : RecAt encB 1 (w.alloc (.cells (xs.flatMap encB).toArray 5)) (w.alloc (.cells (xs.flatMap encB).toArray 5)).heap.size (.slice (some ⟨w.heap.size, 0, none⟩) xs.length c) xs := by
  have := RecAt.fresh (encB_ok xs) (by decide) (alloc_new w (.cells (xs.flatMap encB).toArray 5)) h hc
  rwa [World.size_alloc]
/-- bytes of a fresh row of literal bytes -/
theorem bytesN {w : World} {B b : Nat} {v : Value} {l : List UInt8} (h : WrAt w B b v l) (hB : B ≤ w.heap.size) (xs : List UInt8) (k : Nat) (hk : xs.length = k) (hn : l.length + k ≤ 1000000000) :
    Calls Tryz.prog 77 #[.pointer (some ⟨b, 0, none⟩), .slice (some ⟨w.heap.size, 0, none⟩) k k] (w.alloc (.cells (xs.flatMap encB).toArray 5)) fun e w' => e = .returned (.tuple #[]) ∧ WrQ B b v (l ++ xs) w w' := by
  subst hk
  have hb := belowA (Below.refl w.heap.size w) (.cells (xs.flatMap encB).toArray 5) (Nat.le_refl _)
  refine (bytes77 (h.below hb) (Nat.le_trans hB hb.size) (row_new w xs xs.length (Nat.le_refl _) (by unfold maxLen; omega)) (fun e => by
    have e' : w.heap.size = b := Option.some.inj e
    have := h.lt
    omega) hn).mono ?_
  rintro e w' ⟨rfl, v', h1, h2⟩
  exact ⟨rfl, v', h1, h2.grow hb⟩
end Go.Proofs.YtfbggmbmgohiiaaGreat.tb
/- The writer's methods: number, atom. Conditions: as said. -/
namespace Go.Proofs.YtfbggmbmgohiiaaGreat.tb
open Go.RowKit mem rec tm names
set_option linter.unusedVariables false
set_option linter.unusedSimpArgs false
set_option maxHeartbeats 4000000
set_option maxRecDepth 100000
theorem atom100 {w : World} {B b : Nat} {v : Value} {l : List UInt8} (h : WrAt w B b v l) (hB : B ≤ w.heap.size) (s : ByteArray) (hn : l.length + (s.size + 2) ≤ 1000000000) :
    Calls Tryz.prog 100 #[.pointer (some ⟨b, 0, none⟩), .string s] w fun e w' => e = .returned (.tuple #[]) ∧ WrQ B b v (l ++ atomB s) w w' := by
  have hq := bytesN h hB [119, byteOf s.size] 2 rfl (by omega)
  have e : ([119, byteOf s.size].flatMap encB).toArray = #[.int .u8 119, .int .u8 (IntKind.u8.wrap s.size)] := by rw [wrap8]; rfl
  rw [e] at hq
  have HQ := Lib.hid hq
  clear e hq
  go_enter Tryz.func100, Tryz.ntmps100
  go_wp2_with fail
  refine HQ.out.mono ?_
  rintro e w1 ⟨rfl, v1, h1, hs1⟩
  have HW := Lib.hid (writeS102 h1 (Nat.le_trans hB hs1.touch.size) s (by simp; omega))
  have HS1 := Lib.hid hs1
  clear hs1 h1
  go_wp2_with fail
  refine HW.out.mono ?_
  rintro e w2 ⟨rfl, hq⟩
  have HQ2 := Lib.hid hq
  clear hq
  go_wp2_with fail
  go_end0
  obtain ⟨v2, h2, hs2⟩ := HQ2.out
  refine ⟨rfl, v2, ?_, HS1.out.trans hs2⟩
  have : l ++ atomB s = l ++ [119, byteOf s.size] ++ strB s := by simp [atomB]
  rw [this]
  exact h2
def NumI (B b : Nat) (v : Value) (l : List UInt8) (n : Int) (k : Nat) (w : World) (m : Nat) (iv : Value) (wr : World) : Prop := ∃ j : Nat, j ≤ k ∧ iv = .int .i64 ((j : Int) - 1) ∧ m = j ∧ WrQ B b v (l ++ (numB n k).take (k - j)) w wr
theorem num_next (n : Int) (k j : Nat) (h0 : 0 < j) (h : j ≤ k) : (numB n k).take (k - (j - 1)) = (numB n k).take (k - j) ++ [byteOf (n / 256 ^ (j - 1))] := by
  have hl : k - j < (numB n k).length := by rw [numB_len]; omega
  rw [show k - (j - 1) = k - j + 1 by omega, ← List.take_append_getElem hl]
  congr 2
  simp only [numB, List.getElem_map, List.getElem_range]
  rw [show k - 1 - (k - j) = j - 1 by omega]
theorem number101 {w : World} {B b : Nat} {v : Value} {l : List UInt8} (h : WrAt w B b v l) (hB : B ≤ w.heap.size) (n : Int) (k : Nat) (hk : k ≤ 8) (hn : l.length + k ≤ 1000000000) :
    Calls Tryz.prog 101 #[.pointer (some ⟨b, 0, none⟩), .int .i64 n, .int .i64 k] w fun e w' => e = .returned (.tuple #[]) ∧ WrQ B b v (l ++ numB n k) w w' := by
  have H00 : Hid (NumI B b v l n k w k (.int .i64 ((k : Int) - 1)) w) := Lib.hid ⟨k, Nat.le_refl _, rfl, rfl, v, by rw [Nat.sub_self, List.take_zero, List.append_nil]; exact h, WrS.refl _ _ _⟩
  have hw0 : IntKind.i64.wrap ((k : Int) - 1) = (k : Int) - 1 := IntWalk.i64_in _ (by omega)
  clear h
  go_enter Tryz.func101, Tryz.ntmps101
  go_wp2_with fail
  go_loopg [6] k (fun m iv wr => Hid (NumI B b v l n k w m iv wr))
  case atStart => exact H00
  case round =>
    obtain ⟨j, hj, rfl, hm, v1, h1, hs1⟩ := hrel.out
    clear hrel H00
    have HM := Lib.hid hm
    have H1 := Lib.hid h1
    have HS1 := Lib.hid hs1
    clear hm
    by_cases h0 : 0 < j
    · have hge : (0 : Int) ≤ (j : Int) - 1 := by omega
      have hq := bytesN h1 (Nat.le_trans hB hs1.touch.size) [byteOf (n / 256 ^ (j - 1))] 1 rfl (by simp; omega)
      have e0 : (256 : Int) ^ (j - 1) = 2 ^ (8 * (j - 1)) := by rw [Int.pow_mul]; rfl
      have e : ([byteOf (n / 256 ^ (j - 1))].flatMap encB).toArray = #[.int .u8 (n / 2 ^ (8 * (j - 1)) % 256)] := by
        rw [← e0, ← byteOf_nat]
        rfl
      rw [e] at hq
      have HQ := Lib.hid hq
      clear e hq
      have HE := Lib.hid e0
      clear e0 h1 hs1
      go_wp2_with fail
      refine HQ.out.mono ?_
      rintro e w2 ⟨rfl, hq2⟩
      have HQ2 := Lib.hid hq2
      clear hq2
      have hw1 : IntKind.i64.wrap ((j : Int) - 1 - 1) = (j : Int) - 1 - 1 := IntWalk.i64_in _ (by omega)
      go_wp2_with fail
      go_roundg (j - 1)
      case measure => have := HM.out; omega
      case rel =>
        refine Lib.hid ⟨j - 1, by omega, by congr 1; omega, rfl, ?_⟩
        obtain ⟨v2, h2, hs2⟩ := HQ2.out
        refine ⟨v2, ?_, HS1.out.trans hs2⟩
        rw [num_next n k j h0 hj, ← List.append_assoc]
        exact h2
    · obtain rfl : j = 0 := by omega
      go_wp2_with fail
      go_end0
      refine ⟨rfl, v1, ?_, HS1.out⟩
      have h2 := H1.out
      rw [Nat.sub_zero, show (numB n k).take k = numB n k from List.take_of_length_le (by rw [numB_len]; exact Nat.le_refl _)] at h2
      exact h2
end Go.Proofs.YtfbggmbmgohiiaaGreat.tb
/- The writer's method integer. Conditions: as said. -/
namespace Go.Proofs.YtfbggmbmgohiiaaGreat.tb
open Go.RowKit mem rec tm names
set_option linter.unusedVariables false
set_option linter.unusedSimpArgs false
set_option maxHeartbeats 4000000
set_option maxRecDepth 100000
def DigI (N : Nat) (w : World) (m : Nat) (uv lv : Value) (wr : World) : Prop := ∃ (u : Nat) (l0 : List UInt8), uv = .int .u64 (u : Int) ∧ u ≤ 18446744073709551615 ∧ m = u ∧ RecOwn encB 5 1 wr w.heap.size lv l0 ∧ digB N = l0 ++ digB u ∧ Below w.heap.size w wr
theorem WrQ.step {B b : Nat} {v : Value} {l xs : List UInt8} {w w1 w2 : World} (h : WrQ B b v l w w1) (k : ∀ v1, WrAt w1 B b v1 l → WrS b v v1 w w1 → WrQ B b v1 (l ++ xs) w1 w2) : WrQ B b v (l ++ xs) w w2 := by
  obtain ⟨v1, h1, hs1⟩ := h
  obtain ⟨v2, h2, hs2⟩ := k v1 h1 hs1
  exact ⟨v2, h2, hs1.trans hs2⟩
theorem intSmall {w : World} {B b : Nat} {v : Value} {l : List UInt8} (h : WrAt w B b v l) (hB : B ≤ w.heap.size) (n : Int) (h0 : 0 ≤ n) (h1 : n < 256) (hn : l.length + 11 ≤ 1000000000) :
    Calls Tryz.prog 99 #[.pointer (some ⟨b, 0, none⟩), .int .i64 n] w fun e w' => e = .returned (.tuple #[]) ∧ WrQ B b v (l ++ intB n) w w' := by
  have hq := bytesN h hB [97, byteOf n] 2 rfl (by omega)
  have e : ([97, byteOf n].flatMap encB).toArray = #[.int .u8 97, .int .u8 (n % 256)] := by rw [← byteOf_nat]; rfl
  have e2 : intB n = [97, byteOf n] := by unfold intB; rw [if_pos ⟨h0, h1⟩]
  have e3 : n % 256 = n := by omega
  rw [e, e3] at hq
  rw [e2]
  have HQ := Lib.hid hq
  clear e e2 hq e3
  go_enter Tryz.func99, Tryz.ntmps99
  go_wp2_with fail
  refine HQ.out.mono ?_
  rintro e w1 ⟨rfl, hq⟩
  have HQ1 := Lib.hid hq
  clear hq
  go_wp2_with fail
  go_end0
  exact ⟨rfl, HQ1.out⟩
theorem intMid {w : World} {B b : Nat} {v : Value} {l : List UInt8} (h : WrAt w B b v l) (hB : B ≤ w.heap.size) (n : Int) (hs : ¬ (0 ≤ n ∧ n < 256)) (h0 : -2147483648 ≤ n) (h1 : n ≤ 2147483647) (hn : l.length + 11 ≤ 1000000000) :
    Calls Tryz.prog 99 #[.pointer (some ⟨b, 0, none⟩), .int .i64 n] w fun e w' => e = .returned (.tuple #[]) ∧ WrQ B b v (l ++ intB n) w w' := by
  have hq := bytesN h hB [98] 1 rfl (by omega)
  have e : (([98] : List UInt8).flatMap encB).toArray = #[.int .u8 98] := rfl
  have e2 : intB n = [98] ++ numB n 4 := by unfold intB; rw [if_neg hs, if_pos ⟨h0, h1⟩]; rfl
  rw [e] at hq
  rw [e2]
  have HQ := Lib.hid hq
  clear e e2 hq
  by_cases c1 : 0 ≤ n
  all_goals
    go_enter Tryz.func99, Tryz.ntmps99
    go_wp2_with fail
    refine HQ.out.mono ?_
    rintro e w1 ⟨rfl, v1, hq, hs1⟩
    have HN := Lib.hid (number101 hq (Nat.le_trans hB hs1.touch.size) n 4 (by decide) (by simp; omega))
    have HS1 := Lib.hid hs1
    clear hq hs1
    go_wp2_with fail
    refine HN.out.mono ?_
    rintro e w2 ⟨rfl, v2, hq, hs2⟩
    have HQ2 := Lib.hid hq
    have HS2 := Lib.hid hs2
    clear hq hs2
    go_wp2_with fail
    go_end0
    exact ⟨rfl, v2, by have h5 := HQ2.out; rw [List.append_assoc] at h5; exact h5, HS1.out.trans HS2.out⟩
theorem intBig {w : World} {B b : Nat} {v : Value} {l : List UInt8} (h : WrAt w B b v l) (hB : B ≤ w.heap.size) (n : Int) (hs : ¬ (0 ≤ n ∧ n < 256)) (hm : ¬ (-2147483648 ≤ n ∧ n ≤ 2147483647)) (hn : l.length + 11 ≤ 1000000000) :
    Calls Tryz.prog 99 #[.pointer (some ⟨b, 0, none⟩), .int .i64 n] w fun e w' => e = .returned (.tuple #[]) ∧ WrQ B b v (l ++ intB n) w w' := by
  have e2 : intB n = [110, byteOf (digB (magN n)).length, if n < 0 then 1 else 0] ++ digB (magN n) := by unfold intB; rw [if_neg hs, if_neg hm]; rfl
  have HDl := Lib.hid (digB_len 8 (magN n) (magN_lt n))
  rw [e2]
  have H0 := Lib.hid h
  have hBw : B ≤ w.heap.size := hB
  have hx : (n == RowKit.wrap64 (RowKit.wrap32 n)) = false := by
    simp only [beq_eq_false_iff_ne]
    intro e
    unfold RowKit.wrap64 RowKit.wrap32 at e
    omega
  have hmx : magN n ≤ 18446744073709551615 := by have := magN_lt n; have e : (256 : Nat) ^ 8 = 18446744073709551616 := rfl; omega
  clear e2 h
  by_cases c1 : 0 ≤ n
  · have hab : ((magN n : Nat) : Int) = IntKind.u64.wrap n := by rw [magN_eq]; unfold magI; rw [if_neg (by omega)]
    have H00 : Hid (DigI (magN n) w (magN n) (.int .u64 (IntKind.u64.wrap n)) (.slice none 0 0) w) := Lib.hid ⟨(magN n), [], by rw [hab], hmx, rfl, RecOwn.nil _ _ _, rfl, Below.refl _ _⟩
    have e3 : (if n < 0 then (1 : UInt8) else 0) = 0 := if_neg (by omega)
    rw [e3]
    clear e3 hab
    clear hmx
    generalize magN n = N at *
    go_enter Tryz.func99, Tryz.ntmps99
    go_wp2_with fail
    go_loopg [5, 6] N (fun m uv lv wr => Hid (DigI N w m uv lv wr))
    case atStart => exact H00
    case round =>
      obtain ⟨u, l0, rfl, hu, hm, hown, hdig, hbw⟩ := hrel.out
      clear hrel H00
      obtain ⟨po, co, rfl, _, _⟩ := hown.shape
      have HM := Lib.hid hm
      have HOw := Lib.hid hown
      have HDg := Lib.hid hdig
      have HBw := Lib.hid hbw
      clear hm hown hdig
      have hll : l0.length ≤ 8 := by
        have := congrArg List.length HDg.out
        rw [List.length_append] at this
        have := HDl.out
        omega
      by_cases h0 : 0 < u
      · have hz : w.heap.size ≤ (wr.alloc (.cells #[.int .u8 ((u : Int) % 256)] 5)).heap.size := by rw [World.size_alloc]; have := hbw.size; omega
        have hrow := row_new wr [byteOf u] 1 (Nat.le_refl _) (by decide)
        have e : ([byteOf (u : Int)].flatMap encB).toArray = #[.int .u8 ((u : Int) % 256)] := by rw [← byteOf_nat]; rfl
        rw [e] at hrow
        have HRw := Lib.hid hrow
        clear e hrow
        have HO2 := Lib.hid (HOw.out.below (belowA (Below.refl wr.heap.size wr) (.cells #[.int .u8 ((u : Int) % 256)] 5) (Nat.le_refl _)))
        go_wp2_with (first
          | (refine wpList_append_rec elB rfl (.tmp 17) (.tmp 20) rfl rfl HO2.out hz rfl HRw.out (encB_ok _) (by simp; omega) ?_; intro v' w8 hA; obtain ⟨ao', cap', hv, _, _⟩ := hA.own.shape; rw [List.length_append] at hv; subst hv; have HA : Hid (AppR encB 5 1 (wr.alloc (.cells #[.int .u8 ((u : Int) % 256)] 5)) w.heap.size (.slice po l0.length co) l0 [byteOf u] (.slice ao' (l0.length + 1) cap') w8) := Lib.hid hA; clear hA))
        go_wp2_with fail
        go_roundg (u / 256)
        case measure => have := HM.out; omega
        case rel =>
          refine Lib.hid ⟨u / 256, l0 ++ [byteOf u], by go_num, by omega, rfl, HA.out.own, by rw [HDg.out, digB_s (by omega)]; simp, ?_⟩
          exact HA.out.belowB (belowA HBw.out _ HBw.out.size) hz (fun k hk => (HOw.out.lt hk).1)
      · obtain rfl : u = 0 := by omega
        have hl := HDg.out
        rw [digB_0, List.append_nil] at hl
        subst hl
        have h1 := H0.out.below hbw
        have hq := bytesN h1 (Nat.le_trans hBw hbw.size) [110, byteOf (digB N).length, 0] 3 rfl (by omega)
        have hla : ((digB N).length : Int) % 256 = (digB N).length := by omega
        have e : ([110, byteOf (digB N).length, 0].flatMap encB).toArray = #[.int .u8 110, .int .u8 ((digB N).length : Int), .int .u8 0] := by
          rw [← hla, ← byteOf_nat, byteOf_nat, hla]
          have e4 : byteOf ((digB N).length : Int) = byteOf ((digB N).length : Int) := rfl
          simp only [List.flatMap_cons, List.flatMap_nil, encB, List.cons_append, List.nil_append, byteOf_nat, hla]
          rfl
        rw [e] at hq
        have HQ := Lib.hid hq
        clear e hq hla h1
        go_wp2_with fail
        refine HQ.out.mono ?_
        rintro e w1 ⟨rfl, v1, hq, hs1⟩
        have hrow : RecOwn encB 5 1 w1 w.heap.size (.slice po (digB N).length co) (digB N) := HOw.out.same (fun k hk => hs1.other (HOw.out.lt hk).2 (by have := (HOw.out.lt hk).1; have := H0.out.lt; omega) (fun e => by have := (HOw.out.lt hk).1; have := (H0.out.row.lt e).2; omega))
        have HN := Lib.hid (bytes77 hq (Nat.le_trans hBw (Nat.le_trans hbw.size hs1.touch.size)) (hrow.row (encB_ok _)) (fun e => by have := (HOw.out.lt e).1; have := H0.out.lt; omega) (by simp; omega))
        have HS1 := Lib.hid hs1
        clear hq hs1 hrow
        go_wp2_with fail
        refine HN.out.mono ?_
        rintro e w2 ⟨rfl, v2, hq, hs2⟩
        have HQ2 := Lib.hid hq
        have HS2 := Lib.hid hs2
        clear hq hs2
        go_wp2_with fail
        go_end0
        exact ⟨rfl, v2, by have h5 := HQ2.out; rw [List.append_assoc] at h5; exact h5, (HS1.out.trans HS2.out).grow HBw.out⟩
  · have hab : ((magN n : Nat) : Int) = IntKind.u64.wrap (-IntKind.u64.wrap n) := by rw [magN_eq]; unfold magI; rw [if_pos (by omega)]
    have H00 : Hid (DigI (magN n) w (magN n) (.int .u64 (IntKind.u64.wrap (-IntKind.u64.wrap n))) (.slice none 0 0) w) := Lib.hid ⟨(magN n), [], by rw [hab], hmx, rfl, RecOwn.nil _ _ _, rfl, Below.refl _ _⟩
    have e3 : (if n < 0 then (1 : UInt8) else 0) = 1 := if_pos (by omega)
    rw [e3]
    clear e3 hab
    clear hmx
    generalize magN n = N at *
    go_enter Tryz.func99, Tryz.ntmps99
    go_wp2_with fail
    go_loopg [5, 6] N (fun m uv lv wr => Hid (DigI N w m uv lv wr))
    case atStart => exact H00
    case round =>
      obtain ⟨u, l0, rfl, hu, hm, hown, hdig, hbw⟩ := hrel.out
      clear hrel H00
      obtain ⟨po, co, rfl, _, _⟩ := hown.shape
      have HM := Lib.hid hm
      have HOw := Lib.hid hown
      have HDg := Lib.hid hdig
      have HBw := Lib.hid hbw
      clear hm hown hdig
      have hll : l0.length ≤ 8 := by
        have := congrArg List.length HDg.out
        rw [List.length_append] at this
        have := HDl.out
        omega
      by_cases h0 : 0 < u
      · have hz : w.heap.size ≤ (wr.alloc (.cells #[.int .u8 ((u : Int) % 256)] 5)).heap.size := by rw [World.size_alloc]; have := hbw.size; omega
        have hrow := row_new wr [byteOf u] 1 (Nat.le_refl _) (by decide)
        have e : ([byteOf (u : Int)].flatMap encB).toArray = #[.int .u8 ((u : Int) % 256)] := by rw [← byteOf_nat]; rfl
        rw [e] at hrow
        have HRw := Lib.hid hrow
        clear e hrow
        have HO2 := Lib.hid (HOw.out.below (belowA (Below.refl wr.heap.size wr) (.cells #[.int .u8 ((u : Int) % 256)] 5) (Nat.le_refl _)))
        go_wp2_with (first
          | (refine wpList_append_rec elB rfl (.tmp 17) (.tmp 20) rfl rfl HO2.out hz rfl HRw.out (encB_ok _) (by simp; omega) ?_; intro v' w8 hA; obtain ⟨ao', cap', hv, _, _⟩ := hA.own.shape; rw [List.length_append] at hv; subst hv; have HA : Hid (AppR encB 5 1 (wr.alloc (.cells #[.int .u8 ((u : Int) % 256)] 5)) w.heap.size (.slice po l0.length co) l0 [byteOf u] (.slice ao' (l0.length + 1) cap') w8) := Lib.hid hA; clear hA))
        go_wp2_with fail
        go_roundg (u / 256)
        case measure => have := HM.out; omega
        case rel =>
          refine Lib.hid ⟨u / 256, l0 ++ [byteOf u], by go_num, by omega, rfl, HA.out.own, by rw [HDg.out, digB_s (by omega)]; simp, ?_⟩
          exact HA.out.belowB (belowA HBw.out _ HBw.out.size) hz (fun k hk => (HOw.out.lt hk).1)
      · obtain rfl : u = 0 := by omega
        have hl := HDg.out
        rw [digB_0, List.append_nil] at hl
        subst hl
        have h1 := H0.out.below hbw
        have hq := bytesN h1 (Nat.le_trans hBw hbw.size) [110, byteOf (digB N).length, 1] 3 rfl (by omega)
        have hla : ((digB N).length : Int) % 256 = (digB N).length := by omega
        have e : ([110, byteOf (digB N).length, 1].flatMap encB).toArray = #[.int .u8 110, .int .u8 ((digB N).length : Int), .int .u8 1] := by
          rw [← hla, ← byteOf_nat, byteOf_nat, hla]
          have e4 : byteOf ((digB N).length : Int) = byteOf ((digB N).length : Int) := rfl
          simp only [List.flatMap_cons, List.flatMap_nil, encB, List.cons_append, List.nil_append, byteOf_nat, hla]
          rfl
        rw [e] at hq
        have HQ := Lib.hid hq
        clear e hq hla h1
        go_wp2_with fail
        refine HQ.out.mono ?_
        rintro e w1 ⟨rfl, v1, hq, hs1⟩
        have hrow : RecOwn encB 5 1 w1 w.heap.size (.slice po (digB N).length co) (digB N) := HOw.out.same (fun k hk => hs1.other (HOw.out.lt hk).2 (by have := (HOw.out.lt hk).1; have := H0.out.lt; omega) (fun e => by have := (HOw.out.lt hk).1; have := (H0.out.row.lt e).2; omega))
        have HN := Lib.hid (bytes77 hq (Nat.le_trans hBw (Nat.le_trans hbw.size hs1.touch.size)) (hrow.row (encB_ok _)) (fun e => by have := (HOw.out.lt e).1; have := H0.out.lt; omega) (by simp; omega))
        have HS1 := Lib.hid hs1
        clear hq hs1 hrow
        go_wp2_with fail
        refine HN.out.mono ?_
        rintro e w2 ⟨rfl, v2, hq, hs2⟩
        have HQ2 := Lib.hid hq
        have HS2 := Lib.hid hs2
        clear hq hs2
        go_wp2_with fail
        go_end0
        exact ⟨rfl, v2, by have h5 := HQ2.out; rw [List.append_assoc] at h5; exact h5, (HS1.out.trans HS2.out).grow HBw.out⟩
theorem integer99 {w : World} {B b : Nat} {v : Value} {l : List UInt8} (h : WrAt w B b v l) (hB : B ≤ w.heap.size) (n : Int) (hn : l.length + 11 ≤ 1000000000) :
    Calls Tryz.prog 99 #[.pointer (some ⟨b, 0, none⟩), .int .i64 n] w fun e w' => e = .returned (.tuple #[]) ∧ WrQ B b v (l ++ intB n) w w' := by
  by_cases hs : 0 ≤ n ∧ n < 256
  · exact intSmall h hB n hs.1 hs.2 hn
  by_cases hm : -2147483648 ≤ n ∧ n ≤ 2147483647
  · exact intMid h hB n hs hm.1 hm.2 hn
  · exact intBig h hB n hs hm hn
end Go.Proofs.YtfbggmbmgohiiaaGreat.tb
/- The writer's method term: the encoding of a well-formed term. Conditions: as said. -/
namespace Go.Proofs.YtfbggmbmgohiiaaGreat.tb
open Go.RowKit mem rec tm names
set_option linter.unusedVariables false
set_option linter.unusedSimpArgs false
set_option maxHeartbeats 4000000
set_option maxRecDepth 100000
theorem Nine.same {w w' : World} {z : Nat} {f : TF} {v : Value} (h : w.heap[z]? = some (cells9 f v)) (hs : w'.heap[z]? = w.heap[z]?) : Nine w' z f v := nine_of (hs.trans h)
/-- the parts of a well-formed term of each kind -/
theorem headB_1 (fi fg : Int) (fn ff : ByteArray) (fa : Int) (fb : ByteArray) (fs : Int) (m : Nat) : headB ⟨1, fi, fg, fn, ff, fa, fb, fs⟩ m = intB fi := rfl
theorem headB_2 (fi fg : Int) (fn ff : ByteArray) (fa : Int) (fb : ByteArray) (fs : Int) (m : Nat) : headB ⟨2, fi, fg, fn, ff, fa, fb, fs⟩ m = atomB fn := rfl
theorem headB_7 (fi fg : Int) (fn ff : ByteArray) (fa : Int) (fb : ByteArray) (fs : Int) (m : Nat) : headB ⟨7, fi, fg, fn, ff, fa, fb, fs⟩ m = [104, byteOf m] := rfl
theorem headB_8 (fi fg : Int) (fn ff : ByteArray) (fa : Int) (fb : ByteArray) (fs : Int) (m : Nat) : headB ⟨8, fi, fg, fn, ff, fa, fb, fs⟩ m = [106] := rfl
theorem headB_9 (fi fg : Int) (fn ff : ByteArray) (fa : Int) (fb : ByteArray) (fs : Int) (m : Nat) : headB ⟨9, fi, fg, fn, ff, fa, fb, fs⟩ m = [108] ++ numB ((m : Int) - 1) 4 := rfl
theorem headB_10 (fi fg : Int) (fn ff : ByteArray) (fa : Int) (fb : ByteArray) (fs : Int) (m : Nat) (h : fs.tmod 8 = 0) : headB ⟨10, fi, fg, fn, ff, fa, fb, fs⟩ m = [109] ++ (numB fb.size 4 ++ strB fb) := by
  show bitsB _ = _
  unfold bitsB
  rw [if_pos h]
  rfl
theorem headB_10' (fi fg : Int) (fn ff : ByteArray) (fa : Int) (fb : ByteArray) (fs : Int) (m : Nat) (h : ¬ fs.tmod 8 = 0) : headB ⟨10, fi, fg, fn, ff, fa, fb, fs⟩ m = [77] ++ (numB fb.size 4 ++ ([byteOf (fs.tmod 8)] ++ strB fb)) := by
  show bitsB _ = _
  unfold bitsB
  rw [if_neg h]
  rfl
theorem headB_6 (fi fg : Int) (fn ff : ByteArray) (fa : Int) (fb : ByteArray) (fs : Int) (m : Nat) : headB ⟨6, fi, fg, fn, ff, fa, fb, fs⟩ m = [88] ++ (atomB fn ++ (numB fi 4 ++ (numB 0 4 ++ numB fg 4))) := rfl
theorem headB_3 (fi fg : Int) (fn ff : ByteArray) (fa : Int) (fb : ByteArray) (fs : Int) (m : Nat) : headB ⟨3, fi, fg, fn, ff, fa, fb, fs⟩ m = [90, 0, 1] ++ (atomB fn ++ (numB fg 4 ++ numB fi 4)) := rfl
theorem headB_5 (fi fg : Int) (fn ff : ByteArray) (fa : Int) (fb : ByteArray) (fs : Int) (m : Nat) : headB ⟨5, fi, fg, fn, ff, fa, fb, fs⟩ m = [113] ++ (atomB fn ++ (atomB ff ++ intB fa)) := rfl
theorem headB_4 (fi fg : Int) (fn ff : ByteArray) (fa : Int) (fb : ByteArray) (fs : Int) (m : Nat) : headB ⟨4, fi, fg, fn, ff, fa, fb, fs⟩ m = [112, byteOf fa] ++ (numB fi 2 ++ ([byteOf m] ++ (atomB fn ++ numB fg 4))) := rfl
/-- what stands behind the switch -/
def HeadQ (B b : Nat) (v : Value) (l : List UInt8) (f : TF) (vt : Value) (m z : Nat) (W1 wc : World) : Prop := WrQ B b v (l ++ headB f m) W1 wc ∧ wc.heap[z]? = some (cells9 f vt)
def TermS (n : Nat) : Prop := ∀ (w : World) (B b : Nat) (v : Value) (l : List UInt8) (vt : Value) (t : Tm (n + 1)), WrAt w B b v l → B ≤ w.heap.size → ItemsAt w B n vt t.items → formedT t = true → l.length + 3000 * nodesT t ≤ 900000000 →
  Calls Tryz.prog 78 #[.pointer (some ⟨b, 0, none⟩), aggV t.f vt] w fun e w' => e = .returned (.tuple #[]) ∧ WrQ B b v (l ++ encT t) w w'
def LoopI {n : Nat} (B b : Nat) (v : Value) (l : List UInt8) (items : List (Tm n)) (W1 : World) (m : Nat) (iv : Value) (wr : World) : Prop := ∃ i : Nat, iv = .int .i64 (i : Int) ∧ i ≤ items.length ∧ m = items.length - i ∧ WrQ B b v (l ++ encL n (items.take i)) W1 wr
theorem encL_len : ∀ (n : Nat) (l : List (Tm n)), formedL n l = true → (encL n l).length ≤ 3000 * nodesL n l := by
  intro n
  induction n with
  | zero => intro l _; rw [Tm.nil0 l]; simp [encL]
  | succ n ih =>
    intro l hf
    induction l with
    | nil => simp [encL]
    | cons t l ih2 =>
      rw [formedL_cons, Bool.and_eq_true] at hf
      rw [encL_cons, nodesL_cons, List.length_append]
      have h1 := ih2 hf.2
      have h2 := headB_len hf.1
      have h3 := ih t.items (formed_items hf.1)
      unfold encT nodesT
      rw [List.length_append]
      omega
theorem formed_take {n : Nat} {l : List (Tm n)} (h : formedL n l = true) (k : Nat) : formedL n (l.take k) = true := by
  cases n with
  | zero => rfl
  | succ n =>
    unfold formedL at h ⊢
    rw [List.all_eq_true] at h ⊢
    exact fun x hx => h x (List.mem_of_mem_take hx)
/-- an element of the list, as the loop meets it -/
theorem termEl {n : Nat} (ih : ∀ m, n = m + 1 → TermS m) {w : World} {B b : Nat} {v : Value} {l : List UInt8} {p : Option Addr} {len c : Nat} {items : List (Tm n)} (hw : WrAt w B b v l) (hB : B ≤ w.heap.size) (hI : ItemsAt w B n (.slice p len c) items) (hf : formedL n items = true) (i : Nat) (hi : i < items.length) (hs : l.length + 3000 * nodesL n items ≤ 900000000 + 3000 * nodesL n (items.take i)) :
    ∃ g o x q m d bs, p = some ⟨g, o, none⟩ ∧ g < B ∧ Cells w g (o + i * 9) x (.slice q m d) ∧ encL n (items.take (i + 1)) = encL n (items.take i) ++ bs ∧ ∀ W, Below w.heap.size w W → Calls Tryz.prog 78 #[.pointer (some ⟨b, 0, none⟩), aggV x (.slice q m d)] W fun e w' => e = .returned (.tuple #[]) ∧ WrQ B b v (l ++ bs) W w' := by
  cases n with
  | zero => rw [Tm.nil0 items] at hi; exact absurd hi (by simp)
  | succ n =>
    obtain ⟨g, o, d, e, _, _, hg, hx⟩ := hI.at_ (by intro e; subst e; simp at hi)
    obtain ⟨u, hC, hJ⟩ := hx i hi
    simp only [Value.slice.injEq] at e
    obtain ⟨q, c', rfl, _, _⟩ := hJ.shape
    have hn := nodes_mem hi
    refine ⟨g, o, items[i].f, q, _, c', encT items[i], e.1, hg, hC, encL_take items i hi, fun W hb => ?_⟩
    exact ih n rfl W B b v l _ items[i] (hw.below hb) (Nat.le_trans hB hb.size) (hJ.below hb hB) (formed_at hf i hi) (by omega)
theorem termStep {n : Nat} (ih : ∀ m, n = m + 1 → TermS m) : TermS n := by
  intro w B b v l vt t h hB hI hf hn
  have hnod : nodesT t = 1 + nodesL n t.items := rfl
  have HHd := Lib.hid (headB_len hf)
  have hft := formed_items hf
  obtain ⟨k1, k2, _, _⟩ := ft_ok hf
  have hk := ft_kind hf
  have h2 : t.f.kind = 9 → 2 ≤ t.items.length := fun e => (ft_list hf e).1
  obtain ⟨p, c, rfl, _, _⟩ := hI.shape
  have hen : encT t = headB t.f t.items.length ++ encL n t.items := rfl
  rw [hen]
  clear hen hf k1 k2
  have HItems := Lib.hid (fun W (hW : Below B w W) => hI.below hW (Nat.le_refl _))
  have hlen := nodes_len n t.items
  generalize hits : t.items = items at *
  generalize t.f = f at *
  obtain ⟨fk, fi, fg, fn, ff, fa, fb, fs⟩ := f
  unfold aggV
  dsimp only at hk h2 HHd ⊢
  have hb0 := belowA (Below.refl w.heap.size w) (cells9 ⟨fk, fi, fg, fn, ff, fa, fb, fs⟩ (.slice p items.length c)) (Nat.le_refl _)
  have HZ := Lib.hid (alloc_new w (cells9 ⟨fk, fi, fg, fn, ff, fa, fb, fs⟩ (.slice p items.length c)))
  have H1 := Lib.hid (h.below hb0)
  have HBw := Lib.hid hb0
  have HB1 : Hid (B ≤ w.heap.size ∧ (w.alloc (cells9 ⟨fk, fi, fg, fn, ff, fa, fb, fs⟩ (.slice p items.length c))).heap.size = w.heap.size + 1) := Lib.hid ⟨hB, by rw [World.size_alloc]⟩
  have HZb : Hid (w.heap.size ≠ b ∧ v.ownBlock ≠ some w.heap.size ∧ ∀ k, v.ownBlock = some k → B ≤ k) := Lib.hid ⟨by have := h.lt; omega, fun e => by have := (h.row.lt e).2; omega, fun k hk => (h.row.lt hk).1⟩
  have HNd : Hid (l.length + 3000 * (1 + nodesL n items) ≤ 900000000) := Lib.hid (by omega)
  have HFt := Lib.hid hft
  have HK2 := Lib.hid h2
  have HIt := Lib.hid hI
  have HLen : Hid (items.length ≤ 1000000) := Lib.hid (by omega)
  unfold cells9 at HZ HBw H1 HB1
  dsimp only at HZ HBw H1 HB1
  clear hb0 h hB hI hn hnod hlen h2 hft hits
  go_enter Tryz.func78, Tryz.ntmps78
  go_upto_region 1 with (fail)
  generalize hW1 : (w.alloc (.cells #[.int .i64 fk, .int .i64 fi, .int .i64 fg, .string fn, .string ff, .int .i64 fa, .slice p items.length c, .string fb, .int .i64 fs] 24)) = W1 at *
  clear hW1
  generalize hz : w.heap.size = z at *
  have HZs := Lib.hid hz
  clear hz
  have HX := Lib.hid (fun (W' : World) (v' : Value) (hs : WrS b v v' W1 W') => (nine_of ((hs.other (by have := HB1.out.2; omega) HZb.out.1 HZb.out.2.1).trans HZ.out) : Nine W' z ⟨fk, fi, fg, fn, ff, fa, fb, fs⟩ (.slice p items.length c)))
  have HXo := Lib.hid (fun (W' : World) (v' : Value) (hs : WrS b v v' W1 W') => ((hs.other (by have := HB1.out.2; omega) HZb.out.1 HZb.out.2.1).trans HZ.out))
  obtain ⟨x0, x1, x2, x3, x4, x5, x6, x7, x8, xf⟩ := HX.out W1 v (WrS.refl _ _ _)
  dsimp only at x0 x1 x2 x3 x4 x5 x6 x7 x8
  go_upto_block 0 with (fail)
  go_cut [] from 6 (fun wc => Hid (HeadQ B b v l ⟨fk, fi, fg, fn, ff, fa, fb, fs⟩ (.slice p items.length c) items.length z W1 wc))
  case first =>
    have hks : fk = 1 ∨ fk = 2 ∨ fk = 7 ∨ fk = 8 ∨ fk = 9 ∨ fk = 10 ∨ fk = 6 ∨ fk = 3 ∨ fk = 5 ∨ fk = 4 := by omega
    clear hk
    have HB1' : Hid (B ≤ W1.heap.size) := Lib.hid (by have := HB1.out; omega)
    rcases hks with rfl | rfl | rfl | rfl | rfl | rfl | rfl | rfl | rfl | rfl
    · have hE := headB_1 fi fg fn ff fa fb fs items.length
      have hL := HHd.out
      rw [hE] at hL
      (try simp only [List.length_append, atomB_len, numB_len, strB_len, List.length_cons, List.length_nil] at hL)
      have HL : Hid _ := Lib.hid hL
      have HE := Lib.hid hE
      clear hL hE
      have hq := integer99 H1.out HB1'.out fi (by have := HL.out; have := HNd.out; (try simp only [List.length_append, atomB_len, numB_len, strB_len, List.length_cons, List.length_nil]); omega)
      have HQ := Lib.hid hq
      clear hq
      go_wp2_with fail
      refine HQ.out.mono ?_
      rintro e w1 ⟨rfl, v1, h1, hs1⟩
      clear x0 x1 x2 x3 x4 x5 x6 x7 x8 xf HQ
      have HW1 := Lib.hid h1
      have HS1 : Hid (WrS b v v1 W1 w1) := Lib.hid hs1
      clear h1 hs1
      obtain ⟨x0, x1, x2, x3, x4, x5, x6, x7, x8, xf⟩ := HX.out w1 v1 HS1.out
      dsimp only at x0 x1 x2 x3 x4 x5 x6 x7 x8
      go_wp2_with fail
      go_meet
      case rel =>
        refine Lib.hid ⟨⟨v1, ?_, HS1.out⟩, HXo.out _ _ HS1.out⟩
        rw [HE.out]
        have h5 := HW1.out
        (try simp only [List.append_assoc] at h5)
        exact h5
    · have hE := headB_2 fi fg fn ff fa fb fs items.length
      have hL := HHd.out
      rw [hE] at hL
      (try simp only [List.length_append, atomB_len, numB_len, strB_len, List.length_cons, List.length_nil] at hL)
      have HL : Hid _ := Lib.hid hL
      have HE := Lib.hid hE
      clear hL hE
      have hq := atom100 H1.out HB1'.out fn (by have := HL.out; have := HNd.out; (try simp only [List.length_append, atomB_len, numB_len, strB_len, List.length_cons, List.length_nil]); omega)
      have HQ := Lib.hid hq
      clear hq
      go_wp2_with fail
      refine HQ.out.mono ?_
      rintro e w1 ⟨rfl, v1, h1, hs1⟩
      clear x0 x1 x2 x3 x4 x5 x6 x7 x8 xf HQ
      have HW1 := Lib.hid h1
      have HS1 : Hid (WrS b v v1 W1 w1) := Lib.hid hs1
      clear h1 hs1
      obtain ⟨x0, x1, x2, x3, x4, x5, x6, x7, x8, xf⟩ := HX.out w1 v1 HS1.out
      dsimp only at x0 x1 x2 x3 x4 x5 x6 x7 x8
      go_wp2_with fail
      go_meet
      case rel =>
        refine Lib.hid ⟨⟨v1, ?_, HS1.out⟩, HXo.out _ _ HS1.out⟩
        rw [HE.out]
        have h5 := HW1.out
        (try simp only [List.append_assoc] at h5)
        exact h5
    · have hE := headB_7 fi fg fn ff fa fb fs items.length
      have hL := HHd.out
      rw [hE] at hL
      (try simp only [List.length_append, atomB_len, numB_len, strB_len, List.length_cons, List.length_nil] at hL)
      have HL : Hid _ := Lib.hid hL
      have HE := Lib.hid hE
      clear hL hE
      have hq := bytesN H1.out HB1'.out [104, byteOf items.length] 2 rfl (by have := HL.out; have := HNd.out; (try simp only [List.length_append, atomB_len, numB_len, strB_len, List.length_cons, List.length_nil]); omega)
      have e : (([104, byteOf items.length] : List UInt8).flatMap encB).toArray = #[.int .u8 104, .int .u8 ((items.length : Int) % 256)] := by rw [← byteOf_nat]; rfl
      rw [e] at hq
      clear e
      have HQ := Lib.hid hq
      clear hq
      go_wp2_with fail
      refine HQ.out.mono ?_
      rintro e w1 ⟨rfl, v1, h1, hs1⟩
      clear x0 x1 x2 x3 x4 x5 x6 x7 x8 xf HQ
      have HW1 := Lib.hid h1
      have HS1 : Hid (WrS b v v1 W1 w1) := Lib.hid hs1
      clear h1 hs1
      obtain ⟨x0, x1, x2, x3, x4, x5, x6, x7, x8, xf⟩ := HX.out w1 v1 HS1.out
      dsimp only at x0 x1 x2 x3 x4 x5 x6 x7 x8
      go_wp2_with fail
      go_meet
      case rel =>
        refine Lib.hid ⟨⟨v1, ?_, HS1.out⟩, HXo.out _ _ HS1.out⟩
        rw [HE.out]
        have h5 := HW1.out
        (try simp only [List.append_assoc] at h5)
        exact h5
    · have hE := headB_8 fi fg fn ff fa fb fs items.length
      have hL := HHd.out
      rw [hE] at hL
      (try simp only [List.length_append, atomB_len, numB_len, strB_len, List.length_cons, List.length_nil] at hL)
      have HL : Hid _ := Lib.hid hL
      have HE := Lib.hid hE
      clear hL hE
      have hq := bytesN H1.out HB1'.out [106] 1 rfl (by have := HL.out; have := HNd.out; (try simp only [List.length_append, atomB_len, numB_len, strB_len, List.length_cons, List.length_nil]); omega)
      have e : (([106] : List UInt8).flatMap encB).toArray = #[.int .u8 106] := by rfl
      rw [e] at hq
      clear e
      have HQ := Lib.hid hq
      clear hq
      go_wp2_with fail
      refine HQ.out.mono ?_
      rintro e w1 ⟨rfl, v1, h1, hs1⟩
      clear x0 x1 x2 x3 x4 x5 x6 x7 x8 xf HQ
      have HW1 := Lib.hid h1
      have HS1 : Hid (WrS b v v1 W1 w1) := Lib.hid hs1
      clear h1 hs1
      obtain ⟨x0, x1, x2, x3, x4, x5, x6, x7, x8, xf⟩ := HX.out w1 v1 HS1.out
      dsimp only at x0 x1 x2 x3 x4 x5 x6 x7 x8
      go_wp2_with fail
      go_meet
      case rel =>
        refine Lib.hid ⟨⟨v1, ?_, HS1.out⟩, HXo.out _ _ HS1.out⟩
        rw [HE.out]
        have h5 := HW1.out
        (try simp only [List.append_assoc] at h5)
        exact h5
    · have hw9 : IntKind.i64.wrap ((items.length : Int) - 1) = (items.length : Int) - 1 := IntWalk.i64_in _ (by have := HLen.out; omega)
      have hE := headB_9 fi fg fn ff fa fb fs items.length
      have hL := HHd.out
      rw [hE] at hL
      (try simp only [List.length_append, atomB_len, numB_len, strB_len, List.length_cons, List.length_nil] at hL)
      have HL : Hid _ := Lib.hid hL
      have HE := Lib.hid hE
      clear hL hE
      have hq := bytesN H1.out HB1'.out [108] 1 rfl (by have := HL.out; have := HNd.out; (try simp only [List.length_append, atomB_len, numB_len, strB_len, List.length_cons, List.length_nil]); omega)
      have e : (([108] : List UInt8).flatMap encB).toArray = #[.int .u8 108] := by rfl
      rw [e] at hq
      clear e
      have HQ := Lib.hid hq
      clear hq
      go_wp2_with fail
      refine HQ.out.mono ?_
      rintro e w1 ⟨rfl, v1, h1, hs1⟩
      clear x0 x1 x2 x3 x4 x5 x6 x7 x8 xf HQ
      have HW1 := Lib.hid h1
      have HS1 : Hid (WrS b v v1 W1 w1) := Lib.hid hs1
      clear h1 hs1
      obtain ⟨x0, x1, x2, x3, x4, x5, x6, x7, x8, xf⟩ := HX.out w1 v1 HS1.out
      dsimp only at x0 x1 x2 x3 x4 x5 x6 x7 x8
      have hq := number101 HW1.out (Nat.le_trans HB1'.out HS1.out.touch.size) ((items.length : Int) - 1) 4 (by decide) (by have := HL.out; have := HNd.out; (try simp only [List.length_append, atomB_len, numB_len, strB_len, List.length_cons, List.length_nil]); omega)
      have HQ := Lib.hid hq
      clear hq
      go_wp2_with fail
      refine HQ.out.mono ?_
      rintro e w2 ⟨rfl, v2, h2, hs2⟩
      clear x0 x1 x2 x3 x4 x5 x6 x7 x8 xf HQ
      have HW2 := Lib.hid h2
      have HS2 : Hid (WrS b v v2 W1 w2) := Lib.hid (HS1.out.trans hs2)
      clear h2 hs2
      obtain ⟨x0, x1, x2, x3, x4, x5, x6, x7, x8, xf⟩ := HX.out w2 v2 HS2.out
      dsimp only at x0 x1 x2 x3 x4 x5 x6 x7 x8
      go_wp2_with fail
      go_meet
      case rel =>
        refine Lib.hid ⟨⟨v2, ?_, HS2.out⟩, HXo.out _ _ HS2.out⟩
        rw [HE.out]
        have h5 := HW2.out
        (try simp only [List.append_assoc] at h5)
        exact h5
    · by_cases h8 : fs.tmod 8 = 0
      · have hE := headB_10 fi fg fn ff fa fb fs items.length h8
        have hL := HHd.out
        rw [hE] at hL
        (try simp only [List.length_append, atomB_len, numB_len, strB_len, List.length_cons, List.length_nil] at hL)
        have HL : Hid _ := Lib.hid hL
        have HE := Lib.hid hE
        clear hL hE
        have hq := bytesN H1.out HB1'.out [109] 1 rfl (by have := HL.out; have := HNd.out; (try simp only [List.length_append, atomB_len, numB_len, strB_len, List.length_cons, List.length_nil]); omega)
        have e : (([109] : List UInt8).flatMap encB).toArray = #[.int .u8 109] := by rfl
        rw [e] at hq
        clear e
        have HQ := Lib.hid hq
        clear hq
        go_wp2_with fail
        refine HQ.out.mono ?_
        rintro e w1 ⟨rfl, v1, h1, hs1⟩
        clear x0 x1 x2 x3 x4 x5 x6 x7 x8 xf HQ
        have HW1 := Lib.hid h1
        have HS1 : Hid (WrS b v v1 W1 w1) := Lib.hid hs1
        clear h1 hs1
        obtain ⟨x0, x1, x2, x3, x4, x5, x6, x7, x8, xf⟩ := HX.out w1 v1 HS1.out
        dsimp only at x0 x1 x2 x3 x4 x5 x6 x7 x8
        have hq := number101 HW1.out (Nat.le_trans HB1'.out HS1.out.touch.size) fb.size 4 (by decide) (by have := HL.out; have := HNd.out; (try simp only [List.length_append, atomB_len, numB_len, strB_len, List.length_cons, List.length_nil]); omega)
        have HQ := Lib.hid hq
        clear hq
        go_wp2_with fail
        refine HQ.out.mono ?_
        rintro e w2 ⟨rfl, v2, h2, hs2⟩
        clear x0 x1 x2 x3 x4 x5 x6 x7 x8 xf HQ
        have HW2 := Lib.hid h2
        have HS2 : Hid (WrS b v v2 W1 w2) := Lib.hid (HS1.out.trans hs2)
        clear h2 hs2
        obtain ⟨x0, x1, x2, x3, x4, x5, x6, x7, x8, xf⟩ := HX.out w2 v2 HS2.out
        dsimp only at x0 x1 x2 x3 x4 x5 x6 x7 x8
        have hq := writeS102 HW2.out (Nat.le_trans HB1'.out HS2.out.touch.size) fb (by have := HL.out; have := HNd.out; (try simp only [List.length_append, atomB_len, numB_len, strB_len, List.length_cons, List.length_nil]); omega)
        have HQ := Lib.hid hq
        clear hq
        have HQd := Lib.hid (writeS102 (WrAt.same HW2.out (w' := w2.drew) rfl (fun _ _ => rfl)) (Nat.le_trans HB1'.out HS2.out.touch.size) fb (by have := HL.out; have := HNd.out; (try simp only [List.length_append, atomB_len, numB_len, strB_len, List.length_cons, List.length_nil]); omega))
        go_wp2_with fail
        go_region_held3 (fun w' => w'.cell? ⟨z, 7, none⟩ = some (.string fb)) (go_keep)
          (first | (go_at_call 102; refine HQd.out.mono ?_; rintro e w3 ⟨rfl, v3, h3, hs3⟩; obtain ⟨x0, x1, x2, x3, x4, x5, x6, x7, x8, xf⟩ := HX.out w3 v3 (HS2.out.trans (hs3.grow (belowD (Below.refl w2.heap.size w2)))); dsimp only at x0 x1 x2 x3 x4 x5 x6 x7 x8))
        all_goals
          go_wp2_with fail
          go_meet
          case rel =>
            refine Lib.hid ⟨⟨v3, ?_, HS2.out.trans (hs3.grow (belowD (Below.refl w2.heap.size w2)))⟩, HXo.out _ _ (HS2.out.trans (hs3.grow (belowD (Below.refl w2.heap.size w2))))⟩
            rw [HE.out]
            have h5 := h3
            simp only [List.append_assoc] at h5
            exact h5
      · have hE := headB_10' fi fg fn ff fa fb fs items.length h8
        have hL := HHd.out
        rw [hE] at hL
        (try simp only [List.length_append, atomB_len, numB_len, strB_len, List.length_cons, List.length_nil] at hL)
        have HL : Hid _ := Lib.hid hL
        have HE := Lib.hid hE
        clear hL hE
        have hq := bytesN H1.out HB1'.out [77] 1 rfl (by have := HL.out; have := HNd.out; (try simp only [List.length_append, atomB_len, numB_len, strB_len, List.length_cons, List.length_nil]); omega)
        have e : (([77] : List UInt8).flatMap encB).toArray = #[.int .u8 77] := by rfl
        rw [e] at hq
        clear e
        have HQ := Lib.hid hq
        clear hq
        go_wp2_with fail
        refine HQ.out.mono ?_
        rintro e w1 ⟨rfl, v1, h1, hs1⟩
        clear x0 x1 x2 x3 x4 x5 x6 x7 x8 xf HQ
        have HW1 := Lib.hid h1
        have HS1 : Hid (WrS b v v1 W1 w1) := Lib.hid hs1
        clear h1 hs1
        obtain ⟨x0, x1, x2, x3, x4, x5, x6, x7, x8, xf⟩ := HX.out w1 v1 HS1.out
        dsimp only at x0 x1 x2 x3 x4 x5 x6 x7 x8
        have hq := number101 HW1.out (Nat.le_trans HB1'.out HS1.out.touch.size) fb.size 4 (by decide) (by have := HL.out; have := HNd.out; (try simp only [List.length_append, atomB_len, numB_len, strB_len, List.length_cons, List.length_nil]); omega)
        have HQ := Lib.hid hq
        clear hq
        go_wp2_with fail
        refine HQ.out.mono ?_
        rintro e w2 ⟨rfl, v2, h2, hs2⟩
        clear x0 x1 x2 x3 x4 x5 x6 x7 x8 xf HQ
        have HW2 := Lib.hid h2
        have HS2 : Hid (WrS b v v2 W1 w2) := Lib.hid (HS1.out.trans hs2)
        clear h2 hs2
        obtain ⟨x0, x1, x2, x3, x4, x5, x6, x7, x8, xf⟩ := HX.out w2 v2 HS2.out
        dsimp only at x0 x1 x2 x3 x4 x5 x6 x7 x8
        have hq := bytesN HW2.out (Nat.le_trans HB1'.out HS2.out.touch.size) [byteOf (fs.tmod 8)] 1 rfl (by have := HL.out; have := HNd.out; (try simp only [List.length_append, atomB_len, numB_len, strB_len, List.length_cons, List.length_nil]); omega)
        have e : (([byteOf (fs.tmod 8)] : List UInt8).flatMap encB).toArray = #[.int .u8 (fs.tmod 8 % 256)] := by rw [← byteOf_nat]; rfl
        rw [e] at hq
        clear e
        have HQ := Lib.hid hq
        clear hq
        go_wp2_with fail
        refine HQ.out.mono ?_
        rintro e w3 ⟨rfl, v3, h3, hs3⟩
        clear x0 x1 x2 x3 x4 x5 x6 x7 x8 xf HQ
        have HW3 := Lib.hid h3
        have HS3 : Hid (WrS b v v3 W1 w3) := Lib.hid (HS2.out.trans hs3)
        clear h3 hs3
        obtain ⟨x0, x1, x2, x3, x4, x5, x6, x7, x8, xf⟩ := HX.out w3 v3 HS3.out
        dsimp only at x0 x1 x2 x3 x4 x5 x6 x7 x8
        have hq := writeS102 HW3.out (Nat.le_trans HB1'.out HS3.out.touch.size) fb (by have := HL.out; have := HNd.out; (try simp only [List.length_append, atomB_len, numB_len, strB_len, List.length_cons, List.length_nil]); omega)
        have HQ := Lib.hid hq
        clear hq
        have HQd := Lib.hid (writeS102 (WrAt.same HW3.out (w' := w3.drew) rfl (fun _ _ => rfl)) (Nat.le_trans HB1'.out HS3.out.touch.size) fb (by have := HL.out; have := HNd.out; (try simp only [List.length_append, atomB_len, numB_len, strB_len, List.length_cons, List.length_nil]); omega))
        go_wp2_with fail
        go_region_held3 (fun w' => w'.cell? ⟨z, 7, none⟩ = some (.string fb)) (go_keep)
          (first | (go_at_call 102; refine HQd.out.mono ?_; rintro e w4 ⟨rfl, v4, h4, hs4⟩; obtain ⟨x0, x1, x2, x3, x4, x5, x6, x7, x8, xf⟩ := HX.out w4 v4 (HS3.out.trans (hs4.grow (belowD (Below.refl w3.heap.size w3)))); dsimp only at x0 x1 x2 x3 x4 x5 x6 x7 x8))
        all_goals
          go_wp2_with fail
          go_meet
          case rel =>
            refine Lib.hid ⟨⟨v4, ?_, HS3.out.trans (hs4.grow (belowD (Below.refl w3.heap.size w3)))⟩, HXo.out _ _ (HS3.out.trans (hs4.grow (belowD (Below.refl w3.heap.size w3))))⟩
            rw [HE.out]
            have h5 := h4
            simp only [List.append_assoc] at h5
            exact h5
    · have hE := headB_6 fi fg fn ff fa fb fs items.length
      have hL := HHd.out
      rw [hE] at hL
      (try simp only [List.length_append, atomB_len, numB_len, strB_len, List.length_cons, List.length_nil] at hL)
      have HL : Hid _ := Lib.hid hL
      have HE := Lib.hid hE
      clear hL hE
      have hq := bytesN H1.out HB1'.out [88] 1 rfl (by have := HL.out; have := HNd.out; (try simp only [List.length_append, atomB_len, numB_len, strB_len, List.length_cons, List.length_nil]); omega)
      have e : (([88] : List UInt8).flatMap encB).toArray = #[.int .u8 88] := by rfl
      rw [e] at hq
      clear e
      have HQ := Lib.hid hq
      clear hq
      go_wp2_with fail
      refine HQ.out.mono ?_
      rintro e w1 ⟨rfl, v1, h1, hs1⟩
      clear x0 x1 x2 x3 x4 x5 x6 x7 x8 xf HQ
      have HW1 := Lib.hid h1
      have HS1 : Hid (WrS b v v1 W1 w1) := Lib.hid hs1
      clear h1 hs1
      obtain ⟨x0, x1, x2, x3, x4, x5, x6, x7, x8, xf⟩ := HX.out w1 v1 HS1.out
      dsimp only at x0 x1 x2 x3 x4 x5 x6 x7 x8
      have hq := atom100 HW1.out (Nat.le_trans HB1'.out HS1.out.touch.size) fn (by have := HL.out; have := HNd.out; (try simp only [List.length_append, atomB_len, numB_len, strB_len, List.length_cons, List.length_nil]); omega)
      have HQ := Lib.hid hq
      clear hq
      go_wp2_with fail
      refine HQ.out.mono ?_
      rintro e w2 ⟨rfl, v2, h2, hs2⟩
      clear x0 x1 x2 x3 x4 x5 x6 x7 x8 xf HQ
      have HW2 := Lib.hid h2
      have HS2 : Hid (WrS b v v2 W1 w2) := Lib.hid (HS1.out.trans hs2)
      clear h2 hs2
      obtain ⟨x0, x1, x2, x3, x4, x5, x6, x7, x8, xf⟩ := HX.out w2 v2 HS2.out
      dsimp only at x0 x1 x2 x3 x4 x5 x6 x7 x8
      have hq := number101 HW2.out (Nat.le_trans HB1'.out HS2.out.touch.size) fi 4 (by decide) (by have := HL.out; have := HNd.out; (try simp only [List.length_append, atomB_len, numB_len, strB_len, List.length_cons, List.length_nil]); omega)
      have HQ := Lib.hid hq
      clear hq
      go_wp2_with fail
      refine HQ.out.mono ?_
      rintro e w3 ⟨rfl, v3, h3, hs3⟩
      clear x0 x1 x2 x3 x4 x5 x6 x7 x8 xf HQ
      have HW3 := Lib.hid h3
      have HS3 : Hid (WrS b v v3 W1 w3) := Lib.hid (HS2.out.trans hs3)
      clear h3 hs3
      obtain ⟨x0, x1, x2, x3, x4, x5, x6, x7, x8, xf⟩ := HX.out w3 v3 HS3.out
      dsimp only at x0 x1 x2 x3 x4 x5 x6 x7 x8
      have hq := number101 HW3.out (Nat.le_trans HB1'.out HS3.out.touch.size) 0 4 (by decide) (by have := HL.out; have := HNd.out; (try simp only [List.length_append, atomB_len, numB_len, strB_len, List.length_cons, List.length_nil]); omega)
      have HQ := Lib.hid hq
      clear hq
      go_wp2_with fail
      refine HQ.out.mono ?_
      rintro e w4 ⟨rfl, v4, h4, hs4⟩
      clear x0 x1 x2 x3 x4 x5 x6 x7 x8 xf HQ
      have HW4 := Lib.hid h4
      have HS4 : Hid (WrS b v v4 W1 w4) := Lib.hid (HS3.out.trans hs4)
      clear h4 hs4
      obtain ⟨x0, x1, x2, x3, x4, x5, x6, x7, x8, xf⟩ := HX.out w4 v4 HS4.out
      dsimp only at x0 x1 x2 x3 x4 x5 x6 x7 x8
      have hq := number101 HW4.out (Nat.le_trans HB1'.out HS4.out.touch.size) fg 4 (by decide) (by have := HL.out; have := HNd.out; (try simp only [List.length_append, atomB_len, numB_len, strB_len, List.length_cons, List.length_nil]); omega)
      have HQ := Lib.hid hq
      clear hq
      go_wp2_with fail
      refine HQ.out.mono ?_
      rintro e w5 ⟨rfl, v5, h5, hs5⟩
      clear x0 x1 x2 x3 x4 x5 x6 x7 x8 xf HQ
      have HW5 := Lib.hid h5
      have HS5 : Hid (WrS b v v5 W1 w5) := Lib.hid (HS4.out.trans hs5)
      clear h5 hs5
      obtain ⟨x0, x1, x2, x3, x4, x5, x6, x7, x8, xf⟩ := HX.out w5 v5 HS5.out
      dsimp only at x0 x1 x2 x3 x4 x5 x6 x7 x8
      go_wp2_with fail
      go_meet
      case rel =>
        refine Lib.hid ⟨⟨v5, ?_, HS5.out⟩, HXo.out _ _ HS5.out⟩
        rw [HE.out]
        have h5 := HW5.out
        (try simp only [List.append_assoc] at h5)
        exact h5
    · have hE := headB_3 fi fg fn ff fa fb fs items.length
      have hL := HHd.out
      rw [hE] at hL
      (try simp only [List.length_append, atomB_len, numB_len, strB_len, List.length_cons, List.length_nil] at hL)
      have HL : Hid _ := Lib.hid hL
      have HE := Lib.hid hE
      clear hL hE
      have hq := bytesN H1.out HB1'.out [90, 0, 1] 3 rfl (by have := HL.out; have := HNd.out; (try simp only [List.length_append, atomB_len, numB_len, strB_len, List.length_cons, List.length_nil]); omega)
      have e : (([90, 0, 1] : List UInt8).flatMap encB).toArray = #[.int .u8 90, .int .u8 0, .int .u8 1] := by rfl
      rw [e] at hq
      clear e
      have HQ := Lib.hid hq
      clear hq
      go_wp2_with fail
      refine HQ.out.mono ?_
      rintro e w1 ⟨rfl, v1, h1, hs1⟩
      clear x0 x1 x2 x3 x4 x5 x6 x7 x8 xf HQ
      have HW1 := Lib.hid h1
      have HS1 : Hid (WrS b v v1 W1 w1) := Lib.hid hs1
      clear h1 hs1
      obtain ⟨x0, x1, x2, x3, x4, x5, x6, x7, x8, xf⟩ := HX.out w1 v1 HS1.out
      dsimp only at x0 x1 x2 x3 x4 x5 x6 x7 x8
      have hq := atom100 HW1.out (Nat.le_trans HB1'.out HS1.out.touch.size) fn (by have := HL.out; have := HNd.out; (try simp only [List.length_append, atomB_len, numB_len, strB_len, List.length_cons, List.length_nil]); omega)
      have HQ := Lib.hid hq
      clear hq
      go_wp2_with fail
      refine HQ.out.mono ?_
      rintro e w2 ⟨rfl, v2, h2, hs2⟩
      clear x0 x1 x2 x3 x4 x5 x6 x7 x8 xf HQ
      have HW2 := Lib.hid h2
      have HS2 : Hid (WrS b v v2 W1 w2) := Lib.hid (HS1.out.trans hs2)
      clear h2 hs2
      obtain ⟨x0, x1, x2, x3, x4, x5, x6, x7, x8, xf⟩ := HX.out w2 v2 HS2.out
      dsimp only at x0 x1 x2 x3 x4 x5 x6 x7 x8
      have hq := number101 HW2.out (Nat.le_trans HB1'.out HS2.out.touch.size) fg 4 (by decide) (by have := HL.out; have := HNd.out; (try simp only [List.length_append, atomB_len, numB_len, strB_len, List.length_cons, List.length_nil]); omega)
      have HQ := Lib.hid hq
      clear hq
      go_wp2_with fail
      refine HQ.out.mono ?_
      rintro e w3 ⟨rfl, v3, h3, hs3⟩
      clear x0 x1 x2 x3 x4 x5 x6 x7 x8 xf HQ
      have HW3 := Lib.hid h3
      have HS3 : Hid (WrS b v v3 W1 w3) := Lib.hid (HS2.out.trans hs3)
      clear h3 hs3
      obtain ⟨x0, x1, x2, x3, x4, x5, x6, x7, x8, xf⟩ := HX.out w3 v3 HS3.out
      dsimp only at x0 x1 x2 x3 x4 x5 x6 x7 x8
      have hq := number101 HW3.out (Nat.le_trans HB1'.out HS3.out.touch.size) fi 4 (by decide) (by have := HL.out; have := HNd.out; (try simp only [List.length_append, atomB_len, numB_len, strB_len, List.length_cons, List.length_nil]); omega)
      have HQ := Lib.hid hq
      clear hq
      go_wp2_with fail
      refine HQ.out.mono ?_
      rintro e w4 ⟨rfl, v4, h4, hs4⟩
      clear x0 x1 x2 x3 x4 x5 x6 x7 x8 xf HQ
      have HW4 := Lib.hid h4
      have HS4 : Hid (WrS b v v4 W1 w4) := Lib.hid (HS3.out.trans hs4)
      clear h4 hs4
      obtain ⟨x0, x1, x2, x3, x4, x5, x6, x7, x8, xf⟩ := HX.out w4 v4 HS4.out
      dsimp only at x0 x1 x2 x3 x4 x5 x6 x7 x8
      go_wp2_with fail
      go_meet
      case rel =>
        refine Lib.hid ⟨⟨v4, ?_, HS4.out⟩, HXo.out _ _ HS4.out⟩
        rw [HE.out]
        have h5 := HW4.out
        (try simp only [List.append_assoc] at h5)
        exact h5
    · have hE := headB_5 fi fg fn ff fa fb fs items.length
      have hL := HHd.out
      rw [hE] at hL
      (try simp only [List.length_append, atomB_len, numB_len, strB_len, List.length_cons, List.length_nil] at hL)
      have HL : Hid _ := Lib.hid hL
      have HE := Lib.hid hE
      clear hL hE
      have hq := bytesN H1.out HB1'.out [113] 1 rfl (by have := HL.out; have := HNd.out; (try simp only [List.length_append, atomB_len, numB_len, strB_len, List.length_cons, List.length_nil]); omega)
      have e : (([113] : List UInt8).flatMap encB).toArray = #[.int .u8 113] := by rfl
      rw [e] at hq
      clear e
      have HQ := Lib.hid hq
      clear hq
      go_wp2_with fail
      refine HQ.out.mono ?_
      rintro e w1 ⟨rfl, v1, h1, hs1⟩
      clear x0 x1 x2 x3 x4 x5 x6 x7 x8 xf HQ
      have HW1 := Lib.hid h1
      have HS1 : Hid (WrS b v v1 W1 w1) := Lib.hid hs1
      clear h1 hs1
      obtain ⟨x0, x1, x2, x3, x4, x5, x6, x7, x8, xf⟩ := HX.out w1 v1 HS1.out
      dsimp only at x0 x1 x2 x3 x4 x5 x6 x7 x8
      have hq := atom100 HW1.out (Nat.le_trans HB1'.out HS1.out.touch.size) fn (by have := HL.out; have := HNd.out; (try simp only [List.length_append, atomB_len, numB_len, strB_len, List.length_cons, List.length_nil]); omega)
      have HQ := Lib.hid hq
      clear hq
      go_wp2_with fail
      refine HQ.out.mono ?_
      rintro e w2 ⟨rfl, v2, h2, hs2⟩
      clear x0 x1 x2 x3 x4 x5 x6 x7 x8 xf HQ
      have HW2 := Lib.hid h2
      have HS2 : Hid (WrS b v v2 W1 w2) := Lib.hid (HS1.out.trans hs2)
      clear h2 hs2
      obtain ⟨x0, x1, x2, x3, x4, x5, x6, x7, x8, xf⟩ := HX.out w2 v2 HS2.out
      dsimp only at x0 x1 x2 x3 x4 x5 x6 x7 x8
      have hq := atom100 HW2.out (Nat.le_trans HB1'.out HS2.out.touch.size) ff (by have := HL.out; have := HNd.out; (try simp only [List.length_append, atomB_len, numB_len, strB_len, List.length_cons, List.length_nil]); omega)
      have HQ := Lib.hid hq
      clear hq
      go_wp2_with fail
      refine HQ.out.mono ?_
      rintro e w3 ⟨rfl, v3, h3, hs3⟩
      clear x0 x1 x2 x3 x4 x5 x6 x7 x8 xf HQ
      have HW3 := Lib.hid h3
      have HS3 : Hid (WrS b v v3 W1 w3) := Lib.hid (HS2.out.trans hs3)
      clear h3 hs3
      obtain ⟨x0, x1, x2, x3, x4, x5, x6, x7, x8, xf⟩ := HX.out w3 v3 HS3.out
      dsimp only at x0 x1 x2 x3 x4 x5 x6 x7 x8
      have hq := integer99 HW3.out (Nat.le_trans HB1'.out HS3.out.touch.size) fa (by have := HL.out; have := HNd.out; (try simp only [List.length_append, atomB_len, numB_len, strB_len, List.length_cons, List.length_nil]); omega)
      have HQ := Lib.hid hq
      clear hq
      go_wp2_with fail
      refine HQ.out.mono ?_
      rintro e w4 ⟨rfl, v4, h4, hs4⟩
      clear x0 x1 x2 x3 x4 x5 x6 x7 x8 xf HQ
      have HW4 := Lib.hid h4
      have HS4 : Hid (WrS b v v4 W1 w4) := Lib.hid (HS3.out.trans hs4)
      clear h4 hs4
      obtain ⟨x0, x1, x2, x3, x4, x5, x6, x7, x8, xf⟩ := HX.out w4 v4 HS4.out
      dsimp only at x0 x1 x2 x3 x4 x5 x6 x7 x8
      go_wp2_with fail
      go_meet
      case rel =>
        refine Lib.hid ⟨⟨v4, ?_, HS4.out⟩, HXo.out _ _ HS4.out⟩
        rw [HE.out]
        have h5 := HW4.out
        (try simp only [List.append_assoc] at h5)
        exact h5
    · have hE := headB_4 fi fg fn ff fa fb fs items.length
      have hL := HHd.out
      rw [hE] at hL
      (try simp only [List.length_append, atomB_len, numB_len, strB_len, List.length_cons, List.length_nil] at hL)
      have HL : Hid _ := Lib.hid hL
      have HE := Lib.hid hE
      clear hL hE
      have hq := bytesN H1.out HB1'.out [112, byteOf fa] 2 rfl (by have := HL.out; have := HNd.out; (try simp only [List.length_append, atomB_len, numB_len, strB_len, List.length_cons, List.length_nil]); omega)
      have e : (([112, byteOf fa] : List UInt8).flatMap encB).toArray = #[.int .u8 112, .int .u8 (fa % 256)] := by rw [← byteOf_nat]; rfl
      rw [e] at hq
      clear e
      have HQ := Lib.hid hq
      clear hq
      go_wp2_with fail
      refine HQ.out.mono ?_
      rintro e w1 ⟨rfl, v1, h1, hs1⟩
      clear x0 x1 x2 x3 x4 x5 x6 x7 x8 xf HQ
      have HW1 := Lib.hid h1
      have HS1 : Hid (WrS b v v1 W1 w1) := Lib.hid hs1
      clear h1 hs1
      obtain ⟨x0, x1, x2, x3, x4, x5, x6, x7, x8, xf⟩ := HX.out w1 v1 HS1.out
      dsimp only at x0 x1 x2 x3 x4 x5 x6 x7 x8
      have hq := number101 HW1.out (Nat.le_trans HB1'.out HS1.out.touch.size) fi 2 (by decide) (by have := HL.out; have := HNd.out; (try simp only [List.length_append, atomB_len, numB_len, strB_len, List.length_cons, List.length_nil]); omega)
      have HQ := Lib.hid hq
      clear hq
      go_wp2_with fail
      refine HQ.out.mono ?_
      rintro e w2 ⟨rfl, v2, h2, hs2⟩
      clear x0 x1 x2 x3 x4 x5 x6 x7 x8 xf HQ
      have HW2 := Lib.hid h2
      have HS2 : Hid (WrS b v v2 W1 w2) := Lib.hid (HS1.out.trans hs2)
      clear h2 hs2
      obtain ⟨x0, x1, x2, x3, x4, x5, x6, x7, x8, xf⟩ := HX.out w2 v2 HS2.out
      dsimp only at x0 x1 x2 x3 x4 x5 x6 x7 x8
      have hq := bytesN HW2.out (Nat.le_trans HB1'.out HS2.out.touch.size) [byteOf items.length] 1 rfl (by have := HL.out; have := HNd.out; (try simp only [List.length_append, atomB_len, numB_len, strB_len, List.length_cons, List.length_nil]); omega)
      have e : (([byteOf items.length] : List UInt8).flatMap encB).toArray = #[.int .u8 ((items.length : Int) % 256)] := by rw [← byteOf_nat]; rfl
      rw [e] at hq
      clear e
      have HQ := Lib.hid hq
      clear hq
      go_wp2_with fail
      refine HQ.out.mono ?_
      rintro e w3 ⟨rfl, v3, h3, hs3⟩
      clear x0 x1 x2 x3 x4 x5 x6 x7 x8 xf HQ
      have HW3 := Lib.hid h3
      have HS3 : Hid (WrS b v v3 W1 w3) := Lib.hid (HS2.out.trans hs3)
      clear h3 hs3
      obtain ⟨x0, x1, x2, x3, x4, x5, x6, x7, x8, xf⟩ := HX.out w3 v3 HS3.out
      dsimp only at x0 x1 x2 x3 x4 x5 x6 x7 x8
      have hq := atom100 HW3.out (Nat.le_trans HB1'.out HS3.out.touch.size) fn (by have := HL.out; have := HNd.out; (try simp only [List.length_append, atomB_len, numB_len, strB_len, List.length_cons, List.length_nil]); omega)
      have HQ := Lib.hid hq
      clear hq
      go_wp2_with fail
      refine HQ.out.mono ?_
      rintro e w4 ⟨rfl, v4, h4, hs4⟩
      clear x0 x1 x2 x3 x4 x5 x6 x7 x8 xf HQ
      have HW4 := Lib.hid h4
      have HS4 : Hid (WrS b v v4 W1 w4) := Lib.hid (HS3.out.trans hs4)
      clear h4 hs4
      obtain ⟨x0, x1, x2, x3, x4, x5, x6, x7, x8, xf⟩ := HX.out w4 v4 HS4.out
      dsimp only at x0 x1 x2 x3 x4 x5 x6 x7 x8
      have hq := number101 HW4.out (Nat.le_trans HB1'.out HS4.out.touch.size) fg 4 (by decide) (by have := HL.out; have := HNd.out; (try simp only [List.length_append, atomB_len, numB_len, strB_len, List.length_cons, List.length_nil]); omega)
      have HQ := Lib.hid hq
      clear hq
      go_wp2_with fail
      refine HQ.out.mono ?_
      rintro e w5 ⟨rfl, v5, h5, hs5⟩
      clear x0 x1 x2 x3 x4 x5 x6 x7 x8 xf HQ
      have HW5 := Lib.hid h5
      have HS5 : Hid (WrS b v v5 W1 w5) := Lib.hid (HS4.out.trans hs5)
      clear h5 hs5
      obtain ⟨x0, x1, x2, x3, x4, x5, x6, x7, x8, xf⟩ := HX.out w5 v5 HS5.out
      dsimp only at x0 x1 x2 x3 x4 x5 x6 x7 x8
      go_wp2_with fail
      go_meet
      case rel =>
        refine Lib.hid ⟨⟨v5, ?_, HS5.out⟩, HXo.out _ _ HS5.out⟩
        rw [HE.out]
        have h5 := HW5.out
        (try simp only [List.append_assoc] at h5)
        exact h5
  case rest =>
    obtain ⟨⟨v1, h1, hs1⟩, hz1⟩ := hcut.out
    clear hcut x0 x1 x2 x3 x4 x5 x6 x7 x8 xf hk HX HXo HK2
    have HS1 := Lib.hid hs1
    obtain ⟨x0, x1, x2, x3, x4, x5, x6, x7, x8, xf⟩ := nine_of hz1
    dsimp only at x0 x1 x2 x3 x4 x5 x6 x7 x8
    have HLh : Hid ((l ++ headB ⟨fk, fi, fg, fn, ff, fa, fb, fs⟩ items.length).length + 3000 * nodesL n items ≤ 900000000) := Lib.hid (by rw [List.length_append]; have := HNd.out; have := HHd.out; omega)
    have HItc : Hid (ItemsAt wc B n (.slice p items.length c) items) := Lib.hid (HItems.out _ ((HBw.out.mono HB1.out.1).trans (hs1.low h1.hb (fun k hk => HZb.out.2.2 k hk) (by have := HB1.out; omega))))
    clear hs1 hz1 HHd HNd HItems HIt HZb
    have hbz : B ≤ wc.heap.size := Nat.le_trans HB1.out.1 (by have := HS1.out.touch.size; have := HB1.out.2; omega)
    have HQe : Hid (∀ W', WrQ B b v1 (l ++ headB ⟨fk, fi, fg, fn, ff, fa, fb, fs⟩ items.length ++ encL n items) wc W' → WrQ B b v (l ++ (headB ⟨fk, fi, fg, fn, ff, fa, fb, fs⟩ items.length ++ encL n items)) w W') := Lib.hid (fun W' ⟨v2, h2, hs2⟩ => ⟨v2, by rw [← List.append_assoc]; exact h2, (HS1.out.trans hs2).grow (by rw [HZs.out]; exact HBw.out)⟩)
    generalize l ++ headB ⟨fk, fi, fg, fn, ff, fa, fb, fs⟩ items.length = l1 at *
    have H1c := Lib.hid h1
    have H00 : Hid (LoopI B b v1 l1 items wc items.length (.int .i64 0) wc) := Lib.hid ⟨0, rfl, Nat.zero_le _, rfl, v1, by rw [List.take_zero, encL_nil, List.append_nil]; exact h1, WrS.refl _ _ _⟩
    clear h1 HS1
    go_wp2_with fail
    go_loopg [163] items.length (fun m iv wr => Hid (LoopI B b v1 l1 items wc m iv wr))
    case atStart => exact H00
    case round =>
      obtain ⟨i, rfl, hi, hm, v2, h2, hs2⟩ := hrel.out
      clear hrel H00
      have HM := Lib.hid hm
      have HS2 := Lib.hid hs2
      clear hm
      by_cases hlt : i < items.length
      · have hlo : Below B wc wr := hs2.low H1c.out.hb (fun k hk => (H1c.out.row.lt hk).1) hbz
        have hz2 : B ≤ wr.heap.size := Nat.le_trans hbz hs2.touch.size
        have hfl : formedL n (items.take i) = true := formed_take HFt.out i
        have hen := encL_len n (items.take i) hfl
        obtain ⟨g, o, x, q, mm, d, bs, rfl, hg, hC, hnx, hCall⟩ := termEl ih h2 hz2 (HItc.out.below hlo (Nat.le_refl _)) HFt.out i hlt (by have := HLh.out; rw [List.length_append]; omega)
        have HCall := Lib.hid hCall
        have HNx := Lib.hid hnx
        have HHz := Lib.hid (Nat.lt_of_lt_of_le hg hz2)
        clear hCall hnx hen hfl hz2 hg hlo h2
        obtain ⟨x0, x1, x2, x3, x4, x5, x6, x7, x8⟩ := hC
        obtain ⟨y0, y1, y2, y3, y4, y5, y6, y7⟩ := x
        dsimp only at x0 x1 x2 x3 x4 x5 x6 x7 x8
        unfold aggV at HCall
        dsimp only at HCall
        go_wp2_with fail
        have hb1 : Below wr.heap.size wr (wr.alloc (.cells #[.int .i64 y0, .int .i64 y1, .int .i64 y2, .string y3, .string y4, .int .i64 y5, .slice q mm d, .string y6, .int .i64 y7] 24)) := belowA (Below.refl _ _) _ (Nat.le_refl _)
        refine (HCall.out _ hb1).mono ?_
        rintro e w3 ⟨rfl, v3, h3, hs3⟩
        have HS3 : Hid (WrS b v2 v3 wr w3) := Lib.hid (hs3.grow hb1)
        have HW3 := Lib.hid h3
        clear hb1 hs3 h3 x0 x1 x2 x3 x4 x5 x6 x7 x8
        have hll := HLen.out
        go_wp2_with fail
        go_roundg (items.length - (i + 1))
        case measure => have := HM.out; omega
        case rel =>
          refine Lib.hid ⟨i + 1, by go_num, by omega, rfl, v3, ?_, HS2.out.trans HS3.out⟩
          rw [HNx.out, ← List.append_assoc]
          exact HW3.out
      · obtain rfl : i = items.length := by omega
        go_wp2_with fail
        go_end0
        rw [List.take_length] at h2
        exact ⟨rfl, HQe.out _ ⟨v2, h2, HS2.out⟩⟩
theorem termAll : ∀ n, TermS n := by
  intro n
  induction n with
  | zero => exact termStep (fun m h => by omega)
  | succ n ih => exact termStep (fun m h => by obtain rfl : n = m := by omega
                                               exact ih)
end Go.Proofs.YtfbggmbmgohiiaaGreat.tb
/- The writer's text; wire.Put. Conditions: as said. -/
namespace Go.Proofs.YtfbggmbmgohiiaaGreat.tb
open Go.RowKit mem rec tm names
set_option linter.unusedVariables false
set_option linter.unusedSimpArgs false
set_option maxHeartbeats 4000000
set_option maxRecDepth 100000
theorem cells5 : Tryz.prog.cellsOf 5 = 1 := by kernel_rfl
theorem string79 {w : World} {B b : Nat} {v : Value} {l : List UInt8} (h : WrAt w B b v l) (h0 : l ≠ []) : Calls Tryz.prog 79 #[.pointer (some ⟨b, 0, none⟩)] w fun e w' => e = .returned (.string ⟨l.toArray⟩) ∧ Below B w w' := by
  obtain ⟨⟨p, _, hbk⟩, hown, _, _⟩ := h
  have hl0 : l.length ≠ 0 := by simpa using h0
  obtain ⟨g, cap, cur, rfl, hbg, hg, hnc, hcm, hcs, htake⟩ : ∃ g cap cur, v = .slice (some ⟨g, 0, none⟩) l.length cap ∧ B ≤ g ∧ w.heap[g]? = some (.cells cur 5 (0, 0)) ∧ l.length ≤ cap ∧ cap ≤ maxLen ∧ cur.size = cap * 1 ∧ cur.toList.take (l.length * 1) = l.flatMap encB := by
    rcases hown.2 with ⟨_, hz⟩ | ⟨g, cap, cur, hv, r⟩
    · exact absurd hz hl0
    · exact ⟨g, cap, cur, hv, r⟩
  have c1 : w.drew.cell? ⟨b, 1, none⟩ = some (.slice (some ⟨g, 0, none⟩) l.length cap) := (two_cells (w := w.drew) hbk).2.1
  have hSD : (Builtin.unsafeSliceData_ #[86] 141 #[.slice (some ⟨g, 0, none⟩) l.length cap]).run Tryz.prog w.drew = .ok (.pointer (some ⟨g, 0, none⟩)) w.drew :=
    Lib.run_unsafeSliceData_row _ _ _ _ _ _ (by omega)
  have hUS : (Builtin.unsafeString_ #[141, 3] 9 #[.pointer (some ⟨g, 0, none⟩), .int .i64 l.length]).run Tryz.prog w.drew = .ok (.string ⟨l.toArray⟩) (w.drew.freeze ⟨g, 0, none⟩ l.length) := by
    refine Lib.run_unsafeString_row w.drew 141 3 9 5 Tryz.underlying141 cells5 g cur.size (by have hg' : w.drew.heap[g]? = some (.cells cur 5 (0, 0)) := hg; simp [World.shape?, hg']) l h0 (by omega) (by unfold maxLen at hcm; omega) ?_
    intro j x hx
    have := World.ownsRow.cells (g := g) hown rfl j (.int .u8 x.toNat) (by rw [encB_flat]; simp [Lib.byteCells, hx])
    exact this
  clear hbk hown hcs htake hg
  go_enter Tryz.func79, Tryz.ntmps79
  go_wp2
  go_region
  all_goals (go_wp2; go_ret; exact ⟨rfl, Lib.below_freeze (Below.drew (Below.refl B w)) (p := ⟨g, 0, none⟩) hbg _⟩)
theorem nodes_whole : ∀ (n : Nat) (l : List (Tm n)), formedL n l = true → (nodesL n l : Int) ≤ wholeL n l := by
  intro n
  induction n with
  | zero => intro l _; rw [Tm.nil0 l]; simp [nodesL, wholeL]
  | succ n ih =>
    intro l hf
    induction l with
    | nil => simp [nodesL, wholeL]
    | cons t l ih2 =>
      rw [formedL_cons, Bool.and_eq_true] at hf
      rw [nodesL_cons, wholeL_cons]
      have h1 := ih2 hf.2
      have h3 := ih t.items (formed_items hf.1)
      have h2 : 1 ≤ sizeF t.f t.items.length := (okT_size t (by unfold formedT at hf; rw [Bool.and_eq_true] at hf; exact hf.1.1)).1
      unfold nodesT wholeT
      omega
theorem nodes_valid {n : Nat} {t : Tm (n + 1)} (h : validT t = true) : nodesT t ≤ 2000 := by
  unfold validT at h
  rw [Bool.and_eq_true, decide_eq_true_eq] at h
  have h1 := nodes_whole n t.items (formed_items h.1)
  have h2 : 1 ≤ sizeF t.f t.items.length := (okT_size t (by have h3 := h.1; unfold formedT at h3; rw [Bool.and_eq_true] at h3; exact h3.1)).1
  have h3 := h.2
  unfold wholeT at h3
  unfold nodesT
  omega
theorem put46y {n : Nat} (w : World) (B : Nat) (v : Value) (t : Tm (n + 1)) (hB : B ≤ w.heap.size) (hI : ItemsAt w B n v t.items) (hv : validT t = true) :
    Calls Tryz.prog 46 #[aggV t.f v] w fun e w' => e = .returned (.tuple #[.string ⟨(131 :: encT t).toArray⟩, .int .i64 0]) ∧ Below w.heap.size w w' := by
  have hnod := nodes_valid hv
  have HV := Lib.hid (fun W (hb : Below w.heap.size w W) => ValidTm (ofAll n) W B v t (Nat.le_trans hB hb.size) (hI.below hb hB) (by omega))
  rw [hv] at HV
  have HT := Lib.hid (fun W b u l (hb : Below w.heap.size w W) (hl : l.length ≤ 100) (hW : WrAt W w.heap.size b u l) => termAll n W w.heap.size b u l v t hW hb.size ((hI.below hb hB).more hB) (valid_formed hv) (by omega))
  generalize encT t = bs at *
  obtain ⟨p, c, rfl, _, _⟩ := hI.shape
  generalize t.items.length = m at *
  generalize t.f = f at *
  clear hI hv hnod hB
  obtain ⟨fk, fi, fg, fn, ff, fa, fb, fs⟩ := f
  unfold aggV at *
  dsimp only at HV HT ⊢
  have hb0 := belowA (Below.refl w.heap.size w) (cells9 ⟨fk, fi, fg, fn, ff, fa, fb, fs⟩ (.slice p m c)) (Nat.le_refl _)
  have HZ := Lib.hid (alloc_new w (cells9 ⟨fk, fi, fg, fn, ff, fa, fb, fs⟩ (.slice p m c)))
  have hz1 := (Array.getElem?_eq_some_iff.1 HZ.out).1
  have HB0 := Lib.hid hb0
  have HX := Lib.hid (fun (W' : World) (hs : W'.heap[w.heap.size]? = (w.alloc (cells9 ⟨fk, fi, fg, fn, ff, fa, fb, fs⟩ (.slice p m c))).heap[w.heap.size]?) => (nine_of (hs.trans HZ.out) : Nine W' w.heap.size ⟨fk, fi, fg, fn, ff, fa, fb, fs⟩ (.slice p m c)))
  have HZ1 := Lib.hid hz1
  unfold cells9 at HX HB0 HZ HZ1
  dsimp only at HX HB0 HZ HZ1
  clear hb0 hz1
  go_enter Tryz.func46, Tryz.ntmps46
  go_upto_region 1 with (fail)
  generalize (w.alloc (.cells #[.int .i64 fk, .int .i64 fi, .int .i64 fg, .string fn, .string ff, .int .i64 fa, .slice p m c, .string fb, .int .i64 fs] 24)) = W1 at *
  obtain ⟨x0, x1, x2, x3, x4, x5, x6, x7, x8, xf⟩ := HX.out W1 rfl
  dsimp only at x0 x1 x2 x3 x4 x5 x6 x7 x8
  go_wp2_with fail
  refine (HV.out _ HB0.out).mono ?_
  rintro e w2 ⟨rfl, hb2⟩
  have HB2 := Lib.hid (hb2)
  have HBw2 := Lib.hid (HB0.out.trans (hb2.mono HB0.out.size))
  clear hb2 x0 x1 x2 x3 x4 x5 x6 x7 x8 xf
  go_upto_region 4 with (fail)
  have hw2 : WrAt (w2.alloc (.cells #[.pointer none, .slice none 0 0] 120)) w.heap.size w2.heap.size (.slice none 0 0) [] := ⟨⟨_, .inl rfl, alloc_new _ _⟩, RecOwn.nil _ _ _, by simp [Value.ownBlock], HBw2.out.size⟩
  have hb3 := belowA HBw2.out (.cells #[.pointer none, .slice none 0 0] 120) HBw2.out.size
  have hz3 : (w2.alloc (.cells #[.pointer none, .slice none 0 0] 120)).heap[w.heap.size]? = W1.heap[w.heap.size]? := (Below.heap_alloc _ _ _ (Nat.lt_of_lt_of_le HZ1.out HB2.out.size)).trans (HB2.out.block _ HZ1.out)
  have hzl : w.heap.size < (w2.alloc (.cells #[.pointer none, .slice none 0 0] 120)).heap.size ∧ w.heap.size ≠ w2.heap.size := by rw [World.size_alloc]; have := HB2.out.size; have := HZ1.out; exact ⟨by omega, by omega⟩
  generalize (w2.alloc (.cells #[.pointer none, .slice none 0 0] 120)) = w3 at *
  generalize w2.heap.size = b at *
  have hq := bytesN hw2 hb3.size [131] 1 rfl (by simp)
  have e : (([131] : List UInt8).flatMap encB).toArray = #[.int .u8 131] := rfl
  rw [e] at hq
  have HQ := Lib.hid hq
  have HB3 := Lib.hid hb3
  have HZ3 := Lib.hid hz3
  have HZl := Lib.hid hzl
  clear e hq hb3 hz3 hzl hw2
  go_wp2_with fail
  refine HQ.out.mono ?_
  rintro e w4 ⟨rfl, v4, h4, hs4⟩
  obtain ⟨x0, x1, x2, x3, x4, x5, x6, x7, x8, xf⟩ := HX.out w4 ((hs4.other HZl.out.1 HZl.out.2 (by simp [Value.ownBlock])).trans HZ3.out)
  dsimp only at x0 x1 x2 x3 x4 x5 x6 x7 x8
  have hb4 : Below w.heap.size w w4 := HB3.out.trans (hs4.low h4.hb (fun k hk => by simp [Value.ownBlock] at hk) HB3.out.size)
  have HC := Lib.hid (HT.out w4 b v4 _ hb4 (by simp) h4)
  have HB4 := Lib.hid hb4
  have HR4 := Lib.hid (fun k (hk : v4.ownBlock = some k) => (h4.row.lt hk).1)
  clear hb4 h4 hs4
  go_wp2_with fail
  refine HC.out.mono ?_
  rintro e w5 ⟨rfl, v5, h5, hs5⟩
  have HS := Lib.hid (string79 h5 (by simp))
  have HB5 : Hid (Below w.heap.size w w5) := Lib.hid (HB4.out.trans (hs5.low h5.hb HR4.out HB4.out.size))
  clear h5 hs5 x0 x1 x2 x3 x4 x5 x6 x7 x8 xf
  go_wp2_with fail
  refine HS.out.mono ?_
  rintro e w6 ⟨rfl, hb6⟩
  have HB6 : Hid (Below w.heap.size w w6) := Lib.hid (HB5.out.trans hb6)
  clear hb6
  go_wp2_with fail
  go_ret2
  exact ⟨rfl, HB6.out⟩
theorem put46n {n : Nat} (w : World) (B : Nat) (v : Value) (t : Tm (n + 1)) (hB : B ≤ w.heap.size) (hI : ItemsAt w B n v t.items) (hss : 300 * (nodesT t : Int) ≤ 1000000000000) (hv : validT t = false) :
    Calls Tryz.prog 46 #[aggV t.f v] w fun e w' => e = .returned (.tuple #[.string ⟨#[]⟩, .int .i64 2]) ∧ Below w.heap.size w w' := by
  have HV := Lib.hid (fun W (hb : Below w.heap.size w W) => ValidTm (ofAll n) W B v t (Nat.le_trans hB hb.size) (hI.below hb hB) hss)
  rw [hv] at HV
  obtain ⟨p, c, rfl, _, _⟩ := hI.shape
  generalize t.items.length = m at *
  generalize t.f = f at *
  clear hI hv hB hss
  obtain ⟨fk, fi, fg, fn, ff, fa, fb, fs⟩ := f
  unfold aggV at *
  dsimp only at HV ⊢
  have HB0 := Lib.hid (belowA (Below.refl w.heap.size w) (cells9 ⟨fk, fi, fg, fn, ff, fa, fb, fs⟩ (.slice p m c)) (Nat.le_refl _))
  have hx := nine_of (alloc_new w (cells9 ⟨fk, fi, fg, fn, ff, fa, fb, fs⟩ (.slice p m c)))
  unfold cells9 at hx HB0
  dsimp only at hx HB0
  obtain ⟨x0, x1, x2, x3, x4, x5, x6, x7, x8, xf⟩ := hx
  dsimp only at x0 x1 x2 x3 x4 x5 x6 x7 x8
  go_enter Tryz.func46, Tryz.ntmps46
  go_wp2_with fail
  refine (HV.out _ HB0.out).mono ?_
  rintro e w2 ⟨rfl, hb2⟩
  have HBw2 := Lib.hid (HB0.out.trans (hb2.mono HB0.out.size))
  clear hb2 x0 x1 x2 x3 x4 x5 x6 x7 x8 xf
  go_wp2_with fail
  go_ret2
  exact ⟨rfl, HBw2.out⟩
end Go.Proofs.YtfbggmbmgohiiaaGreat.tb
/- Hash of tables. Conditions: the term lies in memory. -/
namespace Go.Proofs.YtfbggmbmgohiiaaGreat.tb
open Go.RowKit mem rec tm names
set_option linter.unusedVariables false
set_option linter.unusedSimpArgs false
set_option maxHeartbeats 4000000
set_option maxRecDepth 100000
noncomputable def hashT {n : Nat} (t : Tm (n + 1)) : Int := if validT t then hashB (131 :: encT t) else 0
def HashI (l : List UInt8) (w : World) (m : Nat) (sv iv : Value) (wr : World) : Prop := ∃ i : Nat, iv = .int .i64 (i : Int) ∧ i ≤ l.length ∧ m = l.length - i ∧ sv = .int .u32 (crcL (l.take i)) ∧ wr = w
def BitI (s : Int) (w : World) (m : Nat) (sv iv : Value) (wr : World) : Prop := ∃ i : Nat, iv = .int .i64 (i : Int) ∧ i ≤ 8 ∧ m = 8 - i ∧ sv = .int .u32 (crcN i s) ∧ wr = w
theorem hash12y {n : Nat} (w : World) (B : Nat) (v : Value) (t : Tm (n + 1)) (hB : B ≤ w.heap.size) (hI : ItemsAt w B n v t.items) (hv : validT t = true) :
    Calls Tryz.prog 12 #[aggV t.f v] w fun e w' => e = .returned (.int .u32 (hashB (131 :: encT t))) ∧ Below w.heap.size w w' := by
  have HP := Lib.hid (fun W (hb : Below w.heap.size w W) => put46y W B v t (Nat.le_trans hB hb.size) (hI.below hb hB) hv)
  have hlen : (131 :: encT t).length ≤ 10000000 := by
    have h1 := encL_len n t.items (formed_items (valid_formed hv))
    have h2 := headB_len (valid_formed hv)
    have h3 := nodes_valid hv
    have h4 : nodesT t = 1 + nodesL n t.items := rfl
    unfold encT
    simp
    omega
  generalize 131 :: encT t = l at *
  obtain ⟨p, c, rfl, _, _⟩ := hI.shape
  generalize t.items.length = m at *
  generalize t.f = f at *
  clear hI hv hB
  obtain ⟨fk, fi, fg, fn, ff, fa, fb, fs⟩ := f
  unfold aggV at *
  dsimp only at HP ⊢
  have HB0 := Lib.hid (belowA (Below.refl w.heap.size w) (cells9 ⟨fk, fi, fg, fn, ff, fa, fb, fs⟩ (.slice p m c)) (Nat.le_refl _))
  have hx := nine_of (alloc_new w (cells9 ⟨fk, fi, fg, fn, ff, fa, fb, fs⟩ (.slice p m c)))
  unfold cells9 at hx HB0
  dsimp only at hx HB0
  obtain ⟨x0, x1, x2, x3, x4, x5, x6, x7, x8, xf⟩ := hx
  dsimp only at x0 x1 x2 x3 x4 x5 x6 x7 x8
  go_enter Tryz.func12, Tryz.ntmps12
  go_wp2_with fail
  refine (HP.out _ HB0.out).mono ?_
  rintro e w2 ⟨rfl, hb2⟩
  have HBw2 := Lib.hid (HB0.out.trans (hb2.mono HB0.out.size))
  clear hb2 x0 x1 x2 x3 x4 x5 x6 x7 x8 xf
  have hcv := Lib.run_convert_string_bytes w2 9 86 5 ⟨l.toArray⟩ Tryz.underlying9 Tryz.underlying86 Tryz.underlying5
  go_wp2_with fail
  have hc3 : ∀ j, (h : j < l.length) → (Lib.bytesWorld w2 5 ⟨l.toArray⟩).cell? ⟨w2.heap.size, j, none⟩ = some (.int .u8 l[j].toNat) := fun j hj => by
    rw [Lib.bytesWorld_cell w2 5 ⟨l.toArray⟩ j (by show j < l.toArray.size; simpa using hj)]
    simp [List.getD, hj]
  have hb3 : Below w2.heap.size w2 (Lib.bytesWorld w2 5 ⟨l.toArray⟩) := Lib.below_freeze (belowA (belowD (Below.refl w2.heap.size w2)) _ (Nat.le_refl _)) (Nat.le_refl _) _
  have HB3 := Lib.hid (belowCC HBw2.out hb3)
  have HC3 := Lib.hid hc3
  clear hc3 hb3 hcv
  generalize Lib.bytesWorld w2 5 ⟨l.toArray⟩ = w3 at *
  generalize w2.heap.size = z at *
  generalize grownCap w2 l.length 0 5 = cp at *
  have HLen := Lib.hid hlen
  have H00 : Hid (HashI l w3 l.length (.int .u32 4294967295) (.int .i64 0) w3) := Lib.hid ⟨0, rfl, Nat.zero_le _, rfl, rfl, rfl⟩
  go_loopg [5, 18] l.length (fun m sv iv wr => Hid (HashI l w3 m sv iv wr))
  case atStart => exact H00
  case round =>
    obtain ⟨i, rfl, hi, hm, rfl, rfl⟩ := hrel.out
    clear hrel H00
    have HM := Lib.hid hm
    clear hm
    by_cases hlt : i < l.length
    · have c0 := HC3.out i hlt
      have HTk := Lib.hid (crcL_take l i hlt)
      have hrg := crcL_rng (l.take i)
      generalize crcL (l.take i) = S at *
      generalize l[i] = ch at *
      have hch : (ch.toNat : Int) % 4294967296 = ch.toNat := by have := ch.toNat_lt; omega
      have hxr := xor_rng S ch.toNat
      have H01 : Hid (BitI (bits .xor .u32 S ch.toNat) wr 8 (.int .u32 (bits .xor .u32 S ch.toNat)) (.int .i64 0) wr) := Lib.hid ⟨0, rfl, by decide, rfl, rfl, rfl⟩
      go_wp2_with fail
      obtain ⟨s, hs⟩ : ∃ s, bits .xor .u32 S ch.toNat = s := ⟨_, rfl⟩
      rw [hs] at hxr H01 ⊢
      have HS := Lib.hid hs
      clear hs hch hrg c0
      go_loopg [5, 26] 8 (fun m sv iv wq => Hid (BitI s wr m sv iv wq))
      case atStart => exact H01
      case round =>
        obtain ⟨j, rfl, hj, hm, rfl, rfl⟩ := hrel.out
        clear hrel H01
        have HMj := Lib.hid hm
        clear hm
        by_cases hlj : j < 8
        · obtain ⟨r0, r1⟩ := crcN_rng j hxr.1 hxr.2
          have HSn := Lib.hid (crcN_snoc j s)
          generalize crcN j s = q at *
          have ha := and_one q r0 r1
          by_cases hq : q % 2 = 1
          · rw [hq] at ha
            have HO := Lib.hid (crc_odd hq)
            have hn : IntKind.u32.wrap (-1) = 4294967295 := rfl
            have hp : bits .and .u32 3988292384 4294967295 = 3988292384 := rfl
            go_wp2_with fail
            go_roundg (8 - (j + 1))
            case measure => have := HMj.out; omega
            case rel => exact Lib.hid ⟨j + 1, by go_num, by omega, rfl, by rw [HSn.out, ← HO.out], rfl⟩
          · have hq0 : q % 2 = 0 := by omega
            rw [hq0] at ha
            have HO := Lib.hid (crc_even r0 r1 hq0)
            have hp : bits .and .u32 3988292384 0 = 0 := rfl
            go_wp2_with fail
            go_roundg (8 - (j + 1))
            case measure => have := HMj.out; omega
            case rel => exact Lib.hid ⟨j + 1, by go_num, by omega, rfl, by rw [HSn.out, ← HO.out], rfl⟩
        · obtain rfl : j = 8 := by omega
          go_wp2_with fail
          go_roundg (l.length - (i + 1))
          case measure => have := HM.out; omega
          case rel => exact Lib.hid ⟨i + 1, by go_num, by omega, rfl, by rw [HTk.out]; unfold crcB; rw [HS.out], rfl⟩
    · obtain rfl : i = l.length := by omega
      rw [List.take_length]
      go_wp2_with fail
      go_ret
      refine ⟨?_, HB3.out⟩
      unfold hashB
      rw [xor_comm]
      rfl
theorem hash12n {n : Nat} (w : World) (B : Nat) (v : Value) (t : Tm (n + 1)) (hB : B ≤ w.heap.size) (hI : ItemsAt w B n v t.items) (hss : 300 * (nodesT t : Int) ≤ 1000000000000) (hv : validT t = false) :
    Calls Tryz.prog 12 #[aggV t.f v] w fun e w' => e = .returned (.int .u32 0) ∧ Below w.heap.size w w' := by
  have HP := Lib.hid (fun W (hb : Below w.heap.size w W) => put46n W B v t (Nat.le_trans hB hb.size) (hI.below hb hB) hss hv)
  obtain ⟨p, c, rfl, _, _⟩ := hI.shape
  generalize t.items.length = m at *
  generalize t.f = f at *
  clear hI hv hB hss
  obtain ⟨fk, fi, fg, fn, ff, fa, fb, fs⟩ := f
  unfold aggV at *
  dsimp only at HP ⊢
  have HB0 := Lib.hid (belowA (Below.refl w.heap.size w) (cells9 ⟨fk, fi, fg, fn, ff, fa, fb, fs⟩ (.slice p m c)) (Nat.le_refl _))
  have hx := nine_of (alloc_new w (cells9 ⟨fk, fi, fg, fn, ff, fa, fb, fs⟩ (.slice p m c)))
  unfold cells9 at hx HB0
  dsimp only at hx HB0
  obtain ⟨x0, x1, x2, x3, x4, x5, x6, x7, x8, xf⟩ := hx
  dsimp only at x0 x1 x2 x3 x4 x5 x6 x7 x8
  go_enter Tryz.func12, Tryz.ntmps12
  go_wp2_with fail
  refine (HP.out _ HB0.out).mono ?_
  rintro e w2 ⟨rfl, hb2⟩
  have HBw2 := Lib.hid (HB0.out.trans (hb2.mono HB0.out.size))
  clear hb2 x0 x1 x2 x3 x4 x5 x6 x7 x8 xf
  go_wp2_with fail
  go_ret
  exact ⟨rfl, HBw2.out⟩
theorem Hash12 {n : Nat} (w : World) (B : Nat) (v : Value) (t : Tm (n + 1)) (hB : B ≤ w.heap.size) (hI : ItemsAt w B n v t.items) (hss : 300 * (nodesT t : Int) ≤ 1000000000000) :
    Calls Tryz.prog 12 #[aggV t.f v] w fun e w' => e = .returned (.int .u32 (hashT t)) ∧ Below w.heap.size w w' := by
  cases hv : validT t with
  | false => unfold hashT; rw [hv]; exact hash12n w B v t hB hI hss hv
  | true => unfold hashT; rw [hv]; exact hash12y w B v t hB hI hv
theorem hashT_rng {n : Nat} (t : Tm (n + 1)) : 0 ≤ hashT t ∧ hashT t ≤ 4294967295 := by
  unfold hashT
  split
  · exact xor_rng _ _
  · exact ⟨by decide, by decide⟩
end Go.Proofs.YtfbggmbmgohiiaaGreat.tb
