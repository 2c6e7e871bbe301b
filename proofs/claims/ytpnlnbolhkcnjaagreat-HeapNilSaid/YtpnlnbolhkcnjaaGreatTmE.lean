
/- terms: what each kind requires. Conditions: the term's elements lie in memory. -/
import Derived.Test.YtpnlnbolhkcnjaaGreatNam
namespace Go
theorem RowKit.Below.drewN {B : Nat} {a w : World} (h : RowKit.Below B a w) (n : Nat) : RowKit.Below B a (w.drewN n) := ⟨h.os, h.tape, h.output, h.size, h.block⟩
end Go
namespace Go.Proofs.YtpnlnbolhkcnjaaGreat.tm
open Go.RowKit mem names
set_option linter.unusedVariables false
set_option linter.unusedSimpArgs false
set_option maxHeartbeats 1000000
set_option maxRecDepth 100000

def inB (n a b : Int) : Bool := decide (a ≤ n ∧ n ≤ b)
theorem inB_t {n a b : Int} (h : a ≤ n ∧ n ≤ b) : inB n a b = true := decide_eq_true h
theorem inB_f {n a b : Int} (h : ¬ (a ≤ n ∧ n ≤ b)) : inB n a b = false := decide_eq_false h
theorem within (n a b : Int) (w : World) : Calls Tryz.prog 255 #[.int .i64 n, .int .i64 a, .int .i64 b] w fun e w' => e = .returned (.bool (inB n a b)) ∧ w = w' := by
  by_cases h1 : a ≤ n
  · by_cases h2 : n ≤ b
    · rw [inB_t ⟨h1, h2⟩]
      have q1 : decide (a ≤ n) = true := decide_eq_true h1
      have q2 : decide (n ≤ b) = true := decide_eq_true h2
      go_enter Tryz.func255, Tryz.ntmps255
      go_wp2_with fail
      go_ret
      exact ⟨rfl, rfl⟩
    · rw [inB_f (fun h => h2 h.2)]
      have q1 : decide (a ≤ n) = true := decide_eq_true h1
      have q2 : decide (n ≤ b) = false := decide_eq_false h2
      go_enter Tryz.func255, Tryz.ntmps255
      go_wp2_with fail
      go_ret
      exact ⟨rfl, rfl⟩
  · rw [inB_f (fun h => h1 h.1)]
    have q1 : decide (a ≤ n) = false := decide_eq_false h1
    go_enter Tryz.func255, Tryz.ntmps255
    go_wp2_with fail
    go_ret
    exact ⟨rfl, rfl⟩

def zeroF : TF := ⟨0, 0, 0, ⟨#[]⟩, ⟨#[]⟩, 0, ⟨#[]⟩, 0⟩
def nilV : Value := .slice none 0 0
def lastByte (s : ByteArray) : Nat := (s.data.toList.getLastD 0).toNat
def okBits (f : TF) : Bool := inB f.bits 0 16384 && decide ((f.bytes.size : Int) = (f.bits + 7) / 8) && decide (f.bits % 8 = 0 ∨ lastByte f.bytes % 2 ^ (8 - (f.bits % 8).toNat) = 0)
def okF (f : TF) (n : Nat) (last : Int) : Bool :=
  if f.kind = 1 ∨ f.kind = 8 then true
  else if f.kind = 2 then vName f.name
  else if f.kind = 3 ∨ f.kind = 6 then inB f.int 1 2147483647 && (inB f.gen 1 2147483647 && vName f.name)
  else if f.kind = 4 then inB f.int 0 999 && (inB f.gen 1 2147483647 && (vName f.name && (inB f.arity 0 16 && decide (n ≤ 200))))
  else if f.kind = 5 then vName f.name && (vName f.func && inB f.arity 0 16)
  else if f.kind = 7 then decide (n ≤ 255)
  else if f.kind = 9 then decide (2 ≤ n) && decide (last ≠ 9)
  else if f.kind = 10 then okBits f
  else false
/-- the fields that a kind uses are struck -/
def bareF (f : TF) : TF :=
  if f.kind = 1 then { f with int := 0 }
  else if f.kind = 2 then { f with name := ⟨#[]⟩ }
  else if f.kind = 3 ∨ f.kind = 6 then { f with int := 0, gen := 0, name := ⟨#[]⟩ }
  else if f.kind = 4 then { f with int := 0, gen := 0, name := ⟨#[]⟩, arity := 0 }
  else if f.kind = 5 then { f with name := ⟨#[]⟩, func := ⟨#[]⟩, arity := 0 }
  else if f.kind = 10 then { f with bytes := ⟨#[]⟩, bits := 0 }
  else f
def bareV (f : TF) (v : Value) : Value := if f.kind = 4 ∨ f.kind = 7 ∨ f.kind = 9 then nilV else v
theorem bcell {W w1 : World} (hb : Below W.heap.size W w1) : (∀ b o, b < W.heap.size → w1.cell? ⟨b, o, none⟩ = W.cell? ⟨b, o, none⟩) ∧ (∀ b o, b < W.heap.size → w1.frozen? ⟨b, o, none⟩ = W.frozen? ⟨b, o, none⟩) :=
  ⟨fun b o h => hb.cell (p := ⟨b, o, none⟩) h, fun b o h => hb.frozen (p := ⟨b, o, none⟩) h⟩
def KPost (f : TF) (v : Value) (n : Nat) (last : Int) (w : World) (e : Ending) (w' : World) : Prop := e = .returned (.tuple #[aggV (bareF f) (bareV f v), .bool (okF f n last)]) ∧ Below w.heap.size w w'
theorem kp {f f' : TF} {v v' : Value} {n : Nat} {last : Int} {b : Bool} {w w' : World} (h1 : aggV (bareF f) (bareV f v) = aggV f' v') (h2 : okF f n last = b) (h3 : Below w.heap.size w w') : KPost f v n last w (.returned (.tuple #[aggV f' v', .bool b])) w' :=
  ⟨by rw [h1, h2], h3⟩

def cells9 (f : TF) (v : Value) : Obj := .cells #[.int .i64 f.kind, .int .i64 f.int, .int .i64 f.gen, .string f.name, .string f.func, .int .i64 f.arity, v, .string f.bytes, .int .i64 f.bits] 38
structure Nine (w : World) (z : Nat) (f : TF) (v : Value) : Prop where
  c0 : w.cell? ⟨z, 0, none⟩ = some (.int .i64 f.kind)
  c1 : w.cell? ⟨z, 1, none⟩ = some (.int .i64 f.int)
  c2 : w.cell? ⟨z, 2, none⟩ = some (.int .i64 f.gen)
  c3 : w.cell? ⟨z, 3, none⟩ = some (.string f.name)
  c4 : w.cell? ⟨z, 4, none⟩ = some (.string f.func)
  c5 : w.cell? ⟨z, 5, none⟩ = some (.int .i64 f.arity)
  c6 : w.cell? ⟨z, 6, none⟩ = some v
  c7 : w.cell? ⟨z, 7, none⟩ = some (.string f.bytes)
  c8 : w.cell? ⟨z, 8, none⟩ = some (.int .i64 f.bits)
  fz : ∀ o, w.frozen? ⟨z, o, none⟩ = false
theorem nine_of {w : World} {z : Nat} {f : TF} {v : Value} (h : w.heap[z]? = some (cells9 f v)) : Nine w z f v := by
  unfold cells9 at h
  refine ⟨?_, ?_, ?_, ?_, ?_, ?_, ?_, ?_, ?_, fun o => by simp only [World.frozen?, h]; simp⟩ <;> (simp only [World.cell?, h]; rfl)
/-- the boxes of a parameter and of a result, behind a call -/
theorem two_box {w w1 : World} {f : TF} {v : Value} (hb : Below ((w.alloc (cells9 f v)).alloc (cells9 zeroF nilV)).heap.size ((w.alloc (cells9 f v)).alloc (cells9 zeroF nilV)) w1) : Nine w1 w.heap.size f v ∧ Nine w1 (w.heap.size + 1) zeroF nilV ∧ Below w.heap.size w w1 := by
  have h1 := (MapKept.heap_alloc w (cells9 f v)).1
  have h2 := (MapKept.heap_alloc (w.alloc (cells9 f v)) (cells9 zeroF nilV)).1
  have h3 : ((w.alloc (cells9 f v)).alloc (cells9 zeroF nilV)).heap[w.heap.size]? = some (cells9 f v) := by rw [Below.heap_alloc _ _ _ (by simp)]; exact h1
  refine ⟨nine_of ((hb.block _ (by simp; omega)).trans h3), nine_of ((hb.block _ (by simp)).trans (by simpa using h2)), ?_⟩
  exact (((Below.refl _ w).alloc (Nat.le_refl _) _).alloc (by simp) _).trans (hb.mono (by simp; omega))
theorem Nine.below {w w1 : World} {z B : Nat} {f : TF} {v : Value} (h : Nine w z f v) (hb : Below B w w1) (hz : z < B) : Nine w1 z f v := by
  obtain ⟨h0, h1, h2, h3, h4, h5, h6, h7, h8, hz'⟩ := h
  have c := fun o => hb.cell (p := ⟨z, o, none⟩) hz
  exact ⟨(c 0).trans h0, (c 1).trans h1, (c 2).trans h2, (c 3).trans h3, (c 4).trans h4, (c 5).trans h5, (c 6).trans h6, (c 7).trans h7, (c 8).trans h8, fun o => (hb.frozen (p := ⟨z, o, none⟩) hz).trans (hz' o)⟩
end Go.Proofs.YtpnlnbolhkcnjaaGreat.tm
