/- Heap: the texts HpG,H,I,J,K,L,N,O. No condition beyond theirs. -/
import Derived.Test.YtpnlnbolhkcnjaaGreatHqA
import Derived.Test.YtpnlnbolhkcnjaaGreatCoG
import Derived.Laws.Tables
import Derived.Test.YtpnlnbolhkcnjaaGreatTmC
import Derived.Test.YtpnlnbolhkcnjaaGreatTmN
import Derived.Test.YtpnlnbolhkcnjaaGreatCoQ
import Derived.Test.YtpnlnbolhkcnjaaGreatTmD
namespace Go.Proofs.YtpnlnbolhkcnjaaGreat.hp
open Go.RowKit mem words rec
set_option linter.unusedVariables false
set_option linter.unusedSimpArgs false
set_option maxHeartbeats 4000000
set_option maxRecDepth 100000
theorem row_words {w : World} {B : Nat} {v : Value} {l : List Int} (h : RecAt encW 1 w B v l) : cl.WAt w B v l := by
  obtain ⟨p, c, e, h1, h2, h3⟩ := h
  refine ⟨p, c, e, h1, h2, fun hn => ?_⟩
  obtain ⟨g, o, e', hg, hc⟩ := h3 hn
  exact ⟨g, o, e', hg, fun j hj => by simpa using hc j _ (List.getElem?_eq_getElem hj) 0 _ rfl⟩
theorem row_flags {w : World} {B : Nat} {v : Value} {l : List Bool} (h : RecAt encF 1 w B v l) : cl.FAt w B v l := by
  obtain ⟨p, c, e, h1, h2, h3⟩ := h
  refine ⟨p, c, e, h1, h2, fun hn => ?_⟩
  obtain ⟨g, o, e', hg, hc⟩ := h3 hn
  exact ⟨g, o, e', hg, fun j hj => by simpa using hc j _ (List.getElem?_eq_getElem hj) 0 _ rfl⟩
def m1 : cl.Mm := ⟨[19, 11, 19, 1], [], 0⟩
def K1 : cl.Bk := ⟨[[19, 11], [19, 1]], []⟩
abbrev F1 : List Bool := [true, false, true, false]
theorem heap_in {w : World} {B z a b : Nat} {c : Int} {vY vF : Value} (h : HA w B z a b c vY vF [19, 11, 19, 1] F1) : cl.HeapIn w w.heap.size z m1 K1 := by
  refine ⟨⟨⟨vY, vF, (cell_of_blk h.blk).trans rfl, (cell_of_blk h.blk).trans rfl, row_words (h.y.row (encW_ok _)), ?_⟩, ?_, ?_, by decide⟩, ⟨⟨.slice none 0 0, .slice none 0 0, (cell_of_blk h.blk).trans rfl, (cell_of_blk h.blk).trans rfl, ?_, ?_⟩, ?_, ?_, by decide⟩⟩
  · have := row_flags (h.f.row (encF_ok _))
    exact this
  · refine ⟨rfl, ?_⟩
    intro o ho
    simp only [K1, List.mem_cons, List.not_mem_nil, or_false] at ho
    rcases ho with rfl | rfl
    · exact ⟨19, [11], rfl, by decide, by decide⟩
    · exact ⟨19, [1], rfl, by decide, by decide⟩
  · intro x hx
    simp only [m1, List.mem_cons, List.not_mem_nil, or_false] at hx
    rcases hx with rfl | rfl | rfl | rfl <;> decide
  · exact ⟨none, 0, rfl, Nat.le_refl _, by unfold maxLen; omega, fun h => absurd rfl h⟩
  · exact ⟨none, 0, rfl, Nat.le_refl _, by unfold maxLen; omega, fun h => absurd rfl h⟩
  · exact ⟨rfl, fun o ho => by simp [K1] at ho⟩
  · intro x hx
    simp [m1] at hx
theorem pt17 : cl.Pt K1 17 [19, 1] := ⟨by decide, .inr ⟨by decide, .inl ⟨by decide, rfl⟩⟩, by decide⟩
theorem pt1 : cl.Pt K1 1 [19, 11] := ⟨by decide, .inl ⟨by decide, rfl⟩, by decide⟩
theorem no11 : ¬ ∃ x, cl.Pt K1 11 x := by
  rintro ⟨x, h, _⟩
  revert h
  decide
theorem is17 {w : World} {B z a b : Nat} {c : Int} {vY vF : Value} (h : HA w B z a b c vY vF [19, 11, 19, 1] F1) :
    Calls Tryz.prog 85 #[.pointer (some ⟨z, 0, none⟩), .int .u64 17] w fun e w' => e = .returned (.bool true) ∧ Below w.heap.size w w' := by
  have HM := Lib.hid (made66 h)
  have HT : Hid (Calls Tryz.prog 134 #[.pointer (some ⟨z, 0, none⟩), .int .u64 17] w fun e w' => e = .returned (.bool true) ∧ Below w.heap.size w w') :=
    Lib.hid ((cl.term115 w w.heap.size z m1 K1 (heap_in h) 17 (by omega) (by omega)).mono fun e w' h => by
      obtain ⟨n, rfl, b, rfl, hb⟩ := h
      exact ⟨by rw [hb.2 (.inr (.inr (.inr ⟨_, pt17⟩)))], ⟨rfl, rfl, rfl, Nat.le_refl _, fun _ _ => rfl⟩⟩)
  have HA' := Lib.hid (fun W => words.AtomOf 17 (by omega) (by omega) W)
  have e1 : aoOk 17 = false := by decide
  have e2 : aoN 17 = 0 := by decide
  rw [e1, e2] at HA'
  clear h e1 e2
  go_enter Tryz.func85, Tryz.ntmps85
  go_wp2_with fail
  refine HM.out.mono ?_
  rintro e w1 ⟨rfl, rfl⟩
  go_wp2_with fail
  refine HT.out.mono ?_
  rintro e w1 ⟨rfl, hb⟩
  have HB := Lib.hid hb
  clear hb
  go_wp2_with fail
  refine (HA'.out _).mono ?_
  rintro e w2 ⟨rfl, rfl⟩
  go_wp2_with fail
  go_ret
  exact ⟨rfl, HB.out⟩
end Go.Proofs.YtpnlnbolhkcnjaaGreat.hp
namespace Go.Proofs.YtpnlnbolhkcnjaaGreat.hp
open Go.RowKit mem words rec
set_option linter.unusedVariables false
set_option linter.unusedSimpArgs false
set_option maxHeartbeats 4000000
set_option maxRecDepth 100000
theorem int153 (w : World) (n : Int) : Calls Tryz.prog 153 #[.int .i64 n] w fun e w' => e = .returned (flatT 1 n) ∧ Below w.heap.size w w' := by
  have HB := Lib.hid (fun o => belowA (Below.refl _ w) o)
  go_enter Tryz.func153, Tryz.ntmps153
  go_wp2_with fail
  exact bodyPost_ret (v := flatT 1 n) (by simp [results, Tryz.results153, go_sem, *]) rfl ⟨rfl, HB.out _⟩
theorem nil155 (w : World) : Calls Tryz.prog 155 #[] w fun e w' => e = .returned (flatT 8 0) ∧ Below w.heap.size w w' := by
  have HB := Lib.hid (fun o => belowA (Below.refl _ w) o)
  go_enter Tryz.func155, Tryz.ntmps155
  go_wp2_with fail
  exact bodyPost_ret (v := flatT 8 0) (by simp [results, Tryz.results155, go_sem, *]) rfl ⟨rfl, HB.out _⟩
section
variable {w : World} {B z a b : Nat} {c : Int} {vY vF : Value}
def ObY (l : List Int) (w : World) (e : Ending) (w' : World) : Prop := ∃ u, e = .returned (.tuple #[.int .i64 0, u, .bool true]) ∧ cl.WAt w' w.heap.size u l ∧ Below w.heap.size w w'
theorem obj_at (h : HA w B z a b c vY vF [19, 11, 19, 1] F1) {v : Int} {x : List Int} (v0 : 0 ≤ v) (v1 : v ≤ 18446744073709551615) (hp : cl.Pt K1 v x) (hk : cl.knd x = 0) (hw : cl.wds x = x) :
    Calls Tryz.prog 75 #[.pointer (some ⟨z, 0, none⟩), .int .u64 v] w (ObY x w) :=
  (cl.object96 w w.heap.size z m1 K1 (heap_in h) v v0 v1).mono fun e w' hh => by
    obtain ⟨n, rfl, ⟨y, u, hy, rfl, hu⟩ | ⟨hn, _⟩⟩ := hh
    · obtain rfl := cl.Pt.uniq (heap_in h).pos hy hp
      rw [hw] at hu
      exact ⟨u, by rw [hk], hu.drewN n, ⟨rfl, rfl, rfl, Nat.le_refl _, fun _ _ => rfl⟩⟩
    · exact absurd ⟨x, hp⟩ hn
theorem obj_no (h : HA w B z a b c vY vF [19, 11, 19, 1] F1) :
    Calls Tryz.prog 75 #[.pointer (some ⟨z, 0, none⟩), .int .u64 11] w fun e w' => e = .returned (.tuple #[.int .i64 0, .slice none 0 0, .bool false]) ∧ Below w.heap.size w w' :=
  (cl.object96 w w.heap.size z m1 K1 (heap_in h) 11 (by omega) (by omega)).mono fun e w' hh => by
    obtain ⟨n, rfl, ⟨y, u, hy, rfl, hu⟩ | ⟨hn, rfl⟩⟩ := hh
    · exact absurd ⟨y, hy⟩ no11
    · exact ⟨rfl, ⟨rfl, rfl, rfl, Nat.le_refl _, fun _ _ => rfl⟩⟩
abbrev kinds : Array Value := #[.int .i64 9, .int .i64 7, .int .i64 4, .int .i64 5, .int .i64 6, .int .i64 3, .int .i64 1, .int .i64 10, .int .i64 10]
theorem index163 (W : World) : (Instr.index 163 (.agg kinds) (.int .i64 0)).run Tryz.prog W = .ok (.int .i64 9) W := by
  have h3 : (Tryz.prog.info? 3).map (·.size) = some 1 := by kernel_rfl
  cases hi : Tryz.prog.info? 3 with
  | none => rw [hi] at h3; simp at h3
  | some i =>
    rw [hi] at h3
    have hs : i.size = 1 := by simpa using h3
    simp [Instr.index, run_underlying Tryz.underlying163, sizeOf, typeInfo, hi, hs, asInt, asIntOf, go_sem, kinds]
theorem kind46 (h : HA w B z a b c vY vF [19, 11, 19, 1] F1) :
    Calls Tryz.prog 46 #[.pointer (some ⟨z, 0, none⟩), .int .u64 17] w fun e w' => e = .returned (.int .i64 9) ∧ Below w.heap.size w w' := by
  have HI := Lib.hid (is17 h)
  have HH := Lib.hid h
  have HS := Lib.hid (fun W => words.SmallOf 17 (by omega) (by omega) W)
  have HA' := Lib.hid (fun W => words.AtomOf 17 (by omega) (by omega) W)
  have e1 : aoOk 17 = false := by decide
  have e2 : aoN 17 = 0 := by decide
  have e3 : soOk 17 = false := by decide
  have e4 : soN 17 = 0 := by decide
  rw [e1, e2] at HA'
  rw [e3, e4] at HS
  have hix := index163
  clear h e1 e2 e3 e4
  go_enter Tryz.func46, Tryz.ntmps46
  go_wp2_with fail
  refine HI.out.mono ?_
  rintro e w1 ⟨rfl, hb⟩
  have HO := Lib.hid (obj_at (HH.out.below hb) (by omega) (by omega) pt17 (by decide) (by decide))
  have HB := Lib.hid hb
  clear hb
  go_wp2_with fail
  refine (HS.out _).mono ?_
  rintro e w2 ⟨rfl, rfl⟩
  go_wp2_with fail
  refine (HA'.out _).mono ?_
  rintro e w2 ⟨rfl, rfl⟩
  go_wp2_with fail
  refine HO.out.mono ?_
  rintro e w3 ⟨u, rfl, _, hb3⟩
  have HB3 := Lib.hid (HB.out.trans (hb3.mono HB.out.size))
  clear hb3
  go_wp2_with fail
  go_ret
  exact ⟨rfl, HB3.out⟩
end
end Go.Proofs.YtpnlnbolhkcnjaaGreat.hp
namespace Go.Proofs.YtpnlnbolhkcnjaaGreat.hp
open Go.RowKit mem words rec
set_option linter.unusedVariables false
set_option linter.unusedSimpArgs false
set_option maxHeartbeats 4000000
set_option maxRecDepth 100000
theorem results_cell1 {fn : Func} {p : Tmp} {ty : TypeId} (h : fn.results = #[.cell p ty]) (tmps : Array Value) (P : Program) (w : World) :
    (results fn tmps).run P w = ((asAddr (tmps.getD p undef)).run P w).andThen fun a w₁ => (loadVar ty a).run P w₁ := by
  simp only [results, h]
  simp [Sem.run_bind, Result.andThen]
theorem range_blk {W : World} {g : Nat} {cs : List Value} {t : TypeId} {fz : Nat × Nat} (h : W.heap[g]? = some (.cells cs.toArray t fz)) : W.rangeAt g 0 cs := fun j v hj => by
  rw [Nat.zero_add, cell_of_blk h]
  simpa using hj
theorem ret_row {fn : Func} {p : Tmp} (h : fn.results = #[.cell p 38]) (tmps : Array Value) {g : Nat} (hp : tmps.getD p undef = .pointer (some ⟨g, 0, none⟩)) {W : World} {cs : List Value} (hl : cs.length = 9) (hc : W.rangeAt g 0 cs) :
    (results fn tmps).run Tryz.prog W = .ok (.agg cs.toArray) W := by
  rw [results_cell1 h, hp]
  simp only [asAddr, Sem.run_pure, Result.andThen_ok]
  exact run_loadVar_mid W g 0 38 cs _ hc Tryz.underlying38 rfl (by rw [hl]; kernel_rfl)
theorem below_setRow {B : Nat} {a w : World} (h : Below B a w) {g : Nat} (hg : B ≤ g) (cs : Array Value) : Below B a (w.setRow g cs) :=
  ⟨h.os, h.tape, h.output, by have := h.size; simpa using this, fun k hk => (setRow_other w g k _ (by omega)).trans (h.block k hk)⟩
abbrev zC : Array Value := flatC 0 0
theorem one9 (k n : Int) : (flatC k n).all (·.oneCell') = true := by
  simp [Value.oneCell']
theorem i38 : (Tryz.prog.info? 38).map (·.size) = some 9 := by kernel_rfl
theorem get19 (w : World) (p : Option Addr) : Calls Tryz.prog 86 #[.pointer p, .int .u64 19] w fun e w' => e = .returned (flatT 1 1) ∧ Below w.heap.size w w' := by
  have HS := Lib.hid (fun W => words.SmallOf 19 (by omega) (by omega) W)
  have e3 : soOk 19 = true := by decide
  have e4 : soN 19 = 1 := by decide
  rw [e3, e4] at HS
  have HI := Lib.hid (fun W => int153 W 1)
  have HZ := Lib.hid (heap_alloc_new w (.cells zC 38))
  have HB := Lib.hid (belowA (Below.refl _ w) (.cells zC 38))
  clear e3 e4
  go_enter Tryz.func86, Tryz.ntmps86
  go_wp2_with fail
  refine (HS.out _).mono ?_
  rintro e w1 ⟨rfl, rfl⟩
  go_wp2_with fail
  refine (HI.out _).mono ?_
  rintro e w1 ⟨rfl, hb⟩
  have HZ1 := Lib.hid ((hb.block w.heap.size (by rw [World.size_alloc]; omega)).trans HZ.out)
  have HB1 := Lib.hid (HB.out.trans (hb.mono HB.out.size))
  clear hb
  go_wp2_with (refine wpList_store_row rfl 38 (.tmp 4) (.tmp 22) rfl w.heap.size (flatC 1 1) rfl rfl 38 zC HZ1.out i38 rfl (one9 1 1) ?_)
  go_wp2_with fail
  refine bodyPost_ret (v := flatT 1 1) (ret_row rfl _ rfl (cs := flatL 1 1) rfl (range_blk (setRow_heap _ _ _ _ _ _ HZ1.out))) rfl ⟨rfl, below_setRow HB1.out (Nat.le_refl _) _⟩
theorem get11 {w : World} {B z a b : Nat} {c : Int} {vY vF : Value} (h : HA w B z a b c vY vF [19, 11, 19, 1] F1) : Calls Tryz.prog 86 #[.pointer (some ⟨z, 0, none⟩), .int .u64 11] w fun e w' => e = .returned (flatT 8 0) ∧ Below w.heap.size w w' := by
  have HS := Lib.hid (fun W => words.SmallOf 11 (by omega) (by omega) W)
  have HA' := Lib.hid (fun W => words.AtomOf 11 (by omega) (by omega) W)
  have e1 : aoOk 11 = false := by decide
  have e2 : aoN 11 = 0 := by decide
  have e3 : soOk 11 = false := by decide
  have e4 : soN 11 = 0 := by decide
  rw [e3, e4] at HS
  rw [e1, e2] at HA'
  have HI := Lib.hid (fun W => nil155 W)
  have HZ := Lib.hid (heap_alloc_new w (.cells zC 38))
  have HB := Lib.hid (belowA (Below.refl _ w) (.cells zC 38))
  have HO := Lib.hid (obj_no (h.below (belowA (Below.refl _ w) (.cells zC 38))))
  clear e1 e2 e3 e4 h
  go_enter Tryz.func86, Tryz.ntmps86
  go_wp2_with fail
  refine (HS.out _).mono ?_
  rintro e w1 ⟨rfl, rfl⟩
  go_wp2_with fail
  refine (HA'.out _).mono ?_
  rintro e w1 ⟨rfl, rfl⟩
  go_wp2_with fail
  refine HO.out.mono ?_
  rintro e w1 ⟨rfl, hb⟩
  have HZ1 := Lib.hid ((hb.block w.heap.size (by rw [World.size_alloc]; omega)).trans HZ.out)
  have HB1 := Lib.hid (HB.out.trans (hb.mono HB.out.size))
  have HSz : Hid (w.heap.size < w1.heap.size) := Lib.hid (by have := hb.size; rw [World.size_alloc] at this; omega)
  clear hb HO
  go_wp2_with fail
  refine (HI.out _).mono ?_
  rintro e w2 ⟨rfl, hb⟩
  have HZ2 := Lib.hid ((hb.block w.heap.size HSz.out).trans HZ1.out)
  have HB2 := Lib.hid (HB1.out.trans (hb.mono HB1.out.size))
  clear hb
  go_wp2_with (refine wpList_store_row rfl 38 (.tmp 4) (.tmp 44) rfl w.heap.size (flatC 8 0) rfl rfl 38 zC HZ2.out i38 rfl (one9 8 0) ?_)
  go_wp2_with fail
  refine bodyPost_ret (v := flatT 8 0) (ret_row rfl _ rfl (cs := flatL 8 0) rfl (range_blk (setRow_heap _ _ _ _ _ _ HZ2.out))) rfl ⟨rfl, below_setRow HB2.out (Nat.le_refl _) _⟩
end Go.Proofs.YtpnlnbolhkcnjaaGreat.hp
namespace Go.Proofs.YtpnlnbolhkcnjaaGreat.hp
open Go.RowKit mem words rec
set_option linter.unusedVariables false
set_option linter.unusedSimpArgs false
set_option maxHeartbeats 4000000
set_option maxRecDepth 100000
def encT (q : Int × Int) : List Value := flatL q.1 q.2
theorem encT_ok (l : List (Int × Int)) : EncOK encT 9 l := fun a _ => ⟨rfl, fun u hu => by
  simp only [encT, flatL, List.mem_cons, List.not_mem_nil, or_false] at hu
  rcases hu with rfl | rfl | rfl | rfl | rfl | rfl | rfl | rfl | rfl <;> rfl⟩
theorem info38 : (Tryz.prog.info? 38).map (fun i => (i.zero, i.size, i.bytes)) = some (some (.agg zC), 9, 112) := by kernel_rfl
theorem elT : ElTy 36 38 9 := elty_of Tryz.underlying36 info38 rfl (by decide) (by decide)
theorem heap_at {w W : World} {B z a b : Nat} {c : Int} {vY vF : Value} (h : HA w B z a b c vY vF [19, 11, 19, 1] F1) (hb : Below w.heap.size w W) : cl.HeapIn W w.heap.size z m1 K1 := by
  obtain ⟨⟨⟨v1, v2, a1, a2, a3, a4⟩, a5, a6, a7⟩, ⟨⟨u1, u2, b1, b2, b3, b4⟩, b5, b6, b7⟩⟩ := heap_in h
  have e : ∀ i, W.cell? ⟨z, i, none⟩ = w.cell? ⟨z, i, none⟩ := fun i => World.cell?_of_block (w := w) (w' := W) (a := ⟨z, i, none⟩) (hb.block z (Array.getElem?_eq_some_iff.1 h.blk).1)
  exact ⟨⟨⟨v1, v2, (e _).trans a1, (e _).trans a2, a3.below hb (Nat.le_refl _), a4.below hb (Nat.le_refl _)⟩, a5, a6, a7⟩, ⟨⟨u1, u2, (e _).trans b1, (e _).trans b2, b3.below hb (Nat.le_refl _), b4.below hb (Nat.le_refl _)⟩, b5, b6, b7⟩⟩
/-- an object of two words, whose words stay where they are -/
def ObZ (w0 : World) (l : List Int) (w : World) (e : Ending) (w' : World) : Prop := ∃ g o k, e = .returned (.tuple #[.int .i64 0, .slice (some ⟨g, o, none⟩) l.length k, .bool true]) ∧ (∀ W, Below w0.heap.size w0 W → ∀ j x, l[j]? = some x → W.cell? ⟨g, o + j, none⟩ = some (.int .u64 x)) ∧ Below w.heap.size w w'
theorem obz {w W : World} {B z a b : Nat} {c : Int} {vY vF : Value} (h : HA w B z a b c vY vF [19, 11, 19, 1] F1) (hb : Below w.heap.size w W) {v : Int} {x : List Int} (v0 : 0 ≤ v) (v1 : v ≤ 18446744073709551615) (hp : cl.Pt K1 v x) (hk : cl.knd x = 0) (hw : cl.wds x = x) (hx : x ≠ []) :
    Calls Tryz.prog 75 #[.pointer (some ⟨z, 0, none⟩), .int .u64 v] W (ObZ w x W) :=
  (cl.object96 W w.heap.size z m1 K1 (heap_at h hb) v v0 v1).mono fun e w' hh => by
    obtain ⟨n, rfl, ⟨y, u, hy, rfl, hu⟩ | ⟨hn, _⟩⟩ := hh
    · obtain rfl := cl.Pt.uniq (heap_in h).pos hy hp
      rw [hw] at hu
      obtain ⟨p, k, rfl, _, _, h3⟩ := hu
      obtain ⟨g, o, rfl, hg, hc⟩ := h3 hx
      refine ⟨g, o, k, by rw [hk], fun V hV j q hj => ?_, ⟨rfl, rfl, rfl, Nat.le_refl _, fun _ _ => rfl⟩⟩
      obtain ⟨hl, rfl⟩ := List.getElem?_eq_some_iff.1 hj
      exact (World.cell?_of_block (w := W) (w' := V) (a := ⟨g, o + j, none⟩) ((hV.block g hg).trans (hb.block g hg).symm)).trans (hc j hl)
    · exact absurd ⟨x, hp⟩ hn
theorem obn {w W : World} {B z a b : Nat} {c : Int} {vY vF : Value} (h : HA w B z a b c vY vF [19, 11, 19, 1] F1) (hb : Below w.heap.size w W) :
    Calls Tryz.prog 75 #[.pointer (some ⟨z, 0, none⟩), .int .u64 11] W fun e w' => e = .returned (.tuple #[.int .i64 0, .slice none 0 0, .bool false]) ∧ Below W.heap.size W w' :=
  obj_no (h.below hb)
abbrev flatV (v : Value) : Array Value := #[.int .i64 9, .int .i64 0, .int .i64 0, .string ⟨#[]⟩, .string ⟨#[]⟩, .int .i64 0, v, .string ⟨#[]⟩, .int .i64 0]
theorem oneV {W : World} {base : Nat} {v : Value} {l : List (Int × Int)} (h : RecOwn encT 38 9 W base v l) : (flatV v).all (·.oneCell') = true := by
  obtain ⟨p, c, rfl, _, _⟩ := h.shape
  simp [Value.oneCell']
theorem get17 {w : World} {B z a b : Nat} {c : Int} {vY vF : Value} (h : HA w B z a b c vY vF [19, 11, 19, 1] F1) :
    Calls Tryz.prog 86 #[.pointer (some ⟨z, 0, none⟩), .int .u64 17] w fun e w' => ∃ v, e = .returned (.agg #[.int .i64 9, .int .i64 0, .int .i64 0, .string ⟨#[]⟩, .string ⟨#[]⟩, .int .i64 0, v, .string ⟨#[]⟩, .int .i64 0]) ∧ RecOwn encT 38 9 w' w.heap.size v [(1, 1), (1, 1), (8, 0)] ∧ Below w.heap.size w w' := by
  have HS := Lib.hid (fun W => words.SmallOf 17 (by omega) (by omega) W)
  have HA' := Lib.hid (fun W => words.AtomOf 17 (by omega) (by omega) W)
  have e1 : aoOk 17 = false := by decide
  have e2 : aoN 17 = 0 := by decide
  have e3 : soOk 17 = false := by decide
  have e4 : soN 17 = 0 := by decide
  rw [e3, e4] at HS
  rw [e1, e2] at HA'
  have HG := Lib.hid (fun W => get19 W (some ⟨z, 0, none⟩))
  have HN := Lib.hid (fun W (hb : Below w.heap.size w W) => get11 (h.below hb))
  have HZ := Lib.hid (heap_alloc_new w (.cells zC 38))
  have HB := Lib.hid (belowA (Below.refl _ w) (.cells zC 38))
  have HO0 := Lib.hid (fun W (hb : Below w.heap.size w W) => obz h hb (by omega) (by omega) pt17 (by decide) (by decide) (by simp))
  have HO1 := Lib.hid (fun W (hb : Below w.heap.size w W) => obz h hb (by omega) (by omega) pt1 (by decide) (by decide) (by simp))
  have HO2 := Lib.hid (fun W (hb : Below w.heap.size w W) => obn h hb)
  clear e1 e2 e3 e4 h
  have hsz : (w.alloc (.cells zC 38)).heap.size = w.heap.size + 1 := World.size_alloc _ _
  have HSZ := Lib.hid hsz
  clear hsz
  go_enter Tryz.func86, Tryz.ntmps86
  go_wp2_with fail
  refine (HS.out _).mono ?_
  rintro e w1 ⟨rfl, rfl⟩
  go_wp2_with fail
  refine (HA'.out _).mono ?_
  rintro e w1 ⟨rfl, rfl⟩
  go_wp2_with fail
  refine (HO0.out _ HB.out).mono ?_
  rintro e W0 ⟨g0, o0, k0, rfl, hc, hb⟩
  -- the fence: the blocks of this call's own rows lie above
  have hs1 := hb.size
  have HZ0 := Lib.hid ((hb.block w.heap.size (by rw [HSZ.out]; omega)).trans HZ.out)
  have HB0 := Lib.hid (HB.out.trans (hb.mono HB.out.size))
  have HK : Hid (w.heap.size < W0.heap.size) := Lib.hid (by rw [HSZ.out] at hs1; omega)
  have HC0 := Lib.hid hc
  have O0 : Hid (RecOwn encT 38 9 W0 W0.heap.size (.slice none 0 0) []) := Lib.hid (RecOwn.nil _ _ _)
  have HF0 := Lib.hid (Below.refl W0.heap.size W0)
  clear hs1 hb hc HZ HB HO0
  have x0 : W0.cell? ⟨g0, o0, none⟩ = some (.int .u64 19) := HC0.out W0 HB0.out 0 19 rfl
  go_wp2_with fail
  refine wp_loop_rounds 3 ?_
  rw [rounds_succ]
  go_wp2_with fail
  refine (HG.out _).mono ?_
  rintro e V0 ⟨rfl, hv⟩
  have hby : Below W0.heap.size W0 (V0.alloc (.cells (flatC 1 1) 38)) := hv.alloc hv.size _
  have hbf := HF0.out.trans (hby.mono HF0.out.size)
  have OA : Hid (RecOwn encT 38 9 (V0.alloc (.cells (flatC 1 1) 38)) W0.heap.size (.slice none 0 0) []) := Lib.hid (O0.out.below hby)
  have RA : Hid (RecAt encT 9 (V0.alloc (.cells (flatC 1 1) 38)) (V0.heap.size + 1) (.slice (some ⟨V0.heap.size, 0, none⟩) 1 1) [(1, 1)]) := Lib.hid (RecAt.fresh (encT_ok [(1, 1)]) (by decide) (heap_alloc_new V0 _) (Nat.le_refl 1) (by unfold maxLen; omega))
  have hsz := hbf.size
  have HBn := Lib.hid hbf
  have HBb := Lib.hid hsz
  clear hv hby hbf hsz
  go_wp2_with (refine wpList_append_rec (enc := encT) elT rfl (.tmp 81) (.tmp 87) rfl rfl (base := W0.heap.size) (l := []) OA.out HBb.out (B := V0.heap.size + 1) (xs := [(1, 1)]) rfl RA.out (encT_ok _) (by decide) ?_)
  intro v1 U1 hA
  have P1 : Hid (RecOwn encT 38 9 U1 W0.heap.size v1 [(1, 1)]) := Lib.hid hA.own
  have HU1 := Lib.hid (hA.belowB HBn.out HBb.out (fun k hk => (OA.out.lt hk).1))
  have HW1 := Lib.hid (HB0.out.trans (HU1.out.mono HB0.out.size))
  clear hA OA RA HBn HBb O0 HF0
  have x1 : U1.cell? ⟨g0, o0 + 1, none⟩ = some (.int .u64 1) := HC0.out U1 HW1.out 1 1 rfl
  clear x0
  go_wp2_with fail
  refine (HO1.out _ HW1.out).mono ?_
  rintro e W1 ⟨g1, o1, k1, rfl, hc, hb⟩
  have O1 : Hid (RecOwn encT 38 9 W1 W0.heap.size v1 [(1, 1)]) := Lib.hid (P1.out.below hb)
  have HF1 := Lib.hid (HU1.out.trans (hb.mono HU1.out.size))
  have HC1 := Lib.hid hc
  clear hc hb x1 P1 HU1 HW1
  have y0 : W1.cell? ⟨g1, o1, none⟩ = some (.int .u64 19) := HC1.out W1 (HB0.out.trans (HF1.out.mono HB0.out.size)) 0 19 rfl
  go_wp2_with fail
  rw [rounds_succ]
  go_wp2_with fail
  refine (HG.out _).mono ?_
  rintro e V1 ⟨rfl, hv⟩
  have hby : Below W1.heap.size W1 (V1.alloc (.cells (flatC 1 1) 38)) := hv.alloc hv.size _
  have hbf := HF1.out.trans (hby.mono HF1.out.size)
  have OA : Hid (RecOwn encT 38 9 (V1.alloc (.cells (flatC 1 1) 38)) W0.heap.size v1 [(1, 1)]) := Lib.hid (O1.out.below hby)
  have RA : Hid (RecAt encT 9 (V1.alloc (.cells (flatC 1 1) 38)) (V1.heap.size + 1) (.slice (some ⟨V1.heap.size, 0, none⟩) 1 1) [(1, 1)]) := Lib.hid (RecAt.fresh (encT_ok [(1, 1)]) (by decide) (heap_alloc_new V1 _) (Nat.le_refl 1) (by unfold maxLen; omega))
  have hsz := hbf.size
  have HBn := Lib.hid hbf
  have HBb := Lib.hid hsz
  clear hv hby hbf hsz
  go_wp2_with (refine wpList_append_rec (enc := encT) elT rfl (.tmp 81) (.tmp 87) rfl rfl (base := W0.heap.size) (l := [(1, 1)]) OA.out HBb.out (B := V1.heap.size + 1) (xs := [(1, 1)]) rfl RA.out (encT_ok _) (by decide) ?_)
  intro v2 U2 hA
  have P2 : Hid (RecOwn encT 38 9 U2 W0.heap.size v2 [(1, 1), (1, 1)]) := Lib.hid hA.own
  have HU2 := Lib.hid (hA.belowB HBn.out HBb.out (fun k hk => (OA.out.lt hk).1))
  have HW2 := Lib.hid (HB0.out.trans (HU2.out.mono HB0.out.size))
  clear hA OA RA HBn HBb O1 HF1
  have y1 : U2.cell? ⟨g1, o1 + 1, none⟩ = some (.int .u64 11) := HC1.out U2 HW2.out 1 11 rfl
  clear y0
  go_wp2_with fail
  refine (HO2.out _ HW2.out).mono ?_
  rintro e W2 ⟨rfl, hb⟩
  have O2 : Hid (RecOwn encT 38 9 W2 W0.heap.size v2 [(1, 1), (1, 1)]) := Lib.hid (P2.out.below hb)
  have HF2 := Lib.hid (HU2.out.trans (hb.mono HU2.out.size))
  clear hb y1 P2 HU2 HW2
  go_wp2_with fail
  rw [rounds_succ]
  go_wp2_with fail
  refine (HN.out _ (HB0.out.trans (HF2.out.mono HB0.out.size))).mono ?_
  rintro e V2 ⟨rfl, hv⟩
  have hby : Below W2.heap.size W2 (V2.alloc (.cells (flatC 8 0) 38)) := hv.alloc hv.size _
  have hbf := HF2.out.trans (hby.mono HF2.out.size)
  have OA : Hid (RecOwn encT 38 9 (V2.alloc (.cells (flatC 8 0) 38)) W0.heap.size v2 [(1, 1), (1, 1)]) := Lib.hid (O2.out.below hby)
  have RA : Hid (RecAt encT 9 (V2.alloc (.cells (flatC 8 0) 38)) (V2.heap.size + 1) (.slice (some ⟨V2.heap.size, 0, none⟩) 1 1) [(8, 0)]) := Lib.hid (RecAt.fresh (encT_ok [(8, 0)]) (by decide) (heap_alloc_new V2 _) (Nat.le_refl 1) (by unfold maxLen; omega))
  have hsz := hbf.size
  have HBn := Lib.hid hbf
  have HBb := Lib.hid hsz
  clear hv hby hbf hsz
  go_wp2_with (refine wpList_append_rec (enc := encT) elT rfl (.tmp 92) (.tmp 96) rfl rfl (base := W0.heap.size) (l := [(1, 1), (1, 1)]) OA.out HBb.out (B := V2.heap.size + 1) (xs := [(8, 0)]) rfl RA.out (encT_ok _) (by decide) ?_)
  intro v3 U3 hA
  have P3 : Hid (RecOwn encT 38 9 U3 W0.heap.size v3 [(1, 1), (1, 1), (8, 0)]) := Lib.hid hA.own
  have HU3 := Lib.hid (hA.belowB HBn.out HBb.out (fun k hk => (OA.out.lt hk).1))
  have HW3 := Lib.hid (HB0.out.trans (HU3.out.mono HB0.out.size))
  clear hA OA RA HBn HBb O2 HF2
  obtain ⟨p3, c3, e3, _, _⟩ := P3.out.shape
  have e3' : v3 = .slice p3 3 c3 := e3
  clear e3
  subst e3'
  have HZ3 := Lib.hid ((HU3.out.block w.heap.size HK.out).trans HZ0.out)
  go_wp2_with (refine wpList_store_row rfl 38 (.tmp 4) (.tmp 98) rfl w.heap.size (flatV (.slice p3 3 c3)) rfl rfl 38 zC HZ3.out i38 rfl (oneV P3.out) ?_)
  go_wp2_with fail
  refine bodyPost_ret (v := .agg (flatV (.slice p3 3 c3))) (ret_row rfl _ rfl (cs := (flatV (.slice p3 3 c3)).toList) rfl (range_blk (setRow_heap _ _ _ _ _ _ HZ3.out))) rfl ⟨.slice p3 3 c3, rfl, ?_, below_setRow HW3.out (Nat.le_refl _) _⟩
  refine (P3.out.same fun k hk => setRow_other _ _ k _ (fun e => ?_)).base (fun k hk => Nat.le_trans (Nat.le_of_lt HK.out) (P3.out.lt hk).1)
  have := (P3.out.lt hk).1
  have := HK.out
  omega
end Go.Proofs.YtpnlnbolhkcnjaaGreat.hp
namespace Go.Proofs.YtpnlnbolhkcnjaaGreat.hp
open Go.RowKit mem words rec tm
set_option linter.unusedVariables false
set_option linter.unusedSimpArgs false
set_option maxHeartbeats 4000000
set_option maxRecDepth 100000
def fK (k n : Int) : TF := ⟨k, n, 0, ⟨#[]⟩, ⟨#[]⟩, 0, ⟨#[]⟩, 0⟩
def tK (k n : Int) : Tm 1 := Tm.mk (fK k n) []
def l0 : List (Tm 1) := [tK 1 1, tK 1 1, tK 8 0]
def t0 : Tm 2 := Tm.mk (fK 9 0) l0
theorem ok0 (k : Int) (n : Int) (h : k = 1 ∨ k = 8 ∧ n = 0) : okT (tK k n) = true := by
  rcases h with rfl | ⟨rfl, rfl⟩ <;> simp [okT, tK, Tm.f, Tm.items, Tm.mk, fK, inB, okF, bareOK, bareF, zeroF, eqB_t]
theorem valid0 : validT t0 = true := by
  have h1 : okT t0 = true := by
    show (inB 9 0 10 && (okF (fK 9 0) 3 8 && bareOK (fK 9 0) 3)) = true
    simp [fK, inB, okF, bareOK, bareF, zeroF, eqB_t]
  have h2 : formedL 1 l0 = true := by
    simp [formedL, l0, ok0]
  have h3 : wholeT t0 = 5 := by rfl
  unfold validT formedT
  rw [h1, show formedL 1 t0.items = true from h2, h3]
  rfl
theorem nodes0 : nodesT t0 = 4 := by rfl
/-- three flat terms in a row -/
theorem items_of {w : World} {B : Nat} {v : Value} (h : RecAt encT 9 w B v [(1, 1), (1, 1), (8, 0)]) : ItemsAt w B 1 v l0 := by
  obtain ⟨p, c, e, h1, h2, h3⟩ := h
  refine ⟨p, c, e, h1, h2, fun _ => ?_⟩
  obtain ⟨g, o, e', hg, hc⟩ := h3 (by simp)
  refine ⟨g, o, e', hg, fun j hj => ?_⟩
  have hn : ItemsAt w B 0 (Value.slice none 0 0) ([] : List (Tm 0)) := ⟨none, 0, rfl, by unfold maxLen; omega⟩
  have mk : ∀ (k n : Int), [((1 : Int), (1 : Int)), (1, 1), (8, 0)][j]? = some (k, n) → l0[j] = tK k n → ∃ u, Cells w g (o + j * 9) (l0[j]).f u ∧ ItemsAt w B 0 u (l0[j]).items := fun k n hj hl => by
    rw [hl]
    have q := hc j (k, n) hj
    exact ⟨.slice none 0 0, ⟨q 0 _ rfl, q 1 _ rfl, q 2 _ rfl, q 3 _ rfl, q 4 _ rfl, q 5 _ rfl, q 6 _ rfl, q 7 _ rfl, q 8 _ rfl⟩, hn⟩
  have : j = 0 ∨ j = 1 ∨ j = 2 := by
    have : j < 3 := hj
    omega
  rcases this with rfl | rfl | rfl
  · exact mk 1 1 rfl rfl
  · exact mk 1 1 rfl rfl
  · exact mk 8 0 rfl rfl
theorem aw3_row {w : World} {g : Nat} (h : w.heap[g]? = some (.cells aw3 38)) : RecAt encT 9 w (g + 1) (.slice (some ⟨g, 0, none⟩) 3 3) [(1, 1), (1, 1), (8, 0)] :=
  RecAt.fresh (l := [(1, 1), (1, 1), (8, 0)]) (encT_ok _) (by decide) (by rw [h]; rfl) (Nat.le_refl 3) (by unfold maxLen; omega)
theorem valid67 {w : World} {g : Nat} (h : w.heap[g]? = some (.cells aw3 38)) : Calls Tryz.prog 67 #[listT g] w fun e w' => e = .returned (.bool true) ∧ Below w.heap.size w w' := by
  have hg := (Array.getElem?_eq_some_iff.1 h).1
  have := ValidTm (ofAll 1) w w.heap.size (.slice (some ⟨g, 0, none⟩) 3 3) t0 (Nat.le_refl _) (items_of ((aw3_row h).more (by omega))) (by rw [nodes0]; omega)
  rw [valid0] at this
  exact this
abbrev BoxF (x g : Nat) (W : World) : Prop := W.cell? ⟨x, 0, none⟩ = some (.int .i64 9) ∧ W.cell? ⟨x, 1, none⟩ = some (.int .i64 0) ∧ W.cell? ⟨x, 2, none⟩ = some (.int .i64 0) ∧ W.cell? ⟨x, 3, none⟩ = some (.string ⟨#[]⟩) ∧ W.cell? ⟨x, 4, none⟩ = some (.string ⟨#[]⟩) ∧ W.cell? ⟨x, 5, none⟩ = some (.int .i64 0) ∧ W.cell? ⟨x, 6, none⟩ = some (.slice (some ⟨g, 0, none⟩) 3 3) ∧ W.cell? ⟨x, 7, none⟩ = some (.string ⟨#[]⟩) ∧ W.cell? ⟨x, 8, none⟩ = some (.int .i64 0)
theorem boxF {W : World} {x g : Nat} (h : W.heap[x]? = some (.cells (flatC9 g) 38)) : BoxF x g W :=
  ⟨(cell_of_blk h).trans rfl, (cell_of_blk h).trans rfl, (cell_of_blk h).trans rfl, (cell_of_blk h).trans rfl, (cell_of_blk h).trans rfl, (cell_of_blk h).trans rfl, (cell_of_blk h).trans rfl, (cell_of_blk h).trans rfl, (cell_of_blk h).trans rfl⟩
theorem put18 {w : World} {B z a b g : Nat} {vY vF : Value} (h : HA w B z a b 100 vY vF [] []) (hg : w.heap[g]? = some (.cells aw3 38)) :
    Calls Tryz.prog 18 #[.pointer (some ⟨z, 0, none⟩), listT g] w fun e w' => e = .returned (.tuple #[.int .u64 17, .int .i64 0]) ∧ Step B z a b 100 vY vF w [19, 11, 19, 1] F1 w' := by
  have hb0 : Below w.heap.size w (w.alloc (.cells (flatC9 g) 38)) := belowA (Below.refl _ w) _
  have hgl := (Array.getElem?_eq_some_iff.1 hg).1
  have hx := heap_alloc_new w (.cells (flatC9 g) 38)
  have hsz : (w.alloc (.cells (flatC9 g) 38)).heap.size = w.heap.size + 1 := World.size_alloc _ _
  have HM := Lib.hid (made66 (h.below hb0))
  generalize hw1 : w.alloc (.cells (flatC9 g) 38) = w1 at *
  have hx1 : w.heap.size < w1.heap.size := by omega
  have up : ∀ W, Below w1.heap.size w1 W → Below w.heap.size w W := fun W hb => hb0.trans (hb.mono hb0.size)
  have HV := Lib.hid (valid67 ((hb0.block g hgl).trans hg))
  have HR : Hid (∀ W, Below w1.heap.size w1 W → Calls Tryz.prog 39 #[.pointer (some ⟨z, 0, none⟩)] W fun e w' => e = .returned (.int .i64 100) ∧ Below W.heap.size W w') := Lib.hid (fun W hb => room39 (h.below (up W hb)) (by simp) (by omega) (by omega))
  have HN := Lib.hid (fun W (hb : Below w1.heap.size w1 W) => needL W g (((up W hb).block g hgl).trans hg))
  have HP := Lib.hid (fun W (hb : Below w1.heap.size w1 W) => putL (h.below (up W hb)) (((up W hb).block g hgl).trans hg))
  have HX := Lib.hid (fun W (hb : Below w1.heap.size w1 W) => boxF (W := W) ((hb.block w.heap.size hx1).trans hx))
  have HUp := Lib.hid up
  obtain ⟨x0, x1, x2, x3, x4, x5, x6, x7, x8⟩ := HX.out w1 (Below.refl _ _)
  clear h hg hgl hb0 hx hsz hx1 up
  go_enter Tryz.func18, Tryz.ntmps18
  go_upto_region 1 with (fail)
  go_wp2_with fail
  refine HM.out.mono ?_
  rintro e W0 ⟨rfl, rfl⟩
  go_wp2_with fail
  refine HV.out.mono ?_
  rintro e W2 ⟨rfl, hbd⟩
  clear x0 x1 x2 x3 x4 x5 x6 x7 x8
  go_wp2_with fail
  replace hbd := belowD hbd
  obtain ⟨x0, x1, x2, x3, x4, x5, x6, x7, x8⟩ := HX.out W2.drew hbd
  go_region_held3 (fun w' => w'.cell? ⟨w.heap.size, 0, none⟩ = some (.int .i64 9) ∧ w'.cell? ⟨w.heap.size, 1, none⟩ = some (.int .i64 0) ∧ w'.cell? ⟨w.heap.size, 2, none⟩ = some (.int .i64 0) ∧ w'.cell? ⟨w.heap.size, 3, none⟩ = some (.string ⟨#[]⟩) ∧ w'.cell? ⟨w.heap.size, 4, none⟩ = some (.string ⟨#[]⟩) ∧ w'.cell? ⟨w.heap.size, 5, none⟩ = some (.int .i64 0) ∧ w'.cell? ⟨w.heap.size, 6, none⟩ = some (.slice (some ⟨g, 0, none⟩) 3 3) ∧ w'.cell? ⟨w.heap.size, 7, none⟩ = some (.string ⟨#[]⟩) ∧ w'.cell? ⟨w.heap.size, 8, none⟩ = some (.int .i64 0)) (go_keep)
    (first
      | (go_at_call 39; refine (HR.out _ hbd).mono ?_; rintro e W3 ⟨rfl, hb⟩; replace hbd := hbd.trans (hb.mono hbd.size); clear hb x0 x1 x2 x3 x4 x5 x6 x7 x8; obtain ⟨x0, x1, x2, x3, x4, x5, x6, x7, x8⟩ := HX.out W3 hbd)
      | (go_at_call 68; refine (HN.out _ hbd).mono ?_; rintro e W4 ⟨rfl, hb⟩; replace hbd := hbd.trans (hb.mono hbd.size); clear hb x0 x1 x2 x3 x4 x5 x6 x7 x8; obtain ⟨x0, x1, x2, x3, x4, x5, x6, x7, x8⟩ := HX.out W4 hbd))
  all_goals
    go_wp2_with fail
    refine (HP.out _ hbd).mono ?_
    rintro e W5 ⟨rfl, hS⟩
    have HS := Lib.hid (Step.of_below (HUp.out _ hbd) hS)
    clear hS x0 x1 x2 x3 x4 x5 x6 x7 x8
    go_wp2_with fail
    exact bodyPost_ret (v := .tuple #[.int .u64 17, .int .i64 0]) (by simp [results, Tryz.results18, go_sem, *]) rfl ⟨rfl, HS.out⟩
theorem results_c1 {fn : Func} {p u : Tmp} {ty : TypeId} (h : fn.results = #[.cell p ty, .tmp u]) (tmps : Array Value) (P : Program) (w : World) :
    (results fn tmps).run P w = ((asAddr (tmps.getD p undef)).run P w).andThen fun a w₁ => ((loadVar ty a).run P w₁).andThen fun x w₂ => .ok (.tuple #[x, tmps.getD u undef]) w₂ := by
  simp only [results, h]
  simp [Sem.run_bind, Result.andThen]
theorem ret_row1 {fn : Func} {p q : Tmp} (h : fn.results = #[.cell p 38, .tmp q]) (tmps : Array Value) {g : Nat} {r : Value} (hp : tmps.getD p undef = .pointer (some ⟨g, 0, none⟩)) (hq : tmps.getD q undef = r) {W : World} {cs : List Value} (hl : cs.length = 9) (hc : W.rangeAt g 0 cs) :
    (results fn tmps).run Tryz.prog W = .ok (.tuple #[.agg cs.toArray, r]) W := by
  rw [results_c1 h, hp]
  simp only [asAddr, Sem.run_pure, Result.andThen_ok]
  rw [run_loadVar_mid W g 0 38 cs _ hc Tryz.underlying38 rfl (by rw [hl]; kernel_rfl), Result.andThen_ok, hq]
/-- Get of awake's list -/
theorem get29 {w : World} {B z a b : Nat} {c : Int} {vY vF : Value} (h : HA w B z a b c vY vF [19, 11, 19, 1] F1) :
    Calls Tryz.prog 29 #[.pointer (some ⟨z, 0, none⟩), .int .u64 17] w fun e w' => ∃ p k, e = .returned (.tuple #[.agg (flatV (.slice p 3 k)), .int .i64 0]) ∧ RecOwn encT 38 9 w' w.heap.size (.slice p 3 k) [(1, 1), (1, 1), (8, 0)] ∧ Below w.heap.size w w' := by
  have hb0 : Below w.heap.size w (w.alloc (.cells zC 38)) := belowA (Below.refl _ w) _
  have hx := heap_alloc_new w (.cells zC 38)
  have hsz : (w.alloc (.cells zC 38)).heap.size = w.heap.size + 1 := World.size_alloc _ _
  have HM := Lib.hid (made66 (h.below hb0))
  have HI := Lib.hid (is17 (h.below hb0))
  have HG := Lib.hid (fun W (hb : Below w.heap.size w W) => get17 (h.below hb))
  have HB0 := Lib.hid hb0
  have HX := Lib.hid hx
  have HS := Lib.hid hsz
  clear h hb0 hx hsz
  go_enter Tryz.func29, Tryz.ntmps29
  go_wp2_with fail
  refine HM.out.mono ?_
  rintro e w1 ⟨rfl, rfl⟩
  go_wp2_with fail
  refine HI.out.mono ?_
  rintro e w1 ⟨rfl, hb⟩
  have hs1 := hb.size
  have HX1 := Lib.hid ((hb.block w.heap.size (by rw [HS.out]; omega)).trans HX.out)
  have HK : Hid (w.heap.size < w1.heap.size) := Lib.hid (by rw [HS.out] at hs1; omega)
  have HB1 := Lib.hid (HB0.out.trans (hb.mono HB0.out.size))
  clear hs1 hb
  go_wp2_with fail
  refine (HG.out _ HB1.out).mono ?_
  rintro e w2 ⟨v, rfl, hO, hb⟩
  obtain ⟨p3, c3, e3, _, _⟩ := hO.shape
  have e3' : v = .slice p3 3 c3 := e3
  clear e3
  subst e3'
  have HX2 := Lib.hid ((hb.block w.heap.size HK.out).trans HX1.out)
  have HB2 := Lib.hid (HB1.out.trans (hb.mono HB1.out.size))
  have HO := Lib.hid hO
  clear hb hO
  go_wp2_with (refine wpList_store_row rfl 38 (.tmp 4) (.tmp 17) rfl w.heap.size (flatV (.slice p3 3 c3)) rfl rfl 38 zC HX2.out i38 rfl (oneV HO.out) ?_)
  go_wp2_with fail
  refine bodyPost_ret (v := .tuple #[.agg (flatV (.slice p3 3 c3)), .int .i64 0]) ?_ rfl ⟨p3, c3, rfl, ?_, below_setRow HB2.out (Nat.le_refl _) _⟩
  · exact ret_row1 (p := 4) (q := 5) (r := .int .i64 0) rfl _ rfl rfl (cs := (flatV (.slice p3 3 c3)).toList) rfl (range_blk (setRow_heap _ _ _ _ _ _ HX2.out))
  refine (HO.out.same fun k hk => setRow_other _ _ k _ (fun e => ?_)).base (fun k hk => Nat.le_trans (Nat.le_of_lt HK.out) (HO.out.lt hk).1)
  have := (HO.out.lt hk).1
  have := HK.out
  omega
end Go.Proofs.YtpnlnbolhkcnjaaGreat.hp
namespace Go.Proofs.YtpnlnbolhkcnjaaGreat.hp
open Go.RowKit mem words rec tm
set_option linter.unusedVariables false
set_option linter.unusedSimpArgs false
set_option maxHeartbeats 4000000
set_option maxRecDepth 100000
abbrev aw27 : Array Value := #[.int .i64 1, .int .i64 1, .int .i64 0, .string ⟨#[]⟩, .string ⟨#[]⟩, .int .i64 0, .slice none 0 0, .string ⟨#[]⟩, .int .i64 0, .int .i64 1, .int .i64 1, .int .i64 0, .string ⟨#[]⟩, .string ⟨#[]⟩, .int .i64 0, .slice none 0 0, .string ⟨#[]⟩, .int .i64 0, .int .i64 8, .int .i64 0, .int .i64 0, .string ⟨#[]⟩, .string ⟨#[]⟩, .int .i64 0, .slice none 0 0, .string ⟨#[]⟩, .int .i64 0]
theorem w4_facts (w W : World) (hW : (((w.alloc (.cells (flatC 1 1) 38)).alloc (.cells (flatC 8 0) 38)).alloc (.cells aw27 38)).alloc (.cells (flatC9 (w.heap.size + 1 + 1)) 38) = W) : Below w.heap.size w W ∧ W.heap[w.heap.size + 1 + 1]? = some (.cells aw3 38) ∧ W.heap[w.heap.size + 1 + 1 + 1]? = some (.cells (flatC9 (w.heap.size + 1 + 1)) 38) ∧ W.heap.size = w.heap.size + 1 + 1 + 1 + 1 := by
  subst hW
  have s1 : (w.alloc (.cells (flatC 1 1) 38)).heap.size = w.heap.size + 1 := World.size_alloc _ _
  have s2 : ((w.alloc (.cells (flatC 1 1) 38)).alloc (.cells (flatC 8 0) 38)).heap.size = w.heap.size + 1 + 1 := by rw [World.size_alloc, s1]
  have s3 : (((w.alloc (.cells (flatC 1 1) 38)).alloc (.cells (flatC 8 0) 38)).alloc (.cells aw27 38)).heap.size = w.heap.size + 1 + 1 + 1 := by rw [World.size_alloc, s2]
  have h3 := heap_alloc_new ((w.alloc (.cells (flatC 1 1) 38)).alloc (.cells (flatC 8 0) 38)) (.cells aw27 38)
  have h4 := heap_alloc_new (((w.alloc (.cells (flatC 1 1) 38)).alloc (.cells (flatC 8 0) 38)).alloc (.cells aw27 38)) (.cells (flatC9 (w.heap.size + 1 + 1)) 38)
  rw [s2] at h3
  rw [s3] at h4
  refine ⟨belowA (belowA (belowA (belowA (Below.refl _ w) _) _) _) _, ?_, h4, by rw [World.size_alloc, s3]⟩
  exact (heap_alloc_old _ _ (by rw [s3]; omega)).trans h3
abbrev BoxV (x : Nat) (p : Option Addr) (k : Nat) (W : World) : Prop := W.cell? ⟨x, 0, none⟩ = some (.int .i64 9) ∧ W.cell? ⟨x, 1, none⟩ = some (.int .i64 0) ∧ W.cell? ⟨x, 2, none⟩ = some (.int .i64 0) ∧ W.cell? ⟨x, 3, none⟩ = some (.string ⟨#[]⟩) ∧ W.cell? ⟨x, 4, none⟩ = some (.string ⟨#[]⟩) ∧ W.cell? ⟨x, 5, none⟩ = some (.int .i64 0) ∧ W.cell? ⟨x, 6, none⟩ = some (.slice p 3 k) ∧ W.cell? ⟨x, 7, none⟩ = some (.string ⟨#[]⟩) ∧ W.cell? ⟨x, 8, none⟩ = some (.int .i64 0)
theorem boxV {W : World} {x k : Nat} {p : Option Addr} (h : W.heap[x]? = some (.cells (flatV (.slice p 3 k)) 38)) : BoxV x p k W :=
  ⟨(cell_of_blk h).trans rfl, (cell_of_blk h).trans rfl, (cell_of_blk h).trans rfl, (cell_of_blk h).trans rfl, (cell_of_blk h).trans rfl, (cell_of_blk h).trans rfl, (cell_of_blk h).trans rfl, (cell_of_blk h).trans rfl, (cell_of_blk h).trans rfl⟩
theorem awake11 (w : World) : Calls Tryz.prog 11 #[] w fun e w' => e = .returned (.bool true) ∧ Below w.heap.size w w' := by
  have H14 := Lib.hid (fun W => names14 W)
  have H15 := Lib.hid (fun W => blobs15 W)
  have H17 := Lib.hid (fun W a b => heap17 W a b 100 (by omega) (by omega))
  go_enter Tryz.func11, Tryz.ntmps11
  go_wp2_with fail
  refine (H14.out _).mono ?_
  rintro e w1 ⟨a, rfl, hb1⟩
  go_wp2_with fail
  refine (H15.out _).mono ?_
  rintro e w2 ⟨b, rfl, hb2⟩
  go_wp2_with fail
  refine (H17.out _ a b).mono ?_
  rintro e w3 ⟨z, rfl, hb3, hA⟩
  have HB3 := Lib.hid ((hb1.trans (hb2.mono hb1.size)).trans (hb3.mono (hb1.trans (hb2.mono hb1.size)).size))
  have HBw := Lib.hid (hb1.trans (hb2.mono hb1.size)).size
  have HH := Lib.hid hA
  clear hb1 hb2 hb3 hA
  go_upto_region 6 with (fail)
  generalize hW : (((w3.alloc (.cells (flatC 1 1) 38)).alloc (.cells (flatC 8 0) 38)).alloc (.cells aw27 38)).alloc (.cells (flatC9 (w3.heap.size + 1 + 1)) 38) = w4 at *
  obtain ⟨hb4, hg, ht, hs4⟩ := w4_facts w3 w4 hW
  clear hW
  have hz3 : z < w3.heap.size := (Array.getElem?_eq_some_iff.1 HH.out.blk).1
  have HP := Lib.hid (put18 (HH.out.below hb4) hg)
  obtain ⟨x0, x1, x2, x3, x4, x5, x6, x7, x8⟩ := boxF ht
  have HB4 := Lib.hid (HB3.out.trans (hb4.mono HB3.out.size))
  have HF := Lib.hid (⟨hg, ht, hs4, hz3⟩ : w4.heap[w3.heap.size + 1 + 1]? = some (.cells aw3 38) ∧ w4.heap[w3.heap.size + 1 + 1 + 1]? = some (.cells (flatC9 (w3.heap.size + 1 + 1)) 38) ∧ w4.heap.size = w3.heap.size + 1 + 1 + 1 + 1 ∧ z < w3.heap.size)
  have HZ := Lib.hid (Nat.le_trans HBw.out HH.out.hz)
  clear hb4 hg ht hs4 hz3 HH
  go_wp2_with fail
  refine HP.out.mono ?_
  rintro e w5 ⟨rfl, vY, vF, hA5, t5, c5⟩
  have hno : ∀ k, k ≠ z → ¬ HB z (.slice none 0 0) (.slice none 0 0) k := fun k hk h => by
    rcases h with h | h | h
    · exact hk h
    · simp [Value.ownBlock] at h
    · simp [Value.ownBlock] at h
  have hg5 := (t5.block (w3.heap.size + 1 + 1) (by have := HF.out.2.2; omega) (hno _ (by have := HF.out.2.2; omega))).trans HF.out.1
  have ht5 := (t5.block (w3.heap.size + 1 + 1 + 1) (by have := HF.out.2.2; omega) (hno _ (by have := HF.out.2.2; omega))).trans HF.out.2.1
  have hb5 : Below w.heap.size w w5 := HB4.out.trans (t5.below (fun k hk => by
    by_cases e : k = z
    · have := HZ.out; omega
    · exact absurd hk (hno k e)) HB4.out.size)
  have hs5 := t5.size
  have HB5 := Lib.hid hb5
  have HF5 := Lib.hid (⟨hg5, ht5, by have := HF.out.2.2; omega⟩ : w5.heap[w3.heap.size + 1 + 1]? = some (.cells aw3 38) ∧ w5.heap[w3.heap.size + 1 + 1 + 1]? = some (.cells (flatC9 (w3.heap.size + 1 + 1)) 38) ∧ w3.heap.size + 1 + 1 + 1 < w5.heap.size)
  have HA5 := Lib.hid hA5
  have HG := Lib.hid (get29 hA5)
  clear hno hg5 ht5 hb5 hs5 hA5 t5 c5 x0 x1 x2 x3 x4 x5 x6 x7 x8 HP HF HB4 HB3
  go_wp2_with fail
  refine HG.out.mono ?_
  rintro e w6 ⟨p, k, rfl, hO, hb6⟩
  have hnew := heap_alloc_new w6 (.cells (flatV (.slice p 3 k)) 38)
  have hb7 : Below w5.heap.size w5 (w6.alloc (.cells (flatV (.slice p 3 k)) 38)) := hb6.alloc hb6.size _
  have hO7 := hO.below (belowA (Below.refl _ w6) (.cells (flatV (.slice p 3 k)) 38))
  have hs7 : (w6.alloc (.cells (flatV (.slice p 3 k)) 38)).heap.size = w6.heap.size + 1 := World.size_alloc _ _
  go_upto_region 8 with (fail)
  generalize w6.alloc (.cells (flatV (.slice p 3 k)) 38) = w7 at *
  have hg7 := (hb7.block (w3.heap.size + 1 + 1) (by have := HF5.out.2.2; omega)).trans HF5.out.1
  have ht7 := (hb7.block (w3.heap.size + 1 + 1 + 1) HF5.out.2.2).trans HF5.out.2.1
  have hgl := (Array.getElem?_eq_some_iff.1 hg7).1
  obtain ⟨u0, u1, u2, u3, u4, u5, u6, u7, u8⟩ := boxV hnew
  obtain ⟨x0, x1, x2, x3, x4, x5, x6, x7, x8⟩ := boxF ht7
  have HSm : Hid (Calls Tryz.prog 38 #[.agg (flatV (.slice p 3 k)), listT (w3.heap.size + 1 + 1)] w7 fun e w' => e = .returned (.bool true) ∧ Below w7.heap.size w7 w') := Lib.hid (by
    have := sameOne w7 w7.heap.size _ _ t0 t0 (Nat.le_refl _) (items_of (hO7.row (encT_ok _))) (items_of ((aw3_row hg7).more (by omega)))
    rw [eqB_t rfl] at this
    exact this)
  have hHA := fun W (hb : Below w7.heap.size w7 W) => HA5.out.below (hb7.trans (hb.mono hb7.size))
  have HU : Hid (∀ W, Below w7.heap.size w7 W → Calls Tryz.prog 19 #[.pointer (some ⟨z, 0, none⟩)] W fun e w' => e = .returned (.int .i64 4) ∧ Below W.heap.size W w') := Lib.hid (fun W hb => used19 (hHA W hb) (by simp))
  have HR : Hid (∀ W, Below w7.heap.size w7 W → Calls Tryz.prog 39 #[.pointer (some ⟨z, 0, none⟩)] W fun e w' => e = .returned (.int .i64 96) ∧ Below W.heap.size W w') := Lib.hid (fun W hb => room39 (hHA W hb) (by simp) (by omega) (by omega))
  have HK := Lib.hid (fun W hb => kind46 (hHA W hb))
  have HB7 := Lib.hid (HB5.out.trans (hb7.mono HB5.out.size))
  clear hb6 hb7 hO hO7 hnew hs7 hg7 ht7 hgl hHA HF5 HA5 HG HB5
  go_wp2_with fail
  refine HSm.out.mono ?_
  rintro e w8 ⟨rfl, hb8⟩
  have H8 := Lib.hid hb8
  clear hb8 u0 u1 u2 u3 u4 u5 u6 u7 u8 x0 x1 x2 x3 x4 x5 x6 x7 x8
  go_wp2_with fail
  refine (HU.out _ H8.out).mono ?_
  rintro e w9 ⟨rfl, hb⟩
  have H9 := Lib.hid (H8.out.trans (hb.mono H8.out.size))
  clear hb
  go_wp2_with fail
  refine (HR.out _ H9.out).mono ?_
  rintro e w10 ⟨rfl, hb⟩
  have H10 := Lib.hid (H9.out.trans (hb.mono H9.out.size))
  clear hb
  go_wp2_with fail
  refine (HK.out _ H10.out).mono ?_
  rintro e w11 ⟨rfl, hb⟩
  have H11 := Lib.hid (HB7.out.trans ((H10.out.trans (hb.mono H10.out.size)).mono HB7.out.size))
  clear hb
  go_wp2_with fail
  go_ret
  exact ⟨rfl, H11.out⟩
end Go.Proofs.YtpnlnbolhkcnjaaGreat.hp
namespace Go.Proofs.YtpnlnbolhkcnjaaGreat.hp
open Go.RowKit mem words rec
set_option linter.unusedVariables false
set_option linter.unusedSimpArgs false
set_option maxHeartbeats 4000000
set_option maxRecDepth 100000
theorem nil66 (w : World) : Calls Tryz.prog 66 #[.pointer none] w fun e w' => e = .returned (.bool false) ∧ w = w' := by
  go_enter Tryz.func66, Tryz.ntmps66
  go_wp2_with fail
  go_ret
  exact ⟨rfl, rfl⟩
abbrev NilP (v : Value) (w : World) (e : Ending) (w' : World) : Prop := e = .returned v ∧ Below w.heap.size w w'
theorem nil85 (w : World) (x : Int) : Calls Tryz.prog 85 #[.pointer none, .int .u64 x] w (NilP (.bool false) w) := by
  have HM := Lib.hid (fun W => nil66 W)
  go_enter Tryz.func85, Tryz.ntmps85
  go_wp2_with fail
  refine (HM.out _).mono ?_
  rintro e w1 ⟨rfl, rfl⟩
  go_wp2_with fail
  exact bodyPost_ret (v := .bool false) (by simp [results, Tryz.results85, go_sem, *]) rfl ⟨rfl, by first | exact Below.refl _ w | exact belowA (Below.refl _ w) _ | exact belowA (belowA (Below.refl _ w) _) _⟩
theorem nil18 (w : World) (f0 f1 f2 : Int) (s0 s1 : ByteArray) (f3 : Int) (u : Value) (s2 : ByteArray) (f4 : Int) : Calls Tryz.prog 18 #[.pointer none, .agg #[.int .i64 f0, .int .i64 f1, .int .i64 f2, .string s0, .string s1, .int .i64 f3, u, .string s2, .int .i64 f4]] w (NilP (.tuple #[.int .u64 0, .int .i64 1]) w) := by
  have HM := Lib.hid (fun W => nil66 W)
  go_enter Tryz.func18, Tryz.ntmps18
  go_wp2_with fail
  refine (HM.out _).mono ?_
  rintro e w1 ⟨rfl, rfl⟩
  go_wp2_with fail
  exact bodyPost_ret (v := .tuple #[.int .u64 0, .int .i64 1]) (by simp [results, Tryz.results18, go_sem, *]) rfl ⟨rfl, by first | exact Below.refl _ w | exact belowA (Below.refl _ w) _ | exact belowA (belowA (Below.refl _ w) _) _⟩
theorem nil29 (w : World) (x : Int) : Calls Tryz.prog 29 #[.pointer none, .int .u64 x] w (NilP (.tuple #[flatT 0 0, .int .i64 1]) w) := by
  have HM := Lib.hid (fun W => nil66 W)
  go_enter Tryz.func29, Tryz.ntmps29
  go_wp2_with fail
  refine (HM.out _).mono ?_
  rintro e w1 ⟨rfl, rfl⟩
  go_wp2_with fail
  exact bodyPost_ret (v := .tuple #[flatT 0 0, .int .i64 1]) (by simp [results, Tryz.results29, go_sem, *]) rfl ⟨rfl, by first | exact Below.refl _ w | exact belowA (Below.refl _ w) _ | exact belowA (belowA (Below.refl _ w) _) _⟩
theorem nil40 (w : World)  : Calls Tryz.prog 40 #[.pointer none, .int .i64 7] w (NilP (.tuple #[.int .u64 0, .int .i64 1]) w) := by
  have HM := Lib.hid (fun W => nil66 W)
  go_enter Tryz.func40, Tryz.ntmps40
  go_wp2_with fail
  refine (HM.out _).mono ?_
  rintro e w1 ⟨rfl, rfl⟩
  go_wp2_with fail
  exact bodyPost_ret (v := .tuple #[.int .u64 0, .int .i64 1]) (by simp [results, Tryz.results40, go_sem, *]) rfl ⟨rfl, by first | exact Below.refl _ w | exact belowA (Below.refl _ w) _ | exact belowA (belowA (Below.refl _ w) _) _⟩
theorem nil41 (w : World) (x : Int) : Calls Tryz.prog 41 #[.pointer none, .int .u64 x, .int .u64 x] w (NilP (.tuple #[.int .u64 0, .int .i64 1]) w) := by
  have HM := Lib.hid (fun W => nil66 W)
  go_enter Tryz.func41, Tryz.ntmps41
  go_wp2_with fail
  refine (HM.out _).mono ?_
  rintro e w1 ⟨rfl, rfl⟩
  go_wp2_with fail
  exact bodyPost_ret (v := .tuple #[.int .u64 0, .int .i64 1]) (by simp [results, Tryz.results41, go_sem, *]) rfl ⟨rfl, by first | exact Below.refl _ w | exact belowA (Below.refl _ w) _ | exact belowA (belowA (Below.refl _ w) _) _⟩
theorem nil42 (w : World) (u : Value) : Calls Tryz.prog 42 #[.pointer none, u] w (NilP (.tuple #[.int .u64 0, .int .i64 1]) w) := by
  have HM := Lib.hid (fun W => nil66 W)
  go_enter Tryz.func42, Tryz.ntmps42
  go_wp2_with fail
  refine (HM.out _).mono ?_
  rintro e w1 ⟨rfl, rfl⟩
  go_wp2_with fail
  exact bodyPost_ret (v := .tuple #[.int .u64 0, .int .i64 1]) (by simp [results, Tryz.results42, go_sem, *]) rfl ⟨rfl, by first | exact Below.refl _ w | exact belowA (Below.refl _ w) _ | exact belowA (belowA (Below.refl _ w) _) _⟩
theorem nil43 (w : World)  : Calls Tryz.prog 43 #[.pointer none, .string ⟨#[109]⟩, .int .i64 1, .int .i64 0, .int .i64 0, .slice none 0 0] w (NilP (.tuple #[.int .u64 0, .int .i64 1]) w) := by
  have HM := Lib.hid (fun W => nil66 W)
  go_enter Tryz.func43, Tryz.ntmps43
  go_wp2_with fail
  refine (HM.out _).mono ?_
  rintro e w1 ⟨rfl, rfl⟩
  go_wp2_with fail
  exact bodyPost_ret (v := .tuple #[.int .u64 0, .int .i64 1]) (by simp [results, Tryz.results43, go_sem, *]) rfl ⟨rfl, by first | exact Below.refl _ w | exact belowA (Below.refl _ w) _ | exact belowA (belowA (Below.refl _ w) _) _⟩
theorem nil22 (w : World)  : Calls Tryz.prog 22 #[.pointer none, .agg #[.string ⟨#[]⟩, .int .i64 0]] w (NilP (.tuple #[.int .u64 0, .int .i64 1]) w) := by
  have HM := Lib.hid (fun W => nil66 W)
  go_enter Tryz.func22, Tryz.ntmps22
  go_wp2_with fail
  refine (HM.out _).mono ?_
  rintro e w1 ⟨rfl, rfl⟩
  go_wp2_with fail
  exact bodyPost_ret (v := .tuple #[.int .u64 0, .int .i64 1]) (by simp [results, Tryz.results22, go_sem, *]) rfl ⟨rfl, by first | exact Below.refl _ w | exact belowA (Below.refl _ w) _ | exact belowA (belowA (Below.refl _ w) _) _⟩
theorem nil24 (w : World) (x : Int) : Calls Tryz.prog 24 #[.pointer none, .int .u64 x, .int .i64 0, .int .i64 0] w (NilP (.tuple #[.int .u64 0, .int .i64 1]) w) := by
  have HM := Lib.hid (fun W => nil66 W)
  go_enter Tryz.func24, Tryz.ntmps24
  go_wp2_with fail
  refine (HM.out _).mono ?_
  rintro e w1 ⟨rfl, rfl⟩
  go_wp2_with fail
  exact bodyPost_ret (v := .tuple #[.int .u64 0, .int .i64 1]) (by simp [results, Tryz.results24, go_sem, *]) rfl ⟨rfl, by first | exact Below.refl _ w | exact belowA (Below.refl _ w) _ | exact belowA (belowA (Below.refl _ w) _) _⟩
theorem nil44 (w : World)  : Calls Tryz.prog 44 #[.pointer none, .agg #[.slice none 0 0, .slice none 0 0, .int .i64 0], .int .i64 1] w (NilP (.int .i64 1) w) := by
  have HM := Lib.hid (fun W => nil66 W)
  go_enter Tryz.func44, Tryz.ntmps44
  go_wp2_with fail
  refine (HM.out _).mono ?_
  rintro e w1 ⟨rfl, rfl⟩
  go_wp2_with fail
  exact bodyPost_ret (v := .int .i64 1) (by simp [results, Tryz.results44, go_sem, *]) rfl ⟨rfl, by first | exact Below.refl _ w | exact belowA (Below.refl _ w) _ | exact belowA (belowA (Below.refl _ w) _) _⟩
theorem nil45 (w : World)  : Calls Tryz.prog 45 #[.pointer none] w (NilP (.tuple #[]) w) := by
  have HM := Lib.hid (fun W => nil66 W)
  go_enter Tryz.func45, Tryz.ntmps45
  go_wp2_with fail
  refine (HM.out _).mono ?_
  rintro e w1 ⟨rfl, rfl⟩
  go_wp2_with fail
  exact bodyPost_ret (v := .tuple #[]) (by simp [results, Tryz.results45, go_sem, *]) rfl ⟨rfl, by first | exact Below.refl _ w | exact belowA (Below.refl _ w) _ | exact belowA (belowA (Below.refl _ w) _) _⟩
theorem nil39 (w : World)  : Calls Tryz.prog 39 #[.pointer none] w (NilP (.int .i64 0) w) := by
  have HM := Lib.hid (fun W => nil66 W)
  go_enter Tryz.func39, Tryz.ntmps39
  go_wp2_with fail
  refine (HM.out _).mono ?_
  rintro e w1 ⟨rfl, rfl⟩
  go_wp2_with fail
  exact bodyPost_ret (v := .int .i64 0) (by simp [results, Tryz.results39, go_sem, *]) rfl ⟨rfl, by first | exact Below.refl _ w | exact belowA (Below.refl _ w) _ | exact belowA (belowA (Below.refl _ w) _) _⟩
theorem nil19 (w : World)  : Calls Tryz.prog 19 #[.pointer none] w (NilP (.int .i64 0) w) := by
  have HM := Lib.hid (fun W => nil66 W)
  go_enter Tryz.func19, Tryz.ntmps19
  go_wp2_with fail
  refine (HM.out _).mono ?_
  rintro e w1 ⟨rfl, rfl⟩
  go_wp2_with fail
  exact bodyPost_ret (v := .int .i64 0) (by simp [results, Tryz.results19, go_sem, *]) rfl ⟨rfl, by first | exact Below.refl _ w | exact belowA (Below.refl _ w) _ | exact belowA (belowA (Below.refl _ w) _) _⟩
theorem nil46 (w : World) (x : Int) : Calls Tryz.prog 46 #[.pointer none, .int .u64 x] w (NilP (.int .i64 0) w) := by
  have HI := Lib.hid (fun W => nil85 W x)
  go_enter Tryz.func46, Tryz.ntmps46
  go_wp2_with fail
  refine (HI.out _).mono ?_
  rintro e w1 ⟨rfl, hb0⟩
  go_wp2_with fail
  exact bodyPost_ret (v := .int .i64 0) (by simp [results, Tryz.results46, go_sem, *]) rfl ⟨rfl, by first | exact hb0 | exact belowA (hb0) _ | exact belowA (belowA (hb0) _) _⟩
theorem nil47 (w : World) (x : Int) : Calls Tryz.prog 47 #[.pointer none, .int .u64 x] w (NilP (.int .i64 0) w) := by
  have HI := Lib.hid (fun W => nil85 W x)
  go_enter Tryz.func47, Tryz.ntmps47
  go_wp2_with fail
  refine (HI.out _).mono ?_
  rintro e w1 ⟨rfl, hb0⟩
  go_wp2_with fail
  exact bodyPost_ret (v := .int .i64 0) (by simp [results, Tryz.results47, go_sem, *]) rfl ⟨rfl, by first | exact hb0 | exact belowA (hb0) _ | exact belowA (belowA (hb0) _) _⟩
theorem nil48 (w : World) (x : Int) : Calls Tryz.prog 48 #[.pointer none, .int .u64 x, .int .u64 x] w (NilP (.int .i64 0) w) := by
  have HI := Lib.hid (fun W => nil85 W x)
  go_enter Tryz.func48, Tryz.ntmps48
  go_wp2_with fail
  refine (HI.out _).mono ?_
  rintro e w1 ⟨rfl, hb0⟩
  go_wp2_with fail
  refine (HI.out _).mono ?_
  rintro e w2 ⟨rfl, hb1⟩
  go_wp2_with fail
  exact bodyPost_ret (v := .int .i64 0) (by simp [results, Tryz.results48, go_sem, *]) rfl ⟨rfl, by first | exact hb0.trans (hb1.mono hb0.size) | exact belowA (hb0.trans (hb1.mono hb0.size)) _ | exact belowA (belowA (hb0.trans (hb1.mono hb0.size)) _) _⟩
theorem new17 (w : World) (p q : Option Addr) (c : Int) (h : p = none ∨ q = none ∨ c < 1 ∨ 1048576 < c) : Calls Tryz.prog 17 #[.pointer p, .pointer q, .int .i64 c] w (NilP (.pointer none) w) := by
  cases p with
  | none =>
    clear h
    go_enter Tryz.func17, Tryz.ntmps17
    go_wp2_with fail
    go_ret
    exact ⟨rfl, Below.refl _ _⟩
  | some a =>
    cases q with
    | none =>
      clear h
      go_enter Tryz.func17, Tryz.ntmps17
      go_wp2_with fail
      go_ret
      exact ⟨rfl, Below.refl _ _⟩
    | some b =>
      have h : c < 1 ∨ 1048576 < c := by simpa using h
      by_cases h1 : c < 1
      · have q1 : decide (c < 1) = true := decide_eq_true h1
        clear h h1
        go_enter Tryz.func17, Tryz.ntmps17
        go_wp2_with fail
        go_ret
        exact ⟨rfl, Below.refl _ _⟩
      · have q1 : decide (c < 1) = false := decide_eq_false h1
        have q2 : decide ((1048576 : Int) < c) = true := decide_eq_true (by omega)
        clear h h1
        go_enter Tryz.func17, Tryz.ntmps17
        go_wp2_with fail
        go_ret
        exact ⟨rfl, Below.refl _ _⟩
end Go.Proofs.YtpnlnbolhkcnjaaGreat.hp
namespace Go.Proofs.YtpnlnbolhkcnjaaGreat.hp
open Go.RowKit mem words rec tm
set_option linter.unusedVariables false
set_option linter.unusedSimpArgs false
set_option maxHeartbeats 4000000
set_option maxRecDepth 100000
theorem lawNil {n : Nat} (w : World) (t : Tm (n + 1)) (u : Value) (hI : ItemsAt w w.heap.size n u t.items) (x c : Int) :
    Calls Tryz.prog 6 #[aggV t.f u, .int .u64 x, .int .i64 c] w fun e w' => e = .returned (.bool true) ∧ Below w.heap.size w w' := by
  obtain ⟨p, k, rfl, _, _⟩ := hI.shape
  have hG : ∀ W, Below w.heap.size w W → ∀ g, W.heap[g]? = some (cells9 t.f (.slice p t.items.length k)) → Calls Tryz.prog 30 #[.slice (some ⟨g, 0, none⟩) 1 1, .int .i64 3000] W (BPost (greatS (n + 1) [t] 3000) W) := fun W hb g hg => by
    refine Great W W.heap.size _ [t] 3000 (Nat.le_refl _) (by omega) (by omega) ⟨_, 1, rfl, Nat.le_refl _, by unfold maxLen; omega, fun _ => ⟨g, 0, rfl, (Array.getElem?_eq_some_iff.1 hg).1, fun j hj => ?_⟩⟩
    obtain rfl : j = 0 := by simp at hj; omega
    have hN := nine_of hg
    exact ⟨_, ⟨hN.c0, hN.c1, hN.c2, hN.c3, hN.c4, hN.c5, hN.c6, hN.c7, hN.c8⟩, (hI.below hb (Nat.le_refl _)).more hb.size⟩
  generalize greatS (n + 1) [t] 3000 = gr at *
  clear hI
  generalize t.items.length = m at *
  generalize t.f = f at *
  obtain ⟨f0, f1, f2, s0, s1, f3, s2, f4⟩ := f
  unfold cells9 at hG
  dsimp only at hG
  unfold aggV
  have hx := heap_alloc_new w (.cells #[.int .i64 f0, .int .i64 f1, .int .i64 f2, .string s0, .string s1, .int .i64 f3, .slice p m k, .string s2, .int .i64 f4] 38)
  have hb0 : Below w.heap.size w (w.alloc (.cells #[.int .i64 f0, .int .i64 f1, .int .i64 f2, .string s0, .string s1, .int .i64 f3, .slice p m k, .string s2, .int .i64 f4] 38)) := belowA (Below.refl _ w) _
  have hsz : (w.alloc (.cells #[.int .i64 f0, .int .i64 f1, .int .i64 f2, .string s0, .string s1, .int .i64 f3, .slice p m k, .string s2, .int .i64 f4] 38)).heap.size = w.heap.size + 1 := World.size_alloc _ _
  generalize hw1 : w.alloc (.cells #[.int .i64 f0, .int .i64 f1, .int .i64 f2, .string s0, .string s1, .int .i64 f3, .slice p m k, .string s2, .int .i64 f4] 38) = w1 at *
  have hr := heap_alloc_new w1 (.cells #[.int .i64 f0, .int .i64 f1, .int .i64 f2, .string s0, .string s1, .int .i64 f3, .slice p m k, .string s2, .int .i64 f4] 38)
  have HG := Lib.hid (hG _ (belowA hb0 (.cells #[.int .i64 f0, .int .i64 f1, .int .i64 f2, .string s0, .string s1, .int .i64 f3, .slice p m k, .string s2, .int .i64 f4] 38)) _ hr)
  rw [hsz] at HG
  have HB0 := Lib.hid hb0
  have HX := Lib.hid (fun W (hb : Below w1.heap.size w1 W) => (show W.cell? ⟨w.heap.size, 0, none⟩ = some (.int .i64 f0) ∧ W.cell? ⟨w.heap.size, 1, none⟩ = some (.int .i64 f1) ∧ W.cell? ⟨w.heap.size, 2, none⟩ = some (.int .i64 f2) ∧ W.cell? ⟨w.heap.size, 3, none⟩ = some (.string s0) ∧ W.cell? ⟨w.heap.size, 4, none⟩ = some (.string s1) ∧ W.cell? ⟨w.heap.size, 5, none⟩ = some (.int .i64 f3) ∧ W.cell? ⟨w.heap.size, 6, none⟩ = some (.slice p m k) ∧ W.cell? ⟨w.heap.size, 7, none⟩ = some (.string s2) ∧ W.cell? ⟨w.heap.size, 8, none⟩ = some (.int .i64 f4) from by
    have h := (hb.block w.heap.size (by omega)).trans hx
    exact ⟨(cell_of_blk h).trans rfl, (cell_of_blk h).trans rfl, (cell_of_blk h).trans rfl, (cell_of_blk h).trans rfl, (cell_of_blk h).trans rfl, (cell_of_blk h).trans rfl, (cell_of_blk h).trans rfl, (cell_of_blk h).trans rfl, (cell_of_blk h).trans rfl⟩))
  have HAw := Lib.hid (fun W => awake11 W)
  have H14 := Lib.hid (fun W => names14 W)
  have H15 := Lib.hid (fun W => blobs15 W)
  have H17 := Lib.hid (fun W p q c h => new17 W p q c h)
  obtain ⟨x0, x1, x2, x3, x4, x5, x6, x7, x8⟩ := HX.out w1 (Below.refl _ _)
  have HS := Lib.hid hsz
  clear hx hb0 hsz hG hr
  go_enter Tryz.func6, Tryz.ntmps6
  go_upto_region 1 with (fail)
  rw [← HS.out] at HG
  go_wp2_with fail
  refine HG.out.mono ?_
  rintro e W0 ⟨rfl, hb⟩
  have hbd : Below w1.heap.size w1 W0 := (belowA (Below.refl _ w1) _).trans (hb.mono (belowA (Below.refl _ w1) _).size)
  clear hb HG x0 x1 x2 x3 x4 x5 x6 x7 x8
  cases gr
  case' true =>
    go_wp2_with fail
    refine (HAw.out _).mono ?_
    rintro e W2 ⟨rfl, hb⟩
    replace hbd := hbd.trans (hb.mono hbd.size)
    clear hb
    go_wp2_with fail
    go_ret
    exact ⟨rfl, HB0.out.trans (hbd.mono HB0.out.size)⟩
  case' false =>
    go_wp2_with fail
    refine (H14.out _).mono ?_
    rintro e W1 ⟨a, rfl, hb⟩
    replace hbd := hbd.trans (hb.mono hbd.size)
    clear hb
    go_wp2_with fail
    refine (H15.out _).mono ?_
    rintro e W2 ⟨b, rfl, hb⟩
    replace hbd := hbd.trans (hb.mono hbd.size)
    clear hb
    go_wp2_with fail
    refine (H17.out _ _ _ _ (.inl rfl)).mono ?_
    rintro e W3 ⟨rfl, hb⟩
    replace hbd := hbd.trans (hb.mono hbd.size)
    clear hb
    go_wp2_with fail
    refine (H17.out _ _ _ _ (.inr (.inl rfl))).mono ?_
    rintro e W4 ⟨rfl, hb⟩
    replace hbd := hbd.trans (hb.mono hbd.size)
    clear hb
    have key : ∀ W, Below w1.heap.size w1 W → (W = W) := fun _ _ => rfl
    by_cases hc1 : c < 1
    · have q1 : decide (c < 1) = true := decide_eq_true hc1
      have hcc : Hid (c < 1 ∨ 1048576 < c) := Lib.hid (.inl hc1)
      clear hc1 key
      go_wp2_with fail
      refine (H17.out _ _ _ _ (.inr (.inr hcc.out))).mono ?_
      rintro e W5 ⟨rfl, hb⟩
      replace hbd := hbd.trans (hb.mono hbd.size)
      clear hb hcc q1
      obtain ⟨x0, x1, x2, x3, x4, x5, x6, x7, x8⟩ := HX.out _ hbd
      go_wp2_with fail
      refine (nil18 _ f0 f1 f2 s0 s1 f3 _ s2 f4).mono ?_
      rintro e V18 ⟨rfl, hb⟩
      replace hbd := hbd.trans (hb.mono hbd.size)
      clear hb
      clear x0 x1 x2 x3 x4 x5 x6 x7 x8
      go_wp2_with fail
      refine (nil29 _ x).mono ?_
      rintro e V29 ⟨rfl, hb⟩
      replace hbd := hbd.trans (hb.mono hbd.size)
      clear hb
      go_wp2_with fail
      refine (nil40 _ ).mono ?_
      rintro e V40 ⟨rfl, hb⟩
      replace hbd := (hbd.alloc hbd.size _).trans (hb.mono (hbd.alloc hbd.size _).size)
      clear hb
      go_wp2_with fail
      refine (nil41 _ x).mono ?_
      rintro e V41 ⟨rfl, hb⟩
      replace hbd := hbd.trans (hb.mono hbd.size)
      clear hb
      go_wp2_with fail
      refine (nil42 _ _).mono ?_
      rintro e V42 ⟨rfl, hb⟩
      replace hbd := (hbd.alloc hbd.size _).trans (hb.mono (hbd.alloc hbd.size _).size)
      clear hb
      go_wp2_with fail
      refine (nil43 _ ).mono ?_
      rintro e V43 ⟨rfl, hb⟩
      replace hbd := hbd.trans (hb.mono hbd.size)
      clear hb
      go_wp2_with fail
      refine (nil22 _ ).mono ?_
      rintro e V22 ⟨rfl, hb⟩
      replace hbd := hbd.trans (hb.mono hbd.size)
      clear hb
      go_wp2_with fail
      refine (nil24 _ x).mono ?_
      rintro e V24 ⟨rfl, hb⟩
      replace hbd := hbd.trans (hb.mono hbd.size)
      clear hb
      go_wp2_with fail
      refine (nil44 _ ).mono ?_
      rintro e V44 ⟨rfl, hb⟩
      replace hbd := hbd.trans (hb.mono hbd.size)
      clear hb
      go_wp2_with fail
      refine (nil45 _ ).mono ?_
      rintro e V45 ⟨rfl, hb⟩
      replace hbd := hbd.trans (hb.mono hbd.size)
      clear hb
      go_wp2_with fail
      refine (nil46 _ x).mono ?_
      rintro e V46 ⟨rfl, hb⟩
      replace hbd := hbd.trans (hb.mono hbd.size)
      clear hb
      go_wp2_with fail
      refine (nil39 _ ).mono ?_
      rintro e V39 ⟨rfl, hb⟩
      replace hbd := hbd.trans (hb.mono hbd.size)
      clear hb
      go_wp2_with fail
      refine (nil19 _ ).mono ?_
      rintro e V19 ⟨rfl, hb⟩
      replace hbd := hbd.trans (hb.mono hbd.size)
      clear hb
      go_wp2_with fail
      refine (nil47 _ x).mono ?_
      rintro e V47 ⟨rfl, hb⟩
      replace hbd := hbd.trans (hb.mono hbd.size)
      clear hb
      go_wp2_with fail
      refine (nil48 _ x).mono ?_
      rintro e V48 ⟨rfl, hb⟩
      replace hbd := hbd.trans (hb.mono hbd.size)
      clear hb
      go_wp2_with fail
      refine (HAw.out _).mono ?_
      rintro e V11 ⟨rfl, hb⟩
      replace hbd := hbd.trans (hb.mono hbd.size)
      clear hb
      go_wp2_with fail
      go_ret
      exact ⟨rfl, HB0.out.trans (hbd.mono HB0.out.size)⟩
    by_cases hc2 : (1048576 : Int) < c
    · have q1 : decide (c < 1) = false := decide_eq_false hc1
      have q2 : decide ((1048576 : Int) < c) = true := decide_eq_true hc2
      have hcc : Hid (c < 1 ∨ 1048576 < c) := Lib.hid (.inr hc2)
      clear hc1 hc2 key
      go_wp2_with fail
      refine (H17.out _ _ _ _ (.inr (.inr hcc.out))).mono ?_
      rintro e W5 ⟨rfl, hb⟩
      replace hbd := hbd.trans (hb.mono hbd.size)
      clear hb hcc q1 q2
      obtain ⟨x0, x1, x2, x3, x4, x5, x6, x7, x8⟩ := HX.out _ hbd
      go_wp2_with fail
      refine (nil18 _ f0 f1 f2 s0 s1 f3 _ s2 f4).mono ?_
      rintro e V18 ⟨rfl, hb⟩
      replace hbd := hbd.trans (hb.mono hbd.size)
      clear hb
      clear x0 x1 x2 x3 x4 x5 x6 x7 x8
      go_wp2_with fail
      refine (nil29 _ x).mono ?_
      rintro e V29 ⟨rfl, hb⟩
      replace hbd := hbd.trans (hb.mono hbd.size)
      clear hb
      go_wp2_with fail
      refine (nil40 _ ).mono ?_
      rintro e V40 ⟨rfl, hb⟩
      replace hbd := (hbd.alloc hbd.size _).trans (hb.mono (hbd.alloc hbd.size _).size)
      clear hb
      go_wp2_with fail
      refine (nil41 _ x).mono ?_
      rintro e V41 ⟨rfl, hb⟩
      replace hbd := hbd.trans (hb.mono hbd.size)
      clear hb
      go_wp2_with fail
      refine (nil42 _ _).mono ?_
      rintro e V42 ⟨rfl, hb⟩
      replace hbd := (hbd.alloc hbd.size _).trans (hb.mono (hbd.alloc hbd.size _).size)
      clear hb
      go_wp2_with fail
      refine (nil43 _ ).mono ?_
      rintro e V43 ⟨rfl, hb⟩
      replace hbd := hbd.trans (hb.mono hbd.size)
      clear hb
      go_wp2_with fail
      refine (nil22 _ ).mono ?_
      rintro e V22 ⟨rfl, hb⟩
      replace hbd := hbd.trans (hb.mono hbd.size)
      clear hb
      go_wp2_with fail
      refine (nil24 _ x).mono ?_
      rintro e V24 ⟨rfl, hb⟩
      replace hbd := hbd.trans (hb.mono hbd.size)
      clear hb
      go_wp2_with fail
      refine (nil44 _ ).mono ?_
      rintro e V44 ⟨rfl, hb⟩
      replace hbd := hbd.trans (hb.mono hbd.size)
      clear hb
      go_wp2_with fail
      refine (nil45 _ ).mono ?_
      rintro e V45 ⟨rfl, hb⟩
      replace hbd := hbd.trans (hb.mono hbd.size)
      clear hb
      go_wp2_with fail
      refine (nil46 _ x).mono ?_
      rintro e V46 ⟨rfl, hb⟩
      replace hbd := hbd.trans (hb.mono hbd.size)
      clear hb
      go_wp2_with fail
      refine (nil39 _ ).mono ?_
      rintro e V39 ⟨rfl, hb⟩
      replace hbd := hbd.trans (hb.mono hbd.size)
      clear hb
      go_wp2_with fail
      refine (nil19 _ ).mono ?_
      rintro e V19 ⟨rfl, hb⟩
      replace hbd := hbd.trans (hb.mono hbd.size)
      clear hb
      go_wp2_with fail
      refine (nil47 _ x).mono ?_
      rintro e V47 ⟨rfl, hb⟩
      replace hbd := hbd.trans (hb.mono hbd.size)
      clear hb
      go_wp2_with fail
      refine (nil48 _ x).mono ?_
      rintro e V48 ⟨rfl, hb⟩
      replace hbd := hbd.trans (hb.mono hbd.size)
      clear hb
      go_wp2_with fail
      refine (HAw.out _).mono ?_
      rintro e V11 ⟨rfl, hb⟩
      replace hbd := hbd.trans (hb.mono hbd.size)
      clear hb
      go_wp2_with fail
      go_ret
      exact ⟨rfl, HB0.out.trans (hbd.mono HB0.out.size)⟩
    · have q1 : decide (c < 1) = false := decide_eq_false hc1
      have q2 : decide ((1048576 : Int) < c) = false := decide_eq_false hc2
      obtain ⟨W5, e5⟩ : ∃ W, W = W4 := ⟨_, rfl⟩
      subst e5
      clear hc1 hc2 key
      obtain ⟨x0, x1, x2, x3, x4, x5, x6, x7, x8⟩ := HX.out _ hbd
      go_wp2_with fail
      refine (nil18 _ f0 f1 f2 s0 s1 f3 _ s2 f4).mono ?_
      rintro e V18 ⟨rfl, hb⟩
      replace hbd := hbd.trans (hb.mono hbd.size)
      clear hb
      clear x0 x1 x2 x3 x4 x5 x6 x7 x8
      go_wp2_with fail
      refine (nil29 _ x).mono ?_
      rintro e V29 ⟨rfl, hb⟩
      replace hbd := hbd.trans (hb.mono hbd.size)
      clear hb
      go_wp2_with fail
      refine (nil40 _ ).mono ?_
      rintro e V40 ⟨rfl, hb⟩
      replace hbd := (hbd.alloc hbd.size _).trans (hb.mono (hbd.alloc hbd.size _).size)
      clear hb
      go_wp2_with fail
      refine (nil41 _ x).mono ?_
      rintro e V41 ⟨rfl, hb⟩
      replace hbd := hbd.trans (hb.mono hbd.size)
      clear hb
      go_wp2_with fail
      refine (nil42 _ _).mono ?_
      rintro e V42 ⟨rfl, hb⟩
      replace hbd := (hbd.alloc hbd.size _).trans (hb.mono (hbd.alloc hbd.size _).size)
      clear hb
      go_wp2_with fail
      refine (nil43 _ ).mono ?_
      rintro e V43 ⟨rfl, hb⟩
      replace hbd := hbd.trans (hb.mono hbd.size)
      clear hb
      go_wp2_with fail
      refine (nil22 _ ).mono ?_
      rintro e V22 ⟨rfl, hb⟩
      replace hbd := hbd.trans (hb.mono hbd.size)
      clear hb
      go_wp2_with fail
      refine (nil24 _ x).mono ?_
      rintro e V24 ⟨rfl, hb⟩
      replace hbd := hbd.trans (hb.mono hbd.size)
      clear hb
      go_wp2_with fail
      refine (nil44 _ ).mono ?_
      rintro e V44 ⟨rfl, hb⟩
      replace hbd := hbd.trans (hb.mono hbd.size)
      clear hb
      go_wp2_with fail
      refine (nil45 _ ).mono ?_
      rintro e V45 ⟨rfl, hb⟩
      replace hbd := hbd.trans (hb.mono hbd.size)
      clear hb
      go_wp2_with fail
      refine (nil46 _ x).mono ?_
      rintro e V46 ⟨rfl, hb⟩
      replace hbd := hbd.trans (hb.mono hbd.size)
      clear hb
      go_wp2_with fail
      refine (nil39 _ ).mono ?_
      rintro e V39 ⟨rfl, hb⟩
      replace hbd := hbd.trans (hb.mono hbd.size)
      clear hb
      go_wp2_with fail
      refine (nil19 _ ).mono ?_
      rintro e V19 ⟨rfl, hb⟩
      replace hbd := hbd.trans (hb.mono hbd.size)
      clear hb
      go_wp2_with fail
      refine (nil47 _ x).mono ?_
      rintro e V47 ⟨rfl, hb⟩
      replace hbd := hbd.trans (hb.mono hbd.size)
      clear hb
      go_wp2_with fail
      refine (nil48 _ x).mono ?_
      rintro e V48 ⟨rfl, hb⟩
      replace hbd := hbd.trans (hb.mono hbd.size)
      clear hb
      go_wp2_with fail
      refine (HAw.out _).mono ?_
      rintro e V11 ⟨rfl, hb⟩
      replace hbd := hbd.trans (hb.mono hbd.size)
      clear hb
      go_wp2_with fail
      go_ret
      exact ⟨rfl, HB0.out.trans (hbd.mono HB0.out.size)⟩
end Go.Proofs.YtpnlnbolhkcnjaaGreat.hp
