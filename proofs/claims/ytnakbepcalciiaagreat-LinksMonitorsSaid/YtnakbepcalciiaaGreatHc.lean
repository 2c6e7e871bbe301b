/- Several texts in one, one behind the other: LkMb. No condition beyond theirs. -/
import Derived.Test.YtnakbepcalciiaaGreatGv
import Derived.Test.YtnakbepcalciiaaGreatGz
import Derived.Test.YtnakbepcalciiaaGreatHa
import Derived.Test.YtnakbepcalciiaaGreatGr
import Derived.Test.YtnakbepcalciiaaGreatHb
/- in: is a monitor in a list of monitors whose refs are strictly increasing? Conditions: the list lies in memory. -/
namespace Go.Proofs.YtnakbepcalciiaaGreat.lk
open Go.RowKit mem rec tm names pm
set_option linter.unusedVariables false
set_option linter.unusedSimpArgs false
set_option maxHeartbeats 4000000
set_option maxRecDepth 100000
theorem yields_rowO {ops : Array Oper} {S : World → Prop} {op : Oper} {a : Act} (hw : Region.wanted op (yielded ops a.tmps) = true) (ty : TypeId) (x : Operand) (ho : op.op = .load ty x)
    (g o : Nat) (hx : a.eval x = .pointer (some ⟨g, o, none⟩)) (v : Value) (hS : ∀ w : World, S w → (loadVar ty ⟨g, o, none⟩).run Tryz.prog w = .ok v w) : YieldsIf Tryz.prog ops S op v a :=
  Or.inl ⟨hw, fun w hs => by
    unfold execOp
    simp only [ho, hx, Instr.loadAt, Instr.sureAddr, Sem.run_bind, Sem.run_pure, Result.andThen_ok, hS w hs]⟩
def memM (m : Mn) (L : List Mn) : Bool := L.any (fun x => decide (x = m))
theorem memM_iff (m : Mn) (L : List Mn) : memM m L = true ↔ m ∈ L := by
  unfold memM
  rw [List.any_eq_true]
  constructor
  · rintro ⟨y, hy, he⟩; rw [← of_decide_eq_true he]; exact hy
  · intro h; exact ⟨m, h, by simp⟩
theorem memM_take {m x : Mn} {L : List Mn} {i : Nat} (h : L[i]? = some x) : memM m (L.take (i + 1)) = (memM m (L.take i) || decide (x = m)) := by
  unfold memM
  rw [List.take_add_one, h, List.any_append]
  simp
/-- a monitor as a value, its terms' empty slices as they came -/
def mnE (m : Mn) (p1 p2 p3 : Option Addr) (c1 c2 c3 : Nat) : Value := monV (idT m.1) (idT m.2.1) (idT m.2.2) (.slice p1 0 c1) (.slice p2 0 c2) (.slice p3 0 c3)
theorem nilS (W : World) (x : Id) {p : Option Addr} {c : Nat} (h : c ≤ maxLen) : ItemsAt W 0 0 (.slice p 0 c) (tmI x).items := ⟨p, c, rfl, h⟩
theorem eqB_tmI (x y : Id) : eqB (tmI x) (tmI y) = decide (x = y) := by
  by_cases h : x = y
  · subst h; rw [eqB_t rfl]; simp
  · rw [eqB_f (fun e => h (by have := congrArg (fun t : Tm 1 => idOf t.f) e; exact this)), decide_eq_false h]
theorem sameE (x m : Mn) {p1 p2 p3 : Option Addr} {c1 c2 c3 : Nat} (h1 : c1 ≤ maxLen) (h2 : c2 ≤ maxLen) (h3 : c3 ≤ maxLen) (W : World) : Calls Tryz.prog 32 #[.agg (mnTL x).toArray, mnE m p1 p2 p3 c1 c2 c3] W (fun e w' => e = .returned (.bool (decide (x = m))) ∧ Below W.heap.size W w') := by
  have h := same32 W 0 nilV nilV nilV (.slice p1 0 c1) (.slice p2 0 c2) (.slice p3 0 c3) (tmI x.1) (tmI m.1) (tmI x.2.1) (tmI m.2.1) (tmI x.2.2) (tmI m.2.2) (Nat.zero_le _) (nilI W _) (nilI W _) (nilI W _) (nilS W _ h1) (nilS W _ h2) (nilS W _ h3)
  rw [eqB_tmI, eqB_tmI, eqB_tmI] at h
  have e : (decide (x.1 = m.1) && (decide (x.2.1 = m.2.1) && decide (x.2.2 = m.2.2))) = decide (x = m) := by
    obtain ⟨x1, x2, x3⟩ := x
    obtain ⟨m1, m2, m3⟩ := m
    rw [Bool.eq_iff_iff]
    simp [Prod.mk.injEq]
  rw [e] at h
  exact h
theorem cmpI87 (x y : Id) (W : World) : Calls Tryz.prog 87 #[idA x, idA y] W (IPostC (cmI x y) W) := by
  have h := RCompare W 0 nilV nilV (tmI x) (tmI y) (Nat.zero_le _) (ItemsAt.nil_any (Nat.zero_le _)) (ItemsAt.nil_any (Nat.zero_le _)) (by rw [nodes_tmI]; decide) (by rw [nodes_tmI]; decide)
  exact h
def InI (m : Mn) (L : List Mn) (W : World) (n : Nat) (sv iv : Value) (wr : World) : Prop := ∃ i : Nat, iv = .int .i64 (i : Int) ∧ sv = .bool (memM m (L.take i)) ∧ i ≤ L.length ∧ n = L.length - i ∧ Below W.heap.size W wr
theorem in28 {w : World} {B : Nat} {v : Value} {L : List Mn} (hB : B ≤ w.heap.size) (hr : RecAt mnTL 27 w B v L) (hs : L.Pairwise (fun x y => cmM x y < 0)) (hl : L.length ≤ 100000000) (m : Mn) {p1 p2 p3 : Option Addr} {c1 c2 c3 : Nat} (h1 : c1 ≤ maxLen) (h2 : c2 ≤ maxLen) (h3 : c3 ≤ maxLen) :
    Calls Tryz.prog 28 #[v, mnE m p1 p2 p3 c1 c2 c3] w (fun e w' => e = .returned (.bool (memM m L)) ∧ Below w.heap.size w w') := by
  have HSm := Lib.hid (fun x W => sameE x m (p1 := p1) (p2 := p2) (p3 := p3) h1 h2 h3 W)
  have HCm := Lib.hid (fun x y W => cmpI87 x y W)
  have HSo := Lib.hid hs
  obtain ⟨pv, cv, rfl, _, _⟩ := hr.shape
  have HR := Lib.hid (fun W' (hW : Below w.heap.size w W') => hr.below hW hB)
  clear hs hr hB h1 h2 h3
  obtain ⟨r, hrr⟩ : ∃ r, memM m L = r := ⟨_, rfl⟩
  have HRr := Lib.hid hrr
  rw [hrr]
  clear hrr
  obtain ⟨⟨a1, a2, a3, a4⟩, ⟨b1, b2, b3, b4⟩, ⟨d1, d2, d3, d4⟩⟩ := m
  unfold mnE monV idT at *
  unfold IPostC idA at HCm
  dsimp only at *
  have hb0 := belowA (Below.refl w.heap.size w) (.cells #[.int .i64 a1, .int .i64 a4, .int .i64 a3, .string a2, .string ⟨#[]⟩, .int .i64 0, .slice p1 0 c1, .string ⟨#[]⟩, .int .i64 0, .int .i64 b1, .int .i64 b4, .int .i64 b3, .string b2, .string ⟨#[]⟩, .int .i64 0, .slice p2 0 c2, .string ⟨#[]⟩, .int .i64 0, .int .i64 d1, .int .i64 d4, .int .i64 d3, .string d2, .string ⟨#[]⟩, .int .i64 0, .slice p3 0 c3, .string ⟨#[]⟩, .int .i64 0] 47) (Nat.le_refl _)
  have hx0 := alloc_new w (.cells #[.int .i64 a1, .int .i64 a4, .int .i64 a3, .string a2, .string ⟨#[]⟩, .int .i64 0, .slice p1 0 c1, .string ⟨#[]⟩, .int .i64 0, .int .i64 b1, .int .i64 b4, .int .i64 b3, .string b2, .string ⟨#[]⟩, .int .i64 0, .slice p2 0 c2, .string ⟨#[]⟩, .int .i64 0, .int .i64 d1, .int .i64 d4, .int .i64 d3, .string d2, .string ⟨#[]⟩, .int .i64 0, .slice p3 0 c3, .string ⟨#[]⟩, .int .i64 0] 47)
  have hlx : w.heap.size < (w.alloc (.cells #[.int .i64 a1, .int .i64 a4, .int .i64 a3, .string a2, .string ⟨#[]⟩, .int .i64 0, .slice p1 0 c1, .string ⟨#[]⟩, .int .i64 0, .int .i64 b1, .int .i64 b4, .int .i64 b3, .string b2, .string ⟨#[]⟩, .int .i64 0, .slice p2 0 c2, .string ⟨#[]⟩, .int .i64 0, .int .i64 d1, .int .i64 d4, .int .i64 d3, .string d2, .string ⟨#[]⟩, .int .i64 0, .slice p3 0 c3, .string ⟨#[]⟩, .int .i64 0] 47)).heap.size := by rw [World.size_alloc]; omega
  have HX := Lib.hid hx0
  have HB0 := Lib.hid hb0
  have hsz27 : (Tryz.prog.info? 47).map (·.size) = some 27 := by kernel_rfl
  clear hx0 hb0
  go_enter Tryz.func28, Tryz.ntmps28
  go_upto_region 1 with (fail)
  generalize (w.alloc (.cells #[.int .i64 a1, .int .i64 a4, .int .i64 a3, .string a2, .string ⟨#[]⟩, .int .i64 0, .slice p1 0 c1, .string ⟨#[]⟩, .int .i64 0, .int .i64 b1, .int .i64 b4, .int .i64 b3, .string b2, .string ⟨#[]⟩, .int .i64 0, .slice p2 0 c2, .string ⟨#[]⟩, .int .i64 0, .int .i64 d1, .int .i64 d4, .int .i64 d3, .string d2, .string ⟨#[]⟩, .int .i64 0, .slice p3 0 c3, .string ⟨#[]⟩, .int .i64 0] 47)) = W1 at *
  generalize hzm : w.heap.size = zm at *
  have HLE := Lib.hid (fun W' (hW : Below W1.heap.size W1 W') => run_loadVar_row W' zm 47 47 _ (0, 0) _ ((hW.block _ hlx).trans HX.out) Tryz.underlying47 rfl hsz27)
  have HRa := Lib.hid (fun W' (hW : Below W1.heap.size W1 W') => HR.out W' (HB0.out.trans (hW.mono (by have := HB0.out.size; omega))))
  have H00 : Hid (InI ((a1, a2, a3, a4), (b1, b2, b3, b4), (d1, d2, d3, d4)) L W1 L.length (.bool false) (.int .i64 0) W1) := Lib.hid ⟨0, rfl, rfl, Nat.zero_le _, rfl, Below.refl _ _⟩
  clear HX hlx HR
  go_wp2_with fail
  go_loopg [5, 6] L.length (fun n sv iv wr => Hid (InI ((a1, a2, a3, a4), (b1, b2, b3, b4), (d1, d2, d3, d4)) L W1 n sv iv wr))
  case atStart => exact H00
  case round =>
    obtain ⟨i, rfl, rfl, hi, hn, hbw⟩ := hrel.out
    clear hrel H00
    by_cases hlt : i < L.length
    · have r1 : (i : Int) < (L.length : Int) := by omega
      have hat := List.getElem?_eq_getElem hlt
      obtain ⟨g, o, e1, hn0, hg, hc⟩ := (HRa.out _ hbw).nth (by omega)
      subst e1
      have HTk := Lib.hid (memM_take (m := ((a1, a2, a3, a4), (b1, b2, b3, b4), (d1, d2, d3, d4))) hat)
      have HRow := Lib.hid (fun (W' : World) (hW : Below wr.heap.size wr W') (j : Nat) (x : Mn) (hj : L[j]? = some x) k u (hu : (mnTL x)[k]? = some u) => by
        obtain ⟨g', o', e', _, _, hc'⟩ := (HRa.out W' (belowCC hbw hW)).nth (by omega)
        simp only [Option.some.injEq, Addr.mk.injEq, and_true] at e'
        obtain ⟨rfl, rfl⟩ := e'
        exact hc' j x hj k u hu)
      have HLE2 := Lib.hid (fun W' (hW : Below wr.heap.size wr W') => HLE.out W' (belowCC hbw hW))
      have hatH := Lib.hid hat
      have HN := Lib.hid hn
      have HBw := Lib.hid hbw
      have HPr : Hid (∀ j y, j + 1 = i → L[j]? = some y → cmI y.1 L[i].1 < 0) := Lib.hid (fun j y hj hy => by
        have h1 : j < L.length := by omega
        rw [List.getElem?_eq_getElem h1] at hy
        simp only [Option.some.injEq] at hy
        subst hy
        exact List.pairwise_iff_getElem.1 HSo.out j i h1 hlt (by omega))
      generalize L[i] = x at *
      obtain ⟨⟨x1, x2, x3, x4⟩, ⟨y1, y2, y3, y4⟩, ⟨v1, v2, v3, v4⟩⟩ := x
      have HLX : Hid (∀ W', Below wr.heap.size wr W' → (loadVar 47 ⟨g, o + i * 27, none⟩).run Tryz.prog W' = .ok (.agg #[.int .i64 x1, .int .i64 x4, .int .i64 x3, .string x2, .string ⟨#[]⟩, .int .i64 0, .slice none 0 0, .string ⟨#[]⟩, .int .i64 0, .int .i64 y1, .int .i64 y4, .int .i64 y3, .string y2, .string ⟨#[]⟩, .int .i64 0, .slice none 0 0, .string ⟨#[]⟩, .int .i64 0, .int .i64 v1, .int .i64 v4, .int .i64 v3, .string v2, .string ⟨#[]⟩, .int .i64 0, .slice none 0 0, .string ⟨#[]⟩, .int .i64 0]) W') := Lib.hid (fun W' hW => run_loadVar_at W' g (o + i * 27) 47 #[.int .i64 x1, .int .i64 x4, .int .i64 x3, .string x2, .string ⟨#[]⟩, .int .i64 0, .slice none 0 0, .string ⟨#[]⟩, .int .i64 0, .int .i64 y1, .int .i64 y4, .int .i64 y3, .string y2, .string ⟨#[]⟩, .int .i64 0, .slice none 0 0, .string ⟨#[]⟩, .int .i64 0, .int .i64 v1, .int .i64 v4, .int .i64 v3, .string v2, .string ⟨#[]⟩, .int .i64 0, .slice none 0 0, .string ⟨#[]⟩, .int .i64 0] _ (fun j u hu => by
        have := HRow.out W' hW i _ hatH.out j u hu
        rw [← Nat.add_assoc] at this
        exact this) rfl Tryz.underlying47 hsz27)
      have HSx : Hid (∀ W', Calls Tryz.prog 32 #[.agg #[.int .i64 x1, .int .i64 x4, .int .i64 x3, .string x2, .string ⟨#[]⟩, .int .i64 0, .slice none 0 0, .string ⟨#[]⟩, .int .i64 0, .int .i64 y1, .int .i64 y4, .int .i64 y3, .string y2, .string ⟨#[]⟩, .int .i64 0, .slice none 0 0, .string ⟨#[]⟩, .int .i64 0, .int .i64 v1, .int .i64 v4, .int .i64 v3, .string v2, .string ⟨#[]⟩, .int .i64 0, .slice none 0 0, .string ⟨#[]⟩, .int .i64 0], .agg #[.int .i64 a1, .int .i64 a4, .int .i64 a3, .string a2, .string ⟨#[]⟩, .int .i64 0, .slice p1 0 c1, .string ⟨#[]⟩, .int .i64 0, .int .i64 b1, .int .i64 b4, .int .i64 b3, .string b2, .string ⟨#[]⟩, .int .i64 0, .slice p2 0 c2, .string ⟨#[]⟩, .int .i64 0, .int .i64 d1, .int .i64 d4, .int .i64 d3, .string d2, .string ⟨#[]⟩, .int .i64 0, .slice p3 0 c3, .string ⟨#[]⟩, .int .i64 0]] W' (fun e w' => e = .returned (.bool (decide (((x1, x2, x3, x4), (y1, y2, y3, y4), (v1, v2, v3, v4)) = ((a1, a2, a3, a4), (b1, b2, b3, b4), (d1, d2, d3, d4))))) ∧ Below W'.heap.size W' w')) := Lib.hid (fun W' => HSm.out ((x1, x2, x3, x4), (y1, y2, y3, y4), (v1, v2, v3, v4)) W')
      generalize decide (((x1, x2, x3, x4), (y1, y2, y3, y4), (v1, v2, v3, v4)) = ((a1, a2, a3, a4), (b1, b2, b3, b4), (d1, d2, d3, d4))) = q at *
      generalize memM ((a1, a2, a3, a4), (b1, b2, b3, b4), (d1, d2, d3, d4)) (L.take i) = s at *
      clear hc hn hbw hn0 hat hg
      go_upto_region 5 with (fail)
      go_cut [5] from 13 to 21 (fun s5 wc => s5 = .bool (s || q) ∧ Below wr.heap.size wr wc)
      case first =>
        cases s
        · have hbd : Below wr.heap.size wr wr.drew := belowD (Below.refl _ _)
          have l1 := HLX.out _ hbd
          have l2 := HLE2.out _ hbd
          refine wp_region_held_drew (S := (fun w' => (loadVar 47 ⟨g, o + i * 27, none⟩).run Tryz.prog w' = .ok (.agg #[.int .i64 x1, .int .i64 x4, .int .i64 x3, .string x2, .string ⟨#[]⟩, .int .i64 0, .slice none 0 0, .string ⟨#[]⟩, .int .i64 0, .int .i64 y1, .int .i64 y4, .int .i64 y3, .string y2, .string ⟨#[]⟩, .int .i64 0, .slice none 0 0, .string ⟨#[]⟩, .int .i64 0, .int .i64 v1, .int .i64 v4, .int .i64 v3, .string v2, .string ⟨#[]⟩, .int .i64 0, .slice none 0 0, .string ⟨#[]⟩, .int .i64 0]) w' ∧ (loadVar 47 ⟨zm, 0, none⟩).run Tryz.prog w' = .ok (.agg #[.int .i64 a1, .int .i64 a4, .int .i64 a3, .string a2, .string ⟨#[]⟩, .int .i64 0, .slice p1 0 c1, .string ⟨#[]⟩, .int .i64 0, .int .i64 b1, .int .i64 b4, .int .i64 b3, .string b2, .string ⟨#[]⟩, .int .i64 0, .slice p2 0 c2, .string ⟨#[]⟩, .int .i64 0, .int .i64 d1, .int .i64 d4, .int .i64 d3, .string d2, .string ⟨#[]⟩, .int .i64 0, .slice p3 0 c3, .string ⟨#[]⟩, .int .i64 0]) w')) (by kernel_rfl) ?_ (fun hHeld => ?_)
          · exact ⟨l1, l2⟩
          refine wpAnyH_take (i := 0) (oi := { dst := some 13, op := Op.move (Operand.tmp 5), type := 4, pos := "law.go:364", after := #[], guard := none }) (v := ?vvA0) rfl (by kernel_rfl) (by kernel_rfl) (by kernel_rfl) (fun _ _ _ h => h) (Or.inl ⟨by rfl, ?hyA0⟩) (by assumption) ?rsA0
          case hyA0 =>
            intro w hSw
            (try dsimp only at hSw)
            go_simp
            (try with_reducible rfl)
          (try simp only [Act.put, List.setIfInBounds_toArray, List.set_cons_zero, List.set_cons_succ])
          refine wpAnyH_take (i := 1) (oi := { dst := some 14, op := Op.move (Operand.tmp 13), type := 4, pos := "law.go:364", after := #[{ on := 0, ground := Ground.data }], guard := none }) (v := ?vvA1) rfl (by kernel_rfl) (by kernel_rfl) (by kernel_rfl) (fun _ _ _ h => h) (Or.inl ⟨by rfl, ?hyA1⟩) (by assumption) ?rsA1
          case hyA1 =>
            intro w hSw
            (try dsimp only at hSw)
            go_simp
            (try with_reducible rfl)
          (try simp only [Act.put, List.setIfInBounds_toArray, List.set_cons_zero, List.set_cons_succ])
          refine wpAnyH_take (i := 2) (oi := { dst := some 15, op := Op.move (Operand.tmp 0), type := 45, pos := "law.go:364", after := #[{ on := 1, ground := Ground.guard }], guard := some (1, false) }) (v := ?vvA2) rfl (by kernel_rfl) (by kernel_rfl) (by kernel_rfl) (fun _ _ _ h => h) (Or.inl ⟨by rfl, ?hyA2⟩) (by assumption) ?rsA2
          case hyA2 =>
            intro w hSw
            (try dsimp only at hSw)
            go_simp
            (try with_reducible rfl)
          (try simp only [Act.put, List.setIfInBounds_toArray, List.set_cons_zero, List.set_cons_succ])
          refine wpAnyH_take (i := 3) (oi := { dst := some 16, op := Op.move (Operand.tmp 6), type := 3, pos := "law.go:364", after := #[{ on := 1, ground := Ground.guard }], guard := some (1, false) }) (v := ?vvA3) rfl (by kernel_rfl) (by kernel_rfl) (by kernel_rfl) (fun _ _ _ h => h) (Or.inl ⟨by rfl, ?hyA3⟩) (by assumption) ?rsA3
          case hyA3 =>
            intro w hSw
            (try dsimp only at hSw)
            go_simp
            (try with_reducible rfl)
          (try simp only [Act.put, List.setIfInBounds_toArray, List.set_cons_zero, List.set_cons_succ])
          refine wpAnyH_take (i := 4) (oi := { dst := some 17, op := Op.indexAddr 45 (Operand.tmp 15) (Operand.tmp 16), type := 0, pos := "law.go:364", after := #[{ on := 2, ground := Ground.data }, { on := 3, ground := Ground.data }, { on := 1, ground := Ground.guard }], guard := some (1, false) }) (v := ?vvA4) rfl (by kernel_rfl) (by kernel_rfl) (by kernel_rfl) (fun _ _ _ h => h) (Or.inl ⟨by rfl, ?hyA4⟩) (by assumption) ?rsA4
          case hyA4 =>
            intro w hSw
            (try dsimp only at hSw)
            go_simp
            (try with_reducible rfl)
          (try simp only [Act.put, List.setIfInBounds_toArray, List.set_cons_zero, List.set_cons_succ])
          refine wpAnyH_take (i := 5) (oi := { dst := some 18, op := Op.load 47 (Operand.tmp 17), type := 47, pos := "law.go:364", after := #[{ on := 4, ground := Ground.data }, { on := 1, ground := Ground.guard }], guard := some (1, false) }) rfl (by kernel_rfl) (by kernel_rfl) (by kernel_rfl) (fun _ _ _ h => h) (yields_rowO (by rfl) 47 (.tmp 17) rfl g (o + i * 27) rfl _ (fun w hs => hs.1)) (by assumption) ?_
          (try simp only [Act.put, List.setIfInBounds_toArray, List.set_cons_zero, List.set_cons_succ])
          refine wpAnyH_take (i := 6) (oi := { dst := some 19, op := Op.load 47 (Operand.tmp 3), type := 47, pos := "law.go:364", after := #[{ on := 1, ground := Ground.guard }], guard := some (1, false) }) rfl (by kernel_rfl) (by kernel_rfl) (by kernel_rfl) (fun _ _ _ h => h) (yields_rowO (by rfl) 47 (.tmp 3) rfl zm 0 rfl _ (fun w hs => hs.2)) (by assumption) ?_
          (try simp only [Act.put, List.setIfInBounds_toArray, List.set_cons_zero, List.set_cons_succ])
          refine wpAnyH_ready (rs := [7]) (by kernel_rfl) (by simp) ?_
          refine AllReadyH.cons (o := { dst := some 20, op := Op.call { callee := Callee.value (Operand.func 32), args := #[Operand.tmp 18, Operand.tmp 19], argTypes := #[47, 47] }, type := 4, pos := "law.go:364", after := #[{ on := 5, ground := Ground.data }, { on := 6, ground := Ground.data }, { on := 1, ground := Ground.chain }, { on := 1, ground := Ground.guard }], guard := some (1, false) }) rfl (fun K hK => ?_) AllReadyH.nil
          go_simp
          refine (HSx.out _).mono ?_
          rintro e w5 ⟨rfl, hb⟩
          replace hbd := hbd.trans (hb.mono hbd.size)
          clear hb l1 l2
          have l1 := HLX.out _ hbd
          have l2 := HLE2.out _ hbd
          go_wp2_with fail
          refine hK.out _ _ ?_ (fun hHeld => ?_)
          · exact ⟨l1, l2⟩
          clear hK K
          (try simp only [Act.put, List.setIfInBounds_toArray, List.set_cons_zero, List.set_cons_succ])
          refine wpAnyH_take (i := 8) (oi := { dst := some 21, op := Op.pick (Operand.tmp 14) (Operand.const (Value.bool true)) (Operand.tmp 20), type := 4, pos := "law.go:364", after := #[{ on := 1, ground := Ground.data }, { on := 7, ground := Ground.data }], guard := none }) (v := ?vvA8) rfl (by kernel_rfl) (by kernel_rfl) (by kernel_rfl) (fun _ _ _ h => h) (Or.inl ⟨by rfl, ?hyA8⟩) (by assumption) ?rsA8
          case hyA8 =>
            intro w hSw
            (try dsimp only at hSw)
            go_simp
            (try with_reducible rfl)
          (try simp only [Act.put, List.setIfInBounds_toArray, List.set_cons_zero, List.set_cons_succ])
          refine wpAnyH_take (i := 9) (oi := { dst := some 5, op := Op.assign (Operand.tmp 21), type := 4, pos := "law.go:364", after := #[{ on := 8, ground := Ground.data }, { on := 7, ground := Ground.chain }, { on := 0, ground := Ground.phase }, { on := 1, ground := Ground.phase }, { on := 2, ground := Ground.phase }, { on := 3, ground := Ground.phase }, { on := 4, ground := Ground.phase }, { on := 5, ground := Ground.phase }, { on := 6, ground := Ground.phase }, { on := 7, ground := Ground.phase }, { on := 8, ground := Ground.phase }], guard := none }) (v := ?vvA9) rfl (by kernel_rfl) (by kernel_rfl) (by kernel_rfl) (fun _ _ _ h => h) (Or.inl ⟨by rfl, ?hyA9⟩) (by assumption) ?rsA9
          case hyA9 =>
            intro w hSw
            (try dsimp only at hSw)
            go_simp
            (try with_reducible rfl)
          (try simp only [Act.put, List.setIfInBounds_toArray, List.set_cons_zero, List.set_cons_succ])
          refine wpAnyH_done (by kernel_rfl) ?_ _
          go_wp2_with fail
          go_meet
          exact ⟨rfl, hbd⟩
        · have hbd : Below wr.heap.size wr wr.drew := belowD (Below.refl _ _)
          have l1 := HLX.out _ hbd
          have l2 := HLE2.out _ hbd
          refine wp_region_held_drew (S := (fun w' => (loadVar 47 ⟨g, o + i * 27, none⟩).run Tryz.prog w' = .ok (.agg #[.int .i64 x1, .int .i64 x4, .int .i64 x3, .string x2, .string ⟨#[]⟩, .int .i64 0, .slice none 0 0, .string ⟨#[]⟩, .int .i64 0, .int .i64 y1, .int .i64 y4, .int .i64 y3, .string y2, .string ⟨#[]⟩, .int .i64 0, .slice none 0 0, .string ⟨#[]⟩, .int .i64 0, .int .i64 v1, .int .i64 v4, .int .i64 v3, .string v2, .string ⟨#[]⟩, .int .i64 0, .slice none 0 0, .string ⟨#[]⟩, .int .i64 0]) w' ∧ (loadVar 47 ⟨zm, 0, none⟩).run Tryz.prog w' = .ok (.agg #[.int .i64 a1, .int .i64 a4, .int .i64 a3, .string a2, .string ⟨#[]⟩, .int .i64 0, .slice p1 0 c1, .string ⟨#[]⟩, .int .i64 0, .int .i64 b1, .int .i64 b4, .int .i64 b3, .string b2, .string ⟨#[]⟩, .int .i64 0, .slice p2 0 c2, .string ⟨#[]⟩, .int .i64 0, .int .i64 d1, .int .i64 d4, .int .i64 d3, .string d2, .string ⟨#[]⟩, .int .i64 0, .slice p3 0 c3, .string ⟨#[]⟩, .int .i64 0]) w')) (by kernel_rfl) ?_ (fun hHeld => ?_)
          · exact ⟨l1, l2⟩
          refine wpAnyH_take (i := 0) (oi := { dst := some 13, op := Op.move (Operand.tmp 5), type := 4, pos := "law.go:364", after := #[], guard := none }) (v := ?vvB0) rfl (by kernel_rfl) (by kernel_rfl) (by kernel_rfl) (fun _ _ _ h => h) (Or.inl ⟨by rfl, ?hyB0⟩) (by assumption) ?rsB0
          case hyB0 =>
            intro w hSw
            (try dsimp only at hSw)
            go_simp
            (try with_reducible rfl)
          (try simp only [Act.put, List.setIfInBounds_toArray, List.set_cons_zero, List.set_cons_succ])
          refine wpAnyH_take (i := 1) (oi := { dst := some 14, op := Op.move (Operand.tmp 13), type := 4, pos := "law.go:364", after := #[{ on := 0, ground := Ground.data }], guard := none }) (v := ?vvB1) rfl (by kernel_rfl) (by kernel_rfl) (by kernel_rfl) (fun _ _ _ h => h) (Or.inl ⟨by rfl, ?hyB1⟩) (by assumption) ?rsB1
          case hyB1 =>
            intro w hSw
            (try dsimp only at hSw)
            go_simp
            (try with_reducible rfl)
          (try simp only [Act.put, List.setIfInBounds_toArray, List.set_cons_zero, List.set_cons_succ])
          refine wpAnyH_take (i := 2) (oi := { dst := some 15, op := Op.move (Operand.tmp 0), type := 45, pos := "law.go:364", after := #[{ on := 1, ground := Ground.guard }], guard := some (1, false) }) (v := undef) rfl (by kernel_rfl) (by kernel_rfl) (by kernel_rfl) (fun _ _ _ h => h) (Or.inr ⟨by rfl, rfl⟩) (by assumption) ?_
          (try simp only [Act.put, List.setIfInBounds_toArray, List.set_cons_zero, List.set_cons_succ])
          refine wpAnyH_take (i := 3) (oi := { dst := some 16, op := Op.move (Operand.tmp 6), type := 3, pos := "law.go:364", after := #[{ on := 1, ground := Ground.guard }], guard := some (1, false) }) (v := undef) rfl (by kernel_rfl) (by kernel_rfl) (by kernel_rfl) (fun _ _ _ h => h) (Or.inr ⟨by rfl, rfl⟩) (by assumption) ?_
          (try simp only [Act.put, List.setIfInBounds_toArray, List.set_cons_zero, List.set_cons_succ])
          refine wpAnyH_take (i := 4) (oi := { dst := some 17, op := Op.indexAddr 45 (Operand.tmp 15) (Operand.tmp 16), type := 0, pos := "law.go:364", after := #[{ on := 2, ground := Ground.data }, { on := 3, ground := Ground.data }, { on := 1, ground := Ground.guard }], guard := some (1, false) }) (v := undef) rfl (by kernel_rfl) (by kernel_rfl) (by kernel_rfl) (fun _ _ _ h => h) (Or.inr ⟨by rfl, rfl⟩) (by assumption) ?_
          (try simp only [Act.put, List.setIfInBounds_toArray, List.set_cons_zero, List.set_cons_succ])
          refine wpAnyH_take (i := 5) (oi := { dst := some 18, op := Op.load 47 (Operand.tmp 17), type := 47, pos := "law.go:364", after := #[{ on := 4, ground := Ground.data }, { on := 1, ground := Ground.guard }], guard := some (1, false) }) (v := undef) rfl (by kernel_rfl) (by kernel_rfl) (by kernel_rfl) (fun _ _ _ h => h) (Or.inr ⟨by rfl, rfl⟩) (by assumption) ?_
          (try simp only [Act.put, List.setIfInBounds_toArray, List.set_cons_zero, List.set_cons_succ])
          refine wpAnyH_take (i := 6) (oi := { dst := some 19, op := Op.load 47 (Operand.tmp 3), type := 47, pos := "law.go:364", after := #[{ on := 1, ground := Ground.guard }], guard := some (1, false) }) (v := undef) rfl (by kernel_rfl) (by kernel_rfl) (by kernel_rfl) (fun _ _ _ h => h) (Or.inr ⟨by rfl, rfl⟩) (by assumption) ?_
          (try simp only [Act.put, List.setIfInBounds_toArray, List.set_cons_zero, List.set_cons_succ])
          refine wpAnyH_take (i := 7) (oi := { dst := some 20, op := Op.call { callee := Callee.value (Operand.func 32), args := #[Operand.tmp 18, Operand.tmp 19], argTypes := #[47, 47] }, type := 4, pos := "law.go:364", after := #[{ on := 5, ground := Ground.data }, { on := 6, ground := Ground.data }, { on := 1, ground := Ground.chain }, { on := 1, ground := Ground.guard }], guard := some (1, false) }) (v := undef) rfl (by kernel_rfl) (by kernel_rfl) (by kernel_rfl) (fun _ _ _ h => h) (Or.inr ⟨by rfl, rfl⟩) (by assumption) ?_
          (try simp only [Act.put, List.setIfInBounds_toArray, List.set_cons_zero, List.set_cons_succ])
          refine wpAnyH_take (i := 8) (oi := { dst := some 21, op := Op.pick (Operand.tmp 14) (Operand.const (Value.bool true)) (Operand.tmp 20), type := 4, pos := "law.go:364", after := #[{ on := 1, ground := Ground.data }, { on := 7, ground := Ground.data }], guard := none }) (v := ?vvB8) rfl (by kernel_rfl) (by kernel_rfl) (by kernel_rfl) (fun _ _ _ h => h) (Or.inl ⟨by rfl, ?hyB8⟩) (by assumption) ?rsB8
          case hyB8 =>
            intro w hSw
            (try dsimp only at hSw)
            go_simp
            (try with_reducible rfl)
          (try simp only [Act.put, List.setIfInBounds_toArray, List.set_cons_zero, List.set_cons_succ])
          refine wpAnyH_take (i := 9) (oi := { dst := some 5, op := Op.assign (Operand.tmp 21), type := 4, pos := "law.go:364", after := #[{ on := 8, ground := Ground.data }, { on := 7, ground := Ground.chain }, { on := 0, ground := Ground.phase }, { on := 1, ground := Ground.phase }, { on := 2, ground := Ground.phase }, { on := 3, ground := Ground.phase }, { on := 4, ground := Ground.phase }, { on := 5, ground := Ground.phase }, { on := 6, ground := Ground.phase }, { on := 7, ground := Ground.phase }, { on := 8, ground := Ground.phase }], guard := none }) (v := ?vvB9) rfl (by kernel_rfl) (by kernel_rfl) (by kernel_rfl) (fun _ _ _ h => h) (Or.inl ⟨by rfl, ?hyB9⟩) (by assumption) ?rsB9
          case hyB9 =>
            intro w hSw
            (try dsimp only at hSw)
            go_simp
            (try with_reducible rfl)
          (try simp only [Act.put, List.setIfInBounds_toArray, List.set_cons_zero, List.set_cons_succ])
          refine wpAnyH_done (by kernel_rfl) ?_ _
          go_wp2_with fail
          go_meet
          exact ⟨rfl, hbd⟩
      case rest =>
        obtain ⟨rfl, hbc⟩ := hcut
        have HBc := Lib.hid (belowCC HBw.out hbc)
        have HRc := Lib.hid (fun (W' : World) (hW : Below wc.heap.size wc W') => HRow.out W' (belowCC hbc hW))
        clear hbc HRow HLE2 HLX HSx
        go_upto_region 6 with (fail)
        go_cut [38] from 22 to 37 (fun v6 w6 => v6 = .bool false ∧ Below wc.heap.size wc w6)
        case first =>
          by_cases hi0 : i = 0
          · subst hi0
            have hbd : Below wc.heap.size wc wc.drew := belowD (Below.refl _ _)
            refine wp_region_held_drew (S := (fun w' => Below wc.heap.size wc w')) (by kernel_rfl) ?_ (fun hHeld => ?_)
            · exact hbd
            refine wpAnyH_take (i := 0) (oi := { dst := some 22, op := Op.move (Operand.tmp 6), type := 3, pos := "law.go:365", after := #[], guard := none }) (v := ?vvC0) rfl (by kernel_rfl) (by kernel_rfl) (by kernel_rfl) (fun _ _ _ h => h) (Or.inl ⟨by rfl, ?hyC0⟩) (by assumption) ?rsC0
            case hyC0 =>
              intro w hSw
              (try dsimp only at hSw)
              go_simp
              (try with_reducible rfl)
            (try simp only [Act.put, List.setIfInBounds_toArray, List.set_cons_zero, List.set_cons_succ])
            refine wpAnyH_take (i := 1) (oi := { dst := some 23, op := Op.binOp BinOp.gtr 3 (Operand.tmp 22) (Operand.const (Value.int IntKind.i64 0)) 3, type := 4, pos := "law.go:365", after := #[{ on := 0, ground := Ground.data }], guard := none }) (v := ?vvC1) rfl (by kernel_rfl) (by kernel_rfl) (by kernel_rfl) (fun _ _ _ h => h) (Or.inl ⟨by rfl, ?hyC1⟩) (by assumption) ?rsC1
            case hyC1 =>
              intro w hSw
              (try dsimp only at hSw)
              go_simp
              (try with_reducible rfl)
            (try simp only [Act.put, List.setIfInBounds_toArray, List.set_cons_zero, List.set_cons_succ])
            refine wpAnyH_take (i := 2) (oi := { dst := some 24, op := Op.move (Operand.tmp 23), type := 4, pos := "law.go:365", after := #[{ on := 1, ground := Ground.data }], guard := none }) (v := ?vvC2) rfl (by kernel_rfl) (by kernel_rfl) (by kernel_rfl) (fun _ _ _ h => h) (Or.inl ⟨by rfl, ?hyC2⟩) (by assumption) ?rsC2
            case hyC2 =>
              intro w hSw
              (try dsimp only at hSw)
              go_simp
              (try with_reducible rfl)
            (try simp only [Act.put, List.setIfInBounds_toArray, List.set_cons_zero, List.set_cons_succ])
            refine wpAnyH_take (i := 3) (oi := { dst := some 25, op := Op.move (Operand.tmp 0), type := 45, pos := "law.go:365", after := #[{ on := 2, ground := Ground.guard }], guard := some (2, true) }) (v := undef) rfl (by kernel_rfl) (by kernel_rfl) (by kernel_rfl) (fun _ _ _ h => h) (Or.inr ⟨by rfl, rfl⟩) (by assumption) ?_
            (try simp only [Act.put, List.setIfInBounds_toArray, List.set_cons_zero, List.set_cons_succ])
            refine wpAnyH_take (i := 4) (oi := { dst := some 26, op := Op.move (Operand.tmp 6), type := 3, pos := "law.go:365", after := #[{ on := 2, ground := Ground.guard }], guard := some (2, true) }) (v := undef) rfl (by kernel_rfl) (by kernel_rfl) (by kernel_rfl) (fun _ _ _ h => h) (Or.inr ⟨by rfl, rfl⟩) (by assumption) ?_
            (try simp only [Act.put, List.setIfInBounds_toArray, List.set_cons_zero, List.set_cons_succ])
            refine wpAnyH_take (i := 5) (oi := { dst := some 27, op := Op.binOp BinOp.sub 3 (Operand.tmp 26) (Operand.const (Value.int IntKind.i64 1)) 3, type := 3, pos := "law.go:365", after := #[{ on := 4, ground := Ground.data }, { on := 2, ground := Ground.guard }], guard := some (2, true) }) (v := undef) rfl (by kernel_rfl) (by kernel_rfl) (by kernel_rfl) (fun _ _ _ h => h) (Or.inr ⟨by rfl, rfl⟩) (by assumption) ?_
            (try simp only [Act.put, List.setIfInBounds_toArray, List.set_cons_zero, List.set_cons_succ])
            refine wpAnyH_take (i := 6) (oi := { dst := some 28, op := Op.indexAddr 45 (Operand.tmp 25) (Operand.tmp 27), type := 0, pos := "law.go:365", after := #[{ on := 3, ground := Ground.data }, { on := 5, ground := Ground.data }, { on := 2, ground := Ground.guard }], guard := some (2, true) }) (v := undef) rfl (by kernel_rfl) (by kernel_rfl) (by kernel_rfl) (fun _ _ _ h => h) (Or.inr ⟨by rfl, rfl⟩) (by assumption) ?_
            (try simp only [Act.put, List.setIfInBounds_toArray, List.set_cons_zero, List.set_cons_succ])
            refine wpAnyH_take (i := 7) (oi := { dst := some 29, op := Op.fieldAddr 47 (Operand.tmp 28) 0, type := 0, pos := "law.go:365", after := #[{ on := 6, ground := Ground.data }, { on := 2, ground := Ground.guard }], guard := some (2, true) }) (v := undef) rfl (by kernel_rfl) (by kernel_rfl) (by kernel_rfl) (fun _ _ _ h => h) (Or.inr ⟨by rfl, rfl⟩) (by assumption) ?_
            (try simp only [Act.put, List.setIfInBounds_toArray, List.set_cons_zero, List.set_cons_succ])
            refine wpAnyH_take (i := 8) (oi := { dst := some 30, op := Op.load 30 (Operand.tmp 29), type := 30, pos := "law.go:365", after := #[{ on := 7, ground := Ground.data }, { on := 2, ground := Ground.guard }], guard := some (2, true) }) (v := undef) rfl (by kernel_rfl) (by kernel_rfl) (by kernel_rfl) (fun _ _ _ h => h) (Or.inr ⟨by rfl, rfl⟩) (by assumption) ?_
            (try simp only [Act.put, List.setIfInBounds_toArray, List.set_cons_zero, List.set_cons_succ])
            refine wpAnyH_take (i := 9) (oi := { dst := some 31, op := Op.move (Operand.tmp 0), type := 45, pos := "law.go:365", after := #[{ on := 2, ground := Ground.guard }], guard := some (2, true) }) (v := undef) rfl (by kernel_rfl) (by kernel_rfl) (by kernel_rfl) (fun _ _ _ h => h) (Or.inr ⟨by rfl, rfl⟩) (by assumption) ?_
            (try simp only [Act.put, List.setIfInBounds_toArray, List.set_cons_zero, List.set_cons_succ])
            refine wpAnyH_take (i := 10) (oi := { dst := some 32, op := Op.move (Operand.tmp 6), type := 3, pos := "law.go:365", after := #[{ on := 2, ground := Ground.guard }], guard := some (2, true) }) (v := undef) rfl (by kernel_rfl) (by kernel_rfl) (by kernel_rfl) (fun _ _ _ h => h) (Or.inr ⟨by rfl, rfl⟩) (by assumption) ?_
            (try simp only [Act.put, List.setIfInBounds_toArray, List.set_cons_zero, List.set_cons_succ])
            refine wpAnyH_take (i := 11) (oi := { dst := some 33, op := Op.indexAddr 45 (Operand.tmp 31) (Operand.tmp 32), type := 0, pos := "law.go:365", after := #[{ on := 9, ground := Ground.data }, { on := 10, ground := Ground.data }, { on := 2, ground := Ground.guard }], guard := some (2, true) }) (v := undef) rfl (by kernel_rfl) (by kernel_rfl) (by kernel_rfl) (fun _ _ _ h => h) (Or.inr ⟨by rfl, rfl⟩) (by assumption) ?_
            (try simp only [Act.put, List.setIfInBounds_toArray, List.set_cons_zero, List.set_cons_succ])
            refine wpAnyH_take (i := 12) (oi := { dst := some 34, op := Op.fieldAddr 47 (Operand.tmp 33) 0, type := 0, pos := "law.go:365", after := #[{ on := 11, ground := Ground.data }, { on := 2, ground := Ground.guard }], guard := some (2, true) }) (v := undef) rfl (by kernel_rfl) (by kernel_rfl) (by kernel_rfl) (fun _ _ _ h => h) (Or.inr ⟨by rfl, rfl⟩) (by assumption) ?_
            (try simp only [Act.put, List.setIfInBounds_toArray, List.set_cons_zero, List.set_cons_succ])
            refine wpAnyH_take (i := 13) (oi := { dst := some 35, op := Op.load 30 (Operand.tmp 34), type := 30, pos := "law.go:365", after := #[{ on := 12, ground := Ground.data }, { on := 2, ground := Ground.guard }], guard := some (2, true) }) (v := undef) rfl (by kernel_rfl) (by kernel_rfl) (by kernel_rfl) (fun _ _ _ h => h) (Or.inr ⟨by rfl, rfl⟩) (by assumption) ?_
            (try simp only [Act.put, List.setIfInBounds_toArray, List.set_cons_zero, List.set_cons_succ])
            refine wpAnyH_take (i := 14) (oi := { dst := some 36, op := Op.call { callee := Callee.value (Operand.func 87), args := #[Operand.tmp 30, Operand.tmp 35], argTypes := #[30, 30] }, type := 3, pos := "law.go:365", after := #[{ on := 8, ground := Ground.data }, { on := 13, ground := Ground.data }, { on := 2, ground := Ground.chain }, { on := 2, ground := Ground.guard }], guard := some (2, true) }) (v := undef) rfl (by kernel_rfl) (by kernel_rfl) (by kernel_rfl) (fun _ _ _ h => h) (Or.inr ⟨by rfl, rfl⟩) (by assumption) ?_
            (try simp only [Act.put, List.setIfInBounds_toArray, List.set_cons_zero, List.set_cons_succ])
            refine wpAnyH_take (i := 15) (oi := { dst := some 37, op := Op.binOp BinOp.geq 3 (Operand.tmp 36) (Operand.const (Value.int IntKind.i64 0)) 3, type := 4, pos := "law.go:365", after := #[{ on := 14, ground := Ground.data }, { on := 2, ground := Ground.guard }], guard := some (2, true) }) (v := undef) rfl (by kernel_rfl) (by kernel_rfl) (by kernel_rfl) (fun _ _ _ h => h) (Or.inr ⟨by rfl, rfl⟩) (by assumption) ?_
            (try simp only [Act.put, List.setIfInBounds_toArray, List.set_cons_zero, List.set_cons_succ])
            refine wpAnyH_take (i := 16) (oi := { dst := some 38, op := Op.pick (Operand.tmp 24) (Operand.tmp 37) (Operand.const (Value.bool false)), type := 4, pos := "law.go:365", after := #[{ on := 2, ground := Ground.data }, { on := 15, ground := Ground.data }], guard := none }) (v := ?vvC16) rfl (by kernel_rfl) (by kernel_rfl) (by kernel_rfl) (fun _ _ _ h => h) (Or.inl ⟨by rfl, ?hyC16⟩) (by assumption) ?rsC16
            case hyC16 =>
              intro w hSw
              (try dsimp only at hSw)
              go_simp
              (try with_reducible rfl)
            (try simp only [Act.put, List.setIfInBounds_toArray, List.set_cons_zero, List.set_cons_succ])
            refine wpAnyH_done (by kernel_rfl) ?_ _
            go_wp2_with fail
            go_meet
            exact ⟨rfl, hbd⟩
          · obtain ⟨j, hj⟩ : ∃ j, j + 1 = i := ⟨i - 1, by omega⟩
            obtain ⟨y, hy⟩ : ∃ y, L[j]? = some y := ⟨_, List.getElem?_eq_getElem (by omega)⟩
            have hk := HPr.out j y hj hy
            obtain ⟨⟨z1, z2, z3, z4⟩, yb, yc⟩ := y
            have HC : Hid (∀ W', Calls Tryz.prog 87 #[.agg #[.int .i64 z1, .int .i64 z4, .int .i64 z3, .string z2, .string ⟨#[]⟩, .int .i64 0, .slice none 0 0, .string ⟨#[]⟩, .int .i64 0], .agg #[.int .i64 x1, .int .i64 x4, .int .i64 x3, .string x2, .string ⟨#[]⟩, .int .i64 0, .slice none 0 0, .string ⟨#[]⟩, .int .i64 0]] W' (fun e w' => e = .returned (.int .i64 (cmI (z1, z2, z3, z4) (x1, x2, x3, x4))) ∧ Below W'.heap.size W' w')) := Lib.hid (fun W' => cmpI87 (z1, z2, z3, z4) (x1, x2, x3, x4) W')
            have hk : cmI (z1, z2, z3, z4) (x1, x2, x3, x4) < 0 := hk
            generalize cmI (z1, z2, z3, z4) (x1, x2, x3, x4) = kk at *
            have q1 : ¬ (0 ≤ kk) := by omega
            have hw1 : IntKind.i64.wrap ((i : Int) - 1) = (j : Int) := by rw [show (i : Int) - 1 = (j : Int) by omega]; exact IntWalk.i64_in _ (by omega)
            have r0 : (0 : Int) < (i : Int) := by omega
            have r0n : 0 < i := by omega
            have r2 : (j : Int) < (L.length : Int) := by omega
            have HCe : Hid (∀ W', Below wc.heap.size wc W' → W'.cell? ⟨g, o + j * 27, none⟩ = some (.int .i64 z1) ∧ W'.cell? ⟨g, o + j * 27 + 1, none⟩ = some (.int .i64 z4) ∧ W'.cell? ⟨g, o + j * 27 + 2, none⟩ = some (.int .i64 z3) ∧ W'.cell? ⟨g, o + j * 27 + 3, none⟩ = some (.string z2) ∧ W'.cell? ⟨g, o + j * 27 + 4, none⟩ = some (.string ⟨#[]⟩) ∧ W'.cell? ⟨g, o + j * 27 + 5, none⟩ = some (.int .i64 0) ∧ W'.cell? ⟨g, o + j * 27 + 6, none⟩ = some (.slice none 0 0) ∧ W'.cell? ⟨g, o + j * 27 + 7, none⟩ = some (.string ⟨#[]⟩) ∧ W'.cell? ⟨g, o + j * 27 + 8, none⟩ = some (.int .i64 0) ∧ W'.cell? ⟨g, o + i * 27, none⟩ = some (.int .i64 x1) ∧ W'.cell? ⟨g, o + i * 27 + 1, none⟩ = some (.int .i64 x4) ∧ W'.cell? ⟨g, o + i * 27 + 2, none⟩ = some (.int .i64 x3) ∧ W'.cell? ⟨g, o + i * 27 + 3, none⟩ = some (.string x2) ∧ W'.cell? ⟨g, o + i * 27 + 4, none⟩ = some (.string ⟨#[]⟩) ∧ W'.cell? ⟨g, o + i * 27 + 5, none⟩ = some (.int .i64 0) ∧ W'.cell? ⟨g, o + i * 27 + 6, none⟩ = some (.slice none 0 0) ∧ W'.cell? ⟨g, o + i * 27 + 7, none⟩ = some (.string ⟨#[]⟩) ∧ W'.cell? ⟨g, o + i * 27 + 8, none⟩ = some (.int .i64 0)) := Lib.hid (fun W' hW => by
              have hp := fun k u hu => HRc.out W' hW j _ hy k u hu
              have hq := fun k u hu => HRc.out W' hW i _ hatH.out k u hu
              simp only [← Nat.add_assoc] at hp hq
              exact ⟨hp 0 _ rfl, hp 1 _ rfl, hp 2 _ rfl, hp 3 _ rfl, hp 4 _ rfl, hp 5 _ rfl, hp 6 _ rfl, hp 7 _ rfl, hp 8 _ rfl, hq 0 _ rfl, hq 1 _ rfl, hq 2 _ rfl, hq 3 _ rfl, hq 4 _ rfl, hq 5 _ rfl, hq 6 _ rfl, hq 7 _ rfl, hq 8 _ rfl⟩)
            have hbd : Below wc.heap.size wc wc.drew := belowD (Below.refl _ _)
            clear hk hy hj hi0
            obtain ⟨e0, e1, e2, e3, e4, e5, e6, e7, e8, f0, f1, f2, f3, f4, f5, f6, f7, f8⟩ := HCe.out _ hbd
            go_region_held3 (fun w' => w'.cell? ⟨g, o + j * 27, none⟩ = some (.int .i64 z1) ∧ w'.cell? ⟨g, o + j * 27 + 1, none⟩ = some (.int .i64 z4) ∧ w'.cell? ⟨g, o + j * 27 + 2, none⟩ = some (.int .i64 z3) ∧ w'.cell? ⟨g, o + j * 27 + 3, none⟩ = some (.string z2) ∧ w'.cell? ⟨g, o + j * 27 + 4, none⟩ = some (.string ⟨#[]⟩) ∧ w'.cell? ⟨g, o + j * 27 + 5, none⟩ = some (.int .i64 0) ∧ w'.cell? ⟨g, o + j * 27 + 6, none⟩ = some (.slice none 0 0) ∧ w'.cell? ⟨g, o + j * 27 + 7, none⟩ = some (.string ⟨#[]⟩) ∧ w'.cell? ⟨g, o + j * 27 + 8, none⟩ = some (.int .i64 0) ∧ w'.cell? ⟨g, o + i * 27, none⟩ = some (.int .i64 x1) ∧ w'.cell? ⟨g, o + i * 27 + 1, none⟩ = some (.int .i64 x4) ∧ w'.cell? ⟨g, o + i * 27 + 2, none⟩ = some (.int .i64 x3) ∧ w'.cell? ⟨g, o + i * 27 + 3, none⟩ = some (.string x2) ∧ w'.cell? ⟨g, o + i * 27 + 4, none⟩ = some (.string ⟨#[]⟩) ∧ w'.cell? ⟨g, o + i * 27 + 5, none⟩ = some (.int .i64 0) ∧ w'.cell? ⟨g, o + i * 27 + 6, none⟩ = some (.slice none 0 0) ∧ w'.cell? ⟨g, o + i * 27 + 7, none⟩ = some (.string ⟨#[]⟩) ∧ w'.cell? ⟨g, o + i * 27 + 8, none⟩ = some (.int .i64 0)) (go_keep)
              (first
                | (go_at_call 87; (with_reducible refine (HC.out _).mono ?_); rintro e w5 ⟨rfl, hb⟩; replace hbd := hbd.trans (hb.mono hbd.size); obtain ⟨e0, e1, e2, e3, e4, e5, e6, e7, e8, f0, f1, f2, f3, f4, f5, f6, f7, f8⟩ := HCe.out _ hbd)
                | fail)
            all_goals
              go_wp2_with fail
              go_meet
              have hz : decide (0 ≤ kk) = false := decide_eq_false (by omega)
              exact ⟨by rw [hz], hbd⟩
        case rest =>
          obtain ⟨rfl, hb6⟩ := hcut
          have HB6 := Lib.hid (belowCC HBc.out hb6)
          clear hb6
          go_wp2_with fail
          go_roundg (L.length - (i + 1))
          case measure => have := HN.out; omega
          case rel => exact Lib.hid ⟨i + 1, by go_num, by rw [HTk.out], by omega, rfl, HB6.out⟩
    · obtain rfl : i = L.length := by omega
      have HBe := Lib.hid (HB0.out.trans (hbw.mono (by have := HB0.out.size; omega)))
      have hee : memM ((a1, a2, a3, a4), (b1, b2, b3, b4), (d1, d2, d3, d4)) (L.take L.length) = r := by rw [List.take_length]; exact HRr.out
      have HEe := Lib.hid hee
      clear hbw hn
      go_wp2_with fail
      go_ret
      exact ⟨by rw [HEe.out]; rfl, by have := HBe.out; rw [hzm]; exact this⟩
end Go.Proofs.YtnakbepcalciiaaGreat.lk
