/- Several texts in one, one behind the other: CqU, CsB, CuB, CrD, CrE, CrF, CsA, CsD. No condition beyond theirs. -/
import Derived.Test.YtegffanlehaloaaGreatGv
import Derived.Test.YtegffanlehaloaaGreatGk
import Derived.Test.YtegffanlehaloaaGreatGj
import Derived.Test.YtegffanlehaloaaGreatGb
import Derived.Test.YtegffanlehaloaaGreatGs
import Derived.Test.YtegffanlehaloaaGreatGu

/- append of any row of words, an empty one too. Conditions: the row lies in memory. -/
namespace Go.Proofs.YtegffanlehaloaaGreat.cl
open Go.RowKit mem words
set_option linter.unusedVariables false
set_option linter.unusedSimpArgs false
set_option maxHeartbeats 1000000
set_option maxRecDepth 100000
theorem run_append_none (w : World) (v : Value) (p : Option Addr) (n c c' : Nat) (hv : v = .slice p n c) (hc : n ≤ c) (ty : TypeId) :
    (Builtin.append_ #[22, 22] ty #[v, .slice none 0 c']).run Tryz.prog w = .ok v w := by
  subst hv
  obtain ⟨i, hi, hz, hs, hby⟩ := info_parts info34
  unfold Builtin.append_
  simp [go_sem, Tryz.underlying22, hi, hz, hs, hby, hc]
  cases p <;> rfl
theorem run_append_area {w : World} {base : Nat} {v : Value} {l : List Int} (h : WOwn w base v l) (hb : base ≤ w.heap.size) (ty : TypeId) {B : Nat} {vx : Value} {xs : List Int} (hx : WAt w B vx xs) (hn : l.length + xs.length ≤ 400000) :
    ∃ v' w', (Builtin.append_ #[22, 22] ty #[v, vx]).run Tryz.prog w = .ok v' w' ∧ AppW w base v l xs v' w' := by
  obtain ⟨p, c, rfl, h1, h2, h3⟩ := hx
  cases p with
  | none =>
    have he : xs = [] := by
      cases xs with
      | nil => rfl
      | cons x l =>
        obtain ⟨g, o, e, _⟩ := h3 (by simp)
        simp at e
    subst he
    have hf : ∃ p c, v = .slice p l.length c ∧ l.length ≤ c := by
      rcases h.form with ⟨e, e2⟩ | ⟨g, c, e, _, _, hc, _⟩
      · exact ⟨none, 0, by rw [e, e2]; rfl, by rw [e2]; exact Nat.le_refl _⟩
      · exact ⟨_, _, e, hc⟩
    obtain ⟨pv, cv, ev, hc⟩ := hf
    exact ⟨v, w, run_append_none w v pv l.length cv _ ev hc ty, by rw [List.append_nil]; exact h, ⟨rfl, rfl, rfl, Nat.le_refl _, fun _ _ _ => rfl⟩, .inl rfl, fun _ _ _ _ => rfl⟩
  | some ad =>
    refine run_append_words h hb ty ad c xs (fun j x hj => ?_) hn
    obtain ⟨hj1, hj2⟩ := List.getElem?_eq_some_iff.1 hj
    obtain ⟨g, o, e, _, hc⟩ := h3 (fun e => by subst e; simp at hj1)
    cases e
    have := hc j hj1
    rw [hj2] at this
    rw [Addr.add_lit]
    exact this
/-- at the operation, for the walk -/
theorem wpList_append_area {w : World} {ops : Array Oper} {rest : List Oper} {o : Oper} {a : Act} {Q : Exit → Act → World → Prop} (hgd : o.guard = none) (s x : Operand)
    (ho : o.op = .call { callee := .builtin .append, args := #[s, x], argTypes := #[22, 22] }) {base : Nat} {v : Value} {l : List Int} (hs : a.eval s = v) (hown : WOwn w base v l) (hb : base ≤ w.heap.size)
    {B : Nat} {vx : Value} {xs : List Int} (hx : a.eval x = vx) (hrow : WAt w B vx xs) (hn : l.length + xs.length ≤ 400000)
    (h : ∀ v' w', AppW w base v l xs v' w' → wpList Tryz.prog ops Q rest (a.put o.dst v') w') : wpList Tryz.prog ops Q (o :: rest) a w := by
  refine wpList_plain hgd fun K hK => ?_
  obtain ⟨v', w', hr, h2⟩ := run_append_area hown hb o.type hrow hn
  unfold Oper.wp execOp
  simp only [ho, resolve, invoke, builtin, Sem.run_bind, Sem.run_pure, Result.andThen_ok, List.map_toArray, List.map_cons, List.map_nil, hs, hx, hr]
  exact hK _ _ (h v' w' h2)
end Go.Proofs.YtegffanlehaloaaGreat.cl

/- The reference's Reach. Conditions: as said. -/
namespace Go.Proofs.YtegffanlehaloaaGreat.cl
open Go.RowKit mem words
set_option linter.unusedVariables false
set_option linter.unusedSimpArgs false
set_option maxHeartbeats 4000000
set_option maxRecDepth 100000
def RowP (L : List Int) (w : World) (e : Ending) (w' : World) : Prop := ∃ v, e = .returned v ∧ WAt w' w'.heap.size v L ∧ Below w.heap.size w w'
theorem ins_len (x : Int) (l : List Int) : (ins x l).length = l.length + 1 := (ins_perm x l).length_eq
theorem insAll_len (l : List Int) : (insAll l).length = l.length := (insAll_perm l).length_eq
theorem row_take {w : World} {B : Nat} {p : Option Addr} {c : Nat} {l : List Int} (h : WAt w B (.slice p l.length c) l) {k : Nat} (hk : k ≤ l.length) : WAt w B (.slice p k c) (l.take k) := by
  obtain ⟨p', c', e, h1, h2, h3⟩ := h
  simp only [Value.slice.injEq, true_and] at e
  obtain ⟨rfl, rfl⟩ := e
  have hl : (l.take k).length = k := by rw [List.length_take]; omega
  refine ⟨p, c, by rw [hl], by rw [hl]; omega, h2, fun hn => ?_⟩
  have h0 : 0 < (l.take k).length := List.length_pos_iff.2 hn
  obtain ⟨g, o, e', hg, hc⟩ := h3 (by intro e; subst e; simp at h0)
  refine ⟨g, o, e', hg, fun j hj => ?_⟩
  rw [hc j (by omega), List.getElem_take]
theorem row_drop {w : World} {B g c : Nat} {l : List Int} (h : WAt w B (.slice (some ⟨g, 0, none⟩) l.length c) l) {k : Nat} (hk : k ≤ l.length) : WAt w B (.slice (some ⟨g, k, none⟩) (l.length - k) (c - k)) (l.drop k) := by
  obtain ⟨p', c', e, h1, h2, h3⟩ := h
  simp only [Value.slice.injEq, true_and] at e
  obtain ⟨rfl, rfl⟩ := e
  have hl : (l.drop k).length = l.length - k := List.length_drop
  refine ⟨_, c - k, by rw [hl], by rw [hl]; omega, by omega, fun hn => ?_⟩
  have h0 : 0 < (l.drop k).length := List.length_pos_iff.2 hn
  obtain ⟨g', o, e', hg, hc⟩ := h3 (by intro e; subst e; simp at h0)
  simp only [Option.some.injEq, Addr.mk.injEq, and_true] at e'
  obtain ⟨rfl, rfl⟩ := e'
  refine ⟨g, k, rfl, hg, fun j hj => ?_⟩
  have := hc (k + j) (by omega)
  rw [Nat.zero_add] at this
  rw [this, List.getElem_drop]
theorem row_nil (w : World) (B : Nat) (p : Option Addr) (c : Nat) (hc : c ≤ maxLen) : WAt w B (.slice p 0 c) [] := ⟨p, c, rfl, Nat.zero_le _, hc, fun h => absurd rfl h⟩
theorem app_below {w0 w w' : World} {v v' : Value} {l xs : List Int} (hb : Below w0.heap.size w0 w) (hown : WOwn w w0.heap.size v l) (ha : AppW w w0.heap.size v l xs v' w') : Below w0.heap.size w0 w' :=
  hb.grown ha.grown hb.size (fun k hk => (hown.ge k hk).1)
end Go.Proofs.YtegffanlehaloaaGreat.cl
/- The reference's Objects: the pointers to all objects. Conditions: as said. -/
namespace Go.Proofs.YtegffanlehaloaaGreat.cl
open Go.RowKit mem words
set_option linter.unusedVariables false
set_option linter.unusedSimpArgs false
set_option maxHeartbeats 4000000
set_option maxRecDepth 100000
theorem ptrU_len {b : Bool} {l : List Int} {f : List Bool} {n : Nat} : (ptrU b l f n).length ≤ n := by
  unfold ptrU
  rw [List.length_map]
  refine Nat.le_trans (List.length_filter_le _ _) ?_
  rw [List.length_range]
  exact Nat.le_refl _
theorem app_below2 {w0 w w' : World} {o : Obj} {v v' : Value} {l xs : List Int} (hb : Below w0.heap.size w0 w) (ha : AppW (w.alloc o) w0.heap.size v l xs v' w') (hown : WOwn w w0.heap.size v l) : Below w0.heap.size w0 w' :=
  (belowA hb o).grown ha.grown (by rw [World.size_alloc]; have := hb.size; omega) (fun k hk => (hown.ge k hk).1)
def accP (m : Mm) (K : Bk) (k : Nat) : List Int := if k = 0 then [] else if k = 1 then ptrU false m.y (marks K.y) m.y.length else ptrs m K
theorem objects28 (w : World) (B : Nat) (p1 : Option Addr) (c1 : Nat) (p2 : Option Addr) (c2 : Nat) (p3 : Option Addr) (c3 : Nat) (p4 : Option Addr) (c4 : Nat) (m : Mm) (K : Bk) (hB : B ≤ w.heap.size) (hbk : BookAt w B (.slice p1 m.y.length c1) (.slice p2 m.o.length c2) (.slice p3 m.y.length c3) (.slice p4 m.o.length c4) m K) :
    Calls Tryz.prog 28 #[.agg #[.slice p1 m.y.length c1, .slice p2 m.o.length c2, .int .i64 m.at_, .slice p3 m.y.length c3, .slice p4 m.o.length c4]] w (RowP (ptrs m K) w) := by
  have hly := hbk.ly
  have hlo := hbk.lo
  have HWy := Lib.hid hbk.wy
  have HWo := Lib.hid hbk.wo
  have HMLy : Hid ((marks K.y).length = m.y.length) := Lib.hid (by rw [marks_len hbk.oy.pos, hbk.oy.1])
  have HMLo : Hid ((marks K.o).length = m.o.length) := Lib.hid (by rw [marks_len hbk.oo.pos, hbk.oo.1])
  have hz0 := World.alloc_heap_new w (.cells #[.slice p1 m.y.length c1, .slice p2 m.o.length c2, .int .i64 m.at_, .slice p3 m.y.length c3, .slice p4 m.o.length c4] 38)
  have hb0 : Below w.heap.size w (w.alloc (.cells #[.slice p1 m.y.length c1, .slice p2 m.o.length c2, .int .i64 m.at_, .slice p3 m.y.length c3, .slice p4 m.o.length c4] 38)) := belowA (Below.refl _ _) _
  have hb3 := hb0
  have HF3 := Lib.hid ((hbk.fy.below hb3 hB).more (Nat.le_trans hB hb3.size))
  have HF4 := Lib.hid ((hbk.fo.below hb3 hB).more (Nat.le_trans hB hb3.size))
  have HR1 := Lib.hid ((hbk.y.below hb3 hB).more (Nat.le_trans hB hb3.size))
  have HR2 := Lib.hid ((hbk.o.below hb3 hB).more (Nat.le_trans hB hb3.size))
  have HZ := Lib.hid hz0
  have HB0 := Lib.hid hb0
  clear hbk hz0 hb0 hb3
  go_enter Tryz.func28, Tryz.ntmps28
  go_wp2_with fail
  generalize (w.alloc (.cells #[.slice p1 m.y.length c1, .slice p2 m.o.length c2, .int .i64 m.at_, .slice p3 m.y.length c3, .slice p4 m.o.length c4] 38)) = W3 at *
  go_loopw [3, 4, 5, 6, 7, 8, 9, 10, 11] (fun x a _ _ _ _ _ _ _ wr => ∃ (k : Nat) (vo : Value), x = vo ∧ a = .int .i64 k ∧ k ≤ 2 ∧ Hid (WOwn wr W3.heap.size vo (accP m K k)) ∧ Hid (Below W3.heap.size W3 wr)) (fun _ a _ _ _ _ _ _ _ _ => 2 - (intOf a).toNat)
  case atStart => exact ⟨0, _, rfl, by go_num, by omega, Lib.hid (WOwn.nil _ _), Lib.hid (Below.refl _ _)⟩
  case round =>
    obtain ⟨k, vo, ha, rfl, hk, HOo, HBr⟩ := hrel
    have ha := ha.symm
    subst ha
    obtain ⟨po, co, eo⟩ := HOo.out.shape
    subst eo
    have hk3 : k = 0 ∨ k = 1 ∨ k = 2 := by omega
    rcases hk3 with rfl | rfl | rfl
    · have hL : accP m K 0 = [] := rfl
      rw [hL] at HOo
      generalize accP m K 0 = L at *
      subst hL
      have HAr := Lib.hid (area57 wr p1 p2 m.y.length c1 m.o.length c2 m.at_ false)
      simp only [Bool.false_eq_true, ↓reduceIte] at HAr
      obtain ⟨z0, z1, z2, z3, z4, zf⟩ := five_cells (blk_same HZ.out HBr.out)
      go_wp2_with fail
      refine HAr.out.mono ?_
      rintro e W5 ⟨rfl, hb5⟩
      have HB5 := Lib.hid (HBr.out.trans (hb5.mono HBr.out.size))
      have HO5 := Lib.hid (HOo.out.below hb5)
      clear hb5 HAr z0 z1 z2 z3 z4 zf
      obtain ⟨z0, z1, z2, z3, z4, zf⟩ := five_cells (blk_same HZ.out HB5.out)
      go_wp2_with fail
      clear z0 z1 z2 z3 z4 zf
      obtain ⟨wo, rfl⟩ : ∃ wo : World, wo = wr := ⟨_, rfl⟩
      go_loopw [3, 7, 8, 9, 10, 11] (fun x a _ _ _ _ wr => ∃ (n : Nat) (L : List Int) (vo : Value), x = vo ∧ a = .int .i64 n ∧ n ≤ m.y.length ∧ Hid (L = ([] : List Int) ++ ptrU false m.y (marks K.y) n) ∧ Hid (WOwn wr W3.heap.size vo L) ∧ Hid (Below W3.heap.size W3 wr)) (fun _ a _ _ _ _ _ => m.y.length - (intOf a).toNat)
      case atStart => exact ⟨0, _, _, rfl, by go_num, Nat.zero_le _, Lib.hid rfl, Lib.hid (by rw [show ptrU false m.y (marks K.y) 0 = [] from rfl, List.append_nil]; exact HO5.out), HB5⟩
      case round =>
        obtain ⟨n, L, vi, ha, rfl, hn, HL, HO, HBi⟩ := hrel
        have ha := ha.symm
        subst ha
        obtain ⟨pv, cv, ev⟩ := HO.out.shape
        subst ev
        by_cases hlt : n < m.y.length
        · have hmli : n < (marks K.y).length := by rw [HMLy.out]; exact hlt
          obtain ⟨g9, o9, e9, en9, hg9, hc9⟩ := RowAt.cellB (l := marks K.y) (HF3.out) (by omega)
          clear en9
          have hf := hc9 n hmli
          have HG : Hid ((marks K.y).getD n false = (marks K.y).getD n false) := Lib.hid rfl
          have HYes := Lib.hid (fun h => ptrU_yes (b := false) (l := m.y) (f := marks K.y) (n := n) h)
          have HNo := Lib.hid (fun h => ptrU_no (b := false) (l := m.y) (f := marks K.y) (n := n) h)
          generalize (marks K.y).getD n false = f at hf HYes HNo HG
          have hfi := (HBi.out.cell (p := ⟨g9, o9 + n, none⟩) hg9).trans hf
          first | subst e9 | cases e9
          have rn : (0 : Int) ≤ (n : Int) := by omega
          have rl : (n : Int) < (m.y.length : Int) := by omega
          have rq : decide ((n : Int) < (m.y.length : Int)) = true := decide_eq_true rl
          clear hc9 hf HG
          cases f
          · have HNx := Lib.hid (HNo.out rfl)
            clear HYes HNo
            go_wp2_with fail
            go_roundw
            case rel => exact ⟨n + 1, _, _, rfl, by go_num, by omega, Lib.hid (by rw [HNx.out]; exact HL.out), HO, HBi⟩
            case measure => simp [intOf]; omega
          · obtain ⟨gs, os, es, _, hgs, hcs⟩ := RowAt.nth HR1.out (by omega)
            have hcl := hcs n hlt
            have hxr : 0 ≤ m.y.getD n 0 ∧ m.y.getD n 0 ≤ 18446744073709551615 := HWy.out _ (by rw [List.getD_eq_getElem?_getD, List.getElem?_eq_getElem hlt]; exact List.getElem_mem hlt)
            have HNx := Lib.hid (HYes.out rfl)
            have HPF : Hid (ptrF false m.y n = ptrW (if m.y.getD n 0 % 4 = 0 then 2 else 1) false n) := Lib.hid rfl
            have hcx := (HBi.out.cell (p := ⟨gs, os + n, none⟩) hgs).trans hcl
            have HTg := Lib.hid (fun W => RTag _ hxr.1 hxr.2 W)
            have HS1 : Hid (W3.heap.size ≤ (wr.alloc (.cells #[.int .u64 (ptrF false m.y n)] 43)).heap.size) := Lib.hid (by rw [World.size_alloc]; have := HBi.out.size; omega)
            have HLn : Hid (L.length + [ptrF false m.y n].length ≤ 400000) := Lib.hid (by
              have := ptrU_len (b := false) (l := m.y) (f := marks K.y) (n := n)
              have := ptrU_len (b := false) (l := m.y) (f := marks K.y) (n := m.y.length)
              rw [HL.out]
              simp only [List.length_append, List.length_cons, List.length_nil]
              omega)
            first | subst es | cases es
            clear hcs hcl hxr HYes HNo
            generalize m.y.getD n 0 = u0 at *
            go_wp2_with fail
            refine (HTg.out _).mono ?_
            rintro e w' ⟨rfl, rfl⟩
            by_cases h4 : u0 % 4 = 0
            · rw [if_pos h4] at HPF
              have q4 : (u0 % 4 == 0) = true := by simpa using h4
              rw [HPF.out] at HS1 HLn HNx
              go_wp2_with fail
              refine (RBox false (n : Int) _).mono ?_
              rintro e w' ⟨rfl, rfl⟩
              go_wp2_with (at_builtin; refine wpList_append_words rfl (.tmp 52) (.tmp 54) rfl rfl (HO.out.below (belowA (Below.refl _ _) _)) HS1.out ⟨wr.heap.size, 0, none⟩ 1 1 [ptrW 2 false (n : Int)] rfl rfl (new_word _ _) HLn.out ?_; intro v' w5 ha; have HA := Lib.hid ha; clear ha)
              go_roundw
              case rel => exact ⟨n + 1, _, v', rfl, by go_num, by omega, Lib.hid (by rw [HNx.out, HL.out, List.append_assoc]), Lib.hid HA.out.own, Lib.hid (app_below2 HBi.out HA.out HO.out)⟩
              case measure => simp [intOf]; omega
            · rw [if_neg h4] at HPF
              have q4 : (u0 % 4 == 0) = false := by simpa using h4
              rw [HPF.out] at HS1 HLn HNx
              go_wp2_with fail
              refine (RList false (n : Int) _).mono ?_
              rintro e w' ⟨rfl, rfl⟩
              go_wp2_with (at_builtin; refine wpList_append_words rfl (.tmp 67) (.tmp 69) rfl rfl (HO.out.below (belowA (Below.refl _ _) _)) HS1.out ⟨wr.heap.size, 0, none⟩ 1 1 [ptrW 1 false (n : Int)] rfl rfl (new_word _ _) HLn.out ?_; intro v' w5 ha; have HA := Lib.hid ha; clear ha)
              go_roundw
              case rel => exact ⟨n + 1, _, v', rfl, by go_num, by omega, Lib.hid (by rw [HNx.out, HL.out, List.append_assoc]), Lib.hid HA.out.own, Lib.hid (app_below2 HBi.out HA.out HO.out)⟩
              case measure => simp [intOf]; omega
        · have rq : decide ((n : Int) < (m.y.length : Int)) = false := decide_eq_false (by omega)
          have hne : n = m.y.length := by omega
          have HE := Lib.hid hne
          clear hne
          go_wp2_with fail
          go_roundw
          case rel => exact ⟨1, _, rfl, by go_num, by omega, Lib.hid (by have h := HO.out; have h2 := HL.out; rw [HE.out] at h2; have h3 : L = accP m K 1 := h2.trans (by first | rfl | exact List.nil_append _); rw [h3] at h; rw [h3]; exact h), HBi⟩
          case measure => simp [intOf]
    · have hL : accP m K 1 = ptrU false m.y (marks K.y) m.y.length := rfl
      rw [hL] at HOo
      generalize accP m K 1 = L at *
      subst hL
      have HAr := Lib.hid (area57 wr p1 p2 m.y.length c1 m.o.length c2 m.at_ true)
      simp only [Bool.false_eq_true, ↓reduceIte] at HAr
      obtain ⟨z0, z1, z2, z3, z4, zf⟩ := five_cells (blk_same HZ.out HBr.out)
      go_wp2_with fail
      refine HAr.out.mono ?_
      rintro e W5 ⟨rfl, hb5⟩
      have HB5 := Lib.hid (HBr.out.trans (hb5.mono HBr.out.size))
      have HO5 := Lib.hid (HOo.out.below hb5)
      clear hb5 HAr z0 z1 z2 z3 z4 zf
      obtain ⟨z0, z1, z2, z3, z4, zf⟩ := five_cells (blk_same HZ.out HB5.out)
      go_wp2_with fail
      clear z0 z1 z2 z3 z4 zf
      obtain ⟨wo, rfl⟩ : ∃ wo : World, wo = wr := ⟨_, rfl⟩
      go_loopw [3, 7, 8, 9, 10, 11] (fun x a _ _ _ _ wr => ∃ (n : Nat) (L : List Int) (vo : Value), x = vo ∧ a = .int .i64 n ∧ n ≤ m.o.length ∧ Hid (L = ptrU false m.y (marks K.y) m.y.length ++ ptrU true m.o (marks K.o) n) ∧ Hid (WOwn wr W3.heap.size vo L) ∧ Hid (Below W3.heap.size W3 wr)) (fun _ a _ _ _ _ _ => m.o.length - (intOf a).toNat)
      case atStart => exact ⟨0, _, _, rfl, by go_num, Nat.zero_le _, Lib.hid rfl, Lib.hid (by rw [show ptrU true m.o (marks K.o) 0 = [] from rfl, List.append_nil]; exact HO5.out), HB5⟩
      case round =>
        obtain ⟨n, L, vi, ha, rfl, hn, HL, HO, HBi⟩ := hrel
        have ha := ha.symm
        subst ha
        obtain ⟨pv, cv, ev⟩ := HO.out.shape
        subst ev
        by_cases hlt : n < m.o.length
        · have hmli : n < (marks K.o).length := by rw [HMLo.out]; exact hlt
          obtain ⟨g9, o9, e9, en9, hg9, hc9⟩ := RowAt.cellB (l := marks K.o) (HF4.out) (by omega)
          clear en9
          have hf := hc9 n hmli
          have HG : Hid ((marks K.o).getD n false = (marks K.o).getD n false) := Lib.hid rfl
          have HYes := Lib.hid (fun h => ptrU_yes (b := true) (l := m.o) (f := marks K.o) (n := n) h)
          have HNo := Lib.hid (fun h => ptrU_no (b := true) (l := m.o) (f := marks K.o) (n := n) h)
          generalize (marks K.o).getD n false = f at hf HYes HNo HG
          have hfi := (HBi.out.cell (p := ⟨g9, o9 + n, none⟩) hg9).trans hf
          first | subst e9 | cases e9
          have rn : (0 : Int) ≤ (n : Int) := by omega
          have rl : (n : Int) < (m.o.length : Int) := by omega
          have rq : decide ((n : Int) < (m.o.length : Int)) = true := decide_eq_true rl
          clear hc9 hf HG
          cases f
          · have HNx := Lib.hid (HNo.out rfl)
            clear HYes HNo
            go_wp2_with fail
            go_roundw
            case rel => exact ⟨n + 1, _, _, rfl, by go_num, by omega, Lib.hid (by rw [HNx.out]; exact HL.out), HO, HBi⟩
            case measure => simp [intOf]; omega
          · obtain ⟨gs, os, es, _, hgs, hcs⟩ := RowAt.nth HR2.out (by omega)
            have hcl := hcs n hlt
            have hxr : 0 ≤ m.o.getD n 0 ∧ m.o.getD n 0 ≤ 18446744073709551615 := HWo.out _ (by rw [List.getD_eq_getElem?_getD, List.getElem?_eq_getElem hlt]; exact List.getElem_mem hlt)
            have HNx := Lib.hid (HYes.out rfl)
            have HPF : Hid (ptrF true m.o n = ptrW (if m.o.getD n 0 % 4 = 0 then 2 else 1) true n) := Lib.hid rfl
            have hcx := (HBi.out.cell (p := ⟨gs, os + n, none⟩) hgs).trans hcl
            have HTg := Lib.hid (fun W => RTag _ hxr.1 hxr.2 W)
            have HS1 : Hid (W3.heap.size ≤ (wr.alloc (.cells #[.int .u64 (ptrF true m.o n)] 43)).heap.size) := Lib.hid (by rw [World.size_alloc]; have := HBi.out.size; omega)
            have HLn : Hid (L.length + [ptrF true m.o n].length ≤ 400000) := Lib.hid (by
              have := ptrU_len (b := true) (l := m.o) (f := marks K.o) (n := n)
              have := ptrU_len (b := false) (l := m.y) (f := marks K.y) (n := m.y.length)
              rw [HL.out]
              simp only [List.length_append, List.length_cons, List.length_nil]
              omega)
            first | subst es | cases es
            clear hcs hcl hxr HYes HNo
            generalize m.o.getD n 0 = u0 at *
            go_wp2_with fail
            refine (HTg.out _).mono ?_
            rintro e w' ⟨rfl, rfl⟩
            by_cases h4 : u0 % 4 = 0
            · rw [if_pos h4] at HPF
              have q4 : (u0 % 4 == 0) = true := by simpa using h4
              rw [HPF.out] at HS1 HLn HNx
              go_wp2_with fail
              refine (RBox true (n : Int) _).mono ?_
              rintro e w' ⟨rfl, rfl⟩
              go_wp2_with (at_builtin; refine wpList_append_words rfl (.tmp 52) (.tmp 54) rfl rfl (HO.out.below (belowA (Below.refl _ _) _)) HS1.out ⟨wr.heap.size, 0, none⟩ 1 1 [ptrW 2 true (n : Int)] rfl rfl (new_word _ _) HLn.out ?_; intro v' w5 ha; have HA := Lib.hid ha; clear ha)
              go_roundw
              case rel => exact ⟨n + 1, _, v', rfl, by go_num, by omega, Lib.hid (by rw [HNx.out, HL.out, List.append_assoc]), Lib.hid HA.out.own, Lib.hid (app_below2 HBi.out HA.out HO.out)⟩
              case measure => simp [intOf]; omega
            · rw [if_neg h4] at HPF
              have q4 : (u0 % 4 == 0) = false := by simpa using h4
              rw [HPF.out] at HS1 HLn HNx
              go_wp2_with fail
              refine (RList true (n : Int) _).mono ?_
              rintro e w' ⟨rfl, rfl⟩
              go_wp2_with (at_builtin; refine wpList_append_words rfl (.tmp 67) (.tmp 69) rfl rfl (HO.out.below (belowA (Below.refl _ _) _)) HS1.out ⟨wr.heap.size, 0, none⟩ 1 1 [ptrW 1 true (n : Int)] rfl rfl (new_word _ _) HLn.out ?_; intro v' w5 ha; have HA := Lib.hid ha; clear ha)
              go_roundw
              case rel => exact ⟨n + 1, _, v', rfl, by go_num, by omega, Lib.hid (by rw [HNx.out, HL.out, List.append_assoc]), Lib.hid HA.out.own, Lib.hid (app_below2 HBi.out HA.out HO.out)⟩
              case measure => simp [intOf]; omega
        · have rq : decide ((n : Int) < (m.o.length : Int)) = false := decide_eq_false (by omega)
          have hne : n = m.o.length := by omega
          have HE := Lib.hid hne
          clear hne
          go_wp2_with fail
          go_roundw
          case rel => exact ⟨2, _, rfl, by go_num, by omega, Lib.hid (by have h := HO.out; have h2 := HL.out; rw [HE.out] at h2; have h3 : L = accP m K 2 := h2.trans (by first | rfl | exact List.nil_append _); rw [h3] at h; rw [h3]; exact h), HBi⟩
          case measure => simp [intOf]
    · have HB9 := Lib.hid (HB0.out.trans (HBr.out.mono HB0.out.size))
      go_wp2_with fail
      go_ret
      exact ⟨_, rfl, HOo.out.row, HB9.out⟩
end Go.Proofs.YtegffanlehaloaaGreat.cl

/- copied f9: a memory of its own. Conditions: the areas lie in memory. -/
namespace Go.Proofs.YtegffanlehaloaaGreat.cl
open Go.RowKit mem words
set_option linter.unusedVariables false
set_option linter.unusedSimpArgs false
set_option maxHeartbeats 4000000
set_option maxRecDepth 100000
theorem step_append_area {ops : Array Oper} {o : Oper} {a : Act} {K : Act → World → Prop} {Q : Exit → Act → World → Prop} {E : Prop} (hgd : o.guard = none) (s x : Operand)
    (ho : o.op = .call { callee := .builtin .append, args := #[s, x], argTypes := #[22, 22] }) {w : World} {base : Nat} {v : Value} {l : List Int} (hs : a.eval s = v) (hown : WOwn w base v l) (hb : base ≤ w.heap.size)
    {B : Nat} {vx : Value} {xs : List Int} (hx : a.eval x = vx) (hrow : WAt w B vx xs) (hn : l.length + xs.length ≤ 400000)
    (h : ∀ v' w', AppW w base v l xs v' w' → K (a.put o.dst v') w') :
    if Region.wanted o (yielded ops a.tmps) = true then Oper.wp Tryz.prog o a w K Q else E := by
  have hw : Region.wanted o (yielded ops a.tmps) = true := by simp [Region.wanted, hgd]
  rw [if_pos hw]
  obtain ⟨v', w', hr, h2⟩ := run_append_area hown hb o.type hrow hn
  unfold Oper.wp execOp
  simp only [ho, resolve, invoke, builtin, Sem.run_bind, Sem.run_pure, Result.andThen_ok, List.map_toArray, List.map_cons, List.map_nil, hs, hx, hr]
  exact h v' w' h2
theorem own_empty {wr : World} {zE base : Nat} (hE : wr.heap[zE]? = some (.cells #[] 43)) (hb : base ≤ zE) : WOwn wr base (.slice (some ⟨zE, 0, none⟩) 0 0) [] :=
  ⟨rfl, .inr ⟨zE, 0, #[], rfl, hb, hE, Nat.le_refl _, by unfold maxLen; omega, rfl, rfl⟩⟩
/-- append to an empty row of the call's own -/
theorem stepE {ops : Array Oper} {o : Oper} {a : Act} {K : Act → World → Prop} {Q : Exit → Act → World → Prop} {E : Prop} (hgd : o.guard = none) (s x : Operand)
    (ho : o.op = .call { callee := .builtin .append, args := #[s, x], argTypes := #[22, 22] }) {wr : World} (zE : Nat)
    (hs : a.eval s = .slice (some ⟨zE, 0, none⟩) 0 0) (hE : wr.heap[zE]? = some (.cells #[] 43)) (base : Nat) (hbz : base ≤ zE) (hsz : base ≤ wr.heap.size) {B : Nat} {vx : Value} {xs : List Int} (hx : a.eval x = vx) (hrow : WAt wr B vx xs) (hn : xs.length ≤ 400000)
    (h : ∀ p' c' w', WOwn w' base (.slice p' xs.length c') xs → (∀ g, g < wr.heap.size → g ≠ zE → (Value.slice p' xs.length c').ownBlock ≠ some g) → TouchB (fun k => k = zE) wr w' → K (a.put o.dst (.slice p' xs.length c')) w') :
    if Region.wanted o (yielded ops a.tmps) = true then Oper.wp Tryz.prog o a wr K Q else E := by
  refine step_append_area hgd s x ho hs (own_empty hE hbz) hsz hx hrow (by simp; omega) ?_
  intro v' w' ha
  have ho := ha.own
  rw [List.nil_append] at ho
  obtain ⟨p', c', rfl⟩ := ho.shape
  refine h p' c' w' ho (fun g h1 h2 e => ?_) ((TouchB.refl _ _).grown ha.grown (fun k hk _ => by simp [Value.ownBlock] at hk; omega))
  rcases ha.at_ with hb | hb
  · rw [e] at hb; simp [Value.ownBlock] at hb; omega
  · rw [e] at hb; simp only [Option.some.injEq] at hb; omega
def CopyP (m : Mm) (w : World) (e : Ending) (w' : World) : Prop := ∃ p1 c1 p2 c2, e = .returned (.agg #[.slice p1 m.y.length c1, .slice p2 m.o.length c2, .int .i64 m.at_]) ∧ WOwn w' w.heap.size (.slice p1 m.y.length c1) m.y ∧ WOwn w' w.heap.size (.slice p2 m.o.length c2) m.o ∧ (∀ k, (Value.slice p1 m.y.length c1).ownBlock = some k → (Value.slice p2 m.o.length c2).ownBlock ≠ some k) ∧ Below w.heap.size w w'
theorem below_touch2 {W wr w' : World} {z : Nat} (h : Below W.heap.size W wr) (ht : TouchB (fun k => k = z) wr w') (hz : W.heap.size ≤ z) : Below W.heap.size W w' :=
  h.trans (ht.below (fun k hk => by subst hk; exact hz) h.size)
theorem blk_touch2 {wr w' : World} {z y : Nat} {o : Obj} (h : wr.heap[y]? = some o) (ht : TouchB (fun k => k = z) wr w') (hz : y ≠ z) : w'.heap[y]? = some o :=
  (ht.block y (Array.getElem?_eq_some_iff.1 h).1 hz).trans h
theorem own_touch2 {w5 wr w' : World} {base z : Nat} {v : Value} {l : List Int} (h : WOwn w5 base v l) (hb : Below w5.heap.size w5 wr) (ht : TouchB (fun k => k = z) wr w') (hz : v.ownBlock ≠ some z) : WOwn w' base v l :=
  ownBlock_same (h.below hb) (fun k hk => ht.block k ((h.below hb).ge k hk).2 (fun e => hz (e ▸ hk)))
theorem own_fresh {w5 : World} {base z : Nat} {v : Value} {l : List Int} (h : WOwn w5 base v l) (hz : w5.heap.size ≤ z) : v.ownBlock ≠ some z := fun e => Nat.lt_irrefl _ (Nat.lt_of_lt_of_le (h.ge z e).2 hz)
theorem own_apart {w5 wr : World} {base z : Nat} {v u : Value} {l : List Int} (h : WOwn w5 base v l) (hn : ∀ g, g < wr.heap.size → g ≠ z → u.ownBlock ≠ some g) (hs : w5.heap.size ≤ wr.heap.size) (hz : v.ownBlock ≠ some z) : ∀ k, v.ownBlock = some k → u.ownBlock ≠ some k :=
  fun k hk => hn k (Nat.lt_of_lt_of_le (h.ge k hk).2 hs) (fun e => hz (e ▸ hk))
theorem copy_end {w W1 w6 : World} {m : Mm} {p5 p6 : Option Addr} {c5 c6 : Nat} {a b c : Value} (hbb : Below w.heap.size w W1) (hs : w.heap.size + 1 < W1.heap.size)
    (h : WOwn w6 W1.heap.size (.slice p5 m.y.length c5) m.y ∧ WOwn w6 W1.heap.size (.slice p6 m.o.length c6) m.o ∧ (∀ k, (Value.slice p5 m.y.length c5).ownBlock = some k → (Value.slice p6 m.o.length c6).ownBlock ≠ some k) ∧ Below W1.heap.size W1 w6) :
    CopyP m w (.returned (.agg #[.slice p5 m.y.length c5, .slice p6 m.o.length c6, .int .i64 m.at_])) (((w6.setCell ⟨w.heap.size + 1, 0, none⟩ a).setCell ⟨w.heap.size + 1, 1, none⟩ b).setCell ⟨w.heap.size + 1, 2, none⟩ c) := by
  obtain ⟨h1, h2, h3, h4⟩ := h
  have own : ∀ {v : Value} {l : List Int}, WOwn w6 W1.heap.size v l → WOwn (((w6.setCell ⟨w.heap.size + 1, 0, none⟩ a).setCell ⟨w.heap.size + 1, 1, none⟩ b).setCell ⟨w.heap.size + 1, 2, none⟩ c) w.heap.size v l := fun {v l} hv =>
    row_base (ownBlock_same hv (fun k hk => by
      have h5 := (hv.ge k hk).1
      have h6 : k ≠ w.heap.size + 1 := by omega
      rw [setC_same _ _ _ _ h6, setC_same _ _ _ _ h6, setC_same _ _ _ _ h6])) (fun k hk => by have := (hv.ge k hk).1; omega)
  exact ⟨p5, c5, p6, c6, rfl, own h1, own h2, h3, (((hbb.trans (h4.mono (by omega))).setCell (Nat.le_succ _) _).setCell (Nat.le_succ _) _).setCell (Nat.le_succ _) _⟩
theorem results_cell1 {fn : Func} {p : Tmp} {ty : TypeId} (h : fn.results = #[.cell p ty]) (tmps : Array Value) (P : Program) (w : World) :
    (results fn tmps).run P w = ((asAddr (tmps.getD p undef)).run P w).andThen fun a w₁ => (loadVar ty a).run P w₁ := by
  simp only [results, h]
  simp [Sem.run_bind, Result.andThen]
end Go.Proofs.YtegffanlehaloaaGreat.cl

/- awake f8. No condition. -/
namespace Go.Proofs.YtegffanlehaloaaGreat.cl
open Go.RowKit mem words
set_option linter.unusedVariables false
set_option linter.unusedSimpArgs false
set_option maxHeartbeats 4000000
set_option maxRecDepth 100000
theorem lit_row {W : World} {g : Nat} {l : List Int} {t : TypeId} (h : W.heap[g]? = some (.cells (l.map (Value.int .u64)).toArray t)) (hl : l.length ≤ 100000) : WAt W W.heap.size (.slice (some ⟨g, 0, none⟩) l.length l.length) l := by
  refine ⟨_, _, rfl, Nat.le_refl _, by unfold maxLen; omega, fun _ => ⟨g, 0, rfl, (Array.getElem?_eq_some_iff.1 h).1, fun j hj => ?_⟩⟩
  simp [World.cell?, h, hj]
theorem own_addr {w : World} {base : Nat} {v : Value} {l : List Int} (h : WOwn w base v l) (hl : 0 < l.length) : ∃ g c, v = .slice (some ⟨g, 0, none⟩) l.length c ∧ g < w.heap.size ∧ base ≤ g ∧ ∀ j, (hj : j < l.length) → w.cell? ⟨g, j, none⟩ = some (.int .u64 l[j]) := by
  rcases h.form with ⟨_, e2⟩ | ⟨g, c, e, hb, hlt, hc, _⟩
  · rw [e2] at hl; simp at hl
  · subst e
    exact ⟨g, c, rfl, hlt, hb, fun j hj => h.cells hj⟩
def AwP (W : World) (e : Ending) (w' : World) : Prop := ∃ pY cY g cO t cT, e = .returned (.tuple #[.agg #[.slice pY 0 cY, .slice (some ⟨g, 0, none⟩) 2 cO, .int .i64 0], .slice (some ⟨t, 0, none⟩) 1 cT, .int .i64 0]) ∧ w'.cell? ⟨g, 0, none⟩ = some (.int .u64 35) ∧ w'.cell? ⟨g, 1, none⟩ = some (.int .u64 11) ∧ w'.cell? ⟨t, 0, none⟩ = some (.int .u64 5) ∧ g < w'.heap.size ∧ t < w'.heap.size ∧ Below W.heap.size W w'
theorem awake_full {W : World} {a b : Nat} (h1 : WAt W W.heap.size (.slice (some ⟨a, 0, none⟩) 4 4) [19, 11, 35, 11]) (h3 : WAt W W.heap.size (.slice (some ⟨b, 0, none⟩) 1 1) [17]) :
    Calls Tryz.prog 9 #[.agg #[.slice (some ⟨a, 0, none⟩) 4 4, .slice none 0 0, .int .i64 0], .slice (some ⟨b, 0, none⟩) 1 1] W (AwP W) := by
  have hwd : ∀ l : List Int, (∀ x ∈ l, decide (0 ≤ x ∧ x ≤ 18446744073709551615) = true) → Wds l := fun l h x hx => of_decide_eq_true (h x hx)
  refine (full10 W W.heap.size (.slice (some ⟨a, 0, none⟩) 4 4) (.slice none 0 0) (some ⟨b, 0, none⟩) 1 aM [17] (Nat.le_refl _) h1 ⟨none, 0, rfl, Nat.le_refl _, by unfold maxLen; omega, fun h => absurd rfl h⟩ (hwd _ (by decide)) (hwd _ (by decide)) (by decide) h3 (hwd _ (by decide)) (by decide)).mono ?_
  rintro e w' ⟨hB, ⟨_, base, vY, vO, vT, K, S, D, I, hb, rfl, oy, oo, ot, _, _, hp, hi, hs⟩ | ⟨hn, _⟩⟩
  · obtain ⟨ey, eo, et⟩ := a_done hp.sh hi hs
    rw [ey] at oy
    rw [eo] at oo
    rw [et] at ot
    obtain ⟨pY, cY, rfl⟩ := oy.shape
    obtain ⟨g, cO, rfl, hg, _, hgc⟩ := own_addr oo (by decide)
    obtain ⟨t, cT, rfl, ht, _, htc⟩ := own_addr ot (by decide)
    exact ⟨pY, cY, g, cO, t, cT, rfl, hgc 0 (by decide), hgc 1 (by decide), htc 0 (by decide), hg, ht, hB⟩
  · exact absurd ⟨aK, a_sh, a_tm⟩ hn
theorem awake8 (w : World) : Calls Tryz.prog 6 #[] w fun e w' => e = .returned (.bool true) ∧ Below w.heap.size w w' := by
  have hb3 : Below w.heap.size w (((w.alloc (.cells #[.int .u64 19, .int .u64 11, .int .u64 35, .int .u64 11] 43)).alloc (.cells #[.slice (some ⟨w.heap.size, 0, none⟩) 4 4, .slice none 0 0, .int .i64 0] 24)).alloc (.cells #[.int .u64 17] 43)) := belowA (belowA (belowA (Below.refl _ _) _) _) _
  have k1 : (((w.alloc (.cells #[.int .u64 19, .int .u64 11, .int .u64 35, .int .u64 11] 43)).alloc (.cells #[.slice (some ⟨w.heap.size, 0, none⟩) 4 4, .slice none 0 0, .int .i64 0] 24)).alloc (.cells #[.int .u64 17] 43)).heap[w.heap.size]? = some (.cells #[.int .u64 19, .int .u64 11, .int .u64 35, .int .u64 11] 43) := blk_alloc (blk_alloc (World.alloc_heap_new w _) _) _
  have k3 : (((w.alloc (.cells #[.int .u64 19, .int .u64 11, .int .u64 35, .int .u64 11] 43)).alloc (.cells #[.slice (some ⟨w.heap.size, 0, none⟩) 4 4, .slice none 0 0, .int .i64 0] 24)).alloc (.cells #[.int .u64 17] 43)).heap[w.heap.size + 1 + 1]? = some (.cells #[.int .u64 17] 43) := blk_new (by rw [World.size_alloc, World.size_alloc])
  have HF := Lib.hid (awake_full (lit_row (l := [19, 11, 35, 11]) k1 (by decide)) (lit_row (l := [17]) k3 (by decide)))
  have HB := Lib.hid hb3
  clear hb3 k1 k3
  go_enter Tryz.func6, Tryz.ntmps6
  go_wp2_with fail
  refine HF.out.mono ?_
  generalize (((w.alloc (.cells #[.int .u64 19, .int .u64 11, .int .u64 35, .int .u64 11] 43)).alloc (.cells #[.slice (some ⟨w.heap.size, 0, none⟩) 4 4, .slice none 0 0, .int .i64 0] 24)).alloc (.cells #[.int .u64 17] 43)) = W3 at *
  rintro e W4 ⟨pY, cY, g, cO, t, cT, rfl, hg0, hg1, ht0, hg, ht, hb4⟩
  have HB4 := Lib.hid (HB.out.trans (hb4.mono HB.out.size))
  have HB5 := Lib.hid (fun o => belowA HB4.out o)
  clear hb4 HF
  go_wp2_with fail
  go_ret
  exact ⟨rfl, HB5.out _⟩
end Go.Proofs.YtegffanlehaloaaGreat.cl

/- What Full and Minor answer, in one form for the laws. Conditions: as said. -/
namespace Go.Proofs.YtegffanlehaloaaGreat.cl
open Go.RowKit mem words
set_option linter.unusedVariables false
set_option linter.unusedSimpArgs false
set_option maxHeartbeats 1000000
def FitsQ (m : Mm) (roots : List Int) : Prop := ∃ K, Sh m K ∧ ∀ v ∈ roots, Tm K v
def AnsQ (full : Bool) (m : Mm) (roots : List Int) (W W' : World) (n0 n1 : Value) (n2 : Int) (vT : Value) (er : Int) : Prop :=
  (FitsQ m roots ∧ ∃ base K S D I, W.heap.size ≤ base ∧ n2 = (if full then 0 else (S.y.flatten.length : Int)) ∧ er = 0 ∧ WOwn W' base n0 S.y.flatten ∧ WOwn W' base n1 S.o.flatten ∧ WOwn W' base vT (roots.map (lk D I)) ∧ RunPre m K roots ∧ Inv K m.at_ full (base0 full K) roots S D I D.length 0 ∧ (∀ r ∈ roots, mov full r = true → r ∈ D)) ∨
  (¬ FitsQ m roots ∧ n0 = .slice none 0 0 ∧ n1 = .slice none 0 0 ∧ n2 = 0 ∧ vT = .slice none 0 0 ∧ er = 6)
theorem AnsQ.same {full : Bool} {m : Mm} {roots : List Int} {W W' W'' : World} {n0 n1 : Value} {n2 : Int} {vT : Value} {er : Int} (h : AnsQ full m roots W W' n0 n1 n2 vT er) (hs : ∀ k, W.heap.size ≤ k → k < W'.heap.size → W''.heap[k]? = W'.heap[k]?) : AnsQ full m roots W W'' n0 n1 n2 vT er := by
  rcases h with ⟨hf, base, K, S, D, I, hb, e1, e2, o1, o2, o3, r⟩ | h
  · have key : ∀ {v : Value} {l : List Int}, WOwn W' base v l → WOwn W'' base v l := fun {v l} h => ownBlock_same h (fun k hk => hs k (Nat.le_trans hb (h.ge k hk).1) (h.ge k hk).2)
    exact .inl ⟨hf, base, K, S, D, I, hb, e1, e2, key o1, key o2, key o3, r⟩
  · exact .inr h
def AnsP (full : Bool) (m : Mm) (roots : List Int) (w : World) (e : Ending) (w' : World) : Prop := ∃ q0 m0 c0 q1 m1 c1 n2 qT mT cT er, e = .returned (.tuple #[.agg #[.slice q0 m0 c0, .slice q1 m1 c1, .int .i64 n2], .slice qT mT cT, .int .i64 er]) ∧ AnsQ full m roots w w' (.slice q0 m0 c0) (.slice q1 m1 c1) n2 (.slice qT mT cT) er ∧ Below w.heap.size w w'
theorem ans10 (w : World) (B : Nat) (v1 v2 : Value) (pr : Option Addr) (cr : Nat) (m : Mm) (roots : List Int) (hB : B ≤ w.heap.size) (h1 : WAt w B v1 m.y) (h2 : WAt w B v2 m.o) (w1 : Wds m.y) (w2 : Wds m.o) (lt : m.y.length + m.o.length ≤ 5000) (hr : WAt w B (.slice pr roots.length cr) roots) (wr : Wds roots) (lr : roots.length ≤ 100000) :
    Calls Tryz.prog 9 #[.agg #[v1, v2, .int .i64 m.at_], .slice pr roots.length cr] w (AnsP true m roots w) := by
  refine (full10 w B v1 v2 pr cr m roots hB h1 h2 w1 w2 lt hr wr lr).mono ?_
  rintro e w' ⟨hB, ⟨hf, base, vY, vO, vT, K, S, D, I, hb, rfl, oy, oo, ot, _, _, hp, hi, hs⟩ | ⟨hn, rfl⟩⟩
  · obtain ⟨q0, m0, c0, rfl⟩ := own_shape oy
    obtain ⟨q1, m1, c1, rfl⟩ := own_shape oo
    obtain ⟨qT, mT, cT, rfl⟩ := own_shape ot
    exact ⟨q0, m0, c0, q1, m1, c1, 0, qT, mT, cT, 0, rfl, .inl ⟨hf, base, K, S, D, I, hb, rfl, rfl, oy, oo, ot, hp, hi, hs⟩, hB⟩
  · exact ⟨none, 0, 0, none, 0, 0, 0, none, 0, 0, 6, rfl, .inr ⟨hn, rfl, rfl, rfl, rfl, rfl⟩, hB⟩
theorem ans16 (w : World) (B : Nat) (v1 v2 : Value) (pr : Option Addr) (cr : Nat) (m : Mm) (roots : List Int) (hB : B ≤ w.heap.size) (h1 : WAt w B v1 m.y) (h2 : WAt w B v2 m.o) (w1 : Wds m.y) (w2 : Wds m.o) (lt : m.y.length + m.o.length ≤ 5000) (hr : WAt w B (.slice pr roots.length cr) roots) (wr : Wds roots) (lr : roots.length ≤ 100000) :
    Calls Tryz.prog 7 #[.agg #[v1, v2, .int .i64 m.at_], .slice pr roots.length cr] w (AnsP false m roots w) := by
  refine (minor16 w B v1 v2 pr cr m roots hB h1 h2 w1 w2 lt hr wr lr).mono ?_
  rintro e w' ⟨hB, ⟨hf, base, vY, vO, vT, K, S, D, I, hb, rfl, oy, oo, ot, _, _, hp, hi, hs⟩ | ⟨hn, rfl⟩⟩
  · obtain ⟨q0, m0, c0, rfl⟩ := own_shape oy
    obtain ⟨q1, m1, c1, rfl⟩ := own_shape oo
    obtain ⟨qT, mT, cT, rfl⟩ := own_shape ot
    exact ⟨q0, m0, c0, q1, m1, c1, S.y.flatten.length, qT, mT, cT, 0, rfl, .inl ⟨hf, base, K, S, D, I, hb, rfl, rfl, oy, oo, ot, hp, hi, hs⟩, hB⟩
  · exact ⟨none, 0, 0, none, 0, 0, 0, none, 0, 0, 6, rfl, .inr ⟨hn, rfl, rfl, rfl, rfl, rfl⟩, hB⟩
theorem three_of {W : World} {base b2 : Nat} {v1 v2 v3 : Value} {a b c : List Int} (h1 : WOwn W base v1 a) (h2 : WOwn W base v2 b) (h3 : WOwn W base v3 c) (h12 : ∀ k, v1.ownBlock = some k → v2.ownBlock ≠ some k) (l1 : ∀ k, v1.ownBlock = some k → k < b2) (l2 : ∀ k, v2.ownBlock = some k → k < b2) (g3 : ∀ k, v3.ownBlock = some k → b2 ≤ k) : Three W base v1 v2 v3 a b c :=
  ⟨h1, h2, h3, h12, fun k hk e => Nat.lt_irrefl _ (Nat.lt_of_lt_of_le (l1 k hk) (g3 k e)), fun k hk e => Nat.lt_irrefl _ (Nat.lt_of_lt_of_le (l2 k hk) (g3 k e))⟩
end Go.Proofs.YtegffanlehaloaaGreat.cl

/- Reach: the closure meet. Conditions: as said. -/
namespace Go.Proofs.YtegffanlehaloaaGreat.cl
open Go.RowKit mem words
set_option linter.unusedVariables false
set_option linter.unusedSimpArgs false
set_option maxHeartbeats 4000000
set_option maxRecDepth 100000
def seen (l : List Int) : List (Int × Value) := l.map fun p => (p, Value.bool true)
theorem seen_find {v : Int} : ∀ {l : List Int}, alFind (seen l) v = if v ∈ l then some (.bool true) else none := by
  intro l
  induction l with
  | nil => rfl
  | cons a l ih =>
    unfold seen alFind at ih ⊢
    rw [List.map_cons, List.find?_cons]
    by_cases hv : v = a
    · subst hv; simp
    · simp only [hv, decide_false, List.mem_cons, false_or]
      exact ih
theorem seen_put {l : List Int} {v : Int} (hv : v ∉ l) : alPut (seen l) v (.bool true) = seen (l ++ [v]) := by
  have h1 : alIdx (seen l) v = none := by
    have h := alFind_idx (seen l) v
    rw [seen_find, if_neg hv] at h
    cases hx : alIdx (seen l) v with
    | none => rfl
    | some j => rw [hx] at h; simp at h
  unfold alPut
  rw [h1]
  unfold seen
  rw [List.map_append]
  rfl
theorem zero4 (w : World) : (zeroValue 4).run Tryz.prog w = .ok (.bool false) w := by kernel_rfl
structure MeetAt (w : World) (base zm zl mp : Nat) (vL : Value) (l : List Int) : Prop where
  bm : w.heap[zm]? = some (.cells #[.map (some mp)] 50)
  bl : w.heap[zl]? = some (.cells #[vL] 22)
  rl : WOwn w base vL l
  fm : MapIs (Value.int .u64) w mp (seen l)
  gm : base ≤ zm
  gl : base ≤ zl
  gp : base ≤ mp
  ml : zm ≠ zl
  mm : zm ≠ mp
  lm : zl ≠ mp
  dm : vL.ownBlock ≠ some zm
  dl : vL.ownBlock ≠ some zl
  dp : vL.ownBlock ≠ some mp
def MeetB (zl mp : Nat) (vL : Value) (k : Nat) : Prop := k = zl ∨ k = mp ∨ vL.ownBlock = some k
theorem MeetAt.lt {w : World} {base zm zl mp : Nat} {vL : Value} {l : List Int} (h : MeetAt w base zm zl mp vL l) : base < w.heap.size := Nat.lt_of_le_of_lt h.gm (Array.getElem?_eq_some_iff.1 h.bm).1
theorem MeetAt.ge {w : World} {base zm zl mp : Nat} {vL : Value} {l : List Int} (h : MeetAt w base zm zl mp vL l) {k : Nat} (hk : MeetB zl mp vL k) : base ≤ k := by
  rcases hk with rfl | rfl | hk
  · exact h.gl
  · exact h.gp
  · exact (h.rl.ge k hk).1
theorem MeetAt.below {w w' : World} {base zm zl mp : Nat} {vL : Value} {l : List Int} (h : MeetAt w base zm zl mp vL l) (hb : Below w.heap.size w w') : MeetAt w' base zm zl mp vL l :=
  ⟨blk_same h.bm hb, blk_same h.bl hb, h.rl.below hb, h.fm.same (hb.block _ h.fm.lt), h.gm, h.gl, h.gp, h.ml, h.mm, h.lm, h.dm, h.dl, h.dp⟩
theorem MeetAt.push {w w1 w2 : World} {base zm zl mp : Nat} {vL v' : Value} {l : List Int} {v : Int} {o : Obj} (h : MeetAt w base zm zl mp vL l) (hv : v ∉ l) (hm : MapIs (Value.int .u64) w1 mp (alPut (seen l) v (.bool true))) (ht : TouchB (fun i => i = mp) w w1) (ha : AppW (w1.alloc o) base vL l [v] v' w2) :
    MeetAt (w2.setCell ⟨zl, 0, none⟩ v') base zm zl mp v' (l ++ [v]) ∧ TouchB (MeetB zl mp vL) w (w2.setCell ⟨zl, 0, none⟩ v') ∧ ColN w vL v' := by
  rw [seen_put hv] at hm
  have hzm := (Array.getElem?_eq_some_iff.1 h.bm).1
  have hzl := (Array.getElem?_eq_some_iff.1 h.bl).1
  have hmp := h.fm.lt
  have hs1 := ht.size
  have hsa : (w1.alloc o).heap.size = w1.heap.size + 1 := World.size_alloc _ _
  have al : ∀ {k : Nat}, k < w1.heap.size → (w1.alloc o).heap[k]? = w1.heap[k]? := fun hk => Below.heap_alloc _ _ _ hk
  have step : ∀ {k : Nat}, k < w1.heap.size → vL.ownBlock ≠ some k → w2.heap[k]? = w1.heap[k]? := fun hk hn => (ha.other (by rw [hsa]; omega) hn).trans (al hk)
  have place : ∀ {k : Nat}, k < w1.heap.size → vL.ownBlock ≠ some k → v'.ownBlock ≠ some k := fun hk hn => ha.place (by rw [hsa]; omega) hn
  refine ⟨⟨?_, ?_, ?_, ?_, h.gm, h.gl, h.gp, h.ml, h.mm, h.lm, place (by omega) h.dm, place (by omega) h.dl, place (by omega) h.dp⟩, ?_, ?_⟩
  · rw [setC_same _ _ _ _ h.ml, step (by omega) h.dm, ht.block _ hzm h.mm]; exact h.bm
  · exact blk_setC ((step (by omega) h.dl).trans ((ht.block _ hzl h.lm).trans h.bl)) v'
  · exact ownBlock_same ha.own (fun k hk => setC_same w2 zl 0 v' (fun e => place (by omega) h.dl (e ▸ hk)))
  · exact hm.same (by rw [setC_same _ _ _ _ (Ne.symm h.lm), step (by omega) h.dp])
  · refine TouchB.setCell ?_ _ _ (fun _ => .inl rfl)
    refine (((ht.mono (S' := MeetB zl mp vL) (fun i _ e => .inr (.inl e))).alloc o).grown ha.grown (fun k e _ => .inr (.inr e)))
  · rcases ha.at_ with e | e
    · exact .inl e
    · exact .inr ⟨_, e, by rw [hsa]; omega⟩
theorem MeetAt.rl2 {w w1 : World} {base zm zl mp : Nat} {vL : Value} {l : List Int} (h : MeetAt w base zm zl mp vL l) (ht : TouchB (fun i => i = mp) w w1) (o : Obj) : WOwn (w1.alloc o) base vL l :=
  (ownBlock_same h.rl (fun k hk => ht.block k (own_lt h.rl hk) (fun e => h.dp (e ▸ hk)))).below (belowA (Below.refl _ _) _)
theorem MeetAt.sz2 {w w1 : World} {base zm zl mp : Nat} {vL : Value} {l : List Int} (h : MeetAt w base zm zl mp vL l) (ht : TouchB (fun i => i = mp) w w1) (o : Obj) : base ≤ (w1.alloc o).heap.size := by
  have h1 := h.lt
  have h2 := ht.size
  rw [World.size_alloc]
  omega
theorem MeetAt.bl2 {w w1 w2 : World} {base zm zl mp : Nat} {vL v' : Value} {l : List Int} {v : Int} {o : Obj} (h : MeetAt w base zm zl mp vL l) (ht : TouchB (fun i => i = mp) w w1) (ha : AppW (w1.alloc o) base vL l [v] v' w2) : w2.heap[zl]? = some (.cells #[vL] 22) := by
  have hzl := (Array.getElem?_eq_some_iff.1 h.bl).1
  have hs1 := ht.size
  have hsa : (w1.alloc o).heap.size = w1.heap.size + 1 := World.size_alloc _ _
  rw [ha.other (by rw [hsa]; omega) h.dl, Below.heap_alloc _ _ _ (by omega), ht.block _ hzl h.lm]
  exact h.bl
def MeetP (w : World) (base zm zl mp : Nat) (vL : Value) (l : List Int) (v : Int) (e : Ending) (w' : World) : Prop := e = .returned (.tuple #[]) ∧ ∃ vL', MeetAt w' base zm zl mp vL' (metW l v) ∧ TouchB (MeetB zl mp vL) w w' ∧ ColN w vL vL'
theorem meet41 {w : World} {base zm zl mp : Nat} {vL : Value} {l : List Int} (h : MeetAt w base zm zl mp vL l) (v : Int) (v0 : 0 ≤ v) (v1 : v ≤ 18446744073709551615) (hl : l.length ≤ 200000) :
    Calls Tryz.prog 21 #[.int .u64 v, .pointer (some ⟨zm, 0, none⟩), .pointer (some ⟨zl, 0, none⟩)] w (MeetP w base zm zl mp vL l v) := by
  have hlk := run_lookup key34 Tryz.underlying50 h.fm v (zero4 w)
  rw [seen_find] at hlk
  have HPp := Lib.hid (fun W => Pointer v v0 v1 W)
  obtain ⟨a0, a0f⟩ := one_cell h.bm
  obtain ⟨b0, b0f⟩ := one_cell h.bl
  obtain ⟨pL, cL, eL⟩ := h.rl.shape
  have HH := Lib.hid h
  have HLn : Hid (l.length + 1 ≤ 400000) := Lib.hid (by omega)
  have HBs : Hid (base ≤ w.heap.size) := Lib.hid (Nat.le_of_lt h.lt)
  by_cases hp : pOk v = true
  · by_cases hv : v ∈ l
    · have HG : Hid (metW l v = l) := Lib.hid (by unfold metW; rw [if_neg (fun hh => hh.2 hv)])
      rw [if_pos hv] at hlk
      rw [hp] at HPp
      clear h hl hv eL HLn
      go_enter Tryz.func21, Tryz.ntmps21
      go_wp2_with fail
      refine (HPp.out _).mono ?_
      rintro e w' ⟨rfl, rfl⟩
      go_wp2_with fail
      go_end0
      exact ⟨rfl, vL, by rw [HG.out]; exact HH.out, TouchB.refl _ _, ColN.refl _ _⟩
    · have HG : Hid (metW l v = l ++ [v]) := Lib.hid (by unfold metW; rw [if_pos ⟨hp, hv⟩])
      rw [if_neg hv] at hlk
      rw [hp] at HPp
      have HV := Lib.hid hv
      clear h hl hv
      subst eL
      go_enter Tryz.func21, Tryz.ntmps21
      go_wp2_with fail
      refine (HPp.out _).mono ?_
      rintro e w' ⟨rfl, rfl⟩
      go_wp2_with (first
        | (at_mapUpdate; refine wpList_mapUpdate_al _ rfl _ _ _ 50 rfl key34 Tryz.underlying50 mp (seen l) HH.out.fm v (.bool true) rfl rfl rfl ?_; intro w4 hm4 ht4 hz4; have HM4 := Lib.hid hm4; have HT4 := Lib.hid ht4; obtain ⟨c0, c0f⟩ := one_cell ((ht4.block zl (Array.getElem?_eq_some_iff.1 HH.out.bl).1 HH.out.lm).trans HH.out.bl); clear hm4 ht4 hz4)
        | (at_builtin; refine wpList_append_words rfl (.tmp 22) (.tmp 24) rfl rfl (HH.out.rl2 HT4.out _) (HH.out.sz2 HT4.out _) ⟨w4.heap.size, 0, none⟩ 1 1 [v] rfl rfl (new_word _ _) HLn.out ?_; intro v' w5 ha; have HA := Lib.hid ha; obtain ⟨p5, n5, c5, rfl⟩ := own_slice ha.own; obtain ⟨d0, d0f⟩ := one_cell (HH.out.bl2 HT4.out ha); clear ha))
      go_end0
      obtain ⟨g1, g2, g3⟩ := HH.out.push HV.out HM4.out HT4.out HA.out
      exact ⟨rfl, _, by rw [HG.out]; exact g1, g2, g3⟩
  · have HG : Hid (metW l v = l) := Lib.hid (by unfold metW; rw [if_neg (fun hh => hp hh.1)])
    have hpf : pOk v = false := by simpa using hp
    rw [hpf] at HPp
    clear h hl hp hpf eL HLn hlk
    go_enter Tryz.func21, Tryz.ntmps21
    go_wp2_with fail
    refine (HPp.out _).mono ?_
    rintro e w' ⟨rfl, rfl⟩
    go_wp2_with fail
    go_end0
    exact ⟨rfl, vL, by rw [HG.out]; exact HH.out, TouchB.refl _ _, ColN.refl _ _⟩
end Go.Proofs.YtegffanlehaloaaGreat.cl

/- Reach under way, in memory, with boxes. Conditions: as said. -/
namespace Go.Proofs.YtegffanlehaloaaGreat.cl
open Go.RowKit mem words
set_option linter.unusedVariables false
set_option linter.unusedSimpArgs false
set_option maxHeartbeats 1000000
structure ReAt (V : World) (base zm zl mp : Nat) (vL : Value) (l : List Int) (bx : List (Nat × Obj)) : Prop where
  m : MeetAt V base zm zl mp vL l
  bx : ∀ p ∈ bx, V.heap[p.1]? = some p.2 ∧ ¬ MeetB zl mp vL p.1
section
variable {V V' : World} {base zm zl mp : Nat} {vL vL' : Value} {l l' : List Int} {bx : List (Nat × Obj)}
theorem MeetAt.has {k : Nat} (h : MeetAt V base zm zl mp vL l) (hk : MeetB zl mp vL k) : k < V.heap.size := by
  rcases hk with rfl | rfl | hk
  · exact (Array.getElem?_eq_some_iff.1 h.bl).1
  · exact h.fm.lt
  · exact own_lt h.rl hk
theorem ReAt.below (h : ReAt V base zm zl mp vL l bx) (hb : Below V.heap.size V V') : ReAt V' base zm zl mp vL l bx :=
  ⟨h.m.below hb, fun p hp => ⟨blk_same (h.bx p hp).1 hb, (h.bx p hp).2⟩⟩
theorem ReAt.fewer {bx' : List (Nat × Obj)} (h : ReAt V base zm zl mp vL l bx) (hs : ∀ p ∈ bx', p ∈ bx) : ReAt V base zm zl mp vL l bx' := ⟨h.m, fun p hp => h.bx p (hs p hp)⟩
theorem ReAt.alloc (h : ReAt V base zm zl mp vL l bx) (o : Obj) : ReAt (V.alloc o) base zm zl mp vL l ((V.heap.size, o) :: bx) := by
  have h1 := h.below (belowA (Below.refl _ _) o)
  refine ⟨h1.m, fun p hp => ?_⟩
  rcases List.mem_cons.1 hp with rfl | hp
  · exact ⟨World.alloc_heap_new _ _, fun hc => Nat.lt_irrefl _ (h.m.has hc)⟩
  · exact h1.bx p hp
theorem ColN.meet (h : ColN V vL vL') {k : Nat} (hk : k < V.heap.size) (hc : MeetB zl mp vL' k) : MeetB zl mp vL k := by
  rcases hc with e | e | e
  · exact .inl e
  · exact .inr (.inl e)
  · exact .inr (.inr (h.old e hk))
theorem ReAt.keep (h : ReAt V base zm zl mp vL l bx) (c : MeetAt V' base zm zl mp vL' l') (t : TouchB (MeetB zl mp vL) V V') (n : ColN V vL vL') : ReAt V' base zm zl mp vL' l' bx := by
  refine ⟨c, fun p hp => ?_⟩
  obtain ⟨h1, h2⟩ := h.bx p hp
  have hlt := (Array.getElem?_eq_some_iff.1 h1).1
  exact ⟨(t.block _ hlt h2).trans h1, fun hc => h2 (n.meet hlt hc)⟩
theorem ReAt.mark {k : Nat} (h : ReAt V base zm zl mp vL l bx) (hk : V.heap[k]? = some (.deferred (some []))) (hm : mp < k) : ReAt V base zm zl mp vL l ((k, .deferred (some [])) :: bx) := by
  refine ⟨h.m, fun p hp => ?_⟩
  rcases List.mem_cons.1 hp with rfl | hp
  · refine ⟨hk, ?_⟩
    rintro (e | e | e)
    · have e : k = zl := e
      rw [e, h.m.bl] at hk; cases hk
    · have e : k = mp := e
      omega
    · rcases h.m.rl.2 with ⟨e1, _⟩ | ⟨g, cap, cur, e1, _, hc, _⟩
      · rw [e1] at e; simp [Value.ownBlock] at e
      · rw [e1] at e
        obtain rfl : g = k := by simpa [Value.ownBlock] using e
        rw [hc] at hk; cases hk
  · exact h.bx p hp
theorem MeetAt.frame (h : MeetAt V base zm zl mp vL l) (hs : ∀ k, k < V.heap.size → MeetB zl mp vL k ∨ k = zm → V'.heap[k]? = V.heap[k]?) : MeetAt V' base zm zl mp vL l :=
  ⟨(hs _ (Array.getElem?_eq_some_iff.1 h.bm).1 (.inr rfl)).trans h.bm, (hs _ (h.has (.inl rfl)) (.inl (.inl rfl))).trans h.bl, ownBlock_same h.rl (fun k hk => hs k (h.has (.inr (.inr hk))) (.inl (.inr (.inr hk)))), h.fm.same (hs _ (h.has (.inr (.inl rfl))) (.inl (.inr (.inl rfl)))), h.gm, h.gl, h.gp, h.ml, h.mm, h.lm, h.dm, h.dl, h.dp⟩
theorem ReAt.grown2 {row : Option Nat} {B : Nat} (h : ReAt V base zm zl mp vL l bx) (hg : V.grownBy V' row) (hr : ∀ r, row = some r → B ≤ r ∧ ∃ o : Obj, V.heap[r]? = some o ∧ o.isCells = false) (hbx : ∀ p ∈ bx, p.2.isCells = true ∨ p.1 < B) (hm : mp < B) : ReAt V' base zm zl mp vL l bx := by
  have cells : ∀ {k : Nat} {o : Obj}, V.heap[k]? = some o → o.isCells = true → V'.heap[k]? = V.heap[k]? := fun hk ho => grownBy_keeps_cells hg (fun r e => (hr r e).2) hk ho
  refine ⟨h.m.frame (fun k hlt hk => ?_), fun p hp => ?_⟩
  · rcases hk with (rfl | rfl | hk) | rfl
    · exact cells h.m.bl rfl
    · exact hg.block _ hlt (fun e => by have := (hr _ e.symm).1; omega)
    · rcases h.m.rl.2 with ⟨e1, _⟩ | ⟨g, cap, cur, e1, _, hc, _⟩
      · rw [e1] at hk; simp [Value.ownBlock] at hk
      · rw [e1] at hk
        obtain rfl : g = k := by simpa [Value.ownBlock] using hk
        exact cells hc rfl
    · exact cells h.m.bm rfl
  · obtain ⟨h1, h2⟩ := h.bx p hp
    refine ⟨?_, h2⟩
    rcases hbx p hp with hc | hc
    · exact (cells h1 hc).trans h1
    · exact (hg.block _ (Array.getElem?_eq_some_iff.1 h1).1 (fun e => by have := (hr _ e.symm).1; omega)).trans h1
theorem ReAt.put {k : Nat} {o o' : Obj} (h : ReAt V base zm zl mp vL l ((k, o) :: bx)) (hne : ∀ p ∈ bx, p.1 ≠ k) (hz : k ≠ zm) : ReAt (V.putObj k o') base zm zl mp vL l bx := by
  obtain ⟨x1, x2⟩ := h.bx _ List.mem_cons_self
  refine ⟨h.m.frame (fun j hlt hj => World.putObj_heap_other (fun e => ?_)), fun p hp => ?_⟩
  · rcases hj with hj | hj
    · exact x2 (by rw [← e]; exact hj)
    · exact hz (e ▸ hj)
  · obtain ⟨h1, h2⟩ := h.bx p (List.mem_cons_of_mem _ hp)
    exact ⟨(World.putObj_heap_other (hne p hp)).trans h1, h2⟩
/-- blocks that are no cells, from B on, lie as they lay through meet -/
theorem meet_from {B : Nat} (c : MeetAt V base zm zl mp vL l) (t : TouchB (MeetB zl mp vL) V V') (hm : mp < B) : KeepsFrom B V V' :=
  ⟨t.size, fun k o hB hk ho => by
    refine (t.block k (Array.getElem?_eq_some_iff.1 hk).1 ?_).trans hk
    rintro (e | e | e)
    · rw [e, c.bl] at hk; cases hk; cases ho
    · omega
    · rcases c.rl.2 with ⟨e1, _⟩ | ⟨g, cap, cur, e1, _, hc, _⟩
      · rw [e1] at e; simp [Value.ownBlock] at e
      · rw [e1] at e
        obtain rfl : g = k := by simpa [Value.ownBlock] using e
        rw [hc] at hk; cases hk; cases ho⟩
end
end Go.Proofs.YtegffanlehaloaaGreat.cl
