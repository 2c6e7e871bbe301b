/- Texts of this seat, one behind the other: TeF, TeG, TeH, TeI, TeM, TeJ, TeK, TcZ, TeL. No condition beyond theirs. -/
import Derived.Test.YtfbggmbmgohiiaaGreatM45
import Derived.Test.YtfbggmbmgohiiaaGreatM35
import Derived.Maps.AppendAt
import Derived.Test.YtfbggmbmgohiiaaGreatM28
import Derived.SizedLaws
import Derived.Test.YtfbggmbmgohiiaaGreatM00
import Derived.Test.YtfbggmbmgohiiaaGreatM03
import Derived.Test.YtfbggmbmgohiiaaGreatM46
import Derived.Test.YtfbggmbmgohiiaaGreatM01
set_option linter.unusedSectionVars false
set_option linter.unusedSimpArgs false
set_option linter.unusedVariables false
set_option maxHeartbeats 4000000
set_option maxRecDepth 100000
namespace Go.Proofs.YtfbggmbmgohiiaaGreat.tb
open Go.RowKit mem rec tm names
theorem st_row (ty : TypeId) (hi : (Tryz.prog.info? ty).map (·.size) = some 1) (w : World) (a : Addr) (v0 v : Value) (hv : v.oneCell' = true) (h : w.cell? a = some v0) (hf : w.frozen? a = false) : (storeVar ty a v).run Tryz.prog w = .ok () (w.setCell a v) := by
  cases hq : Tryz.prog.info? ty with
  | none => simp [hq] at hi
  | some ie =>
    have hs : ie.size = 1 := by simpa [hq] using hi
    have hc : v.cells = #[v] := by cases v <;> first | rfl | simp [Value.oneCell'] at hv
    have ha : a.add 0 = a := by cases a; simp [Addr.add]
    simp [storeVar, hc, sizeOf, typeInfo, hq, hs, storeCells, run_store Tryz.prog _ _ v _ hv, ha, h, hf, Result.andThen]
def PutV {N : Nat} (B y : Nat) (lv : Value) (T : List (RTb N)) (i : Nat) (t : RTb N) (R : List (Tm (N + 1) × Tm (N + 1))) (w : World) (w' : World) : Prop := ∃ v' rows', absRR rows' = R ∧ RfAt w' B y lv (T.set i { t with vr := v', rows := rows' }) ∧ TT refT3 B w w'
section
variable {N : Nat} {w w' : World} {B y : Nat} {lv : Value} {T : List (RTb N)} {t : RTb N} {r k v : Tm (N + 1)} {ur0 uk uv : Value}
structure PArg (w : World) (B : Nat) (r k v : Tm (N + 1)) (ur0 uk uv : Value) : Prop where
  ir : ItemsAt w B N ur0 r.items
  ik : ItemsAt w B N uk k.items
  iv : ItemsAt w B N uv v.items
  nk : nodesT k ≤ 100000000
  nv : nodesT v ≤ 100000000
end
section
variable {N : Nat} {w w' : World} {B y : Nat} {lv : Value} {T : List (RTb N)} {t : RTb N} {r k : Tm (N + 1)} {ur0 uk : Value}
structure GArg (w : World) (B : Nat) (r k : Tm (N + 1)) (ur0 uk : Value) : Prop where
  ir : ItemsAt w B N ur0 r.items
  ik : ItemsAt w B N uk k.items
  nk : nodesT k ≤ 100000000
end
theorem step_load_run {w : World} {ops : Array Oper} {o : Oper} {a : Act} {K : Act → World → Prop} {Q : Exit → Act → World → Prop} {E : Prop} (hw : Region.wanted o (yielded ops a.tmps) = true) (ty : TypeId) (x : Operand)
    (ho : o.op = .load ty x) {p : Addr} {v : Value} (hx : a.eval x = .pointer (some p)) (hr : (loadVar ty p).run Tryz.prog w = .ok v w)
    (hK : K (a.put o.dst v) w) : if Region.wanted o (yielded ops a.tmps) = true then Oper.wp Tryz.prog o a w K Q else E := by
  rw [if_pos hw]
  unfold Oper.wp execOp
  simp only [ho, hx, Instr.loadAt, Instr.sureAddr, Sem.run_bind, Sem.run_pure, Result.andThen_ok, hr]
  exact hK
section
variable {N : Nat} {w w' : World} {B y : Nat} {lv : Value} {T : List (RTb N)} {t : RTb N} {r k : Tm (N + 1)} {ur0 uk : Value}
end
section
variable {N : Nat} {w w' W : World} {B y : Nat} {lv : Value} {T : List (RTb N)} {r o : Tm (N + 1)} {ur0 uo0 : Value}
structure MArg (w : World) (B : Nat) (r o : Tm (N + 1)) (ur0 uo0 : Value) : Prop where
  ir : ItemsAt w B N ur0 r.items
  io : ItemsAt w B N uo0 o.items
  nr : nodesT r ≤ 100000000
  no : nodesT o ≤ 100000000
end
def RfG {N : Nat} (B y : Nat) (A : List (TabA N)) (W : World) : Prop := ∃ lv T, RfAt W B y lv T ∧ T.map absRT = A
structure BdA {N : Nat} (A : List (TabA N)) : Prop where
  sm : SmA A
  nd : ∀ a ∈ A, nodesT a.ref ≤ 100000000 ∧ nodesT a.own ≤ 100000000 ∧ ∀ x ∈ a.rows, nodesT x.1 ≤ 100000000 ∧ nodesT x.2 ≤ 100000000
section
variable {N : Nat} {B y : Nat} {A : List (TabA N)} {W W' : World} {r k v o : Tm (N + 1)} {ur uk uv uo : Value}
theorem RfG.below (h : RfG B y A W) (hb : Below W.heap.size W W') : RfG B y A W' := by
  obtain ⟨lv, T, h1, h2⟩ := h
  exact ⟨lv, T, h1.below hb, h2⟩
theorem RfG.prog (h : RfG B y A W) (ht : TT progT B W W') : RfG B y A W' := by
  obtain ⟨lv, T, h1, h2⟩ := h
  exact ⟨lv, T, h1.prog ht, h2⟩
theorem RfG.blt (h : RfG B y A W) : B ≤ W.heap.size := by
  obtain ⟨lv, T, h1, h2⟩ := h
  exact h1.blt
theorem absRR_abs (t : RTb N) : (absRT t).rows = absRR t.rows := rfl
theorem RfG.open (h : RfG B y A W) (hs : BdA A) (r : Tm (N + 1)) : ∃ lv T, RfAt W B y lv T ∧ T.map absRT = A ∧ T.length ≤ 1000 ∧ (∀ t ∈ T, nodesT t.ref ≤ 100000000) ∧
    ((refA A r = none ∧ refR T r = none ∧ tabA A r = none) ∨ ∃ i t, refA A r = some i ∧ refR T r = some i ∧ T[i]? = some t ∧ A[i]? = some (absRT t) ∧ tabA A r = some (absRT t) ∧ t.rows.length ≤ 1000000 ∧ ∀ r ∈ t.rows, nodesT r.k ≤ 100000000) := by
  obtain ⟨lv, T, h1, rfl⟩ := h
  refine ⟨lv, T, h1, rfl, by have := hs.sm.len; rwa [List.length_map] at this, fun t ht => (hs.nd _ (List.mem_map.2 ⟨t, ht, rfl⟩)).1, ?_⟩
  cases hr : refR T r with
  | none =>
    have e : refA (T.map absRT) r = none := by rw [refR_abs, hr]
    exact .inl ⟨e, rfl, by unfold tabA; rw [e]; rfl⟩
  | some i =>
    have e : refA (T.map absRT) r = some i := by rw [refR_abs, hr]
    obtain ⟨a, ha, _⟩ := refA_lt e
    rw [List.getElem?_map] at ha
    cases ht : T[i]? with
    | none => rw [ht] at ha; cases ha
    | some t =>
      have ea : (T.map absRT)[i]? = some (absRT t) := by rw [List.getElem?_map, ht]; rfl
      have hm : absRT t ∈ T.map absRT := List.mem_of_getElem? ea
      refine .inr ⟨i, t, e, rfl, ht, ea, by unfold tabA; rw [e]; exact ea, ?_, fun r hr => ((hs.nd _ hm).2.2 (r.k, r.v) (List.mem_map.2 ⟨r, hr, rfl⟩)).1⟩
      have := hs.sm.rows _ hm
      rw [absRR_abs] at this
      unfold absRR at this
      rwa [List.length_map] at this
theorem PutV.out {lv : Value} {T : List (RTb N)} {i : Nat} {t : RTb N} {R : List (Tm (N + 1) × Tm (N + 1))} (h : PutV B y lv T i t R W W') : RfG B y ((T.map absRT).set i { absRT t with rows := R }) W' ∧ TT refT3 B W W' := by
  obtain ⟨v', rows', e, h1, h2⟩ := h
  refine ⟨⟨lv, _, h1, ?_⟩, h2⟩
  refine List.ext_getElem? fun j => ?_
  rw [List.getElem?_map, List.getElem?_set, List.getElem?_set, List.length_map, List.getElem?_map]
  split
  · split
    · rw [← e]; rfl
    · rfl
  · rfl
end
end Go.Proofs.YtfbggmbmgohiiaaGreat.tb
namespace Go.Proofs.YtfbggmbmgohiiaaGreat.rec
open Go.RowKit mem
structure ElTyB (sl e : TypeId) (s by_ : Nat) : Prop where
  und : Tryz.prog.underlying sl = some (.slice e)
  info : ∃ i z, Tryz.prog.info? e = some i ∧ i.zero = some z ∧ i.size = s ∧ z.cells.size = s ∧ i.bytes = by_
  pos : 0 < s
theorem ElTyB.el {sl e : TypeId} {s by_ : Nat} (h : ElTyB sl e s by_) (hb : by_ ≤ 10000 := by decide) : ElTy sl e s := ⟨h.und, by obtain ⟨i, z, h1, h2, h3, h4, h5⟩ := h.info; exact ⟨i, z, h1, h2, h3, h4, by omega⟩, h.pos⟩
section
variable {α : Type} {enc : α → List Value} {s : Nat}
theorem run_append_recB {sl e by_ : TypeId} (T : ElTyB sl e s by_) {w : World} {base : Nat} {v : Value} {l : List α} (h : RecOwn enc e s w base v l) (hb : base ≤ w.heap.size) (ty : TypeId) {B : Nat} {vx : Value} {xs : List α} (hx : RecAt enc s w B vx xs) (hE : EncOK enc s xs) (hn : (l.length + xs.length) * by_ ≤ 140737488355328) (hb0 : 0 < by_) (hb1 : by_ ≤ 10000) :
    ∃ v' w', (Builtin.append_ #[sl, sl] ty #[v, vx]).run Tryz.prog w = .ok v' w' ∧ AppR enc e s w base v l xs v' w' := by
  obtain ⟨p, c, rfl, h1, h2, h3⟩ := hx
  cases hxs : xs with
  | nil =>
    subst hxs
    cases p with
    | none =>
      obtain ⟨pv, cv, ev, hc, _⟩ := h.shape
      exact ⟨v, w, run_append_none_rec (T.el hb1) w v pv l.length cv _ ev hc ty, by rw [List.append_nil]; exact h, ⟨rfl, rfl, rfl, Nat.le_refl _, fun _ _ _ => rfl⟩, .inl rfl⟩
    | some ad =>
      obtain ⟨hund, ⟨i, z, hi, hz, hs, hzs, rfl⟩, hpos⟩ := T
      obtain ⟨v', w', hr, hown, hg, _, hat⟩ := run_append_own_at (P := Tryz.prog) w base sl ty e i z s i.bytes hund hi hz hs rfl hzs hpos v l.length (l.flatMap enc) h ad 0 c [] (by simp) (fun j u hu => by simp at hu) (fun u hu => by simp at hu) (by have := Nat.le_mul_of_pos_right (l.length + 0) hb0; simp at hn this; unfold maxLen; simp; omega) (by simpa using hn) hb
      refine ⟨v', w', hr, ?_, hg, hat⟩
      unfold RecOwn
      rw [List.append_nil]
      simpa using hown
  | cons x0 xs0 =>
    subst hxs
    obtain ⟨g, o, rfl, hg, hc⟩ := h3 (by simp)
    obtain ⟨hund, ⟨i, z, hi, hz, hs, hzs, rfl⟩, hpos⟩ := T
    have hfl := flat_len hE
    obtain ⟨v', w', hr, hown, hg, _, hat⟩ := run_append_own_at (P := Tryz.prog) w base sl ty e i z s i.bytes hund hi hz hs rfl hzs hpos v l.length (l.flatMap enc) h ⟨g, o, none⟩ (x0 :: xs0).length c ((x0 :: xs0).flatMap enc) hfl (fun j u hu => by
        have hj := (List.getElem?_eq_some_iff.1 hu).1
        rw [hfl] at hj
        obtain ⟨q, k, a, rfl, hk, hq⟩ := flat_inv hpos hj
        rw [flat_get hE hq hk] at hu
        have := hc q a hq k u hu
        rw [Addr.add_lit]
        exact this) (fun u hu => by
        obtain ⟨a, ha, hu⟩ := List.mem_flatMap.1 hu
        exact (hE a ha).2 u hu) (by have := Nat.le_mul_of_pos_right (l.length + (x0 :: xs0).length) hb0; unfold maxLen; omega) hn hb
    refine ⟨v', w', hr, ?_, hg, hat⟩
    unfold RecOwn
    rw [List.length_append, List.flatMap_append]
    exact hown
end
theorem eltyB_of {sl e s b : Nat} {z : Value} (hu : Tryz.prog.underlying sl = some (.slice e)) (hi : (Tryz.prog.info? e).map (fun i => (i.zero, i.size, i.bytes)) = some (some z, s, b)) (hz : z.cells.size = s) (hs : 0 < s) : ElTyB sl e s b := by
  cases hq : Tryz.prog.info? e with
  | none => rw [hq] at hi; simp at hi
  | some i =>
    rw [hq] at hi
    simp only [Option.map_some, Option.some.injEq, Prod.mk.injEq] at hi
    exact ⟨hu, ⟨i, z, hq, hi.1, hi.2.1, hz, hi.2.2⟩, hs⟩
theorem infoB24 : (Tryz.prog.info? 24).map (fun i => (i.zero, i.size, i.bytes)) = some (some (.agg #[.int .i64 0, .int .i64 0, .int .i64 0, .string ⟨#[]⟩, .string ⟨#[]⟩, .int .i64 0, .slice none 0 0, .string ⟨#[]⟩, .int .i64 0]), 9, 112) := by kernel_rfl
theorem elB24 : ElTyB 22 24 9 112 := eltyB_of Tryz.underlying22 infoB24 rfl (by decide)
end Go.Proofs.YtfbggmbmgohiiaaGreat.rec
namespace Go.Proofs.YtfbggmbmgohiiaaGreat.tb
open Go.RowKit mem rec tm names
def tE {n : Nat} (r : Tm (n + 1) × Value) : List Value := nineL r.1.f r.2
theorem tE_len {n : Nat} (r : Tm (n + 1) × Value) : (tE r).length = 9 := rfl
def tEok {n : Nat} (W : World) (B : Nat) (r : Tm (n + 1) × Value) : Prop := ItemsAt W B n r.2 r.1.items
theorem tE_one {n : Nat} {W : World} {B : Nat} {r : Tm (n + 1) × Value} (h : tEok W B r) : ∀ u ∈ tE r, u.oneCell' = true := by
  obtain ⟨t, u⟩ := r
  obtain ⟨p, c, e, _, _⟩ := h.shape
  dsimp only at e
  subst e
  intro x hx
  simp only [tE, nineL, List.mem_cons, List.mem_nil_iff, or_false] at hx
  rcases hx with rfl | rfl | rfl | rfl | rfl | rfl | rfl | rfl | rfl <;> rfl
theorem row_terms {n : Nat} {w : World} {B : Nat} {v : Value} {rs : List (Tm (n + 1) × Value)} (h : RecAt tE 9 w B v rs) (hk : ∀ r ∈ rs, tEok w B r) : ItemsAt w B (n + 1) v (rs.map (·.1)) := by
  obtain ⟨p, c, rfl, h1, h2, h3⟩ := h
  refine ⟨p, c, by simp, by simpa using h1, h2, fun hn => ?_⟩
  obtain ⟨g, o, rfl, hg, hc⟩ := h3 (by simpa using hn)
  refine ⟨g, o, rfl, hg, fun j hj => ?_⟩
  have hj' : j < rs.length := by simpa using hj
  have hh := hc j rs[j] (List.getElem?_eq_getElem hj')
  have e : (rs.map (·.1))[j] = rs[j].1 := by simp
  rw [e]
  refine ⟨rs[j].2, ?_, hk _ (List.getElem_mem hj')⟩
  simp only [← Nat.add_assoc] at hh
  exact ⟨hh 0 _ rfl, hh 1 _ rfl, hh 2 _ rfl, hh 3 _ rfl, hh 4 _ rfl, hh 5 _ rfl, hh 6 _ rfl, hh 7 _ rfl, hh 8 _ rfl⟩
end Go.Proofs.YtfbggmbmgohiiaaGreat.tb
namespace Go.Proofs.YtfbggmbmgohiiaaGreat.tb
open Go.RowKit mem rec tm Go.ChangeShapes Go.WideShapes Go.ChangeAt Go.Deep
structure OpE (n : Nat) where
  kind : Int
  a : Tm (n + 1)
  b : Tm (n + 1)
  r : Tm (n + 1)
  hs : Bool
  ua : Value
  ub : Value
  ur : Value
def OpIn (w : World) (B : Nat) {n : Nat} (e : OpE n) : Prop := ItemsAt w B n e.ua e.a.items ∧ ItemsAt w B n e.ub e.b.items ∧ ItemsAt w B n e.ur e.r.items
theorem OpIn.below {n : Nat} {w w' : World} {B B' : Nat} {e : OpE n} (h : OpIn w B e) (hb : Below B' w w') (hB : B ≤ B') : OpIn w' B e := ⟨h.1.below hb hB, h.2.1.below hb hB, h.2.2.below hb hB⟩
variable {H : Type} {enc : TypeId × Value → H} {W : World}
end Go.Proofs.YtfbggmbmgohiiaaGreat.tb
namespace Go.Proofs.YtfbggmbmgohiiaaGreat.tm
open Go.RowKit mem names
def LentW (W : World) (B n : Nat) (v0 v : Value) (l : List (Tm n)) : Prop := ∃ F : Nat → Prop, (∀ g, F g → g < W.heap.size) ∧ LentIn W B F n v0 v l ∧ B ≤ W.heap.size
theorem LentW.below {W W' : World} {B n : Nat} {v0 v : Value} {l : List (Tm n)} (h : LentW W B n v0 v l) (hb : Below W.heap.size W W') : LentW W' B n v0 v l := by
  obtain ⟨F, h1, h2, h3⟩ := h
  exact ⟨F, fun g hg => Nat.lt_of_lt_of_le (h1 g hg) hb.size, h2.mono (fun g hg => hb.block g (h1 g hg)) (fun g hg => hb.block g (by omega)) (fun _ h => h), Nat.le_trans h3 hb.size⟩
theorem LentW.of {w w' : World} {B : Nat} {F : Nat → Prop} {n : Nat} {v0 v : Value} {l : List (Tm n)} (h : LentNew w w' B F n v0 v l) (hB : B ≤ w.heap.size) : LentW w' B n v0 v l :=
  ⟨F, fun g hg => (h.inr g hg).2, h.items, Nat.le_trans hB h.below.size⟩
theorem LentW.kept {W : World} {B n : Nat} {v0 v : Value} {t : Tm (n + 1)} (h : LentW W B n v0 v t.items) : Calls Tryz.prog 14 #[aggV t.f v, aggV t.f v0] W (BPost true W) := by
  obtain ⟨F, h1, h2, h3⟩ := h
  exact keptAll n W B F v0 v t h3 h1 h2
theorem LentW.items {W : World} {B n : Nat} {v0 v : Value} {l : List (Tm n)} (h : LentW W B n v0 v l) : ItemsAt W W.heap.size n v l := by
  obtain ⟨F, h1, h2, h3⟩ := h
  exact h2.toIn.toAt h1
end Go.Proofs.YtfbggmbmgohiiaaGreat.tm
namespace Go.Proofs.YtfbggmbmgohiiaaGreat.tb
open Go.RowKit mem rec tm names
def pickI (k m : Int) : Int := if Int.tmod k m < 0 then Int.tmod k m + m else Int.tmod k m
theorem pick21 (w : World) (k : Int) (m : Nat) (h1 : 1 ≤ m) (h2 : m ≤ 1000) : Calls Tryz.prog 21 #[.int .i64 k, .int .i64 (m : Int)] w fun e w' => e = .returned (.int .i64 (pickI k m)) ∧ Below w.heap.size w w' := by
  have hb := Below.refl w.heap.size w
  have hm0 : ¬ ((m : Int) = 0) := by omega
  have hlo : -(m : Int) < Int.tmod k m ∧ Int.tmod k m < (m : Int) := by
    have h := Int.natAbs_tmod k m
    have h3 : (Int.tmod k m).natAbs < m := by
      rw [h]
      simpa using Nat.mod_lt k.natAbs (by omega : 0 < m)
    omega
  unfold pickI
  generalize hq : Int.tmod k m = q at *
  have hw : IntKind.i64.wrap q = q := IntWalk.i64_in _ (by omega)
  have hw2 : IntKind.i64.wrap (q + (m : Int)) = q + (m : Int) := IntWalk.i64_in _ (by omega)
  have HB := Lib.hid hb
  clear hb
  by_cases hneg : q < 0
  · rw [if_pos hneg]
    go_enter Tryz.func21, Tryz.ntmps21
    go_wp2_with fail
    go_ret
    exact ⟨rfl, HB.out⟩
  · rw [if_neg hneg]
    go_enter Tryz.func21, Tryz.ntmps21
    go_wp2_with fail
    go_ret
    exact ⟨rfl, HB.out⟩
end Go.Proofs.YtfbggmbmgohiiaaGreat.tb
