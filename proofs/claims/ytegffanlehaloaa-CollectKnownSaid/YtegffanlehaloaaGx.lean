/- Several texts in one, one behind the other: CrB, CrC, CrD, CrE, CrF. No condition beyond theirs. -/
import Derived.Test.YtegffanlehaloaaGw
import Derived.Test.YtegffanlehaloaaGm
import Derived.ChangeSlices
import Derived.Lib.SmallJoins
import Derived.OpenShut
/- The reference's Minor says yes to what Minor gives. Conditions: as said. -/
namespace Go.Proofs.Ytegffanlehaloaa.cl
open Go.RowKit mem words
set_option linter.unusedVariables false
set_option linter.unusedSimpArgs false
set_option maxHeartbeats 1000000
theorem mov_young {d : Int} (h : mov false d = true) : pOld d = false := by
  unfold mov at h
  cases ho : pOld d
  · rfl
  · rw [ho] at h; simp at h
theorem minor_small {K S : Bk} {mk : Int} {roots D I : List Int} {i k : Nat} (h : Inv K mk false K.o roots S D I i k) (hB : K.pos) : S.y.flatten.length + S.o.flatten.length ≤ K.y.flatten.length + K.o.flatten.length := by
  have h1 := area_sum hB false (D := D) h.nd (fun d hd => (h.src d hd).2.2.1) (fun d hd => ⟨(h.src d hd).1, mov_young (h.src d hd).2.1⟩)
  have h2 := ite_sum (f := fun d => (ob K d).length) (q := fun d => age false mk d) D
  have h3 : (K.s false) = K.y := rfl
  rw [h3] at h1
  rw [h.sy, h.so]
  omega
/-- the memory that Minor gives -/
theorem minor_mem {w : World} {base : Nat} {vY vO vT : Value} {m : Mm} {K S : Bk} {roots D I : List Int} (hp : RunPre m K roots) (hi : Inv K m.at_ false K.o roots S D I D.length 0) (hs : ∀ r ∈ roots, mov false r = true → r ∈ D) (hy : WOwn w base vY S.y.flatten) (ho : WOwn w base vO S.o.flatten) (ht : WOwn w base vT (roots.map (lk D I))) :
    MemAt w w.heap.size vY vO vT ⟨S.y.flatten, S.o.flatten, S.y.flatten.length⟩ S (roots.map (lk D I)) := by
  have hd : Done m K false roots S D I := done_of hp hi hs
  have h1 := minor_small hi hp.sh.pos
  have e1 : K.y.flatten.length = m.y.length := by rw [hp.sh.y.1]
  have e2 : K.o.flatten.length = m.o.length := by rw [hp.sh.o.1]
  have h2 := hp.tot
  have hsum : S.y.flatten.length + S.o.flatten.length ≤ 5000 := by omega
  refine ⟨hy.row, ho.row, inv_wds hp hi false, inv_wds hp hi true, hsum, hd.sh2 (by omega) (by omega), ht.row, fun v hv => ?_, by rw [List.length_map]; exact hp.rl⟩
  obtain ⟨r, hr, rfl⟩ := List.mem_map.1 hv
  exact ⟨hd.roots2 r hr, hi.lk_bd (hp.rt r hr).2⟩
theorem minor_yes {w : World} {B base : Nat} {v1 v2 vr vY vO vT : Value} {m : Mm} {K S : Bk} {roots D I : List Int} (hB : B ≤ w.heap.size) (h1 : WAt w B v1 m.y) (h2 : WAt w B v2 m.o) (hr : WAt w B vr roots) (hp : RunPre m K roots) (hi : Inv K m.at_ false K.o roots S D I D.length 0) (hs : ∀ r ∈ roots, mov false r = true → r ∈ D) (hy : WOwn w base vY S.y.flatten) (ho : WOwn w base vO S.o.flatten) (ht : WOwn w base vT (roots.map (lk D I))) :
    Calls Try.prog 17 #[.agg #[v1, v2, .int .i64 m.at_], vr, .agg #[vY, vO, .int .i64 S.y.flatten.length], vT] w fun e w' => e = .returned (.bool true) ∧ Below w.heap.size w w' := by
  have hd : Done m K false roots S D I := done_of hp hi hs
  have hM : MemAt w w.heap.size v1 v2 vr m K roots := ⟨h1.more hB, h2.more hB, hp.wy, hp.wo, hp.tot, hp.sh, hr.more hB, hp.rt, hp.rl⟩
  exact minor17 w w.heap.size v1 v2 vr vY vO vT m ⟨S.y.flatten, S.o.flatten, S.y.flatten.length⟩ K S roots (roots.map (lk D I)) (Nat.le_refl _) hM (minor_mem hp hi hs hy ho ht) hd.same hd.aged rfl hd.minorY hd.minorO hd.prefixO
end Go.Proofs.Ytegffanlehaloaa.cl
/- How the arguments of the laws of collect lie in memory. No condition. -/
namespace Go.Proofs.Ytegffanlehaloaa.cl
open Go.RowKit mem words Go.ChangeShapes Go.WideShapes Go.ChangeAt Go.Joins
set_option linter.unusedVariables false
set_option linter.unusedSimpArgs false
set_option maxHeartbeats 1000000
set_option maxRecDepth 100000
variable {H : Type} {enc : TypeId × Value → H} {W : World}
theorem wf_u64 {n : Int} (h : (Lit.int .u64 n).wf = true) : 0 ≤ n ∧ n ≤ 18446744073709551615 := by
  simpa [Lit.wf, IntKind.min, IntKind.max, IntKind.signed, IntKind.bits] using h
theorem open_row {fuel : Nat} {v : Value} {x : DataW H × List MemPlace} (h : DataW.trod enc Try.prog W 0 (fun _ => true) true fuel 22 [v] = some x) : ∃ p c l, v = .slice p l.length c ∧ WAt W W.heap.size v l ∧ Wds l := by
  rcases open_ints (k := .u64) Try.underlying22 Try.underlying34 (by kernel_rfl) h with ⟨hcs, _⟩ | ⟨a, len, cap, zs, hcs, hb, hl, hm, hlen, hx, hc, hwf⟩
  · simp only [List.cons.injEq, and_true] at hcs
    subst hcs
    exact ⟨none, 0, [], rfl, ⟨none, 0, rfl, Nat.le_refl _, by unfold maxLen; omega, fun h => absurd rfl h⟩, fun _ h => by simp at h⟩
  · simp only [List.cons.injEq, and_true] at hcs
    subst hcs
    have hlen : zs.length = cap := by simpa using hlen
    have hl2 : (zs.take len).length = len := by rw [List.length_take]; omega
    refine ⟨some a, cap, zs.take len, by rw [hl2], ⟨some a, cap, by rw [hl2], by omega, hm, fun hne => ?_⟩, fun y hy => wf_u64 (hwf y (List.mem_of_mem_take hy))⟩
    have hpos : 0 < len := by have := List.length_pos_iff.2 hne; omega
    obtain ⟨g, o, pth⟩ := a
    have x0 := hc 0 (by omega)
    have hpth : pth = none := by
      cases pth with
      | none => rfl
      | some q =>
        exfalso
        have x1 : W.cell? ⟨g, o, some q⟩ = some _ := x0
        unfold World.cell? at x1
        split at x1 <;> simp at x1
    subst hpth
    refine ⟨g, o, rfl, ?_, fun j hj => ?_⟩
    · have := World.block_lt_of_cell? W _ x0; rw [Addr.add_lit] at this; exact this
    · have := hc j (by omega)
      rw [Addr.add_lit] at this
      rw [this, List.getElem_take, List.getD_eq_getElem?_getD, List.getElem?_eq_getElem (by omega)]
      rfl
theorem open_words {b : Nat} {v : Value} {d : DataW H} {ps : List MemPlace} (hv : Value.okWide Try.prog W .any b 22 v) (h : DataW.Trod enc Try.prog W 0 (fun _ => true) true 22 v d ps) : ∃ p c l, v = .slice p l.length c ∧ WAt W W.heap.size v l ∧ Wds l := by
  obtain ⟨a0, len, cap, rfl⟩ := okWide_slice Try.underlying22 hv
  obtain ⟨fuel, hf⟩ := h
  have hf' : DataW.trod enc Try.prog W 0 (fun _ => true) true fuel 22 [.slice a0 len cap] = some (d, ps) := by simpa [Value.cells] using hf
  exact open_row hf'
theorem open_mem {b : Nat} {v : Value} {d : DataW H} {ps : List MemPlace} (hv : Value.okWide Try.prog W .any b 24 v) (h : DataW.Trod enc Try.prog W 0 (fun _ => true) true 24 v d ps) : ∃ (v1 v2 : Value) (m : Mm), v = .agg #[v1, v2, .int .i64 m.at_] ∧ WAt W W.heap.size v1 m.y ∧ WAt W W.heap.size v2 m.o ∧ Wds m.y ∧ Wds m.o := by
  obtain ⟨c0, c1, c2, y0, y1, y2, n, rfl, rfl, rfl, hy0, hy1, hy2⟩ := open_agg3 Try.underlying24 (by kernel_rfl) (by kernel_rfl) hv h
  obtain ⟨x, e, _, _⟩ := DataW.trod_int Try.underlying3 hy2
  simp only [List.cons.injEq, and_true] at e
  subst e
  obtain ⟨p1, k1, l1, rfl, g1, w1⟩ := open_row hy0
  obtain ⟨p2, k2, l2, rfl, g2, w2⟩ := open_row hy1
  exact ⟨_, _, ⟨l1, l2, x⟩, rfl, g1, g2, w1, w2⟩
end Go.Proofs.Ytegffanlehaloaa.cl
/- copied f9: a memory of its own. Conditions: the areas lie in memory. -/
namespace Go.Proofs.Ytegffanlehaloaa.cl
open Go.RowKit mem words
set_option linter.unusedVariables false
set_option linter.unusedSimpArgs false
set_option maxHeartbeats 4000000
set_option maxRecDepth 100000
theorem step_append_area {ops : Array Oper} {o : Oper} {a : Act} {K : Act → World → Prop} {Q : Exit → Act → World → Prop} {E : Prop} (hgd : o.guard = none) (s x : Operand)
    (ho : o.op = .call { callee := .builtin .append, args := #[s, x], argTypes := #[22, 22] }) {w : World} {base : Nat} {v : Value} {l : List Int} (hs : a.eval s = v) (hown : WOwn w base v l) (hb : base ≤ w.heap.size)
    {B : Nat} {vx : Value} {xs : List Int} (hx : a.eval x = vx) (hrow : WAt w B vx xs) (hn : l.length + xs.length ≤ 400000)
    (h : ∀ v' w', AppW w base v l xs v' w' → K (a.put o.dst v') w') :
    if Region.wanted o (yielded ops a.tmps) = true then Oper.wp Try.prog o a w K Q else E := by
  have hw : Region.wanted o (yielded ops a.tmps) = true := by simp [Region.wanted, hgd]
  rw [if_pos hw]
  obtain ⟨v', w', hr, h2⟩ := run_append_area hown hb o.type hrow hn
  unfold Oper.wp execOp
  simp only [ho, resolve, invoke, builtin, Sem.run_bind, Sem.run_pure, Result.andThen_ok, List.map_toArray, List.map_cons, List.map_nil, hs, hx, hr]
  exact h v' w' h2
theorem own_empty {wr : World} {zE base : Nat} (hE : wr.heap[zE]? = some (.cells #[] 34)) (hb : base ≤ zE) : WOwn wr base (.slice (some ⟨zE, 0, none⟩) 0 0) [] :=
  ⟨rfl, .inr ⟨zE, 0, #[], rfl, hb, hE, Nat.le_refl _, by unfold maxLen; omega, rfl, rfl⟩⟩
/-- append to an empty row of the call's own -/
theorem stepE {ops : Array Oper} {o : Oper} {a : Act} {K : Act → World → Prop} {Q : Exit → Act → World → Prop} {E : Prop} (hgd : o.guard = none) (s x : Operand)
    (ho : o.op = .call { callee := .builtin .append, args := #[s, x], argTypes := #[22, 22] }) {wr : World} (zE : Nat)
    (hs : a.eval s = .slice (some ⟨zE, 0, none⟩) 0 0) (hE : wr.heap[zE]? = some (.cells #[] 34)) (base : Nat) (hbz : base ≤ zE) (hsz : base ≤ wr.heap.size) {B : Nat} {vx : Value} {xs : List Int} (hx : a.eval x = vx) (hrow : WAt wr B vx xs) (hn : xs.length ≤ 400000)
    (h : ∀ p' c' w', WOwn w' base (.slice p' xs.length c') xs → (∀ g, g < wr.heap.size → g ≠ zE → (Value.slice p' xs.length c').ownBlock ≠ some g) → TouchB (fun k => k = zE) wr w' → K (a.put o.dst (.slice p' xs.length c')) w') :
    if Region.wanted o (yielded ops a.tmps) = true then Oper.wp Try.prog o a wr K Q else E := by
  refine step_append_area hgd s x ho hs (own_empty hE hbz) hsz hx hrow (by simp; omega) ?_
  intro v' w' ha
  have ho := ha.own
  rw [List.nil_append] at ho
  obtain ⟨p', c', rfl⟩ := ho.shape
  refine h p' c' w' ho (fun g h1 h2 e => ?_) ((TouchB.refl _ _).grown ha.grown (fun k hk _ => by simp [Value.ownBlock] at hk; omega))
  rcases ha.at_ with hb | hb
  · rw [e] at hb; simp [Value.ownBlock] at hb; omega
  · rw [e] at hb; simp only [Option.some.injEq] at hb; omega
def CopyP (m : Mm) (w : World) (e : Ending) (w' : World) : Prop := ∃ p1 c1 p2 c2, e = .returned (.agg #[.slice p1 m.y.length c1, .slice p2 m.o.length c2, .int .i64 m.at_]) ∧ WOwn w' w.heap.size (.slice p1 m.y.length c1) m.y ∧ WOwn w' w.heap.size (.slice p2 m.o.length c2) m.o ∧ (∀ k, (Value.slice p1 m.y.length c1).ownBlock = some k → (Value.slice p2 m.o.length c2).ownBlock ≠ some k) ∧ Below w.heap.size w w'
theorem below_touch2 {W wr w' : World} {z : Nat} (h : Below W.heap.size W wr) (ht : TouchB (fun k => k = z) wr w') (hz : W.heap.size ≤ z) : Below W.heap.size W w' :=
  h.trans (ht.below (fun k hk => by subst hk; exact hz) h.size)
theorem blk_touch2 {wr w' : World} {z y : Nat} {o : Obj} (h : wr.heap[y]? = some o) (ht : TouchB (fun k => k = z) wr w') (hz : y ≠ z) : w'.heap[y]? = some o :=
  (ht.block y (Array.getElem?_eq_some_iff.1 h).1 hz).trans h
theorem own_touch2 {w5 wr w' : World} {base z : Nat} {v : Value} {l : List Int} (h : WOwn w5 base v l) (hb : Below w5.heap.size w5 wr) (ht : TouchB (fun k => k = z) wr w') (hz : v.ownBlock ≠ some z) : WOwn w' base v l :=
  ownBlock_same (h.below hb) (fun k hk => ht.block k ((h.below hb).ge k hk).2 (fun e => hz (e ▸ hk)))
theorem own_fresh {w5 : World} {base z : Nat} {v : Value} {l : List Int} (h : WOwn w5 base v l) (hz : w5.heap.size ≤ z) : v.ownBlock ≠ some z := fun e => Nat.lt_irrefl _ (Nat.lt_of_lt_of_le (h.ge z e).2 hz)
theorem own_apart {w5 wr : World} {base z : Nat} {v u : Value} {l : List Int} (h : WOwn w5 base v l) (hn : ∀ g, g < wr.heap.size → g ≠ z → u.ownBlock ≠ some g) (hs : w5.heap.size ≤ wr.heap.size) (hz : v.ownBlock ≠ some z) : ∀ k, v.ownBlock = some k → u.ownBlock ≠ some k :=
  fun k hk => hn k (Nat.lt_of_lt_of_le (h.ge k hk).2 hs) (fun e => hz (e ▸ hk))
theorem copy_end {w W1 w6 : World} {m : Mm} {p5 p6 : Option Addr} {c5 c6 : Nat} {a b c : Value} (hbb : Below w.heap.size w W1) (hs : w.heap.size + 1 < W1.heap.size)
    (h : WOwn w6 W1.heap.size (.slice p5 m.y.length c5) m.y ∧ WOwn w6 W1.heap.size (.slice p6 m.o.length c6) m.o ∧ (∀ k, (Value.slice p5 m.y.length c5).ownBlock = some k → (Value.slice p6 m.o.length c6).ownBlock ≠ some k) ∧ Below W1.heap.size W1 w6) :
    CopyP m w (.returned (.agg #[.slice p5 m.y.length c5, .slice p6 m.o.length c6, .int .i64 m.at_])) (((w6.setCell ⟨w.heap.size + 1, 0, none⟩ a).setCell ⟨w.heap.size + 1, 1, none⟩ b).setCell ⟨w.heap.size + 1, 2, none⟩ c) := by
  obtain ⟨h1, h2, h3, h4⟩ := h
  have own : ∀ {v : Value} {l : List Int}, WOwn w6 W1.heap.size v l → WOwn (((w6.setCell ⟨w.heap.size + 1, 0, none⟩ a).setCell ⟨w.heap.size + 1, 1, none⟩ b).setCell ⟨w.heap.size + 1, 2, none⟩ c) w.heap.size v l := fun {v l} hv =>
    row_base (ownBlock_same hv (fun k hk => by
      have h5 := (hv.ge k hk).1
      have h6 : k ≠ w.heap.size + 1 := by omega
      rw [setC_same _ _ _ _ h6, setC_same _ _ _ _ h6, setC_same _ _ _ _ h6])) (fun k hk => by have := (hv.ge k hk).1; omega)
  exact ⟨p5, c5, p6, c6, rfl, own h1, own h2, h3, (((hbb.trans (h4.mono (by omega))).setCell (Nat.le_succ _) _).setCell (Nat.le_succ _) _).setCell (Nat.le_succ _) _⟩
theorem results_cell1 {fn : Func} {p : Tmp} {ty : TypeId} (h : fn.results = #[.cell p ty]) (tmps : Array Value) (P : Program) (w : World) :
    (results fn tmps).run P w = ((asAddr (tmps.getD p undef)).run P w).andThen fun a w₁ => (loadVar ty a).run P w₁ := by
  simp only [results, h]
  simp [Sem.run_bind, Result.andThen]
theorem copied9 (w : World) (B : Nat) (v1 v2 : Value) (m : Mm) (hB : B ≤ w.heap.size) (h1 : WAt w B v1 m.y) (h2 : WAt w B v2 m.o) (l1 : m.y.length ≤ 100000) (l2 : m.o.length ≤ 100000) :
    Calls Try.prog 9 #[.agg #[v1, v2, .int .i64 m.at_]] w (CopyP m w) := by
  obtain ⟨p1, c1, e1, _⟩ := id h1
  obtain ⟨p2, c2, e2, _⟩ := id h2
  subst e1 e2
  have hbb : Below w.heap.size w ((w.alloc (.cells #[.slice p1 m.y.length c1, .slice p2 m.o.length c2, .int .i64 m.at_] 24)).alloc (.cells #[.slice none 0 0, .slice none 0 0, .int .i64 0] 24)) := belowA (belowA (Below.refl _ _) _) _
  have hx := World.alloc_heap_new w (.cells #[.slice p1 m.y.length c1, .slice p2 m.o.length c2, .int .i64 m.at_] 24)
  have hz := World.alloc_heap_new (w.alloc (.cells #[.slice p1 m.y.length c1, .slice p2 m.o.length c2, .int .i64 m.at_] 24)) (.cells #[.slice none 0 0, .slice none 0 0, .int .i64 0] 24)
  rw [World.size_alloc] at hz
  have hx2 := (Below.heap_alloc (w.alloc (.cells #[.slice p1 m.y.length c1, .slice p2 m.o.length c2, .int .i64 m.at_] 24)) (.cells #[.slice none 0 0, .slice none 0 0, .int .i64 0] 24) w.heap.size (by rw [World.size_alloc]; omega)).trans hx
  have hsz : w.heap.size + 1 < ((w.alloc (.cells #[.slice p1 m.y.length c1, .slice p2 m.o.length c2, .int .i64 m.at_] 24)).alloc (.cells #[.slice none 0 0, .slice none 0 0, .int .i64 0] 24)).heap.size := by rw [World.size_alloc, World.size_alloc]; omega
  clear hx
  go_enter Try.func9, Try.ntmps9
  go_wp2_with fail
  generalize ((w.alloc (.cells #[.slice p1 m.y.length c1, .slice p2 m.o.length c2, .int .i64 m.at_] 24)).alloc (.cells #[.slice none 0 0, .slice none 0 0, .int .i64 0] 24)) = W1 at *
  have HAc := Lib.hid (fun V (hb : Below W1.heap.size W1 V) => by
    obtain ⟨q0, q1, q2, _⟩ := three_cells ((hb.block w.heap.size (by omega)).trans hx2)
    exact And.intro q0 (And.intro q1 q2))
  have HZc := Lib.hid (fun V (hb : Below W1.heap.size W1 V) => three_cells ((hb.block (w.heap.size + 1) hsz).trans hz))
  have HY := Lib.hid (fun V (hb : Below W1.heap.size W1 V) => h1.below (hbb.trans (hb.mono hbb.size)) hB)
  have HO := Lib.hid (fun V (hb : Below W1.heap.size W1 V) => h2.below (hbb.trans (hb.mono hbb.size)) hB)
  have HBB := Lib.hid hbb
  have HL1 := Lib.hid (show m.y.length ≤ 400000 by omega)
  have HL2 := Lib.hid (show m.o.length ≤ 400000 by omega)
  have hbd : Below W1.heap.size W1 W1.drew := belowD (Below.refl _ _)
  have hwn : w.heap.size ≠ W1.heap.size := by omega
  have hwn1 : w.heap.size + 1 ≠ W1.heap.size := by omega
  have hsz2 : w.heap.size + 1 < W1.heap.size := hsz
  obtain ⟨x0, x1, x2⟩ := HAc.out W1 (Below.refl _ _)
  clear hx2 hz hbb h1 h2 l1 l2 hB hsz
  go_region_held3 (fun w' => w'.cell? ⟨w.heap.size, 0, none⟩ = some (.slice p1 m.y.length c1) ∧ w'.cell? ⟨w.heap.size, 1, none⟩ = some (.slice p2 m.o.length c2) ∧ w'.cell? ⟨w.heap.size, 2, none⟩ = some (.int .i64 m.at_))
    ((refine ⟨?_, ?_, ?_⟩) <;> (repeat' (first | with_reducible refine keep_alloc ?_ | with_reducible refine keep_drew ?_ | with_reducible refine keep_set ?_ ?_ | (dsimp only; omega) | with_reducible refine belowA ?_ _ | with_reducible refine belowD ?_ | with_reducible assumption | with_reducible exact Below.refl _ _)))
    (first
          | (refine stepE (by rfl) (.tmp 3) (.tmp 5) (by rfl) _ rfl ?_ W1.heap.size ?_ ?_ rfl (HY.out _ ?_) HL1.out ?_
             · ((repeat' (first | with_reducible assumption | with_reducible refine blk_drew ?_ | ((with_reducible refine blk_new ?_) <;> (first | omega | (simp; done) | (simp; omega))) | with_reducible refine blk_alloc ?_ _ | omega | (dsimp only; omega) | (simp; done) | (simp; omega))); first | done | fail)
             · (first | omega | (simp; done) | (simp; omega))
             · exact Below.size (by ((repeat' (first | with_reducible assumption | with_reducible refine belowD ?_ | with_reducible refine belowA ?_ _ | with_reducible exact Below.refl _ _)); first | done | fail))
             · ((repeat' (first | with_reducible assumption | with_reducible refine belowD ?_ | with_reducible refine belowA ?_ _ | with_reducible exact Below.refl _ _)); first | done | fail)
             intro p5 c5 w5 ho5 hn5 ht5
             have HO5 := Lib.hid ho5
             have hb5 : Below W1.heap.size W1 w5 := below_touch2 (by ((repeat' (first | with_reducible assumption | with_reducible refine belowD ?_ | with_reducible refine belowA ?_ _ | with_reducible exact Below.refl _ _)); first | done | fail)) ht5 (by first | omega | (simp; done) | (simp; omega))
             have hl5 : W1.heap.size ≤ w5.heap.size := hb5.size
             have hs5 := ht5.size
             try simp at hs5
             obtain ⟨b0, b1, b2⟩ := HAc.out w5 hb5
             first
               | (have hB5 : w5.heap[W1.heap.size]? = some (.cells #[] 34) := blk_touch2 (by ((repeat' (first | with_reducible assumption | with_reducible refine blk_drew ?_ | ((with_reducible refine blk_new ?_) <;> (first | omega | (simp; done) | (simp; omega))) | with_reducible refine blk_alloc ?_ _ | omega | (dsimp only; omega) | (simp; done) | (simp; omega))); first | done | fail)) ht5 (by first | omega | (simp; done) | (simp; omega)); have HN5 := Lib.hid (hn5 W1.heap.size (by first | omega | (simp; done) | (simp; omega)) (by first | omega | (simp; done) | (simp; omega))))
               | (have hB5 : w5.heap[W1.heap.size + 1]? = some (.cells #[] 34) := blk_touch2 (by ((repeat' (first | with_reducible assumption | with_reducible refine blk_drew ?_ | ((with_reducible refine blk_new ?_) <;> (first | omega | (simp; done) | (simp; omega))) | with_reducible refine blk_alloc ?_ _ | omega | (dsimp only; omega) | (simp; done) | (simp; omega))); first | done | fail)) ht5 (by first | omega | (simp; done) | (simp; omega)); have HN5 := Lib.hid (hn5 (W1.heap.size + 1) (by first | omega | (simp; done) | (simp; omega)) (by first | omega | (simp; done) | (simp; omega))))
               | skip
             clear ho5 hn5 ht5)
          | (refine stepE (by rfl) (.tmp 7) (.tmp 9) (by rfl) _ rfl ?_ W1.heap.size ?_ ?_ rfl (HO.out _ ?_) HL2.out ?_
             · ((repeat' (first | with_reducible assumption | with_reducible refine blk_drew ?_ | ((with_reducible refine blk_new ?_) <;> (first | omega | (simp; done) | (simp; omega))) | with_reducible refine blk_alloc ?_ _ | omega | (dsimp only; omega) | (simp; done) | (simp; omega))); first | done | fail)
             · (first | omega | (simp; done) | (simp; omega))
             · exact Below.size (by ((repeat' (first | with_reducible assumption | with_reducible refine belowD ?_ | with_reducible refine belowA ?_ _ | with_reducible exact Below.refl _ _)); first | done | fail))
             · ((repeat' (first | with_reducible assumption | with_reducible refine belowD ?_ | with_reducible refine belowA ?_ _ | with_reducible exact Below.refl _ _)); first | done | fail)
             intro p6 c6 w6 ho6 hn6 ht6
             have hb6 : Below W1.heap.size W1 w6 := below_touch2 (by ((repeat' (first | with_reducible assumption | with_reducible refine belowD ?_ | with_reducible refine belowA ?_ _ | with_reducible exact Below.refl _ _)); first | done | fail)) ht6 (by first | omega | (simp; done) | (simp; omega))
             have hw5 : WOwn w6 W1.heap.size (.slice p5 m.y.length c5) m.y := own_touch2 HO5.out (by ((repeat' (first | with_reducible assumption | with_reducible refine belowD ?_ | with_reducible refine belowA ?_ _ | with_reducible exact Below.refl _ _)); first | done | fail)) ht6 (by first | exact HN5.out | exact own_fresh HO5.out (by omega))
             have hd6 : ∀ k, (Value.slice p5 m.y.length c5).ownBlock = some k → (Value.slice p6 m.o.length c6).ownBlock ≠ some k := own_apart HO5.out hn6 (by first | omega | (simp; done) | (simp; omega)) (by first | exact HN5.out | exact own_fresh HO5.out (by omega))
             have HF6 := Lib.hid (And.intro hw5 (And.intro ho6 (And.intro hd6 hb6)))
             have hl6 : W1.heap.size ≤ w6.heap.size := hb6.size
             obtain ⟨d0, d1, d2⟩ := HAc.out w6 hb6
             obtain ⟨y0, y1, y2, yf⟩ := HZc.out w6 hb6
             clear ho6 hn6 ht6 hw5 hd6))
  all_goals
    go_wp2_with fail
    exact bodyPost_ret (v := .agg #[.slice p5 m.y.length c5, .slice p6 m.o.length c6, .int .i64 m.at_]) (by rw [results_cell1 rfl]; go_simp) rfl (copy_end HBB.out hsz2 HF6.out)
end Go.Proofs.Ytegffanlehaloaa.cl
/- awake f8. No condition. -/
namespace Go.Proofs.Ytegffanlehaloaa.cl
open Go.RowKit mem words
set_option linter.unusedVariables false
set_option linter.unusedSimpArgs false
set_option maxHeartbeats 4000000
set_option maxRecDepth 100000
theorem lit_row {W : World} {g : Nat} {l : List Int} {t : TypeId} (h : W.heap[g]? = some (.cells (l.map (Value.int .u64)).toArray t)) (hl : l.length ≤ 100000) : WAt W W.heap.size (.slice (some ⟨g, 0, none⟩) l.length l.length) l := by
  refine ⟨_, _, rfl, Nat.le_refl _, by unfold maxLen; omega, fun _ => ⟨g, 0, rfl, (Array.getElem?_eq_some_iff.1 h).1, fun j hj => ?_⟩⟩
  simp [World.cell?, h, hj]
theorem own_addr {w : World} {base : Nat} {v : Value} {l : List Int} (h : WOwn w base v l) (hl : 0 < l.length) : ∃ g c, v = .slice (some ⟨g, 0, none⟩) l.length c ∧ g < w.heap.size ∧ base ≤ g ∧ ∀ j, (hj : j < l.length) → w.cell? ⟨g, j, none⟩ = some (.int .u64 l[j]) := by
  rcases h.form with ⟨_, e2⟩ | ⟨g, c, e, hb, hlt, hc, _⟩
  · rw [e2] at hl; simp at hl
  · subst e
    exact ⟨g, c, rfl, hlt, hb, fun j hj => h.cells hj⟩
def AwP (W : World) (e : Ending) (w' : World) : Prop := ∃ pY cY g cO t cT, e = .returned (.tuple #[.agg #[.slice pY 0 cY, .slice (some ⟨g, 0, none⟩) 2 cO, .int .i64 0], .slice (some ⟨t, 0, none⟩) 1 cT, .int .i64 0]) ∧ w'.cell? ⟨g, 0, none⟩ = some (.int .u64 35) ∧ w'.cell? ⟨g, 1, none⟩ = some (.int .u64 11) ∧ w'.cell? ⟨t, 0, none⟩ = some (.int .u64 5) ∧ g < w'.heap.size ∧ t < w'.heap.size ∧ Below W.heap.size W w'
theorem awake_full {W : World} {a b : Nat} (h1 : WAt W W.heap.size (.slice (some ⟨a, 0, none⟩) 4 4) [19, 11, 35, 11]) (h3 : WAt W W.heap.size (.slice (some ⟨b, 0, none⟩) 1 1) [17]) :
    Calls Try.prog 10 #[.agg #[.slice (some ⟨a, 0, none⟩) 4 4, .slice none 0 0, .int .i64 0], .slice (some ⟨b, 0, none⟩) 1 1] W (AwP W) := by
  have hwd : ∀ l : List Int, (∀ x ∈ l, decide (0 ≤ x ∧ x ≤ 18446744073709551615) = true) → Wds l := fun l h x hx => of_decide_eq_true (h x hx)
  refine (full10 W W.heap.size (.slice (some ⟨a, 0, none⟩) 4 4) (.slice none 0 0) (some ⟨b, 0, none⟩) 1 aM [17] (Nat.le_refl _) h1 ⟨none, 0, rfl, Nat.le_refl _, by unfold maxLen; omega, fun h => absurd rfl h⟩ (hwd _ (by decide)) (hwd _ (by decide)) (by decide) h3 (hwd _ (by decide)) (by decide)).mono ?_
  rintro e w' ⟨hB, ⟨_, base, vY, vO, vT, K, S, D, I, hb, rfl, oy, oo, ot, _, _, hp, hi, hs⟩ | ⟨hn, _⟩⟩
  · obtain ⟨ey, eo, et⟩ := a_done hp.sh hi hs
    rw [ey] at oy
    rw [eo] at oo
    rw [et] at ot
    obtain ⟨pY, cY, rfl⟩ := oy.shape
    obtain ⟨g, cO, rfl, hg, _, hgc⟩ := own_addr oo (by decide)
    obtain ⟨t, cT, rfl, ht, _, htc⟩ := own_addr ot (by decide)
    exact ⟨pY, cY, g, cO, t, cT, rfl, hgc 0 (by decide), hgc 1 (by decide), htc 0 (by decide), hg, ht, hB⟩
  · exact absurd ⟨aK, a_sh, a_tm⟩ hn
theorem awake8 (w : World) : Calls Try.prog 8 #[] w fun e w' => e = .returned (.bool true) ∧ Below w.heap.size w w' := by
  have hb3 : Below w.heap.size w (((w.alloc (.cells #[.int .u64 19, .int .u64 11, .int .u64 35, .int .u64 11] 34)).alloc (.cells #[.slice (some ⟨w.heap.size, 0, none⟩) 4 4, .slice none 0 0, .int .i64 0] 24)).alloc (.cells #[.int .u64 17] 34)) := belowA (belowA (belowA (Below.refl _ _) _) _) _
  have k1 : (((w.alloc (.cells #[.int .u64 19, .int .u64 11, .int .u64 35, .int .u64 11] 34)).alloc (.cells #[.slice (some ⟨w.heap.size, 0, none⟩) 4 4, .slice none 0 0, .int .i64 0] 24)).alloc (.cells #[.int .u64 17] 34)).heap[w.heap.size]? = some (.cells #[.int .u64 19, .int .u64 11, .int .u64 35, .int .u64 11] 34) := blk_alloc (blk_alloc (World.alloc_heap_new w _) _) _
  have k3 : (((w.alloc (.cells #[.int .u64 19, .int .u64 11, .int .u64 35, .int .u64 11] 34)).alloc (.cells #[.slice (some ⟨w.heap.size, 0, none⟩) 4 4, .slice none 0 0, .int .i64 0] 24)).alloc (.cells #[.int .u64 17] 34)).heap[w.heap.size + 1 + 1]? = some (.cells #[.int .u64 17] 34) := blk_new (by rw [World.size_alloc, World.size_alloc])
  have HF := Lib.hid (awake_full (lit_row (l := [19, 11, 35, 11]) k1 (by decide)) (lit_row (l := [17]) k3 (by decide)))
  have HB := Lib.hid hb3
  clear hb3 k1 k3
  go_enter Try.func8, Try.ntmps8
  go_wp2_with fail
  refine HF.out.mono ?_
  generalize (((w.alloc (.cells #[.int .u64 19, .int .u64 11, .int .u64 35, .int .u64 11] 34)).alloc (.cells #[.slice (some ⟨w.heap.size, 0, none⟩) 4 4, .slice none 0 0, .int .i64 0] 24)).alloc (.cells #[.int .u64 17] 34)) = W3 at *
  rintro e W4 ⟨pY, cY, g, cO, t, cT, rfl, hg0, hg1, ht0, hg, ht, hb4⟩
  have HB4 := Lib.hid (HB.out.trans (hb4.mono HB.out.size))
  have HB5 := Lib.hid (fun o => belowA HB4.out o)
  clear hb4 HF
  go_wp2_with fail
  go_ret
  exact ⟨rfl, HB5.out _⟩
end Go.Proofs.Ytegffanlehaloaa.cl
/- What Full and Minor answer, in one form for the laws. Conditions: as said. -/
namespace Go.Proofs.Ytegffanlehaloaa.cl
open Go.RowKit mem words
set_option linter.unusedVariables false
set_option linter.unusedSimpArgs false
set_option maxHeartbeats 1000000
def FitsQ (m : Mm) (roots : List Int) : Prop := ∃ K, Sh m K ∧ ∀ v ∈ roots, Tm K v
def AnsQ (full : Bool) (m : Mm) (roots : List Int) (W W' : World) (n0 n1 : Value) (n2 : Int) (vT : Value) (er : Int) : Prop :=
  (FitsQ m roots ∧ ∃ base K S D I, W.heap.size ≤ base ∧ n2 = (if full then 0 else (S.y.flatten.length : Int)) ∧ er = 0 ∧ WOwn W' base n0 S.y.flatten ∧ WOwn W' base n1 S.o.flatten ∧ WOwn W' base vT (roots.map (lk D I)) ∧ RunPre m K roots ∧ Inv K m.at_ full (base0 full K) roots S D I D.length 0 ∧ (∀ r ∈ roots, mov full r = true → r ∈ D)) ∨
  (¬ FitsQ m roots ∧ n0 = .slice none 0 0 ∧ n1 = .slice none 0 0 ∧ n2 = 0 ∧ vT = .slice none 0 0 ∧ er = 6)
theorem AnsQ.same {full : Bool} {m : Mm} {roots : List Int} {W W' W'' : World} {n0 n1 : Value} {n2 : Int} {vT : Value} {er : Int} (h : AnsQ full m roots W W' n0 n1 n2 vT er) (hs : ∀ k, W.heap.size ≤ k → k < W'.heap.size → W''.heap[k]? = W'.heap[k]?) : AnsQ full m roots W W'' n0 n1 n2 vT er := by
  rcases h with ⟨hf, base, K, S, D, I, hb, e1, e2, o1, o2, o3, r⟩ | h
  · have key : ∀ {v : Value} {l : List Int}, WOwn W' base v l → WOwn W'' base v l := fun {v l} h => ownBlock_same h (fun k hk => hs k (Nat.le_trans hb (h.ge k hk).1) (h.ge k hk).2)
    exact .inl ⟨hf, base, K, S, D, I, hb, e1, e2, key o1, key o2, key o3, r⟩
  · exact .inr h
def AnsP (full : Bool) (m : Mm) (roots : List Int) (w : World) (e : Ending) (w' : World) : Prop := ∃ q0 m0 c0 q1 m1 c1 n2 qT mT cT er, e = .returned (.tuple #[.agg #[.slice q0 m0 c0, .slice q1 m1 c1, .int .i64 n2], .slice qT mT cT, .int .i64 er]) ∧ AnsQ full m roots w w' (.slice q0 m0 c0) (.slice q1 m1 c1) n2 (.slice qT mT cT) er ∧ Below w.heap.size w w'
theorem ans10 (w : World) (B : Nat) (v1 v2 : Value) (pr : Option Addr) (cr : Nat) (m : Mm) (roots : List Int) (hB : B ≤ w.heap.size) (h1 : WAt w B v1 m.y) (h2 : WAt w B v2 m.o) (w1 : Wds m.y) (w2 : Wds m.o) (lt : m.y.length + m.o.length ≤ 5000) (hr : WAt w B (.slice pr roots.length cr) roots) (wr : Wds roots) (lr : roots.length ≤ 100000) :
    Calls Try.prog 10 #[.agg #[v1, v2, .int .i64 m.at_], .slice pr roots.length cr] w (AnsP true m roots w) := by
  refine (full10 w B v1 v2 pr cr m roots hB h1 h2 w1 w2 lt hr wr lr).mono ?_
  rintro e w' ⟨hB, ⟨hf, base, vY, vO, vT, K, S, D, I, hb, rfl, oy, oo, ot, _, _, hp, hi, hs⟩ | ⟨hn, rfl⟩⟩
  · obtain ⟨q0, m0, c0, rfl⟩ := own_shape oy
    obtain ⟨q1, m1, c1, rfl⟩ := own_shape oo
    obtain ⟨qT, mT, cT, rfl⟩ := own_shape ot
    exact ⟨q0, m0, c0, q1, m1, c1, 0, qT, mT, cT, 0, rfl, .inl ⟨hf, base, K, S, D, I, hb, rfl, rfl, oy, oo, ot, hp, hi, hs⟩, hB⟩
  · exact ⟨none, 0, 0, none, 0, 0, 0, none, 0, 0, 6, rfl, .inr ⟨hn, rfl, rfl, rfl, rfl, rfl⟩, hB⟩
theorem ans16 (w : World) (B : Nat) (v1 v2 : Value) (pr : Option Addr) (cr : Nat) (m : Mm) (roots : List Int) (hB : B ≤ w.heap.size) (h1 : WAt w B v1 m.y) (h2 : WAt w B v2 m.o) (w1 : Wds m.y) (w2 : Wds m.o) (lt : m.y.length + m.o.length ≤ 5000) (hr : WAt w B (.slice pr roots.length cr) roots) (wr : Wds roots) (lr : roots.length ≤ 100000) :
    Calls Try.prog 16 #[.agg #[v1, v2, .int .i64 m.at_], .slice pr roots.length cr] w (AnsP false m roots w) := by
  refine (minor16 w B v1 v2 pr cr m roots hB h1 h2 w1 w2 lt hr wr lr).mono ?_
  rintro e w' ⟨hB, ⟨hf, base, vY, vO, vT, K, S, D, I, hb, rfl, oy, oo, ot, _, _, hp, hi, hs⟩ | ⟨hn, rfl⟩⟩
  · obtain ⟨q0, m0, c0, rfl⟩ := own_shape oy
    obtain ⟨q1, m1, c1, rfl⟩ := own_shape oo
    obtain ⟨qT, mT, cT, rfl⟩ := own_shape ot
    exact ⟨q0, m0, c0, q1, m1, c1, S.y.flatten.length, qT, mT, cT, 0, rfl, .inl ⟨hf, base, K, S, D, I, hb, rfl, rfl, oy, oo, ot, hp, hi, hs⟩, hB⟩
  · exact ⟨none, 0, 0, none, 0, 0, 0, none, 0, 0, 6, rfl, .inr ⟨hn, rfl, rfl, rfl, rfl, rfl⟩, hB⟩
/-- the reference says yes -/
theorem yes15 {w W : World} {B : Nat} {v1 v2 vr n0 n1 vT : Value} {n2 er : Int} {m : Mm} {roots : List Int} (h : AnsQ true m roots W w n0 n1 n2 vT er) (hf : FitsQ m roots) (hB : B ≤ w.heap.size) (h1 : WAt w B v1 m.y) (h2 : WAt w B v2 m.o) (hr : WAt w B vr roots) :
    er = 0 ∧ Calls Try.prog 15 #[.agg #[v1, v2, .int .i64 m.at_], vr, .agg #[n0, n1, .int .i64 n2], vT] w fun e w' => e = .returned (.bool true) ∧ Below w.heap.size w w' := by
  rcases h with ⟨_, base, K, S, D, I, hb, rfl, rfl, o1, o2, o3, hp, hi, hs⟩ | ⟨hn, _⟩
  · exact ⟨rfl, full_yes hB h1 h2 hr hp hi hs o1 o2 o3⟩
  · exact absurd hf hn
theorem yes17 {w W : World} {B : Nat} {v1 v2 vr n0 n1 vT : Value} {n2 er : Int} {m : Mm} {roots : List Int} (h : AnsQ false m roots W w n0 n1 n2 vT er) (hf : FitsQ m roots) (hB : B ≤ w.heap.size) (h1 : WAt w B v1 m.y) (h2 : WAt w B v2 m.o) (hr : WAt w B vr roots) :
    er = 0 ∧ Calls Try.prog 17 #[.agg #[v1, v2, .int .i64 m.at_], vr, .agg #[n0, n1, .int .i64 n2], vT] w fun e w' => e = .returned (.bool true) ∧ Below w.heap.size w w' := by
  rcases h with ⟨_, base, K, S, D, I, hb, rfl, rfl, o1, o2, o3, hp, hi, hs⟩ | ⟨hn, _⟩
  · exact ⟨rfl, minor_yes hB h1 h2 hr hp hi hs o1 o2 o3⟩
  · exact absurd hf hn
theorem three_of {W : World} {base b2 : Nat} {v1 v2 v3 : Value} {a b c : List Int} (h1 : WOwn W base v1 a) (h2 : WOwn W base v2 b) (h3 : WOwn W base v3 c) (h12 : ∀ k, v1.ownBlock = some k → v2.ownBlock ≠ some k) (l1 : ∀ k, v1.ownBlock = some k → k < b2) (l2 : ∀ k, v2.ownBlock = some k → k < b2) (g3 : ∀ k, v3.ownBlock = some k → b2 ≤ k) : Three W base v1 v2 v3 a b c :=
  ⟨h1, h2, h3, h12, fun k hk e => Nat.lt_irrefl _ (Nat.lt_of_lt_of_le (l1 k hk) (g3 k e)), fun k hk e => Nat.lt_irrefl _ (Nat.lt_of_lt_of_le (l2 k hk) (g3 k e))⟩
end Go.Proofs.Ytegffanlehaloaa.cl
