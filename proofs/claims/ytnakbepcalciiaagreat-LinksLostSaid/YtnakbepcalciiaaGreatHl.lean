/- Several texts in one, one behind the other: LkOp, LkOq, LkLb, LkSd. No condition beyond theirs. -/
import Derived.Test.YtnakbepcalciiaaGreatGa
import Derived.Test.YtnakbepcalciiaaGreatGb
import Derived.Test.YtnakbepcalciiaaGreatGv
import Derived.SizedLaws
import Derived.Test.YtnakbepcalciiaaGreatHr
import Derived.Test.YtnakbepcalciiaaGreatHa
import Derived.Test.YtnakbepcalciiaaGreatGo
import Derived.Test.YtnakbepcalciiaaGreatHd
/- How the laws' lists of calls lie in memory. No condition. -/
namespace Go.Proofs.YtnakbepcalciiaaGreat.lk
open Go.RowKit mem tm Go.ChangeShapes Go.WideShapes Go.ChangeAt Go.Deep
set_option linter.unusedVariables false
set_option linter.unusedSimpArgs false
set_option maxRecDepth 100000
/-- a call of a script -/
structure OpR (n : Nat) where
  kind : Int
  a : Tm (n + 1)
  b : Tm (n + 1)
  r : Tm (n + 1)
  num : Int
  node : ByteArray
structure OpAt (w : World) (B n g o : Nat) (x : OpR n) : Prop where
  kind : w.cell? ⟨g, o, none⟩ = some (.int .i64 x.kind)
  a : ∃ u, Cells w g (o + 1) x.a.f u ∧ ItemsAt w B n u x.a.items
  b : ∃ u, Cells w g (o + 10) x.b.f u ∧ ItemsAt w B n u x.b.items
  r : ∃ u, Cells w g (o + 19) x.r.f u ∧ ItemsAt w B n u x.r.items
  num : w.cell? ⟨g, o + 28, none⟩ = some (.int .i64 x.num)
  node : w.cell? ⟨g, o + 29, none⟩ = some (.string x.node)
def OpsAt (w : World) (B n : Nat) (v : Value) (l : List (OpR n)) : Prop :=
  ∃ p c, v = .slice p l.length c ∧ l.length ≤ c ∧ c ≤ maxLen ∧ (l ≠ [] → ∃ g o, p = some ⟨g, o, none⟩ ∧ g < B ∧ ∀ j, (h : j < l.length) → OpAt w B n g (o + j * 30) l[j])
theorem OpAt.below {w w' : World} {B n g o : Nat} {x : OpR n} (h : OpAt w B n g o x) (hb : Below w.heap.size w w') (hB : B ≤ w.heap.size) (hg : g < B) : OpAt w' B n g o x := by
  have hs : w'.heap[g]? = w.heap[g]? := hb.block g (Nat.lt_of_lt_of_le hg hB)
  have hc : ∀ o, w'.cell? ⟨g, o, none⟩ = w.cell? ⟨g, o, none⟩ := fun o => World.cell?_of_block (w := w) (w' := w') (a := ⟨g, o, none⟩) hs
  obtain ⟨h1, ⟨ua, h2, h3⟩, ⟨ub, h4, h5⟩, ⟨ur, h6, h7⟩, h8, h9⟩ := h
  exact ⟨(hc _).trans h1, ⟨ua, h2.same hs, h3.below hb hB⟩, ⟨ub, h4.same hs, h5.below hb hB⟩, ⟨ur, h6.same hs, h7.below hb hB⟩, (hc _).trans h8, (hc _).trans h9⟩
theorem OpsAt.below {w w' : World} {B n : Nat} {v : Value} {l : List (OpR n)} (h : OpsAt w B n v l) (hb : Below w.heap.size w w') (hB : B ≤ w.heap.size) : OpsAt w' B n v l := by
  obtain ⟨p, c, e, h1, h2, h3⟩ := h
  refine ⟨p, c, e, h1, h2, fun hn => ?_⟩
  obtain ⟨g, o, e', hg, hc⟩ := h3 hn
  exact ⟨g, o, e', hg, fun j hj => (hc j hj).below hb hB hg⟩
variable {H : Type} {enc : TypeId × Value → H} {W : World}
theorem cells34 : Tryz.prog.cellsOf 34 = 30 := by kernel_rfl
theorem cells_get {cs cs' : List Value} (h : cs = cs') (k : Nat) : cs[k]? = cs'[k]? := by rw [h]
theorem open_op {m : Nat} {cs : List Value} {x : DataW H × List MemPlace} (h : DataW.trod enc Tryz.prog W 0 (fun _ => true) true (m + 1 + 1) 34 cs = some x) : ∃ (t : OpR m) (ua ub ur : Value),
    cs = [.int .i64 t.kind, .int .i64 t.a.f.kind, .int .i64 t.a.f.int, .int .i64 t.a.f.gen, .string t.a.f.name, .string t.a.f.func, .int .i64 t.a.f.arity, ua, .string t.a.f.bytes, .int .i64 t.a.f.bits,
      .int .i64 t.b.f.kind, .int .i64 t.b.f.int, .int .i64 t.b.f.gen, .string t.b.f.name, .string t.b.f.func, .int .i64 t.b.f.arity, ub, .string t.b.f.bytes, .int .i64 t.b.f.bits,
      .int .i64 t.r.f.kind, .int .i64 t.r.f.int, .int .i64 t.r.f.gen, .string t.r.f.name, .string t.r.f.func, .int .i64 t.r.f.arity, ur, .string t.r.f.bytes, .int .i64 t.r.f.bits, .int .i64 t.num, .string t.node] ∧
    ItemsAt W W.heap.size m ua t.a.items ∧ ItemsAt W W.heap.size m ub t.b.items ∧ ItemsAt W W.heap.size m ur t.r.items := by
  obtain ⟨ys, n', hn', hy, hlen, hyl, hf⟩ := DataW.trod_struct Tryz.underlying34 h
  obtain rfl : m + 1 = n' := by omega
  have hl30 : cs.length = 30 := hlen
  match cs, hl30 with
  | [b0, b1, b2, b3, b4, b5, b6, b7, b8, b9, c0, c1, c2, c3, c4, c5, c6, c7, c8, c9, d0, d1, d2, d3, d4, d5, d6, d7, d8, d9], _ =>
  have hl : ys.length = 6 := hyl
  match ys, hl with
  | [y0, y1, y2, y3, y4, y5], _ =>
  have t0 : DataW.trod enc Tryz.prog W 0 (fun _ => true) true (m + 1) 3 [b0] = some y0 := hf 0 _ rfl
  have t1 : DataW.trod enc Tryz.prog W 0 (fun _ => true) true (m + 1) 30 [b1, b2, b3, b4, b5, b6, b7, b8, b9] = some y1 := hf 1 _ rfl
  have t2 : DataW.trod enc Tryz.prog W 0 (fun _ => true) true (m + 1) 30 [c0, c1, c2, c3, c4, c5, c6, c7, c8] = some y2 := hf 2 _ rfl
  have t3 : DataW.trod enc Tryz.prog W 0 (fun _ => true) true (m + 1) 30 [c9, d0, d1, d2, d3, d4, d5, d6, d7] = some y3 := hf 3 _ rfl
  have t4 : DataW.trod enc Tryz.prog W 0 (fun _ => true) true (m + 1) 2 [d8] = some y4 := hf 4 _ rfl
  have t5 : DataW.trod enc Tryz.prog W 0 (fun _ => true) true (m + 1) 9 [d9] = some y5 := hf 5 _ rfl
  obtain ⟨k0, e0, _⟩ := DataW.trod_int Tryz.underlying3 t0
  obtain ⟨k4, e4, _⟩ := DataW.trod_int Tryz.underlying2 t4
  obtain ⟨s5, e5, _⟩ := DataW.trod_string Tryz.underlying9 t5
  obtain ⟨a, ua, ea, ha⟩ := open_nine (fun v x => open_items m v x) t1
  obtain ⟨b, ub, eb, hb⟩ := open_nine (fun v x => open_items m v x) t2
  obtain ⟨r, ur, er, hr⟩ := open_nine (fun v x => open_items m v x) t3
  refine ⟨⟨k0, a, b, r, k4, s5⟩, ua, ub, ur, ?_, ha, hb, hr⟩
  have e : [b0, b1, b2, b3, b4, b5, b6, b7, b8, b9, c0, c1, c2, c3, c4, c5, c6, c7, c8, c9, d0, d1, d2, d3, d4, d5, d6, d7, d8, d9] = [b0] ++ [b1, b2, b3, b4, b5, b6, b7, b8, b9] ++ [c0, c1, c2, c3, c4, c5, c6, c7, c8] ++ [c9, d0, d1, d2, d3, d4, d5, d6, d7] ++ [d8] ++ [d9] := rfl
  rw [e, e0, ea, eb, er, e4, e5]
  rfl
theorem open_ops {b : Nat} {v : Value} {d : DataW H} {ps : List MemPlace} (hv : Value.okWide Tryz.prog W .any b 22 v) (h : DataW.Trod enc Tryz.prog W 0 (fun _ => true) true 22 v d ps) : ∃ n, ∃ l : List (OpR n), OpsAt W W.heap.size n v l := by
  obtain ⟨a0, len, cap, rfl⟩ := okWide_slice Tryz.underlying22 hv
  obtain ⟨fuel, hf⟩ := h
  have hf' : DataW.trod enc Tryz.prog W 0 (fun _ => true) true fuel 22 [.slice a0 len cap] = some (d, ps) := by simpa [Value.cells] using hf
  rcases DataW.trod_slice Tryz.underlying22 hf' with ⟨hcs, hx⟩ | ⟨a, len', cap', elems, rest, m, hm, hcs, hx, hb, hlc, hcm, hel, hat, _, _⟩
  · simp only [List.cons.injEq, and_true] at hcs
    rw [hcs]
    exact ⟨0, [], none, 0, rfl, Nat.le_refl _, Nat.zero_le _, fun hn => absurd rfl hn⟩
  · simp only [List.cons.injEq, and_true] at hcs
    rw [hcs]
    cases len' with
    | zero => exact ⟨0, [], some a, cap', rfl, Nat.zero_le _, hcm, fun hn => absurd rfl hn⟩
    | succ len' =>
      have hget : ∀ i, i < len' + 1 → ∃ cs x, W.cells? 0 (a.add (i * 30)) 30 = some cs ∧ DataW.trod enc Tryz.prog W 0 (fun _ => true) true m 34 cs = some x := by
        intro i hi
        have h0 := hat i hi
        have e0 : elems[i]? = some (elems[i]'(by omega)) := List.getElem?_eq_getElem (by omega)
        rw [e0] at h0
        rw [cells34] at h0
        cases hc : W.cells? 0 (a.add (i * 30)) 30 with
        | none => rw [hc] at h0; simp at h0
        | some cs => rw [hc] at h0; exact ⟨cs, _, rfl, h0⟩
      match m, hget with
      | 0, hget => obtain ⟨cs, x, _, h0⟩ := hget 0 (by omega); simp [DataW.trod] at h0
      | 1, hget =>
        exfalso
        obtain ⟨cs, x, _, h0⟩ := hget 0 (by omega)
        obtain ⟨ys, n', hn', hy, hlen, hyl, hf⟩ := DataW.trod_struct Tryz.underlying34 h0
        obtain rfl : 0 = n' := by omega
        have hl : ys.length = 6 := hyl
        match ys, hl with
        | [y0, y1, y2, y3, y4, y5], _ =>
          have t0 := hf 0 _ rfl
          simp [DataW.trod] at t0
      | m + 1 + 1, hget =>
        have hex : ∀ i, i < len' + 1 → ∃ t : OpR m, ∃ ua ub ur, (∀ k, k < 30 → W.cell? (a.add (i * 30 + k)) = [Value.int .i64 t.kind, .int .i64 t.a.f.kind, .int .i64 t.a.f.int, .int .i64 t.a.f.gen, .string t.a.f.name, .string t.a.f.func, .int .i64 t.a.f.arity, ua, .string t.a.f.bytes, .int .i64 t.a.f.bits, .int .i64 t.b.f.kind, .int .i64 t.b.f.int, .int .i64 t.b.f.gen, .string t.b.f.name, .string t.b.f.func, .int .i64 t.b.f.arity, ub, .string t.b.f.bytes, .int .i64 t.b.f.bits, .int .i64 t.r.f.kind, .int .i64 t.r.f.int, .int .i64 t.r.f.gen, .string t.r.f.name, .string t.r.f.func, .int .i64 t.r.f.arity, ur, .string t.r.f.bytes, .int .i64 t.r.f.bits, .int .i64 t.num, .string t.node][k]?) ∧ ItemsAt W W.heap.size m ua t.a.items ∧ ItemsAt W W.heap.size m ub t.b.items ∧ ItemsAt W W.heap.size m ur t.r.items := by
          intro i hi
          obtain ⟨cs, x, hc, h0⟩ := hget i hi
          obtain ⟨t, ua, ub, ur, rfl, h1, h2, h3⟩ := open_op h0
          refine ⟨t, ua, ub, ur, fun k hk => ?_, h1, h2, h3⟩
          obtain ⟨_, _, hcell⟩ := World.cells?_some hc
          have := hcell k hk
          rw [Go.Deep.add_add] at this
          exact this
        obtain ⟨l, hl, hP⟩ := list_ofT _ (len' + 1) hex
        obtain ⟨g, o, pth⟩ := a
        refine ⟨m, l, some ⟨g, o, pth⟩, cap', by rw [hl], by omega, hcm, fun hne => ?_⟩
        have hpos : 0 < l.length := by omega
        obtain ⟨u0, _, _, hc0, _⟩ := hP 0 hpos
        have x0 := hc0 0 (by omega)
        have hpth : pth = none := by
          cases pth with
          | none => rfl
          | some q =>
            exfalso
            have x1 : W.cell? ⟨g, o, some q⟩ = some _ := x0
            unfold World.cell? at x1
            split at x1 <;> simp at x1
        subst hpth
        refine ⟨g, o, rfl, ?_, fun j hj => ?_⟩
        · have := World.block_lt_of_cell? W _ x0; rw [Addr.add_lit] at this; exact this
        · obtain ⟨ua, ub, ur, hc, h1, h2, h3⟩ := hP j hj
          have hcc := fun k hk => by have := hc k hk; rwa [Addr.add_lit] at this
          exact ⟨hcc 0 (by omega), ⟨ua, ⟨hcc 1 (by omega), hcc 2 (by omega), hcc 3 (by omega), hcc 4 (by omega), hcc 5 (by omega), hcc 6 (by omega), hcc 7 (by omega), hcc 8 (by omega), hcc 9 (by omega)⟩, h1⟩, ⟨ub, ⟨hcc 10 (by omega), hcc 11 (by omega), hcc 12 (by omega), hcc 13 (by omega), hcc 14 (by omega), hcc 15 (by omega), hcc 16 (by omega), hcc 17 (by omega), hcc 18 (by omega)⟩, h2⟩, ⟨ur, ⟨hcc 19 (by omega), hcc 20 (by omega), hcc 21 (by omega), hcc 22 (by omega), hcc 23 (by omega), hcc 24 (by omega), hcc 25 (by omega), hcc 26 (by omega), hcc 27 (by omega)⟩, h3⟩, hcc 28 (by omega), hcc 29 (by omega)⟩
end Go.Proofs.YtnakbepcalciiaaGreat.lk
/- Lists of calls as they come in: records of thirty cells, with what is known of their size. Condition: the arguments are no larger than an address space. -/
namespace Go.Proofs.YtnakbepcalciiaaGreat.lk
open Go.RowKit mem rec tm Go.ChangeShapes Go.WideShapes Go.ChangeAt Go.Deep
set_option linter.unusedVariables false
set_option linter.unusedSimpArgs false
set_option maxRecDepth 100000
/-- a call as it came in, with the slices of its terms' elements -/
structure OpE (n : Nat) where
  kind : Int
  a : Tm (n + 1)
  b : Tm (n + 1)
  r : Tm (n + 1)
  num : Int
  node : ByteArray
  ua : Value
  ub : Value
  ur : Value
def opL {n : Nat} (e : OpE n) : List Value := [.int .i64 e.kind] ++ nineL e.a.f e.ua ++ nineL e.b.f e.ub ++ nineL e.r.f e.ur ++ [.int .i64 e.num, .string e.node]
theorem opL_len {n : Nat} (e : OpE n) : (opL e).length = 30 := rfl
def OpIn (w : World) (B : Nat) {n : Nat} (e : OpE n) : Prop := ItemsAt w B n e.ua e.a.items ∧ ItemsAt w B n e.ub e.b.items ∧ ItemsAt w B n e.ur e.r.items
theorem OpIn.below {n : Nat} {w w' : World} {B B' : Nat} {e : OpE n} (h : OpIn w B e) (hb : Below B' w w') (hB : B ≤ B') : OpIn w' B e := ⟨h.1.below hb hB, h.2.1.below hb hB, h.2.2.below hb hB⟩
theorem opL_one {w : World} {B n : Nat} {e : OpE n} (h : OpIn w B e) : ∀ u ∈ opL e, u.oneCell' = true := by
  obtain ⟨k, a, b, r, nu, no, ua, ub, ur⟩ := e
  obtain ⟨h1, h2, h3⟩ := h
  obtain ⟨p1, c1, e1, _, _⟩ := h1.shape
  obtain ⟨p2, c2, e2, _, _⟩ := h2.shape
  obtain ⟨p3, c3, e3, _, _⟩ := h3.shape
  dsimp only at e1 e2 e3
  subst e1; subst e2; subst e3
  intro u hu
  simp only [opL, nineL, List.mem_append, List.mem_cons, List.mem_nil_iff, or_false] at hu
  rcases hu with (((h | h) | h) | h) | h
  · rw [h]; rfl
  · rcases h with rfl | rfl | rfl | rfl | rfl | rfl | rfl | rfl | rfl <;> rfl
  · rcases h with rfl | rfl | rfl | rfl | rfl | rfl | rfl | rfl | rfl <;> rfl
  · rcases h with rfl | rfl | rfl | rfl | rfl | rfl | rfl | rfl | rfl <;> rfl
  · rcases h with rfl | rfl <;> rfl
variable {H : Type} {enc : TypeId × Value → H} {W : World}
theorem open_opE {m : Nat} {cs : List Value} {x : DataW H × List MemPlace} (h : DataW.trod enc Tryz.prog W 0 (fun _ => true) true (m + 1 + 1) 34 cs = some x) : ∃ e : OpE m, cs = opL e ∧ OpIn W W.heap.size e := by
  obtain ⟨t, ua, ub, ur, hc, h1, h2, h3⟩ := open_op h
  exact ⟨⟨t.kind, t.a, t.b, t.r, t.num, t.node, ua, ub, ur⟩, hc, h1, h2, h3⟩
theorem open_opsS {b : Nat} {v : Value} {d : DataW H} {ps : List MemPlace} (hv : Value.okWide Tryz.prog W .any b 22 v) (h : DataW.Trod enc Tryz.prog W 0 (fun _ => true) true 22 v d ps) : ∃ n, ∃ l : List (OpE n), RecAt opL 30 W W.heap.size v l ∧ (∀ e ∈ l, OpIn W W.heap.size e) ∧ (l = [] ∨ ∃ es rs : List (DataW H), d = .slice es rs ∧ es.length = l.length) := by
  obtain ⟨a0, len, cap, rfl⟩ := okWide_slice Tryz.underlying22 hv
  obtain ⟨fuel, hf⟩ := h
  have hf' : DataW.trod enc Tryz.prog W 0 (fun _ => true) true fuel 22 [.slice a0 len cap] = some (d, ps) := by simpa [Value.cells] using hf
  rcases DataW.trod_slice Tryz.underlying22 hf' with ⟨hcs, hx⟩ | ⟨a, len', cap', elems, rest, m, hm, hcs, hx, hb, hlc, hcm, hel, hat, _, _⟩
  · simp only [List.cons.injEq, and_true] at hcs
    rw [hcs]
    exact ⟨0, [], RecAt.nil _ _ _ _ (Nat.zero_le _), fun e he => by simp at he, .inl rfl⟩
  · simp only [List.cons.injEq, and_true] at hcs
    rw [hcs]
    cases len' with
    | zero => exact ⟨0, [], RecAt.nil _ _ _ _ hcm, fun e he => by simp at he, .inl rfl⟩
    | succ len' =>
      have hget : ∀ i, i < len' + 1 → ∃ cs x, W.cells? 0 (a.add (i * 30)) 30 = some cs ∧ DataW.trod enc Tryz.prog W 0 (fun _ => true) true m 34 cs = some x := by
        intro i hi
        have h0 := hat i hi
        have e0 : elems[i]? = some (elems[i]'(by omega)) := List.getElem?_eq_getElem (by omega)
        rw [e0] at h0
        rw [cells34] at h0
        cases hc : W.cells? 0 (a.add (i * 30)) 30 with
        | none => rw [hc] at h0; simp at h0
        | some cs => rw [hc] at h0; exact ⟨cs, _, rfl, h0⟩
      match m, hget with
      | 0, hget => obtain ⟨cs, x, _, h0⟩ := hget 0 (by omega); simp [DataW.trod] at h0
      | 1, hget =>
        exfalso
        obtain ⟨cs, x, _, h0⟩ := hget 0 (by omega)
        obtain ⟨ys, n', hn', hy, hlen, hyl, hf⟩ := DataW.trod_struct Tryz.underlying34 h0
        obtain rfl : 0 = n' := by omega
        have hl : ys.length = 6 := hyl
        match ys, hl with
        | [y0, y1, y2, y3, y4, y5], _ =>
          have t0 := hf 0 _ rfl
          simp [DataW.trod] at t0
      | m + 1 + 1, hget =>
        have hex : ∀ i, i < len' + 1 → ∃ t : OpE m, (∀ k, k < 30 → W.cell? (a.add (i * 30 + k)) = (opL t)[k]?) ∧ OpIn W W.heap.size t := by
          intro i hi
          obtain ⟨cs, x, hc, h0⟩ := hget i hi
          obtain ⟨t, rfl, h1⟩ := open_opE h0
          refine ⟨t, fun k hk => ?_, h1⟩
          obtain ⟨_, _, hcell⟩ := World.cells?_some hc
          have := hcell k hk
          rw [Go.Deep.add_add] at this
          exact this
        obtain ⟨l, hl, hP⟩ := list_ofT _ (len' + 1) hex
        obtain ⟨g, o, pth⟩ := a
        have hpos : 0 < l.length := by omega
        have x0 := (hP 0 hpos).1 0 (by omega)
        have hpth : pth = none := by
          cases pth with
          | none => rfl
          | some q =>
            exfalso
            have x1 : W.cell? ⟨g, o, some q⟩ = some _ := x0
            unfold World.cell? at x1
            split at x1 <;> simp at x1
        subst hpth
        refine ⟨m, l, ⟨some ⟨g, o, none⟩, cap', by rw [hl], by omega, hcm, fun hne => ⟨g, o, rfl, ?_, fun j e hj k u hu => ?_⟩⟩, fun e he => ?_, .inr ⟨elems.map (·.1), rest.map (·.1), congrArg (·.1) hx, by rw [List.length_map, hel, hl]⟩⟩
        · have := World.block_lt_of_cell? W _ x0; rw [Addr.add_lit] at this; exact this
        · have hjl : j < l.length := by
            rcases Nat.lt_or_ge j l.length with h | h
            · exact h
            · rw [List.getElem?_eq_none h] at hj; cases hj
          rw [List.getElem?_eq_getElem hjl] at hj
          simp only [Option.some.injEq] at hj
          subst hj
          have hk : k < 30 := by
            rcases Nat.lt_or_ge k 30 with h | h
            · exact h
            · rw [List.getElem?_eq_none (by rw [opL_len]; exact h)] at hu; cases hu
          have := (hP j hjl).1 k hk
          rw [Addr.add_lit] at this
          rw [this, hu]
        · obtain ⟨j, hj, rfl⟩ := List.getElem_of_mem he
          exact (hP j hj).2
theorem bytes34 : Tryz.prog.bytesOf 34 = 368 := by kernel_rfl
theorem ops_small {ts : List TypeId} {ds : List (DataW H)} {j : Nat} {d : DataW H} {k : Nat} (h : (DataW.weightsEach Tryz.prog ts ds).all (· ≤ reachBytes) = true) (ht : ts[j]? = some 22) (hd : ds[j]? = some d) (hx : k = 0 ∨ ∃ es rs : List (DataW H), d = .slice es rs ∧ es.length = k) : k * 368 ≤ 140737488355328 := by
  rcases hx with rfl | ⟨es, rs, rfl, rfl⟩
  · decide
  · have := sized_slice h (j := j) (t := 22) (e := 34) ht hd Tryz.underlying22
    rw [bytes34] at this
    unfold reachBytes at this
    omega
end Go.Proofs.YtnakbepcalciiaaGreat.lk
/- great: are the terms of a script too many? Conditions: the script lies in memory, and is not too long for the platform. -/
namespace Go.Proofs.YtnakbepcalciiaaGreat.lk
open Go.RowKit mem rec tm names pm
set_option linter.unusedVariables false
set_option linter.unusedSimpArgs false
set_option maxHeartbeats 4000000
set_option maxRecDepth 100000
def gathO {n : Nat} (l : List (OpE n)) : List (Tm (n + 1) × Value) := l.flatMap (fun e => [(e.a, e.ua), (e.b, e.ub), (e.r, e.ur)])
theorem gathO_take {n : Nat} {l : List (OpE n)} {i : Nat} {e : OpE n} (h : l[i]? = some e) : gathO (l.take (i + 1)) = gathO (l.take i) ++ [(e.a, e.ua), (e.b, e.ub), (e.r, e.ur)] := by
  unfold gathO
  rw [List.take_add_one, h, List.flatMap_append]
  simp
theorem gathO_len {n : Nat} (l : List (OpE n)) : (gathO l).length = 3 * l.length := by
  induction l with
  | nil => rfl
  | cons e l ih =>
    have : gathO (e :: l) = [(e.a, e.ua), (e.b, e.ub), (e.r, e.ur)] ++ gathO l := rfl
    rw [this, List.length_append, ih, List.length_cons]
    simp
    omega
theorem gathO_ok {n : Nat} {W : World} {B : Nat} {l : List (OpE n)} (h : ∀ e ∈ l, OpIn W B e) : ∀ r ∈ gathO l, tEok W B r := fun r hr => by
  obtain ⟨e, he, hm⟩ := List.mem_flatMap.1 hr
  obtain ⟨h1, h2, h3⟩ := h e he
  simp only [List.mem_cons, List.mem_nil_iff, or_false] at hm
  rcases hm with rfl | rfl | rfl
  · exact h1
  · exact h2
  · exact h3
theorem gathO_nodes {n : Nat} {l : List (OpE n)} (h : greatS (n + 1) ((gathO l).map (·.1)) 6000 = false) : nodesL (n + 1) ((gathO l).map (·.1)) ≤ 6000 ∧ ∀ e ∈ l, (nodesT e.a : Int) ≤ 6000 ∧ (nodesT e.b : Int) ≤ 6000 ∧ (nodesT e.r : Int) ≤ 6000 := by
  have key : ∀ r ∈ gathO l, (nodesT r.1 : Int) ≤ 6000 := fun r hr => by
    obtain ⟨k, hk, e⟩ := List.getElem_of_mem (List.mem_map_of_mem (f := (·.1)) hr)
    have h1 := nodes_mem hk
    have h2 := great_nodes h
    rw [e] at h1
    omega
  refine ⟨by have := great_nodes h; omega, fun e he => ?_⟩
  have hm : ∀ r ∈ [(e.a, e.ua), (e.b, e.ub), (e.r, e.ur)], r ∈ gathO l := fun r hr => List.mem_flatMap.2 ⟨e, he, hr⟩
  exact ⟨key _ (hm (e.a, e.ua) (by simp)), key _ (hm (e.b, e.ub) (by simp)), key _ (hm (e.r, e.ur) (by simp))⟩
def GaO {n : Nat} (l : List (OpE n)) (W : World) (m : Nat) (tv iv : Value) (wr : World) : Prop := ∃ i : Nat, iv = .int .i64 (i : Int) ∧ i ≤ l.length ∧ m = l.length - i ∧ RecOwn tE 30 9 wr W.heap.size tv (gathO (l.take i)) ∧ Below W.heap.size W wr
def SmallO {n : Nat} (l : List (OpE n)) : Prop := l.length ≤ 150 ∧ nodesL (n + 1) ((gathO l).map (·.1)) ≤ 6000 ∧ ∀ e ∈ l, (nodesT e.a : Int) ≤ 6000 ∧ (nodesT e.b : Int) ≤ 6000 ∧ (nodesT e.r : Int) ≤ 6000
def GrP {n : Nat} (l : List (OpE n)) (w : World) (e : Ending) (w' : World) : Prop := ∃ b, e = .returned (.bool b) ∧ (b = false → SmallO l) ∧ Below w.heap.size w w'

theorem great33 {n : Nat} (w1 : World) {B : Nat} (hB : B ≤ w1.heap.size) (v : Value) (l : List (OpE n)) (hr : RecAt opL 30 w1 B v l) (hin : ∀ e ∈ l, OpIn w1 B e) (hsz : l.length * 368 ≤ 140737488355328) : Calls Tryz.prog 33 #[v, .int .i64 6000] w1 (GrP l w1) := by
  obtain ⟨pv, cv, rfl, _, _⟩ := hr.shape
  have HR := Lib.hid (fun w' (h : Below w1.heap.size w1 w') => hr.below h hB)
  have HIn := Lib.hid hin
  have hlb : l.length ≤ 1000000000000 := by omega
  have HSz := Lib.hid hsz
  have HBB := Lib.hid hB
  clear hr hin hsz hB
  have H00 : Hid (GaO l w1 l.length (.slice none 0 0) (.int .i64 0) w1) := Lib.hid ⟨0, rfl, Nat.zero_le _, rfl, RecOwn.nil _ _ _, Below.refl _ _⟩
  go_enter Tryz.func33, Tryz.ntmps33
  go_wp2_with fail
  go_loopg [5, 6] l.length (fun m tv iv wr => Hid (GaO l w1 m tv iv wr))
  case atStart => exact H00
  case round =>
    obtain ⟨i, rfl, hi, hn, hown, hbw⟩ := hrel.out
    clear hrel H00
    obtain ⟨po, co, rfl, _, _⟩ := hown.shape
    by_cases hlt : i < l.length
    · have r1 : (i : Int) < (l.length : Int) := by omega
      have hat := List.getElem?_eq_getElem hlt
      obtain ⟨g, o, e1, hn0, hg, hc⟩ := (HR.out _ hbw).nth (by omega)
      have hc := hc i _ hat
      have hme := HIn.out _ (List.getElem_mem hlt)
      subst e1
      have HTk := Lib.hid (gathO_take hat)
      have HG3 : Hid ((gathO (l.take i)).length = 3 * i) := Lib.hid (by rw [gathO_len, List.length_take]; omega)
      generalize l[i] = e at *
      obtain ⟨okd, tr, tw, tt, onum, onode, ur, uw, ut⟩ := e
      have HOk : Hid (∀ r ∈ [(tr, ur), (tw, uw), (tt, ut)], tEok w1 B r) := Lib.hid (fun r hr => by
        obtain ⟨h1, h2, h3⟩ := hme
        simp only [List.mem_cons, List.mem_nil_iff, or_false] at hr
        rcases hr with rfl | rfl | rfl
        · exact h1
        · exact h2
        · exact h3)
      obtain ⟨m1, m2, m3⟩ := hme
      obtain ⟨pr, cr, er, _, _⟩ := m1.shape
      obtain ⟨pw, cw, ew, _, _⟩ := m2.shape
      obtain ⟨pt, ct, et, _, _⟩ := m3.shape
      dsimp only at er ew et
      subst er; subst ew; subst et
      clear m1 m2 m3
      have hE : EncOK tE 9 [(tr, .slice pr tr.items.length cr), (tw, .slice pw tw.items.length cw), (tt, .slice pt tt.items.length ct)] := fun r hr => ⟨tE_len r, tE_one (HOk.out r hr)⟩
      have HE := Lib.hid hE
      have HN := Lib.hid hn
      have HO := Lib.hid hown
      have HBw := Lib.hid hbw
      obtain ⟨fr, hfr⟩ : ∃ f, tr.f = f := ⟨_, rfl⟩
      obtain ⟨fw, hfw⟩ : ∃ f, tw.f = f := ⟨_, rfl⟩
      obtain ⟨ft, hft⟩ : ∃ f, tt.f = f := ⟨_, rfl⟩
      obtain ⟨nr, hnr⟩ : ∃ k, tr.items.length = k := ⟨_, rfl⟩
      obtain ⟨nw, hnw⟩ : ∃ k, tw.items.length = k := ⟨_, rfl⟩
      obtain ⟨nt, hnt⟩ : ∃ k, tt.items.length = k := ⟨_, rfl⟩
      rw [hnr, hnw, hnt] at HTk HE HOk
      rw [hnr, hnw, hnt] at hc
      obtain ⟨rk, ri, rg, rn, rf, ra, rb, rz⟩ := fr
      obtain ⟨w_k, w_i, w_g, w_n, w_f, w_a, w_b, w_z⟩ := fw
      obtain ⟨t_k, t_i, t_g, t_n, t_f, t_a, t_b, t_z⟩ := ft
      have hO : (Obj.cells (([(tr, .slice pr nr cr), (tw, .slice pw nw cw), (tt, .slice pt nt ct)] : List (Tm (n + 1) × Value)).flatMap tE).toArray 30) = (.cells #[.int .i64 rk, .int .i64 ri, .int .i64 rg, .string rn, .string rf, .int .i64 ra, .slice pr nr cr, .string rb, .int .i64 rz, .int .i64 w_k, .int .i64 w_i, .int .i64 w_g, .string w_n, .string w_f, .int .i64 w_a, .slice pw nw cw, .string w_b, .int .i64 w_z, .int .i64 t_k, .int .i64 t_i, .int .i64 t_g, .string t_n, .string t_f, .int .i64 t_a, .slice pt nt ct, .string t_b, .int .i64 t_z] 30) := by
        simp [tE, nineL, hfr, hfw, hft]
      have HRf : Hid (∀ W' : World, RecAt tE 9 (W'.alloc (.cells #[.int .i64 rk, .int .i64 ri, .int .i64 rg, .string rn, .string rf, .int .i64 ra, .slice pr nr cr, .string rb, .int .i64 rz, .int .i64 w_k, .int .i64 w_i, .int .i64 w_g, .string w_n, .string w_f, .int .i64 w_a, .slice pw nw cw, .string w_b, .int .i64 w_z, .int .i64 t_k, .int .i64 t_i, .int .i64 t_g, .string t_n, .string t_f, .int .i64 t_a, .slice pt nt ct, .string t_b, .int .i64 t_z] 30)) (W'.heap.size + 1) (.slice (some ⟨W'.heap.size, 0, none⟩) 3 3) [(tr, .slice pr nr cr), (tw, .slice pw nw cw), (tt, .slice pt nt ct)]) := Lib.hid (fun W' => by
        have h1 := alloc_new W' (Obj.cells (([(tr, .slice pr nr cr), (tw, .slice pw nw cw), (tt, .slice pt nt ct)] : List (Tm (n + 1) × Value)).flatMap tE).toArray 30)
        have h2 := RecAt.fresh (enc := tE) (l := [(tr, .slice pr nr cr), (tw, .slice pw nw cw), (tt, .slice pt nt ct)]) (c := 3) HE.out (by decide) h1 (Nat.le_refl _) (by decide)
        rw [hO] at h2
        exact h2)
      have hcs : ∀ k u, (opL (⟨okd, tr, tw, tt, onum, onode, .slice pr nr cr, .slice pw nw cw, .slice pt nt ct⟩ : OpE n))[k]? = some u → wr.cell? ⟨g, o + i * 30 + k, none⟩ = some u := fun k u hu => by
        have := hc k u hu
        rw [← Nat.add_assoc] at this
        exact this
      simp only [opL, nineL, hfr, hfw, hft] at hcs
      have e0 : wr.cell? ⟨g, o + i * 30, none⟩ = some (.int .i64 okd) := hcs 0 _ rfl
      have e1 : wr.cell? ⟨g, o + i * 30 + 1, none⟩ = some (.int .i64 rk) := hcs 1 _ rfl
      have e2 : wr.cell? ⟨g, o + i * 30 + 2, none⟩ = some (.int .i64 ri) := hcs 2 _ rfl
      have e3 : wr.cell? ⟨g, o + i * 30 + 3, none⟩ = some (.int .i64 rg) := hcs 3 _ rfl
      have e4 : wr.cell? ⟨g, o + i * 30 + 4, none⟩ = some (.string rn) := hcs 4 _ rfl
      have e5 : wr.cell? ⟨g, o + i * 30 + 5, none⟩ = some (.string rf) := hcs 5 _ rfl
      have e6 : wr.cell? ⟨g, o + i * 30 + 6, none⟩ = some (.int .i64 ra) := hcs 6 _ rfl
      have e7 : wr.cell? ⟨g, o + i * 30 + 7, none⟩ = some (.slice pr nr cr) := hcs 7 _ rfl
      have e8 : wr.cell? ⟨g, o + i * 30 + 8, none⟩ = some (.string rb) := hcs 8 _ rfl
      have e9 : wr.cell? ⟨g, o + i * 30 + 9, none⟩ = some (.int .i64 rz) := hcs 9 _ rfl
      have e10 : wr.cell? ⟨g, o + i * 30 + 10, none⟩ = some (.int .i64 w_k) := hcs 10 _ rfl
      have e11 : wr.cell? ⟨g, o + i * 30 + 11, none⟩ = some (.int .i64 w_i) := hcs 11 _ rfl
      have e12 : wr.cell? ⟨g, o + i * 30 + 12, none⟩ = some (.int .i64 w_g) := hcs 12 _ rfl
      have e13 : wr.cell? ⟨g, o + i * 30 + 13, none⟩ = some (.string w_n) := hcs 13 _ rfl
      have e14 : wr.cell? ⟨g, o + i * 30 + 14, none⟩ = some (.string w_f) := hcs 14 _ rfl
      have e15 : wr.cell? ⟨g, o + i * 30 + 15, none⟩ = some (.int .i64 w_a) := hcs 15 _ rfl
      have e16 : wr.cell? ⟨g, o + i * 30 + 16, none⟩ = some (.slice pw nw cw) := hcs 16 _ rfl
      have e17 : wr.cell? ⟨g, o + i * 30 + 17, none⟩ = some (.string w_b) := hcs 17 _ rfl
      have e18 : wr.cell? ⟨g, o + i * 30 + 18, none⟩ = some (.int .i64 w_z) := hcs 18 _ rfl
      have e19 : wr.cell? ⟨g, o + i * 30 + 19, none⟩ = some (.int .i64 t_k) := hcs 19 _ rfl
      have e20 : wr.cell? ⟨g, o + i * 30 + 20, none⟩ = some (.int .i64 t_i) := hcs 20 _ rfl
      have e21 : wr.cell? ⟨g, o + i * 30 + 21, none⟩ = some (.int .i64 t_g) := hcs 21 _ rfl
      have e22 : wr.cell? ⟨g, o + i * 30 + 22, none⟩ = some (.string t_n) := hcs 22 _ rfl
      have e23 : wr.cell? ⟨g, o + i * 30 + 23, none⟩ = some (.string t_f) := hcs 23 _ rfl
      have e24 : wr.cell? ⟨g, o + i * 30 + 24, none⟩ = some (.int .i64 t_a) := hcs 24 _ rfl
      have e25 : wr.cell? ⟨g, o + i * 30 + 25, none⟩ = some (.slice pt nt ct) := hcs 25 _ rfl
      have e26 : wr.cell? ⟨g, o + i * 30 + 26, none⟩ = some (.string t_b) := hcs 26 _ rfl
      have e27 : wr.cell? ⟨g, o + i * 30 + 27, none⟩ = some (.int .i64 t_z) := hcs 27 _ rfl
      have e28 : wr.cell? ⟨g, o + i * 30 + 28, none⟩ = some (.int .i64 onum) := hcs 28 _ rfl
      have e29 : wr.cell? ⟨g, o + i * 30 + 29, none⟩ = some (.string onode) := hcs 29 _ rfl
      have HSz3 : Hid (((gathO (l.take i)).length + 3) * 112 ≤ 140737488355328) := Lib.hid (by have := HSz.out; have := HG3.out; omega)
      have HOa := Lib.hid (fun W' (hW : Below wr.heap.size wr W') => HO.out.below hW)
      have HGB : Hid (w1.heap.size ≤ wr.heap.size) := Lib.hid HBw.out.size
      have HGn : Hid (g < wr.heap.size ∧ g < w1.heap.size) := Lib.hid ⟨by have := HBB.out; have := HBw.out.size; omega, by have := HBB.out; omega⟩
      have HCe : Hid (∀ W' : World, W'.heap[g]? = wr.heap[g]? → W'.cell? ⟨g, o + i * 30 + 1, none⟩ = some (.int .i64 rk) ∧ W'.cell? ⟨g, o + i * 30 + 2, none⟩ = some (.int .i64 ri) ∧ W'.cell? ⟨g, o + i * 30 + 3, none⟩ = some (.int .i64 rg) ∧ W'.cell? ⟨g, o + i * 30 + 4, none⟩ = some (.string rn) ∧ W'.cell? ⟨g, o + i * 30 + 5, none⟩ = some (.string rf) ∧ W'.cell? ⟨g, o + i * 30 + 6, none⟩ = some (.int .i64 ra) ∧ W'.cell? ⟨g, o + i * 30 + 7, none⟩ = some (.slice pr nr cr) ∧ W'.cell? ⟨g, o + i * 30 + 8, none⟩ = some (.string rb) ∧ W'.cell? ⟨g, o + i * 30 + 9, none⟩ = some (.int .i64 rz) ∧ W'.cell? ⟨g, o + i * 30 + 10, none⟩ = some (.int .i64 w_k) ∧ W'.cell? ⟨g, o + i * 30 + 11, none⟩ = some (.int .i64 w_i) ∧ W'.cell? ⟨g, o + i * 30 + 12, none⟩ = some (.int .i64 w_g) ∧ W'.cell? ⟨g, o + i * 30 + 13, none⟩ = some (.string w_n) ∧ W'.cell? ⟨g, o + i * 30 + 14, none⟩ = some (.string w_f) ∧ W'.cell? ⟨g, o + i * 30 + 15, none⟩ = some (.int .i64 w_a) ∧ W'.cell? ⟨g, o + i * 30 + 16, none⟩ = some (.slice pw nw cw) ∧ W'.cell? ⟨g, o + i * 30 + 17, none⟩ = some (.string w_b) ∧ W'.cell? ⟨g, o + i * 30 + 18, none⟩ = some (.int .i64 w_z) ∧ W'.cell? ⟨g, o + i * 30 + 19, none⟩ = some (.int .i64 t_k) ∧ W'.cell? ⟨g, o + i * 30 + 20, none⟩ = some (.int .i64 t_i) ∧ W'.cell? ⟨g, o + i * 30 + 21, none⟩ = some (.int .i64 t_g) ∧ W'.cell? ⟨g, o + i * 30 + 22, none⟩ = some (.string t_n) ∧ W'.cell? ⟨g, o + i * 30 + 23, none⟩ = some (.string t_f) ∧ W'.cell? ⟨g, o + i * 30 + 24, none⟩ = some (.int .i64 t_a) ∧ W'.cell? ⟨g, o + i * 30 + 25, none⟩ = some (.slice pt nt ct) ∧ W'.cell? ⟨g, o + i * 30 + 26, none⟩ = some (.string t_b) ∧ W'.cell? ⟨g, o + i * 30 + 27, none⟩ = some (.int .i64 t_z)) := Lib.hid (fun W' hW => by
        have h := fun k => World.cell?_of_block (w := wr) (w' := W') (a := ⟨g, k, none⟩) hW
        exact ⟨(h _).trans e1, (h _).trans e2, (h _).trans e3, (h _).trans e4, (h _).trans e5, (h _).trans e6, (h _).trans e7, (h _).trans e8, (h _).trans e9, (h _).trans e10, (h _).trans e11, (h _).trans e12, (h _).trans e13, (h _).trans e14, (h _).trans e15, (h _).trans e16, (h _).trans e17, (h _).trans e18, (h _).trans e19, (h _).trans e20, (h _).trans e21, (h _).trans e22, (h _).trans e23, (h _).trans e24, (h _).trans e25, (h _).trans e26, (h _).trans e27⟩)
      clear hc hcs hn hown hbw hn0 hat hg hO hE
      by_cases hlong : (1000 : Int) < (onode.size : Int)
      · go_wp2_with fail
        go_ret
        exact ⟨true, rfl, (fun h => by cases h), HBw.out⟩
      have hbd : Below wr.heap.size wr wr.drew := belowD (Below.refl _ _)
      obtain ⟨de1, de2, de3, de4, de5, de6, de7, de8, de9, de10, de11, de12, de13, de14, de15, de16, de17, de18, de19, de20, de21, de22, de23, de24, de25, de26, de27⟩ := HCe.out wr.drew rfl
      go_upto_region 7 with (fail)
      go_region_held3 (fun w' => w'.cell? ⟨g, o + i * 30 + 1, none⟩ = some (.int .i64 rk) ∧ w'.cell? ⟨g, o + i * 30 + 2, none⟩ = some (.int .i64 ri) ∧ w'.cell? ⟨g, o + i * 30 + 3, none⟩ = some (.int .i64 rg) ∧ w'.cell? ⟨g, o + i * 30 + 4, none⟩ = some (.string rn) ∧ w'.cell? ⟨g, o + i * 30 + 5, none⟩ = some (.string rf) ∧ w'.cell? ⟨g, o + i * 30 + 6, none⟩ = some (.int .i64 ra) ∧ w'.cell? ⟨g, o + i * 30 + 7, none⟩ = some (.slice pr nr cr) ∧ w'.cell? ⟨g, o + i * 30 + 8, none⟩ = some (.string rb) ∧ w'.cell? ⟨g, o + i * 30 + 9, none⟩ = some (.int .i64 rz) ∧ w'.cell? ⟨g, o + i * 30 + 10, none⟩ = some (.int .i64 w_k) ∧ w'.cell? ⟨g, o + i * 30 + 11, none⟩ = some (.int .i64 w_i) ∧ w'.cell? ⟨g, o + i * 30 + 12, none⟩ = some (.int .i64 w_g) ∧ w'.cell? ⟨g, o + i * 30 + 13, none⟩ = some (.string w_n) ∧ w'.cell? ⟨g, o + i * 30 + 14, none⟩ = some (.string w_f) ∧ w'.cell? ⟨g, o + i * 30 + 15, none⟩ = some (.int .i64 w_a) ∧ w'.cell? ⟨g, o + i * 30 + 16, none⟩ = some (.slice pw nw cw) ∧ w'.cell? ⟨g, o + i * 30 + 17, none⟩ = some (.string w_b) ∧ w'.cell? ⟨g, o + i * 30 + 18, none⟩ = some (.int .i64 w_z) ∧ w'.cell? ⟨g, o + i * 30 + 19, none⟩ = some (.int .i64 t_k) ∧ w'.cell? ⟨g, o + i * 30 + 20, none⟩ = some (.int .i64 t_i) ∧ w'.cell? ⟨g, o + i * 30 + 21, none⟩ = some (.int .i64 t_g) ∧ w'.cell? ⟨g, o + i * 30 + 22, none⟩ = some (.string t_n) ∧ w'.cell? ⟨g, o + i * 30 + 23, none⟩ = some (.string t_f) ∧ w'.cell? ⟨g, o + i * 30 + 24, none⟩ = some (.int .i64 t_a) ∧ w'.cell? ⟨g, o + i * 30 + 25, none⟩ = some (.slice pt nt ct) ∧ w'.cell? ⟨g, o + i * 30 + 26, none⟩ = some (.string t_b) ∧ w'.cell? ⟨g, o + i * 30 + 27, none⟩ = some (.int .i64 t_z)) (go_keep)
        (first
          | (refine step_append_recB elB30 rfl (.tmp 20) (.tmp 36) rfl rfl (HOa.out _ (belowDA (.cells #[.int .i64 rk, .int .i64 ri, .int .i64 rg, .string rn, .string rf, .int .i64 ra, .slice pr nr cr, .string rb, .int .i64 rz, .int .i64 w_k, .int .i64 w_i, .int .i64 w_g, .string w_n, .string w_f, .int .i64 w_a, .slice pw nw cw, .string w_b, .int .i64 w_z, .int .i64 t_k, .int .i64 t_i, .int .i64 t_g, .string t_n, .string t_f, .int .i64 t_a, .slice pt nt ct, .string t_b, .int .i64 t_z] 30))) (Nat.le_trans HGB.out (belowDA (.cells #[.int .i64 rk, .int .i64 ri, .int .i64 rg, .string rn, .string rf, .int .i64 ra, .slice pr nr cr, .string rb, .int .i64 rz, .int .i64 w_k, .int .i64 w_i, .int .i64 w_g, .string w_n, .string w_f, .int .i64 w_a, .slice pw nw cw, .string w_b, .int .i64 w_z, .int .i64 t_k, .int .i64 t_i, .int .i64 t_g, .string t_n, .string t_f, .int .i64 t_a, .slice pt nt ct, .string t_b, .int .i64 t_z] 30)).size) rfl ((HRf.out wr).drewN 1) HE.out HSz3.out (by decide) (by decide) ?_; intro v' W8 hA; have hz8 := HGn.out; have hgb := (hA.other (k := g) (Nat.lt_of_lt_of_le hz8.1 (belowDA (w := wr) (.cells #[.int .i64 rk, .int .i64 ri, .int .i64 rg, .string rn, .string rf, .int .i64 ra, .slice pr nr cr, .string rb, .int .i64 rz, .int .i64 w_k, .int .i64 w_i, .int .i64 w_g, .string w_n, .string w_f, .int .i64 w_a, .slice pw nw cw, .string w_b, .int .i64 w_z, .int .i64 t_k, .int .i64 t_i, .int .i64 t_g, .string t_n, .string t_f, .int .i64 t_a, .slice pt nt ct, .string t_b, .int .i64 t_z] 30)).size) (fun e => by have := (HO.out.lt e).1; omega)).trans ((belowDA (w := wr) (.cells #[.int .i64 rk, .int .i64 ri, .int .i64 rg, .string rn, .string rf, .int .i64 ra, .slice pr nr cr, .string rb, .int .i64 rz, .int .i64 w_k, .int .i64 w_i, .int .i64 w_g, .string w_n, .string w_f, .int .i64 w_a, .slice pw nw cw, .string w_b, .int .i64 w_z, .int .i64 t_k, .int .i64 t_i, .int .i64 t_g, .string t_n, .string t_f, .int .i64 t_a, .slice pt nt ct, .string t_b, .int .i64 t_z] 30)).block g hz8.1); obtain ⟨e1, e2, e3, e4, e5, e6, e7, e8, e9, e10, e11, e12, e13, e14, e15, e16, e17, e18, e19, e20, e21, e22, e23, e24, e25, e26, e27⟩ := HCe.out _ hgb; obtain ⟨ao', cap', rfl, _, _⟩ := hA.own.shape)
          | fail)
      all_goals
        have HO8 : Hid (RecOwn tE 30 9 W8 w1.heap.size (.slice ao' ((gathO (l.take i)).length + 3) cap') (gathO (l.take (i + 1)))) := Lib.hid (by rw [HTk.out]; have h8 := hA.own; simpa using h8)
        have HB8 := Lib.hid (hA.belowB (belowCC HBw.out (belowDA (w := wr) (.cells #[.int .i64 rk, .int .i64 ri, .int .i64 rg, .string rn, .string rf, .int .i64 ra, .slice pr nr cr, .string rb, .int .i64 rz, .int .i64 w_k, .int .i64 w_i, .int .i64 w_g, .string w_n, .string w_f, .int .i64 w_a, .slice pw nw cw, .string w_b, .int .i64 w_z, .int .i64 t_k, .int .i64 t_i, .int .i64 t_g, .string t_n, .string t_f, .int .i64 t_a, .slice pt nt ct, .string t_b, .int .i64 t_z] 30))) (Nat.le_trans HGB.out (belowDA (w := wr) (.cells #[.int .i64 rk, .int .i64 ri, .int .i64 rg, .string rn, .string rf, .int .i64 ra, .slice pr nr cr, .string rb, .int .i64 rz, .int .i64 w_k, .int .i64 w_i, .int .i64 w_g, .string w_n, .string w_f, .int .i64 w_a, .slice pw nw cw, .string w_b, .int .i64 w_z, .int .i64 t_k, .int .i64 t_i, .int .i64 t_g, .string t_n, .string t_f, .int .i64 t_a, .slice pt nt ct, .string t_b, .int .i64 t_z] 30)).size) (fun k hk => (HO.out.lt hk).1))
        clear hA e1 e2 e3 e4 e5 e6 e7 e8 e9 e10 e11 e12 e13 e14 e15 e16 e17 e18 e19 e20 e21 e22 e23 e24 e25 e26 e27 de1 de2 de3 de4 de5 de6 de7 de8 de9 de10 de11 de12 de13 de14 de15 de16 de17 de18 de19 de20 de21 de22 de23 de24 de25 de26 de27 HCe HOa HRf HO hgb hz8
        go_wp2_with fail
        go_roundg (l.length - (i + 1))
        case measure => have := HN.out; omega
        case rel => exact Lib.hid ⟨i + 1, by go_num, by omega, rfl, HO8.out, HB8.out⟩
    · obtain rfl : i = l.length := by omega
      have HB2 := Lib.hid hbw
      rw [List.take_length] at hown
      have HO := Lib.hid hown
      clear hbw hn hown
      by_cases h150 : (150 : Int) < (l.length : Int)
      · go_wp2_with fail
        go_ret
        exact ⟨true, rfl, (fun h => by cases h), HB2.out⟩
      have hl150 : l.length ≤ 150 := by omega
      have HL := Lib.hid hl150
      have hOk : ∀ r ∈ gathO l, tEok wr B r := fun r hr => ItemsAt.below (gathO_ok HIn.out r hr) HB2.out HBB.out
      have hRow := HO.out.row (fun r hr => ⟨tE_len r, tE_one (hOk r hr)⟩)
      have hIt := row_terms hRow (fun r hr => (hOk r hr).more (Nat.le_trans HBB.out HB2.out.size))
      have HGr := Lib.hid (tm.Great wr wr.heap.size _ _ 6000 (Nat.le_refl _) (by decide) (by decide) hIt)
      clear hOk hRow hIt
      obtain ⟨gr, hgr⟩ : ∃ b, greatS (n + 1) ((gathO l).map (·.1)) 6000 = b := ⟨_, rfl⟩
      rw [hgr] at HGr
      unfold BPost at HGr
      have HGe := Lib.hid hgr
      clear hgr
      have htl : (gathO (l.take l.length)).length = (gathO l).length := by rw [List.take_length]
      rw [htl]
      clear htl
      go_wp2_with fail
      refine HGr.out.mono ?_
      rintro e w2 ⟨rfl, hb2⟩
      have HB3 := Lib.hid (HB2.out.trans (hb2.mono HB2.out.size))
      clear hb2 HGr
      go_wp2_with fail
      go_ret
      exact ⟨gr, rfl, fun h => ⟨HL.out, gathO_nodes (HGe.out.trans h)⟩, HB3.out⟩
end Go.Proofs.YtnakbepcalciiaaGreat.lk
/- Cut. Conditions: the object was made by New. -/
namespace Go.Proofs.YtnakbepcalciiaaGreat.lk
open Go.RowKit mem rec tm names pm
set_option linter.unusedVariables false
set_option linter.unusedSimpArgs false
set_option maxHeartbeats 4000000
set_option maxRecDepth 100000
def cutM (M : List (Id × Mn)) (L : List Mn) : List (Id × Mn) := L.foldl (fun M m => pDel M m.1) M
def cutS (s : LkSt) (L : List Mn) : LkSt := { s with M := cutM s.M L }
theorem cutS_take {s : LkSt} {L : List Mn} {i : Nat} {m : Mn} (h : L[i]? = some m) : cutS s (L.take (i + 1)) = { s with M := pDel (cutM s.M (L.take i)) m.1 } := by
  unfold cutS cutM
  rw [List.take_add_one, h, List.foldl_append]
  rfl
def CutP (node : ByteArray) (s : LkSt) (z mh mm : Nat) (w : World) (e : Ending) (w' : World) : Prop :=
  ∃ v L, e = .returned v ∧ L.Perm ((s.M.map (·.2)).filter (cutT s node)) ∧ L.Pairwise (fun x y => cmM x y ≤ 0) ∧ RecOwn mnTL 47 27 w' w.heap.size v L ∧ LkAt w' z mh mm (cutS s L) ∧ TouchB (LkS z mh mm) w w'
def CutI (s : LkSt) (L : List Mn) (z mh mm : Nat) (W : World) (n : Nat) (iv : Value) (wr : World) : Prop :=
  ∃ i : Nat, iv = .int .i64 i ∧ i ≤ L.length ∧ n = L.length - i ∧ LkAt wr z mh mm (cutS s (L.take i)) ∧ TouchB (LkS z mh mm) W wr
theorem cut38 {w : World} {z mh mm : Nat} {s : LkSt} (h : LkAt w z mh mm s) (hlen : s.M.length ≤ 100000000) (node : ByteArray) : Calls Tryz.prog 38 #[.pointer (some ⟨z, 0, none⟩), .string node] w (CutP node s z mh mm w) := by
  have HTo := Lib.hid (fun W v (L : List Mn) (h : RecAt mnL 12 W W.heap.size v L) (hl : L.length ≤ 100000000) => told88 (Nat.le_refl _) h hl)
  have H0 := Lib.hid h
  have HLn := Lib.hid hlen
  have hb := two_boxes w (.cells #[.pointer (some ⟨z, 0, none⟩)] 24) (.cells #[.string node] 9)
  have hx0 := alloc_new w (.cells #[.pointer (some ⟨z, 0, none⟩)] 24)
  have hx := ((belowA (Below.refl (w.alloc (.cells #[.pointer (some ⟨z, 0, none⟩)] 24)).heap.size _) (.cells #[.string node] 9) (Nat.le_refl _)).block w.heap.size (by rw [World.size_alloc]; omega)).trans hx0
  have hy := alloc_new (w.alloc (.cells #[.pointer (some ⟨z, 0, none⟩)] 24)) (.cells #[.string node] 9)
  rw [World.size_alloc] at hy
  have hs2 : ((w.alloc (.cells #[.pointer (some ⟨z, 0, none⟩)] 24)).alloc (.cells #[.string node] 9)).heap.size = w.heap.size + 2 := by rw [World.size_alloc, World.size_alloc]
  have HB := Lib.hid hb
  have HX := Lib.hid hx
  have HY := Lib.hid hy
  have HS2 := Lib.hid hs2
  clear h hlen hb hx0 hx hy hs2
  have hmf : ∀ (fn : Fn) (first cap : Array Value) (w : World), (Instr.makeFunc fn first cap).run Tryz.prog w = .ok (.func fn first cap) w := fun _ _ _ _ => rfl
  go_enter Tryz.func38, Tryz.ntmps38
  go_upto_region 1 with (fail)
  generalize ((w.alloc (.cells #[.pointer (some ⟨z, 0, none⟩)] 24)).alloc (.cells #[.string node] 9)) = W1 at *
  have HK : Hid (∀ W : World, W.heap[w.heap.size]? = W1.heap[w.heap.size]? → W.cell? ⟨w.heap.size, 0, none⟩ = some (.pointer (some ⟨z, 0, none⟩)) ∧ ∀ o, W.frozen? ⟨w.heap.size, o, none⟩ = false) := Lib.hid (fun W hW => by
    have h1 := hW.trans HX.out
    exact ⟨by simp only [World.cell?, h1]; rfl, fun o => by simp [World.frozen?, h1]⟩)
  obtain ⟨k0, kf⟩ := HK.out W1 rfl
  have hbl : w.heap.size < W1.heap.size := by have := HS2.out; omega
  have hbn : w.heap.size + 1 < W1.heap.size := by have := HS2.out; omega
  have HS1 := Lib.hid (H0.out.below HB.out)
  have HSo := Lib.hid (chosen89 HS1.out HLn.out (g := 97) (cb := #[.pointer (some ⟨w.heap.size, 0, none⟩), .pointer (some ⟨w.heap.size + 1, 0, none⟩)]) (T := cutT s node) (fun _ _ => rfl) (fun W m hW => cut97 (HS1.out.below hW) node ((hW.block _ hbl).trans HX.out) ((hW.block _ hbn).trans HY.out) m))
  go_wp2_with fail
  refine HSo.out.mono ?_
  rintro e W2 ⟨v, L, rfl, hp, hs, hr, ho, hb2⟩
  clear HSo k0 kf
  obtain ⟨pv, cv, rfl, _, _⟩ := hr.shape
  have hLl : L.length ≤ 100000000 := by rw [hp.length_eq]; exact Nat.le_trans (List.length_filter_le _ _) (by have := HLn.out; simpa using this)
  have HLl := Lib.hid hLl
  have HPp := Lib.hid hp
  have HPs := Lib.hid hs
  have HR2 := Lib.hid hr
  have HOw := Lib.hid (fun k hk => Nat.le_trans HB.out.size (ho k hk))
  have HB2 := Lib.hid (HB.out.trans (hb2.mono HB.out.size))
  have HX2 := Lib.hid (hb2.block _ hbl)
  have hbl2 := Nat.lt_of_lt_of_le hbl hb2.size
  have hS2 := HS1.out.below hb2
  have HZ : Hid (z < w.heap.size ∧ mh < w.heap.size ∧ mm < w.heap.size) := Lib.hid ⟨H0.out.zlt, H0.out.hlt, H0.out.mlt⟩
  have HNo : Hid (∀ k, w.heap.size ≤ k → ¬ LkS z mh mm k) := Lib.hid (fun k hk hS => by have := HZ.out; rcases hS with h | h | h <;> omega)
  have H00 : Hid (CutI s L z mh mm W2 L.length (.int .i64 0) W2) := Lib.hid ⟨0, rfl, Nat.zero_le _, rfl, hS2, TouchB.refl _ _⟩
  have HR := Lib.hid (fun wr (hT : TouchB (LkS z mh mm) W2 wr) => rec_touchL HR2.out hT (Nat.le_refl _) (fun g hg => HNo.out g (HOw.out g hg)))
  have HKb := Lib.hid (fun wr (hT : TouchB (LkS z mh mm) W2 wr) => HK.out wr ((hT.block _ hbl2 (HNo.out _ (Nat.le_refl _))).trans HX2.out))
  clear hp hs hr ho hb2 hS2 hbl hbn HLn hbl2 HX HY HX2 HB HS2 HS1 HR2 HOw H0 HK
  generalize hbw : w.heap.size = bl at *
  have HBw := Lib.hid hbw
  clear hbw
  go_wp2_with fail
  go_loopg [13] L.length (fun n iv wr => Hid (CutI s L z mh mm W2 n iv wr))
  case atStart => exact H00
  case round =>
    obtain ⟨i, rfl, hi, hn, hS, hT⟩ := hrel.out
    clear hrel H00
    by_cases hlt : i < L.length
    · have hat := List.getElem?_eq_getElem hlt
      obtain ⟨g, o, e1, hn0, hg, hc⟩ := (HR.out _ hT).nth (by omega)
      have hc := hc i _ hat
      have HTk := Lib.hid (cutS_take (s := s) hat)
      subst e1
      generalize L[i] = m at *
      obtain ⟨⟨x1, x2, x3, x4⟩, ⟨y1, y2, y3, y4⟩, ⟨v1, v2, v3, v4⟩⟩ := m
      have e0 : wr.cell? ⟨g, o + i * 12, none⟩ = some (.int .i64 x1) := hc 0 _ rfl
      have e1 : wr.cell? ⟨g, o + i * 12 + 1, none⟩ = some (.string x2) := hc 1 _ rfl
      have e2 : wr.cell? ⟨g, o + i * 12 + 2, none⟩ = some (.int .i64 x3) := hc 2 _ rfl
      have e3 : wr.cell? ⟨g, o + i * 12 + 3, none⟩ = some (.int .i64 x4) := hc 3 _ rfl
      have e4 : wr.cell? ⟨g, o + i * 12 + 4, none⟩ = some (.int .i64 y1) := hc 4 _ rfl
      have e5 : wr.cell? ⟨g, o + i * 12 + 5, none⟩ = some (.string y2) := hc 5 _ rfl
      have e6 : wr.cell? ⟨g, o + i * 12 + 6, none⟩ = some (.int .i64 y3) := hc 6 _ rfl
      have e7 : wr.cell? ⟨g, o + i * 12 + 7, none⟩ = some (.int .i64 y4) := hc 7 _ rfl
      have e8 : wr.cell? ⟨g, o + i * 12 + 8, none⟩ = some (.int .i64 v1) := hc 8 _ rfl
      have e9 : wr.cell? ⟨g, o + i * 12 + 9, none⟩ = some (.string v2) := hc 9 _ rfl
      have e10 : wr.cell? ⟨g, o + i * 12 + 10, none⟩ = some (.int .i64 v3) := hc 10 _ rfl
      have e11 : wr.cell? ⟨g, o + i * 12 + 11, none⟩ = some (.int .i64 v4) := hc 11 _ rfl
      have HN := Lib.hid hn
      have HS := Lib.hid hS
      have HT := Lib.hid hT
      have r1 : (i : Int) < (L.length : Int) := by omega
      clear hc hn hS hT hn0 hat
      go_upto_region 5 with (fail)
      have hX := alloc_new wr (.cells #[.int .i64 x1, .string x2, .int .i64 x3, .int .i64 x4, .int .i64 y1, .string y2, .int .i64 y3, .int .i64 y4, .int .i64 v1, .string v2, .int .i64 v3, .int .i64 v4] 162)
      have hb4 := belowA (Below.refl wr.heap.size wr) (.cells #[.int .i64 x1, .string x2, .int .i64 x3, .int .i64 x4, .int .i64 y1, .string y2, .int .i64 y3, .int .i64 y4, .int .i64 v1, .string v2, .int .i64 v3, .int .i64 v4] 162) (Nat.le_refl _)
      have HP4 := Lib.hid hX
      have HS4 := Lib.hid (HS.out.below hb4)
      have HT4 := Lib.hid (touch_trans HT.out (touch_of hb4))
      clear e0 e1 e2 e3 e4 e5 e6 e7 e8 e9 e10 e11 HS HT hX hb4 hg
      generalize (wr.alloc (.cells #[.int .i64 x1, .string x2, .int .i64 x3, .int .i64 x4, .int .i64 y1, .string y2, .int .i64 y3, .int .i64 y4, .int .i64 v1, .string v2, .int .i64 v3, .int .i64 v4] 162)) = W4 at *
      generalize wr.heap.size = zp at *
      have HS5 := Lib.hid (HS4.out.below (belowD (Below.refl _ _)))
      obtain ⟨W6, hrun6, h6, ht6, hs6⟩ := delM_run HS5.out (x1, x2, x3, x4)
      obtain ⟨c0, c1, c2, c3, c4, cf⟩ := five_cells HS4.out.obj
      obtain ⟨p0, p1, p2, p3, p4, p5, p6, p7, p8, p9, p10, p11, pf⟩ := cells12 HP4.out
      obtain ⟨k0, kf⟩ := HKb.out _ HT4.out
      unfold idV at hrun6
      dsimp only at hrun6
      have HS6 := Lib.hid h6
      have HT6 : Hid (TouchB (LkS z mh mm) W2 W6) := Lib.hid (touch_trans HT4.out (touch_trans (touch_of (belowD (Below.refl _ _))) (touch_mm ht6)))
      clear h6 ht6 hs6
      go_still_tail 6, (by kernel_rfl)
      go_wp2_with fail
      go_roundg (L.length - (i + 1))
      case measure => have := HN.out; omega
      case rel => exact Lib.hid ⟨i + 1, by go_num, by omega, rfl, by rw [HTk.out]; exact HS6.out, HT6.out⟩
    · obtain rfl : i = L.length := by omega
      have hTo := HTo.out wr _ L ((HR.out wr hT).more hT.size) HLl.out
      have HS := Lib.hid hS
      have HT := Lib.hid hT
      clear hS hT hn
      go_wp2_with fail
      refine hTo.mono ?_
      rintro e W7 ⟨v', rfl, hown, hb7⟩
      obtain ⟨p', c', rfl, _, _⟩ := hown.shape
      have HO7 := Lib.hid (hown.base (fun k hk => Nat.le_trans (Nat.le_trans HB2.out.size HT.out.size) (hown.lt hk).1))
      have HS7 := Lib.hid (HS.out.below hb7)
      have HT7 := Lib.hid (touch_trans HT.out (touch_of hb7))
      clear hown hb7 HS HT
      go_wp2_with fail
      go_ret
      have h1 := HS7.out
      rw [List.take_length] at h1
      exact ⟨_, L, rfl, HPp.out, HPs.out, HO7.out, h1, touch_trans (touch_of (by have := HB2.out; rw [← HBw.out] at this; exact this)) HT7.out⟩
end Go.Proofs.YtnakbepcalciiaaGreat.lk
