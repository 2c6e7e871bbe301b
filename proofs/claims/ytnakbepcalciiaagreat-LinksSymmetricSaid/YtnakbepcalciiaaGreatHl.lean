/- Several texts in one, one behind the other: LkOp, LkSf0. No condition beyond theirs. -/
import Derived.Test.YtnakbepcalciiaaGreatHi
import Derived.Test.YtnakbepcalciiaaGreatGc
import Derived.Test.YtnakbepcalciiaaGreatHk
/- How the laws' lists of calls lie in memory. No condition. -/
namespace Go.Proofs.YtnakbepcalciiaaGreat.lk
open Go.RowKit mem tm Go.ChangeShapes Go.WideShapes Go.ChangeAt Go.Deep
set_option linter.unusedVariables false
set_option linter.unusedSimpArgs false
set_option maxRecDepth 100000
/-- a call of a script -/
structure OpR (n : Nat) where
  kind : Int
  a : Tm (n + 1)
  b : Tm (n + 1)
  r : Tm (n + 1)
  num : Int
  node : ByteArray
structure OpAt (w : World) (B n g o : Nat) (x : OpR n) : Prop where
  kind : w.cell? ⟨g, o, none⟩ = some (.int .i64 x.kind)
  a : ∃ u, Cells w g (o + 1) x.a.f u ∧ ItemsAt w B n u x.a.items
  b : ∃ u, Cells w g (o + 10) x.b.f u ∧ ItemsAt w B n u x.b.items
  r : ∃ u, Cells w g (o + 19) x.r.f u ∧ ItemsAt w B n u x.r.items
  num : w.cell? ⟨g, o + 28, none⟩ = some (.int .i64 x.num)
  node : w.cell? ⟨g, o + 29, none⟩ = some (.string x.node)
def OpsAt (w : World) (B n : Nat) (v : Value) (l : List (OpR n)) : Prop :=
  ∃ p c, v = .slice p l.length c ∧ l.length ≤ c ∧ c ≤ maxLen ∧ (l ≠ [] → ∃ g o, p = some ⟨g, o, none⟩ ∧ g < B ∧ ∀ j, (h : j < l.length) → OpAt w B n g (o + j * 30) l[j])
theorem OpAt.below {w w' : World} {B n g o : Nat} {x : OpR n} (h : OpAt w B n g o x) (hb : Below w.heap.size w w') (hB : B ≤ w.heap.size) (hg : g < B) : OpAt w' B n g o x := by
  have hs : w'.heap[g]? = w.heap[g]? := hb.block g (Nat.lt_of_lt_of_le hg hB)
  have hc : ∀ o, w'.cell? ⟨g, o, none⟩ = w.cell? ⟨g, o, none⟩ := fun o => World.cell?_of_block (w := w) (w' := w') (a := ⟨g, o, none⟩) hs
  obtain ⟨h1, ⟨ua, h2, h3⟩, ⟨ub, h4, h5⟩, ⟨ur, h6, h7⟩, h8, h9⟩ := h
  exact ⟨(hc _).trans h1, ⟨ua, h2.same hs, h3.below hb hB⟩, ⟨ub, h4.same hs, h5.below hb hB⟩, ⟨ur, h6.same hs, h7.below hb hB⟩, (hc _).trans h8, (hc _).trans h9⟩
theorem OpsAt.below {w w' : World} {B n : Nat} {v : Value} {l : List (OpR n)} (h : OpsAt w B n v l) (hb : Below w.heap.size w w') (hB : B ≤ w.heap.size) : OpsAt w' B n v l := by
  obtain ⟨p, c, e, h1, h2, h3⟩ := h
  refine ⟨p, c, e, h1, h2, fun hn => ?_⟩
  obtain ⟨g, o, e', hg, hc⟩ := h3 hn
  exact ⟨g, o, e', hg, fun j hj => (hc j hj).below hb hB hg⟩
variable {H : Type} {enc : TypeId × Value → H} {W : World}
theorem cells34 : Tryz.prog.cellsOf 34 = 30 := by kernel_rfl
theorem cells_get {cs cs' : List Value} (h : cs = cs') (k : Nat) : cs[k]? = cs'[k]? := by rw [h]
theorem open_op {m : Nat} {cs : List Value} {x : DataW H × List MemPlace} (h : DataW.trod enc Tryz.prog W 0 (fun _ => true) true (m + 1 + 1) 34 cs = some x) : ∃ (t : OpR m) (ua ub ur : Value),
    cs = [.int .i64 t.kind, .int .i64 t.a.f.kind, .int .i64 t.a.f.int, .int .i64 t.a.f.gen, .string t.a.f.name, .string t.a.f.func, .int .i64 t.a.f.arity, ua, .string t.a.f.bytes, .int .i64 t.a.f.bits,
      .int .i64 t.b.f.kind, .int .i64 t.b.f.int, .int .i64 t.b.f.gen, .string t.b.f.name, .string t.b.f.func, .int .i64 t.b.f.arity, ub, .string t.b.f.bytes, .int .i64 t.b.f.bits,
      .int .i64 t.r.f.kind, .int .i64 t.r.f.int, .int .i64 t.r.f.gen, .string t.r.f.name, .string t.r.f.func, .int .i64 t.r.f.arity, ur, .string t.r.f.bytes, .int .i64 t.r.f.bits, .int .i64 t.num, .string t.node] ∧
    ItemsAt W W.heap.size m ua t.a.items ∧ ItemsAt W W.heap.size m ub t.b.items ∧ ItemsAt W W.heap.size m ur t.r.items := by
  obtain ⟨ys, n', hn', hy, hlen, hyl, hf⟩ := DataW.trod_struct Tryz.underlying34 h
  obtain rfl : m + 1 = n' := by omega
  have hl30 : cs.length = 30 := hlen
  match cs, hl30 with
  | [b0, b1, b2, b3, b4, b5, b6, b7, b8, b9, c0, c1, c2, c3, c4, c5, c6, c7, c8, c9, d0, d1, d2, d3, d4, d5, d6, d7, d8, d9], _ =>
  have hl : ys.length = 6 := hyl
  match ys, hl with
  | [y0, y1, y2, y3, y4, y5], _ =>
  have t0 : DataW.trod enc Tryz.prog W 0 (fun _ => true) true (m + 1) 3 [b0] = some y0 := hf 0 _ rfl
  have t1 : DataW.trod enc Tryz.prog W 0 (fun _ => true) true (m + 1) 30 [b1, b2, b3, b4, b5, b6, b7, b8, b9] = some y1 := hf 1 _ rfl
  have t2 : DataW.trod enc Tryz.prog W 0 (fun _ => true) true (m + 1) 30 [c0, c1, c2, c3, c4, c5, c6, c7, c8] = some y2 := hf 2 _ rfl
  have t3 : DataW.trod enc Tryz.prog W 0 (fun _ => true) true (m + 1) 30 [c9, d0, d1, d2, d3, d4, d5, d6, d7] = some y3 := hf 3 _ rfl
  have t4 : DataW.trod enc Tryz.prog W 0 (fun _ => true) true (m + 1) 2 [d8] = some y4 := hf 4 _ rfl
  have t5 : DataW.trod enc Tryz.prog W 0 (fun _ => true) true (m + 1) 9 [d9] = some y5 := hf 5 _ rfl
  obtain ⟨k0, e0, _⟩ := DataW.trod_int Tryz.underlying3 t0
  obtain ⟨k4, e4, _⟩ := DataW.trod_int Tryz.underlying2 t4
  obtain ⟨s5, e5, _⟩ := DataW.trod_string Tryz.underlying9 t5
  obtain ⟨a, ua, ea, ha⟩ := open_nine (fun v x => open_items m v x) t1
  obtain ⟨b, ub, eb, hb⟩ := open_nine (fun v x => open_items m v x) t2
  obtain ⟨r, ur, er, hr⟩ := open_nine (fun v x => open_items m v x) t3
  refine ⟨⟨k0, a, b, r, k4, s5⟩, ua, ub, ur, ?_, ha, hb, hr⟩
  have e : [b0, b1, b2, b3, b4, b5, b6, b7, b8, b9, c0, c1, c2, c3, c4, c5, c6, c7, c8, c9, d0, d1, d2, d3, d4, d5, d6, d7, d8, d9] = [b0] ++ [b1, b2, b3, b4, b5, b6, b7, b8, b9] ++ [c0, c1, c2, c3, c4, c5, c6, c7, c8] ++ [c9, d0, d1, d2, d3, d4, d5, d6, d7] ++ [d8] ++ [d9] := rfl
  rw [e, e0, ea, eb, er, e4, e5]
  rfl
theorem open_ops {b : Nat} {v : Value} {d : DataW H} {ps : List MemPlace} (hv : Value.okWide Tryz.prog W .any b 22 v) (h : DataW.Trod enc Tryz.prog W 0 (fun _ => true) true 22 v d ps) : ∃ n, ∃ l : List (OpR n), OpsAt W W.heap.size n v l := by
  obtain ⟨a0, len, cap, rfl⟩ := okWide_slice Tryz.underlying22 hv
  obtain ⟨fuel, hf⟩ := h
  have hf' : DataW.trod enc Tryz.prog W 0 (fun _ => true) true fuel 22 [.slice a0 len cap] = some (d, ps) := by simpa [Value.cells] using hf
  rcases DataW.trod_slice Tryz.underlying22 hf' with ⟨hcs, hx⟩ | ⟨a, len', cap', elems, rest, m, hm, hcs, hx, hb, hlc, hcm, hel, hat, _, _⟩
  · simp only [List.cons.injEq, and_true] at hcs
    rw [hcs]
    exact ⟨0, [], none, 0, rfl, Nat.le_refl _, Nat.zero_le _, fun hn => absurd rfl hn⟩
  · simp only [List.cons.injEq, and_true] at hcs
    rw [hcs]
    cases len' with
    | zero => exact ⟨0, [], some a, cap', rfl, Nat.zero_le _, hcm, fun hn => absurd rfl hn⟩
    | succ len' =>
      have hget : ∀ i, i < len' + 1 → ∃ cs x, W.cells? 0 (a.add (i * 30)) 30 = some cs ∧ DataW.trod enc Tryz.prog W 0 (fun _ => true) true m 34 cs = some x := by
        intro i hi
        have h0 := hat i hi
        have e0 : elems[i]? = some (elems[i]'(by omega)) := List.getElem?_eq_getElem (by omega)
        rw [e0] at h0
        rw [cells34] at h0
        cases hc : W.cells? 0 (a.add (i * 30)) 30 with
        | none => rw [hc] at h0; simp at h0
        | some cs => rw [hc] at h0; exact ⟨cs, _, rfl, h0⟩
      match m, hget with
      | 0, hget => obtain ⟨cs, x, _, h0⟩ := hget 0 (by omega); simp [DataW.trod] at h0
      | 1, hget =>
        exfalso
        obtain ⟨cs, x, _, h0⟩ := hget 0 (by omega)
        obtain ⟨ys, n', hn', hy, hlen, hyl, hf⟩ := DataW.trod_struct Tryz.underlying34 h0
        obtain rfl : 0 = n' := by omega
        have hl : ys.length = 6 := hyl
        match ys, hl with
        | [y0, y1, y2, y3, y4, y5], _ =>
          have t0 := hf 0 _ rfl
          simp [DataW.trod] at t0
      | m + 1 + 1, hget =>
        have hex : ∀ i, i < len' + 1 → ∃ t : OpR m, ∃ ua ub ur, (∀ k, k < 30 → W.cell? (a.add (i * 30 + k)) = [Value.int .i64 t.kind, .int .i64 t.a.f.kind, .int .i64 t.a.f.int, .int .i64 t.a.f.gen, .string t.a.f.name, .string t.a.f.func, .int .i64 t.a.f.arity, ua, .string t.a.f.bytes, .int .i64 t.a.f.bits, .int .i64 t.b.f.kind, .int .i64 t.b.f.int, .int .i64 t.b.f.gen, .string t.b.f.name, .string t.b.f.func, .int .i64 t.b.f.arity, ub, .string t.b.f.bytes, .int .i64 t.b.f.bits, .int .i64 t.r.f.kind, .int .i64 t.r.f.int, .int .i64 t.r.f.gen, .string t.r.f.name, .string t.r.f.func, .int .i64 t.r.f.arity, ur, .string t.r.f.bytes, .int .i64 t.r.f.bits, .int .i64 t.num, .string t.node][k]?) ∧ ItemsAt W W.heap.size m ua t.a.items ∧ ItemsAt W W.heap.size m ub t.b.items ∧ ItemsAt W W.heap.size m ur t.r.items := by
          intro i hi
          obtain ⟨cs, x, hc, h0⟩ := hget i hi
          obtain ⟨t, ua, ub, ur, rfl, h1, h2, h3⟩ := open_op h0
          refine ⟨t, ua, ub, ur, fun k hk => ?_, h1, h2, h3⟩
          obtain ⟨_, _, hcell⟩ := World.cells?_some hc
          have := hcell k hk
          rw [Go.Deep.add_add] at this
          exact this
        obtain ⟨l, hl, hP⟩ := list_ofT _ (len' + 1) hex
        obtain ⟨g, o, pth⟩ := a
        refine ⟨m, l, some ⟨g, o, pth⟩, cap', by rw [hl], by omega, hcm, fun hne => ?_⟩
        have hpos : 0 < l.length := by omega
        obtain ⟨u0, _, _, hc0, _⟩ := hP 0 hpos
        have x0 := hc0 0 (by omega)
        have hpth : pth = none := by
          cases pth with
          | none => rfl
          | some q =>
            exfalso
            have x1 : W.cell? ⟨g, o, some q⟩ = some _ := x0
            unfold World.cell? at x1
            split at x1 <;> simp at x1
        subst hpth
        refine ⟨g, o, rfl, ?_, fun j hj => ?_⟩
        · have := World.block_lt_of_cell? W _ x0; rw [Addr.add_lit] at this; exact this
        · obtain ⟨ua, ub, ur, hc, h1, h2, h3⟩ := hP j hj
          have hcc := fun k hk => by have := hc k hk; rwa [Addr.add_lit] at this
          exact ⟨hcc 0 (by omega), ⟨ua, ⟨hcc 1 (by omega), hcc 2 (by omega), hcc 3 (by omega), hcc 4 (by omega), hcc 5 (by omega), hcc 6 (by omega), hcc 7 (by omega), hcc 8 (by omega), hcc 9 (by omega)⟩, h1⟩, ⟨ub, ⟨hcc 10 (by omega), hcc 11 (by omega), hcc 12 (by omega), hcc 13 (by omega), hcc 14 (by omega), hcc 15 (by omega), hcc 16 (by omega), hcc 17 (by omega), hcc 18 (by omega)⟩, h2⟩, ⟨ur, ⟨hcc 19 (by omega), hcc 20 (by omega), hcc 21 (by omega), hcc 22 (by omega), hcc 23 (by omega), hcc 24 (by omega), hcc 25 (by omega), hcc 26 (by omega), hcc 27 (by omega)⟩, h3⟩, hcc 28 (by omega), hcc 29 (by omega)⟩
end Go.Proofs.YtnakbepcalciiaaGreat.lk
/- Calls among processes of one node. Conditions: as said. -/
namespace Go.Proofs.YtnakbepcalciiaaGreat.lk
open Go.RowKit mem rec tm names pm
set_option linter.unusedVariables false
set_option linter.unusedSimpArgs false
set_option maxHeartbeats 4000000
set_option maxRecDepth 100000
theorem pickP (a : Int) (m : Nat) (hm : 0 < m) (hm2 : m ≤ 1000000) (w : World) : Calls Tryz.prog 17 #[.int .i64 a, .int .i64 m] w (fun e w' => ∃ k : Nat, e = .returned (.int .i64 k) ∧ k < m ∧ w = w') := by
  obtain ⟨r, hr⟩ : ∃ r, a.tmod (m : Int) = r := ⟨_, rfl⟩
  have h1 : -(m : Int) < r := by rw [← hr]; exact (by have := Int.tmod_lt_of_pos (-a) (b := (m : Int)) (by omega); rw [Int.neg_tmod] at this; omega)
  have h2 : r < (m : Int) := by rw [← hr]; exact Int.tmod_lt_of_pos _ (by omega)
  have hw : IntKind.i64.wrap r = r := IntWalk.i64_in _ (by omega)
  have hm0 : ((m : Int) == 0) = false := by have : ¬ (m : Int) = 0 := by omega
                                            simpa using this
  by_cases h0 : r < 0
  · obtain ⟨k, hk⟩ : ∃ k : Nat, r + (m : Int) = (k : Int) := ⟨(r + m).toNat, by omega⟩
    have hkm : k < m := by omega
    have q1 : decide (r < 0) = true := decide_eq_true h0
    have h1m : (1 : Int) ≤ (m : Int) := by omega
    go_enter Tryz.func17, Tryz.ntmps17
    go_wp2_with fail
    go_ret
    exact ⟨k, by rfl, hkm, rfl⟩
  · obtain ⟨k, hk⟩ : ∃ k : Nat, r = (k : Int) := ⟨r.toNat, by omega⟩
    have hkm : k < m := by omega
    have q1 : decide (r < 0) = false := decide_eq_false h0
    have h1m : (1 : Int) ≤ (m : Int) := by omega
    subst hk
    have q2 : ¬ ((k : Int) < 0) := by omega
    go_enter Tryz.func17, Tryz.ntmps17
    go_wp2_with fail
    go_ret
    exact ⟨k, by rfl, hkm, rfl⟩
theorem p4 {k : Int} (h1 : 1 ≤ k) (h2 : k ≤ 4) : P4 (pidI nmN k) := ⟨k, rfl, h1, h2⟩
def SOfP (S : LkSt) (k : Int) (w : World) (e : Ending) (w' : World) : Prop := ∃ v L, e = .returned v ∧ L.Perm ((keys S.H).filter (fun p => decide (p.1 = pidI nmN k))) ∧ L.Pairwise (fun x y => cmP x y ≤ 0) ∧ RecOwn idTL 30 9 w' w.heap.size v (actL S L) ∧ (actL S L).length ≤ 1000 ∧ Below w.heap.size w w'
theorem ofP {w : World} {z mh mm N : Nat} {S : LkSt} (h : LkAt w z mh mm S) (hS : Sym S N) (hN : N ≤ 1000) {k : Int} (h1 : 1 ≤ k) (h2 : k ≤ 4) : Calls Tryz.prog 22 #[.pointer (some ⟨z, 0, none⟩), idA (pidI nmN k)] w (SOfP S k w) := by
  have hl := hS.len
  have hq := ofI h (Nat.le_trans hl (by omega)) (pidI nmN k)
  have hok : (okI 6 (pidI nmN k) && locB S.node S.gen (pidI nmN k)) = true := by rw [hS.node, hS.gen, (p4 h1 h2).ok, (p4 h1 h2).loc]; rfl
  rw [hok] at hq
  refine hq.mono ?_
  rintro e w' ⟨v, L, rfl, hp, hs, hr, hb⟩
  refine ⟨v, L, rfl, hp, hs, hr, ?_, hb⟩
  have a1 := actL_le S L
  have a2 := hp.length_eq
  rw [if_pos rfl] at a2
  have a3 := List.length_filter_le (fun p : Pr => decide (p.1 = pidI nmN k)) (keys S.H)
  have a4 : (keys S.H).length = S.H.length := by simp [keys]
  omega
theorem holdP {w : World} {B : Nat} {v : Value} {S : LkSt} {k : Int} {L : List Pr} (hB : B ≤ w.heap.size) (hr : RecAt idTL 9 w B v (actL S L)) (hl : (actL S L).length ≤ 1000) (hp : L.Perm ((keys S.H).filter (fun p => decide (p.1 = pidI nmN k)))) (m : Int) : Calls Tryz.prog 23 #[v, idA (pidI nmN m)] w (fun e w' => e = .returned (.bool (actB S (pidI nmN k, pidI nmN m))) ∧ Below w.heap.size w w') := by
  rw [← memI_of hp]
  exact holds23 hB hr (Nat.le_trans hl (by decide)) _
theorem rowT {w : World} {b : Nat} {v : Value} {l : List Id} (h : RecOwn idTL 30 9 w b v l) : RecAt idTL 9 w w.heap.size v l := h.row (fun a _ => ⟨idTL_len a, idTL_one a⟩)
/-- a step of the script -/
def SymQ (z mh mm N : Nat) (w w' : World) : Prop := ∃ S, LkAt w' z mh mm S ∧ Sym S N ∧ TouchB (LkS z mh mm) w w'
theorem joinP {w : World} {z mh mm N : Nat} {S : LkSt} (h : LkAt w z mh mm S) (hS : Sym S N) {x y : Id} (hx : P4 x) (hy : P4 y) : Calls Tryz.prog 20 #[.pointer (some ⟨z, 0, none⟩), idA x, idA y] w (fun e w' => (∃ b, e = .returned (.tuple #[.bool b, .int .i64 (if x = y then 2 else 0)])) ∧ SymQ z mh mm (N + 2) w w') := by
  have hj := joinI h x y
  rw [pair_ok hS hx hy] at hj
  refine hj.mono ?_
  rintro e w' ⟨rfl, hS', ht⟩
  by_cases hne : x = y
  · subst hne
    simp only [ne_eq, not_true_eq_false, decide_false, Bool.false_eq_true, if_false] at hS'
    exact ⟨⟨false, by simp⟩, S, hS', hS.mono (by omega), ht⟩
  · simp only [ne_eq, hne, not_false_eq_true, decide_true, if_true] at hS'
    exact ⟨⟨_, by simp [hne]; rfl⟩, _, hS', hS.join hx hy hne, ht⟩
theorem partP {w : World} {z mh mm N : Nat} {S : LkSt} (h : LkAt w z mh mm S) (hS : Sym S N) {x y : Id} (hx : P4 x) (hy : P4 y) : Calls Tryz.prog 18 #[.pointer (some ⟨z, 0, none⟩), idA x, idA y] w (fun e w' => (∃ k b c, e = .returned (.tuple #[.int .i64 k, .bool b, .int .i64 c])) ∧ SymQ z mh mm (N + 2) w w') := by
  have hj := partI h x y (by rw [hS.last]; decide) (by rw [hS.last]; decide)
  rw [pair_ok hS hx hy] at hj
  refine hj.mono ?_
  rintro e w' ⟨rfl, hS', ht⟩
  refine ⟨⟨_, _, _, rfl⟩, _, hS', ?_, ht⟩
  split
  · exact (hS.part hy).mono (by omega)
  · exact hS.mono (by omega)
theorem endP {w : World} {z mh mm N : Nat} {S : LkSt} (h : LkAt w z mh mm S) (hS : Sym S N) (hN : N ≤ 1000) (x : Id) : Calls Tryz.prog 19 #[.pointer (some ⟨z, 0, none⟩), idA x] w (fun e w' => (∃ p n c, e = .returned (.slice p n c)) ∧ SymQ z mh mm (N + 2) w w') := by
  have hj := end19 h (Nat.le_trans hS.len (by omega)) 0 nilV (tmI x) (Nat.zero_le _) (nilI w x) (nodesI x)
  refine hj.mono ?_
  rintro e w' ⟨v, L, L', rfl, _, _, _, _, hr, hS', ht⟩
  obtain ⟨p, c, rfl, _, _⟩ := hr.shape
  exact ⟨⟨p, _, c, rfl⟩, _, hS', (hS.ends L').mono (by omega), ht⟩
end Go.Proofs.YtnakbepcalciiaaGreat.lk
