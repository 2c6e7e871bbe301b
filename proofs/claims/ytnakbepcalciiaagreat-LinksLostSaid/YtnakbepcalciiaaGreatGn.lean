/- Several texts in one, one behind the other: LkB, LkC, LkD, LkS, Pm, LkM. No condition beyond theirs. -/
import Derived.Test.YtnakbepcalciiaaGreatGc
import Derived.Test.YtnakbepcalciiaaGreatGm
import Derived.Deep.RegionHeld3
import Derived.BigRegion
import Derived.Says
import Derived.Laws.Cover3
import Derived.Laws.ResultCell
import Derived.Shelf.SlSortCmp.WholeK
import Derived.Test.YtnakbepcalciiaaGreatProg
/- Identities as terms: which are valid, and their order; orders of pairs. Plain Lean. Conditions: as said. -/
namespace Go.Proofs.YtnakbepcalciiaaGreat.lk
open Go.RowKit mem rec tm names
set_option linter.unusedVariables false
set_option linter.unusedSimpArgs false
set_option maxHeartbeats 1000000
def idT (x : Id) : TF := ⟨x.1, x.2.2.2, x.2.2.1, x.2.1, ⟨#[]⟩, 0, ⟨#[]⟩, 0⟩
def idOf (f : TF) : Id := (f.kind, f.name, f.gen, f.int)
def tmI (x : Id) : Tm 1 := Tm.mk (idT x) []
theorem idOf_idT (x : Id) : idOf (idT x) = x := rfl
theorem tmI_f (x : Id) : (tmI x).f = idT x := rfl
theorem tmI_items (x : Id) : (tmI x).items = [] := rfl
/-- of kind k and valid -/
def okI (k : Int) (x : Id) : Bool := decide (x.1 = k) && (inB x.2.2.2 1 2147483647 && (inB x.2.2.1 1 2147483647 && vName x.2.1))
theorem okI_kind {k : Int} {x : Id} (h : okI k x = true) : x.1 = k := by
  unfold okI at h
  simp only [Bool.and_eq_true, decide_eq_true_eq] at h
  exact h.1
theorem whole_bare (f : TF) {n : Nat} (hk : f.kind = 3 ∨ f.kind = 6) : wholeT (Tm.mk f ([] : List (Tm n))) = 1 := by
  unfold wholeT sizeF
  rw [show (Tm.mk f ([] : List (Tm n))).f = f from rfl, show (Tm.mk f ([] : List (Tm n))).items = [] from rfl, if_neg (by omega), if_neg (by omega)]
  cases n <;> rfl
/-- a process or a ref is valid just where it is what its identity says -/
theorem valid_id {n : Nat} {t : Tm (n + 1)} {k : Int} (hk : k = 3 ∨ k = 6) (ht : t.f.kind = k) : validT t = true ↔ (t.f = idT (idOf t.f) ∧ t.items = [] ∧ okI k (idOf t.f) = true) := by
  obtain ⟨f, l⟩ := t
  have e1 : Tm.f (n := n) (f, l) = f := rfl
  have e2 : Tm.items (n := n) (f, l) = l := rfl
  rw [e1] at ht
  rw [e1, e2]
  constructor
  · intro h
    have hf := valid_formed h
    obtain ⟨h1, h2, h3, h4⟩ := ft_ok hf
    rw [e1, e2] at h2 h4
    rw [e1] at h3
    rw [if_neg (by omega)] at h4
    have hl : l = [] := List.eq_nil_of_length_eq_zero h4
    refine ⟨?_, hl, ?_⟩
    · obtain ⟨a1, a2, a3, a4, a5, a6, a7, a8⟩ := f
      dsimp only at ht
      unfold bareF zeroF at h3
      dsimp only at h3
      rw [if_neg (by omega), if_neg (by omega), if_pos (by omega)] at h3
      simp only [TF.mk.injEq] at h3
      obtain ⟨_, _, _, _, b5, b6, b7, b8⟩ := h3
      subst b5 b6 b7 b8
      rfl
    · unfold okF at h2
      rw [if_neg (by omega), if_neg (by omega), if_pos (by omega)] at h2
      unfold okI idOf
      rw [h2, decide_eq_true ht]
      rfl
  · rintro ⟨h1, rfl, h3⟩
    have hw : wholeT (n := n) (f, []) = 1 := whole_bare f (by omega)
    unfold validT
    rw [hw]
    have : formedT (n := n) (f, []) = true := by
      unfold formedT okT
      rw [e1]
      unfold okI at h3
      simp only [Bool.and_eq_true, decide_eq_true_eq] at h3
      obtain ⟨g1, g2, g3, g4⟩ := h3
      have hb : bareOK f ([] : List (Tm n)).length = true := by
        unfold bareOK
        rw [show (({ bareF f with kind := 0 } : TF)) = zeroF from ?_, eqB_t rfl, if_neg (by omega)]
        · rfl
        · rw [h1]
          unfold bareF zeroF idT
          dsimp only
          rw [if_neg (by show ¬ f.kind = 1; omega), if_neg (by show ¬ f.kind = 2; omega), if_pos (by show f.kind = 3 ∨ f.kind = 6; omega)]
      have ho : okF f ([] : List (Tm n)).length (lastK n ([] : List (Tm n))) = true := by
        unfold okF
        rw [if_neg (by omega), if_neg (by omega), if_pos (by omega)]
        simp only [Bool.and_eq_true]
        exact ⟨g2, g3, g4⟩
      have e3 : Tm.items (n := n) (f, []) = [] := rfl
      rw [e3, hb, ho, inB_t (by omega)]
      cases n <;> rfl
    rw [this]
    rfl
theorem valid_tmI {k : Int} {x : Id} (hk : k = 3 ∨ k = 6) (h : okI k x = true) : validT (tmI x) = true :=
  (valid_id (t := tmI x) hk (okI_kind h)).2 ⟨rfl, rfl, h⟩
/-- the order of identities -/
noncomputable def cmI (x y : Id) : Int := cmpV (tmI x) (tmI y)
theorem tpId : TP (fun _ => True) cmI := (tpV (n := 0)).comap tmI
theorem cmI_eq {k k' : Int} {x y : Id} (hk : k = 3 ∨ k = 6) (hk' : k' = 3 ∨ k' = 6) (hx : okI k x = true) (hy : okI k' y = true) (h : cmI x y = 0) : x = y := by
  have v1 := valid_tmI hk hx
  have v2 := valid_tmI hk' hy
  unfold cmI cmpV at h
  rw [if_pos v1, if_pos v2] at h
  have := (ordT 1).eq _ _ (valid_formed v1) (valid_formed v2) h
  have := congrArg (fun t : Tm 1 => idOf t.f) this
  exact this
noncomputable def cmP : Pr → Pr → Int := thenC (fun p q => cmI p.1 q.1) (fun p q => cmI p.2 q.2)
theorem tpPr : TP (fun _ => True) cmP := (tpId.comap (fun p : Pr => p.1)).then (tpId.comap (fun p : Pr => p.2))
def okP (p : Pr) : Prop := okI 6 p.1 = true ∧ okI 6 p.2 = true
theorem cmP_eq {p q : Pr} (hp : okP p) (hq : okP q) (h : cmP p q = 0) : p = q := by
  unfold cmP thenC at h
  split at h
  · rename_i h1
    exact Prod.ext (cmI_eq (.inr rfl) (.inr rfl) hp.1 hq.1 h1) (cmI_eq (.inr rfl) (.inr rfl) hp.2 hq.2 h)
  · rename_i h1
    exact absurd h h1
/-- sorted lists of the same members are one -/
theorem sorted_one {α β : Type} {c : β → β → Int} (h : TP (fun _ => True) c) (f : α → β) {l m : List α} (hl : l.Pairwise (fun x y => c (f x) (f y) < 0)) (hm : m.Pairwise (fun x y => c (f x) (f y) < 0)) (hp : l.Perm m) : l = m := by
  refine List.Perm.eq_of_pairwise (le := fun x y => c (f x) (f y) < 0) (fun x y _ _ h1 h2 => ?_) hl hm hp
  have := h.anti (f x) (f y)
  omega
end Go.Proofs.YtnakbepcalciiaaGreat.lk
/- The small functions of links: none, local, term, of, byTerm. Conditions: as said. -/
namespace Go.Proofs.YtnakbepcalciiaaGreat.lk
open Go.RowKit mem rec tm names
set_option linter.unusedVariables false
set_option linter.unusedSimpArgs false
set_option maxHeartbeats 4000000
set_option maxRecDepth 100000
theorem five_cells {w : World} {z : Nat} {a b c d e : Value} {t : TypeId} (h : w.heap[z]? = some (.cells #[a, b, c, d, e] t)) : w.cell? ⟨z, 0, none⟩ = some a ∧ w.cell? ⟨z, 1, none⟩ = some b ∧ w.cell? ⟨z, 2, none⟩ = some c ∧ w.cell? ⟨z, 3, none⟩ = some d ∧ w.cell? ⟨z, 4, none⟩ = some e ∧ ∀ o, w.frozen? ⟨z, o, none⟩ = false := by
  refine ⟨?_, ?_, ?_, ?_, ?_, fun o => ?_⟩
  · simp only [World.cell?, h]; rfl
  · simp only [World.cell?, h]; rfl
  · simp only [World.cell?, h]; rfl
  · simp only [World.cell?, h]; rfl
  · simp only [World.cell?, h]; rfl
  · simp only [World.frozen?, h]; simp
theorem belowA {B : Nat} {a b : World} (h : Below B a b) (o : Obj) (hB : B ≤ b.heap.size := by omega) : Below B a (b.alloc o) := h.alloc hB o
theorem belowN {B : Nat} {a b : World} (h : Below B a b) (n : Nat) : Below B a (b.drewN n) := ⟨h.os, h.tape, h.output, h.size, h.block⟩
theorem belowD {B : Nat} {a b : World} (h : Below B a b) : Below B a b.drew := ⟨h.os, h.tape, h.output, h.size, h.block⟩
theorem alloc_new (w : World) (o : Obj) : (w.alloc o).heap[w.heap.size]? = some o := (MapKept.heap_alloc w o).1
theorem four_cells {w : World} {z : Nat} {a b c d : Value} {t : TypeId} (h : w.heap[z]? = some (.cells #[a, b, c, d] t)) : w.cell? ⟨z, 0, none⟩ = some a ∧ w.cell? ⟨z, 1, none⟩ = some b ∧ w.cell? ⟨z, 2, none⟩ = some c ∧ w.cell? ⟨z, 3, none⟩ = some d ∧ ∀ o, w.frozen? ⟨z, o, none⟩ = false := by
  refine ⟨?_, ?_, ?_, ?_, fun o => ?_⟩
  · simp only [World.cell?, h]; rfl
  · simp only [World.cell?, h]; rfl
  · simp only [World.cell?, h]; rfl
  · simp only [World.cell?, h]; rfl
  · simp only [World.frozen?, h]; simp
theorem blk_below {B : Nat} {w w' : World} {z : Nat} {o : Obj} (h : w.heap[z]? = some o) (hb : Below B w w') (hz : z < B) : w'.heap[z]? = some o := (hb.block z hz).trans h
/-- a links object -/
def linkC (node : ByteArray) (gen last : Int) (mh mm : Nat) : Obj := .cells #[.string node, .int .i64 gen, .int .i64 last, .map (some mh), .map (some mm)] 85
def locB (node : ByteArray) (gen : Int) (x : Id) : Bool := decide (x.2.1 = node) && decide (x.2.2.1 = gen)
theorem results_cell1 {fn : Func} {p : Tmp} {ty : TypeId} (h : fn.results = #[.cell p ty]) (tmps : Array Value) (P : Program) (w : World) :
    (results fn tmps).run P w = ((asAddr (tmps.getD p undef)).run P w).andThen fun a w₁ => (loadVar ty a).run P w₁ := by
  simp only [results, h]
  simp [Sem.run_bind, Result.andThen]
theorem eql82 (m : Option Nat) (w : World) : (binOp .eql 82 (.map m) (.map none)).run Tryz.prog w = .ok (.bool m.isNone) w := by
  simp only [binOp]
  simp [run_equal_map_nil w 82 149 2 m Tryz.underlying82, Result.andThen]
theorem none85_nil (w : World) : Calls Tryz.prog 85 #[.pointer none] w fun e w' => e = .returned (.bool true) ∧ w = w' := by
  go_enter Tryz.func85, Tryz.ntmps85
  go_wp2_with fail
  go_ret
  exact ⟨rfl, rfl⟩
theorem none85 {w : World} {z mh mm : Nat} {node : ByteArray} {gen last : Int} (h : w.heap[z]? = some (linkC node gen last mh mm)) : Calls Tryz.prog 85 #[.pointer (some ⟨z, 0, none⟩)] w fun e w' => e = .returned (.bool false) ∧ w = w' := by
  obtain ⟨c0, c1, c2, c3, c4, cf⟩ := five_cells h
  clear h
  have hq := fun w => eql82 (some mh) w
  go_enter Tryz.func85, Tryz.ntmps85
  go_wp2_with fail
  go_ret
  exact ⟨rfl, rfl⟩
theorem local80 {w : World} {z mh mm : Nat} {node : ByteArray} {gen last : Int} (h : w.heap[z]? = some (linkC node gen last mh mm)) (x : Id) : Calls Tryz.prog 80 #[.pointer (some ⟨z, 0, none⟩), idV x] w fun e w' => e = .returned (.bool (locB node gen x)) ∧ Below w.heap.size w w' := by
  obtain ⟨k, nm, g, n⟩ := x
  unfold idV locB
  dsimp only
  have hz := (Array.getElem?_eq_some_iff.1 h).1
  have hb : Below w.heap.size w (w.alloc (.cells #[.int .i64 k, .string nm, .int .i64 g, .int .i64 n] 147)) := belowA (Below.refl _ _) _
  obtain ⟨c0, c1, c2, c3, c4, cf⟩ := five_cells ((hb.block z hz).trans h)
  have HB := Lib.hid hb
  clear h hz hb
  have q1 := str_dec nm node
  have q2 : (g == gen) = decide (g = gen) := by by_cases h : g = gen <;> simp [h]
  by_cases h1 : nm = node
  · subst h1
    rw [decide_eq_true rfl] at q1
    rw [decide_eq_true rfl]
    go_enter Tryz.func80, Tryz.ntmps80
    go_wp2_with fail
    go_quiet (fail)
    go_wp2_with fail
    go_ret
    exact ⟨by simp [q2], belowN HB.out _⟩
  · rw [decide_eq_false h1] at q1
    rw [decide_eq_false h1]
    go_enter Tryz.func80, Tryz.ntmps80
    go_wp2_with fail
    go_quiet (fail)
    go_wp2_with fail
    go_ret
    exact ⟨rfl, belowN HB.out _⟩
theorem term83 (x : Id) (w : World) : Calls Tryz.prog 83 #[idV x] w fun e w' => e = .returned (aggV (idT x) nilV) ∧ Below w.heap.size w w' := by
  obtain ⟨k, nm, g, n⟩ := x
  unfold idV aggV idT nilV
  dsimp only
  have HB := Lib.hid (fun o o' => belowA (belowA (Below.refl w.heap.size w) o) o' (by simp))
  go_enter Tryz.func83, Tryz.ntmps83
  go_wp2_with fail
  (try simp only [Exit.inBlock, Exit.then])
  refine bodyPost_ret (v := .agg #[.int .i64 k, .int .i64 n, .int .i64 g, .string nm, .string ⟨#[]⟩, .int .i64 0, .slice none 0 0, .string ⟨#[]⟩, .int .i64 0]) ?_ rfl ⟨rfl, ?_⟩
  · rw [results_cell1 rfl]
    go_simp
  · exact HB.out _ _
theorem of86 {n : Nat} (w : World) (B : Nat) (v : Value) (t : Tm (n + 1)) (k : Int) (hB : B ≤ w.heap.size) (hI : ItemsAt w B n v t.items) (hss : 300 * (nodesT t : Int) ≤ 1000000000000) :
    Calls Tryz.prog 86 #[aggV t.f v, .int .i64 k] w fun e w' => e = .returned (.tuple #[idV (idOf t.f), .bool (decide (t.f.kind = k) && validT t)]) ∧ Below w.heap.size w w' := by
  have HV := Lib.hid (fun W (hb : Below w.heap.size w W) => ValidTm (ofAll n) W B v t (Nat.le_trans hB hb.size) (hI.below hb hB) hss)
  obtain ⟨p, c, rfl, _, hc⟩ := hI.shape
  generalize hr : validT t = r at *
  generalize t.items.length = m at *
  generalize t.f = f at *
  clear hI hss hr
  obtain ⟨fk, fi, fg, fn, ff, fa, fb, fs⟩ := f
  unfold aggV idV idOf
  dsimp only
  have hb1 : Below w.heap.size w ((w.alloc (cells9 ⟨fk, fi, fg, fn, ff, fa, fb, fs⟩ (.slice p m c))).alloc (.cells #[.int .i64 0, .string ⟨#[]⟩, .int .i64 0, .int .i64 0] 147)) := belowA (belowA (Below.refl _ _) _) _ (by rw [World.size_alloc]; omega)
  have hN : Nine ((w.alloc (cells9 ⟨fk, fi, fg, fn, ff, fa, fb, fs⟩ (.slice p m c))).alloc (.cells #[.int .i64 0, .string ⟨#[]⟩, .int .i64 0, .int .i64 0] 147)) w.heap.size ⟨fk, fi, fg, fn, ff, fa, fb, fs⟩ (.slice p m c) := nine_of ((Below.heap_alloc _ _ _ (by rw [World.size_alloc]; omega)).trans (alloc_new _ _))
  have hz : ((w.alloc (cells9 ⟨fk, fi, fg, fn, ff, fa, fb, fs⟩ (.slice p m c))).alloc (.cells #[.int .i64 0, .string ⟨#[]⟩, .int .i64 0, .int .i64 0] 147)).heap[w.heap.size + 1]? = some (.cells #[.int .i64 0, .string ⟨#[]⟩, .int .i64 0, .int .i64 0] 147) := by
    have := alloc_new (w.alloc (cells9 ⟨fk, fi, fg, fn, ff, fa, fb, fs⟩ (.slice p m c))) (.cells #[.int .i64 0, .string ⟨#[]⟩, .int .i64 0, .int .i64 0] 147)
    rwa [World.size_alloc] at this
  unfold cells9 at hb1 hN hz
  dsimp only at hb1 hN hz
  have HB1 := Lib.hid hb1
  have HN := Lib.hid hN
  have HZ := Lib.hid hz
  clear hb1 hN hz
  by_cases hk : fk = k
  · have q : (fk == k) = true := by simp [hk]
    rw [decide_eq_true hk]
    have HK := Lib.hid hk
    clear hk
    go_enter Tryz.func86, Tryz.ntmps86
    go_wp2_with fail
    generalize ((w.alloc (.cells #[.int .i64 fk, .int .i64 fi, .int .i64 fg, .string fn, .string ff, .int .i64 fa, .slice p m c, .string fb, .int .i64 fs] 30)).alloc (.cells #[.int .i64 0, .string ⟨#[]⟩, .int .i64 0, .int .i64 0] 147)) = W1 at *
    obtain ⟨x0, x1, x2, x3, x4, x5, x6, x7, x8, xf⟩ := HN.out
    dsimp only at x0 x1 x2 x3 x4 x5 x6 x7 x8
    obtain ⟨z0, z1, z2, z3, zf⟩ := four_cells HZ.out
    have hbd := belowD HB1.out
    have hs2 := (Array.getElem?_eq_some_iff.1 HZ.out).1
    have HS1 : Hid (w.heap.size < W1.drew.heap.size) := Lib.hid (Nat.lt_of_succ_lt hs2)
    have HS2 : Hid (w.heap.size + 1 < W1.drew.heap.size) := Lib.hid hs2
    have HN' : Hid (Nine W1.drew w.heap.size ⟨fk, fi, fg, fn, ff, fa, fb, fs⟩ (.slice p m c)) := Lib.hid (nine_drew HN.out)
    have HZ' : Hid (W1.drew.heap[w.heap.size + 1]? = some (.cells #[.int .i64 0, .string ⟨#[]⟩, .int .i64 0, .int .i64 0] 147)) := Lib.hid HZ.out
    clear hs2
    go_region_held3 (fun w' => (w'.cell? ⟨w.heap.size, 0, none⟩ = some (.int .i64 fk) ∧ w'.cell? ⟨w.heap.size, 1, none⟩ = some (.int .i64 fi) ∧ w'.cell? ⟨w.heap.size, 2, none⟩ = some (.int .i64 fg) ∧ w'.cell? ⟨w.heap.size, 3, none⟩ = some (.string fn) ∧ w'.cell? ⟨w.heap.size, 4, none⟩ = some (.string ff) ∧ w'.cell? ⟨w.heap.size, 5, none⟩ = some (.int .i64 fa) ∧ w'.cell? ⟨w.heap.size, 6, none⟩ = some (.slice p m c) ∧ w'.cell? ⟨w.heap.size, 7, none⟩ = some (.string fb) ∧ w'.cell? ⟨w.heap.size, 8, none⟩ = some (.int .i64 fs))) (go_keep)
      (first
        | (go_at_call 121; refine (HV.out _ hbd).mono ?_; rintro e w1 ⟨rfl, hb⟩; have hbe := hbd.trans (hb.mono hbd.size); have HM := Lib.hid (HN'.out.below hb HS1.out); obtain ⟨y0, y1, y2, y3, y4, y5, y6, y7, y8, yf⟩ := HM.out; dsimp only at y0 y1 y2 y3 y4 y5 y6 y7 y8; obtain ⟨t0, t1, t2, t3, tf⟩ := four_cells (blk_below HZ'.out hb HS2.out)))
    all_goals
      clear HN HZ HN' HZ' HV x0 x1 x2 x3 x4 x5 x6 x7 x8 xf z0 z1 z2 z3 zf
      go_wp2_with fail
      (try simp only [Exit.inBlock, Exit.then])
      refine bodyPost_ret (v := .tuple #[.agg #[.int .i64 fk, .string fn, .int .i64 fg, .int .i64 fi], .bool r]) ?_ rfl ⟨rfl, ?_⟩
      · rw [results_cell_tmp rfl]
        go_simp
      · exact (((hbe.setCell (Nat.le_succ _) _).setCell (Nat.le_succ _) _).setCell (Nat.le_succ _) _).setCell (Nat.le_succ _) _
  · have q : (fk == k) = false := by simp [hk]
    rw [decide_eq_false hk]
    have HK := Lib.hid hk
    clear hk
    go_enter Tryz.func86, Tryz.ntmps86
    go_wp2_with fail
    generalize ((w.alloc (.cells #[.int .i64 fk, .int .i64 fi, .int .i64 fg, .string fn, .string ff, .int .i64 fa, .slice p m c, .string fb, .int .i64 fs] 30)).alloc (.cells #[.int .i64 0, .string ⟨#[]⟩, .int .i64 0, .int .i64 0] 147)) = W1 at *
    obtain ⟨x0, x1, x2, x3, x4, x5, x6, x7, x8, xf⟩ := HN.out
    dsimp only at x0 x1 x2 x3 x4 x5 x6 x7 x8
    obtain ⟨z0, z1, z2, z3, zf⟩ := four_cells HZ.out
    go_big_region
    go_wp2_with fail
    (try simp only [Exit.inBlock, Exit.then])
    refine bodyPost_ret (v := .tuple #[.agg #[.int .i64 fk, .string fn, .int .i64 fg, .int .i64 fi], .bool false]) ?_ rfl ⟨rfl, ?_⟩
    · rw [results_cell_tmp rfl]
      go_simp
    · exact belowD ((((HB1.out.setCell (Nat.le_succ _) _).setCell (Nat.le_succ _) _).setCell (Nat.le_succ _) _).setCell (Nat.le_succ _) _)
end Go.Proofs.YtnakbepcalciiaaGreat.lk
/- byTerm; pair: may a half link be. Conditions: as said. -/
namespace Go.Proofs.YtnakbepcalciiaaGreat.lk
open Go.RowKit mem rec tm names
set_option linter.unusedVariables false
set_option linter.unusedSimpArgs false
set_option maxHeartbeats 4000000
set_option maxRecDepth 100000
theorem below_call {B : Nat} {a b c : World} (h : Below B a b) (hb : Below b.heap.size b c) (hB : B ≤ b.heap.size) : Below B a c := h.trans (hb.mono hB)
theorem nodes_tmI (x : Id) : nodesT (tmI x) = 1 := rfl
theorem byTerm150 (x y : Id) (w : World) : Calls Tryz.prog 150 #[idV x, idV y] w (IPostC (cmI x y) w) := by
  have HC := Lib.hid (fun W => Compare W 0 nilV nilV (tmI x) (tmI y) (Nat.zero_le _) (ItemsAt.nil_any (Nat.zero_le _)) (ItemsAt.nil_any (Nat.zero_le _)) (by rw [nodes_tmI]; decide) (by rw [nodes_tmI]; decide))
  have HX := Lib.hid (fun W => term83 x W)
  have HY := Lib.hid (fun W => term83 y W)
  simp only [tmI_f] at HC
  have hb1 : Below w.heap.size w ((w.alloc (.cells #[.int .i64 x.1, .string x.2.1, .int .i64 x.2.2.1, .int .i64 x.2.2.2] 147)).alloc (.cells #[.int .i64 y.1, .string y.2.1, .int .i64 y.2.2.1, .int .i64 y.2.2.2] 147)) := belowA (belowA (Below.refl _ _) _) _ (by rw [World.size_alloc]; omega)
  have hx := alloc_new w (.cells #[.int .i64 x.1, .string x.2.1, .int .i64 x.2.2.1, .int .i64 x.2.2.2] 147)
  have hy := alloc_new (w.alloc (.cells #[.int .i64 x.1, .string x.2.1, .int .i64 x.2.2.1, .int .i64 x.2.2.2] 147)) (.cells #[.int .i64 y.1, .string y.2.1, .int .i64 y.2.2.1, .int .i64 y.2.2.2] 147)
  rw [World.size_alloc] at hy
  unfold cmI
  unfold IPostC idV aggV idT nilV at *
  dsimp only at *
  generalize cmpV (tmI x) (tmI y) = r at *
  generalize x.1 = x1 at *
  generalize x.2.1 = x2 at *
  generalize x.2.2.1 = x3 at *
  generalize x.2.2.2 = x4 at *
  generalize y.1 = y1 at *
  generalize y.2.1 = y2 at *
  generalize y.2.2.1 = y3 at *
  generalize y.2.2.2 = y4 at *
  have hx' := (Below.heap_alloc (w.alloc (.cells #[.int .i64 x1, .string x2, .int .i64 x3, .int .i64 x4] 147)) (.cells #[.int .i64 y1, .string y2, .int .i64 y3, .int .i64 y4] 147) w.heap.size (by rw [World.size_alloc]; omega)).trans hx
  have hsz : ((w.alloc (.cells #[.int .i64 x1, .string x2, .int .i64 x3, .int .i64 x4] 147)).alloc (.cells #[.int .i64 y1, .string y2, .int .i64 y3, .int .i64 y4] 147)).heap.size = w.heap.size + 2 := by rw [World.size_alloc, World.size_alloc]
  clear hx
  go_enter Tryz.func150, Tryz.ntmps150
  go_wp2_with fail
  generalize ((w.alloc (.cells #[.int .i64 x1, .string x2, .int .i64 x3, .int .i64 x4] 147)).alloc (.cells #[.int .i64 y1, .string y2, .int .i64 y3, .int .i64 y4] 147)) = W1 at *
  have HAx := Lib.hid (fun V (hb : Below W1.drew.heap.size W1.drew V) => (hb.block w.heap.size (show w.heap.size < W1.heap.size by omega)).trans hx')
  have HAy := Lib.hid (fun V (hb : Below W1.drew.heap.size W1.drew V) => (hb.block (w.heap.size + 1) (show w.heap.size + 1 < W1.heap.size by omega)).trans hy)
  have HX' := Lib.hid (fun V (hb : Below W1.drew.heap.size W1.drew V) => HX.out V)
  have HY' := Lib.hid (fun V (hb : Below W1.drew.heap.size W1.drew V) => HY.out V)
  have HC' := Lib.hid (fun V (hb : Below W1.drew.heap.size W1.drew V) => HC.out V)
  have hbd : Below W1.drew.heap.size W1.drew W1.drew := Below.refl _ _
  have HB1 : Hid (Below w.heap.size w W1.drew) := Lib.hid (belowD hb1)
  obtain ⟨a0, a1, a2, a3, af⟩ := four_cells hx'
  obtain ⟨b0, b1, b2, b3, bf⟩ := four_cells hy
  clear hx' hy hsz hb1 HX HY HC
  go_region_held3 (fun w' => w'.cell? ⟨w.heap.size, 0, none⟩ = some (.int .i64 x1) ∧ w'.cell? ⟨w.heap.size, 1, none⟩ = some (.string x2) ∧ w'.cell? ⟨w.heap.size, 2, none⟩ = some (.int .i64 x3) ∧ w'.cell? ⟨w.heap.size, 3, none⟩ = some (.int .i64 x4) ∧ w'.cell? ⟨w.heap.size + 1, 0, none⟩ = some (.int .i64 y1) ∧ w'.cell? ⟨w.heap.size + 1, 1, none⟩ = some (.string y2) ∧ w'.cell? ⟨w.heap.size + 1, 2, none⟩ = some (.int .i64 y3) ∧ w'.cell? ⟨w.heap.size + 1, 3, none⟩ = some (.int .i64 y4)) (go_keep)
    (first
      | (go_at_call 83; (with_reducible refine (HX'.out _ hbd).mono ?_); rintro e w1 ⟨rfl, hb⟩; have hbe := hbd.trans (hb.mono hbd.size); obtain ⟨a0, a1, a2, a3, af⟩ := four_cells (HAx.out _ hbe); obtain ⟨b0, b1, b2, b3, bf⟩ := four_cells (HAy.out _ hbe))
      | (go_at_call 83; (with_reducible refine (HY'.out _ hbd).mono ?_); rintro e w1 ⟨rfl, hb⟩; have hbe := hbd.trans (hb.mono hbd.size); obtain ⟨a0, a1, a2, a3, af⟩ := four_cells (HAx.out _ hbe); obtain ⟨b0, b1, b2, b3, bf⟩ := four_cells (HAy.out _ hbe))
      | (go_at_call 83; (with_reducible refine (HX'.out _ hbe).mono ?_); rintro e w2 ⟨rfl, hb2⟩; have hbf := hbe.trans (hb2.mono hbe.size); obtain ⟨a0, a1, a2, a3, af⟩ := four_cells (HAx.out _ hbf); obtain ⟨b0, b1, b2, b3, bf⟩ := four_cells (HAy.out _ hbf))
      | (go_at_call 83; (with_reducible refine (HY'.out _ hbe).mono ?_); rintro e w2 ⟨rfl, hb2⟩; have hbf := hbe.trans (hb2.mono hbe.size); obtain ⟨a0, a1, a2, a3, af⟩ := four_cells (HAx.out _ hbf); obtain ⟨b0, b1, b2, b3, bf⟩ := four_cells (HAy.out _ hbf))
      | (go_at_call 179; (with_reducible refine (HC'.out _ hbf).mono ?_); rintro e w3 ⟨rfl, hb3⟩; have hbg := hbf.trans (hb3.mono hbf.size); obtain ⟨a0, a1, a2, a3, af⟩ := four_cells (HAx.out _ hbg); obtain ⟨b0, b1, b2, b3, bf⟩ := four_cells (HAy.out _ hbg)))
  all_goals
    go_wp2_with fail
    go_ret
    exact ⟨rfl, HB1.out.trans (hbg.mono HB1.out.size)⟩
end Go.Proofs.YtnakbepcalciiaaGreat.lk
/- The library sort of pairs and of monitors as it stands in this translation: the numbers of its functions and types. No condition. -/
namespace Go.Proofs
open Go.Shelf
def Tryz.srtP_ren : Go.Shelf.Ren := ⟨fun | 6 => 153 | 15 => 190 | 14 => 195 | 28 => 216 | 29 => 217 | 20 => 218 | 21 => 219 | 22 => 220 | 23 => 221 | 24 => 222 | 25 => 223 | 26 => 224 | 27 => 225 | 46 => 251 | 47 => 247 | 48 => 248 | 49 => 252 | 50 => 253 | 57 => 278 | n => n, fun | 22 => 154 | 24 => 149 | 25 => 225 | 3 => 3 | 39 => 254 | 0 => 0 | 53 => 275 | 55 => 277 | 4 => 4 | 46 => 269 | 45 => 268 | 50 => 105 | 5 => 5 | 9 => 9 | 66 => 298 | 70 => 302 | 76 => 312 | 77 => 313 | n => n, fun | n => n⟩
theorem Tryz.srtP : Go.Proofs.SlLaysF0.n6 Tryz.prog Tryz.srtP_ren := {
  mixed := by kernel_rfl
  f6 := ⟨Tryz.f153.name, by decide, Tryz.func153.trans (congrArg some (by kernel_rfl))⟩
  f14 := ⟨Tryz.f195.name, by decide, Tryz.func195.trans (congrArg some (by kernel_rfl))⟩
  f15 := Tryz.func190.trans (congrArg some (by kernel_rfl))
  f20 := ⟨Tryz.f218.name, by decide, Tryz.func218.trans (congrArg some (by kernel_rfl))⟩
  f21 := ⟨Tryz.f219.name, by decide, Tryz.func219.trans (congrArg some (by kernel_rfl))⟩
  f22 := ⟨Tryz.f220.name, by decide, Tryz.func220.trans (congrArg some (by kernel_rfl))⟩
  f23 := ⟨Tryz.f221.name, by decide, Tryz.func221.trans (congrArg some (by kernel_rfl))⟩
  f24 := ⟨Tryz.f222.name, by decide, Tryz.func222.trans (congrArg some (by kernel_rfl))⟩
  f25 := ⟨Tryz.f223.name, by decide, Tryz.func223.trans (congrArg some (by kernel_rfl))⟩
  f26 := ⟨Tryz.f224.name, by decide, Tryz.func224.trans (congrArg some (by kernel_rfl))⟩
  f27 := ⟨Tryz.f225.name, by decide, Tryz.func225.trans (congrArg some (by kernel_rfl))⟩
  f28 := Tryz.func216.trans (congrArg some (by kernel_rfl))
  f29 := Tryz.func217.trans (congrArg some (by kernel_rfl))
  f46 := ⟨Tryz.f251.name, by decide, Tryz.func251.trans (congrArg some (by kernel_rfl))⟩
  f47 := Tryz.func247.trans (congrArg some (by kernel_rfl))
  f48 := Tryz.func248.trans (congrArg some (by kernel_rfl))
  f49 := ⟨Tryz.f252.name, by decide, Tryz.func252.trans (congrArg some (by kernel_rfl))⟩
  f50 := ⟨Tryz.f253.name, by decide, Tryz.func253.trans (congrArg some (by kernel_rfl))⟩
  f57 := ⟨Tryz.f278.name, by decide, Tryz.func278.trans (congrArg some (by kernel_rfl))⟩
  t0 := Tryz.underlying0
  a0 := Tryz.isAgg0
  z0 := Tryz.sizeOf0
  v0 := Tryz.zeroValue0
  t3 := Tryz.underlying3
  a3 := Tryz.isAgg3
  z3 := Tryz.sizeOf3
  v3 := Tryz.zeroValue3
  t4 := Tryz.underlying4
  a4 := Tryz.isAgg4
  z4 := Tryz.sizeOf4
  v4 := Tryz.zeroValue4
  t5 := Tryz.underlying5
  a5 := Tryz.isAgg5
  z5 := Tryz.sizeOf5
  v5 := Tryz.zeroValue5
  t9 := Tryz.underlying9
  a9 := Tryz.isAgg9
  z9 := Tryz.sizeOf9
  v9 := Tryz.zeroValue9
  t22 := Tryz.underlying154
  a22 := Tryz.isAgg154
  z22 := Tryz.sizeOf154
  v22 := Tryz.zeroValue154
  t25 := Tryz.underlying225
  a25 := Tryz.isAgg225
  z25 := Tryz.sizeOf225
  v25 := Tryz.zeroValue225
  t39 := Tryz.underlying254
  a39 := Tryz.isAgg254
  z39 := Tryz.sizeOf254
  v39 := Tryz.zeroValue254
  t45 := Tryz.underlying268
  a45 := Tryz.isAgg268
  z45 := Tryz.sizeOf268
  v45 := Tryz.zeroValue268
  t46 := Tryz.underlying269
  a46 := Tryz.isAgg269
  z46 := Tryz.sizeOf269
  v46 := Tryz.zeroValue269
  t50 := Tryz.underlying105
  a50 := Tryz.isAgg105
  z50 := Tryz.sizeOf105
  v50 := Tryz.zeroValue105
  t53 := Tryz.underlying275
  a53 := Tryz.isAgg275
  z53 := Tryz.sizeOf275
  v53 := Tryz.zeroValue275
  t55 := Tryz.underlying277
  a55 := Tryz.isAgg277
  z55 := Tryz.sizeOf277
  v55 := Tryz.zeroValue277
  t66 := Tryz.underlying298
  a66 := Tryz.isAgg298
  z66 := Tryz.sizeOf298
  v66 := Tryz.zeroValue298
  t70 := Tryz.underlying302
  a70 := Tryz.isAgg302
  z70 := Tryz.sizeOf302
  v70 := Tryz.zeroValue302
  t76 := Tryz.underlying312
  a76 := Tryz.isAgg312
  z76 := Tryz.sizeOf312
  v76 := Tryz.zeroValue312
  t77 := Tryz.underlying313
  a77 := Tryz.isAgg313
  z77 := Tryz.sizeOf313
  v77 := Tryz.zeroValue313 }
def Tryz.srtM_ren : Go.Shelf.Ren := ⟨fun | 6 => 148 | 15 => 190 | 14 => 189 | 28 => 216 | 29 => 217 | 20 => 208 | 21 => 209 | 22 => 210 | 23 => 211 | 24 => 212 | 25 => 213 | 26 => 214 | 27 => 215 | 46 => 246 | 47 => 247 | 48 => 248 | 49 => 249 | 50 => 250 | 57 => 277 | n => n, fun | 22 => 166 | 24 => 162 | 25 => 222 | 3 => 3 | 39 => 254 | 0 => 0 | 53 => 275 | 55 => 277 | 4 => 4 | 46 => 269 | 45 => 268 | 50 => 105 | 5 => 5 | 9 => 9 | 66 => 298 | 70 => 302 | 76 => 312 | 77 => 313 | n => n, fun | n => n⟩
theorem Tryz.srtM : Go.Proofs.SlLaysF0.n6 Tryz.prog Tryz.srtM_ren := {
  mixed := by kernel_rfl
  f6 := ⟨Tryz.f148.name, by decide, Tryz.func148.trans (congrArg some (by kernel_rfl))⟩
  f14 := ⟨Tryz.f189.name, by decide, Tryz.func189.trans (congrArg some (by kernel_rfl))⟩
  f15 := Tryz.func190.trans (congrArg some (by kernel_rfl))
  f20 := ⟨Tryz.f208.name, by decide, Tryz.func208.trans (congrArg some (by kernel_rfl))⟩
  f21 := ⟨Tryz.f209.name, by decide, Tryz.func209.trans (congrArg some (by kernel_rfl))⟩
  f22 := ⟨Tryz.f210.name, by decide, Tryz.func210.trans (congrArg some (by kernel_rfl))⟩
  f23 := ⟨Tryz.f211.name, by decide, Tryz.func211.trans (congrArg some (by kernel_rfl))⟩
  f24 := ⟨Tryz.f212.name, by decide, Tryz.func212.trans (congrArg some (by kernel_rfl))⟩
  f25 := ⟨Tryz.f213.name, by decide, Tryz.func213.trans (congrArg some (by kernel_rfl))⟩
  f26 := ⟨Tryz.f214.name, by decide, Tryz.func214.trans (congrArg some (by kernel_rfl))⟩
  f27 := ⟨Tryz.f215.name, by decide, Tryz.func215.trans (congrArg some (by kernel_rfl))⟩
  f28 := Tryz.func216.trans (congrArg some (by kernel_rfl))
  f29 := Tryz.func217.trans (congrArg some (by kernel_rfl))
  f46 := ⟨Tryz.f246.name, by decide, Tryz.func246.trans (congrArg some (by kernel_rfl))⟩
  f47 := Tryz.func247.trans (congrArg some (by kernel_rfl))
  f48 := Tryz.func248.trans (congrArg some (by kernel_rfl))
  f49 := ⟨Tryz.f249.name, by decide, Tryz.func249.trans (congrArg some (by kernel_rfl))⟩
  f50 := ⟨Tryz.f250.name, by decide, Tryz.func250.trans (congrArg some (by kernel_rfl))⟩
  f57 := ⟨Tryz.f277.name, by decide, Tryz.func277.trans (congrArg some (by kernel_rfl))⟩
  t0 := Tryz.underlying0
  a0 := Tryz.isAgg0
  z0 := Tryz.sizeOf0
  v0 := Tryz.zeroValue0
  t3 := Tryz.underlying3
  a3 := Tryz.isAgg3
  z3 := Tryz.sizeOf3
  v3 := Tryz.zeroValue3
  t4 := Tryz.underlying4
  a4 := Tryz.isAgg4
  z4 := Tryz.sizeOf4
  v4 := Tryz.zeroValue4
  t5 := Tryz.underlying5
  a5 := Tryz.isAgg5
  z5 := Tryz.sizeOf5
  v5 := Tryz.zeroValue5
  t9 := Tryz.underlying9
  a9 := Tryz.isAgg9
  z9 := Tryz.sizeOf9
  v9 := Tryz.zeroValue9
  t22 := Tryz.underlying166
  a22 := Tryz.isAgg166
  z22 := Tryz.sizeOf166
  v22 := Tryz.zeroValue166
  t25 := Tryz.underlying222
  a25 := Tryz.isAgg222
  z25 := Tryz.sizeOf222
  v25 := Tryz.zeroValue222
  t39 := Tryz.underlying254
  a39 := Tryz.isAgg254
  z39 := Tryz.sizeOf254
  v39 := Tryz.zeroValue254
  t45 := Tryz.underlying268
  a45 := Tryz.isAgg268
  z45 := Tryz.sizeOf268
  v45 := Tryz.zeroValue268
  t46 := Tryz.underlying269
  a46 := Tryz.isAgg269
  z46 := Tryz.sizeOf269
  v46 := Tryz.zeroValue269
  t50 := Tryz.underlying105
  a50 := Tryz.isAgg105
  z50 := Tryz.sizeOf105
  v50 := Tryz.zeroValue105
  t53 := Tryz.underlying275
  a53 := Tryz.isAgg275
  z53 := Tryz.sizeOf275
  v53 := Tryz.zeroValue275
  t55 := Tryz.underlying277
  a55 := Tryz.isAgg277
  z55 := Tryz.sizeOf277
  v55 := Tryz.zeroValue277
  t66 := Tryz.underlying298
  a66 := Tryz.isAgg298
  z66 := Tryz.sizeOf298
  v66 := Tryz.zeroValue298
  t70 := Tryz.underlying302
  a70 := Tryz.isAgg302
  z70 := Tryz.sizeOf302
  v70 := Tryz.zeroValue302
  t76 := Tryz.underlying312
  a76 := Tryz.isAgg312
  z76 := Tryz.sizeOf312
  v76 := Tryz.zeroValue312
  t77 := Tryz.underlying313
  a77 := Tryz.isAgg313
  z77 := Tryz.sizeOf313
  v77 := Tryz.zeroValue313 }
end Go.Proofs
/- Plain maps: lists of entries whose keys are apart. Plain Lean. Conditions: as said. -/
namespace Go.Proofs.YtnakbepcalciiaaGreat.pm
set_option linter.unusedVariables false
set_option linter.unusedSimpArgs false
set_option linter.unusedSectionVars false
section
variable {κ β : Type} [DecidableEq κ]
def pFind (l : List (κ × β)) (k : κ) : Option β := (l.find? (fun p => decide (k = p.1))).map (·.2)
def pPut (l : List (κ × β)) (k : κ) (v : β) : List (κ × β) :=
  match l.findIdx? (fun p => decide (k = p.1)) with
  | some i => l.modify i (fun p => (p.1, v))
  | none => l ++ [(k, v)]
def pDel (l : List (κ × β)) (k : κ) : List (κ × β) :=
  match l.findIdx? (fun p => decide (k = p.1)) with
  | some i => l.eraseIdx i
  | none => l
def keys (l : List (κ × β)) : List κ := l.map (·.1)
theorem find_nil (k : κ) : pFind ([] : List (κ × β)) k = none := rfl
theorem find_cons (p : κ × β) (l : List (κ × β)) (k : κ) : pFind (p :: l) k = if k = p.1 then some p.2 else pFind l k := by
  unfold pFind
  by_cases h : k = p.1 <;> simp [h]
theorem put_nil (k : κ) (v : β) : pPut ([] : List (κ × β)) k v = [(k, v)] := rfl
theorem put_cons (p : κ × β) (l : List (κ × β)) (k : κ) (v : β) : pPut (p :: l) k v = if k = p.1 then (p.1, v) :: l else p :: pPut l k v := by
  unfold pPut
  by_cases h : k = p.1
  · simp [h, List.findIdx?_cons]
  · simp only [List.findIdx?_cons, h, decide_false, Bool.false_eq_true, if_false]
    cases h2 : l.findIdx? (fun q => decide (k = q.1)) <;> simp
theorem del_nil (k : κ) : pDel ([] : List (κ × β)) k = [] := rfl
theorem del_cons (p : κ × β) (l : List (κ × β)) (k : κ) : pDel (p :: l) k = if k = p.1 then l else p :: pDel l k := by
  unfold pDel
  by_cases h : k = p.1
  · simp [h, List.findIdx?_cons]
  · simp only [List.findIdx?_cons, h, decide_false, Bool.false_eq_true, if_false]
    cases h2 : l.findIdx? (fun q => decide (k = q.1)) <;> simp
theorem find_put (l : List (κ × β)) (k k' : κ) (v : β) : pFind (pPut l k v) k' = if k' = k then some v else pFind l k' := by
  induction l with
  | nil => rw [put_nil, find_cons]
  | cons p l ih =>
    rw [put_cons]
    split
    · rename_i h
      rw [find_cons, find_cons]
      dsimp only
      by_cases h1 : k' = k
      · rw [if_pos (h1.trans h), if_pos h1]
      · rw [if_neg (fun e => h1 (e.trans h.symm)), if_neg h1, if_neg (fun e => h1 (e.trans h.symm))]
    · rename_i h
      rw [find_cons, ih, find_cons]
      by_cases h1 : k' = k
      · rw [if_pos h1, if_neg (fun e => h (h1.symm.trans e)), if_pos h1]
      · rw [if_neg h1, if_neg h1]
theorem find_none {l : List (κ × β)} {k : κ} : pFind l k = none ↔ k ∉ keys l := by
  induction l with
  | nil => simp [find_nil, keys]
  | cons p l ih =>
    rw [find_cons]
    unfold keys at *
    rw [List.map_cons, List.mem_cons, not_or, ← ih]
    by_cases h : k = p.1 <;> simp [h]
theorem find_mem {l : List (κ × β)} {k : κ} {v : β} (h : pFind l k = some v) : (k, v) ∈ l := by
  induction l with
  | nil => simp [find_nil] at h
  | cons p l ih =>
    rw [find_cons] at h
    split at h
    · rename_i hk
      obtain rfl := Option.some.inj h
      subst hk
      exact List.mem_cons_self
    · exact List.mem_cons_of_mem _ (ih h)
theorem mem_find {l : List (κ × β)} (hn : (keys l).Nodup) {k : κ} {v : β} (h : (k, v) ∈ l) : pFind l k = some v := by
  induction l with
  | nil => simp at h
  | cons p l ih =>
    unfold keys at hn
    rw [List.map_cons, List.nodup_cons] at hn
    rw [find_cons]
    rcases List.mem_cons.1 h with h | h
    · subst h; simp
    · have : k ≠ p.1 := fun e => hn.1 (e ▸ List.mem_map.2 ⟨_, h, rfl⟩)
      rw [if_neg this]
      exact ih hn.2 h
theorem keys_put (l : List (κ × β)) (k : κ) (v : β) : keys (pPut l k v) = if k ∈ keys l then keys l else keys l ++ [k] := by
  induction l with
  | nil => rw [put_nil]; simp [keys]
  | cons p l ih =>
    rw [put_cons]
    split
    · rename_i h
      simp [keys, h]
    · rename_i h
      have e : keys (p :: pPut l k v) = p.1 :: keys (pPut l k v) := rfl
      have e2 : keys (p :: l) = p.1 :: keys l := rfl
      rw [e, ih, e2]
      by_cases h1 : k ∈ keys l
      · rw [if_pos h1, if_pos (List.mem_cons_of_mem _ h1)]
      · rw [if_neg h1, if_neg (fun hc => by rcases List.mem_cons.1 hc with hc | hc; exact h hc; exact h1 hc)]
        rfl
theorem mem_keys_put (l : List (κ × β)) (k k' : κ) (v : β) : k' ∈ keys (pPut l k v) ↔ k' = k ∨ k' ∈ keys l := by
  rw [keys_put]
  split
  · rename_i h
    constructor
    · exact .inr
    · rintro (rfl | h2)
      · exact h
      · exact h2
  · rw [List.mem_append, List.mem_singleton, or_comm]
theorem nodup_put {l : List (κ × β)} (hn : (keys l).Nodup) (k : κ) (v : β) : (keys (pPut l k v)).Nodup := by
  rw [keys_put]
  split
  · exact hn
  · rename_i h
    rw [List.nodup_append]
    exact ⟨hn, by simp, fun a ha b hb => by rw [List.mem_singleton] at hb; subst hb; exact fun e => h (e ▸ ha)⟩
theorem keys_del (l : List (κ × β)) (k : κ) : keys (pDel l k) = (keys l).erase k := by
  induction l with
  | nil => rfl
  | cons p l ih =>
    rw [del_cons]
    have e2 : keys (p :: l) = p.1 :: keys l := rfl
    rw [e2, List.erase_cons]
    split
    · rename_i h
      simp [h]
    · rename_i h
      rw [if_neg (by simpa using fun e => h e.symm)]
      exact congrArg _ ih
theorem nodup_del {l : List (κ × β)} (hn : (keys l).Nodup) (k : κ) : (keys (pDel l k)).Nodup := by
  rw [keys_del]; exact hn.erase k
theorem mem_keys_del {l : List (κ × β)} (hn : (keys l).Nodup) (k k' : κ) : k' ∈ keys (pDel l k) ↔ k' ≠ k ∧ k' ∈ keys l := by
  rw [keys_del]; exact hn.mem_erase_iff
theorem find_del {l : List (κ × β)} (hn : (keys l).Nodup) (k k' : κ) : pFind (pDel l k) k' = if k' = k then none else pFind l k' := by
  induction l with
  | nil => rw [del_nil, find_nil]; simp
  | cons p l ih =>
    have hn' := hn
    unfold keys at hn
    rw [List.map_cons, List.nodup_cons] at hn
    rw [del_cons]
    split
    · rename_i h
      rw [find_cons]
      by_cases h1 : k' = k
      · rw [if_pos h1, h1, h]
        exact find_none.2 hn.1
      · rw [if_neg h1, if_neg (fun e => h1 (e.trans h.symm))]
    · rename_i h
      rw [find_cons, ih hn.2, find_cons]
      by_cases h1 : k' = k
      · rw [if_pos h1, if_neg (fun e => h (h1.symm.trans e)), if_pos h1]
      · rw [if_neg h1, if_neg h1]
theorem mem_put {l : List (κ × β)} {k : κ} {v : β} {p : κ × β} (h : p ∈ pPut l k v) : p = (k, v) ∨ p ∈ l := by
  induction l with
  | nil => rw [put_nil] at h; exact .inl (by simpa using h)
  | cons q l ih =>
    rw [put_cons] at h
    split at h
    · rename_i hk
      rcases List.mem_cons.1 h with h | h
      · exact .inl (by rw [h, hk])
      · exact .inr (List.mem_cons_of_mem _ h)
    · rcases List.mem_cons.1 h with h | h
      · exact .inr (h ▸ List.mem_cons_self)
      · rcases ih h with h | h
        · exact .inl h
        · exact .inr (List.mem_cons_of_mem _ h)
theorem mem_del {l : List (κ × β)} {k : κ} {p : κ × β} (h : p ∈ pDel l k) : p ∈ l := by
  unfold pDel at h
  split at h
  · exact (List.eraseIdx_sublist _ _).subset h
  · exact h
theorem len_put (l : List (κ × β)) (k : κ) (v : β) : (pPut l k v).length ≤ l.length + 1 := by
  unfold pPut; split <;> simp
theorem len_del (l : List (κ × β)) (k : κ) : (pDel l k).length ≤ l.length := by
  unfold pDel
  split
  · exact (List.eraseIdx_sublist _ _).length_le
  · exact Nat.le_refl _
end
end Go.Proofs.YtnakbepcalciiaaGreat.pm
/- A links object in memory: its maps, read and written. Conditions: as said. -/
namespace Go.Proofs.YtnakbepcalciiaaGreat.lk
open Go.RowKit mem rec tm names pm
set_option linter.unusedVariables false
set_option linter.unusedSimpArgs false
set_option linter.unusedSectionVars false
set_option maxHeartbeats 1000000
section
variable {κ β : Type} [DecidableEq κ]
def vals (f : β → Value) (l : List (κ × β)) : List (κ × Value) := l.map (fun p => (p.1, f p.2))
theorem al_idx (f : β → Value) (l : List (κ × β)) (k : κ) : alIdx (vals f l) k = l.findIdx? (fun p => decide (k = p.1)) := by
  unfold alIdx vals
  rw [List.findIdx?_map]
  rfl
theorem al_find (f : β → Value) (l : List (κ × β)) (k : κ) : alFind (vals f l) k = (pFind l k).map f := by
  unfold alFind vals pFind
  rw [List.find?_map]
  simp only [Option.map_map]
  rfl
theorem al_put (f : β → Value) (l : List (κ × β)) (k : κ) (v : β) : alPut (vals f l) k (f v) = vals f (pPut l k v) := by
  unfold alPut pPut
  rw [al_idx]
  cases h : l.findIdx? (fun p => decide (k = p.1)) with
  | none => simp [vals]
  | some i =>
    unfold vals
    dsimp only
    refine List.ext_getElem? fun j => ?_
    simp only [List.getElem?_modify, List.getElem?_map]
    by_cases hj : i = j
    · subst hj
      cases l[i]? <;> simp
    · simp [hj]
theorem al_del (f : β → Value) (l : List (κ × β)) (k : κ) : alDel (vals f l) k = vals f (pDel l k) := by
  unfold alDel pDel
  rw [al_idx]
  cases h : l.findIdx? (fun p => decide (k = p.1)) with
  | none => rfl
  | some i =>
    unfold vals
    exact (map_eraseIdx' _ _ _).symm
end
structure LkSt where
  node : ByteArray
  gen : Int
  last : Int
  H : List (Pr × Int)
  M : List (Id × Mn)
structure LkAt (w : World) (z mh mm : Nat) (s : LkSt) : Prop where
  obj : w.heap[z]? = some (linkC s.node s.gen s.last mh mm)
  hm : MapR prV w mh (vals (Value.int .i64) s.H)
  mo : MapR idV w mm (vals mnV s.M)
  ne : mh ≠ mm
theorem MapR.obj {κ : Type} {toV : κ → Value} {w : World} {m : Nat} {kvs : List (κ × Value)} (h : MapR toV w m kvs) : ∃ es c, w.heap[m]? = some (.map es c) := by
  obtain ⟨es, c, hh, _⟩ := h
  exact ⟨es, c, hh⟩
section
variable {w : World} {z mh mm : Nat} {s : LkSt}
theorem LkAt.zlt (h : LkAt w z mh mm s) : z < w.heap.size := (Array.getElem?_eq_some_iff.1 h.obj).1
theorem LkAt.hlt (h : LkAt w z mh mm s) : mh < w.heap.size := h.hm.lt
theorem LkAt.mlt (h : LkAt w z mh mm s) : mm < w.heap.size := h.mo.lt
theorem LkAt.zh (h : LkAt w z mh mm s) : z ≠ mh := by
  rintro rfl
  obtain ⟨es, c, hh⟩ := MapR.obj h.hm
  rw [h.obj] at hh
  simp [linkC] at hh
theorem LkAt.zm (h : LkAt w z mh mm s) : z ≠ mm := by
  rintro rfl
  obtain ⟨es, c, hh⟩ := MapR.obj h.mo
  rw [h.obj] at hh
  simp [linkC] at hh
theorem LkAt.same {w' : World} (h : LkAt w z mh mm s) (h1 : w'.heap[z]? = w.heap[z]?) (h2 : w'.heap[mh]? = w.heap[mh]?) (h3 : w'.heap[mm]? = w.heap[mm]?) : LkAt w' z mh mm s :=
  ⟨h1.trans h.obj, h.hm.same h2, h.mo.same h3, h.ne⟩
theorem LkAt.below {w' : World} (h : LkAt w z mh mm s) (hb : Below w.heap.size w w') : LkAt w' z mh mm s := h.same (hb.block _ h.zlt) (hb.block _ h.hlt) (hb.block _ h.mlt)
theorem LkAt.drewN (h : LkAt w z mh mm s) (n : Nat) : LkAt (w.drewN n) z mh mm s := ⟨h.obj, h.hm.same rfl, h.mo.same rfl, h.ne⟩
/-- what the methods touch -/
def LkS (z mh mm : Nat) (k : Nat) : Prop := k = z ∨ k = mh ∨ k = mm
theorem map82 (h : LkAt w z mh mm s) (p : Pr) : (Instr.lookup 82 (.map (some mh)) (prV p) true).run Tryz.prog w = .ok (.tuple #[.int .i64 ((pFind s.H p).getD 0), .bool (pFind s.H p).isSome]) w := by
  have := run_lookup_any_ok (P := Tryz.prog) key_pr Tryz.underlying82 h.hm.is p (z := .int .i64 0) (by kernel_rfl)
  rw [this, al_find]
  cases pFind s.H p <;> rfl
theorem map82n (h : LkAt w z mh mm s) (p : Pr) : (Instr.lookup 82 (.map (some mh)) (prV p) false).run Tryz.prog w = .ok (.int .i64 ((pFind s.H p).getD 0)) w := by
  have := run_lookup_any (P := Tryz.prog) key_pr Tryz.underlying82 h.hm.is p (z := .int .i64 0) (by kernel_rfl)
  rw [this, al_find]
  cases pFind s.H p <;> rfl
def zMn : Mn := ((0, ⟨#[]⟩, 0, 0), (0, ⟨#[]⟩, 0, 0), (0, ⟨#[]⟩, 0, 0))
theorem map83 (h : LkAt w z mh mm s) (r : Id) : (Instr.lookup 83 (.map (some mm)) (idV r) true).run Tryz.prog w = .ok (.tuple #[mnV ((pFind s.M r).getD zMn), .bool (pFind s.M r).isSome]) w := by
  have := run_lookup_any_ok (P := Tryz.prog) key_id Tryz.underlying83 h.mo.is r (z := mnV zMn) (by kernel_rfl)
  rw [this, al_find]
  cases pFind s.M r <;> rfl
/-- a map written -/
theorem LkAt.putH {w' : World} (h : LkAt w z mh mm s) {p : Pr} {n : Int} (hm : MapR prV w' mh (alPut (vals (Value.int .i64) s.H) p (.int .i64 n))) (ht : TouchB (fun i => i = mh) w w') : LkAt w' z mh mm { s with H := pPut s.H p n } :=
  ⟨(ht.block z h.zlt h.zh).trans h.obj, by rw [al_put] at hm; exact hm, h.mo.same (ht.block mm h.mlt (fun e => h.ne e.symm)), h.ne⟩
theorem LkAt.delH {w' : World} (h : LkAt w z mh mm s) {p : Pr} (hm : MapR prV w' mh (alDel (vals (Value.int .i64) s.H) p)) (ht : TouchB (fun i => i = mh) w w') : LkAt w' z mh mm { s with H := pDel s.H p } :=
  ⟨(ht.block z h.zlt h.zh).trans h.obj, by rw [al_del] at hm; exact hm, h.mo.same (ht.block mm h.mlt (fun e => h.ne e.symm)), h.ne⟩
theorem LkAt.putM {w' : World} (h : LkAt w z mh mm s) {r : Id} {m : Mn} (hm : MapR idV w' mm (alPut (vals mnV s.M) r (mnV m))) (ht : TouchB (fun i => i = mm) w w') : LkAt w' z mh mm { s with M := pPut s.M r m } :=
  ⟨(ht.block z h.zlt h.zm).trans h.obj, h.hm.same (ht.block mh h.hlt h.ne), by rw [al_put] at hm; exact hm, h.ne⟩
theorem LkAt.delM {w' : World} (h : LkAt w z mh mm s) {r : Id} (hm : MapR idV w' mm (alDel (vals mnV s.M) r)) (ht : TouchB (fun i => i = mm) w w') : LkAt w' z mh mm { s with M := pDel s.M r } :=
  ⟨(ht.block z h.zlt h.zm).trans h.obj, h.hm.same (ht.block mh h.hlt h.ne), by rw [al_del] at hm; exact hm, h.ne⟩
theorem TouchB.to {S S' : Nat → Prop} {a b : World} (h : TouchB S a b) (hs : ∀ i, S i → S' i) : TouchB S' a b := h.mono (fun i _ => hs i)
end
end Go.Proofs.YtnakbepcalciiaaGreat.lk
