/- Texts of this seat, one behind the other: TeN, TeO, TeP, TeQ, TfA, TfB. No condition beyond theirs. -/
import Derived.Test.YtfbggmbmgohiiaaGreatM43
import Derived.Test.YtfbggmbmgohiiaaGreatM36
import Derived.Test.YtfbggmbmgohiiaaGreatM37
import Derived.Test.YtfbggmbmgohiiaaGreatM47
import Derived.Test.YtfbggmbmgohiiaaGreatM48
set_option linter.unusedSimpArgs false
set_option linter.unusedVariables false
set_option maxHeartbeats 4000000
set_option maxRecDepth 100000
namespace Go.Proofs.YtfbggmbmgohiiaaGreat.tb
open Go.RowKit mem rec tm names
section
variable {N : Nat}
def rowK (x : Option (Tm (N + 1) × Tm (N + 1))) : Tm (N + 1) := x.elim zT (·.1)
def rowV (x : Option (Tm (N + 1) × Tm (N + 1))) : Tm (N + 1) := x.elim zT (·.2)
variable {B z : Nat} {A : List (TabA N)} {W W' : World} {r k v : Tm (N + 1)} {ur uk : Value} {B2 : Nat}
theorem StG.good (h : StG B z A W) : ∀ a ∈ A, SortR (cmpH a.hs) a.rows ∧ ∀ x ∈ a.rows, validT x.1 = true ∧ nodesT x.1 ≤ 100000000 ∧ nodesT x.2 ≤ 100000000 := fun a ha => by
  obtain ⟨F, vl, tabs, h1, rfl, h3⟩ := h
  obtain ⟨t, ht, rfl⟩ := List.mem_map.1 ha
  refine ⟨(h3 t ht).sd, fun x hx => ?_⟩
  obtain ⟨r, hr, rfl⟩ := List.mem_map.1 hx
  exact ⟨(h3 t ht).vd r hr, ((h3 t ht).nd r hr).1, ((h3 t ht).nd r hr).2⟩
def oneA (hs : Bool) (R : List (Tm (N + 1) × Tm (N + 1))) : List (TabA N) := [⟨refT 1, pidT 1, hs, R⟩]
variable {hs : Bool} {R : List (Tm (N + 1) × Tm (N + 1))}
def ItQ (w0 W : World) (q : Nat) (u : Value) (l : List (Tm N)) : Prop := ∃ F, NewI w0 W F N u l ∧ ¬ F q ∧ ¬ F (q + 1)
theorem ItQ.keep {w0 : World} {q : Nat} {u : Value} {l : List (Tm N)} (h : ItQ w0 W q u l) (hs : ∀ g, g < W.heap.size → g ≠ q → g ≠ q + 1 → tyOf W g = some 24 → W'.heap[g]? = W.heap[g]?) (hz : W.heap.size ≤ W'.heap.size) : ItQ w0 W' q u l := by
  obtain ⟨F, h1, h2, h3⟩ := h
  have hF : ∀ g, F g → W'.heap[g]? = W.heap[g]? := fun g hg => by
    refine hs g (h1.inr g hg).2 (fun e => h2 (e ▸ hg)) (fun e => h3 (e ▸ hg)) ?_
    obtain ⟨cur, n, e, _⟩ := h1.typed g hg
    exact tyOf_of e
  exact ⟨F, ⟨h1.items.mono hF (fun _ hg => hg), h1.typed.same hF, fun g hg => ⟨(h1.inr g hg).1, Nat.lt_of_lt_of_le (h1.inr g hg).2 hz⟩⟩, h2, h3⟩
theorem ItQ.below {w0 : World} {q : Nat} {u : Value} {l : List (Tm N)} (h : ItQ w0 W q u l) (hb : Below W.heap.size W W') : ItQ w0 W' q u l := h.keep (fun g hg _ _ _ => hb.block g hg) hb.size
theorem ItQ.at_ {w0 : World} {q : Nat} {u : Value} {l : List (Tm N)} (h : ItQ w0 W q u l) : ItemsAt W W.heap.size N u l := by
  obtain ⟨F, h1, _⟩ := h
  exact ItemsIn.toAt (fun g hg => (h1.inr g hg).2) h1.items
theorem ItQ.new {w0 w1 : World} {q : Nat} {F : Nat → Prop} {u : Value} {l : List (Tm N)} (h : NewI w1 W F N u l) (h0 : w0.heap.size ≤ w1.heap.size) (hq : q + 1 < w1.heap.size ∨ W.heap.size ≤ q) : ItQ w0 W q u l :=
  ⟨F, ⟨h.items, h.typed, fun g hg => ⟨Nat.le_trans h0 (h.inr g hg).1, (h.inr g hg).2⟩⟩, fun hg => by have := h.inr q hg; omega, fun hg => by have := h.inr (q + 1) hg; omega⟩
def boxes (W : World) (q : Nat) (k v : Tm (N + 1)) (u1 u2 : Value) : World := (W.setRow q (nineL k.f u1).toArray).setRow (q + 1) (nineL v.f u2).toArray
structure WkS (w0 W : World) (q : Nat) (R : List (Tm (N + 1) × Tm (N + 1))) (j : Nat) (vo : Value) (rows : List (RRw N)) (u1 u2 : Value) : Prop where
  hb : Below w0.heap.size w0 W
  hq : w0.heap.size ≤ q
  own : RecOwn rrL 55 18 W (q + 2) vo rows
  abs : absRR rows = R.take j
  it : ∀ r ∈ rows, ItQ w0 W q r.uk r.k.items ∧ ItQ w0 W q r.uv r.v.items
  b1 : W.heap[q]? = some (.cells (nineL (rowK R[j]?).f u1).toArray 24)
  b2 : W.heap[q + 1]? = some (.cells (nineL (rowV R[j]?).f u2).toArray 24)
  i1 : ItQ w0 W q u1 (rowK R[j]?).items
  i2 : ItQ w0 W q u2 (rowV R[j]?).items
theorem WkS.below {w0 : World} {q j : Nat} {vo u1 u2 : Value} {rows : List (RRw N)} (h : WkS w0 W q R j vo rows u1 u2) (hb : Below W.heap.size W W') : WkS w0 W' q R j vo rows u1 u2 :=
  ⟨h.hb.trans (hb.mono h.hb.size), h.hq, h.own.below hb, h.abs, fun r hr => ⟨(h.it r hr).1.below hb, (h.it r hr).2.below hb⟩, (hb.block _ (Array.getElem?_eq_some_iff.1 h.b1).1).trans h.b1, (hb.block _ (Array.getElem?_eq_some_iff.1 h.b2).1).trans h.b2, h.i1.below hb, h.i2.below hb⟩
theorem boxes_touch (W : World) (q : Nat) (k v : Tm (N + 1)) (u1 u2 : Value) : (boxes W q k v u1 u2).heap.size = W.heap.size ∧ ∀ g, g ≠ q → g ≠ q + 1 → (boxes W q k v u1 u2).heap[g]? = W.heap[g]? :=
  ⟨by unfold boxes; simp, fun g h1 h2 => by
    unfold boxes
    rw [setRow_other _ _ _ _ h2, setRow_other _ _ _ _ h1]⟩
theorem boxes_at {W : World} {q : Nat} {k v : Tm (N + 1)} {u1 u2 : Value} {c1 c2 : Array Value} (h1 : W.heap[q]? = some (.cells c1 24)) (h2 : W.heap[q + 1]? = some (.cells c2 24)) : (boxes W q k v u1 u2).heap[q]? = some (.cells (nineL k.f u1).toArray 24) ∧ (boxes W q k v u1 u2).heap[q + 1]? = some (.cells (nineL v.f u2).toArray 24) := by
  unfold boxes
  refine ⟨?_, setRow_heap _ _ _ _ _ _ ((setRow_other _ _ _ _ (by omega)).trans h2)⟩
  rw [setRow_other _ _ _ _ (by omega)]
  exact setRow_heap _ _ _ _ _ _ h1
theorem WkS.enc {w0 : World} {q j : Nat} {vo u1 u2 : Value} {rows : List (RRw N)} (h : WkS w0 W q R j vo rows u1 u2) : EncOK rrL 18 rows := fun r hr => ⟨rfl, fun u hu => by
  obtain ⟨h1, h2⟩ := h.it r hr
  unfold rrL at hu
  rcases List.mem_append.1 hu with hu | hu
  · exact nineL_one (it_one h1.at_) u hu
  · exact nineL_one (it_one h2.at_) u hu⟩
theorem boxes_below {W : World} {q B : Nat} {k v : Tm (N + 1)} {u1 u2 : Value} (hq : B ≤ q) (hB : B ≤ W.heap.size) : Below B W (boxes W q k v u1 u2) :=
  ((touch_setRow W q (nineL k.f u1).toArray).below (fun g e => by omega) hB).trans ((touch_setRow _ (q + 1) (nineL v.f u2).toArray).below (fun g e => by omega) (by simp; exact hB))
theorem WkS.start {w1 w2 : World} {F1 F2 : Nat → Prop} {u1 u2 : Value} (hb : Below w1.heap.size w1 w2) (h1 : NewI w1 w2 F1 N u1 (rowK R[0]?).items) (h2 : NewI w1 w2 F2 N u2 (rowV R[0]?).items) {c1 c2 : Array Value} :
    WkS w1 (boxes ((w2.alloc (.cells c1 24)).alloc (.cells c2 24)) w2.heap.size (rowK R[0]?) (rowV R[0]?) u1 u2) w2.heap.size R 0 (.slice none 0 0) [] u1 u2 := by
  obtain ⟨hw, z1, z2⟩ := two_boxes w2 (.cells c1 24) (.cells c2 24)
  have hsz : ((w2.alloc (.cells c1 24)).alloc (.cells c2 24)).heap.size = w2.heap.size + 2 := by rw [World.size_alloc, World.size_alloc]
  generalize (w2.alloc (.cells c1 24)).alloc (.cells c2 24) = w3 at *
  obtain ⟨t1, t2⟩ := boxes_touch w3 w2.heap.size (rowK R[0]?) (rowV R[0]?) u1 u2
  obtain ⟨t3, t4⟩ := boxes_at (k := rowK R[0]?) (v := rowV R[0]?) (u1 := u1) (u2 := u2) z1 z2
  have hs12 := hb.size
  have k2 : ∀ {u : Value} {l : List (Tm N)} {F : Nat → Prop}, NewI w1 w2 F N u l → ItQ w1 (boxes w3 w2.heap.size (rowK R[0]?) (rowV R[0]?) u1 u2) w2.heap.size u l := fun hn => by
    have h3 : ItQ w1 w3 w2.heap.size _ _ := (ItQ.new (w0 := w1) hn (Nat.le_refl _) (.inr (Nat.le_refl _))).below hw
    exact h3.keep (fun g hg a b _ => t2 g a b) (by omega)
  exact ⟨(hb.trans (hw.mono hb.size)).trans (boxes_below hs12 (by omega)), hs12, RecOwn.nil _ _ _, rfl, fun r hr => (nomatch hr), t3, t4, k2 h1, k2 h2⟩
structure WkM (w0 W : World) (q : Nat) (R : List (Tm (N + 1) × Tm (N + 1))) (j : Nat) (vo : Value) (rows : List (RRw N)) (u1 u2 : Value) : Prop where
  hb : Below w0.heap.size w0 W
  hq : w0.heap.size ≤ q
  own : RecOwn rrL 55 18 W (q + 2) vo rows
  abs : absRR rows = R.take (j + 1)
  it : ∀ r ∈ rows, ItQ w0 W q r.uk r.k.items ∧ ItQ w0 W q r.uv r.v.items
  b1 : W.heap[q]? = some (.cells (nineL (rowK R[j]?).f u1).toArray 24)
  b2 : W.heap[q + 1]? = some (.cells (nineL (rowV R[j]?).f u2).toArray 24)
  i1 : ItQ w0 W q u1 (rowK R[j]?).items
theorem WkS.app {w0 W0 W2 : World} {q j : Nat} {vo vo' u1 u2 : Value} {rows : List (RRw N)} {k v : Tm (N + 1)} (h : WkS w0 W0 q R j vo rows u1 u2) (hx : R[j]? = some (k, v)) (hb : Below W0.heap.size W0 W) (hA : AppR rrL 55 18 W (q + 2) vo rows [⟨k, v, u1, u2⟩] vo' W2) :
    WkM w0 W2 q R j vo' (rows ++ [⟨k, v, u1, u2⟩]) u1 u2 := by
  have h := h.below hb
  have hq1 := (Array.getElem?_eq_some_iff.1 h.b1).1
  have hq2 := (Array.getElem?_eq_some_iff.1 h.b2).1
  have hkeep : ∀ g, g < W.heap.size → tyOf W g = some 24 → W2.heap[g]? = W.heap[g]? := fun g hg ht => hA.other hg (fun e => by
    rw [ownTy h.own e] at ht
    exact absurd (Option.some.inj ht) (by decide))
  have hlow : ∀ g, vo.ownBlock = some g → q + 2 ≤ g := fun g hg => (h.own.lt hg).1
  have hz : W.heap.size ≤ W2.heap.size := hA.grown.size
  have ki : ∀ {u : Value} {l : List (Tm N)}, ItQ w0 W q u l → ItQ w0 W2 q u l := fun hi => hi.keep (fun g hg _ _ ht => hkeep g hg ht) hz
  refine ⟨hA.belowB h.hb h.hb.size (fun g hg => by have := hlow g hg; have := h.hq; omega), h.hq, hA.own, ?_, fun r hr => ?_, (hkeep q hq1 (tyOf_of h.b1)).trans h.b1, (hkeep (q + 1) hq2 (tyOf_of h.b2)).trans h.b2, ki h.i1⟩
  · unfold absRR
    rw [List.map_append]
    have := h.abs
    unfold absRR at this
    rw [this, List.take_add_one, hx]
    rfl
  · rcases List.mem_append.1 hr with hr | hr
    · exact ⟨ki (h.it r hr).1, ki (h.it r hr).2⟩
    · obtain rfl := List.mem_singleton.1 hr
      have e1 := h.i1
      have e2 := h.i2
      rw [hx] at e1 e2
      exact ⟨ki e1, ki e2⟩
theorem WkM.step {w0 W2 W3 : World} {F1 F2 : Nat → Prop} {q j : Nat} {vo u1 u2 x1 x2 : Value} {rows : List (RRw N)} (h : WkM w0 W2 q R j vo rows u1 u2) (hb : Below W2.heap.size W2 W3) (h1 : NewI W2 W3 F1 N x1 (rowK R[j + 1]?).items) (h2 : NewI W2 W3 F2 N x2 (rowV R[j + 1]?).items) :
    WkS w0 (boxes W3 q (rowK R[j + 1]?) (rowV R[j + 1]?) x1 x2) q R (j + 1) vo rows x1 x2 := by
  have hq1 := (Array.getElem?_eq_some_iff.1 h.b1).1
  have hq2 := (Array.getElem?_eq_some_iff.1 h.b2).1
  obtain ⟨t1, t2⟩ := boxes_touch W3 q (rowK R[j + 1]?) (rowV R[j + 1]?) x1 x2
  obtain ⟨t3, t4⟩ := boxes_at (k := rowK R[j + 1]?) (v := rowV R[j + 1]?) (u1 := x1) (u2 := x2) ((hb.block _ hq1).trans h.b1) ((hb.block _ hq2).trans h.b2)
  have hs := hb.size
  have ki : ∀ {u : Value} {l : List (Tm N)}, ItQ w0 W2 q u l → ItQ w0 (boxes W3 q (rowK R[j + 1]?) (rowV R[j + 1]?) x1 x2) q u l := fun hi => (hi.below hb).keep (fun g _ a b _ => t2 g a b) (by omega)
  have kn : ∀ {u : Value} {l : List (Tm N)} {F : Nat → Prop}, NewI W2 W3 F N u l → ItQ w0 (boxes W3 q (rowK R[j + 1]?) (rowV R[j + 1]?) x1 x2) q u l := fun hn =>
    (ItQ.new (w0 := w0) hn h.hb.size (.inl hq2)).keep (fun g _ a b _ => t2 g a b) (by omega)
  exact ⟨(h.hb.trans (hb.mono h.hb.size)).trans (boxes_below h.hq (by have := h.hb.size; omega)), h.hq, (h.own.below hb).same (fun g hg => t2 g (by have := (h.own.lt hg).1; omega) (by have := (h.own.lt hg).1; omega)), h.abs, fun r hr => ⟨ki (h.it r hr).1, ki (h.it r hr).2⟩, t3, t4, kn h1, kn h2⟩
def WkP (R : List (Tm (N + 1) × Tm (N + 1))) (w : World) (e : Ending) (w' : World) : Prop := ∃ v rows, e = .returned (.tuple #[v, .bool true]) ∧ Below w.heap.size w w' ∧ absRR rows = R ∧ RecAt rrL 18 w' w'.heap.size v rows ∧ ∀ r ∈ rows, ItemsAt w' w'.heap.size N r.uk r.k.items ∧ ItemsAt w' w'.heap.size N r.uv r.v.items
theorem WkS.out {w0 : World} {q : Nat} {vo u1 u2 : Value} {rows : List (RRw N)} {j : Nat} (h : WkS w0 W q R j vo rows u1 u2) (hj : R.length ≤ j) {w : World} (hb : Below w.heap.size w w0) : WkP R w (.returned (.tuple #[vo, .bool true])) W :=
  ⟨vo, rows, rfl, hb.trans (h.hb.mono hb.size), by rw [h.abs, List.take_of_length_le hj], h.own.row h.enc, fun r hr => ⟨(h.it r hr).1.at_, (h.it r hr).2.at_⟩⟩
end
section
variable {N : Nat} {w W W' : World} {B z : Nat} {hs : Bool} {R : List (Tm (N + 1) × Tm (N + 1))}
end
structure WSt {N : Nat} (w : World) (z y : Nat) (A1 A2 : List (TabA N)) (W : World) : Prop where
  st : StG w.heap.size z A1 W
  rf : RfG w.heap.size y A2 W
  hb : Below w.heap.size w W
section
variable {N : Nat} {w W W' : World} {z y : Nat} {A1 A2 : List (TabA N)} {hs : Bool} {R : List (Tm (N + 1) × Tm (N + 1))} {k v : Tm (N + 1)} {uk uv : Value}
theorem WSt.below (h : WSt w z y A1 A2 W) (hb : Below W.heap.size W W') : WSt w z y A1 A2 W' := ⟨h.st.below hb, h.rf.below hb, h.hb.trans (hb.mono h.hb.size)⟩
theorem WSt.size (h : WSt w z y A1 A2 W) : w.heap.size ≤ W.heap.size := h.hb.size
theorem WSt.start (h : LSt (N := N) w z [] W) : WSt (N := N) w z W.heap.size [] [] (W.alloc (.cells #[.slice none 0 0] 39)) := by
  have hb := belowA (Below.refl W.heap.size W) (.cells #[.slice none 0 0] 39) (Nat.le_refl _)
  refine ⟨h.st.below hb, ⟨.slice none 0 0, [], ⟨alloc_new W _, RecOwn.nil _ _ _, fun t ht => (nomatch ht), h.size⟩, rfl⟩, h.base.trans (hb.mono h.size)⟩
theorem WSt.rows (h : WSt w z y A1 (oneA hs R) W) : ∃ g o c vr rows, W.cell? ⟨y, 0, none⟩ = some (.slice (some ⟨g, o, none⟩) 1 c) ∧ W.cell? ⟨g, o + 19, none⟩ = some vr ∧ absRR rows = R ∧ RecAt rrL 18 W W.heap.size vr rows ∧ ∀ r ∈ rows, ItemsAt W W.heap.size N r.uk r.k.items ∧ ItemsAt W W.heap.size N r.uv r.v.items := by
  obtain ⟨lv, T, h1, h2⟩ := h.rf
  have hT : ∃ t, T = [t] ∧ absRT t = ⟨refT 1, pidT 1, hs, R⟩ := by
    cases T with
    | nil => cases h2
    | cons t T' =>
      cases T' with
      | nil => exact ⟨t, rfl, (List.cons.inj h2).1⟩
      | cons t2 T2 => cases (List.cons.inj h2).2
  obtain ⟨t, rfl, h3⟩ := hT
  have ht := h1.tabs t (List.mem_singleton.2 rfl)
  have hrow := h1.l.row h1.enc
  obtain ⟨p, c, e, _, _⟩ := h1.l.shape
  rw [e] at hrow
  have ho := h1.obj
  rw [e] at ho
  obtain ⟨g, o, ep, _, hr⟩ := rec_rng hrow (i := 0) (by simp)
  rw [ep] at ho
  have h5 := congrArg TabA.rows h3
  refine ⟨g, o, c, t.vr, t.rows, cells_row ho 0 _ rfl, ?_, h5, ht.rows.row ht.enc, fun r hr => ⟨(ht.irow r hr).1.more h1.blt, (ht.irow r hr).2.more h1.blt⟩⟩
  have hl : (rtL t)[19]? = some t.vr := by
    unfold rtL
    rw [List.getElem?_append_right (by show 9 ≤ 19; decide), List.getElem?_append_right (by show 9 ≤ 19 - 9; decide)]
    rfl
  have := hr 19 t.vr hl
  rwa [Nat.zero_mul, Nat.add_zero] at this
end
set_option maxRecDepth 100000/- The closure of End. Conditions: the table lies in memory; the list out is the call's own. -/
theorem st22 (w : World) (a : Addr) (v0 v : Value) (hv : v.oneCell' = true) (h : w.cell? a = some v0) (hf : w.frozen? a = false) : (storeVar 22 a v).run Tryz.prog w = .ok () (w.setCell a v) := st_row 22 (by kernel_rfl) w a v0 v hv h hf
theorem ld22 (w : World) (a : Addr) (v : Value) (h : w.cell? a = some v) : (loadVar 22 a).run Tryz.prog w = .ok v w := by
  go_simp
section
variable {α : Type} {enc : α → List Value} {e s : Nat}
theorem own_some {w : World} {B : Nat} {v : Value} {l : List α} (hown : RecOwn enc e s w B v l) (h0 : 0 < l.length) : ∃ g cap cur, v = .slice (some ⟨g, 0, none⟩) l.length cap ∧ B ≤ g ∧ w.heap[g]? = some (.cells cur e (0, 0)) ∧ l.length ≤ cap ∧ cap ≤ maxLen ∧ cur.size = cap * s ∧ cur.toList.take (l.length * s) = l.flatMap enc := by
  obtain ⟨_, h | h⟩ := hown
  · omega
  · exact h
theorem own_put {w : World} {B g c n : Nat} {l : List α} (hown : RecOwn enc e s w B (.slice (some ⟨g, 0, none⟩) n c) l) (hE : EncOK enc s l) {i : Nat} (hi : i < l.length) {x : α} (hx : EncOK enc s [x]) :
    ∃ cur, w.heap[g]? = some (.cells cur e (0, 0)) ∧ i * s + s ≤ cur.size ∧ RecOwn enc e s (w.setRow g (put cur.toList (i * s) (enc x)).toArray) B (.slice (some ⟨g, 0, none⟩) n c) (l.set i x) := by
  obtain ⟨g', cap, cur, hv, hbg, hg, hnc, hcm, hcs, htk⟩ := own_some hown (by omega)
  simp only [Value.slice.injEq, Option.some.injEq, Addr.mk.injEq, and_true, true_and] at hv
  obtain ⟨rfl, rfl, rfl⟩ := hv
  have hlx : (enc x).length = s := (hx x List.mem_cons_self).1
  have hcl : cur.toList.length = c * s := by rw [Array.length_toList]; exact hcs
  have hb : i * s + s ≤ l.length * s := by have := Nat.mul_le_mul_right s (show i + 1 ≤ l.length from hi); rwa [Nat.add_mul, Nat.one_mul] at this
  have hb2 : l.length * s ≤ c * s := Nat.mul_le_mul_right s hnc
  have hsp : l.flatMap enc = (l.take i).flatMap enc ++ enc l[i] ++ (l.drop (i + 1)).flatMap enc := by
    have e : l = l.take i ++ l[i] :: l.drop (i + 1) := by rw [List.getElem_cons_drop, List.take_append_drop]
    conv => lhs; rw [e]
    rw [List.flatMap_append, List.flatMap_cons, List.append_assoc]
  have hP : ((l.take i).flatMap enc).length = i * s := by rw [flat_len (hE.sub (fun a ha => List.mem_of_mem_take ha)), List.length_take, Nat.min_eq_left (by omega)]
  have hput := put_seg (X := enc x) (htk.trans hsp) hP (by rw [hlx, (hE _ (List.getElem_mem hi)).1])
  refine ⟨cur, hg, by omega, ⟨?_, .inr ⟨g, c, (put cur.toList (i * s) (enc x)).toArray, by simp, hbg, setRow_heap _ _ _ _ _ _ hg, by simpa using hnc, hcm, ?_, ?_⟩⟩⟩
  · refine flat_len (fun r hr => ?_)
    rcases List.mem_or_eq_of_mem_set hr with h | h
    · exact hE r h
    · subst h; exact hx _ List.mem_cons_self
  · rw [List.size_toArray, put_len (by rw [hcl, hlx]; omega), hcl]
  · rw [List.toList_toArray, List.length_set, hput, List.set_eq_take_append_cons_drop, if_pos hi, List.flatMap_append, List.flatMap_cons, List.append_assoc]
end
section
variable {N : Nat} {w W W' : World} {B z : Nat} {F : Nat → Prop} {s : TbSt N}
theorem put24 {g c n : Nat} {l : List (Tm (N + 1) × Value)} (hown : RecOwn tE 24 9 w B (.slice (some ⟨g, 0, none⟩) n c) l) (hE : EncOK tE 9 l) {i : Nat} (hi : i < l.length) {x : Tm (N + 1) × Value} (hx : x.2.oneCell' = true) :
    ∃ C, (storeVar 24 ⟨g, i * 9, none⟩ (aggV x.1.f x.2)).run Tryz.prog w = .ok () (w.setRow g C) ∧ RecOwn tE 24 9 (w.setRow g C) B (.slice (some ⟨g, 0, none⟩) n c) (l.set i x) := by
  have hX : EncOK tE 9 [x] := fun y hy => by
    obtain rfl := List.mem_singleton.1 hy
    exact ⟨tE_len _, nineL_one hx⟩
  obtain ⟨cur, hg, hz, ho⟩ := own_put hown hE hi hX
  refine ⟨_, ?_, ho⟩
  have hst := run_storeCells_at Tryz.prog g (i * 9) 24 (nineL x.1.f x.2) 0 cur w hg hz (nineL_one hx)
  simp only [Nat.add_zero] at hst
  have hlen : (nineL x.1.f x.2).length = 9 := rfl
  have hi24 : (Tryz.prog.info? 24).map (·.size) = some 9 := by kernel_rfl
  have hc : (aggV x.1.f x.2).cells.toList = nineL x.1.f x.2 := rfl
  have hc2 : (aggV x.1.f x.2).cells.size = 9 := rfl
  cases hq : Tryz.prog.info? 24 with
  | none => simp [hq] at hi24
  | some ie =>
    have hs : ie.size = 9 := by simpa [hq] using hi24
    show (storeVar 24 ⟨g, i * 9, none⟩ (aggV x.1.f x.2)).run Tryz.prog w = .ok () (w.setRow g (put cur.toList (i * 9) (nineL x.1.f x.2)).toArray)
    unfold put
    rw [hlen] at hst ⊢
    simp [storeVar, sizeOf, typeInfo, hq, hs, hc, hc2, hst, hlen]
noncomputable def outsT (o : Tm (N + 1)) (l : List (TabE N)) : List (Tm (N + 1) × Value) := (l.filter (fun t => eqB t.own o)).map (fun t => (t.ref, t.ur))
structure EndS {N : Nat} (w : World) (g ob : Nat) (rows : List (Tm (N + 1) × Value)) (W : World) : Prop where
  T : TouchB (fun k => k = g ∨ k = ob) w W
  out : ∃ vo, W.heap[ob]? = some (.cells #[vo] 22) ∧ RecOwn tE 24 9 W w.heap.size vo rows
structure EndC {N : Nat} (w : World) (B B2 : Nat) (F : Nat → Prop) (s : TbSt N) (g ob zb : Nat) (o : Tm (N + 1)) (uo : Value) : Prop where
  tb : TbAt w B F s
  tg : tyOf w g = some 89
  to_ : tyOf w ob = some 22
  hz : w.heap[zb]? = some (cells9 o.f uo)
  io : ItemsAt w B2 N uo o.items
  g2 : B2 ≤ g
  o2 : B2 ≤ ob
variable {B2 g ob zb : Nat} {o : Tm (N + 1)} {uo : Value}
theorem EndC.keep (c : EndC w B B2 F s g ob zb o uo) (T : TouchB (fun k => k = g ∨ k = ob) w W) {k : Nat} (h0 : tyOf w k ≠ none) (h1 : tyOf w k ≠ some 89) (h2 : tyOf w k ≠ some 22) : W.heap[k]? = w.heap[k]? := by
  refine T.block k ?_ (fun e => ?_)
  · unfold tyOf at h0
    cases hq : w.heap[k]? with
    | none => rw [hq] at h0; exact absurd rfl h0
    | some x => exact (Array.getElem?_eq_some_iff.1 hq).1
  · rcases e with rfl | rfl
    · exact h1 c.tg
    · exact h2 c.to_
theorem EndC.at_ (c : EndC w B B2 F s g ob zb o uo) (T : TouchB (fun k => k = g ∨ k = ob) w W) {t : TabE N} (ht : t ∈ s.tabs) :
    W.heap[t.b]? = some (.cells (tabL t).toArray 98) ∧ ItemsIn W F N t.ur t.ref.items ∧ ItemsIn W F N t.uo t.own.items ∧ (∀ k, F k → k < W.heap.size) ∧ W.heap[zb]? = some (cells9 o.f uo) ∧ ItemsAt W B2 N uo o.items := by
  have h := c.tb.tabs t ht
  have hF : ∀ k, F k → W.heap[k]? = w.heap[k]? := fun k hk => c.keep T (by rw [F_ty c.tb hk]; exact fun e => nomatch e) (by rw [F_ty c.tb hk]; decide) (by rw [F_ty c.tb hk]; decide)
  have e98 := tyOf_of h.blk
  have e24 : tyOf w zb = some 24 := tyOf_of (c := #[_, _, _, _, _, _, _, _, _]) c.hz
  refine ⟨(c.keep T (by rw [e98]; exact fun e => nomatch e) (by rw [e98]; decide) (by rw [e98]; decide)).trans h.blk, h.iref.mono hF (fun _ q => q), h.iown.mono hF (fun _ q => q), fun k hk => Nat.lt_of_lt_of_le (c.tb.fl k hk) T.size, (c.keep T (by rw [e24]; exact fun e => nomatch e) (by rw [e24]; decide) (by rw [e24]; decide)).trans c.hz, c.io.same (fun k hk => T.block k ?_ (fun e => ?_))⟩
  · have h1 : ob < w.heap.size := by
      have := c.to_
      unfold tyOf at this
      cases hq : w.heap[ob]? with
      | none => rw [hq] at this; cases this
      | some x => exact (Array.getElem?_eq_some_iff.1 hq).1
    have := c.o2
    omega
  · have := c.o2
    have := c.g2
    rcases e with rfl | rfl <;> omega
def ClosQ (w : World) (g ob : Nat) (b : Bool) (rows : List (Tm (N + 1) × Value)) (W : World) (e : Ending) (w' : World) : Prop := e = .returned (.bool b) ∧ EndS w g ob rows w' ∧ w'.heap[g]? = W.heap[g]?
end
section
variable {N : Nat} {w W W' : World} {B B2 z g ob zb : Nat} {F : Nat → Prop} {s : TbSt N} {o : Tm (N + 1)} {uo : Value} {rows : List (Tm (N + 1) × Value)} {t : TabE N}
theorem ty_lt {k : Nat} {T : TypeId} (h : tyOf w k = some T) : k < w.heap.size := by
  unfold tyOf at h
  cases hq : w.heap[k]? with
  | none => rw [hq] at h; cases h
  | some x => exact (Array.getElem?_eq_some_iff.1 hq).1
structure EndM (w W : World) (g ob : Nat) (vc v8 : Value) (rows : List (Tm (N + 1) × Value)) (X : World) : Prop where
  T : TouchB (fun k => k = g ∨ k = ob) w X
  gg : X.heap[g]? = W.heap[g]?
  oc : X.heap[ob]? = some (.cells #[vc] 22)
  own : RecOwn tE 24 9 X w.heap.size v8 rows
variable {X : World} {vc v8 : Value} {rows' : List (Tm (N + 1) × Value)}
theorem EndS.app (c : EndC w B B2 F s g ob zb o uo) (E : EndS w g ob rows W) {vo : Value} (h1 : W.heap[ob]? = some (.cells #[vo] 22)) (h2 : RecOwn tE 24 9 W w.heap.size vo rows) (hb : Below W.heap.size W W') {xs : List (Tm (N + 1) × Value)} (hA : AppR tE 24 9 W' w.heap.size vo rows xs v8 X) : EndM w W g ob vo v8 (rows ++ xs) X := by
  have hgl := ty_lt c.tg
  have hol := ty_lt c.to_
  have hs := E.T.size
  have hn : ∀ k, k < w.heap.size → vo.ownBlock ≠ some k := fun k hk e => by have := (h2.lt e).1; omega
  refine ⟨hA.touch (E.T.ofBelow hb hs) (fun k hk hkw => absurd hk (hn k hkw)), ?_, ?_, hA.own⟩
  · exact (hA.other (by have := hb.size; omega) (hn g hgl)).trans (hb.block g (by omega))
  · exact (hA.other (by have := hb.size; omega) (hn ob hol)).trans ((hb.block ob (by omega)).trans h1)
theorem EndM.row (c : EndC w B B2 F s g ob zb o uo) (h : EndM w W g ob vc v8 rows X) {g8 n8 c8 : Nat} (hv : v8 = .slice (some ⟨g8, 0, none⟩) n8 c8) {C : Array Value} (ho : RecOwn tE 24 9 (X.setRow g8 C) w.heap.size v8 rows') : EndM w W g ob vc v8 rows' (X.setRow g8 C) := by
  have h8 : w.heap.size ≤ g8 := (h.own.lt (k := g8) (by rw [hv]; rfl)).1
  have hgl := ty_lt c.tg
  have hol := ty_lt c.to_
  exact ⟨h.T.trans (touch_setRow X g8 C) (fun k hk e => by omega), (setRow_other _ _ _ _ (by omega)).trans h.gg, (setRow_other _ _ _ _ (by omega)).trans h.oc, ho⟩
theorem EndM.cell (c : EndC w B B2 F s g ob zb o uo) (h : EndM w W g ob vc v8 rows X) : EndM w W g ob v8 v8 rows (X.setCell ⟨ob, 0, none⟩ v8) := by
  have hgl := ty_lt c.tg
  have hol := ty_lt c.to_
  have hgo : g ≠ ob := ty_ne c.tg c.to_ (by decide)
  refine ⟨TouchB.setCell h.T ⟨ob, 0, none⟩ v8 (fun _ => .inr rfl), (Below.heap_setCell _ _ _ _ hgo).trans h.gg, set_block h.oc v8, h.own.same (fun k hk => Below.heap_setCell _ _ _ _ (fun e => ?_))⟩
  have := (h.own.lt hk).1
  have e : k = ob := e
  omega
theorem EndM.done (h : EndM w W g ob v8 v8 rows X) : EndS w g ob rows X ∧ X.heap[g]? = W.heap[g]? := ⟨⟨h.T, v8, h.oc, h.own⟩, h.gg⟩
theorem EndM.at_ (h : EndM w W g ob vc v8 rows X) : X.cell? ⟨ob, 0, none⟩ = some vc ∧ X.frozen? ⟨ob, 0, none⟩ = false := ⟨cells_row (x := [vc]) h.oc 0 _ rfl, by simp only [World.frozen?, h.oc]; simp⟩
theorem clos65 (c : EndC w B B2 F s g ob zb o uo) (E : EndS w g ob rows W) (hE : EncOK tE 9 rows) (hlen : rows.length ≤ 1000) (ht : t ∈ s.tabs) :
    Calls Tryz.prog 65 #[.pointer (some ⟨t.b, 0, none⟩), .pointer (some ⟨zb, 0, none⟩), .pointer (some ⟨ob, 0, none⟩)] W (ClosQ w g ob (eqB t.own o) (rows ++ (if eqB t.own o then [(t.ref, t.ur)] else [])) W) := by
  have HF := Lib.hid (fun (X : World) (hT : TouchB (fun k => k = g ∨ k = ob) w X) => (show X.rangeAt t.b 0 (nineL t.ref.f t.ur) ∧ X.rangeAt t.b 9 (nineL t.own.f t.uo) ∧ X.rangeAt zb 0 (nineL o.f uo) from by
    obtain ⟨f1, f2, f3, f4, f5, f6⟩ := c.at_ hT ht
    obtain ⟨d1, d2, _⟩ := tab_cells f1
    exact ⟨cells_rng d1, cells_rng d2, row_rng (x := nineL o.f uo) f5⟩))
  have HS := Lib.hid (fun (X : World) (hT : TouchB (fun k => k = g ∨ k = ob) w X) => (show Calls Tryz.prog 66 #[aggV t.own.f t.uo, aggV o.f uo] X (BPost (eqB t.own o) X) from by
    obtain ⟨f1, f2, f3, f4, f5, f6⟩ := c.at_ hT ht
    exact same_in f4 f3 (by have := c.o2; have := ty_lt c.to_; have := hT.size; omega) f6))
  have hti := c.tb.tabs t ht
  have hur := in_one hti.iref
  obtain ⟨p1, c1, e1, _, _⟩ := ItemsIn.shape hti.iref
  obtain ⟨p2, c2, e2, _, _⟩ := ItemsIn.shape hti.iown
  obtain ⟨p3, c3, e3, _, _⟩ := c.io.shape
  obtain ⟨vo, ho, hown⟩ := E.out
  have hos := hown.shape
  obtain ⟨po, co, eo, _, _⟩ := hos
  have hET := E.T
  have HC := Lib.hid c
  have HE0 := Lib.hid E
  have HEr := Lib.hid hE
  have HO := Lib.hid ho
  have HOw := Lib.hid hown
  obtain ⟨rt, hrt⟩ : ∃ x, x = (t.ref, t.ur) := ⟨_, rfl⟩
  rw [← hrt]
  have hrf : aggV t.ref.f t.ur = aggV rt.1.f rt.2 := by rw [hrt]
  have hr2 : rt.2.oneCell' = true := by rw [hrt]; exact hur
  have HR2 := Lib.hid hr2
  rw [e1] at HF hrf
  rw [e2] at HF HS
  rw [e3] at HF HS HC
  have HB0 := Lib.hid (fun X (hb : Below W.heap.size W X) => hET.ofBelow hb hET.size)
  clear E hE ho hown hET hti hrt e1 e2 e3 ht hr2 hur
  rw [eo] at HO HOw
  generalize eqB t.own o = qb at *
  obtain ⟨rq, hrq⟩ : ∃ x, rows ++ (if qb = true then [rt] else []) = x := ⟨_, rfl⟩
  rw [hrq]
  have HRq := Lib.hid hrq
  clear hrq
  generalize hrl : rows.length = n at *
  generalize hob : (o : Tm (N + 1)) = ot at *
  generalize t.ref.items.length = n1 at *
  generalize t.own.items.length = n2 at *
  generalize ot.items.length = n3 at *
  generalize t.ref.f = fa at *
  generalize t.own.f = fb at *
  have hcf : ∃ fo, ot.f = fo := ⟨_, rfl⟩
  generalize hof : ot.f = fo at HF HS
  generalize t.b = tb at *
  obtain ⟨a_k, a_i, a_g, a_n, a_f, a_a, a_b, a_z⟩ := fa
  obtain ⟨b_k, b_i, b_g, b_n, b_f, b_a, b_b, b_z⟩ := fb
  obtain ⟨o_k, o_i, o_g, o_n, o_f, o_a, o_b, o_z⟩ := fo
  unfold nineL at HF
  unfold aggV BPost at HS
  unfold aggV at hrf
  dsimp only at HF HS
  clear c hcf hob
  have hsz9 : (Tryz.prog.info? 24).map (·.size) = some 9 := by kernel_rfl
  have hb0 := belowD (Below.refl W.heap.size W)
  have hT := HB0.out _ hb0
  go_enter Tryz.func65, Tryz.ntmps65
  go_upto_region 1 with (fail)
  refine wp_region_held_drew (S := (fun w' => w'.rangeAt tb 9 [.int .i64 b_k, .int .i64 b_i, .int .i64 b_g, .string b_n, .string b_f, .int .i64 b_a, .slice p2 n2 c2, .string b_b, .int .i64 b_z] ∧ w'.rangeAt zb 0 [.int .i64 o_k, .int .i64 o_i, .int .i64 o_g, .string o_n, .string o_f, .int .i64 o_a, .slice p3 n3 c3, .string o_b, .int .i64 o_z])) (by kernel_rfl) ?_ (fun hHeld => ?_)
  · exact (HF.out _ hT).2
  generalize W.drew = wd at *
  refine wpAnyH_take (i := 0) (oi := { dst := some 5, op := Op.move (Operand.tmp 0), type := 89, pos := "tables.go:211", after := #[], guard := none }) (v := ?vvA0) rfl (by kernel_rfl) (by kernel_rfl) (by kernel_rfl) (fun _ _ _ h => h) (Or.inl ⟨by rfl, ?hyA0⟩) (by assumption) ?rsA0
  case hyA0 =>
    intro w hSw
    (try dsimp only at hSw)
    go_simp
    (try with_reducible rfl)
  (try simp only [Act.put, List.setIfInBounds_toArray, List.set_cons_zero, List.set_cons_succ])
  refine wpAnyH_take (i := 1) (oi := { dst := some 6, op := Op.nilCheck (Operand.tmp 5), type := 0, pos := "tables.go:211", after := #[{ on := 0, ground := Ground.data }], guard := none }) (v := ?vvA1) rfl (by kernel_rfl) (by kernel_rfl) (by kernel_rfl) (fun _ _ _ h => h) (Or.inl ⟨by rfl, ?hyA1⟩) (by assumption) ?rsA1
  case hyA1 =>
    intro w hSw
    (try dsimp only at hSw)
    go_simp
    (try with_reducible rfl)
  (try simp only [Act.put, List.setIfInBounds_toArray, List.set_cons_zero, List.set_cons_succ])
  refine wpAnyH_take (i := 2) (oi := { dst := some 7, op := Op.fieldAddr 98 (Operand.tmp 6) 1, type := 0, pos := "tables.go:211", after := #[{ on := 1, ground := Ground.data }], guard := none }) (v := ?vvA2) rfl (by kernel_rfl) (by kernel_rfl) (by kernel_rfl) (fun _ _ _ h => h) (Or.inl ⟨by rfl, ?hyA2⟩) (by assumption) ?rsA2
  case hyA2 =>
    intro w hSw
    (try dsimp only at hSw)
    go_simp
    (try with_reducible rfl)
  (try simp only [Act.put, List.setIfInBounds_toArray, List.set_cons_zero, List.set_cons_succ])
  refine wpAnyH_take (i := 3) (oi := { dst := some 8, op := Op.load 24 (Operand.tmp 7), type := 24, pos := "tables.go:211", after := #[{ on := 2, ground := Ground.data }], guard := none }) rfl (by kernel_rfl) (by kernel_rfl) (by kernel_rfl) (fun _ _ _ h => h) (yieldsIf_load_mid (by rfl) 24 (.tmp 7) rfl tb 9 rfl [.int .i64 b_k, .int .i64 b_i, .int .i64 b_g, .string b_n, .string b_f, .int .i64 b_a, .slice p2 n2 c2, .string b_b, .int .i64 b_z] _ (fun w hs => hs.1) Tryz.underlying24 rfl hsz9) (by assumption) ?_
  (try simp only [Act.put, List.setIfInBounds_toArray, List.set_cons_zero, List.set_cons_succ])
  refine wpAnyH_take (i := 4) (oi := { dst := some 9, op := Op.load 24 (Operand.tmp 1), type := 24, pos := "tables.go:211", after := #[], guard := none }) rfl (by kernel_rfl) (by kernel_rfl) (by kernel_rfl) (fun _ _ _ h => h) (yieldsIf_load_mid (by rfl) 24 (.tmp 1) rfl zb 0 rfl [.int .i64 o_k, .int .i64 o_i, .int .i64 o_g, .string o_n, .string o_f, .int .i64 o_a, .slice p3 n3 c3, .string o_b, .int .i64 o_z] _ (fun w hs => hs.2) Tryz.underlying24 rfl hsz9) (by assumption) ?_
  (try simp only [Act.put, List.setIfInBounds_toArray, List.set_cons_zero, List.set_cons_succ])
  refine wpAnyH_ready (rs := [5]) (by kernel_rfl) (by simp) ?_
  refine (AllReadyH.cons (o := { dst := some 10, op := Op.call { callee := Callee.value (Operand.func 66), args := #[Operand.tmp 8, Operand.tmp 9], argTypes := #[24, 24] }, type := 4, pos := "tables.go:211", after := #[{ on := 3, ground := Ground.data }, { on := 4, ground := Ground.data }], guard := none }) rfl (fun K hK => ?_) AllReadyH.nil)
  go_simp
  refine (HS.out _ hT).mono ?_
  rintro e w2 ⟨rfl, hb2⟩
  have hb3 := hb0.trans (hb2.mono hb0.size)
  have hT2 := HB0.out _ hb3
  clear hb2
  go_wp2_with fail
  refine hK.out _ _ ?_ (fun hHeld => ?_)
  · exact (HF.out _ hT2).2
  clear hK K
  (try simp only [Act.put, List.setIfInBounds_toArray, List.set_cons_zero, List.set_cons_succ])
  refine wpAnyH_take (i := 6) (oi := { dst := some 11, op := Op.unOp UnOp.not 4 (Operand.tmp 10), type := 4, pos := "tables.go:211", after := #[{ on := 5, ground := Ground.data }], guard := none }) (v := ?vvA6) rfl (by kernel_rfl) (by kernel_rfl) (by kernel_rfl) (fun _ _ _ h => h) (Or.inl ⟨by rfl, ?hyA6⟩) (by assumption) ?rsA6
  case hyA6 =>
    intro w hSw
    (try dsimp only at hSw)
    go_simp
    (try with_reducible rfl)
  (try simp only [Act.put, List.setIfInBounds_toArray, List.set_cons_zero, List.set_cons_succ])
  refine wpAnyH_done (by kernel_rfl) ?_ _
  cases qb
  · go_wp2_with fail
    go_ret
    have e0 : rq = rows := by rw [← HRq.out, if_neg (by decide), List.append_nil]
    rw [e0]
    exact ⟨rfl, ⟨hT2, _, ((hb3.block ob (by have := ty_lt HC.out.to_; have := HE0.out.T.size; omega)).trans HO.out), HOw.out.below hb3⟩, hb3.block g (by have := ty_lt HC.out.tg; have := HE0.out.T.size; omega)⟩
  · have e0 : rows ++ [rt] = rq := by rw [← HRq.out, if_pos rfl]
    have E2 : EndS w g ob rows w2.drew := ⟨HB0.out _ (hb3.trans ((belowD (Below.refl w2.heap.size w2)).mono hb3.size)), _, (((belowD (Below.refl w2.heap.size w2)).mono hb3.size).block ob (by have := ty_lt HC.out.to_; have := HE0.out.T.size; omega)).trans ((hb3.block ob (by have := ty_lt HC.out.to_; have := HE0.out.T.size; omega)).trans HO.out), HOw.out.below (hb3.trans ((belowD (Below.refl w2.heap.size w2)).mono hb3.size))⟩
    have hb4 := hb3.trans ((belowD (Below.refl w2.heap.size w2)).mono hb3.size)
    have HO4 := Lib.hid ((hb4.block ob (by have := ty_lt HC.out.to_; have := HE0.out.T.size; omega)).trans HO.out)
    have HOw4 := Lib.hid (HOw.out.below hb4)
    have hgg : w2.drew.heap[g]? = W.heap[g]? := hb4.block g (by have := ty_lt HC.out.tg; have := HE0.out.T.size; omega)
    go_upto_region 3 with (fail)
    have hk4 := (HF.out _ E2.T).1
    refine wp_region_held_drew (S := (fun w' => w'.rangeAt tb 0 [.int .i64 a_k, .int .i64 a_i, .int .i64 a_g, .string a_n, .string a_f, .int .i64 a_a, .slice p1 n1 c1, .string a_b, .int .i64 a_z])) (by kernel_rfl) ?_ (fun hHeld => ?_)
    · exact hk4
    generalize w2.drew = wd3 at *
    have hba := belowA (Below.refl wd3.heap.size wd3) (.cells #[.int .i64 0, .int .i64 0, .int .i64 0, .string ⟨#[]⟩, .string ⟨#[]⟩, .int .i64 0, .slice none 0 0, .string ⟨#[]⟩, .int .i64 0] 24) (Nat.le_refl _)
    have hZ := alloc_new wd3 (.cells #[.int .i64 0, .int .i64 0, .int .i64 0, .string ⟨#[]⟩, .string ⟨#[]⟩, .int .i64 0, .slice none 0 0, .string ⟨#[]⟩, .int .i64 0] 24)
    have hEz : EncOK tE 9 [((zT : Tm (N + 1)), nilV)] := fun y hy => by
      obtain rfl := List.mem_singleton.1 hy
      exact ⟨tE_len _, nineL_one rfl⟩
    have hfr : RecAt tE 9 (wd3.alloc (.cells #[.int .i64 0, .int .i64 0, .int .i64 0, .string ⟨#[]⟩, .string ⟨#[]⟩, .int .i64 0, .slice none 0 0, .string ⟨#[]⟩, .int .i64 0] 24)) (wd3.heap.size + 1) (.slice (some ⟨wd3.heap.size, 0, none⟩) 1 1) [((zT : Tm (N + 1)), nilV)] := RecAt.fresh (c := 1) hEz (by decide) hZ (Nat.le_refl _) (by decide)
    obtain ⟨v8, W9, hr9, hA9⟩ := run_append_recB elB24 (HOw4.out.below hba) (Nat.le_trans E2.T.size hba.size) 22 hfr hEz (by simp; omega) (by decide) (by decide)
    have hM := EndS.app HC.out E2 HO4.out HOw4.out hba hA9
    have hE9 : EncOK tE 9 (rows ++ [((zT : Tm (N + 1)), nilV)]) := HEr.out.append hEz
    obtain ⟨g8, c8, cur8, e8, _, _, _, _, _, _⟩ := own_some hM.own (by simp)
    have hl9 : (rows ++ [((zT : Tm (N + 1)), nilV)]).length = n + 1 := by rw [List.length_append, hrl]; rfl
    rw [hl9] at e8
    subst e8
    have hset : (rows ++ [((zT : Tm (N + 1)), nilV)]).set n rt = rows ++ [rt] := by
      rw [List.set_append_right _ _ (by omega), hrl, Nat.sub_self]
      rfl
    obtain ⟨C1, hs1, ho1⟩ := put24 hM.own hE9 (i := n) (by omega) (x := rt) HR2.out
    have hMc := hM.cell HC.out
    obtain ⟨C2, hs2, ho2⟩ := put24 hMc.own hE9 (i := n) (by omega) (x := rt) HR2.out
    rw [hset] at ho1 ho2
    unfold aggV at hs1 hs2
    rw [← hrf] at hs1 hs2
    clear hrf
    have hM1 := hM.row HC.out rfl ho1
    have hM2 := hMc.row HC.out rfl ho2
    have hF1 := (hM1.cell HC.out).done
    have hF2 := hM2.done
    rw [hgg, e0] at hF1 hF2
    obtain ⟨k1, k2⟩ := hM.at_
    obtain ⟨k3, k4⟩ := hM1.at_
    have hst1 := st22 W9 ⟨ob, 0, none⟩ _ (.slice (some ⟨g8, 0, none⟩) (n + 1) c8) rfl k1 k2
    have hst2 := st22 _ ⟨ob, 0, none⟩ _ (.slice (some ⟨g8, 0, none⟩) (n + 1) c8) rfl k3 k4
    have hk5 := (HF.out _ (E2.T.ofBelow hba E2.T.size)).1
    have hk9 := (HF.out _ hM.T).1
    have hk10 := (HF.out _ hMc.T).1
    have hk11 := (HF.out _ hM1.T).1
    have hk12 := (HF.out _ hM2.T).1
    have hk13 := (HF.out _ (hM1.cell HC.out).T).1
    have ho4 := cells_row (x := [.slice po n co]) HO4.out 0 _ rfl
    have ho5 := cells_row (x := [.slice po n co]) ((hba.block ob (Array.getElem?_eq_some_iff.1 HO4.out).1).trans HO4.out) 0 _ rfl
    have r1 : (n : Int) < (n : Int) + 1 := by omega
    have r2 : n < n + 1 := by omega
    clear k1 k2 k3 k4 hA9 hfr hZ hEz hba
    refine wpAnyH_take (i := 1) (oi := { dst := some 13, op := Op.move (Operand.tmp 0), type := 89, pos := "tables.go:214", after := #[], guard := none }) (v := ?vvB1) rfl (by kernel_rfl) (by kernel_rfl) (by kernel_rfl) (fun _ _ _ h => h) (Or.inl ⟨by rfl, ?hyB1⟩) (by assumption) ?rsB1
    case hyB1 =>
      intro w hSw
      (try dsimp only at hSw)
      go_simp
      (try with_reducible rfl)
    (try simp only [Act.put, List.setIfInBounds_toArray, List.set_cons_zero, List.set_cons_succ])
    refine wpAnyH_take (i := 2) (oi := { dst := some 14, op := Op.nilCheck (Operand.tmp 13), type := 0, pos := "tables.go:214", after := #[{ on := 1, ground := Ground.data }], guard := none }) (v := ?vvB2) rfl (by kernel_rfl) (by kernel_rfl) (by kernel_rfl) (fun _ _ _ h => h) (Or.inl ⟨by rfl, ?hyB2⟩) (by assumption) ?rsB2
    case hyB2 =>
      intro w hSw
      (try dsimp only at hSw)
      go_simp
      (try with_reducible rfl)
    (try simp only [Act.put, List.setIfInBounds_toArray, List.set_cons_zero, List.set_cons_succ])
    refine wpAnyH_take (i := 3) (oi := { dst := some 15, op := Op.fieldAddr 98 (Operand.tmp 14) 0, type := 0, pos := "tables.go:214", after := #[{ on := 2, ground := Ground.data }], guard := none }) (v := ?vvB3) rfl (by kernel_rfl) (by kernel_rfl) (by kernel_rfl) (fun _ _ _ h => h) (Or.inl ⟨by rfl, ?hyB3⟩) (by assumption) ?rsB3
    case hyB3 =>
      intro w hSw
      (try dsimp only at hSw)
      go_simp
      (try with_reducible rfl)
    (try simp only [Act.put, List.setIfInBounds_toArray, List.set_cons_zero, List.set_cons_succ])
    refine wpAnyH_take (i := 4) (oi := { dst := some 16, op := Op.load 24 (Operand.tmp 15), type := 24, pos := "tables.go:214", after := #[{ on := 3, ground := Ground.data }], guard := none }) rfl (by kernel_rfl) (by kernel_rfl) (by kernel_rfl) (fun _ _ _ h => h) (yieldsIf_load_mid (by rfl) 24 (.tmp 15) rfl tb 0 rfl [.int .i64 a_k, .int .i64 a_i, .int .i64 a_g, .string a_n, .string a_f, .int .i64 a_a, .slice p1 n1 c1, .string a_b, .int .i64 a_z] _ (fun w hs => hs) Tryz.underlying24 rfl hsz9) (by assumption) ?_
    (try simp only [Act.put, List.setIfInBounds_toArray, List.set_cons_zero, List.set_cons_succ])
    refine wpAnyH_ready (rs := [0, 6]) (by kernel_rfl) (by simp) ?_
    refine (AllReadyH.cons (o := { dst := some 12, op := Op.load 22 (Operand.tmp 2), type := 22, pos := "tables.go:214", after := #[], guard := none }) rfl (fun K hK => ?_) (AllReadyH.cons (o := { dst := some 18, op := Op.buildSlice 22 1 #[(0, Operand.const (Value.agg #[Value.int IntKind.i64 0, Value.int IntKind.i64 0, Value.int IntKind.i64 0, Value.string { data := #[] }, Value.string { data := #[] }, Value.int IntKind.i64 0, Value.slice none 0 0, Value.string { data := #[] }, Value.int IntKind.i64 0]))], type := 22, pos := "tables.go:214", after := #[], guard := none }) rfl (fun K hK => ?_) AllReadyH.nil))
    · skip
      refine step_load_run (by rfl) 22 (.tmp 2) rfl (p := ⟨ob, 0, none⟩) (v := .slice po n co) rfl (ld22 _ _ _ ?_) ?_
      · first | exact ho5 | exact ho4
      refine hK.out _ _ ?_ (fun hHeld => ?_)
      · first | exact hk9 | exact hk5 | exact hk4 | exact hk10 | exact hk11 | exact hk12 | exact hk13
      clear hK K
      (try simp only [Act.put, List.setIfInBounds_toArray, List.set_cons_zero, List.set_cons_succ])
      refine wpAnyH_take (i := 5) (oi := { dst := some 17, op := Op.call { callee := Callee.builtin Builtin.len, args := #[Operand.tmp 12], argTypes := #[22] }, type := 3, pos := "tables.go:214", after := #[{ on := 0, ground := Ground.data }], guard := none }) (v := ?vvBx05) rfl (by kernel_rfl) (by kernel_rfl) (by kernel_rfl) (fun _ _ _ h => h) (Or.inl ⟨by rfl, ?hyBx05⟩) (by assumption) ?rsBx05
      case hyBx05 =>
        intro w hSw
        (try dsimp only at hSw)
        go_simp
        (try with_reducible rfl)
      (try simp only [Act.put, List.setIfInBounds_toArray, List.set_cons_zero, List.set_cons_succ])
      refine wpAnyH_ready (rs := [6]) (by kernel_rfl) (by simp) ?_
      refine (AllReadyH.cons (o := { dst := some 18, op := Op.buildSlice 22 1 #[(0, Operand.const (Value.agg #[Value.int IntKind.i64 0, Value.int IntKind.i64 0, Value.int IntKind.i64 0, Value.string { data := #[] }, Value.string { data := #[] }, Value.int IntKind.i64 0, Value.slice none 0 0, Value.string { data := #[] }, Value.int IntKind.i64 0]))], type := 22, pos := "tables.go:214", after := #[], guard := none }) rfl (fun K hK => ?_) AllReadyH.nil)
      go_simp
      refine hK.out _ _ ?_ (fun hHeld => ?_)
      · first | exact hk9 | exact hk5 | exact hk4 | exact hk10 | exact hk11 | exact hk12 | exact hk13
      clear hK K
      (try simp only [Act.put, List.setIfInBounds_toArray, List.set_cons_zero, List.set_cons_succ])
      refine wpAnyH_ready (rs := [7]) (by kernel_rfl) (by simp) ?_
      refine (AllReadyH.cons (o := { dst := some 19, op := Op.call { callee := Callee.builtin Builtin.append, args := #[Operand.tmp 12, Operand.tmp 18], argTypes := #[22, 22] }, type := 22, pos := "tables.go:214", after := #[{ on := 0, ground := Ground.data }, { on := 6, ground := Ground.data }, { on := 0, ground := Ground.phase }, { on := 1, ground := Ground.phase }, { on := 2, ground := Ground.phase }, { on := 3, ground := Ground.phase }, { on := 4, ground := Ground.phase }, { on := 5, ground := Ground.phase }, { on := 6, ground := Ground.phase }], guard := none }) rfl (fun K hK => ?_) AllReadyH.nil)
      refine step_append_run (t := 22) (t' := 22) (w' := W9) (v := .slice (some ⟨g8, 0, none⟩) (n + 1) c8) rfl (.tmp 12) (.tmp 18) rfl rfl rfl hr9 ?_
      refine hK.out _ _ ?_ (fun hHeld => ?_)
      · first | exact hk9 | exact hk5 | exact hk4 | exact hk10 | exact hk11 | exact hk12 | exact hk13
      clear hK K
      (try simp only [Act.put, List.setIfInBounds_toArray, List.set_cons_zero, List.set_cons_succ])
      refine wpAnyH_take (i := 8) (oi := { dst := some 20, op := Op.indexAddr 22 (Operand.tmp 19) (Operand.tmp 17), type := 0, pos := "tables.go:214", after := #[{ on := 7, ground := Ground.data }, { on := 5, ground := Ground.data }, { on := 0, ground := Ground.phase }, { on := 1, ground := Ground.phase }, { on := 2, ground := Ground.phase }, { on := 3, ground := Ground.phase }, { on := 4, ground := Ground.phase }, { on := 5, ground := Ground.phase }, { on := 6, ground := Ground.phase }, { on := 7, ground := Ground.phase }, { on := 10, ground := Ground.gcOnly Departure.appendInPlace }], guard := none }) (v := ?vvBx08) rfl (by kernel_rfl) (by kernel_rfl) (by kernel_rfl) (fun _ _ _ h => h) (Or.inl ⟨by rfl, ?hyBx08⟩) (by assumption) ?rsBx08
      case hyBx08 =>
        intro w hSw
        (try dsimp only at hSw)
        go_simp
        (try with_reducible rfl)
      (try simp only [Act.put, List.setIfInBounds_toArray, List.set_cons_zero, List.set_cons_succ])
      refine wpAnyH_ready (rs := [9, 10]) (by kernel_rfl) (by simp) ?_
      refine (AllReadyH.cons (o := { dst := none, op := Op.store 24 (Operand.tmp 20) (Operand.tmp 16), type := 0, pos := "tables.go:214", after := #[{ on := 8, ground := Ground.data }, { on := 4, ground := Ground.data }, { on := 7, ground := Ground.chain }, { on := 0, ground := Ground.phase }, { on := 1, ground := Ground.phase }, { on := 2, ground := Ground.phase }, { on := 3, ground := Ground.phase }, { on := 4, ground := Ground.phase }, { on := 5, ground := Ground.phase }, { on := 6, ground := Ground.phase }, { on := 7, ground := Ground.phase }, { on := 10, ground := Ground.gcOnly Departure.appendInPlace }], guard := none }) rfl (fun K hK => ?_) (AllReadyH.cons (o := { dst := none, op := Op.store 22 (Operand.tmp 2) (Operand.tmp 19), type := 0, pos := "tables.go:214", after := #[{ on := 7, ground := Ground.data }, { on := 7, ground := Ground.chain }, { on := 9, ground := Ground.textOnly Departure.appendInPlace }, { on := 0, ground := Ground.phase }, { on := 1, ground := Ground.phase }, { on := 2, ground := Ground.phase }, { on := 3, ground := Ground.phase }, { on := 4, ground := Ground.phase }, { on := 5, ground := Ground.phase }, { on := 6, ground := Ground.phase }, { on := 7, ground := Ground.phase }, { on := 8, ground := Ground.textOnly Departure.appendInPlace }, { on := 9, ground := Ground.textOnly Departure.appendInPlace }], guard := none }) rfl (fun K hK => ?_) AllReadyH.nil))
      · skip
        refine step_store_run (by rfl) 24 (.tmp 20) (.tmp 16) rfl (p := ⟨g8, n * 9, none⟩) rfl rfl (by first | exact hs1 | exact hs2) ?_
        refine hK.out _ _ ?_ (fun hHeld => ?_)
        · first | exact hk9 | exact hk5 | exact hk4 | exact hk10 | exact hk11 | exact hk12 | exact hk13
        clear hK K
        (try simp only [Act.put, List.setIfInBounds_toArray, List.set_cons_zero, List.set_cons_succ])
        refine wpAnyH_ready (rs := [10]) (by kernel_rfl) (by simp) ?_
        refine (AllReadyH.cons (o := { dst := none, op := Op.store 22 (Operand.tmp 2) (Operand.tmp 19), type := 0, pos := "tables.go:214", after := #[{ on := 7, ground := Ground.data }, { on := 7, ground := Ground.chain }, { on := 9, ground := Ground.textOnly Departure.appendInPlace }, { on := 0, ground := Ground.phase }, { on := 1, ground := Ground.phase }, { on := 2, ground := Ground.phase }, { on := 3, ground := Ground.phase }, { on := 4, ground := Ground.phase }, { on := 5, ground := Ground.phase }, { on := 6, ground := Ground.phase }, { on := 7, ground := Ground.phase }, { on := 8, ground := Ground.textOnly Departure.appendInPlace }, { on := 9, ground := Ground.textOnly Departure.appendInPlace }], guard := none }) rfl (fun K hK => ?_) AllReadyH.nil)
        refine step_store_run (by rfl) 22 (.tmp 2) (.tmp 19) rfl (p := ⟨ob, 0, none⟩) (v := .slice (some ⟨g8, 0, none⟩) (n + 1) c8) rfl rfl (by first | exact hst1 | exact hst2) ?_
        refine hK.out _ _ ?_ (fun hHeld => ?_)
        · first | exact hk9 | exact hk5 | exact hk4 | exact hk10 | exact hk11 | exact hk12 | exact hk13
        clear hK K
        (try simp only [Act.put, List.setIfInBounds_toArray, List.set_cons_zero, List.set_cons_succ])
        refine wpAnyH_done (by kernel_rfl) ?_ _
        go_wp2_with fail
        go_ret
        first | exact ⟨rfl, hF1⟩ | exact ⟨rfl, hF2⟩
      · skip
        refine step_store_run (by rfl) 22 (.tmp 2) (.tmp 19) rfl (p := ⟨ob, 0, none⟩) (v := .slice (some ⟨g8, 0, none⟩) (n + 1) c8) rfl rfl (by first | exact hst1 | exact hst2) ?_
        refine hK.out _ _ ?_ (fun hHeld => ?_)
        · first | exact hk9 | exact hk5 | exact hk4 | exact hk10 | exact hk11 | exact hk12 | exact hk13
        clear hK K
        (try simp only [Act.put, List.setIfInBounds_toArray, List.set_cons_zero, List.set_cons_succ])
        refine wpAnyH_ready (rs := [9]) (by kernel_rfl) (by simp) ?_
        refine (AllReadyH.cons (o := { dst := none, op := Op.store 24 (Operand.tmp 20) (Operand.tmp 16), type := 0, pos := "tables.go:214", after := #[{ on := 8, ground := Ground.data }, { on := 4, ground := Ground.data }, { on := 7, ground := Ground.chain }, { on := 0, ground := Ground.phase }, { on := 1, ground := Ground.phase }, { on := 2, ground := Ground.phase }, { on := 3, ground := Ground.phase }, { on := 4, ground := Ground.phase }, { on := 5, ground := Ground.phase }, { on := 6, ground := Ground.phase }, { on := 7, ground := Ground.phase }, { on := 10, ground := Ground.gcOnly Departure.appendInPlace }], guard := none }) rfl (fun K hK => ?_) AllReadyH.nil)
        refine step_store_run (by rfl) 24 (.tmp 20) (.tmp 16) rfl (p := ⟨g8, n * 9, none⟩) rfl rfl (by first | exact hs1 | exact hs2) ?_
        refine hK.out _ _ ?_ (fun hHeld => ?_)
        · first | exact hk9 | exact hk5 | exact hk4 | exact hk10 | exact hk11 | exact hk12 | exact hk13
        clear hK K
        (try simp only [Act.put, List.setIfInBounds_toArray, List.set_cons_zero, List.set_cons_succ])
        refine wpAnyH_done (by kernel_rfl) ?_ _
        go_wp2_with fail
        go_ret
        first | exact ⟨rfl, hF1⟩ | exact ⟨rfl, hF2⟩
    · skip
      go_simp
      refine hK.out _ _ ?_ (fun hHeld => ?_)
      · first | exact hk9 | exact hk5 | exact hk4 | exact hk10 | exact hk11 | exact hk12 | exact hk13
      clear hK K
      (try simp only [Act.put, List.setIfInBounds_toArray, List.set_cons_zero, List.set_cons_succ])
      refine wpAnyH_ready (rs := [0]) (by kernel_rfl) (by simp) ?_
      refine (AllReadyH.cons (o := { dst := some 12, op := Op.load 22 (Operand.tmp 2), type := 22, pos := "tables.go:214", after := #[], guard := none }) rfl (fun K hK => ?_) AllReadyH.nil)
      refine step_load_run (by rfl) 22 (.tmp 2) rfl (p := ⟨ob, 0, none⟩) (v := .slice po n co) rfl (ld22 _ _ _ ?_) ?_
      · first | exact ho5 | exact ho4
      refine hK.out _ _ ?_ (fun hHeld => ?_)
      · first | exact hk9 | exact hk5 | exact hk4 | exact hk10 | exact hk11 | exact hk12 | exact hk13
      clear hK K
      (try simp only [Act.put, List.setIfInBounds_toArray, List.set_cons_zero, List.set_cons_succ])
      refine wpAnyH_take (i := 5) (oi := { dst := some 17, op := Op.call { callee := Callee.builtin Builtin.len, args := #[Operand.tmp 12], argTypes := #[22] }, type := 3, pos := "tables.go:214", after := #[{ on := 0, ground := Ground.data }], guard := none }) (v := ?vvBx65) rfl (by kernel_rfl) (by kernel_rfl) (by kernel_rfl) (fun _ _ _ h => h) (Or.inl ⟨by rfl, ?hyBx65⟩) (by assumption) ?rsBx65
      case hyBx65 =>
        intro w hSw
        (try dsimp only at hSw)
        go_simp
        (try with_reducible rfl)
      (try simp only [Act.put, List.setIfInBounds_toArray, List.set_cons_zero, List.set_cons_succ])
      refine wpAnyH_ready (rs := [7]) (by kernel_rfl) (by simp) ?_
      refine (AllReadyH.cons (o := { dst := some 19, op := Op.call { callee := Callee.builtin Builtin.append, args := #[Operand.tmp 12, Operand.tmp 18], argTypes := #[22, 22] }, type := 22, pos := "tables.go:214", after := #[{ on := 0, ground := Ground.data }, { on := 6, ground := Ground.data }, { on := 0, ground := Ground.phase }, { on := 1, ground := Ground.phase }, { on := 2, ground := Ground.phase }, { on := 3, ground := Ground.phase }, { on := 4, ground := Ground.phase }, { on := 5, ground := Ground.phase }, { on := 6, ground := Ground.phase }], guard := none }) rfl (fun K hK => ?_) AllReadyH.nil)
      refine step_append_run (t := 22) (t' := 22) (w' := W9) (v := .slice (some ⟨g8, 0, none⟩) (n + 1) c8) rfl (.tmp 12) (.tmp 18) rfl rfl rfl hr9 ?_
      refine hK.out _ _ ?_ (fun hHeld => ?_)
      · first | exact hk9 | exact hk5 | exact hk4 | exact hk10 | exact hk11 | exact hk12 | exact hk13
      clear hK K
      (try simp only [Act.put, List.setIfInBounds_toArray, List.set_cons_zero, List.set_cons_succ])
      refine wpAnyH_take (i := 8) (oi := { dst := some 20, op := Op.indexAddr 22 (Operand.tmp 19) (Operand.tmp 17), type := 0, pos := "tables.go:214", after := #[{ on := 7, ground := Ground.data }, { on := 5, ground := Ground.data }, { on := 0, ground := Ground.phase }, { on := 1, ground := Ground.phase }, { on := 2, ground := Ground.phase }, { on := 3, ground := Ground.phase }, { on := 4, ground := Ground.phase }, { on := 5, ground := Ground.phase }, { on := 6, ground := Ground.phase }, { on := 7, ground := Ground.phase }, { on := 10, ground := Ground.gcOnly Departure.appendInPlace }], guard := none }) (v := ?vvBx68) rfl (by kernel_rfl) (by kernel_rfl) (by kernel_rfl) (fun _ _ _ h => h) (Or.inl ⟨by rfl, ?hyBx68⟩) (by assumption) ?rsBx68
      case hyBx68 =>
        intro w hSw
        (try dsimp only at hSw)
        go_simp
        (try with_reducible rfl)
      (try simp only [Act.put, List.setIfInBounds_toArray, List.set_cons_zero, List.set_cons_succ])
      refine wpAnyH_ready (rs := [9, 10]) (by kernel_rfl) (by simp) ?_
      refine (AllReadyH.cons (o := { dst := none, op := Op.store 24 (Operand.tmp 20) (Operand.tmp 16), type := 0, pos := "tables.go:214", after := #[{ on := 8, ground := Ground.data }, { on := 4, ground := Ground.data }, { on := 7, ground := Ground.chain }, { on := 0, ground := Ground.phase }, { on := 1, ground := Ground.phase }, { on := 2, ground := Ground.phase }, { on := 3, ground := Ground.phase }, { on := 4, ground := Ground.phase }, { on := 5, ground := Ground.phase }, { on := 6, ground := Ground.phase }, { on := 7, ground := Ground.phase }, { on := 10, ground := Ground.gcOnly Departure.appendInPlace }], guard := none }) rfl (fun K hK => ?_) (AllReadyH.cons (o := { dst := none, op := Op.store 22 (Operand.tmp 2) (Operand.tmp 19), type := 0, pos := "tables.go:214", after := #[{ on := 7, ground := Ground.data }, { on := 7, ground := Ground.chain }, { on := 9, ground := Ground.textOnly Departure.appendInPlace }, { on := 0, ground := Ground.phase }, { on := 1, ground := Ground.phase }, { on := 2, ground := Ground.phase }, { on := 3, ground := Ground.phase }, { on := 4, ground := Ground.phase }, { on := 5, ground := Ground.phase }, { on := 6, ground := Ground.phase }, { on := 7, ground := Ground.phase }, { on := 8, ground := Ground.textOnly Departure.appendInPlace }, { on := 9, ground := Ground.textOnly Departure.appendInPlace }], guard := none }) rfl (fun K hK => ?_) AllReadyH.nil))
      · skip
        refine step_store_run (by rfl) 24 (.tmp 20) (.tmp 16) rfl (p := ⟨g8, n * 9, none⟩) rfl rfl (by first | exact hs1 | exact hs2) ?_
        refine hK.out _ _ ?_ (fun hHeld => ?_)
        · first | exact hk9 | exact hk5 | exact hk4 | exact hk10 | exact hk11 | exact hk12 | exact hk13
        clear hK K
        (try simp only [Act.put, List.setIfInBounds_toArray, List.set_cons_zero, List.set_cons_succ])
        refine wpAnyH_ready (rs := [10]) (by kernel_rfl) (by simp) ?_
        refine (AllReadyH.cons (o := { dst := none, op := Op.store 22 (Operand.tmp 2) (Operand.tmp 19), type := 0, pos := "tables.go:214", after := #[{ on := 7, ground := Ground.data }, { on := 7, ground := Ground.chain }, { on := 9, ground := Ground.textOnly Departure.appendInPlace }, { on := 0, ground := Ground.phase }, { on := 1, ground := Ground.phase }, { on := 2, ground := Ground.phase }, { on := 3, ground := Ground.phase }, { on := 4, ground := Ground.phase }, { on := 5, ground := Ground.phase }, { on := 6, ground := Ground.phase }, { on := 7, ground := Ground.phase }, { on := 8, ground := Ground.textOnly Departure.appendInPlace }, { on := 9, ground := Ground.textOnly Departure.appendInPlace }], guard := none }) rfl (fun K hK => ?_) AllReadyH.nil)
        refine step_store_run (by rfl) 22 (.tmp 2) (.tmp 19) rfl (p := ⟨ob, 0, none⟩) (v := .slice (some ⟨g8, 0, none⟩) (n + 1) c8) rfl rfl (by first | exact hst1 | exact hst2) ?_
        refine hK.out _ _ ?_ (fun hHeld => ?_)
        · first | exact hk9 | exact hk5 | exact hk4 | exact hk10 | exact hk11 | exact hk12 | exact hk13
        clear hK K
        (try simp only [Act.put, List.setIfInBounds_toArray, List.set_cons_zero, List.set_cons_succ])
        refine wpAnyH_done (by kernel_rfl) ?_ _
        go_wp2_with fail
        go_ret
        first | exact ⟨rfl, hF1⟩ | exact ⟨rfl, hF2⟩
      · skip
        refine step_store_run (by rfl) 22 (.tmp 2) (.tmp 19) rfl (p := ⟨ob, 0, none⟩) (v := .slice (some ⟨g8, 0, none⟩) (n + 1) c8) rfl rfl (by first | exact hst1 | exact hst2) ?_
        refine hK.out _ _ ?_ (fun hHeld => ?_)
        · first | exact hk9 | exact hk5 | exact hk4 | exact hk10 | exact hk11 | exact hk12 | exact hk13
        clear hK K
        (try simp only [Act.put, List.setIfInBounds_toArray, List.set_cons_zero, List.set_cons_succ])
        refine wpAnyH_ready (rs := [9]) (by kernel_rfl) (by simp) ?_
        refine (AllReadyH.cons (o := { dst := none, op := Op.store 24 (Operand.tmp 20) (Operand.tmp 16), type := 0, pos := "tables.go:214", after := #[{ on := 8, ground := Ground.data }, { on := 4, ground := Ground.data }, { on := 7, ground := Ground.chain }, { on := 0, ground := Ground.phase }, { on := 1, ground := Ground.phase }, { on := 2, ground := Ground.phase }, { on := 3, ground := Ground.phase }, { on := 4, ground := Ground.phase }, { on := 5, ground := Ground.phase }, { on := 6, ground := Ground.phase }, { on := 7, ground := Ground.phase }, { on := 10, ground := Ground.gcOnly Departure.appendInPlace }], guard := none }) rfl (fun K hK => ?_) AllReadyH.nil)
        refine step_store_run (by rfl) 24 (.tmp 20) (.tmp 16) rfl (p := ⟨g8, n * 9, none⟩) rfl rfl (by first | exact hs1 | exact hs2) ?_
        refine hK.out _ _ ?_ (fun hHeld => ?_)
        · first | exact hk9 | exact hk5 | exact hk4 | exact hk10 | exact hk11 | exact hk12 | exact hk13
        clear hK K
        (try simp only [Act.put, List.setIfInBounds_toArray, List.set_cons_zero, List.set_cons_succ])
        refine wpAnyH_done (by kernel_rfl) ?_ _
        go_wp2_with fail
        go_ret
        first | exact ⟨rfl, hF1⟩ | exact ⟨rfl, hF2⟩
end
end Go.Proofs.YtfbggmbmgohiiaaGreat.tb
