/- Several texts in one, one behind the other: CoV. No condition beyond theirs. -/
import Derived.Test.YtegffanlehaloaaGreatGk
import Derived.Deep.CutRange
import Derived.Says

/- The reference's SameGraph, towards true. Conditions: as said. -/
namespace Go.Proofs.YtegffanlehaloaaGreat.cl
open Go.RowKit mem words
set_option linter.unusedVariables false
set_option linter.unusedSimpArgs false
set_option maxHeartbeats 4000000
set_option maxRecDepth 100000

/-- a memory that has shape, with roots that fit it, in memory -/
structure MemAt (w : World) (B : Nat) (v1 v2 vr : Value) (m : Mm) (K : Bk) (roots : List Int) : Prop where
  y : WAt w B v1 m.y
  o : WAt w B v2 m.o
  wy : Wds m.y
  wo : Wds m.o
  t : m.y.length + m.o.length ≤ 5000
  sh : Sh m K
  r : WAt w B vr roots
  rt : ∀ v ∈ roots, Tm K v ∧ 0 ≤ v ∧ v ≤ 18446744073709551615
  rl : roots.length ≤ 100000
theorem MemAt.below {w w' : World} {B B' : Nat} {v1 v2 vr : Value} {m : Mm} {K : Bk} {roots : List Int} (h : MemAt w B v1 v2 vr m K roots) (hb : Below B' w w') (hB : B ≤ B') : MemAt w' B v1 v2 vr m K roots :=
  ⟨h.y.below hb hB, h.o.below hb hB, h.wy, h.wo, h.t, h.sh, h.r.below hb hB, h.rt, h.rl⟩
theorem MemAt.meets {w : World} {B : Nat} {v1 v2 vr : Value} {m : Mm} {K : Bk} {roots : List Int} (h : MemAt w B v1 v2 vr m K roots) (hB : B ≤ w.heap.size) : Calls Tryz.prog 29 #[.agg #[v1, v2, .int .i64 m.at_], vr] w (MetPost K roots w) :=
  met48 w B v1 v2 vr m K roots hB h.y h.o h.wy h.wo h.t h.sh h.r h.rt h.rl
def OpenSh (p1 : Option Addr) (c1 : Nat) (p2 : Option Addr) (c2 : Nat) (m : Mm) (K : Bk) (w : World) (e : Ending) (w' : World) : Prop := Below w.heap.size w w' ∧ ∃ p3 c3 p4 c4, e = .returned (.tuple #[.agg #[.slice p1 m.y.length c1, .slice p2 m.o.length c2, .int .i64 m.at_, .slice p3 m.y.length c3, .slice p4 m.o.length c4], .bool true]) ∧ BookAt w' w'.heap.size (.slice p1 m.y.length c1) (.slice p2 m.o.length c2) (.slice p3 m.y.length c3) (.slice p4 m.o.length c4) m K
theorem MemAt.opens {w : World} {B : Nat} {p1 : Option Addr} {c1 : Nat} {p2 : Option Addr} {c2 : Nat} {vr : Value} {m : Mm} {K : Bk} {roots : List Int} (h : MemAt w B (.slice p1 m.y.length c1) (.slice p2 m.o.length c2) vr m K roots) (hB : B ≤ w.heap.size) : Calls Tryz.prog 15 #[.agg #[.slice p1 m.y.length c1, .slice p2 m.o.length c2, .int .i64 m.at_]] w (OpenSh p1 c1 p2 c2 m K w) := by
  have ht := h.t
  refine (open32 w B _ _ m hB h.y h.o h.wy h.wo (by omega) (by omega)).mono ?_
  rintro e w' ⟨hb, ⟨K', v3, v4, rfl, hbk⟩ | ⟨hno, _⟩⟩
  · obtain rfl := sh_uniq h.sh hbk.oy hbk.oo
    obtain ⟨_, _, _, _, p3, c3, p4, c4, _, _, rfl, rfl⟩ := hbk.form
    exact ⟨hb, _, _, _, _, rfl, hbk⟩
  · exact absurd ⟨K, h.sh.y, h.sh.o⟩ hno
theorem MemAt.wk {w : World} {B : Nat} {v1 v2 vr : Value} {m : Mm} {K : Bk} {roots : List Int} (h : MemAt w B v1 v2 vr m K roots) : Wk K := fun b o ho v hv => by
  cases b
  · refine h.wy v ?_
    rw [← h.sh.y.1]
    exact List.mem_flatten.2 ⟨o, ho, hv⟩
  · refine h.wo v ?_
    rw [← h.sh.o.1]
    exact List.mem_flatten.2 ⟨o, ho, hv⟩
theorem MemAt.ls {w : World} {B : Nat} {v1 v2 vr : Value} {m : Mm} {K : Bk} {roots : List Int} (h : MemAt w B v1 v2 vr m K roots) : Ls K (met K roots) := met_ls h.sh h.wk h.rt
/-- two graphs are the same, by lists of their objects -/
structure SameG (K S : Bk) (roots others a b : List Int) : Prop where
  len : b.length = a.length
  rlen : others.length = roots.length
  rt : ∀ (i : Nat) (x y : Int), roots[i]? = some x → others[i]? = some y → nmI b y = nmI a x ∧ nmW y = nmW x
  kd : ∀ (i : Nat) (x y : Int), a[i]? = some x → b[i]? = some y → knd (ob S y) = knd (ob K x) ∧ (wds (ob S y)).length = (wds (ob K x)).length
  eq : ∀ (i : Nat) (x y : Int), a[i]? = some x → b[i]? = some y → ∀ (q : Nat) (u v : Int), (wds (ob K x))[q]? = some u → (wds (ob S y))[q]? = some v → (q < fxd (knd (ob K x)) (wds (ob K x)).length → v = u) ∧ (fxd (knd (ob K x)) (wds (ob K x)).length ≤ q → nmI b v = nmI a u ∧ nmW v = nmW u)
theorem number65n (w : World) (B : Nat) (p : Option Addr) (n c : Nat) (l : List Int) (u : Int) (hn : l.length = n) (h : WAt w B (.slice p n c) l) (hl : l.length ≤ 100000) (u0 : 0 ≤ u) (u1 : u ≤ 18446744073709551615) :
    Calls Tryz.prog 30 #[.slice p n c, .int .u64 u] w fun e w' => e = .returned (.tuple #[.int .i64 (nmI l u), .int .u64 (nmW u)]) ∧ w = w' := by
  subst hn
  exact number65 w B p c l u h hl u0 u1
def MetTwo (base : Nat) (w : World) (A Bl : List Int) (a b : Value) (wc : World) : Prop := WOwn wc base a A ∧ WOwn wc base b Bl ∧ Below base w wc
theorem metTwo {w w1 w2 : World} {A Bl : List Int} {a b : Value} (h1 : WOwn w1 w.heap.size a A) (hb1 : Below w.heap.size w w1) (h2 : WOwn w2 w1.heap.size b Bl) (hb2 : Below w1.heap.size w1 w2) : MetTwo w.heap.size w A Bl a b w2 ∧ MetTwo w.heap.size w Bl A b a w2 := by
  have e1 : WOwn w2 w.heap.size b Bl := row_base h2 fun k hk => Nat.le_trans hb1.size (h2.ge k hk).1
  have e2 := h1.below hb2
  have e3 := hb1.trans (hb2.mono hb1.size)
  exact ⟨⟨e2, e1, e3⟩, ⟨e1, e2, e3⟩⟩
theorem same35 (w : World) (B : Nat) (v1 v2 vr v1' v2' vr' : Value) (m m' : Mm) (K S : Bk) (roots others : List Int) (hB : B ≤ w.heap.size) (h : MemAt w B v1 v2 vr m K roots) (h' : MemAt w B v1' v2' vr' m' S others) (hg : SameG K S roots others (met K roots) (met S others)) :
    Calls Tryz.prog 13 #[.agg #[v1, v2, .int .i64 m.at_], vr, .agg #[v1', v2', .int .i64 m'.at_], vr'] w fun e w' => e = .returned (.bool true) ∧ Below w.heap.size w w' := by
  have HM := Lib.hid (fun W (hb : Below w.heap.size w W) => h.below hb hB)
  have HM' := Lib.hid (fun W (hb : Below w.heap.size w W) => h'.below hb hB)
  have HRl := Lib.hid h.rl
  have HRl' := Lib.hid h'.rl
  have HG := Lib.hid hg
  have HLa := Lib.hid h.ls
  have HLb := Lib.hid h'.ls
  have HS := Lib.hid h.sh
  have HS' := Lib.hid h'.sh
  have HT := Lib.hid h.t
  have HRt := Lib.hid h.rt
  have HRt' := Lib.hid h'.rt
  have HWk := Lib.hid h.wk
  have HWk' := Lib.hid h'.wk
  obtain ⟨p1, c1, e1, _⟩ := id h.y
  obtain ⟨p2, c2, e2, _⟩ := id h.o
  obtain ⟨pr, cr, er, _⟩ := id h.r
  obtain ⟨p1', c1', e1', _⟩ := id h'.y
  obtain ⟨p2', c2', e2', _⟩ := id h'.o
  obtain ⟨pr', cr', er', _⟩ := id h'.r
  rw [hg.rlen] at er'
  subst e1 e2 er e1' e2' er'
  have hX := (MapKept.heap_alloc w (.cells #[.slice p1 m.y.length c1, .slice p2 m.o.length c2, .int .i64 m.at_] 24)).1
  have hB1 : Below w.heap.size w (w.alloc (.cells #[.slice p1 m.y.length c1, .slice p2 m.o.length c2, .int .i64 m.at_] 24)) := (Below.refl _ _).alloc (Nat.le_refl _) _
  have hS1 : (w.alloc (.cells #[.slice p1 m.y.length c1, .slice p2 m.o.length c2, .int .i64 m.at_] 24)).heap.size = w.heap.size + 1 := by show (w.heap.push _).size = _; rw [Array.size_push]
  have hX' := (MapKept.heap_alloc (w.alloc (.cells #[.slice p1 m.y.length c1, .slice p2 m.o.length c2, .int .i64 m.at_] 24)) (.cells #[.slice p1' m'.y.length c1', .slice p2' m'.o.length c2', .int .i64 m'.at_] 24)).1
  have hB2 : Below (w.heap.size + 1) (w.alloc (.cells #[.slice p1 m.y.length c1, .slice p2 m.o.length c2, .int .i64 m.at_] 24)) ((w.alloc (.cells #[.slice p1 m.y.length c1, .slice p2 m.o.length c2, .int .i64 m.at_] 24)).alloc (.cells #[.slice p1' m'.y.length c1', .slice p2' m'.o.length c2', .int .i64 m'.at_] 24)) := (Below.refl _ _).alloc (by omega) _
  have hX2 := (hB2.block w.heap.size (by omega)).trans hX
  rw [hS1] at hX'
  have hB3 := hB1.trans (hB2.mono (by omega))
  have hS2 : ((w.alloc (.cells #[.slice p1 m.y.length c1, .slice p2 m.o.length c2, .int .i64 m.at_] 24)).alloc (.cells #[.slice p1' m'.y.length c1', .slice p2' m'.o.length c2', .int .i64 m'.at_] 24)).heap.size = w.heap.size + 1 + 1 := by
    show ((w.heap.push _).push _).size = _
    rw [Array.size_push, Array.size_push]
  have HX := Lib.hid hX2
  have HX' := Lib.hid hX'
  have HB := Lib.hid hB3
  have HSz := Lib.hid hS2
  clear hX hX' hB1 hB2 hX2 hB3 hS1 hS2 h h' hg
  go_enter Tryz.func13, Tryz.ntmps13
  go_wp2_with fail
  generalize ((w.alloc (.cells #[.slice p1 m.y.length c1, .slice p2 m.o.length c2, .int .i64 m.at_] 24)).alloc (.cells #[.slice p1' m'.y.length c1', .slice p2' m'.o.length c2', .int .i64 m'.at_] 24)) = W2 at *
  have hbd : Below W2.heap.size W2 W2.drew := below_drewN (Below.refl _ _) 1
  have HC := Lib.hid (fun W (hb : Below W2.heap.size W2 W) => three_cells ((hb.block w.heap.size (by rw [HSz.out]; omega)).trans HX.out))
  have HC' := Lib.hid (fun W (hb : Below W2.heap.size W2 W) => three_cells ((hb.block (w.heap.size + 1) (by rw [HSz.out]; omega)).trans HX'.out))
  have HA := Lib.hid (fun W (hb : Below W2.heap.size W2 W) => (HM.out W (HB.out.trans (hb.mono HB.out.size))).meets (Nat.le_trans hB (Nat.le_trans HB.out.size hb.size)))
  have HA' := Lib.hid (fun W (hb : Below W2.heap.size W2 W) => (HM'.out W (HB.out.trans (hb.mono HB.out.size))).meets (Nat.le_trans hB (Nat.le_trans HB.out.size hb.size)))
  obtain ⟨x0, x1, x2, xf⟩ := HC.out W2 (Below.refl _ _)
  obtain ⟨y0, y1, y2, yf⟩ := HC'.out W2 (Below.refl _ _)
  go_cut [9, 10] from 33 to 38 (fun a b wc => MetTwo W2.heap.size W2 (met K roots) (met S others) a b wc)
  case first =>
    go_region_held3 (fun w' => w'.cell? ⟨w.heap.size, 0, none⟩ = some (.slice p1 m.y.length c1) ∧ w'.cell? ⟨w.heap.size, 1, none⟩ = some (.slice p2 m.o.length c2) ∧ w'.cell? ⟨w.heap.size, 2, none⟩ = some (.int .i64 m.at_) ∧ w'.cell? ⟨w.heap.size + 1, 0, none⟩ = some (.slice p1' m'.y.length c1') ∧ w'.cell? ⟨w.heap.size + 1, 1, none⟩ = some (.slice p2' m'.o.length c2') ∧ w'.cell? ⟨w.heap.size + 1, 2, none⟩ = some (.int .i64 m'.at_)) (go_keep)
      (first
        | (go_at_call 29; (with_reducible refine (HA.out _ hbd).mono ?_); rintro e3 W3 ⟨va, rfl, hoa, hb3⟩; have hbA : Below W2.heap.size W2 W3 := hbd.trans hb3; obtain ⟨s0, s1, s2, sf⟩ := HC.out W3 hbA; obtain ⟨t0, t1, t2, tf⟩ := HC'.out W3 hbA; obtain ⟨qa, ca, rfl⟩ := hoa.shape)
        | (go_at_call 29; (with_reducible refine (HA'.out _ hbd).mono ?_); rintro e3 W3 ⟨vb, rfl, hob, hb3⟩; have hbB : Below W2.heap.size W2 W3 := hbd.trans hb3; obtain ⟨s0, s1, s2, sf⟩ := HC.out W3 hbB; obtain ⟨t0, t1, t2, tf⟩ := HC'.out W3 hbB; obtain ⟨qb, cb, rfl⟩ := hob.shape)
        | (go_at_call 29; (with_reducible refine (HA'.out _ hbA).mono ?_); rintro e4 W4 ⟨vb, rfl, hob, hb4⟩; have hbC : Below W2.heap.size W2 W4 := hbA.trans (hb4.mono hbA.size); obtain ⟨s0, s1, s2, sf⟩ := HC.out W4 hbC; obtain ⟨t0, t1, t2, tf⟩ := HC'.out W4 hbC; obtain ⟨qb, cb, rfl⟩ := hob.shape; have hfin := (metTwo hoa hb3 hob hb4).1)
        | (go_at_call 29; (with_reducible refine (HA.out _ hbB).mono ?_); rintro e4 W4 ⟨va, rfl, hoa, hb4⟩; have hbC : Below W2.heap.size W2 W4 := hbB.trans (hb4.mono hbB.size); obtain ⟨s0, s1, s2, sf⟩ := HC.out W4 hbC; obtain ⟨t0, t1, t2, tf⟩ := HC'.out W4 hbC; obtain ⟨qa, ca, rfl⟩ := hoa.shape; have hfin := (metTwo hob hb3 hoa hb4).2))
    all_goals
      go_wp2_with fail
      go_meet
      exact ⟨hfin.1, hfin.2.1, hbC⟩
  case rest =>
    obtain ⟨hoa, hob, hbw⟩ := hcut
    obtain ⟨pa, ca, rfl⟩ := hoa.shape
    obtain ⟨pb, cb, rfl⟩ := hob.shape
    have HB5 := Lib.hid (HB.out.trans (hbw.mono HB.out.size))
    have HRa := Lib.hid (fun W (hb : Below wc.heap.size wc W) => hoa.row.below hb (Nat.le_refl _))
    have HRb := Lib.hid (fun W (hb : Below wc.heap.size wc W) => hob.row.below hb (Nat.le_refl _))
    have HC5 := Lib.hid (fun W (hb : Below wc.heap.size wc W) => HC.out W (hbw.trans (hb.mono hbw.size)))
    have HC5' := Lib.hid (fun W (hb : Below wc.heap.size wc W) => HC'.out W (hbw.trans (hb.mono hbw.size)))
    have hla : (met K roots).length ≤ 5000 := Nat.le_trans (HLa.out.len HS.out) HT.out
    rw [HG.out.len] at HRb
    rw [HG.out.len]
    generalize met K roots = A at *
    generalize met S others = Bl at *
    clear hoa hob hbw hbd HC HC' HA HA' x0 x1 x2 xf y0 y1 y2 yf HX HX'
    obtain ⟨W5, rfl⟩ : ∃ W : World, W = wc := ⟨_, rfl⟩
    go_wp2_with fail
    go_loop [11, 12, 13, 14, 15] (fun a _ _ _ _ => ∃ i : Nat, a = .int .i64 i ∧ i ≤ roots.length) (fun a _ _ _ _ => roots.length - (intOf a).toNat)
    case atStart => exact ⟨0, by go_num, Nat.zero_le _⟩
    case round =>
      obtain ⟨i, rfl, hi⟩ := hrel
      have hrl := HRl.out
      by_cases hlt : i < roots.length
      · obtain ⟨x, hx⟩ : ∃ x, roots[i]? = some x := ⟨_, List.getElem?_eq_getElem hlt⟩
        obtain ⟨y, hy⟩ : ∃ y, others[i]? = some y := ⟨_, List.getElem?_eq_getElem (by rw [HG.out.rlen]; exact hlt)⟩
        obtain ⟨g9, o9, e9, hg9, hc9⟩ := RowAt.nth' (HM.out W5 HB5.out).r (by omega)
        obtain ⟨g8, o8, e8, hg8, hc8⟩ := RowAt.nth' (HM'.out W5 HB5.out).r (by rw [HG.out.rlen]; omega)
        have hcx := hc9 i x hx
        have hcy := hc8 i y hy
        have hxr := HRt.out x (List.mem_of_getElem? hx)
        have hyr := HRt'.out y (List.mem_of_getElem? hy)
        have HNa := Lib.hid (number65 W5 W5.heap.size pa ca A x (HRa.out W5 (Below.refl _ _)) (by omega) hxr.2.1 hxr.2.2)
        have hnb := number65 W5 W5.heap.size pb cb Bl y (by have := HRb.out W5 (Below.refl _ _); rwa [HG.out.len]) (by rw [HG.out.len]; omega) hyr.2.1 hyr.2.2
        rw [HG.out.len, (HG.out.rt i x y hx hy).1, (HG.out.rt i x y hx hy).2] at hnb
        have HNb := Lib.hid hnb
        have rl : (i : Int) < (roots.length : Int) := by omega
        have rq : decide ((i : Int) < (roots.length : Int)) = true := decide_eq_true rl
        subst e9 e8
        clear hnb hc9 hc8 hx hy hxr hyr
        generalize nmI A x = r1 at *
        generalize nmW x = r2 at *
        go_wp2_with fail
        refine HNa.out.mono ?_
        rintro e w' ⟨rfl, rfl⟩
        go_wp2_with fail
        refine HNb.out.mono ?_
        rintro e w' ⟨rfl, rfl⟩
        go_wp2_with fail
        go_round
        case rel => exact ⟨i + 1, by go_num, by omega⟩
        case measure => simp [intOf]; omega
      · have rq : decide ((i : Int) < (roots.length : Int)) = false := decide_eq_false (by omega)
        have HOp := Lib.hid ((HM.out W5 HB5.out).opens (Nat.le_trans hB HB5.out.size))
        obtain ⟨x0, x1, x2, xf⟩ := HC5.out W5 (Below.refl _ _)
        unfold OpenSh at HOp
        go_wp2_with fail
        clear hrl hi hlt rq
        refine HOp.out.mono ?_
        rintro e W6 ⟨hb6, p3, c3, p4, c4, rfl, hbk⟩
        have HObK := Lib.hid (fun W (hb : Below W6.heap.size W6 W) v l0 l1 x hx => obj66 W W6.heap.size _ _ _ _ m K hb.size (hbk.below hb (Nat.le_refl _)) v l0 l1 x hx)
        have hb7 : Below W6.heap.size W6 (W6.alloc (.cells #[.slice p1 m.y.length c1, .slice p2 m.o.length c2, .int .i64 m.at_, .slice p3 m.y.length c3, .slice p4 m.o.length c4] 38)) := (Below.refl _ _).alloc (Nat.le_refl _) _
        have HB57 := Lib.hid (hb6.trans (hb7.mono hb6.size))
        have HB67 := Lib.hid hb7
        have HZ7 := Lib.hid (MapKept.heap_alloc W6 (.cells #[.slice p1 m.y.length c1, .slice p2 m.o.length c2, .int .i64 m.at_, .slice p3 m.y.length c3, .slice p4 m.o.length c4] 38)).1
        obtain ⟨y0, y1, y2, yf⟩ := HC5'.out _ HB57.out
        have HOp' := Lib.hid ((HM'.out _ (HB5.out.trans (HB57.out.mono HB5.out.size))).opens (Nat.le_trans hB (Nat.le_trans HB5.out.size HB57.out.size)))
        unfold bookV at HObK
        unfold OpenSh at HOp'
        clear hbk hb6 hb7 HOp x0 x1 x2 xf
        go_wp2_with fail
        generalize (W6.alloc (.cells #[.slice p1 m.y.length c1, .slice p2 m.o.length c2, .int .i64 m.at_, .slice p3 m.y.length c3, .slice p4 m.o.length c4] 38)) = W7 at *
        refine HOp'.out.mono ?_
        rintro e W8 ⟨hb8, p3', c3', p4', c4', rfl, hbk⟩
        have HObS := Lib.hid (fun W (hb : Below W8.heap.size W8 W) v l0 l1 x hx => obj66 W W8.heap.size _ _ _ _ m' S hb.size (hbk.below hb (Nat.le_refl _)) v l0 l1 x hx)
        have hb9 : Below W8.heap.size W8 (W8.alloc (.cells #[.slice p1' m'.y.length c1', .slice p2' m'.o.length c2', .int .i64 m'.at_, .slice p3' m'.y.length c3', .slice p4' m'.o.length c4'] 38)) := (Below.refl _ _).alloc (Nat.le_refl _) _
        have HB79 := Lib.hid (hb8.trans (hb9.mono hb8.size))
        have HB89 := Lib.hid hb9
        have HZ9 := Lib.hid (MapKept.heap_alloc W8 (.cells #[.slice p1' m'.y.length c1', .slice p2' m'.o.length c2', .int .i64 m'.at_, .slice p3' m'.y.length c3', .slice p4' m'.o.length c4'] 38)).1
        unfold bookV at HObS
        clear hbk hb8 hb9 HOp' y0 y1 y2 yf
        go_wp2_with fail
        generalize (W8.alloc (.cells #[.slice p1' m'.y.length c1', .slice p2' m'.o.length c2', .int .i64 m'.at_, .slice p3' m'.y.length c3', .slice p4' m'.o.length c4'] 38)) = W9 at *
        have HB69 := Lib.hid (HB67.out.trans (HB79.out.mono HB67.out.size))
        have HB59 := Lib.hid (HB57.out.trans (HB79.out.mono HB57.out.size))
        have HB09 := Lib.hid (HB5.out.trans (HB59.out.mono HB5.out.size))
        have HZK := Lib.hid (fun W (hb : Below W9.heap.size W9 W) => five_cells (blk_same HZ7.out (HB79.out.trans (hb.mono HB79.out.size))))
        have HZS := Lib.hid (fun W (hb : Below W9.heap.size W9 W) => five_cells (blk_same HZ9.out hb))
        have HL59 := Lib.hid HB59.out.size
        have HL69 := Lib.hid HB69.out.size
        have HL89 := Lib.hid HB89.out.size
        clear HZ7 HZ9 HB57 HB67 HB79
        generalize W6.heap.size = zk at *
        generalize W8.heap.size = zs at *
        go_loopw [20, 21, 22, 23, 24, 25, 26, 27, 28, 29, 30, 31, 32] (fun a _ _ _ _ _ _ _ _ _ _ _ _ wr => ∃ i : Nat, a = .int .i64 i ∧ i ≤ A.length ∧ Hid (Below W9.heap.size W9 wr)) (fun a _ _ _ _ _ _ _ _ _ _ _ _ _ => A.length - (intOf a).toNat)
        case atStart => exact ⟨0, by go_num, Nat.zero_le _, Lib.hid (Below.refl _ _)⟩
        case round =>
          obtain ⟨i, rfl, hi, HBi⟩ := hrel
          by_cases hlt : i < A.length
          · obtain ⟨x, hx⟩ : ∃ x, A[i]? = some x := ⟨_, List.getElem?_eq_getElem hlt⟩
            obtain ⟨y, hy⟩ : ∃ y, Bl[i]? = some y := ⟨_, List.getElem?_eq_getElem (by rw [HG.out.len]; exact hlt)⟩
            obtain ⟨g9, o9, e9, hg9, hc9⟩ := RowAt.nth' (HRa.out W5 (Below.refl _ _)) (by omega)
            obtain ⟨g8, o8, e8, hg8, hc8⟩ := RowAt.nth' (HRb.out W5 (Below.refl _ _)) (by rw [HG.out.len]; omega)
            have hcx5 := hc9 i x hx
            have hcy5 := hc8 i y hy
            have HCx := Lib.hid (fun W (hb : Below W9.heap.size W9 W) => ((HB59.out.trans (hb.mono HL59.out)).cell (p := ⟨g9, o9 + i, none⟩) hg9).trans hcx5)
            have HCy := Lib.hid (fun W (hb : Below W9.heap.size W9 W) => ((HB59.out.trans (hb.mono HL59.out)).cell (p := ⟨g8, o8 + i, none⟩) hg8).trans hcy5)
            have hpx := HLa.out.2 x (List.mem_of_getElem? hx)
            have hpy := HLb.out.2 y (List.mem_of_getElem? hy)
            have hpt := pw_ob HS.out hpx
            have hpt' := pw_ob HS'.out hpy
            have rl : (i : Int) < (A.length : Int) := by omega
            have rq : decide ((i : Int) < (A.length : Int)) = true := decide_eq_true rl
            have hbd : Below W9.heap.size W9 wr.drew := below_drewN HBi.out 1
            have HO1 := Lib.hid (HObK.out wr.drew (HB69.out.trans (hbd.mono HL69.out)) x hpx.2.1 hpx.2.2 (ob K x) hpt)
            have ho2 := fun W (hb : Below W9.heap.size W9 W) => HObS.out W (HB89.out.trans (hb.mono HL89.out)) y hpy.2.1 hpy.2.2 (ob S y) hpt'
            have hkd := HG.out.kd i x y hx hy
            rw [hkd.1, hkd.2] at ho2
            have HO2 := Lib.hid ho2
            have HEq := Lib.hid (HG.out.eq i x y hx hy)
            have HLL := Lib.hid hkd.2
            have hobj : IsObj (ob K x) := Bk.isObj HS.out.y HS.out.o hpt.2.1.mem
            have HOk : Hid (fmd (knd (ob K x)) (wds (ob K x)) = true) := Lib.hid (HS.out.ok _ _ _ hpt.2.1).1
            have HKr := Lib.hid (knd_rng hobj)
            have HWl : Hid ((wds (ob K x)).length ≤ 5000) := Lib.hid (Nat.le_trans (wds_len hobj) (Nat.le_trans (Bk.lenOb HS.out.y HS.out.o hpt.2.1) HT.out))
            have HWd : Hid (Wds (wds (ob K x))) := Lib.hid (fun v hv => HWk.out _ _ hpt.2.1.mem v (wds_mem hv))
            have HWd' : Hid (Wds (wds (ob S y))) := Lib.hid (fun v hv => HWk'.out _ _ hpt'.2.1.mem v (wds_mem hv))
            have HFx : Hid (fxd (knd (ob K x)) (wds (ob K x)).length ≤ 5000) := Lib.hid (Nat.le_trans (fxd_le _ _) HWl.out)
            have HFo := Lib.hid (fun W p c (hb : zk ≤ W.heap.size) (hu : WAt W zk (.slice p (wds (ob K x)).length c) (wds (ob K x))) => follow67 W zk p c (knd (ob K x)) (wds (ob K x)) hb hu HWd.out (by have := HWl.out; omega) HKr.out.1 HKr.out.2 HOk.out)
            clear ho2 hkd hpt hpt' hpx hpy hx hy hc9 hc8 hcx5 hcy5 hobj HOk HKr
            generalize wds (ob S y) = L' at *
            generalize wds (ob K x) = L at *
            generalize knd (ob K x) = k at *
            generalize fxd k L.length = fx at *
            subst e9 e8
            have hcx := HCx.out wr HBi.out
            obtain ⟨z0, z1, z2, z3, z4, zf⟩ := HZK.out wr HBi.out
            go_wp2_with fail
            go_region_held3 (fun w' => w'.cell? ⟨zk, 0, none⟩ = some (.slice p1 m.y.length c1) ∧ w'.cell? ⟨zk, 1, none⟩ = some (.slice p2 m.o.length c2) ∧ w'.cell? ⟨zk, 2, none⟩ = some (.int .i64 m.at_) ∧ w'.cell? ⟨zk, 3, none⟩ = some (.slice p3 m.y.length c3) ∧ w'.cell? ⟨zk, 4, none⟩ = some (.slice p4 m.o.length c4) ∧ w'.cell? ⟨g9, o9 + i, none⟩ = some (.int .u64 x)) (go_keep)
              ((go_at_call 31; refine HO1.out.mono ?_; rintro e3 Wa ⟨hba, pw, cw, rfl, hua⟩; have HUa := Lib.hid hua; have HBa := Lib.hid (hbd.trans (hba.mono hbd.size)); have hca := HCx.out Wa HBa.out; obtain ⟨s0, s1, s2, s3, s4, sf⟩ := HZK.out Wa HBa.out; clear hba hua))
            clear hcx z0 z1 z2 z3 z4 zf hca s0 s1 s2 s3 s4 sf hbd HO1
            have hbe : Below W9.heap.size W9 Wa.drew := below_drewN HBa.out 1
            have HO3 := Lib.hid (HO2.out Wa.drew hbe)
            have HUd : Hid (WAt Wa.drew zk (.slice pw L.length cw) L) := HUa
            have hcy := HCy.out Wa HBa.out
            obtain ⟨z0, z1, z2, z3, z4, zf⟩ := HZS.out Wa HBa.out
            go_wp2_with fail
            go_region_held3 (fun w' => w'.cell? ⟨zs, 0, none⟩ = some (.slice p1' m'.y.length c1') ∧ w'.cell? ⟨zs, 1, none⟩ = some (.slice p2' m'.o.length c2') ∧ w'.cell? ⟨zs, 2, none⟩ = some (.int .i64 m'.at_) ∧ w'.cell? ⟨zs, 3, none⟩ = some (.slice p3' m'.y.length c3') ∧ w'.cell? ⟨zs, 4, none⟩ = some (.slice p4' m'.o.length c4') ∧ w'.cell? ⟨g8, o8 + i, none⟩ = some (.int .u64 y)) (go_keep)
              ((go_at_call 31; refine HO3.out.mono ?_; rintro e4 Wb ⟨hbb, pv, cv, rfl, hub⟩; have HUb := Lib.hid hub; have HBb := Lib.hid (hbe.trans (hbb.mono hbe.size)); have HUc := Lib.hid (HUd.out.below hbb (Nat.le_trans HL69.out hbe.size)); have hcb := HCy.out Wb HBb.out; obtain ⟨s0, s1, s2, s3, s4, sf⟩ := HZS.out Wb HBb.out; clear hbb hub))
            clear hcy z0 z1 z2 z3 z4 zf hcb s0 s1 s2 s3 s4 sf hbe HO3 HO2 HBa HUa HUd
            have HF := Lib.hid (HFo.out Wb pw cw (Nat.le_trans HL69.out HBb.out.size) HUc.out)
            go_wp2_with fail
            refine HF.out.mono ?_
            rintro e Wc ⟨rfl, hbc⟩
            have HBc := Lib.hid (HBb.out.trans (hbc.mono HBb.out.size))
            have HUe := Lib.hid (HUc.out.below hbc (Nat.le_trans HL69.out HBb.out.size))
            have HVe := Lib.hid (HUb.out.below hbc (Nat.le_trans HL89.out HBb.out.size))
            have HB5c := Lib.hid (HB59.out.trans (HBc.out.mono HL59.out))
            clear hbc HF HFo HUc HUb HBb HCx HCy
            go_wp2_with fail
            go_loopw [28, 29, 30, 31, 32] (fun a _ _ _ _ wr => ∃ q : Nat, a = .int .i64 q ∧ q ≤ L.length ∧ Hid (Below W9.heap.size Wc wr)) (fun a _ _ _ _ _ => L.length - (intOf a).toNat)
            case atStart => exact ⟨0, by go_num, Nat.zero_le _, Lib.hid (Below.refl _ _)⟩
            case round =>
              obtain ⟨q, rfl, hq, HBq⟩ := hrel
              have hWl := HWl.out
              have hFx := HFx.out
              by_cases hql : q < L.length
              · obtain ⟨u, hu⟩ : ∃ u, L[q]? = some u := ⟨_, List.getElem?_eq_getElem hql⟩
                obtain ⟨v, hv⟩ : ∃ v, L'[q]? = some v := ⟨_, List.getElem?_eq_getElem (by rw [HLL.out]; exact hql)⟩
                obtain ⟨g7, o7, e7, hg7, hc7⟩ := RowAt.nth' HUe.out (by omega)
                obtain ⟨g6, o6, e6, hg6, hc6⟩ := RowAt.nth' HVe.out (by rw [HLL.out]; omega)
                have hcu := (HBq.out.cell (p := ⟨g7, o7 + q, none⟩) (Nat.lt_of_lt_of_le hg7 HL69.out)).trans (hc7 q u hu)
                have hcv := (HBq.out.cell (p := ⟨g6, o6 + q, none⟩) (Nat.lt_of_lt_of_le hg6 HL89.out)).trans (hc6 q v hv)
                have hur := HWd.out u (List.mem_of_getElem? hu)
                have hvr := HWd'.out v (List.mem_of_getElem? hv)
                have HNa := Lib.hid (fun W (hb : Below W5.heap.size W5 W) => number65n W W5.heap.size _ _ ca A u rfl (HRa.out W hb) (by omega) hur.1 hur.2)
                have hnb := fun W (hb : Below W5.heap.size W5 W) => number65n W W5.heap.size _ _ cb Bl v HG.out.len (HRb.out W hb) (by rw [HG.out.len]; omega) hvr.1 hvr.2
                have hee := HEq.out q u v hu hv
                have hb5d : ∀ nd, Below W5.heap.size W5 (wr.drewN nd) := fun nd => below_drewN (HB5c.out.trans (HBq.out.mono HL59.out)) nd
                have HBqd : ∀ nd, Hid (Below W9.heap.size Wc (wr.drewN nd)) := fun nd => Lib.hid (below_drewN HBq.out nd)
                have rlq : (q : Int) < (L.length : Int) := by omega
                have rqq : decide ((q : Int) < (L.length : Int)) = true := decide_eq_true rlq
                subst e7 e6
                clear hc7 hc6 hu hv hur hvr
                by_cases hqf : q < fx
                · have hvu : v = u := hee.1 hqf
                  subst hvu
                  have HNb := Lib.hid hnb
                  have q1 : decide ((q : Int) < (fx : Int)) = true := decide_eq_true (by omega)
                  have q2 : decide ((fx : Int) ≤ (q : Int)) = false := decide_eq_false (by omega)
                  clear hee hnb
                  generalize nmI A v = r1 at *
                  generalize nmI Bl v = r3 at *
                  generalize nmW v = r2 at *
                  go_wp2_with fail
                  go_quiet (fail)
                  go_wp2_with fail
                  refine (HNa.out _ (hb5d _)).mono ?_
                  rintro e w' ⟨rfl, rfl⟩
                  go_wp2_with fail
                  refine (HNb.out _ (hb5d _)).mono ?_
                  rintro e w' ⟨rfl, rfl⟩
                  go_wp2_with fail
                  go_roundw
                  case rel => exact ⟨q + 1, by go_num, by omega, HBqd _⟩
                  case measure => simp [intOf]; omega
                · rw [(hee.2 (by omega)).1, (hee.2 (by omega)).2] at hnb
                  have HNb := Lib.hid hnb
                  have q1 : decide ((q : Int) < (fx : Int)) = false := decide_eq_false (by omega)
                  have q2 : decide ((fx : Int) ≤ (q : Int)) = true := decide_eq_true (by omega)
                  clear hee hnb
                  generalize nmI A u = r1 at *
                  generalize nmW u = r2 at *
                  go_wp2_with fail
                  go_quiet (fail)
                  go_wp2_with fail
                  refine (HNa.out _ (hb5d _)).mono ?_
                  rintro e w' ⟨rfl, rfl⟩
                  go_wp2_with fail
                  refine (HNb.out _ (hb5d _)).mono ?_
                  rintro e w' ⟨rfl, rfl⟩
                  go_wp2_with fail
                  go_roundw
                  case rel => exact ⟨q + 1, by go_num, by omega, HBqd _⟩
                  case measure => simp [intOf]; omega
              · have rqq : decide ((q : Int) < (L.length : Int)) = false := decide_eq_false (by omega)
                have HB9q := Lib.hid (HBc.out.trans HBq.out)
                go_wp2_with fail
                go_roundw
                case rel => exact ⟨i + 1, by go_num, by omega, HB9q⟩
                case measure => simp [intOf]; omega
          · have rq : decide ((i : Int) < (A.length : Int)) = false := decide_eq_false (by omega)
            have HB99 := Lib.hid (HB09.out.trans (HBi.out.mono HB09.out.size))
            go_wp2_with fail
            go_ret
            exact ⟨rfl, HB99.out⟩
end Go.Proofs.YtegffanlehaloaaGreat.cl
