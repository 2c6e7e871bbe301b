/- Several texts in one, one behind the other: CsB. No condition beyond theirs. -/
import Derived.Test.YtegffanlehaloaaIsP
import Derived.Test.YtegffanlehaloaaGw
import Derived.Test.YtegffanlehaloaaGk
/- The reference's Reach. Conditions: as said. -/
namespace Go.Proofs.Ytegffanlehaloaa.cl
open Go.RowKit mem words
set_option linter.unusedVariables false
set_option linter.unusedSimpArgs false
set_option maxHeartbeats 4000000
set_option maxRecDepth 100000
def RowP (L : List Int) (w : World) (e : Ending) (w' : World) : Prop := ∃ v, e = .returned v ∧ WAt w' w'.heap.size v L ∧ Below w.heap.size w w'
theorem ins_len (x : Int) (l : List Int) : (ins x l).length = l.length + 1 := (ins_perm x l).length_eq
theorem insAll_len (l : List Int) : (insAll l).length = l.length := (insAll_perm l).length_eq
theorem row_take {w : World} {B : Nat} {p : Option Addr} {c : Nat} {l : List Int} (h : WAt w B (.slice p l.length c) l) {k : Nat} (hk : k ≤ l.length) : WAt w B (.slice p k c) (l.take k) := by
  obtain ⟨p', c', e, h1, h2, h3⟩ := h
  simp only [Value.slice.injEq, true_and] at e
  obtain ⟨rfl, rfl⟩ := e
  have hl : (l.take k).length = k := by rw [List.length_take]; omega
  refine ⟨p, c, by rw [hl], by rw [hl]; omega, h2, fun hn => ?_⟩
  have h0 : 0 < (l.take k).length := List.length_pos_iff.2 hn
  obtain ⟨g, o, e', hg, hc⟩ := h3 (by intro e; subst e; simp at h0)
  refine ⟨g, o, e', hg, fun j hj => ?_⟩
  rw [hc j (by omega), List.getElem_take]
theorem row_drop {w : World} {B g c : Nat} {l : List Int} (h : WAt w B (.slice (some ⟨g, 0, none⟩) l.length c) l) {k : Nat} (hk : k ≤ l.length) : WAt w B (.slice (some ⟨g, k, none⟩) (l.length - k) (c - k)) (l.drop k) := by
  obtain ⟨p', c', e, h1, h2, h3⟩ := h
  simp only [Value.slice.injEq, true_and] at e
  obtain ⟨rfl, rfl⟩ := e
  have hl : (l.drop k).length = l.length - k := List.length_drop
  refine ⟨_, c - k, by rw [hl], by rw [hl]; omega, by omega, fun hn => ?_⟩
  have h0 : 0 < (l.drop k).length := List.length_pos_iff.2 hn
  obtain ⟨g', o, e', hg, hc⟩ := h3 (by intro e; subst e; simp at h0)
  simp only [Option.some.injEq, Addr.mk.injEq, and_true] at e'
  obtain ⟨rfl, rfl⟩ := e'
  refine ⟨g, k, rfl, hg, fun j hj => ?_⟩
  have := hc (k + j) (by omega)
  rw [Nat.zero_add] at this
  rw [this, List.getElem_drop]
theorem row_nil (w : World) (B : Nat) (p : Option Addr) (c : Nat) (hc : c ≤ maxLen) : WAt w B (.slice p 0 c) [] := ⟨p, c, rfl, Nat.zero_le _, hc, fun h => absurd rfl h⟩
theorem app_below {w0 w w' : World} {v v' : Value} {l xs : List Int} (hb : Below w0.heap.size w0 w) (hown : WOwn w w0.heap.size v l) (ha : AppW w w0.heap.size v l xs v' w') : Below w0.heap.size w0 w' :=
  hb.grown ha.grown hb.size (fun k hk => (hown.ge k hk).1)
theorem reach27 (w : World) (B : Nat) (v1 v2 vr : Value) (m : Mm) (K : Bk) (roots : List Int) (hB : B ≤ w.heap.size) (h1 : WAt w B v1 m.y) (h2 : WAt w B v2 m.o) (w1 : Wds m.y) (w2 : Wds m.o) (ht : m.y.length + m.o.length ≤ 5000) (hs : Sh m K) (hr : WAt w B vr roots) (hrt : ∀ v ∈ roots, Tm K v ∧ 0 ≤ v ∧ v ≤ 18446744073709551615) (hrl : roots.length ≤ 100000) (hlw : Wds (met K roots)) (hll : (met K roots).length ≤ 5000) :
    Calls Try.prog 27 #[.agg #[v1, v2, .int .i64 m.at_], vr] w (RowP (insAll (met K roots)) w) := by
  have HMt := Lib.hid (fun W (hb : Below w.heap.size w W) => met48 W B v1 v2 vr m K roots (Nat.le_trans hB hb.size) (h1.below hb hB) (h2.below hb hB) w1 w2 ht hs (hr.below hb hB) hrt hrl)
  obtain ⟨p1, c1, e1, _⟩ := id h1
  obtain ⟨p2, c2, e2, _⟩ := id h2
  obtain ⟨pr, cr, er, _⟩ := id hr
  subst e1 e2 er
  clear h1 h2 hr
  have hb1 : Below w.heap.size w (w.alloc (.cells #[.slice p1 m.y.length c1, .slice p2 m.o.length c2, .int .i64 m.at_] 24)) := belowA (Below.refl _ _) _
  have HB1 := Lib.hid hb1
  clear hb1
  go_enter Try.func27, Try.ntmps27
  go_wp2_with fail
  refine (HMt.out _ HB1.out).mono ?_
  generalize (w.alloc (.cells #[.slice p1 m.y.length c1, .slice p2 m.o.length c2, .int .i64 m.at_] 24)) = W1 at *
  rintro e W2 ⟨vl, rfl, hl, hb2⟩
  obtain ⟨pl, cl, rfl⟩ := hl.shape
  have HL := Lib.hid hl.row
  have HB2 := Lib.hid (below_call HB1.out hb2)
  have HWd := Lib.hid hlw
  clear hl hb2 HMt hlw
  generalize met K roots = L at *
  go_wp2_with fail
  go_loopw [5, 7, 8, 9, 10, 11, 12, 13] (fun a b _ _ _ _ _ _ wr => ∃ (i : Nat) (vo : Value), a = vo ∧ b = .int .i64 i ∧ i ≤ L.length ∧ Hid (WOwn wr W2.heap.size vo (insAll (L.take i))) ∧ Hid (Below W2.heap.size W2 wr)) (fun _ b _ _ _ _ _ _ _ => L.length - (intOf b).toNat)
  case atStart => exact ⟨0, .slice none 0 0, rfl, rfl, Nat.zero_le _, Lib.hid (WOwn.nil W2 W2.heap.size), Lib.hid (Below.refl _ _)⟩
  case round =>
    obtain ⟨i, vo, ha, rfl, hi, HO, HB⟩ := hrel
    have ha := ha.symm
    subst ha
    by_cases hlt : i < L.length
    · obtain ⟨g9, o9, e9, hg9, hc9⟩ := RowAt.nth' (HL.out.below HB.out (Nat.le_refl _)) (by omega)
      obtain ⟨x, hx⟩ : ∃ x, L[i]? = some x := ⟨_, List.getElem?_eq_getElem hlt⟩
      have hcx := hc9 i x hx
      have hxr := HWd.out x (List.mem_of_getElem? hx)
      have rl : (i : Int) < (L.length : Int) := by omega
      have rq : decide ((i : Int) < (L.length : Int)) = true := decide_eq_true rl
      have HPl := Lib.hid (fun W => place49 W x hxr.1 hxr.2)
      have HTk : Hid (insAll (L.take (i + 1)) = ins x (insAll (L.take i))) := Lib.hid (by
        obtain ⟨hk, he⟩ := List.getElem?_eq_some_iff.1 hx
        rw [List.take_succ_eq_append_getElem hk, he, insAll_snoc])
      have hol : (insAll (L.take i)).length = i := by rw [insAll_len, List.length_take]; omega
      have HOW : Hid (Wds (insAll (L.take i))) := Lib.hid (fun v hv => HWd.out v (List.mem_of_mem_take ((insAll_perm _).mem_iff.1 hv)))
      subst e9
      clear hc9 hx hxr
      generalize insAll (L.take i) = O at *
      have HOl := Lib.hid hol
      clear hol
      have HCx := Lib.hid (fun W (hb : Below wr.heap.size wr W) => (hb.cell (p := ⟨g9, o9 + i, none⟩) (Nat.lt_of_lt_of_le hg9 HB.out.size)).trans hcx)
      rcases HO.out.form with ⟨e1, e2⟩ | ⟨gO, co, eo, hgb, hgl, hoc, hom⟩
      · have HO0 := Lib.hid e2
        subst e1
        obtain ⟨wo, rfl⟩ : ∃ wo : World, wo = wr := ⟨_, rfl⟩
        have HIns : Hid ([] ++ [x] ++ [] = ins x O) := Lib.hid (by rw [e2]; rfl)
        have hrn : ∀ W, WAt W wo.heap.size (.slice none 0 0) [] := fun W => ⟨none, 0, rfl, Nat.le_refl _, by unfold maxLen; omega, fun h => absurd rfl h⟩
        have HRt : Hid (∀ W, Below wo.heap.size wo W → WAt W wo.heap.size (.slice none 0 0) []) := Lib.hid (fun W _ => hrn W)
        have HRd := HRt
        have HE0 : Hid (WOwn wo wo.heap.size (.slice none 0 0) []) := Lib.hid (WOwn.nil _ _)
        have HS0 : Hid (wo.heap.size ≤ wo.heap.size) := Lib.hid (Nat.le_refl _)
        have HN0 : Hid (([] : List Int).length + ([] : List Int).length ≤ 400000) := Lib.hid (by simp)
        have HN1 : Hid (([] ++ [] : List Int).length + [x].length ≤ 400000) := Lib.hid (by simp)
        have HN2 : Hid (([] ++ [] ++ [x] : List Int).length + ([] : List Int).length ≤ 400000) := Lib.hid (by simp)
        clear e2 hrn HO hg9
        go_wp2_with fail
        refine (HPl.out _).mono ?_
        rintro e w' ⟨rfl, rfl⟩
        go_wp2_with fail
        clear hcx
        go_loop [10, 11, 12] (fun a _ _ => a = .int .i64 0) (fun _ _ _ => 0)
        case atStart => rfl
        case round =>
          obtain rfl := hrel
          go_wp2_with (first
            | (at_builtin; refine wpList_append_area rfl (.tmp 60) (.tmp 63) rfl rfl HE0.out HS0.out rfl (HRt.out _ (Below.refl _ _)) HN0.out ?_; intro v' w4 ha; have HA := Lib.hid ha; have HB4 := Lib.hid (app_below (Below.refl _ wo) HE0.out ha); obtain ⟨pn, nn, cn, rfl⟩ := own_slice ha.own; have HB4x := Lib.hid (belowA HB4.out (.cells #[.int .u64 x] 34)); have HO4 := Lib.hid (ha.own.below (belowA (Below.refl _ _) (.cells #[.int .u64 x] 34))); have hc4 := HCx.out w4 HB4.out; clear ha)
            | (at_builtin; refine wpList_append_words rfl (.tmp 65) (.tmp 70) rfl rfl HO4.out HB4x.out.size ⟨w4.heap.size, 0, none⟩ 1 1 [x] rfl rfl (new_word _ _) HN1.out ?_; intro v' w5 ha; have HB5 := Lib.hid (app_below HB4x.out HO4.out ha); obtain ⟨pm, nm, cm, rfl⟩ := own_slice ha.own; have HO5 := Lib.hid ha.own; clear ha)
            | (at_builtin; refine wpList_append_area rfl (.tmp 72) (.tmp 75) rfl rfl HO5.out HB5.out.size rfl (HRd.out _ HB5.out) HN2.out ?_; intro v' w6 ha; have HB6 := Lib.hid (app_below HB5.out HO5.out ha); obtain ⟨pq, nq, cq, rfl⟩ := own_slice ha.own; have HO6 := Lib.hid ha.own; clear ha))
          have HO7 := Lib.hid (row_base HO6.out (base' := W2.heap.size) (fun k hk => Nat.le_trans HB.out.size (HO6.out.ge k hk).1))
          rw [List.nil_append, HIns.out, ← HTk.out] at HO7
          have HB7 := Lib.hid (below_call HB.out HB6.out)
          clear HB6 HO6 HB5 HO5 HB4 HB4x HO4 HA hc4
          go_roundw
          case rel => exact ⟨i + 1, _, rfl, by go_num, by omega, HO7, HB7⟩
          case measure => simp [intOf]; omega
      · subst eo
        obtain ⟨wo, rfl⟩ : ∃ wo : World, wo = wr := ⟨_, rfl⟩
        have HOc := Lib.hid (fun j y (hj : O[j]? = some y) => (by
          obtain ⟨h1, h2⟩ := List.getElem?_eq_some_iff.1 hj
          rw [HO.out.cells h1, h2] : wo.cell? ⟨gO, j, none⟩ = some (.int .u64 y)))
        have HOr := Lib.hid (HO.out.row)
        have HE0 : Hid (WOwn wo wo.heap.size (.slice none 0 0) []) := Lib.hid (WOwn.nil _ _)
        have HS0 : Hid (wo.heap.size ≤ wo.heap.size) := Lib.hid (Nat.le_refl _)
        have hlo : O.length ≤ 5000 := by have := HOl.out; omega
        clear HO hg9
        go_wp2_with fail
        refine (HPl.out _).mono ?_
        rintro e w' ⟨rfl, rfl⟩
        go_wp2_with fail
        clear hcx
        go_loop [10, 11, 12] (fun a _ _ => ∃ k : Nat, a = .int .i64 k ∧ k ≤ O.length ∧ Hid (∀ j y, j < k → O[j]? = some y → pltB x y = false)) (fun a _ _ => O.length - (intOf a).toNat)
        case atStart => exact ⟨0, rfl, Nat.zero_le _, Lib.hid (fun j y h => by omega)⟩
        case round =>
          obtain ⟨k, rfl, hk, HNo⟩ := hrel
          have hkc : k ≤ co := Nat.le_trans hk hoc
          have HRt := Lib.hid (fun W (hb : Below wo.heap.size wo W) => row_take (HOr.out.below hb (Nat.le_refl _)) hk)
          have HN0 : Hid (([] : List Int).length + (O.take k).length ≤ 400000) := Lib.hid (by rw [List.length_take]; simp; omega)
          have HN1 : Hid (([] ++ O.take k).length + [x].length ≤ 400000) := Lib.hid (by simp; omega)
          by_cases hkl : k < O.length
          · obtain ⟨y, hy⟩ : ∃ y, O[k]? = some y := ⟨_, List.getElem?_eq_getElem hkl⟩
            have hcy := HOc.out k y hy
            have hyr := HOW.out y (List.mem_of_getElem? hy)
            have rl2 : (k : Int) < (O.length : Int) := by omega
            have rq2 : decide ((k : Int) < (O.length : Int)) = true := decide_eq_true rl2
            have HPy := Lib.hid (fun W => place49 W y hyr.1 hyr.2)
            have HPlt : Hid (pltB x y = ((!pOld x && pOld y) || ((pOld x == pOld y) && decide (pIx x < pIx y)))) := Lib.hid rfl
            have HNn : Hid (pltB x y = false → ∀ j z, j < k + 1 → O[j]? = some z → pltB x z = false) := Lib.hid (fun h j z hj hz => by
              by_cases e : j = k
              · subst e; rw [hy] at hz; rw [← Option.some.inj hz]; exact h
              · exact HNo.out j z (by omega) hz)
            have HNy : Hid (pltB x y = true → O.take k ++ [x] ++ O.drop k = ins x O) := Lib.hid (fun h => ins_at hk HNo.out (fun a ha => by rw [hy] at ha; rw [← Option.some.inj ha]; exact h))
            have hck : ¬ co = k := by omega
            have HRd := Lib.hid (fun W (hb : Below wo.heap.size wo W) => row_drop (HOr.out.below hb (Nat.le_refl _)) hk)
            have HN2 : Hid (([] ++ O.take k ++ [x]).length + (O.drop k).length ≤ 400000) := Lib.hid (by simp; omega)
            generalize pltB x y = pl9 at *
            clear hy hyr HNo
            generalize pOld x = bx at *
            generalize pIx x = ix at *
            generalize pOld y = by_ at *
            generalize pIx y = iy at *
            cases bx <;> cases by_
            · by_cases hii : ix < iy
              · have rq3 : decide (ix < iy) = true := decide_eq_true hii
                have HIns := Lib.hid (HNy.out (by rw [HPlt.out, rq3]; rfl))
                go_wp2_with fail
                refine (HPy.out _).mono ?_
                rintro e w' ⟨rfl, rfl⟩
                go_wp2_with (first
                  | (at_builtin; refine wpList_append_area rfl (.tmp 60) (.tmp 63) rfl rfl HE0.out HS0.out rfl (HRt.out _ (Below.refl _ _)) HN0.out ?_; intro v' w4 ha; have HA := Lib.hid ha; have HB4 := Lib.hid (app_below (Below.refl _ wo) HE0.out ha); obtain ⟨pn, nn, cn, rfl⟩ := own_slice ha.own; have HB4x := Lib.hid (belowA HB4.out (.cells #[.int .u64 x] 34)); have HO4 := Lib.hid (ha.own.below (belowA (Below.refl _ _) (.cells #[.int .u64 x] 34))); have hc4 := HCx.out w4 HB4.out; clear ha)
                  | (at_builtin; refine wpList_append_words rfl (.tmp 65) (.tmp 70) rfl rfl HO4.out HB4x.out.size ⟨w4.heap.size, 0, none⟩ 1 1 [x] rfl rfl (new_word _ _) HN1.out ?_; intro v' w5 ha; have HB5 := Lib.hid (app_below HB4x.out HO4.out ha); obtain ⟨pm, nm, cm, rfl⟩ := own_slice ha.own; have HO5 := Lib.hid ha.own; clear ha)
                  | (at_builtin; refine wpList_append_area rfl (.tmp 72) (.tmp 75) rfl rfl HO5.out HB5.out.size rfl (HRd.out _ HB5.out) HN2.out ?_; intro v' w6 ha; have HB6 := Lib.hid (app_below HB5.out HO5.out ha); obtain ⟨pq, nq, cq, rfl⟩ := own_slice ha.own; have HO6 := Lib.hid ha.own; clear ha))
                have HO7 := Lib.hid (row_base HO6.out (base' := W2.heap.size) (fun k hk => Nat.le_trans HB.out.size (HO6.out.ge k hk).1))
                rw [List.nil_append, HIns.out, ← HTk.out] at HO7
                have HB7 := Lib.hid (below_call HB.out HB6.out)
                clear HB6 HO6 HB5 HO5 HB4 HB4x HO4 HA hc4
                go_roundw
                case rel => exact ⟨i + 1, _, rfl, by go_num, by omega, HO7, HB7⟩
                case measure => simp [intOf]; omega
              · have rq3 : decide (ix < iy) = false := decide_eq_false hii
                have HNn2 := Lib.hid (HNn.out (by rw [HPlt.out, rq3]; rfl))
                go_wp2_with fail
                refine (HPy.out _).mono ?_
                rintro e w' ⟨rfl, rfl⟩
                go_wp2_with fail
                go_round
                case rel => exact ⟨k + 1, by go_num, by omega, HNn2⟩
                case measure => simp [intOf]; omega
            · have HIns := Lib.hid (HNy.out (by rw [HPlt.out]; rfl))
              go_wp2_with fail
              refine (HPy.out _).mono ?_
              rintro e w' ⟨rfl, rfl⟩
              go_wp2_with (first
                | (at_builtin; refine wpList_append_area rfl (.tmp 60) (.tmp 63) rfl rfl HE0.out HS0.out rfl (HRt.out _ (Below.refl _ _)) HN0.out ?_; intro v' w4 ha; have HA := Lib.hid ha; have HB4 := Lib.hid (app_below (Below.refl _ wo) HE0.out ha); obtain ⟨pn, nn, cn, rfl⟩ := own_slice ha.own; have HB4x := Lib.hid (belowA HB4.out (.cells #[.int .u64 x] 34)); have HO4 := Lib.hid (ha.own.below (belowA (Below.refl _ _) (.cells #[.int .u64 x] 34))); have hc4 := HCx.out w4 HB4.out; clear ha)
                | (at_builtin; refine wpList_append_words rfl (.tmp 65) (.tmp 70) rfl rfl HO4.out HB4x.out.size ⟨w4.heap.size, 0, none⟩ 1 1 [x] rfl rfl (new_word _ _) HN1.out ?_; intro v' w5 ha; have HB5 := Lib.hid (app_below HB4x.out HO4.out ha); obtain ⟨pm, nm, cm, rfl⟩ := own_slice ha.own; have HO5 := Lib.hid ha.own; clear ha)
                | (at_builtin; refine wpList_append_area rfl (.tmp 72) (.tmp 75) rfl rfl HO5.out HB5.out.size rfl (HRd.out _ HB5.out) HN2.out ?_; intro v' w6 ha; have HB6 := Lib.hid (app_below HB5.out HO5.out ha); obtain ⟨pq, nq, cq, rfl⟩ := own_slice ha.own; have HO6 := Lib.hid ha.own; clear ha))
              have HO7 := Lib.hid (row_base HO6.out (base' := W2.heap.size) (fun k hk => Nat.le_trans HB.out.size (HO6.out.ge k hk).1))
              rw [List.nil_append, HIns.out, ← HTk.out] at HO7
              have HB7 := Lib.hid (below_call HB.out HB6.out)
              clear HB6 HO6 HB5 HO5 HB4 HB4x HO4 HA hc4
              go_roundw
              case rel => exact ⟨i + 1, _, rfl, by go_num, by omega, HO7, HB7⟩
              case measure => simp [intOf]; omega
            · have HNn2 := Lib.hid (HNn.out (by rw [HPlt.out]; rfl))
              go_wp2_with fail
              refine (HPy.out _).mono ?_
              rintro e w' ⟨rfl, rfl⟩
              go_wp2_with fail
              go_round
              case rel => exact ⟨k + 1, by go_num, by omega, HNn2⟩
              case measure => simp [intOf]; omega
            · by_cases hii : ix < iy
              · have rq3 : decide (ix < iy) = true := decide_eq_true hii
                have HIns := Lib.hid (HNy.out (by rw [HPlt.out, rq3]; rfl))
                go_wp2_with fail
                refine (HPy.out _).mono ?_
                rintro e w' ⟨rfl, rfl⟩
                go_wp2_with (first
                  | (at_builtin; refine wpList_append_area rfl (.tmp 60) (.tmp 63) rfl rfl HE0.out HS0.out rfl (HRt.out _ (Below.refl _ _)) HN0.out ?_; intro v' w4 ha; have HA := Lib.hid ha; have HB4 := Lib.hid (app_below (Below.refl _ wo) HE0.out ha); obtain ⟨pn, nn, cn, rfl⟩ := own_slice ha.own; have HB4x := Lib.hid (belowA HB4.out (.cells #[.int .u64 x] 34)); have HO4 := Lib.hid (ha.own.below (belowA (Below.refl _ _) (.cells #[.int .u64 x] 34))); have hc4 := HCx.out w4 HB4.out; clear ha)
                  | (at_builtin; refine wpList_append_words rfl (.tmp 65) (.tmp 70) rfl rfl HO4.out HB4x.out.size ⟨w4.heap.size, 0, none⟩ 1 1 [x] rfl rfl (new_word _ _) HN1.out ?_; intro v' w5 ha; have HB5 := Lib.hid (app_below HB4x.out HO4.out ha); obtain ⟨pm, nm, cm, rfl⟩ := own_slice ha.own; have HO5 := Lib.hid ha.own; clear ha)
                  | (at_builtin; refine wpList_append_area rfl (.tmp 72) (.tmp 75) rfl rfl HO5.out HB5.out.size rfl (HRd.out _ HB5.out) HN2.out ?_; intro v' w6 ha; have HB6 := Lib.hid (app_below HB5.out HO5.out ha); obtain ⟨pq, nq, cq, rfl⟩ := own_slice ha.own; have HO6 := Lib.hid ha.own; clear ha))
                have HO7 := Lib.hid (row_base HO6.out (base' := W2.heap.size) (fun k hk => Nat.le_trans HB.out.size (HO6.out.ge k hk).1))
                rw [List.nil_append, HIns.out, ← HTk.out] at HO7
                have HB7 := Lib.hid (below_call HB.out HB6.out)
                clear HB6 HO6 HB5 HO5 HB4 HB4x HO4 HA hc4
                go_roundw
                case rel => exact ⟨i + 1, _, rfl, by go_num, by omega, HO7, HB7⟩
                case measure => simp [intOf]; omega
              · have rq3 : decide (ix < iy) = false := decide_eq_false hii
                have HNn2 := Lib.hid (HNn.out (by rw [HPlt.out, rq3]; rfl))
                go_wp2_with fail
                refine (HPy.out _).mono ?_
                rintro e w' ⟨rfl, rfl⟩
                go_wp2_with fail
                go_round
                case rel => exact ⟨k + 1, by go_num, by omega, HNn2⟩
                case measure => simp [intOf]; omega
          · obtain rfl : O.length = k := by omega
            have rq2 : decide ((O.length : Int) < (O.length : Int)) = false := decide_eq_false (by omega)
            have HIns : Hid ([] ++ O.take O.length ++ [x] ++ [] = ins x O) := Lib.hid (by
              have := ins_at (x := x) (out := O) (Nat.le_refl _) HNo.out (fun a ha => by simp at ha)
              simpa using this)
            rw [List.nil_append] at HIns
            have HN2 : Hid (([] ++ O.take O.length ++ [x]).length + ([] : List Int).length ≤ 400000) := Lib.hid (by simp; omega)
            by_cases hck : co = O.length
            · have HRd : Hid (∀ W, Below wo.heap.size wo W → WAt W wo.heap.size (.slice (some ⟨gO, 0, none⟩) 0 0) []) := Lib.hid (fun W _ => row_nil _ _ _ _ (by unfold maxLen; omega))
              subst hck
              go_wp2_with (first
                | (at_builtin; refine wpList_append_area rfl (.tmp 60) (.tmp 63) rfl rfl HE0.out HS0.out rfl (HRt.out _ (Below.refl _ _)) HN0.out ?_; intro v' w4 ha; have HA := Lib.hid ha; have HB4 := Lib.hid (app_below (Below.refl _ wo) HE0.out ha); obtain ⟨pn, nn, cn, rfl⟩ := own_slice ha.own; have HB4x := Lib.hid (belowA HB4.out (.cells #[.int .u64 x] 34)); have HO4 := Lib.hid (ha.own.below (belowA (Below.refl _ _) (.cells #[.int .u64 x] 34))); have hc4 := HCx.out w4 HB4.out; clear ha)
                | (at_builtin; refine wpList_append_words rfl (.tmp 65) (.tmp 70) rfl rfl HO4.out HB4x.out.size ⟨w4.heap.size, 0, none⟩ 1 1 [x] rfl rfl (new_word _ _) HN1.out ?_; intro v' w5 ha; have HB5 := Lib.hid (app_below HB4x.out HO4.out ha); obtain ⟨pm, nm, cm, rfl⟩ := own_slice ha.own; have HO5 := Lib.hid ha.own; clear ha)
                | (at_builtin; refine wpList_append_area rfl (.tmp 72) (.tmp 75) rfl rfl HO5.out HB5.out.size rfl (HRd.out _ HB5.out) HN2.out ?_; intro v' w6 ha; have HB6 := Lib.hid (app_below HB5.out HO5.out ha); obtain ⟨pq, nq, cq, rfl⟩ := own_slice ha.own; have HO6 := Lib.hid ha.own; clear ha))
              have HO7 := Lib.hid (row_base HO6.out (base' := W2.heap.size) (fun k hk => Nat.le_trans HB.out.size (HO6.out.ge k hk).1))
              rw [List.nil_append, HIns.out, ← HTk.out] at HO7
              have HB7 := Lib.hid (below_call HB.out HB6.out)
              clear HB6 HO6 HB5 HO5 HB4 HB4x HO4 HA hc4
              go_roundw
              case rel => exact ⟨i + 1, _, rfl, by go_num, by omega, HO7, HB7⟩
              case measure => simp [intOf]; omega
            · have HRd : Hid (∀ W, Below wo.heap.size wo W → WAt W wo.heap.size (.slice (some ⟨gO, O.length, none⟩) 0 (co - O.length)) []) := Lib.hid (fun W _ => row_nil _ _ _ _ (by omega))
              go_wp2_with (first
                | (at_builtin; refine wpList_append_area rfl (.tmp 60) (.tmp 63) rfl rfl HE0.out HS0.out rfl (HRt.out _ (Below.refl _ _)) HN0.out ?_; intro v' w4 ha; have HA := Lib.hid ha; have HB4 := Lib.hid (app_below (Below.refl _ wo) HE0.out ha); obtain ⟨pn, nn, cn, rfl⟩ := own_slice ha.own; have HB4x := Lib.hid (belowA HB4.out (.cells #[.int .u64 x] 34)); have HO4 := Lib.hid (ha.own.below (belowA (Below.refl _ _) (.cells #[.int .u64 x] 34))); have hc4 := HCx.out w4 HB4.out; clear ha)
                | (at_builtin; refine wpList_append_words rfl (.tmp 65) (.tmp 70) rfl rfl HO4.out HB4x.out.size ⟨w4.heap.size, 0, none⟩ 1 1 [x] rfl rfl (new_word _ _) HN1.out ?_; intro v' w5 ha; have HB5 := Lib.hid (app_below HB4x.out HO4.out ha); obtain ⟨pm, nm, cm, rfl⟩ := own_slice ha.own; have HO5 := Lib.hid ha.own; clear ha)
                | (at_builtin; refine wpList_append_area rfl (.tmp 72) (.tmp 75) rfl rfl HO5.out HB5.out.size rfl (HRd.out _ HB5.out) HN2.out ?_; intro v' w6 ha; have HB6 := Lib.hid (app_below HB5.out HO5.out ha); obtain ⟨pq, nq, cq, rfl⟩ := own_slice ha.own; have HO6 := Lib.hid ha.own; clear ha))
              have HO7 := Lib.hid (row_base HO6.out (base' := W2.heap.size) (fun k hk => Nat.le_trans HB.out.size (HO6.out.ge k hk).1))
              rw [List.nil_append, HIns.out, ← HTk.out] at HO7
              have HB7 := Lib.hid (below_call HB.out HB6.out)
              clear HB6 HO6 HB5 HO5 HB4 HB4x HO4 HA hc4
              go_roundw
              case rel => exact ⟨i + 1, _, rfl, by go_num, by omega, HO7, HB7⟩
              case measure => simp [intOf]; omega
    · have rq : decide ((i : Int) < (L.length : Int)) = false := decide_eq_false (by omega)
      have HE : Hid (WAt wr wr.heap.size vo (insAll L)) := Lib.hid (by
        have := HO.out.row
        rw [List.take_of_length_le (by omega)] at this
        exact this)
      have HB9 := Lib.hid (below_call HB2.out HB.out)
      clear HO HB
      go_wp2_with fail
      go_ret
      exact ⟨_, rfl, HE.out, HB9.out⟩
end Go.Proofs.Ytegffanlehaloaa.cl
