/- Several texts in one, one behind the other: LkMe. No condition beyond theirs. -/
import Derived.Test.YtnakbepcalciiaaGreatHe
import Derived.Test.YtnakbepcalciiaaGreatHh
import Derived.Deep.MidRow
import Derived.Test.YtnakbepcalciiaaGreatGx
import Derived.Test.YtnakbepcalciiaaGreatGb
/- LinksMonitors. Conditions: the list lies in memory, and is not too long for the platform. -/
namespace Go.Proofs.YtnakbepcalciiaaGreat.lk
open Go.RowKit mem rec tm names pm
set_option linter.unusedVariables false
set_option linter.unusedSimpArgs false
set_option maxHeartbeats 4000000
set_option maxRecDepth 100000
def gath {n : Nat} (l : List (MonE n)) : List (Tm (n + 1) × Value) := l.flatMap (fun e => [(e.r, e.ur), (e.w, e.uw), (e.t, e.ut)])
theorem gath_take {n : Nat} {l : List (MonE n)} {i : Nat} {e : MonE n} (h : l[i]? = some e) : gath (l.take (i + 1)) = gath (l.take i) ++ [(e.r, e.ur), (e.w, e.uw), (e.t, e.ut)] := by
  unfold gath
  rw [List.take_add_one, h, List.flatMap_append]
  simp
theorem gath_len {n : Nat} (l : List (MonE n)) : (gath l).length = 3 * l.length := by
  induction l with
  | nil => rfl
  | cons e l ih =>
    have : gath (e :: l) = [(e.r, e.ur), (e.w, e.uw), (e.t, e.ut)] ++ gath l := rfl
    rw [this, List.length_append, ih, List.length_cons]
    simp
    omega
theorem gath_ok {n : Nat} {W : World} {B : Nat} {l : List (MonE n)} (h : ∀ e ∈ l, MonIn W B e) : ∀ r ∈ gath l, tEok W B r := fun r hr => by
  obtain ⟨e, he, hm⟩ := List.mem_flatMap.1 hr
  obtain ⟨h1, h2, h3⟩ := h e he
  simp only [List.mem_cons, List.mem_nil_iff, or_false] at hm
  rcases hm with rfl | rfl | rfl
  · exact h1
  · exact h2
  · exact h3
def KnI {n : Nat} (W : World) (base z mh mm : Nat) (l : List (MonE n)) (m : Nat) (kv iv : Value) (wr : World) : Prop := ∃ (i : Nat) (S : LkSt) (Ke : List (MonE n)), iv = .int .i64 (i : Int) ∧ i ≤ l.length ∧ m = l.length - i ∧ LkAt wr z mh mm S ∧ Kn S (Ke.map mOf) ∧ (∀ e ∈ Ke, FlatE e ∧ MonIn W W.heap.size e) ∧ Ke.length ≤ i ∧ RecOwn mxL 47 27 wr base kv Ke ∧ base ≤ wr.heap.size ∧ Below W.heap.size W wr
theorem gath_nodes {n : Nat} {l : List (MonE n)} (h : greatS (n + 1) ((gath l).map (·.1)) 4000 = false) : ∀ e ∈ l, (nodesT e.r : Int) ≤ 4000 ∧ (nodesT e.w : Int) ≤ 4000 ∧ (nodesT e.t : Int) ≤ 4000 := by
  have key : ∀ r ∈ gath l, (nodesT r.1 : Int) ≤ 4000 := fun r hr => by
    obtain ⟨k, hk, e⟩ := List.getElem_of_mem (List.mem_map_of_mem (f := (·.1)) hr)
    have h1 := nodes_mem hk
    have h2 := great_nodes h
    rw [e] at h1
    omega
  intro e he
  have hm : ∀ r ∈ [(e.r, e.ur), (e.w, e.uw), (e.t, e.ut)], r ∈ gath l := fun r hr => List.mem_flatMap.2 ⟨e, he, hr⟩
  exact ⟨key _ (hm (e.r, e.ur) (by simp)), key _ (hm (e.w, e.uw) (by simp)), key _ (hm (e.t, e.ut) (by simp))⟩
/-- has one of some monitors this ref? -/
noncomputable def hasR {n : Nat} (t : Tm (n + 1)) (l : List (MonE n)) : Bool := l.any (fun e => eqB e.r t)
theorem hasR_of {n : Nat} {t : Tm (n + 1)} {l : List (MonE n)} {e : MonE n} (he : e ∈ l) (h : e.r = t) : hasR t l = true := by
  unfold hasR
  rw [List.any_eq_true]
  exact ⟨e, he, eqB_t h⟩
theorem hasR_take {n : Nat} {t : Tm (n + 1)} {l : List (MonE n)} {k : Nat} {e : MonE n} (h : l[k]? = some e) : hasR t (l.take (k + 1)) = (hasR t (l.take k) || eqB e.r t) := by
  unfold hasR
  rw [List.take_add_one, h, List.any_append]
  simp
def RefI {n : Nat} (t : Tm (n + 1)) (Ke : List (MonE n)) (W : World) (m : Nat) (sv iv : Value) (wr : World) : Prop := ∃ k : Nat, iv = .int .i64 (k : Int) ∧ sv = .bool (hasR t (Ke.take k)) ∧ k ≤ Ke.length ∧ m = Ke.length - k ∧ Below W.heap.size W wr
def RunI (W : World) (n m : Nat) (iv : Value) (wr : World) : Prop := ∃ k : Nat, iv = .int .i64 (k : Int) ∧ k ≤ n ∧ m = n - k ∧ Below W.heap.size W wr
def UnI {n : Nat} (W w9 : World) (z mh mm : Nat) (Ke : List (MonE n)) (m : Nat) (iv : Value) (wr : World) : Prop := ∃ (k : Nat) (S : LkSt), iv = .int .i64 (k : Int) ∧ k ≤ Ke.length ∧ m = Ke.length - k ∧ LkAt wr z mh mm S ∧ Kn S ((Ke.drop k).map mOf) ∧ TouchB (LkS z mh mm) w9 wr ∧ Below W.heap.size W wr
theorem row_range {n : Nat} {w : World} {g o i : Nat} {e : MonE n} (h : ∀ k u, (mxL e)[k]? = some u → w.cell? ⟨g, o + (i * 27 + k), none⟩ = some u) : w.rangeAt g (o + i * 27) (mxL e) := fun j u hu => by
  have := h j u hu
  rwa [← Nat.add_assoc] at this
def GaI {n : Nat} (l : List (MonE n)) (W : World) (m : Nat) (tv iv : Value) (wr : World) : Prop := ∃ i : Nat, iv = .int .i64 (i : Int) ∧ i ≤ l.length ∧ m = l.length - i ∧ RecOwn tE 30 9 wr W.heap.size tv (gath (l.take i)) ∧ Below W.heap.size W wr
theorem lawMonitors (W : World) {n : Nat} (v : Value) (l : List (MonE n)) (hr : RecAt mxL 27 W W.heap.size v l) (hin : ∀ e ∈ l, MonIn W W.heap.size e) (hsz : l.length * 336 ≤ 140737488355328) : Calls Tryz.prog 4 #[v] W (fun e w' => e = .returned (.bool true) ∧ Below W.heap.size W w') := by
  have HSh := Lib.hid (fun w => shown14 w)
  obtain ⟨pv, cv, rfl, _, _⟩ := hr.shape
  have HR := Lib.hid (fun w' (h : Below W.heap.size W w') => hr.below h (Nat.le_refl _))
  have HIn := Lib.hid hin
  have hlb : l.length ≤ 1000000000000 := by omega
  have HSz := Lib.hid hsz
  clear hr hin hsz
  go_enter Tryz.func4, Tryz.ntmps4
  go_wp2_with fail
  refine (HSh.out _).mono ?_
  rintro e w1 ⟨rfl, hb1⟩
  have HB1 := Lib.hid hb1
  have H00 : Hid (GaI l w1 l.length (.slice none 0 0) (.int .i64 0) w1) := Lib.hid ⟨0, rfl, Nat.zero_le _, rfl, RecOwn.nil _ _ _, Below.refl _ _⟩
  clear hb1 HSh
  go_wp2_with fail
  go_loopg [3, 4] l.length (fun m tv iv wr => Hid (GaI l w1 m tv iv wr))
  case atStart => exact H00
  case round =>
    obtain ⟨i, rfl, hi, hn, hown, hbw⟩ := hrel.out
    clear hrel H00
    obtain ⟨po, co, rfl, _, _⟩ := hown.shape
    by_cases hlt : i < l.length
    · have r1 : (i : Int) < (l.length : Int) := by omega
      have hat := List.getElem?_eq_getElem hlt
      have hbW := HB1.out.trans (hbw.mono HB1.out.size)
      obtain ⟨g, o, e1, hn0, hg, hc⟩ := (HR.out _ hbW).nth (by omega)
      have hc := hc i _ hat
      have hme := HIn.out _ (List.getElem_mem hlt)
      subst e1
      have HTk := Lib.hid (gath_take hat)
      have HG3 : Hid ((gath (l.take i)).length = 3 * i) := Lib.hid (by rw [gath_len, List.length_take]; omega)
      generalize l[i] = e at *
      obtain ⟨tr, tw, tt, ur, uw, ut⟩ := e
      have HOk : Hid (∀ r ∈ [(tr, ur), (tw, uw), (tt, ut)], tEok W W.heap.size r) := Lib.hid (fun r hr => by
        obtain ⟨h1, h2, h3⟩ := hme
        simp only [List.mem_cons, List.mem_nil_iff, or_false] at hr
        rcases hr with rfl | rfl | rfl
        · exact h1
        · exact h2
        · exact h3)
      obtain ⟨m1, m2, m3⟩ := hme
      obtain ⟨pr, cr, er, _, _⟩ := m1.shape
      obtain ⟨pw, cw, ew, _, _⟩ := m2.shape
      obtain ⟨pt, ct, et, _, _⟩ := m3.shape
      dsimp only at er ew et
      subst er; subst ew; subst et
      clear m1 m2 m3
      have hE : EncOK tE 9 [(tr, .slice pr tr.items.length cr), (tw, .slice pw tw.items.length cw), (tt, .slice pt tt.items.length ct)] := fun r hr => ⟨tE_len r, tE_one (HOk.out r hr)⟩
      have HE := Lib.hid hE
      have HN := Lib.hid hn
      have HO := Lib.hid hown
      have HBw := Lib.hid hbw
      obtain ⟨fr, hfr⟩ : ∃ f, tr.f = f := ⟨_, rfl⟩
      obtain ⟨fw, hfw⟩ : ∃ f, tw.f = f := ⟨_, rfl⟩
      obtain ⟨ft, hft⟩ : ∃ f, tt.f = f := ⟨_, rfl⟩
      obtain ⟨nr, hnr⟩ : ∃ k, tr.items.length = k := ⟨_, rfl⟩
      obtain ⟨nw, hnw⟩ : ∃ k, tw.items.length = k := ⟨_, rfl⟩
      obtain ⟨nt, hnt⟩ : ∃ k, tt.items.length = k := ⟨_, rfl⟩
      rw [hnr, hnw, hnt] at HTk HE HOk
      rw [hnr, hnw, hnt] at hc
      obtain ⟨rk, ri, rg, rn, rf, ra, rb, rz⟩ := fr
      obtain ⟨w_k, w_i, w_g, w_n, w_f, w_a, w_b, w_z⟩ := fw
      obtain ⟨t_k, t_i, t_g, t_n, t_f, t_a, t_b, t_z⟩ := ft
      have hO : (Obj.cells (([(tr, .slice pr nr cr), (tw, .slice pw nw cw), (tt, .slice pt nt ct)] : List (Tm (n + 1) × Value)).flatMap tE).toArray 30) = (.cells #[.int .i64 rk, .int .i64 ri, .int .i64 rg, .string rn, .string rf, .int .i64 ra, .slice pr nr cr, .string rb, .int .i64 rz, .int .i64 w_k, .int .i64 w_i, .int .i64 w_g, .string w_n, .string w_f, .int .i64 w_a, .slice pw nw cw, .string w_b, .int .i64 w_z, .int .i64 t_k, .int .i64 t_i, .int .i64 t_g, .string t_n, .string t_f, .int .i64 t_a, .slice pt nt ct, .string t_b, .int .i64 t_z] 30) := by
        simp [tE, nineL, hfr, hfw, hft]
      have HRf : Hid (∀ W' : World, RecAt tE 9 (W'.alloc (.cells #[.int .i64 rk, .int .i64 ri, .int .i64 rg, .string rn, .string rf, .int .i64 ra, .slice pr nr cr, .string rb, .int .i64 rz, .int .i64 w_k, .int .i64 w_i, .int .i64 w_g, .string w_n, .string w_f, .int .i64 w_a, .slice pw nw cw, .string w_b, .int .i64 w_z, .int .i64 t_k, .int .i64 t_i, .int .i64 t_g, .string t_n, .string t_f, .int .i64 t_a, .slice pt nt ct, .string t_b, .int .i64 t_z] 30)) (W'.heap.size + 1) (.slice (some ⟨W'.heap.size, 0, none⟩) 3 3) [(tr, .slice pr nr cr), (tw, .slice pw nw cw), (tt, .slice pt nt ct)]) := Lib.hid (fun W' => by
        have h1 := alloc_new W' (Obj.cells (([(tr, .slice pr nr cr), (tw, .slice pw nw cw), (tt, .slice pt nt ct)] : List (Tm (n + 1) × Value)).flatMap tE).toArray 30)
        have h2 := RecAt.fresh (enc := tE) (l := [(tr, .slice pr nr cr), (tw, .slice pw nw cw), (tt, .slice pt nt ct)]) (c := 3) HE.out (by decide) h1 (Nat.le_refl _) (by decide)
        rw [hO] at h2
        exact h2)
      have hcs : ∀ k u, (mxL (⟨tr, tw, tt, .slice pr nr cr, .slice pw nw cw, .slice pt nt ct⟩ : MonE n))[k]? = some u → wr.cell? ⟨g, o + i * 27 + k, none⟩ = some u := fun k u hu => by
        have := hc k u hu
        rw [← Nat.add_assoc] at this
        exact this
      simp only [mxL, nineL, hfr, hfw, hft] at hcs
      have e0 : wr.cell? ⟨g, o + i * 27, none⟩ = some (.int .i64 rk) := hcs 0 _ rfl
      have e1 : wr.cell? ⟨g, o + i * 27 + 1, none⟩ = some (.int .i64 ri) := hcs 1 _ rfl
      have e2 : wr.cell? ⟨g, o + i * 27 + 2, none⟩ = some (.int .i64 rg) := hcs 2 _ rfl
      have e3 : wr.cell? ⟨g, o + i * 27 + 3, none⟩ = some (.string rn) := hcs 3 _ rfl
      have e4 : wr.cell? ⟨g, o + i * 27 + 4, none⟩ = some (.string rf) := hcs 4 _ rfl
      have e5 : wr.cell? ⟨g, o + i * 27 + 5, none⟩ = some (.int .i64 ra) := hcs 5 _ rfl
      have e6 : wr.cell? ⟨g, o + i * 27 + 6, none⟩ = some (.slice pr nr cr) := hcs 6 _ rfl
      have e7 : wr.cell? ⟨g, o + i * 27 + 7, none⟩ = some (.string rb) := hcs 7 _ rfl
      have e8 : wr.cell? ⟨g, o + i * 27 + 8, none⟩ = some (.int .i64 rz) := hcs 8 _ rfl
      have e9 : wr.cell? ⟨g, o + i * 27 + 9, none⟩ = some (.int .i64 w_k) := hcs 9 _ rfl
      have e10 : wr.cell? ⟨g, o + i * 27 + 10, none⟩ = some (.int .i64 w_i) := hcs 10 _ rfl
      have e11 : wr.cell? ⟨g, o + i * 27 + 11, none⟩ = some (.int .i64 w_g) := hcs 11 _ rfl
      have e12 : wr.cell? ⟨g, o + i * 27 + 12, none⟩ = some (.string w_n) := hcs 12 _ rfl
      have e13 : wr.cell? ⟨g, o + i * 27 + 13, none⟩ = some (.string w_f) := hcs 13 _ rfl
      have e14 : wr.cell? ⟨g, o + i * 27 + 14, none⟩ = some (.int .i64 w_a) := hcs 14 _ rfl
      have e15 : wr.cell? ⟨g, o + i * 27 + 15, none⟩ = some (.slice pw nw cw) := hcs 15 _ rfl
      have e16 : wr.cell? ⟨g, o + i * 27 + 16, none⟩ = some (.string w_b) := hcs 16 _ rfl
      have e17 : wr.cell? ⟨g, o + i * 27 + 17, none⟩ = some (.int .i64 w_z) := hcs 17 _ rfl
      have e18 : wr.cell? ⟨g, o + i * 27 + 18, none⟩ = some (.int .i64 t_k) := hcs 18 _ rfl
      have e19 : wr.cell? ⟨g, o + i * 27 + 19, none⟩ = some (.int .i64 t_i) := hcs 19 _ rfl
      have e20 : wr.cell? ⟨g, o + i * 27 + 20, none⟩ = some (.int .i64 t_g) := hcs 20 _ rfl
      have e21 : wr.cell? ⟨g, o + i * 27 + 21, none⟩ = some (.string t_n) := hcs 21 _ rfl
      have e22 : wr.cell? ⟨g, o + i * 27 + 22, none⟩ = some (.string t_f) := hcs 22 _ rfl
      have e23 : wr.cell? ⟨g, o + i * 27 + 23, none⟩ = some (.int .i64 t_a) := hcs 23 _ rfl
      have e24 : wr.cell? ⟨g, o + i * 27 + 24, none⟩ = some (.slice pt nt ct) := hcs 24 _ rfl
      have e25 : wr.cell? ⟨g, o + i * 27 + 25, none⟩ = some (.string t_b) := hcs 25 _ rfl
      have e26 : wr.cell? ⟨g, o + i * 27 + 26, none⟩ = some (.int .i64 t_z) := hcs 26 _ rfl
      have HSz3 : Hid (((gath (l.take i)).length + 3) * 112 ≤ 140737488355328) := Lib.hid (by have := HSz.out; have := HG3.out; omega)
      have HOa := Lib.hid (fun W' (hW : Below wr.heap.size wr W') => HO.out.below hW)
      have HGB : Hid (w1.heap.size ≤ wr.heap.size) := Lib.hid HBw.out.size
      have HGn : Hid (g < wr.heap.size ∧ g < w1.heap.size) := Lib.hid ⟨by have := HB1.out.size; have := HBw.out.size; omega, by have := HB1.out.size; omega⟩
      have HCe : Hid (∀ W' : World, W'.heap[g]? = wr.heap[g]? → W'.cell? ⟨g, o + i * 27, none⟩ = some (.int .i64 rk) ∧ W'.cell? ⟨g, o + i * 27 + 1, none⟩ = some (.int .i64 ri) ∧ W'.cell? ⟨g, o + i * 27 + 2, none⟩ = some (.int .i64 rg) ∧ W'.cell? ⟨g, o + i * 27 + 3, none⟩ = some (.string rn) ∧ W'.cell? ⟨g, o + i * 27 + 4, none⟩ = some (.string rf) ∧ W'.cell? ⟨g, o + i * 27 + 5, none⟩ = some (.int .i64 ra) ∧ W'.cell? ⟨g, o + i * 27 + 6, none⟩ = some (.slice pr nr cr) ∧ W'.cell? ⟨g, o + i * 27 + 7, none⟩ = some (.string rb) ∧ W'.cell? ⟨g, o + i * 27 + 8, none⟩ = some (.int .i64 rz) ∧ W'.cell? ⟨g, o + i * 27 + 9, none⟩ = some (.int .i64 w_k) ∧ W'.cell? ⟨g, o + i * 27 + 10, none⟩ = some (.int .i64 w_i) ∧ W'.cell? ⟨g, o + i * 27 + 11, none⟩ = some (.int .i64 w_g) ∧ W'.cell? ⟨g, o + i * 27 + 12, none⟩ = some (.string w_n) ∧ W'.cell? ⟨g, o + i * 27 + 13, none⟩ = some (.string w_f) ∧ W'.cell? ⟨g, o + i * 27 + 14, none⟩ = some (.int .i64 w_a) ∧ W'.cell? ⟨g, o + i * 27 + 15, none⟩ = some (.slice pw nw cw) ∧ W'.cell? ⟨g, o + i * 27 + 16, none⟩ = some (.string w_b) ∧ W'.cell? ⟨g, o + i * 27 + 17, none⟩ = some (.int .i64 w_z) ∧ W'.cell? ⟨g, o + i * 27 + 18, none⟩ = some (.int .i64 t_k) ∧ W'.cell? ⟨g, o + i * 27 + 19, none⟩ = some (.int .i64 t_i) ∧ W'.cell? ⟨g, o + i * 27 + 20, none⟩ = some (.int .i64 t_g) ∧ W'.cell? ⟨g, o + i * 27 + 21, none⟩ = some (.string t_n) ∧ W'.cell? ⟨g, o + i * 27 + 22, none⟩ = some (.string t_f) ∧ W'.cell? ⟨g, o + i * 27 + 23, none⟩ = some (.int .i64 t_a) ∧ W'.cell? ⟨g, o + i * 27 + 24, none⟩ = some (.slice pt nt ct) ∧ W'.cell? ⟨g, o + i * 27 + 25, none⟩ = some (.string t_b) ∧ W'.cell? ⟨g, o + i * 27 + 26, none⟩ = some (.int .i64 t_z)) := Lib.hid (fun W' hW => by
        have h := fun k => World.cell?_of_block (w := wr) (w' := W') (a := ⟨g, k, none⟩) hW
        exact ⟨(h _).trans e0, (h _).trans e1, (h _).trans e2, (h _).trans e3, (h _).trans e4, (h _).trans e5, (h _).trans e6, (h _).trans e7, (h _).trans e8, (h _).trans e9, (h _).trans e10, (h _).trans e11, (h _).trans e12, (h _).trans e13, (h _).trans e14, (h _).trans e15, (h _).trans e16, (h _).trans e17, (h _).trans e18, (h _).trans e19, (h _).trans e20, (h _).trans e21, (h _).trans e22, (h _).trans e23, (h _).trans e24, (h _).trans e25, (h _).trans e26⟩)
      clear hc hcs hn hown hbw hn0 hat hg hO hE
      have hbd : Below wr.heap.size wr wr.drew := belowD (Below.refl _ _)
      obtain ⟨de0, de1, de2, de3, de4, de5, de6, de7, de8, de9, de10, de11, de12, de13, de14, de15, de16, de17, de18, de19, de20, de21, de22, de23, de24, de25, de26⟩ := HCe.out wr.drew rfl
      go_upto_region 7 with (fail)
      go_region_held3 (fun w' => w'.cell? ⟨g, o + i * 27, none⟩ = some (.int .i64 rk) ∧ w'.cell? ⟨g, o + i * 27 + 1, none⟩ = some (.int .i64 ri) ∧ w'.cell? ⟨g, o + i * 27 + 2, none⟩ = some (.int .i64 rg) ∧ w'.cell? ⟨g, o + i * 27 + 3, none⟩ = some (.string rn) ∧ w'.cell? ⟨g, o + i * 27 + 4, none⟩ = some (.string rf) ∧ w'.cell? ⟨g, o + i * 27 + 5, none⟩ = some (.int .i64 ra) ∧ w'.cell? ⟨g, o + i * 27 + 6, none⟩ = some (.slice pr nr cr) ∧ w'.cell? ⟨g, o + i * 27 + 7, none⟩ = some (.string rb) ∧ w'.cell? ⟨g, o + i * 27 + 8, none⟩ = some (.int .i64 rz) ∧ w'.cell? ⟨g, o + i * 27 + 9, none⟩ = some (.int .i64 w_k) ∧ w'.cell? ⟨g, o + i * 27 + 10, none⟩ = some (.int .i64 w_i) ∧ w'.cell? ⟨g, o + i * 27 + 11, none⟩ = some (.int .i64 w_g) ∧ w'.cell? ⟨g, o + i * 27 + 12, none⟩ = some (.string w_n) ∧ w'.cell? ⟨g, o + i * 27 + 13, none⟩ = some (.string w_f) ∧ w'.cell? ⟨g, o + i * 27 + 14, none⟩ = some (.int .i64 w_a) ∧ w'.cell? ⟨g, o + i * 27 + 15, none⟩ = some (.slice pw nw cw) ∧ w'.cell? ⟨g, o + i * 27 + 16, none⟩ = some (.string w_b) ∧ w'.cell? ⟨g, o + i * 27 + 17, none⟩ = some (.int .i64 w_z) ∧ w'.cell? ⟨g, o + i * 27 + 18, none⟩ = some (.int .i64 t_k) ∧ w'.cell? ⟨g, o + i * 27 + 19, none⟩ = some (.int .i64 t_i) ∧ w'.cell? ⟨g, o + i * 27 + 20, none⟩ = some (.int .i64 t_g) ∧ w'.cell? ⟨g, o + i * 27 + 21, none⟩ = some (.string t_n) ∧ w'.cell? ⟨g, o + i * 27 + 22, none⟩ = some (.string t_f) ∧ w'.cell? ⟨g, o + i * 27 + 23, none⟩ = some (.int .i64 t_a) ∧ w'.cell? ⟨g, o + i * 27 + 24, none⟩ = some (.slice pt nt ct) ∧ w'.cell? ⟨g, o + i * 27 + 25, none⟩ = some (.string t_b) ∧ w'.cell? ⟨g, o + i * 27 + 26, none⟩ = some (.int .i64 t_z)) (go_keep)
        (first
          | (refine step_append_recB elB30 rfl (.tmp 25) (.tmp 41) rfl rfl (HOa.out _ (belowDA (.cells #[.int .i64 rk, .int .i64 ri, .int .i64 rg, .string rn, .string rf, .int .i64 ra, .slice pr nr cr, .string rb, .int .i64 rz, .int .i64 w_k, .int .i64 w_i, .int .i64 w_g, .string w_n, .string w_f, .int .i64 w_a, .slice pw nw cw, .string w_b, .int .i64 w_z, .int .i64 t_k, .int .i64 t_i, .int .i64 t_g, .string t_n, .string t_f, .int .i64 t_a, .slice pt nt ct, .string t_b, .int .i64 t_z] 30))) (Nat.le_trans HGB.out (belowDA (.cells #[.int .i64 rk, .int .i64 ri, .int .i64 rg, .string rn, .string rf, .int .i64 ra, .slice pr nr cr, .string rb, .int .i64 rz, .int .i64 w_k, .int .i64 w_i, .int .i64 w_g, .string w_n, .string w_f, .int .i64 w_a, .slice pw nw cw, .string w_b, .int .i64 w_z, .int .i64 t_k, .int .i64 t_i, .int .i64 t_g, .string t_n, .string t_f, .int .i64 t_a, .slice pt nt ct, .string t_b, .int .i64 t_z] 30)).size) rfl ((HRf.out wr).drewN 1) HE.out HSz3.out (by decide) (by decide) ?_; intro v' W8 hA; have hz8 := HGn.out; have hgb := (hA.other (k := g) (Nat.lt_of_lt_of_le hz8.1 (belowDA (w := wr) (.cells #[.int .i64 rk, .int .i64 ri, .int .i64 rg, .string rn, .string rf, .int .i64 ra, .slice pr nr cr, .string rb, .int .i64 rz, .int .i64 w_k, .int .i64 w_i, .int .i64 w_g, .string w_n, .string w_f, .int .i64 w_a, .slice pw nw cw, .string w_b, .int .i64 w_z, .int .i64 t_k, .int .i64 t_i, .int .i64 t_g, .string t_n, .string t_f, .int .i64 t_a, .slice pt nt ct, .string t_b, .int .i64 t_z] 30)).size) (fun e => by have := (HO.out.lt e).1; omega)).trans ((belowDA (w := wr) (.cells #[.int .i64 rk, .int .i64 ri, .int .i64 rg, .string rn, .string rf, .int .i64 ra, .slice pr nr cr, .string rb, .int .i64 rz, .int .i64 w_k, .int .i64 w_i, .int .i64 w_g, .string w_n, .string w_f, .int .i64 w_a, .slice pw nw cw, .string w_b, .int .i64 w_z, .int .i64 t_k, .int .i64 t_i, .int .i64 t_g, .string t_n, .string t_f, .int .i64 t_a, .slice pt nt ct, .string t_b, .int .i64 t_z] 30)).block g hz8.1); obtain ⟨e0, e1, e2, e3, e4, e5, e6, e7, e8, e9, e10, e11, e12, e13, e14, e15, e16, e17, e18, e19, e20, e21, e22, e23, e24, e25, e26⟩ := HCe.out _ hgb; obtain ⟨ao', cap', rfl, _, _⟩ := hA.own.shape)
          | fail)
      all_goals
        have HO8 : Hid (RecOwn tE 30 9 W8 w1.heap.size (.slice ao' ((gath (l.take i)).length + 3) cap') (gath (l.take (i + 1)))) := Lib.hid (by rw [HTk.out]; have h8 := hA.own; simpa using h8)
        have HB8 := Lib.hid (hA.belowB (belowCC HBw.out (belowDA (w := wr) (.cells #[.int .i64 rk, .int .i64 ri, .int .i64 rg, .string rn, .string rf, .int .i64 ra, .slice pr nr cr, .string rb, .int .i64 rz, .int .i64 w_k, .int .i64 w_i, .int .i64 w_g, .string w_n, .string w_f, .int .i64 w_a, .slice pw nw cw, .string w_b, .int .i64 w_z, .int .i64 t_k, .int .i64 t_i, .int .i64 t_g, .string t_n, .string t_f, .int .i64 t_a, .slice pt nt ct, .string t_b, .int .i64 t_z] 30))) (Nat.le_trans HGB.out (belowDA (w := wr) (.cells #[.int .i64 rk, .int .i64 ri, .int .i64 rg, .string rn, .string rf, .int .i64 ra, .slice pr nr cr, .string rb, .int .i64 rz, .int .i64 w_k, .int .i64 w_i, .int .i64 w_g, .string w_n, .string w_f, .int .i64 w_a, .slice pw nw cw, .string w_b, .int .i64 w_z, .int .i64 t_k, .int .i64 t_i, .int .i64 t_g, .string t_n, .string t_f, .int .i64 t_a, .slice pt nt ct, .string t_b, .int .i64 t_z] 30)).size) (fun k hk => (HO.out.lt hk).1))
        clear hA e0 e1 e2 e3 e4 e5 e6 e7 e8 e9 e10 e11 e12 e13 e14 e15 e16 e17 e18 e19 e20 e21 e22 e23 e24 e25 e26 de0 de1 de2 de3 de4 de5 de6 de7 de8 de9 de10 de11 de12 de13 de14 de15 de16 de17 de18 de19 de20 de21 de22 de23 de24 de25 de26 HCe HOa HRf HO hgb hz8
        go_wp2_with fail
        go_roundg (l.length - (i + 1))
        case measure => have := HN.out; omega
        case rel => exact Lib.hid ⟨i + 1, by go_num, by omega, rfl, HO8.out, HB8.out⟩
    · obtain rfl : i = l.length := by omega
      have HB2 := Lib.hid (HB1.out.trans (hbw.mono HB1.out.size))
      have HBs := Lib.hid hbw.size
      rw [List.take_length] at hown
      have HO := Lib.hid hown
      clear hbw hn hown
      by_cases h60 : (60 : Int) < (l.length : Int)
      · go_wp2_with fail
        go_ret
        exact ⟨rfl, HB2.out⟩
      have hl60 : l.length ≤ 60 := by omega
      have HL60 := Lib.hid hl60
      have hOk : ∀ r ∈ gath l, tEok wr W.heap.size r := fun r hr => ItemsAt.below (gath_ok HIn.out r hr) HB2.out (Nat.le_refl _)
      have hRow := HO.out.row (fun r hr => ⟨tE_len r, tE_one (hOk r hr)⟩)
      have hIt := row_terms hRow (fun r hr => (hOk r hr).more HB2.out.size)
      have HGr := Lib.hid (tm.Great wr wr.heap.size _ _ 4000 (Nat.le_refl _) (by decide) (by decide) hIt)
      clear hOk hRow hIt
      obtain ⟨gr, hgr⟩ : ∃ b, greatS (n + 1) ((gath l).map (·.1)) 4000 = b := ⟨_, rfl⟩
      rw [hgr] at HGr
      unfold BPost at HGr
      have HGe := Lib.hid hgr
      clear hgr
      have htl : (gath (l.take l.length)).length = (gath l).length := by rw [List.take_length]
      rw [htl]
      clear htl
      go_wp2_with fail
      refine HGr.out.mono ?_
      rintro e w2 ⟨rfl, hb2⟩
      have HB3 := Lib.hid (HB2.out.trans (hb2.mono HB2.out.size))
      clear hb2 HGr
      cases gr
      · have HN := Lib.hid (new15 nmN 1 w2)
        unfold nmN at HN
        have HNd := Lib.hid (gath_nodes HGe.out)
        clear HGe
        go_wp2_with fail
        refine HN.out.mono ?_
        rintro e w5 ⟨hb5, ⟨hn, _⟩ | ⟨_, z, mh, mm, rfl, hS0, hz1, hz2, hz3⟩⟩
        · exact absurd hn (by rw [show newB ⟨#[110]⟩ 1 = newB nmN 1 from rfl, new_n]; decide)
        have HB5 := Lib.hid (HB3.out.trans (hb5.mono HB3.out.size))
        have HZ : Hid (W.heap.size ≤ z ∧ W.heap.size ≤ mh ∧ W.heap.size ≤ mm) := Lib.hid (by have := HB3.out.size; omega)
        have HZ5 : Hid (z < w5.heap.size ∧ mh < w5.heap.size ∧ mm < w5.heap.size) := Lib.hid ⟨hS0.zlt, hS0.hlt, hS0.mlt⟩
        have H10 : Hid (KnI W w5.heap.size z mh mm l l.length (.slice none 0 0) (.int .i64 0) w5) := Lib.hid ⟨0, ⟨nmN, 1, 0, [], []⟩, [], rfl, Nat.zero_le _, rfl, hS0, ⟨rfl, List.nodup_nil, by simp⟩, by simp, Nat.le_refl _, RecOwn.nil _ _ _, Nat.le_refl _, HB5.out⟩
        clear hS0 hb5 hz1 hz2 hz3 HN HB1 HB2 HB3 HBs HO
        go_wp2_with fail
        go_loopg [7, 8] l.length (fun n kv iv wr => Hid (KnI W w5.heap.size z mh mm l n kv iv wr))
        case atStart => exact H10
        case round =>
          obtain ⟨i, S, Ke, rfl, hi, hn, hS, hK, hF, hkl, hown, hbz, hbw⟩ := hrel.out
          clear hrel H10
          obtain ⟨pk, ck, rfl, _, _⟩ := hown.shape
          by_cases hlt : i < l.length
          · have r1 : (i : Int) < (l.length : Int) := by omega
            have hat := List.getElem?_eq_getElem hlt
            obtain ⟨g, o, e1, hn0, hg, hc⟩ := (HR.out _ hbw).nth (by omega)
            have hc := hc i _ hat
            have hme := HIn.out _ (List.getElem_mem hlt)
            have hnd : Hid ((nodesT l[i].r : Int) ≤ 4000 ∧ (nodesT l[i].w : Int) ≤ 4000 ∧ (nodesT l[i].t : Int) ≤ 4000) := Lib.hid (HNd.out _ (List.getElem_mem hlt))
            subst e1
            generalize l[i] = e at *
            have HMe := Lib.hid hme
            obtain ⟨tr, tw, tt, ur, uw, ut⟩ := e
            obtain ⟨m1, m2, m3⟩ := hme
            obtain ⟨pr, cr, er, _, _⟩ := m1.shape
            obtain ⟨pw, cw, ew, _, _⟩ := m2.shape
            obtain ⟨pt, ct, et, _, _⟩ := m3.shape
            dsimp only at er ew et
            subst er; subst ew; subst et
            dsimp only at m1 m2 m3
            obtain ⟨nd1, nd2, nd3⟩ := hnd.out
            dsimp only at nd1 nd2 nd3
            clear hnd
            have HW := Lib.hid (fun W' (hW : Below wr.heap.size wr W') => watch27 (hS.below hW) W.heap.size _ _ _ tr tw tt (by have := hbw.size; have := hW.size; omega) (m1.below (belowCC hbw hW) (Nat.le_refl _)) (m2.below (belowCC hbw hW) (Nat.le_refl _)) (m3.below (belowCC hbw hW) (Nat.le_refl _)) (by omega) (by omega) (by omega))
            clear nd1 nd2 nd3
            obtain ⟨okw, hokw⟩ : ∃ b, okW S (decide (tr.f.kind = 3) && validT tr) (decide (tw.f.kind = 6) && validT tw) (decide (tt.f.kind = 6) && validT tt) (idOf tw.f) (idOf tt.f) = b := ⟨_, rfl⟩
            have HOw : Hid (okw = true → FlatE (⟨tr, tw, tt, .slice pr tr.items.length cr, .slice pw tw.items.length cw, .slice pt tt.items.length ct⟩ : MonE n) ∧ okM (mOf (⟨tr, tw, tt, .slice pr tr.items.length cr, .slice pw tw.items.length cw, .slice pt tt.items.length ct⟩ : MonE n))) := Lib.hid (fun h => watch_ok (s := S) (hokw.trans h))
            rw [hokw] at HW
            obtain ⟨ia, hia⟩ : ∃ x, idOf tr.f = x := ⟨_, rfl⟩
            obtain ⟨ib, hib⟩ : ∃ x, idOf tw.f = x := ⟨_, rfl⟩
            obtain ⟨ic, hic⟩ : ∃ x, idOf tt.f = x := ⟨_, rfl⟩
            have HM : Hid (mOf (⟨tr, tw, tt, .slice pr tr.items.length cr, .slice pw tw.items.length cw, .slice pt tt.items.length ct⟩ : MonE n) = (ia, ib, ic)) := Lib.hid (by show (idOf tr.f, idOf tw.f, idOf tt.f) = _; rw [hia, hib, hic])
            rw [hia, hib, hic] at HW
            clear hokw hia hib hic
            obtain ⟨fr, hfr⟩ : ∃ f, tr.f = f := ⟨_, rfl⟩
            obtain ⟨fw, hfw⟩ : ∃ f, tw.f = f := ⟨_, rfl⟩
            obtain ⟨ft, hft⟩ : ∃ f, tt.f = f := ⟨_, rfl⟩
            obtain ⟨nr, hnr⟩ : ∃ k, tr.items.length = k := ⟨_, rfl⟩
            obtain ⟨nw, hnw⟩ : ∃ k, tw.items.length = k := ⟨_, rfl⟩
            obtain ⟨nt, hnt⟩ : ∃ k, tt.items.length = k := ⟨_, rfl⟩
            have HFf : Hid (tr.f = fr ∧ tw.f = fw ∧ tt.f = ft ∧ tr.items.length = nr ∧ tw.items.length = nw ∧ tt.items.length = nt) := Lib.hid ⟨hfr, hfw, hft, hnr, hnw, hnt⟩
            rw [hnr, hnw, hnt] at HW hc
            rw [hfr, hfw, hft] at HW
            rw [hnr, hnw, hnt] at HMe HM HOw
            obtain ⟨rk, ri, rg, rn, rf, ra, rb, rz⟩ := fr
            obtain ⟨w_k, w_i, w_g, w_n, w_f, w_a, w_b, w_z⟩ := fw
            obtain ⟨t_k, t_i, t_g, t_n, t_f, t_a, t_b, t_z⟩ := ft
            have hcs : ∀ k u, (mxL (⟨tr, tw, tt, .slice pr nr cr, .slice pw nw cw, .slice pt nt ct⟩ : MonE n))[k]? = some u → wr.cell? ⟨g, o + i * 27 + k, none⟩ = some u := fun k u hu => by
              have := hc k u hu
              rw [← Nat.add_assoc] at this
              exact this
            simp only [mxL, nineL, hfr, hfw, hft] at hcs
            clear hfr hfw hft hnr hnw hnt m1 m2 m3
            have HRg : Hid (∀ W', Below W.heap.size wr W' → W'.rangeAt g (o + i * 27) [.int .i64 rk, .int .i64 ri, .int .i64 rg, .string rn, .string rf, .int .i64 ra, .slice pr nr cr, .string rb, .int .i64 rz, .int .i64 w_k, .int .i64 w_i, .int .i64 w_g, .string w_n, .string w_f, .int .i64 w_a, .slice pw nw cw, .string w_b, .int .i64 w_z, .int .i64 t_k, .int .i64 t_i, .int .i64 t_g, .string t_n, .string t_f, .int .i64 t_a, .slice pt nt ct, .string t_b, .int .i64 t_z]) := Lib.hid (fun W' hW => (fun k u hu => ((World.cell?_of_block (w := wr) (w' := W') (a := ⟨g, o + i * 27 + k, none⟩) (hW.block g hg)).trans (hcs k u hu))))
            have hsz27 : (Tryz.prog.info? 47).map (·.size) = some 27 := by kernel_rfl
            have HO := Lib.hid hown
            have HS := Lib.hid hS
            have HK := Lib.hid hK
            have HF := Lib.hid hF
            have HKl := Lib.hid hkl
            have HN := Lib.hid hn
            have HBw := Lib.hid hbw
            clear hc hcs hown hS hK hF hkl hn hbw hn0 hat
            unfold monV at HW
            dsimp only at HW
            go_wp2_with (refine wpList_load_mid rfl 47 (.tmp 65) rfl g (o + i * 27) rfl [.int .i64 rk, .int .i64 ri, .int .i64 rg, .string rn, .string rf, .int .i64 ra, .slice pr nr cr, .string rb, .int .i64 rz, .int .i64 w_k, .int .i64 w_i, .int .i64 w_g, .string w_n, .string w_f, .int .i64 w_a, .slice pw nw cw, .string w_b, .int .i64 w_z, .int .i64 t_k, .int .i64 t_i, .int .i64 t_g, .string t_n, .string t_f, .int .i64 t_a, .slice pt nt ct, .string t_b, .int .i64 t_z] _ (HRg.out _ (Below.refl _ _)) Tryz.underlying47 rfl hsz27 ?_)
            refine (HW.out _ (Below.refl _ _)).mono ?_
            rintro e w6 ⟨rfl, hS6, ht6⟩
            have hz := HZ.out
            have hb6 := below_of_touch ht6 hz.1 hz.2.1 hz.2.2 HBw.out.size
            have HB6 := Lib.hid (HBw.out.trans (hb6.mono (Nat.le_refl _)))
            have Hb6 := Lib.hid hb6
            have HZ6 : Hid (w5.heap.size ≤ w6.heap.size) := Lib.hid (Nat.le_trans hbz hb6.size)
            have HO6 : Hid (RecOwn mxL 47 27 w6 w5.heap.size (.slice pk Ke.length ck) Ke) := Lib.hid (HO.out.same (fun k hk => ht6.block k (HO.out.lt hk).2 (fun e => by have := (HO.out.lt hk).1; have := HZ5.out; rcases e with e | e | e <;> omega)))
            have HS6 := Lib.hid hS6
            clear hS6 ht6 hb6 hz HO HS HW
            cases okw
            · have HS6' : Hid (LkAt w6 z mh mm S) := Lib.hid HS6.out
              have e0 : watchE false S ia = 2 := rfl
              rw [e0]
              clear e0 HOw
              go_wp2_with fail
              go_roundg (l.length - (i + 1))
              case measure => have := HN.out; omega
              case rel => exact Lib.hid ⟨i + 1, S, Ke, by go_num, by omega, rfl, HS6'.out, HK.out, HF.out, by have := HKl.out; omega, HO6.out, HZ6.out, HB6.out⟩
            · cases hfd : (pFind S.M ia).isSome
              · have e0 : watchE true S ia = 0 := by unfold watchE; rw [hfd]; rfl
                have e1 : watchS true S ia ib ic = { S with M := pPut S.M ia (ia, ib, ic) } := by unfold watchS; rw [hfd]; rfl
                rw [e1] at HS6
                rw [e0]
                have HKn : Hid (Kn { S with M := pPut S.M ia (ia, ib, ic) } ((Ke ++ [(⟨tr, tw, tt, .slice pr nr cr, .slice pw nw cw, .slice pt nt ct⟩ : MonE n)]).map mOf)) := Lib.hid (by
                  have hm := (HOw.out rfl).2
                  rw [HM.out] at hm
                  have h := HK.out.add hm hfd
                  rw [List.map_append, List.map_cons, List.map_nil, HM.out]
                  exact h)
                have HFn : Hid (∀ e ∈ Ke ++ [(⟨tr, tw, tt, .slice pr nr cr, .slice pw nw cw, .slice pt nt ct⟩ : MonE n)], FlatE e ∧ MonIn W W.heap.size e) := Lib.hid (fun e he => by
                  rcases List.mem_append.1 he with he | he
                  · exact HF.out e he
                  · rw [List.mem_singleton.1 he]; exact ⟨(HOw.out rfl).1, HMe.out⟩)
                have hE : EncOK mxL 27 [(⟨tr, tw, tt, .slice pr nr cr, .slice pw nw cw, .slice pt nt ct⟩ : MonE n)] := fun r hr => by
                  rw [List.mem_singleton.1 hr]
                  exact ⟨mxL_len _, mxL_one HMe.out⟩
                have HE := Lib.hid hE
                have hO : (Obj.cells ([(⟨tr, tw, tt, .slice pr nr cr, .slice pw nw cw, .slice pt nt ct⟩ : MonE n)].flatMap mxL).toArray 47) = (.cells #[.int .i64 rk, .int .i64 ri, .int .i64 rg, .string rn, .string rf, .int .i64 ra, .slice pr nr cr, .string rb, .int .i64 rz, .int .i64 w_k, .int .i64 w_i, .int .i64 w_g, .string w_n, .string w_f, .int .i64 w_a, .slice pw nw cw, .string w_b, .int .i64 w_z, .int .i64 t_k, .int .i64 t_i, .int .i64 t_g, .string t_n, .string t_f, .int .i64 t_a, .slice pt nt ct, .string t_b, .int .i64 t_z] 47) := by
                  obtain ⟨h1, h2, h3, _⟩ := HFf.out
                  simp [mxL, nineL, h1, h2, h3]
                have HRf : Hid (∀ W' : World, RecAt mxL 27 (W'.alloc (.cells #[.int .i64 rk, .int .i64 ri, .int .i64 rg, .string rn, .string rf, .int .i64 ra, .slice pr nr cr, .string rb, .int .i64 rz, .int .i64 w_k, .int .i64 w_i, .int .i64 w_g, .string w_n, .string w_f, .int .i64 w_a, .slice pw nw cw, .string w_b, .int .i64 w_z, .int .i64 t_k, .int .i64 t_i, .int .i64 t_g, .string t_n, .string t_f, .int .i64 t_a, .slice pt nt ct, .string t_b, .int .i64 t_z] 47)) (W'.heap.size + 1) (.slice (some ⟨W'.heap.size, 0, none⟩) 1 1) [(⟨tr, tw, tt, .slice pr nr cr, .slice pw nw cw, .slice pt nt ct⟩ : MonE n)]) := Lib.hid (fun W' => by
                  have h1 := alloc_new W' (Obj.cells ([(⟨tr, tw, tt, .slice pr nr cr, .slice pw nw cw, .slice pt nt ct⟩ : MonE n)].flatMap mxL).toArray 47)
                  have h2 := RecAt.fresh (enc := mxL) (l := [(⟨tr, tw, tt, .slice pr nr cr, .slice pw nw cw, .slice pt nt ct⟩ : MonE n)]) (c := 1) HE.out (by decide) h1 (Nat.le_refl _) (by decide)
                  rw [hO] at h2
                  exact h2)
                have HSz6 : Hid ((Ke.length + 1) * 336 ≤ 140737488355328) := Lib.hid (by have := HKl.out; have := HL60.out; omega)
                have hz56 : w5.heap.size ≤ (w6.alloc (.cells #[.int .i64 rk, .int .i64 ri, .int .i64 rg, .string rn, .string rf, .int .i64 ra, .slice pr nr cr, .string rb, .int .i64 rz, .int .i64 w_k, .int .i64 w_i, .int .i64 w_g, .string w_n, .string w_f, .int .i64 w_a, .slice pw nw cw, .string w_b, .int .i64 w_z, .int .i64 t_k, .int .i64 t_i, .int .i64 t_g, .string t_n, .string t_f, .int .i64 t_a, .slice pt nt ct, .string t_b, .int .i64 t_z] 47)).heap.size := by rw [World.size_alloc]; have := HZ6.out; omega
                clear e0 e1 hE hO
                go_wp2_with (first
                  | (refine wpList_load_mid rfl 47 (.tmp 73) rfl g (o + i * 27) rfl [.int .i64 rk, .int .i64 ri, .int .i64 rg, .string rn, .string rf, .int .i64 ra, .slice pr nr cr, .string rb, .int .i64 rz, .int .i64 w_k, .int .i64 w_i, .int .i64 w_g, .string w_n, .string w_f, .int .i64 w_a, .slice pw nw cw, .string w_b, .int .i64 w_z, .int .i64 t_k, .int .i64 t_i, .int .i64 t_g, .string t_n, .string t_f, .int .i64 t_a, .slice pt nt ct, .string t_b, .int .i64 t_z] _ (HRg.out _ Hb6.out) Tryz.underlying47 rfl hsz27 ?_)
                  | (refine wpList_append_recB elB47 rfl (.tmp 70) (.tmp 75) rfl rfl (HO6.out.below (belowA (Below.refl w6.heap.size w6) (.cells #[.int .i64 rk, .int .i64 ri, .int .i64 rg, .string rn, .string rf, .int .i64 ra, .slice pr nr cr, .string rb, .int .i64 rz, .int .i64 w_k, .int .i64 w_i, .int .i64 w_g, .string w_n, .string w_f, .int .i64 w_a, .slice pw nw cw, .string w_b, .int .i64 w_z, .int .i64 t_k, .int .i64 t_i, .int .i64 t_g, .string t_n, .string t_f, .int .i64 t_a, .slice pt nt ct, .string t_b, .int .i64 t_z] 47) (Nat.le_refl _))) hz56 rfl (HRf.out w6) HE.out HSz6.out (by decide) (by decide) ?_; intro v' W8 hA; obtain ⟨ao', cap', rfl, _, _⟩ := hA.own.shape))
                have hz := HZ.out
                have hz5 := HZ5.out
                have hz6 := HZ6.out
                have hal : (w6.alloc (.cells #[.int .i64 rk, .int .i64 ri, .int .i64 rg, .string rn, .string rf, .int .i64 ra, .slice pr nr cr, .string rb, .int .i64 rz, .int .i64 w_k, .int .i64 w_i, .int .i64 w_g, .string w_n, .string w_f, .int .i64 w_a, .slice pw nw cw, .string w_b, .int .i64 w_z, .int .i64 t_k, .int .i64 t_i, .int .i64 t_g, .string t_n, .string t_f, .int .i64 t_a, .slice pt nt ct, .string t_b, .int .i64 t_z] 47)).heap.size = w6.heap.size + 1 := by rw [World.size_alloc]
                have hS7 := HS6.out.below (belowA (Below.refl w6.heap.size w6) (.cells #[.int .i64 rk, .int .i64 ri, .int .i64 rg, .string rn, .string rf, .int .i64 ra, .slice pr nr cr, .string rb, .int .i64 rz, .int .i64 w_k, .int .i64 w_i, .int .i64 w_g, .string w_n, .string w_f, .int .i64 w_a, .slice pw nw cw, .string w_b, .int .i64 w_z, .int .i64 t_k, .int .i64 t_i, .int .i64 t_g, .string t_n, .string t_f, .int .i64 t_a, .slice pt nt ct, .string t_b, .int .i64 t_z] 47) (Nat.le_refl _))
                have HS8 := Lib.hid (hS7.same (hA.other (k := z) (by omega) (fun e => by have := (HO6.out.lt e).1; omega)) (hA.other (k := mh) (by omega) (fun e => by have := (HO6.out.lt e).1; omega)) (hA.other (k := mm) (by omega) (fun e => by have := (HO6.out.lt e).1; omega)))
                have HB8 := Lib.hid (hA.belowB (belowA HB6.out (.cells #[.int .i64 rk, .int .i64 ri, .int .i64 rg, .string rn, .string rf, .int .i64 ra, .slice pr nr cr, .string rb, .int .i64 rz, .int .i64 w_k, .int .i64 w_i, .int .i64 w_g, .string w_n, .string w_f, .int .i64 w_a, .slice pw nw cw, .string w_b, .int .i64 w_z, .int .i64 t_k, .int .i64 t_i, .int .i64 t_g, .string t_n, .string t_f, .int .i64 t_a, .slice pt nt ct, .string t_b, .int .i64 t_z] 47) HB6.out.size) (by have := HB6.out.size; omega) (fun k hk => by have := (HO6.out.lt hk).1; have := HB5.out.size; omega))
                have HO8 : Hid (RecOwn mxL 47 27 W8 w5.heap.size (.slice ao' (Ke.length + 1) cap') (Ke ++ [(⟨tr, tw, tt, .slice pr nr cr, .slice pw nw cw, .slice pt nt ct⟩ : MonE n)])) := Lib.hid (by have h8 := hA.own; rw [List.length_append] at h8; exact h8)
                have HZ8 : Hid (w5.heap.size ≤ W8.heap.size) := Lib.hid (Nat.le_trans hz56 hA.grown.size)
                clear hA hal hS7 hz hz5 hz6 hz56 HO6 HS6 HRf HE
                go_wp2_with fail
                go_roundg (l.length - (i + 1))
                case measure => have := HN.out; omega
                case rel => exact Lib.hid ⟨i + 1, _, _, by go_num, by omega, rfl, HS8.out, HKn.out, HFn.out, by have := HKl.out; simp; omega, HO8.out, HZ8.out, HB8.out⟩
              · have e0 : watchE true S ia = 8 := by unfold watchE; rw [hfd]; rfl
                have e1 : watchS true S ia ib ic = S := by unfold watchS; rw [hfd]; rfl
                rw [e1] at HS6
                rw [e0]
                have HAll : Hid (hasR tr Ke = true) := Lib.hid (by
                  obtain ⟨m, hm, hmi⟩ := HK.out.some hfd
                  obtain ⟨e', he', rfl⟩ := List.mem_map.1 hm
                  have hFe := (HF.out e' he').1
                  have hFc := (HOw.out rfl).1
                  have hM := HM.out
                  exact hasR_of he' (hFe.ref hFc (by rw [hM]; exact hmi)))
                have HRg6 : Hid (∀ W', Below w6.heap.size w6 W' → W'.rangeAt g (o + i * 27) [.int .i64 rk, .int .i64 ri, .int .i64 rg, .string rn, .string rf, .int .i64 ra, .slice pr nr cr, .string rb, .int .i64 rz]) := Lib.hid (fun W' hW => range_part (x := []) (y := [.int .i64 rk, .int .i64 ri, .int .i64 rg, .string rn, .string rf, .int .i64 ra, .slice pr nr cr, .string rb, .int .i64 rz]) (v := [.int .i64 w_k, .int .i64 w_i, .int .i64 w_g, .string w_n, .string w_f, .int .i64 w_a, .slice pw nw cw, .string w_b, .int .i64 w_z, .int .i64 t_k, .int .i64 t_i, .int .i64 t_g, .string t_n, .string t_f, .int .i64 t_a, .slice pt nt ct, .string t_b, .int .i64 t_z]) (k := 0) (HRg.out W' (Hb6.out.trans (hW.mono HB6.out.size))) rfl)
                have HRow6 := Lib.hid (fun W' (hW : Below w6.heap.size w6 W') => (HO6.out.row (fun a ha => ⟨mxL_len a, mxL_one (HF.out a ha).2⟩)).below hW (Nat.le_refl _))
                have HSm6 : Hid (∀ e' ∈ Ke, ∀ W', Below w6.heap.size w6 W' → Calls Tryz.prog 21 #[aggV e'.r.f e'.ur, .agg #[.int .i64 rk, .int .i64 ri, .int .i64 rg, .string rn, .string rf, .int .i64 ra, .slice pr nr cr, .string rb, .int .i64 rz]] W' (BPost (eqB e'.r tr) W')) := Lib.hid (fun e' he' W' hW => by
                  have h1 := sameOne W' W.heap.size e'.ur (.slice pr nr cr) e'.r tr (Nat.le_trans HB6.out.size hW.size) ((HF.out e' he').2.1.below (belowCC HB6.out hW) (Nat.le_refl _)) (HMe.out.1.below (belowCC HB6.out hW) (Nat.le_refl _))
                  rw [HFf.out.1] at h1
                  exact h1)
                have H0R : Hid (RefI tr Ke w6 Ke.length (.bool false) (.int .i64 0) w6) := Lib.hid ⟨0, rfl, rfl, Nat.zero_le _, rfl, Below.refl _ _⟩
                have HLk6 := Lib.hid (show Ke.length ≤ 100 from by have := HKl.out; have := HL60.out; omega)
                clear e0 e1 HOw HRg HBw Hb6
                obtain ⟨wo6, hwo6⟩ : ∃ wo : World, wo = w6 := ⟨_, rfl⟩
                subst hwo6
                go_wp2_with fail
                go_loopg [9, 10] Ke.length (fun m sv iv wr => Hid (RefI tr Ke wo6 m sv iv wr))
                case atStart => exact H0R
                case round =>
                  obtain ⟨k, rfl, rfl, hk, hm5, hbk⟩ := hrel.out
                  clear hrel H0R
                  by_cases hkl5 : k < Ke.length
                  · have r5 : (k : Int) < (Ke.length : Int) := by omega
                    have hk100 : Ke.length ≤ 1000 := by have := HLk6.out; omega
                    have hat5 := List.getElem?_eq_getElem hkl5
                    obtain ⟨g5, o5, e5, hn5, hg5, hc5⟩ := (HRow6.out _ hbk).nth (by omega)
                    have hg5' : ∀ W', Below wr.heap.size wr W' → W'.rangeAt g5 (o5 + k * 27) (mxL Ke[k]) := fun W' hW => row_range (fun k' u hu => by
                      obtain ⟨g', o', e', _, _, hc'⟩ := (HRow6.out W' (belowCC hbk hW)).nth (by omega)
                      rw [e5] at e'
                      simp only [Option.some.injEq, Addr.mk.injEq, and_true] at e'
                      obtain ⟨rfl, rfl⟩ := e'
                      exact hc' k _ hat5 k' u hu)
                    have HG5 := Lib.hid hg5'
                    have HSm := Lib.hid (fun W' (hW : Below wr.heap.size wr W') => HSm6.out _ (List.getElem_mem hkl5) W' (belowCC hbk hW))
                    have HTk5 := Lib.hid (hasR_take (t := tr) hat5)
                    have HRg5 := Lib.hid (fun W' (hW : Below wr.heap.size wr W') => HRg6.out W' (belowCC hbk hW))
                    have hMe5 := (HF.out _ (List.getElem_mem hkl5)).2.1
                    clear hat5 hg5' hc5 hg5
                    generalize Ke[k] = e' at *
                    obtain ⟨tr', tw', tt', ur', uw', ut'⟩ := e'
                    obtain ⟨pq, cq, eq', _, _⟩ := hMe5.shape
                    dsimp only at eq'
                    subst eq'
                    subst e5
                    clear hMe5
                    have HQ : Hid (eqB tr' tr = eqB tr' tr) := Lib.hid rfl
                    obtain ⟨q, hq⟩ : ∃ q, eqB tr' tr = q := ⟨_, rfl⟩
                    dsimp only at HSm HTk5
                    rw [hq] at HSm HTk5
                    clear hq HQ
                    obtain ⟨fr', hfr'⟩ : ∃ f, tr'.f = f := ⟨_, rfl⟩
                    obtain ⟨nr', hnr'⟩ : ∃ k, tr'.items.length = k := ⟨_, rfl⟩
                    unfold mxL nineL at HG5
                    dsimp only at HG5
                    rw [hfr', hnr'] at HSm HG5
                    clear hfr' hnr'
                    obtain ⟨xk, xi, xg, xn, xf, xa, xb, xz⟩ := fr'
                    unfold aggV BPost at HSm
                    dsimp only at HSm HG5
                    have HG5r : Hid (∀ W', Below wr.heap.size wr W' → W'.rangeAt g5 (o5 + k * 27) [.int .i64 xk, .int .i64 xi, .int .i64 xg, .string xn, .string xf, .int .i64 xa, .slice pq nr' cq, .string xb, .int .i64 xz]) := Lib.hid (fun W' hW => range_part (x := []) (k := 0) (HG5.out W' hW) rfl)
                    obtain ⟨s5, hs5⟩ : ∃ s, hasR tr (Ke.take k) = s := ⟨_, rfl⟩
                    rw [hs5] at HTk5 ⊢
                    have HN5 := Lib.hid hm5
                    have HBk := Lib.hid hbk
                    clear hs5 HG5 hm5 hbk hn5
                    have hbd : Below wr.heap.size wr wr.drew := belowD (Below.refl _ _)
                    have l1 := HG5r.out _ hbd
                    have l2 := HRg5.out _ hbd
                    have hsz9 : (Tryz.prog.info? 30).map (·.size) = some 9 := by kernel_rfl
                    cases s5
                    all_goals go_upto_region 25 with (fail)
                    · refine wp_region_held_drew (S := (fun w' => w'.rangeAt g5 (o5 + k * 27) [.int .i64 xk, .int .i64 xi, .int .i64 xg, .string xn, .string xf, .int .i64 xa, .slice pq nr' cq, .string xb, .int .i64 xz] ∧ w'.rangeAt g (o + i * 27) [.int .i64 rk, .int .i64 ri, .int .i64 rg, .string rn, .string rf, .int .i64 ra, .slice pr nr cr, .string rb, .int .i64 rz])) (by kernel_rfl) ?_ (fun hHeld => ?_)
                      · exact ⟨l1, l2⟩
                      refine wpAnyH_take (i := 0) (oi := { dst := some 85, op := Op.move (Operand.tmp 9), type := 4, pos := "law.go:338", after := #[], guard := none }) (v := ?vvA0) rfl (by kernel_rfl) (by kernel_rfl) (by kernel_rfl) (fun _ _ _ h => h) (Or.inl ⟨by rfl, ?hyA0⟩) (by assumption) ?rsA0
                      case hyA0 =>
                        intro w hSw
                        (try dsimp only at hSw)
                        go_simp
                        (try with_reducible rfl)
                      (try simp only [Act.put, List.setIfInBounds_toArray, List.set_cons_zero, List.set_cons_succ])
                      refine wpAnyH_take (i := 1) (oi := { dst := some 86, op := Op.move (Operand.tmp 85), type := 4, pos := "law.go:338", after := #[{ on := 0, ground := Ground.data }], guard := none }) (v := ?vvA1) rfl (by kernel_rfl) (by kernel_rfl) (by kernel_rfl) (fun _ _ _ h => h) (Or.inl ⟨by rfl, ?hyA1⟩) (by assumption) ?rsA1
                      case hyA1 =>
                        intro w hSw
                        (try dsimp only at hSw)
                        go_simp
                        (try with_reducible rfl)
                      (try simp only [Act.put, List.setIfInBounds_toArray, List.set_cons_zero, List.set_cons_succ])
                      refine wpAnyH_take (i := 2) (oi := { dst := some 87, op := Op.move (Operand.tmp 7), type := 45, pos := "law.go:338", after := #[{ on := 1, ground := Ground.guard }], guard := some (1, false) }) (v := ?vvA2) rfl (by kernel_rfl) (by kernel_rfl) (by kernel_rfl) (fun _ _ _ h => h) (Or.inl ⟨by rfl, ?hyA2⟩) (by assumption) ?rsA2
                      case hyA2 =>
                        intro w hSw
                        (try dsimp only at hSw)
                        go_simp
                        (try with_reducible rfl)
                      (try simp only [Act.put, List.setIfInBounds_toArray, List.set_cons_zero, List.set_cons_succ])
                      refine wpAnyH_take (i := 3) (oi := { dst := some 88, op := Op.move (Operand.tmp 10), type := 3, pos := "law.go:338", after := #[{ on := 1, ground := Ground.guard }], guard := some (1, false) }) (v := ?vvA3) rfl (by kernel_rfl) (by kernel_rfl) (by kernel_rfl) (fun _ _ _ h => h) (Or.inl ⟨by rfl, ?hyA3⟩) (by assumption) ?rsA3
                      case hyA3 =>
                        intro w hSw
                        (try dsimp only at hSw)
                        go_simp
                        (try with_reducible rfl)
                      (try simp only [Act.put, List.setIfInBounds_toArray, List.set_cons_zero, List.set_cons_succ])
                      refine wpAnyH_take (i := 4) (oi := { dst := some 89, op := Op.indexAddr 45 (Operand.tmp 87) (Operand.tmp 88), type := 0, pos := "law.go:338", after := #[{ on := 2, ground := Ground.data }, { on := 3, ground := Ground.data }, { on := 1, ground := Ground.guard }], guard := some (1, false) }) (v := ?vvA4) rfl (by kernel_rfl) (by kernel_rfl) (by kernel_rfl) (fun _ _ _ h => h) (Or.inl ⟨by rfl, ?hyA4⟩) (by assumption) ?rsA4
                      case hyA4 =>
                        intro w hSw
                        (try dsimp only at hSw)
                        go_simp
                        (try with_reducible rfl)
                      (try simp only [Act.put, List.setIfInBounds_toArray, List.set_cons_zero, List.set_cons_succ])
                      refine wpAnyH_take (i := 5) (oi := { dst := some 90, op := Op.fieldAddr 47 (Operand.tmp 89) 0, type := 0, pos := "law.go:338", after := #[{ on := 4, ground := Ground.data }, { on := 1, ground := Ground.guard }], guard := some (1, false) }) (v := ?vvA5) rfl (by kernel_rfl) (by kernel_rfl) (by kernel_rfl) (fun _ _ _ h => h) (Or.inl ⟨by rfl, ?hyA5⟩) (by assumption) ?rsA5
                      case hyA5 =>
                        intro w hSw
                        (try dsimp only at hSw)
                        go_simp
                        (try with_reducible rfl)
                      (try simp only [Act.put, List.setIfInBounds_toArray, List.set_cons_zero, List.set_cons_succ])
                      refine wpAnyH_take (i := 6) (oi := { dst := some 91, op := Op.load 30 (Operand.tmp 90), type := 30, pos := "law.go:338", after := #[{ on := 5, ground := Ground.data }, { on := 1, ground := Ground.guard }], guard := some (1, false) }) rfl (by kernel_rfl) (by kernel_rfl) (by kernel_rfl) (fun _ _ _ h => h) (yieldsIf_load_mid (by rfl) 30 (.tmp 90) rfl g5 (o5 + k * 27) rfl [.int .i64 xk, .int .i64 xi, .int .i64 xg, .string xn, .string xf, .int .i64 xa, .slice pq nr' cq, .string xb, .int .i64 xz] _ (fun w hs => hs.1) Tryz.underlying30 rfl hsz9) (by assumption) ?_
                      (try simp only [Act.put, List.setIfInBounds_toArray, List.set_cons_zero, List.set_cons_succ])
                      refine wpAnyH_take (i := 7) (oi := { dst := some 92, op := Op.move (Operand.tmp 0), type := 45, pos := "law.go:338", after := #[{ on := 1, ground := Ground.guard }], guard := some (1, false) }) (v := ?vvA7) rfl (by kernel_rfl) (by kernel_rfl) (by kernel_rfl) (fun _ _ _ h => h) (Or.inl ⟨by rfl, ?hyA7⟩) (by assumption) ?rsA7
                      case hyA7 =>
                        intro w hSw
                        (try dsimp only at hSw)
                        go_simp
                        (try with_reducible rfl)
                      (try simp only [Act.put, List.setIfInBounds_toArray, List.set_cons_zero, List.set_cons_succ])
                      refine wpAnyH_take (i := 8) (oi := { dst := some 93, op := Op.move (Operand.tmp 8), type := 3, pos := "law.go:338", after := #[{ on := 1, ground := Ground.guard }], guard := some (1, false) }) (v := ?vvA8) rfl (by kernel_rfl) (by kernel_rfl) (by kernel_rfl) (fun _ _ _ h => h) (Or.inl ⟨by rfl, ?hyA8⟩) (by assumption) ?rsA8
                      case hyA8 =>
                        intro w hSw
                        (try dsimp only at hSw)
                        go_simp
                        (try with_reducible rfl)
                      (try simp only [Act.put, List.setIfInBounds_toArray, List.set_cons_zero, List.set_cons_succ])
                      refine wpAnyH_take (i := 9) (oi := { dst := some 94, op := Op.indexAddr 45 (Operand.tmp 92) (Operand.tmp 93), type := 0, pos := "law.go:338", after := #[{ on := 7, ground := Ground.data }, { on := 8, ground := Ground.data }, { on := 1, ground := Ground.guard }], guard := some (1, false) }) (v := ?vvA9) rfl (by kernel_rfl) (by kernel_rfl) (by kernel_rfl) (fun _ _ _ h => h) (Or.inl ⟨by rfl, ?hyA9⟩) (by assumption) ?rsA9
                      case hyA9 =>
                        intro w hSw
                        (try dsimp only at hSw)
                        go_simp
                        (try with_reducible rfl)
                      (try simp only [Act.put, List.setIfInBounds_toArray, List.set_cons_zero, List.set_cons_succ])
                      refine wpAnyH_take (i := 10) (oi := { dst := some 95, op := Op.fieldAddr 47 (Operand.tmp 94) 0, type := 0, pos := "law.go:338", after := #[{ on := 9, ground := Ground.data }, { on := 1, ground := Ground.guard }], guard := some (1, false) }) (v := ?vvA10) rfl (by kernel_rfl) (by kernel_rfl) (by kernel_rfl) (fun _ _ _ h => h) (Or.inl ⟨by rfl, ?hyA10⟩) (by assumption) ?rsA10
                      case hyA10 =>
                        intro w hSw
                        (try dsimp only at hSw)
                        go_simp
                        (try with_reducible rfl)
                      (try simp only [Act.put, List.setIfInBounds_toArray, List.set_cons_zero, List.set_cons_succ])
                      refine wpAnyH_take (i := 11) (oi := { dst := some 96, op := Op.load 30 (Operand.tmp 95), type := 30, pos := "law.go:338", after := #[{ on := 10, ground := Ground.data }, { on := 1, ground := Ground.guard }], guard := some (1, false) }) rfl (by kernel_rfl) (by kernel_rfl) (by kernel_rfl) (fun _ _ _ h => h) (yieldsIf_load_mid (by rfl) 30 (.tmp 95) rfl g (o + i * 27) rfl [.int .i64 rk, .int .i64 ri, .int .i64 rg, .string rn, .string rf, .int .i64 ra, .slice pr nr cr, .string rb, .int .i64 rz] _ (fun w hs => hs.2) Tryz.underlying30 rfl hsz9) (by assumption) ?_
                      (try simp only [Act.put, List.setIfInBounds_toArray, List.set_cons_zero, List.set_cons_succ])
                      refine wpAnyH_ready (rs := [12]) (by kernel_rfl) (by simp) ?_
                      refine AllReadyH.cons (o := { dst := some 97, op := Op.call { callee := Callee.value (Operand.func 21), args := #[Operand.tmp 91, Operand.tmp 96], argTypes := #[30, 30] }, type := 4, pos := "law.go:338", after := #[{ on := 6, ground := Ground.data }, { on := 11, ground := Ground.data }, { on := 1, ground := Ground.chain }, { on := 1, ground := Ground.guard }], guard := some (1, false) }) rfl (fun K hK => ?_) AllReadyH.nil
                      go_simp
                      refine (HSm.out _ hbd).mono ?_
                      rintro e w5' ⟨rfl, hb⟩
                      replace hbd := hbd.trans (hb.mono hbd.size)
                      clear hb l1 l2
                      have l1 := HG5r.out _ hbd
                      have l2 := HRg5.out _ hbd
                      go_wp2_with fail
                      refine hK.out _ _ ?_ (fun hHeld => ?_)
                      · exact ⟨l1, l2⟩
                      clear hK K
                      (try simp only [Act.put, List.setIfInBounds_toArray, List.set_cons_zero, List.set_cons_succ])
                      refine wpAnyH_take (i := 13) (oi := { dst := some 98, op := Op.pick (Operand.tmp 86) (Operand.const (Value.bool true)) (Operand.tmp 97), type := 4, pos := "law.go:338", after := #[{ on := 1, ground := Ground.data }, { on := 12, ground := Ground.data }], guard := none }) (v := ?vvA13) rfl (by kernel_rfl) (by kernel_rfl) (by kernel_rfl) (fun _ _ _ h => h) (Or.inl ⟨by rfl, ?hyA13⟩) (by assumption) ?rsA13
                      case hyA13 =>
                        intro w hSw
                        (try dsimp only at hSw)
                        go_simp
                        (try with_reducible rfl)
                      (try simp only [Act.put, List.setIfInBounds_toArray, List.set_cons_zero, List.set_cons_succ])
                      refine wpAnyH_take (i := 14) (oi := { dst := some 9, op := Op.assign (Operand.tmp 98), type := 4, pos := "law.go:338", after := #[{ on := 13, ground := Ground.data }, { on := 12, ground := Ground.chain }, { on := 0, ground := Ground.phase }, { on := 1, ground := Ground.phase }, { on := 2, ground := Ground.phase }, { on := 3, ground := Ground.phase }, { on := 4, ground := Ground.phase }, { on := 5, ground := Ground.phase }, { on := 6, ground := Ground.phase }, { on := 7, ground := Ground.phase }, { on := 8, ground := Ground.phase }, { on := 9, ground := Ground.phase }, { on := 10, ground := Ground.phase }, { on := 11, ground := Ground.phase }, { on := 12, ground := Ground.phase }, { on := 13, ground := Ground.phase }], guard := none }) (v := ?vvA14) rfl (by kernel_rfl) (by kernel_rfl) (by kernel_rfl) (fun _ _ _ h => h) (Or.inl ⟨by rfl, ?hyA14⟩) (by assumption) ?rsA14
                      case hyA14 =>
                        intro w hSw
                        (try dsimp only at hSw)
                        go_simp
                        (try with_reducible rfl)
                      (try simp only [Act.put, List.setIfInBounds_toArray, List.set_cons_zero, List.set_cons_succ])
                      refine wpAnyH_done (by kernel_rfl) ?_ _
                      have HBc := Lib.hid (belowCC HBk.out hbd)
                      clear hbd l1 l2
                      go_wp2_with fail
                      go_roundg (Ke.length - (k + 1))
                      case measure => have := HN5.out; omega
                      case rel => exact Lib.hid ⟨k + 1, by go_num, by rw [HTk5.out]; rfl, by omega, rfl, HBc.out⟩
                    · refine wp_region_held_drew (S := (fun w' => w'.rangeAt g5 (o5 + k * 27) [.int .i64 xk, .int .i64 xi, .int .i64 xg, .string xn, .string xf, .int .i64 xa, .slice pq nr' cq, .string xb, .int .i64 xz] ∧ w'.rangeAt g (o + i * 27) [.int .i64 rk, .int .i64 ri, .int .i64 rg, .string rn, .string rf, .int .i64 ra, .slice pr nr cr, .string rb, .int .i64 rz])) (by kernel_rfl) ?_ (fun hHeld => ?_)
                      · exact ⟨l1, l2⟩
                      refine wpAnyH_take (i := 0) (oi := { dst := some 85, op := Op.move (Operand.tmp 9), type := 4, pos := "law.go:338", after := #[], guard := none }) (v := ?vvB0) rfl (by kernel_rfl) (by kernel_rfl) (by kernel_rfl) (fun _ _ _ h => h) (Or.inl ⟨by rfl, ?hyB0⟩) (by assumption) ?rsB0
                      case hyB0 =>
                        intro w hSw
                        (try dsimp only at hSw)
                        go_simp
                        (try with_reducible rfl)
                      (try simp only [Act.put, List.setIfInBounds_toArray, List.set_cons_zero, List.set_cons_succ])
                      refine wpAnyH_take (i := 1) (oi := { dst := some 86, op := Op.move (Operand.tmp 85), type := 4, pos := "law.go:338", after := #[{ on := 0, ground := Ground.data }], guard := none }) (v := ?vvB1) rfl (by kernel_rfl) (by kernel_rfl) (by kernel_rfl) (fun _ _ _ h => h) (Or.inl ⟨by rfl, ?hyB1⟩) (by assumption) ?rsB1
                      case hyB1 =>
                        intro w hSw
                        (try dsimp only at hSw)
                        go_simp
                        (try with_reducible rfl)
                      (try simp only [Act.put, List.setIfInBounds_toArray, List.set_cons_zero, List.set_cons_succ])
                      refine wpAnyH_take (i := 2) (oi := { dst := some 87, op := Op.move (Operand.tmp 7), type := 45, pos := "law.go:338", after := #[{ on := 1, ground := Ground.guard }], guard := some (1, false) }) (v := undef) rfl (by kernel_rfl) (by kernel_rfl) (by kernel_rfl) (fun _ _ _ h => h) (Or.inr ⟨by rfl, rfl⟩) (by assumption) ?_
                      (try simp only [Act.put, List.setIfInBounds_toArray, List.set_cons_zero, List.set_cons_succ])
                      refine wpAnyH_take (i := 3) (oi := { dst := some 88, op := Op.move (Operand.tmp 10), type := 3, pos := "law.go:338", after := #[{ on := 1, ground := Ground.guard }], guard := some (1, false) }) (v := undef) rfl (by kernel_rfl) (by kernel_rfl) (by kernel_rfl) (fun _ _ _ h => h) (Or.inr ⟨by rfl, rfl⟩) (by assumption) ?_
                      (try simp only [Act.put, List.setIfInBounds_toArray, List.set_cons_zero, List.set_cons_succ])
                      refine wpAnyH_take (i := 4) (oi := { dst := some 89, op := Op.indexAddr 45 (Operand.tmp 87) (Operand.tmp 88), type := 0, pos := "law.go:338", after := #[{ on := 2, ground := Ground.data }, { on := 3, ground := Ground.data }, { on := 1, ground := Ground.guard }], guard := some (1, false) }) (v := undef) rfl (by kernel_rfl) (by kernel_rfl) (by kernel_rfl) (fun _ _ _ h => h) (Or.inr ⟨by rfl, rfl⟩) (by assumption) ?_
                      (try simp only [Act.put, List.setIfInBounds_toArray, List.set_cons_zero, List.set_cons_succ])
                      refine wpAnyH_take (i := 5) (oi := { dst := some 90, op := Op.fieldAddr 47 (Operand.tmp 89) 0, type := 0, pos := "law.go:338", after := #[{ on := 4, ground := Ground.data }, { on := 1, ground := Ground.guard }], guard := some (1, false) }) (v := undef) rfl (by kernel_rfl) (by kernel_rfl) (by kernel_rfl) (fun _ _ _ h => h) (Or.inr ⟨by rfl, rfl⟩) (by assumption) ?_
                      (try simp only [Act.put, List.setIfInBounds_toArray, List.set_cons_zero, List.set_cons_succ])
                      refine wpAnyH_take (i := 6) (oi := { dst := some 91, op := Op.load 30 (Operand.tmp 90), type := 30, pos := "law.go:338", after := #[{ on := 5, ground := Ground.data }, { on := 1, ground := Ground.guard }], guard := some (1, false) }) (v := undef) rfl (by kernel_rfl) (by kernel_rfl) (by kernel_rfl) (fun _ _ _ h => h) (Or.inr ⟨by rfl, rfl⟩) (by assumption) ?_
                      (try simp only [Act.put, List.setIfInBounds_toArray, List.set_cons_zero, List.set_cons_succ])
                      refine wpAnyH_take (i := 7) (oi := { dst := some 92, op := Op.move (Operand.tmp 0), type := 45, pos := "law.go:338", after := #[{ on := 1, ground := Ground.guard }], guard := some (1, false) }) (v := undef) rfl (by kernel_rfl) (by kernel_rfl) (by kernel_rfl) (fun _ _ _ h => h) (Or.inr ⟨by rfl, rfl⟩) (by assumption) ?_
                      (try simp only [Act.put, List.setIfInBounds_toArray, List.set_cons_zero, List.set_cons_succ])
                      refine wpAnyH_take (i := 8) (oi := { dst := some 93, op := Op.move (Operand.tmp 8), type := 3, pos := "law.go:338", after := #[{ on := 1, ground := Ground.guard }], guard := some (1, false) }) (v := undef) rfl (by kernel_rfl) (by kernel_rfl) (by kernel_rfl) (fun _ _ _ h => h) (Or.inr ⟨by rfl, rfl⟩) (by assumption) ?_
                      (try simp only [Act.put, List.setIfInBounds_toArray, List.set_cons_zero, List.set_cons_succ])
                      refine wpAnyH_take (i := 9) (oi := { dst := some 94, op := Op.indexAddr 45 (Operand.tmp 92) (Operand.tmp 93), type := 0, pos := "law.go:338", after := #[{ on := 7, ground := Ground.data }, { on := 8, ground := Ground.data }, { on := 1, ground := Ground.guard }], guard := some (1, false) }) (v := undef) rfl (by kernel_rfl) (by kernel_rfl) (by kernel_rfl) (fun _ _ _ h => h) (Or.inr ⟨by rfl, rfl⟩) (by assumption) ?_
                      (try simp only [Act.put, List.setIfInBounds_toArray, List.set_cons_zero, List.set_cons_succ])
                      refine wpAnyH_take (i := 10) (oi := { dst := some 95, op := Op.fieldAddr 47 (Operand.tmp 94) 0, type := 0, pos := "law.go:338", after := #[{ on := 9, ground := Ground.data }, { on := 1, ground := Ground.guard }], guard := some (1, false) }) (v := undef) rfl (by kernel_rfl) (by kernel_rfl) (by kernel_rfl) (fun _ _ _ h => h) (Or.inr ⟨by rfl, rfl⟩) (by assumption) ?_
                      (try simp only [Act.put, List.setIfInBounds_toArray, List.set_cons_zero, List.set_cons_succ])
                      refine wpAnyH_take (i := 11) (oi := { dst := some 96, op := Op.load 30 (Operand.tmp 95), type := 30, pos := "law.go:338", after := #[{ on := 10, ground := Ground.data }, { on := 1, ground := Ground.guard }], guard := some (1, false) }) (v := undef) rfl (by kernel_rfl) (by kernel_rfl) (by kernel_rfl) (fun _ _ _ h => h) (Or.inr ⟨by rfl, rfl⟩) (by assumption) ?_
                      (try simp only [Act.put, List.setIfInBounds_toArray, List.set_cons_zero, List.set_cons_succ])
                      refine wpAnyH_take (i := 12) (oi := { dst := some 97, op := Op.call { callee := Callee.value (Operand.func 21), args := #[Operand.tmp 91, Operand.tmp 96], argTypes := #[30, 30] }, type := 4, pos := "law.go:338", after := #[{ on := 6, ground := Ground.data }, { on := 11, ground := Ground.data }, { on := 1, ground := Ground.chain }, { on := 1, ground := Ground.guard }], guard := some (1, false) }) (v := undef) rfl (by kernel_rfl) (by kernel_rfl) (by kernel_rfl) (fun _ _ _ h => h) (Or.inr ⟨by rfl, rfl⟩) (by assumption) ?_
                      (try simp only [Act.put, List.setIfInBounds_toArray, List.set_cons_zero, List.set_cons_succ])
                      refine wpAnyH_take (i := 13) (oi := { dst := some 98, op := Op.pick (Operand.tmp 86) (Operand.const (Value.bool true)) (Operand.tmp 97), type := 4, pos := "law.go:338", after := #[{ on := 1, ground := Ground.data }, { on := 12, ground := Ground.data }], guard := none }) (v := ?vvB13) rfl (by kernel_rfl) (by kernel_rfl) (by kernel_rfl) (fun _ _ _ h => h) (Or.inl ⟨by rfl, ?hyB13⟩) (by assumption) ?rsB13
                      case hyB13 =>
                        intro w hSw
                        (try dsimp only at hSw)
                        go_simp
                        (try with_reducible rfl)
                      (try simp only [Act.put, List.setIfInBounds_toArray, List.set_cons_zero, List.set_cons_succ])
                      refine wpAnyH_take (i := 14) (oi := { dst := some 9, op := Op.assign (Operand.tmp 98), type := 4, pos := "law.go:338", after := #[{ on := 13, ground := Ground.data }, { on := 12, ground := Ground.chain }, { on := 0, ground := Ground.phase }, { on := 1, ground := Ground.phase }, { on := 2, ground := Ground.phase }, { on := 3, ground := Ground.phase }, { on := 4, ground := Ground.phase }, { on := 5, ground := Ground.phase }, { on := 6, ground := Ground.phase }, { on := 7, ground := Ground.phase }, { on := 8, ground := Ground.phase }, { on := 9, ground := Ground.phase }, { on := 10, ground := Ground.phase }, { on := 11, ground := Ground.phase }, { on := 12, ground := Ground.phase }, { on := 13, ground := Ground.phase }], guard := none }) (v := ?vvB14) rfl (by kernel_rfl) (by kernel_rfl) (by kernel_rfl) (fun _ _ _ h => h) (Or.inl ⟨by rfl, ?hyB14⟩) (by assumption) ?rsB14
                      case hyB14 =>
                        intro w hSw
                        (try dsimp only at hSw)
                        go_simp
                        (try with_reducible rfl)
                      (try simp only [Act.put, List.setIfInBounds_toArray, List.set_cons_zero, List.set_cons_succ])
                      refine wpAnyH_done (by kernel_rfl) ?_ _
                      have HBc := Lib.hid (belowCC HBk.out hbd)
                      clear hbd l1 l2
                      go_wp2_with fail
                      go_roundg (Ke.length - (k + 1))
                      case measure => have := HN5.out; omega
                      case rel => exact Lib.hid ⟨k + 1, by go_num, by rw [HTk5.out]; rfl, by omega, rfl, HBc.out⟩
                  · obtain rfl : k = Ke.length := by omega
                    have hee : hasR tr (Ke.take Ke.length) = true := by rw [List.take_length]; exact HAll.out
                    rw [hee]
                    have hzz : wo6.heap.size ≤ wr.heap.size := hbk.size
                    have HSe := Lib.hid (HS6.out.below hbk)
                    have HOe := Lib.hid (HO6.out.below hbk)
                    have HBe := Lib.hid (belowCC HB6.out hbk)
                    have HZe : Hid (w5.heap.size ≤ wr.heap.size) := Lib.hid (Nat.le_trans HZ6.out hzz)
                    clear hee hzz hbk hm5 hk
                    go_wp2_with fail
                    go_roundg (l.length - (i + 1))
                    case measure => have := HN.out; omega
                    case rel => exact Lib.hid ⟨i + 1, S, Ke, by go_num, by omega, rfl, HSe.out, HK.out, HF.out, by have := HKl.out; omega, HOe.out, HZe.out, HBe.out⟩
          · obtain rfl : i = l.length := by omega
            have HS := Lib.hid hS
            have HK := Lib.hid hK
            have HF := Lib.hid hF
            have HKl : Hid (Ke.length ≤ 60) := Lib.hid (Nat.le_trans hkl HL60.out)
            have HB7 := Lib.hid hbw
            have HO := Lib.hid hown
            have HRow7 := Lib.hid (fun W' (hW : Below wr.heap.size wr W') => (hown.row (fun a ha => ⟨mxL_len a, mxL_one (hF a ha).2⟩)).below hW (Nat.le_refl _))
            have HZ7 := Lib.hid hbz
            obtain ⟨w7, hw7⟩ : ∃ w7 : World, w7 = wr := ⟨_, rfl⟩
            subst hw7
            have H70 : Hid (RunI w7 Ke.length Ke.length (.int .i64 0) w7) := Lib.hid ⟨0, rfl, Nat.zero_le _, rfl, Below.refl _ _⟩
            clear hS hK hF hkl hbw hown hbz hn hi
            have hsz9 : (Tryz.prog.info? 30).map (·.size) = some 9 := by kernel_rfl
            have hsz27 : (Tryz.prog.info? 47).map (·.size) = some 27 := by kernel_rfl
            go_wp2_with fail
            go_loopg [11] Ke.length (fun m iv wr => Hid (RunI w7 Ke.length m iv wr))
            case atStart => exact H70
            case round =>
              obtain ⟨k, rfl, hk, hm7, hbk⟩ := hrel.out
              clear hrel H70
              by_cases hkl : k < Ke.length
              · have r7 : (k : Int) < (Ke.length : Int) := by omega
                have hk100 : Ke.length ≤ 1000 := by have := HKl.out; omega
                have hat := List.getElem?_eq_getElem hkl
                obtain ⟨g, o, e1, hn0, hg, hc⟩ := (HRow7.out _ hbk).nth (by omega)
                have hr7 : ∀ W', Below wr.heap.size wr W' → W'.rangeAt g (o + k * 27) (mxL Ke[k]) := fun W' hW => row_range (fun k' u hu => by
                  obtain ⟨g', o', e', _, _, hc'⟩ := (HRow7.out W' (belowCC hbk hW)).nth (by omega)
                  rw [e1] at e'
                  simp only [Option.some.injEq, Addr.mk.injEq, and_true] at e'
                  obtain ⟨rfl, rfl⟩ := e'
                  exact hc' k _ hat k' u hu)
                have hmm : mOf Ke[k] ∈ Ke.map mOf := List.mem_map_of_mem (List.getElem_mem hkl)
                have hFe := HF.out _ (List.getElem_mem hkl)
                have HH := Lib.hid (fun W' (hW : Below wr.heap.size wr W') => held_in (HS.out.below (belowCC hbk hW)) HK.out (by rw [List.length_map]; have := HKl.out; omega) hFe.1 (MonIn.below hFe.2 (belowCC HB7.out (belowCC hbk hW)) (Nat.le_refl _)) (Nat.le_trans HB7.out.size (belowCC hbk hW).size) hmm)
                have HWt := Lib.hid (fun W' (hW : Below wr.heap.size wr W') => watched_in (HS.out.below (belowCC hbk hW)) HK.out (by rw [List.length_map]; have := HKl.out; omega) hFe.1 (MonIn.below hFe.2 (belowCC HB7.out (belowCC hbk hW)) (Nat.le_refl _)) (Nat.le_trans HB7.out.size (belowCC hbk hW).size) hmm)
                have HR7 := Lib.hid hr7
                have hMe := hFe.2
                clear hat hr7 hmm hFe hc hg hn0
                generalize Ke[k] = e at *
                obtain ⟨tr, tw, tt, ur, uw, ut⟩ := e
                obtain ⟨m1, m2, m3⟩ := hMe
                obtain ⟨pr, cr, er, _, _⟩ := m1.shape
                obtain ⟨pw, cw, ew, _, _⟩ := m2.shape
                obtain ⟨pt, ct, et, _, _⟩ := m3.shape
                dsimp only at er ew et
                subst er; subst ew; subst et; subst e1
                obtain ⟨fr, hfr⟩ : ∃ f, tr.f = f := ⟨_, rfl⟩
                obtain ⟨fw, hfw⟩ : ∃ f, tw.f = f := ⟨_, rfl⟩
                obtain ⟨ft, hft⟩ : ∃ f, tt.f = f := ⟨_, rfl⟩
                obtain ⟨nr, hnr⟩ : ∃ k, tr.items.length = k := ⟨_, rfl⟩
                obtain ⟨nw, hnw⟩ : ∃ k, tw.items.length = k := ⟨_, rfl⟩
                obtain ⟨nt, hnt⟩ : ∃ k, tt.items.length = k := ⟨_, rfl⟩
                unfold HinP mxL nineL aggV at HH HWt
                unfold mxL nineL at HR7
                dsimp only at HH HWt HR7
                rw [hfr, hfw, hft] at HR7
                rw [hfr, hfw, hft] at HH HWt
                rw [hnr, hnw, hnt] at HR7 HH HWt
                clear hfr hfw hft hnr hnw hnt
                obtain ⟨rk, ri, rg, rn, rf, ra, rb, rz⟩ := fr
                obtain ⟨w_k, w_i, w_g, w_n, w_f, w_a, w_b, w_z⟩ := fw
                obtain ⟨t_k, t_i, t_g, t_n, t_f, t_a, t_b, t_z⟩ := ft
                simp only [List.cons_append, List.nil_append] at HH HWt
                have HRg : Hid (∀ W', Below wr.heap.size wr W' → W'.rangeAt g (o + k * 27) [.int .i64 rk, .int .i64 ri, .int .i64 rg, .string rn, .string rf, .int .i64 ra, .slice pr nr cr, .string rb, .int .i64 rz, .int .i64 w_k, .int .i64 w_i, .int .i64 w_g, .string w_n, .string w_f, .int .i64 w_a, .slice pw nw cw, .string w_b, .int .i64 w_z, .int .i64 t_k, .int .i64 t_i, .int .i64 t_g, .string t_n, .string t_f, .int .i64 t_a, .slice pt nt ct, .string t_b, .int .i64 t_z] ∧ W'.rangeAt g (o + k * 27 + 9) [.int .i64 w_k, .int .i64 w_i, .int .i64 w_g, .string w_n, .string w_f, .int .i64 w_a, .slice pw nw cw, .string w_b, .int .i64 w_z] ∧ W'.rangeAt g (o + k * 27 + 18) [.int .i64 t_k, .int .i64 t_i, .int .i64 t_g, .string t_n, .string t_f, .int .i64 t_a, .slice pt nt ct, .string t_b, .int .i64 t_z]) := Lib.hid (fun W' hW => ⟨HR7.out W' hW, range_part (x := [.int .i64 rk, .int .i64 ri, .int .i64 rg, .string rn, .string rf, .int .i64 ra, .slice pr nr cr, .string rb, .int .i64 rz]) (y := [.int .i64 w_k, .int .i64 w_i, .int .i64 w_g, .string w_n, .string w_f, .int .i64 w_a, .slice pw nw cw, .string w_b, .int .i64 w_z]) (v := [.int .i64 t_k, .int .i64 t_i, .int .i64 t_g, .string t_n, .string t_f, .int .i64 t_a, .slice pt nt ct, .string t_b, .int .i64 t_z]) (HR7.out W' hW) rfl, range_part (x := [.int .i64 rk, .int .i64 ri, .int .i64 rg, .string rn, .string rf, .int .i64 ra, .slice pr nr cr, .string rb, .int .i64 rz, .int .i64 w_k, .int .i64 w_i, .int .i64 w_g, .string w_n, .string w_f, .int .i64 w_a, .slice pw nw cw, .string w_b, .int .i64 w_z]) (y := [.int .i64 t_k, .int .i64 t_i, .int .i64 t_g, .string t_n, .string t_f, .int .i64 t_a, .slice pt nt ct, .string t_b, .int .i64 t_z]) (v := []) (HR7.out W' hW) rfl⟩)
                have HN7 := Lib.hid hm7
                have HBk := Lib.hid hbk
                clear HR7 hm7 hbk m1 m2 m3
                go_upto_region 31 with (fail)
                have hbd : Below wr.heap.size wr wr.drew := belowD (Below.refl _ _)
                obtain ⟨l1, l2, l3⟩ := HRg.out _ hbd
                refine wp_region_held_drew (S := (fun w' => w'.rangeAt g (o + k * 27) [.int .i64 rk, .int .i64 ri, .int .i64 rg, .string rn, .string rf, .int .i64 ra, .slice pr nr cr, .string rb, .int .i64 rz, .int .i64 w_k, .int .i64 w_i, .int .i64 w_g, .string w_n, .string w_f, .int .i64 w_a, .slice pw nw cw, .string w_b, .int .i64 w_z, .int .i64 t_k, .int .i64 t_i, .int .i64 t_g, .string t_n, .string t_f, .int .i64 t_a, .slice pt nt ct, .string t_b, .int .i64 t_z] ∧ w'.rangeAt g (o + k * 27 + 9) [.int .i64 w_k, .int .i64 w_i, .int .i64 w_g, .string w_n, .string w_f, .int .i64 w_a, .slice pw nw cw, .string w_b, .int .i64 w_z] ∧ w'.rangeAt g (o + k * 27 + 18) [.int .i64 t_k, .int .i64 t_i, .int .i64 t_g, .string t_n, .string t_f, .int .i64 t_a, .slice pt nt ct, .string t_b, .int .i64 t_z])) (by kernel_rfl) ?_ (fun hHeld => ?_)
                · exact ⟨l1, l2, l3⟩
                refine wpAnyH_take (i := 0) (oi := { dst := some 107, op := Op.move (Operand.tmp 5), type := 24, pos := "law.go:346", after := #[], guard := none }) (v := ?vvC0) rfl (by kernel_rfl) (by kernel_rfl) (by kernel_rfl) (fun _ _ _ h => h) (Or.inl ⟨by rfl, ?hyC0⟩) (by assumption) ?rsC0
                case hyC0 =>
                  intro w hSw
                  (try dsimp only at hSw)
                  go_simp
                  (try with_reducible rfl)
                (try simp only [Act.put, List.setIfInBounds_toArray, List.set_cons_zero, List.set_cons_succ])
                refine wpAnyH_take (i := 1) (oi := { dst := some 108, op := Op.move (Operand.tmp 7), type := 45, pos := "law.go:346", after := #[], guard := none }) (v := ?vvC1) rfl (by kernel_rfl) (by kernel_rfl) (by kernel_rfl) (fun _ _ _ h => h) (Or.inl ⟨by rfl, ?hyC1⟩) (by assumption) ?rsC1
                case hyC1 =>
                  intro w hSw
                  (try dsimp only at hSw)
                  go_simp
                  (try with_reducible rfl)
                (try simp only [Act.put, List.setIfInBounds_toArray, List.set_cons_zero, List.set_cons_succ])
                refine wpAnyH_take (i := 2) (oi := { dst := some 109, op := Op.move (Operand.tmp 11), type := 3, pos := "law.go:346", after := #[], guard := none }) (v := ?vvC2) rfl (by kernel_rfl) (by kernel_rfl) (by kernel_rfl) (fun _ _ _ h => h) (Or.inl ⟨by rfl, ?hyC2⟩) (by assumption) ?rsC2
                case hyC2 =>
                  intro w hSw
                  (try dsimp only at hSw)
                  go_simp
                  (try with_reducible rfl)
                (try simp only [Act.put, List.setIfInBounds_toArray, List.set_cons_zero, List.set_cons_succ])
                refine wpAnyH_take (i := 3) (oi := { dst := some 110, op := Op.indexAddr 45 (Operand.tmp 108) (Operand.tmp 109), type := 0, pos := "law.go:346", after := #[{ on := 1, ground := Ground.data }, { on := 2, ground := Ground.data }], guard := none }) (v := ?vvC3) rfl (by kernel_rfl) (by kernel_rfl) (by kernel_rfl) (fun _ _ _ h => h) (Or.inl ⟨by rfl, ?hyC3⟩) (by assumption) ?rsC3
                case hyC3 =>
                  intro w hSw
                  (try dsimp only at hSw)
                  go_simp
                  (try with_reducible rfl)
                (try simp only [Act.put, List.setIfInBounds_toArray, List.set_cons_zero, List.set_cons_succ])
                refine wpAnyH_take (i := 4) (oi := { dst := some 111, op := Op.fieldAddr 47 (Operand.tmp 110) 1, type := 0, pos := "law.go:346", after := #[{ on := 3, ground := Ground.data }], guard := none }) (v := ?vvC4) rfl (by kernel_rfl) (by kernel_rfl) (by kernel_rfl) (fun _ _ _ h => h) (Or.inl ⟨by rfl, ?hyC4⟩) (by assumption) ?rsC4
                case hyC4 =>
                  intro w hSw
                  (try dsimp only at hSw)
                  go_simp
                  (try with_reducible rfl)
                (try simp only [Act.put, List.setIfInBounds_toArray, List.set_cons_zero, List.set_cons_succ])
                refine wpAnyH_take (i := 5) (oi := { dst := some 112, op := Op.load 30 (Operand.tmp 111), type := 30, pos := "law.go:346", after := #[{ on := 4, ground := Ground.data }], guard := none }) rfl (by kernel_rfl) (by kernel_rfl) (by kernel_rfl) (fun _ _ _ h => h) (yieldsIf_load_mid (by rfl) 30 (.tmp 111) rfl g (o + k * 27 + 9) rfl [.int .i64 w_k, .int .i64 w_i, .int .i64 w_g, .string w_n, .string w_f, .int .i64 w_a, .slice pw nw cw, .string w_b, .int .i64 w_z] _ (fun w hs => hs.2.1) Tryz.underlying30 rfl hsz9) (by assumption) ?_
                (try simp only [Act.put, List.setIfInBounds_toArray, List.set_cons_zero, List.set_cons_succ])
                refine wpAnyH_take (i := 7) (oi := { dst := some 114, op := Op.move (Operand.tmp 7), type := 45, pos := "law.go:346", after := #[], guard := none }) (v := ?vvC7) rfl (by kernel_rfl) (by kernel_rfl) (by kernel_rfl) (fun _ _ _ h => h) (Or.inl ⟨by rfl, ?hyC7⟩) (by assumption) ?rsC7
                case hyC7 =>
                  intro w hSw
                  (try dsimp only at hSw)
                  go_simp
                  (try with_reducible rfl)
                (try simp only [Act.put, List.setIfInBounds_toArray, List.set_cons_zero, List.set_cons_succ])
                refine wpAnyH_take (i := 8) (oi := { dst := some 115, op := Op.move (Operand.tmp 11), type := 3, pos := "law.go:346", after := #[], guard := none }) (v := ?vvC8) rfl (by kernel_rfl) (by kernel_rfl) (by kernel_rfl) (fun _ _ _ h => h) (Or.inl ⟨by rfl, ?hyC8⟩) (by assumption) ?rsC8
                case hyC8 =>
                  intro w hSw
                  (try dsimp only at hSw)
                  go_simp
                  (try with_reducible rfl)
                (try simp only [Act.put, List.setIfInBounds_toArray, List.set_cons_zero, List.set_cons_succ])
                refine wpAnyH_take (i := 9) (oi := { dst := some 116, op := Op.indexAddr 45 (Operand.tmp 114) (Operand.tmp 115), type := 0, pos := "law.go:346", after := #[{ on := 7, ground := Ground.data }, { on := 8, ground := Ground.data }], guard := none }) (v := ?vvC9) rfl (by kernel_rfl) (by kernel_rfl) (by kernel_rfl) (fun _ _ _ h => h) (Or.inl ⟨by rfl, ?hyC9⟩) (by assumption) ?rsC9
                case hyC9 =>
                  intro w hSw
                  (try dsimp only at hSw)
                  go_simp
                  (try with_reducible rfl)
                (try simp only [Act.put, List.setIfInBounds_toArray, List.set_cons_zero, List.set_cons_succ])
                refine wpAnyH_take (i := 10) (oi := { dst := some 117, op := Op.load 47 (Operand.tmp 116), type := 47, pos := "law.go:346", after := #[{ on := 9, ground := Ground.data }], guard := none }) rfl (by kernel_rfl) (by kernel_rfl) (by kernel_rfl) (fun _ _ _ h => h) (yieldsIf_load_mid (by rfl) 47 (.tmp 116) rfl g (o + k * 27) rfl [.int .i64 rk, .int .i64 ri, .int .i64 rg, .string rn, .string rf, .int .i64 ra, .slice pr nr cr, .string rb, .int .i64 rz, .int .i64 w_k, .int .i64 w_i, .int .i64 w_g, .string w_n, .string w_f, .int .i64 w_a, .slice pw nw cw, .string w_b, .int .i64 w_z, .int .i64 t_k, .int .i64 t_i, .int .i64 t_g, .string t_n, .string t_f, .int .i64 t_a, .slice pt nt ct, .string t_b, .int .i64 t_z] _ (fun w hs => hs.1) Tryz.underlying47 rfl hsz27) (by assumption) ?_
                (try simp only [Act.put, List.setIfInBounds_toArray, List.set_cons_zero, List.set_cons_succ])
                refine wpAnyH_ready (rs := [6]) (by kernel_rfl) (by simp) ?_
                refine AllReadyH.cons (o := { dst := some 113, op := Op.call { callee := Callee.value (Operand.func 29), args := #[Operand.tmp 107, Operand.tmp 112], argTypes := #[24, 30] }, type := 45, pos := "law.go:346", after := #[{ on := 0, ground := Ground.data }, { on := 5, ground := Ground.data }], guard := none }) rfl (fun K hK => ?_) AllReadyH.nil
                go_simp
                refine (HH.out _ hbd).mono ?_
                rintro e w5' ⟨p5, k5, c5, rfl, hb, hin⟩
                have HIn := Lib.hid hin; clear hin
                replace hbd := hbd.trans (hb.mono hbd.size)
                clear hb l1 l2 l3
                obtain ⟨l1, l2, l3⟩ := HRg.out _ hbd
                go_wp2_with fail
                refine hK.out _ _ ?_ (fun hHeld => ?_)
                · exact ⟨l1, l2, l3⟩
                clear hK K
                (try simp only [Act.put, List.setIfInBounds_toArray, List.set_cons_zero, List.set_cons_succ])
                refine wpAnyH_ready (rs := [11]) (by kernel_rfl) (by simp) ?_
                refine AllReadyH.cons (o := { dst := some 118, op := Op.call { callee := Callee.value (Operand.func 28), args := #[Operand.tmp 113, Operand.tmp 117], argTypes := #[45, 47] }, type := 4, pos := "law.go:346", after := #[{ on := 6, ground := Ground.data }, { on := 10, ground := Ground.data }, { on := 6, ground := Ground.chain }], guard := none }) rfl (fun K hK => ?_) AllReadyH.nil
                go_simp
                refine (HIn.out _ (Below.refl _ _)).mono ?_
                rintro e w5' ⟨rfl, hb⟩
                replace hbd := hbd.trans (hb.mono hbd.size)
                clear hb l1 l2 l3
                obtain ⟨l1, l2, l3⟩ := HRg.out _ hbd
                go_wp2_with fail
                refine hK.out _ _ ?_ (fun hHeld => ?_)
                · exact ⟨l1, l2, l3⟩
                clear hK K
                (try simp only [Act.put, List.setIfInBounds_toArray, List.set_cons_zero, List.set_cons_succ])
                refine wpAnyH_take (i := 12) (oi := { dst := some 119, op := Op.unOp UnOp.not 4 (Operand.tmp 118), type := 4, pos := "law.go:346", after := #[{ on := 11, ground := Ground.data }], guard := none }) (v := ?vvC12) rfl (by kernel_rfl) (by kernel_rfl) (by kernel_rfl) (fun _ _ _ h => h) (Or.inl ⟨by rfl, ?hyC12⟩) (by assumption) ?rsC12
                case hyC12 =>
                  intro w hSw
                  (try dsimp only at hSw)
                  go_simp
                  (try with_reducible rfl)
                (try simp only [Act.put, List.setIfInBounds_toArray, List.set_cons_zero, List.set_cons_succ])
                refine wpAnyH_take (i := 13) (oi := { dst := some 120, op := Op.move (Operand.tmp 119), type := 4, pos := "law.go:346", after := #[{ on := 12, ground := Ground.data }, { on := 11, ground := Ground.chain }], guard := none }) (v := ?vvC13) rfl (by kernel_rfl) (by kernel_rfl) (by kernel_rfl) (fun _ _ _ h => h) (Or.inl ⟨by rfl, ?hyC13⟩) (by assumption) ?rsC13
                case hyC13 =>
                  intro w hSw
                  (try dsimp only at hSw)
                  go_simp
                  (try with_reducible rfl)
                (try simp only [Act.put, List.setIfInBounds_toArray, List.set_cons_zero, List.set_cons_succ])
                refine wpAnyH_take (i := 14) (oi := { dst := some 121, op := Op.move (Operand.tmp 5), type := 24, pos := "law.go:346", after := #[{ on := 13, ground := Ground.guard }], guard := some (13, false) }) (v := ?vvC14) rfl (by kernel_rfl) (by kernel_rfl) (by kernel_rfl) (fun _ _ _ h => h) (Or.inl ⟨by rfl, ?hyC14⟩) (by assumption) ?rsC14
                case hyC14 =>
                  intro w hSw
                  (try dsimp only at hSw)
                  go_simp
                  (try with_reducible rfl)
                (try simp only [Act.put, List.setIfInBounds_toArray, List.set_cons_zero, List.set_cons_succ])
                refine wpAnyH_take (i := 15) (oi := { dst := some 122, op := Op.move (Operand.tmp 7), type := 45, pos := "law.go:346", after := #[{ on := 13, ground := Ground.guard }], guard := some (13, false) }) (v := ?vvC15) rfl (by kernel_rfl) (by kernel_rfl) (by kernel_rfl) (fun _ _ _ h => h) (Or.inl ⟨by rfl, ?hyC15⟩) (by assumption) ?rsC15
                case hyC15 =>
                  intro w hSw
                  (try dsimp only at hSw)
                  go_simp
                  (try with_reducible rfl)
                (try simp only [Act.put, List.setIfInBounds_toArray, List.set_cons_zero, List.set_cons_succ])
                refine wpAnyH_take (i := 16) (oi := { dst := some 123, op := Op.move (Operand.tmp 11), type := 3, pos := "law.go:346", after := #[{ on := 13, ground := Ground.guard }], guard := some (13, false) }) (v := ?vvC16) rfl (by kernel_rfl) (by kernel_rfl) (by kernel_rfl) (fun _ _ _ h => h) (Or.inl ⟨by rfl, ?hyC16⟩) (by assumption) ?rsC16
                case hyC16 =>
                  intro w hSw
                  (try dsimp only at hSw)
                  go_simp
                  (try with_reducible rfl)
                (try simp only [Act.put, List.setIfInBounds_toArray, List.set_cons_zero, List.set_cons_succ])
                refine wpAnyH_take (i := 17) (oi := { dst := some 124, op := Op.indexAddr 45 (Operand.tmp 122) (Operand.tmp 123), type := 0, pos := "law.go:346", after := #[{ on := 15, ground := Ground.data }, { on := 16, ground := Ground.data }, { on := 13, ground := Ground.guard }], guard := some (13, false) }) (v := ?vvC17) rfl (by kernel_rfl) (by kernel_rfl) (by kernel_rfl) (fun _ _ _ h => h) (Or.inl ⟨by rfl, ?hyC17⟩) (by assumption) ?rsC17
                case hyC17 =>
                  intro w hSw
                  (try dsimp only at hSw)
                  go_simp
                  (try with_reducible rfl)
                (try simp only [Act.put, List.setIfInBounds_toArray, List.set_cons_zero, List.set_cons_succ])
                refine wpAnyH_take (i := 18) (oi := { dst := some 125, op := Op.fieldAddr 47 (Operand.tmp 124) 2, type := 0, pos := "law.go:346", after := #[{ on := 17, ground := Ground.data }, { on := 13, ground := Ground.guard }], guard := some (13, false) }) (v := ?vvC18) rfl (by kernel_rfl) (by kernel_rfl) (by kernel_rfl) (fun _ _ _ h => h) (Or.inl ⟨by rfl, ?hyC18⟩) (by assumption) ?rsC18
                case hyC18 =>
                  intro w hSw
                  (try dsimp only at hSw)
                  go_simp
                  (try with_reducible rfl)
                (try simp only [Act.put, List.setIfInBounds_toArray, List.set_cons_zero, List.set_cons_succ])
                refine wpAnyH_take (i := 19) (oi := { dst := some 126, op := Op.load 30 (Operand.tmp 125), type := 30, pos := "law.go:346", after := #[{ on := 18, ground := Ground.data }, { on := 13, ground := Ground.guard }], guard := some (13, false) }) rfl (by kernel_rfl) (by kernel_rfl) (by kernel_rfl) (fun _ _ _ h => h) (yieldsIf_load_mid (by rfl) 30 (.tmp 125) rfl g (o + k * 27 + 18) rfl [.int .i64 t_k, .int .i64 t_i, .int .i64 t_g, .string t_n, .string t_f, .int .i64 t_a, .slice pt nt ct, .string t_b, .int .i64 t_z] _ (fun w hs => hs.2.2) Tryz.underlying30 rfl hsz9) (by assumption) ?_
                (try simp only [Act.put, List.setIfInBounds_toArray, List.set_cons_zero, List.set_cons_succ])
                refine wpAnyH_take (i := 21) (oi := { dst := some 128, op := Op.move (Operand.tmp 7), type := 45, pos := "law.go:346", after := #[{ on := 13, ground := Ground.guard }], guard := some (13, false) }) (v := ?vvC21) rfl (by kernel_rfl) (by kernel_rfl) (by kernel_rfl) (fun _ _ _ h => h) (Or.inl ⟨by rfl, ?hyC21⟩) (by assumption) ?rsC21
                case hyC21 =>
                  intro w hSw
                  (try dsimp only at hSw)
                  go_simp
                  (try with_reducible rfl)
                (try simp only [Act.put, List.setIfInBounds_toArray, List.set_cons_zero, List.set_cons_succ])
                refine wpAnyH_take (i := 22) (oi := { dst := some 129, op := Op.move (Operand.tmp 11), type := 3, pos := "law.go:346", after := #[{ on := 13, ground := Ground.guard }], guard := some (13, false) }) (v := ?vvC22) rfl (by kernel_rfl) (by kernel_rfl) (by kernel_rfl) (fun _ _ _ h => h) (Or.inl ⟨by rfl, ?hyC22⟩) (by assumption) ?rsC22
                case hyC22 =>
                  intro w hSw
                  (try dsimp only at hSw)
                  go_simp
                  (try with_reducible rfl)
                (try simp only [Act.put, List.setIfInBounds_toArray, List.set_cons_zero, List.set_cons_succ])
                refine wpAnyH_take (i := 23) (oi := { dst := some 130, op := Op.indexAddr 45 (Operand.tmp 128) (Operand.tmp 129), type := 0, pos := "law.go:346", after := #[{ on := 21, ground := Ground.data }, { on := 22, ground := Ground.data }, { on := 13, ground := Ground.guard }], guard := some (13, false) }) (v := ?vvC23) rfl (by kernel_rfl) (by kernel_rfl) (by kernel_rfl) (fun _ _ _ h => h) (Or.inl ⟨by rfl, ?hyC23⟩) (by assumption) ?rsC23
                case hyC23 =>
                  intro w hSw
                  (try dsimp only at hSw)
                  go_simp
                  (try with_reducible rfl)
                (try simp only [Act.put, List.setIfInBounds_toArray, List.set_cons_zero, List.set_cons_succ])
                refine wpAnyH_take (i := 24) (oi := { dst := some 131, op := Op.load 47 (Operand.tmp 130), type := 47, pos := "law.go:346", after := #[{ on := 23, ground := Ground.data }, { on := 13, ground := Ground.guard }], guard := some (13, false) }) rfl (by kernel_rfl) (by kernel_rfl) (by kernel_rfl) (fun _ _ _ h => h) (yieldsIf_load_mid (by rfl) 47 (.tmp 130) rfl g (o + k * 27) rfl [.int .i64 rk, .int .i64 ri, .int .i64 rg, .string rn, .string rf, .int .i64 ra, .slice pr nr cr, .string rb, .int .i64 rz, .int .i64 w_k, .int .i64 w_i, .int .i64 w_g, .string w_n, .string w_f, .int .i64 w_a, .slice pw nw cw, .string w_b, .int .i64 w_z, .int .i64 t_k, .int .i64 t_i, .int .i64 t_g, .string t_n, .string t_f, .int .i64 t_a, .slice pt nt ct, .string t_b, .int .i64 t_z] _ (fun w hs => hs.1) Tryz.underlying47 rfl hsz27) (by assumption) ?_
                (try simp only [Act.put, List.setIfInBounds_toArray, List.set_cons_zero, List.set_cons_succ])
                refine wpAnyH_ready (rs := [20]) (by kernel_rfl) (by simp) ?_
                refine AllReadyH.cons (o := { dst := some 127, op := Op.call { callee := Callee.value (Operand.func 30), args := #[Operand.tmp 121, Operand.tmp 126], argTypes := #[24, 30] }, type := 45, pos := "law.go:346", after := #[{ on := 14, ground := Ground.data }, { on := 19, ground := Ground.data }, { on := 13, ground := Ground.chain }, { on := 13, ground := Ground.guard }], guard := some (13, false) }) rfl (fun K hK => ?_) AllReadyH.nil
                go_simp
                refine (HWt.out _ hbd).mono ?_
                rintro e w5' ⟨p6, k6, c6, rfl, hb, hin⟩
                clear HIn; have HIn := Lib.hid hin; clear hin
                replace hbd := hbd.trans (hb.mono hbd.size)
                clear hb l1 l2 l3
                obtain ⟨l1, l2, l3⟩ := HRg.out _ hbd
                go_wp2_with fail
                refine hK.out _ _ ?_ (fun hHeld => ?_)
                · exact ⟨l1, l2, l3⟩
                clear hK K
                (try simp only [Act.put, List.setIfInBounds_toArray, List.set_cons_zero, List.set_cons_succ])
                refine wpAnyH_ready (rs := [25]) (by kernel_rfl) (by simp) ?_
                refine AllReadyH.cons (o := { dst := some 132, op := Op.call { callee := Callee.value (Operand.func 28), args := #[Operand.tmp 127, Operand.tmp 131], argTypes := #[45, 47] }, type := 4, pos := "law.go:346", after := #[{ on := 20, ground := Ground.data }, { on := 24, ground := Ground.data }, { on := 20, ground := Ground.chain }, { on := 13, ground := Ground.guard }], guard := some (13, false) }) rfl (fun K hK => ?_) AllReadyH.nil
                go_simp
                refine (HIn.out _ (Below.refl _ _)).mono ?_
                rintro e w5' ⟨rfl, hb⟩
                replace hbd := hbd.trans (hb.mono hbd.size)
                clear hb l1 l2 l3
                obtain ⟨l1, l2, l3⟩ := HRg.out _ hbd
                go_wp2_with fail
                refine hK.out _ _ ?_ (fun hHeld => ?_)
                · exact ⟨l1, l2, l3⟩
                clear hK K
                (try simp only [Act.put, List.setIfInBounds_toArray, List.set_cons_zero, List.set_cons_succ])
                refine wpAnyH_take (i := 26) (oi := { dst := some 133, op := Op.unOp UnOp.not 4 (Operand.tmp 132), type := 4, pos := "law.go:346", after := #[{ on := 25, ground := Ground.data }, { on := 13, ground := Ground.guard }], guard := some (13, false) }) (v := ?vvC26) rfl (by kernel_rfl) (by kernel_rfl) (by kernel_rfl) (fun _ _ _ h => h) (Or.inl ⟨by rfl, ?hyC26⟩) (by assumption) ?rsC26
                case hyC26 =>
                  intro w hSw
                  (try dsimp only at hSw)
                  go_simp
                  (try with_reducible rfl)
                (try simp only [Act.put, List.setIfInBounds_toArray, List.set_cons_zero, List.set_cons_succ])
                refine wpAnyH_take (i := 27) (oi := { dst := some 134, op := Op.pick (Operand.tmp 120) (Operand.const (Value.bool true)) (Operand.tmp 133), type := 4, pos := "law.go:346", after := #[{ on := 13, ground := Ground.data }, { on := 26, ground := Ground.data }], guard := none }) (v := ?vvC27) rfl (by kernel_rfl) (by kernel_rfl) (by kernel_rfl) (fun _ _ _ h => h) (Or.inl ⟨by rfl, ?hyC27⟩) (by assumption) ?rsC27
                case hyC27 =>
                  intro w hSw
                  (try dsimp only at hSw)
                  go_simp
                  (try with_reducible rfl)
                (try simp only [Act.put, List.setIfInBounds_toArray, List.set_cons_zero, List.set_cons_succ])
                refine wpAnyH_done (by kernel_rfl) ?_ _
                have HBe := Lib.hid (belowCC HBk.out hbd)
                clear hbd l1 l2 l3
                go_wp2_with fail
                go_roundg (Ke.length - (k + 1))
                case measure => have := HN7.out; omega
                case rel => exact Lib.hid ⟨k + 1, by go_num, by omega, rfl, HBe.out⟩
              · obtain rfl : k = Ke.length := by omega
                have HS9 := Lib.hid (HS.out.below hbk)
                have HB9 := Lib.hid (belowCC HB7.out hbk)
                have HO9 := Lib.hid (HO.out.below hbk)
                have HZ9 := Lib.hid (Nat.le_trans HZ7.out hbk.size)
                obtain ⟨w9, hw9⟩ : ∃ w9 : World, w9 = wr := ⟨_, rfl⟩
                subst hw9
                have H90 : Hid (UnI W w9 z mh mm Ke Ke.length (.int .i64 0) w9) := Lib.hid ⟨0, S, rfl, Nat.zero_le _, rfl, HS9.out, HK.out, TouchB.refl _ _, HB9.out⟩
                clear hbk hm7 hk HRow7 HS HO HZ7
                go_wp2_with fail
                go_loopg [12] Ke.length (fun m iv wr => Hid (UnI W w9 z mh mm Ke m iv wr))
                case atStart => exact H90
                case round =>
                  obtain ⟨k, S', rfl, hk, hm9, hS, hKn, htb, hbw9⟩ := hrel.out
                  clear hrel H90
                  by_cases hkl : k < Ke.length
                  · have r9 : (k : Int) < (Ke.length : Int) := by omega
                    have hk100 : Ke.length ≤ 1000 := by have := HKl.out; omega
                    have hat := List.getElem?_eq_getElem hkl
                    have hdr : (Ke.drop k).map mOf = mOf Ke[k] :: (Ke.drop (k + 1)).map mOf := by rw [List.drop_eq_getElem_cons hkl]; rfl
                    rw [hdr] at hKn
                    have hKf := hKn.first
                    have hout := hKn.out
                    have hMe := (HF.out _ (List.getElem_mem hkl)).2
                    have hFe := (HF.out _ (List.getElem_mem hkl)).1
                    have hz := HZ.out
                    have hz5 := HZ5.out
                    have hz9 := HZ9.out
                    have hOr := HO9.out.same (w' := wr) (fun q hq => htb.block q (HO9.out.lt hq).2 (fun e => by have := (HO9.out.lt hq).1; rcases e with e | e | e <;> omega))
                    obtain ⟨g, o, e1, hn0, hg, hc⟩ := (hOr.row (fun a ha => ⟨mxL_len a, mxL_one (HF.out a ha).2⟩)).nth (by omega)
                    have hgo : w5.heap.size ≤ g ∧ g < wr.heap.size := hOr.lt (k := g) (by rw [e1]; rfl)
                    have hr9 : wr.rangeAt g (o + k * 27) (mxL Ke[k]) := row_range (fun k' u hu => hc k _ hat k' u hu)
                    have HRT := Lib.hid (fun W' (hT : TouchB (LkS z mh mm) wr W') => range_same hr9 (hT.block g hgo.2 (fun e => by rcases e with e | e | e <;> omega)))
                    have hMr := MonIn.below hMe hbw9 (Nat.le_refl _)
                    have HU1 := Lib.hid (unwatch_in hS hKn hFe hMr hbw9.size)
                    have hK1 : Kn { S' with M := pDel S'.M (idOf Ke[k].r.f) } ((Ke.drop (k + 1)).map mOf) := hKf.2.1
                    have hN1 : pFind ({ S' with M := pDel S'.M (idOf Ke[k].r.f) } : LkSt).M (idOf Ke[k].r.f) = none := hKf.2.2
                    obtain ⟨S1, hS1⟩ : ∃ S1 : LkSt, { S' with M := pDel S'.M (idOf Ke[k].r.f) } = S1 := ⟨_, rfl⟩
                    rw [hS1] at HU1 hK1 hN1
                    have hl1 : ((Ke.drop (k + 1)).map mOf).length ≤ 1000 := by rw [List.length_map, List.length_drop]; have := HKl.out; omega
                    have HK1 := Lib.hid hK1
                    have HU2 := Lib.hid (fun W' (hL : LkAt W' z mh mm S1) (hW : Below W.heap.size W W') => unwatch_out hL hN1 (MonIn.below hMe hW (Nat.le_refl _)) hW.size)
                    have HHo := Lib.hid (fun W' (hL : LkAt W' z mh mm S1) (hW : Below W.heap.size W W') => held_out hL hK1 hl1 hFe (MonIn.below hMe hW (Nat.le_refl _)) hW.size hout)
                    have HSa := Lib.hid (fun W' => same_in hFe hMe W')
                    have HOne : Hid ((mnTL (mOf Ke[k])).toArray.all (·.oneCell') = true) := Lib.hid (all_oneCell_toArray (mnTL_one _))
                    have HN9 := Lib.hid hm9
                    have HTb := Lib.hid htb
                    have HBw9 := Lib.hid hbw9
                    have HG9 := Lib.hid hgo
                    have HZw : Hid (w5.heap.size ≤ wr.heap.size) := Lib.hid (by omega)
                    have HZL : Hid (∀ q, wr.heap.size ≤ q → ¬ LkS z mh mm q) := Lib.hid (fun q hq e => by rcases e with e | e | e <;> omega)
                    clear hat hdr hKn hKf hout hFe hMr hOr hc hgo hr9 hK1 hN1 hS1 hl1 hm9 htb hbw9 hS hz hz5 hz9 hn0 hg
                    generalize Ke[k] = e at *
                    obtain ⟨tr, tw, tt, ur, uw, ut⟩ := e
                    obtain ⟨m1, m2, m3⟩ := hMe
                    obtain ⟨pr, cr, er, _, _⟩ := m1.shape
                    obtain ⟨pw, cw, ew, _, _⟩ := m2.shape
                    obtain ⟨pt, ct, et, _, _⟩ := m3.shape
                    dsimp only at er ew et
                    subst er; subst ew; subst et; subst e1
                    obtain ⟨fr, hfr⟩ : ∃ f, tr.f = f := ⟨_, rfl⟩
                    obtain ⟨fw, hfw⟩ : ∃ f, tw.f = f := ⟨_, rfl⟩
                    obtain ⟨ft, hft⟩ : ∃ f, tt.f = f := ⟨_, rfl⟩
                    obtain ⟨nr, hnr⟩ : ∃ k, tr.items.length = k := ⟨_, rfl⟩
                    obtain ⟨nw, hnw⟩ : ∃ k, tw.items.length = k := ⟨_, rfl⟩
                    obtain ⟨nt, hnt⟩ : ∃ k, tt.items.length = k := ⟨_, rfl⟩
                    unfold HinP at HHo
                    unfold mOf at HU1 HSa HOne
                    unfold mxL nineL at HHo HSa HRT
                    unfold aggV at HU1 HU2 HHo
                    unfold zMn at HU2
                    unfold mnTL idTL at HU1 HU2 HSa HOne
                    unfold idOf at HU1 HSa HOne
                    dsimp only at HU1 HU2 HHo HSa HOne HRT
                    rw [hfr, hfw, hft] at HU1 HHo HSa HOne HRT
                    rw [hfr, hnr] at HU2
                    rw [hnr] at HU1
                    rw [hnr, hnw, hnt] at HHo HSa HRT
                    clear hfr hfw hft hnr hnw hnt
                    obtain ⟨rk, ri, rg, rn, rf, ra, rb, rz⟩ := fr
                    obtain ⟨w_k, w_i, w_g, w_n, w_f, w_a, w_b, w_z⟩ := fw
                    obtain ⟨t_k, t_i, t_g, t_n, t_f, t_a, t_b, t_z⟩ := ft
                    dsimp only at HU1 HU2 HHo HSa HOne HRT
                    simp only [List.cons_append, List.nil_append] at HU1 HU2 HHo HSa HOne HRT
                    have HRr : Hid (∀ W', TouchB (LkS z mh mm) wr W' → W'.rangeAt g (o + k * 27) [.int .i64 rk, .int .i64 ri, .int .i64 rg, .string rn, .string rf, .int .i64 ra, .slice pr nr cr, .string rb, .int .i64 rz]) := Lib.hid (fun W' hW => range_part (x := []) (y := [.int .i64 rk, .int .i64 ri, .int .i64 rg, .string rn, .string rf, .int .i64 ra, .slice pr nr cr, .string rb, .int .i64 rz]) (v := [.int .i64 w_k, .int .i64 w_i, .int .i64 w_g, .string w_n, .string w_f, .int .i64 w_a, .slice pw nw cw, .string w_b, .int .i64 w_z, .int .i64 t_k, .int .i64 t_i, .int .i64 t_g, .string t_n, .string t_f, .int .i64 t_a, .slice pt nt ct, .string t_b, .int .i64 t_z]) (k := 0) (HRT.out W' hW) rfl)
                    go_wp2_with (refine wpList_load_mid rfl 30 (.tmp 146) rfl g (o + k * 27) rfl [.int .i64 rk, .int .i64 ri, .int .i64 rg, .string rn, .string rf, .int .i64 ra, .slice pr nr cr, .string rb, .int .i64 rz] _ (HRr.out _ (TouchB.refl _ _)) Tryz.underlying30 rfl hsz9 ?_)
                    refine HU1.out.mono ?_
                    rintro e w10 ⟨rfl, hL10, ht10⟩
                    go_upto_region 37 with (refine wpList_store_row rfl 47 (.tmp 13) (.tmp 149) rfl w10.heap.size #[.int .i64 rk, .int .i64 ri, .int .i64 rg, .string rn, .string ⟨#[]⟩, .int .i64 0, .slice none 0 0, .string ⟨#[]⟩, .int .i64 0, .int .i64 w_k, .int .i64 w_i, .int .i64 w_g, .string w_n, .string ⟨#[]⟩, .int .i64 0, .slice none 0 0, .string ⟨#[]⟩, .int .i64 0, .int .i64 t_k, .int .i64 t_i, .int .i64 t_g, .string t_n, .string ⟨#[]⟩, .int .i64 0, .slice none 0 0, .string ⟨#[]⟩, .int .i64 0] rfl rfl 47 _ (alloc_new w10 (.cells #[.int .i64 0, .int .i64 0, .int .i64 0, .string ⟨#[]⟩, .string ⟨#[]⟩, .int .i64 0, .slice none 0 0, .string ⟨#[]⟩, .int .i64 0, .int .i64 0, .int .i64 0, .int .i64 0, .string ⟨#[]⟩, .string ⟨#[]⟩, .int .i64 0, .slice none 0 0, .string ⟨#[]⟩, .int .i64 0, .int .i64 0, .int .i64 0, .int .i64 0, .string ⟨#[]⟩, .string ⟨#[]⟩, .int .i64 0, .slice none 0 0, .string ⟨#[]⟩, .int .i64 0] 47)) hsz27 rfl HOne.out ?_)
                    have hr4 := setRow_heap (w10.alloc (.cells #[.int .i64 0, .int .i64 0, .int .i64 0, .string ⟨#[]⟩, .string ⟨#[]⟩, .int .i64 0, .slice none 0 0, .string ⟨#[]⟩, .int .i64 0, .int .i64 0, .int .i64 0, .int .i64 0, .string ⟨#[]⟩, .string ⟨#[]⟩, .int .i64 0, .slice none 0 0, .string ⟨#[]⟩, .int .i64 0, .int .i64 0, .int .i64 0, .int .i64 0, .string ⟨#[]⟩, .string ⟨#[]⟩, .int .i64 0, .slice none 0 0, .string ⟨#[]⟩, .int .i64 0] 47)) w10.heap.size _ #[.int .i64 rk, .int .i64 ri, .int .i64 rg, .string rn, .string ⟨#[]⟩, .int .i64 0, .slice none 0 0, .string ⟨#[]⟩, .int .i64 0, .int .i64 w_k, .int .i64 w_i, .int .i64 w_g, .string w_n, .string ⟨#[]⟩, .int .i64 0, .slice none 0 0, .string ⟨#[]⟩, .int .i64 0, .int .i64 t_k, .int .i64 t_i, .int .i64 t_g, .string t_n, .string ⟨#[]⟩, .int .i64 0, .slice none 0 0, .string ⟨#[]⟩, .int .i64 0] 47 (0, 0) (alloc_new w10 (.cells #[.int .i64 0, .int .i64 0, .int .i64 0, .string ⟨#[]⟩, .string ⟨#[]⟩, .int .i64 0, .slice none 0 0, .string ⟨#[]⟩, .int .i64 0, .int .i64 0, .int .i64 0, .int .i64 0, .string ⟨#[]⟩, .string ⟨#[]⟩, .int .i64 0, .slice none 0 0, .string ⟨#[]⟩, .int .i64 0, .int .i64 0, .int .i64 0, .int .i64 0, .string ⟨#[]⟩, .string ⟨#[]⟩, .int .i64 0, .slice none 0 0, .string ⟨#[]⟩, .int .i64 0] 47))
                    have ht4 : TouchB (fun i => i = w10.heap.size) (w10.alloc (.cells #[.int .i64 0, .int .i64 0, .int .i64 0, .string ⟨#[]⟩, .string ⟨#[]⟩, .int .i64 0, .slice none 0 0, .string ⟨#[]⟩, .int .i64 0, .int .i64 0, .int .i64 0, .int .i64 0, .string ⟨#[]⟩, .string ⟨#[]⟩, .int .i64 0, .slice none 0 0, .string ⟨#[]⟩, .int .i64 0, .int .i64 0, .int .i64 0, .int .i64 0, .string ⟨#[]⟩, .string ⟨#[]⟩, .int .i64 0, .slice none 0 0, .string ⟨#[]⟩, .int .i64 0] 47)) ((w10.alloc (.cells #[.int .i64 0, .int .i64 0, .int .i64 0, .string ⟨#[]⟩, .string ⟨#[]⟩, .int .i64 0, .slice none 0 0, .string ⟨#[]⟩, .int .i64 0, .int .i64 0, .int .i64 0, .int .i64 0, .string ⟨#[]⟩, .string ⟨#[]⟩, .int .i64 0, .slice none 0 0, .string ⟨#[]⟩, .int .i64 0, .int .i64 0, .int .i64 0, .int .i64 0, .string ⟨#[]⟩, .string ⟨#[]⟩, .int .i64 0, .slice none 0 0, .string ⟨#[]⟩, .int .i64 0] 47)).setRow w10.heap.size #[.int .i64 rk, .int .i64 ri, .int .i64 rg, .string rn, .string ⟨#[]⟩, .int .i64 0, .slice none 0 0, .string ⟨#[]⟩, .int .i64 0, .int .i64 w_k, .int .i64 w_i, .int .i64 w_g, .string w_n, .string ⟨#[]⟩, .int .i64 0, .slice none 0 0, .string ⟨#[]⟩, .int .i64 0, .int .i64 t_k, .int .i64 t_i, .int .i64 t_g, .string t_n, .string ⟨#[]⟩, .int .i64 0, .slice none 0 0, .string ⟨#[]⟩, .int .i64 0]) := ⟨rfl, rfl, rfl, by simp, fun k hk hn => by simp [World.setRow, Array.getElem?_modify, show ¬ w10.heap.size = k from fun e => hn e.symm]⟩
                    have hb11 : Below w10.heap.size w10 ((w10.alloc (.cells #[.int .i64 0, .int .i64 0, .int .i64 0, .string ⟨#[]⟩, .string ⟨#[]⟩, .int .i64 0, .slice none 0 0, .string ⟨#[]⟩, .int .i64 0, .int .i64 0, .int .i64 0, .int .i64 0, .string ⟨#[]⟩, .string ⟨#[]⟩, .int .i64 0, .slice none 0 0, .string ⟨#[]⟩, .int .i64 0, .int .i64 0, .int .i64 0, .int .i64 0, .string ⟨#[]⟩, .string ⟨#[]⟩, .int .i64 0, .slice none 0 0, .string ⟨#[]⟩, .int .i64 0] 47)).setRow w10.heap.size #[.int .i64 rk, .int .i64 ri, .int .i64 rg, .string rn, .string ⟨#[]⟩, .int .i64 0, .slice none 0 0, .string ⟨#[]⟩, .int .i64 0, .int .i64 w_k, .int .i64 w_i, .int .i64 w_g, .string w_n, .string ⟨#[]⟩, .int .i64 0, .slice none 0 0, .string ⟨#[]⟩, .int .i64 0, .int .i64 t_k, .int .i64 t_i, .int .i64 t_g, .string t_n, .string ⟨#[]⟩, .int .i64 0, .slice none 0 0, .string ⟨#[]⟩, .int .i64 0]) := (belowA (Below.refl w10.heap.size w10) (.cells #[.int .i64 0, .int .i64 0, .int .i64 0, .string ⟨#[]⟩, .string ⟨#[]⟩, .int .i64 0, .slice none 0 0, .string ⟨#[]⟩, .int .i64 0, .int .i64 0, .int .i64 0, .int .i64 0, .string ⟨#[]⟩, .string ⟨#[]⟩, .int .i64 0, .slice none 0 0, .string ⟨#[]⟩, .int .i64 0, .int .i64 0, .int .i64 0, .int .i64 0, .string ⟨#[]⟩, .string ⟨#[]⟩, .int .i64 0, .slice none 0 0, .string ⟨#[]⟩, .int .i64 0] 47) (Nat.le_refl _)).trans (ht4.below (fun k hk => by rw [hk]; exact Nat.le_refl _) (by rw [World.size_alloc]; omega))
                    have hb1lt := (Array.getElem?_eq_some_iff.1 hr4).1
                    generalize ((w10.alloc (.cells #[.int .i64 0, .int .i64 0, .int .i64 0, .string ⟨#[]⟩, .string ⟨#[]⟩, .int .i64 0, .slice none 0 0, .string ⟨#[]⟩, .int .i64 0, .int .i64 0, .int .i64 0, .int .i64 0, .string ⟨#[]⟩, .string ⟨#[]⟩, .int .i64 0, .slice none 0 0, .string ⟨#[]⟩, .int .i64 0, .int .i64 0, .int .i64 0, .int .i64 0, .string ⟨#[]⟩, .string ⟨#[]⟩, .int .i64 0, .slice none 0 0, .string ⟨#[]⟩, .int .i64 0] 47)).setRow w10.heap.size #[.int .i64 rk, .int .i64 ri, .int .i64 rg, .string rn, .string ⟨#[]⟩, .int .i64 0, .slice none 0 0, .string ⟨#[]⟩, .int .i64 0, .int .i64 w_k, .int .i64 w_i, .int .i64 w_g, .string w_n, .string ⟨#[]⟩, .int .i64 0, .slice none 0 0, .string ⟨#[]⟩, .int .i64 0, .int .i64 t_k, .int .i64 t_i, .int .i64 t_g, .string t_n, .string ⟨#[]⟩, .int .i64 0, .slice none 0 0, .string ⟨#[]⟩, .int .i64 0]) = w11 at *
                    have ht11 := touch_trans ht10 (touch_of hb11)
                    have hL11 := hL10.below hb11
                    have hz := HZ.out
                    have hB11 := HBw9.out.trans (below_of_touch ht11 hz.1 hz.2.1 hz.2.2 HBw9.out.size)
                    have hb1ge : wr.heap.size ≤ w10.heap.size := ht10.size
                    generalize w10.heap.size = b1 at *
                    have HL11 := Lib.hid hL11
                    have HT11 := Lib.hid ht11
                    have HB11 := Lib.hid hB11
                    have HX11 := Lib.hid hr4
                    have HB1 := Lib.hid (⟨hb1lt, hb1ge⟩ : b1 < w11.heap.size ∧ wr.heap.size ≤ b1)
                    clear hr4 ht4 hb11 hb1lt ht11 hL11 hz hB11 hb1ge hL10 ht10 HU1
                    go_wp2_with (refine wpList_load_mid rfl 30 (.tmp 156) rfl g (o + k * 27) rfl [.int .i64 rk, .int .i64 ri, .int .i64 rg, .string rn, .string rf, .int .i64 ra, .slice pr nr cr, .string rb, .int .i64 rz] _ (HRr.out _ HT11.out) Tryz.underlying30 rfl hsz9 ?_)
                    refine (HU2.out _ HL11.out HB11.out).mono ?_
                    rintro e w12 ⟨rfl, hL12, ht12⟩
                    go_upto_region 38 with (refine wpList_store_row rfl 47 (.tmp 15) (.tmp 159) rfl w12.heap.size #[.int .i64 0, .int .i64 0, .int .i64 0, .string ⟨#[]⟩, .string ⟨#[]⟩, .int .i64 0, .slice none 0 0, .string ⟨#[]⟩, .int .i64 0, .int .i64 0, .int .i64 0, .int .i64 0, .string ⟨#[]⟩, .string ⟨#[]⟩, .int .i64 0, .slice none 0 0, .string ⟨#[]⟩, .int .i64 0, .int .i64 0, .int .i64 0, .int .i64 0, .string ⟨#[]⟩, .string ⟨#[]⟩, .int .i64 0, .slice none 0 0, .string ⟨#[]⟩, .int .i64 0] rfl rfl 47 _ (alloc_new w12 (.cells #[.int .i64 0, .int .i64 0, .int .i64 0, .string ⟨#[]⟩, .string ⟨#[]⟩, .int .i64 0, .slice none 0 0, .string ⟨#[]⟩, .int .i64 0, .int .i64 0, .int .i64 0, .int .i64 0, .string ⟨#[]⟩, .string ⟨#[]⟩, .int .i64 0, .slice none 0 0, .string ⟨#[]⟩, .int .i64 0, .int .i64 0, .int .i64 0, .int .i64 0, .string ⟨#[]⟩, .string ⟨#[]⟩, .int .i64 0, .slice none 0 0, .string ⟨#[]⟩, .int .i64 0] 47)) hsz27 rfl (by decide +kernel) ?_)
                    have hr4 := setRow_heap (w12.alloc (.cells #[.int .i64 0, .int .i64 0, .int .i64 0, .string ⟨#[]⟩, .string ⟨#[]⟩, .int .i64 0, .slice none 0 0, .string ⟨#[]⟩, .int .i64 0, .int .i64 0, .int .i64 0, .int .i64 0, .string ⟨#[]⟩, .string ⟨#[]⟩, .int .i64 0, .slice none 0 0, .string ⟨#[]⟩, .int .i64 0, .int .i64 0, .int .i64 0, .int .i64 0, .string ⟨#[]⟩, .string ⟨#[]⟩, .int .i64 0, .slice none 0 0, .string ⟨#[]⟩, .int .i64 0] 47)) w12.heap.size _ #[.int .i64 0, .int .i64 0, .int .i64 0, .string ⟨#[]⟩, .string ⟨#[]⟩, .int .i64 0, .slice none 0 0, .string ⟨#[]⟩, .int .i64 0, .int .i64 0, .int .i64 0, .int .i64 0, .string ⟨#[]⟩, .string ⟨#[]⟩, .int .i64 0, .slice none 0 0, .string ⟨#[]⟩, .int .i64 0, .int .i64 0, .int .i64 0, .int .i64 0, .string ⟨#[]⟩, .string ⟨#[]⟩, .int .i64 0, .slice none 0 0, .string ⟨#[]⟩, .int .i64 0] 47 (0, 0) (alloc_new w12 (.cells #[.int .i64 0, .int .i64 0, .int .i64 0, .string ⟨#[]⟩, .string ⟨#[]⟩, .int .i64 0, .slice none 0 0, .string ⟨#[]⟩, .int .i64 0, .int .i64 0, .int .i64 0, .int .i64 0, .string ⟨#[]⟩, .string ⟨#[]⟩, .int .i64 0, .slice none 0 0, .string ⟨#[]⟩, .int .i64 0, .int .i64 0, .int .i64 0, .int .i64 0, .string ⟨#[]⟩, .string ⟨#[]⟩, .int .i64 0, .slice none 0 0, .string ⟨#[]⟩, .int .i64 0] 47))
                    have ht4 : TouchB (fun i => i = w12.heap.size) (w12.alloc (.cells #[.int .i64 0, .int .i64 0, .int .i64 0, .string ⟨#[]⟩, .string ⟨#[]⟩, .int .i64 0, .slice none 0 0, .string ⟨#[]⟩, .int .i64 0, .int .i64 0, .int .i64 0, .int .i64 0, .string ⟨#[]⟩, .string ⟨#[]⟩, .int .i64 0, .slice none 0 0, .string ⟨#[]⟩, .int .i64 0, .int .i64 0, .int .i64 0, .int .i64 0, .string ⟨#[]⟩, .string ⟨#[]⟩, .int .i64 0, .slice none 0 0, .string ⟨#[]⟩, .int .i64 0] 47)) ((w12.alloc (.cells #[.int .i64 0, .int .i64 0, .int .i64 0, .string ⟨#[]⟩, .string ⟨#[]⟩, .int .i64 0, .slice none 0 0, .string ⟨#[]⟩, .int .i64 0, .int .i64 0, .int .i64 0, .int .i64 0, .string ⟨#[]⟩, .string ⟨#[]⟩, .int .i64 0, .slice none 0 0, .string ⟨#[]⟩, .int .i64 0, .int .i64 0, .int .i64 0, .int .i64 0, .string ⟨#[]⟩, .string ⟨#[]⟩, .int .i64 0, .slice none 0 0, .string ⟨#[]⟩, .int .i64 0] 47)).setRow w12.heap.size #[.int .i64 0, .int .i64 0, .int .i64 0, .string ⟨#[]⟩, .string ⟨#[]⟩, .int .i64 0, .slice none 0 0, .string ⟨#[]⟩, .int .i64 0, .int .i64 0, .int .i64 0, .int .i64 0, .string ⟨#[]⟩, .string ⟨#[]⟩, .int .i64 0, .slice none 0 0, .string ⟨#[]⟩, .int .i64 0, .int .i64 0, .int .i64 0, .int .i64 0, .string ⟨#[]⟩, .string ⟨#[]⟩, .int .i64 0, .slice none 0 0, .string ⟨#[]⟩, .int .i64 0]) := ⟨rfl, rfl, rfl, by simp, fun k hk hn => by simp [World.setRow, Array.getElem?_modify, show ¬ w12.heap.size = k from fun e => hn e.symm]⟩
                    have hb13 : Below w12.heap.size w12 ((w12.alloc (.cells #[.int .i64 0, .int .i64 0, .int .i64 0, .string ⟨#[]⟩, .string ⟨#[]⟩, .int .i64 0, .slice none 0 0, .string ⟨#[]⟩, .int .i64 0, .int .i64 0, .int .i64 0, .int .i64 0, .string ⟨#[]⟩, .string ⟨#[]⟩, .int .i64 0, .slice none 0 0, .string ⟨#[]⟩, .int .i64 0, .int .i64 0, .int .i64 0, .int .i64 0, .string ⟨#[]⟩, .string ⟨#[]⟩, .int .i64 0, .slice none 0 0, .string ⟨#[]⟩, .int .i64 0] 47)).setRow w12.heap.size #[.int .i64 0, .int .i64 0, .int .i64 0, .string ⟨#[]⟩, .string ⟨#[]⟩, .int .i64 0, .slice none 0 0, .string ⟨#[]⟩, .int .i64 0, .int .i64 0, .int .i64 0, .int .i64 0, .string ⟨#[]⟩, .string ⟨#[]⟩, .int .i64 0, .slice none 0 0, .string ⟨#[]⟩, .int .i64 0, .int .i64 0, .int .i64 0, .int .i64 0, .string ⟨#[]⟩, .string ⟨#[]⟩, .int .i64 0, .slice none 0 0, .string ⟨#[]⟩, .int .i64 0]) := (belowA (Below.refl w12.heap.size w12) (.cells #[.int .i64 0, .int .i64 0, .int .i64 0, .string ⟨#[]⟩, .string ⟨#[]⟩, .int .i64 0, .slice none 0 0, .string ⟨#[]⟩, .int .i64 0, .int .i64 0, .int .i64 0, .int .i64 0, .string ⟨#[]⟩, .string ⟨#[]⟩, .int .i64 0, .slice none 0 0, .string ⟨#[]⟩, .int .i64 0, .int .i64 0, .int .i64 0, .int .i64 0, .string ⟨#[]⟩, .string ⟨#[]⟩, .int .i64 0, .slice none 0 0, .string ⟨#[]⟩, .int .i64 0] 47) (Nat.le_refl _)).trans (ht4.below (fun k hk => by rw [hk]; exact Nat.le_refl _) (by rw [World.size_alloc]; omega))
                    generalize ((w12.alloc (.cells #[.int .i64 0, .int .i64 0, .int .i64 0, .string ⟨#[]⟩, .string ⟨#[]⟩, .int .i64 0, .slice none 0 0, .string ⟨#[]⟩, .int .i64 0, .int .i64 0, .int .i64 0, .int .i64 0, .string ⟨#[]⟩, .string ⟨#[]⟩, .int .i64 0, .slice none 0 0, .string ⟨#[]⟩, .int .i64 0, .int .i64 0, .int .i64 0, .int .i64 0, .string ⟨#[]⟩, .string ⟨#[]⟩, .int .i64 0, .slice none 0 0, .string ⟨#[]⟩, .int .i64 0] 47)).setRow w12.heap.size #[.int .i64 0, .int .i64 0, .int .i64 0, .string ⟨#[]⟩, .string ⟨#[]⟩, .int .i64 0, .slice none 0 0, .string ⟨#[]⟩, .int .i64 0, .int .i64 0, .int .i64 0, .int .i64 0, .string ⟨#[]⟩, .string ⟨#[]⟩, .int .i64 0, .slice none 0 0, .string ⟨#[]⟩, .int .i64 0, .int .i64 0, .int .i64 0, .int .i64 0, .string ⟨#[]⟩, .string ⟨#[]⟩, .int .i64 0, .slice none 0 0, .string ⟨#[]⟩, .int .i64 0]) = w13 at *
                    have hz := HZ.out
                    have ht13 := touch_trans HT11.out (touch_trans ht12 (touch_of hb13))
                    have hL13 := hL12.below hb13
                    have hB13 := HBw9.out.trans (below_of_touch ht13 hz.1 hz.2.1 hz.2.2 HBw9.out.size)
                    have hX13 : w13.heap[b1]? = some (.cells #[.int .i64 rk, .int .i64 ri, .int .i64 rg, .string rn, .string ⟨#[]⟩, .int .i64 0, .slice none 0 0, .string ⟨#[]⟩, .int .i64 0, .int .i64 w_k, .int .i64 w_i, .int .i64 w_g, .string w_n, .string ⟨#[]⟩, .int .i64 0, .slice none 0 0, .string ⟨#[]⟩, .int .i64 0, .int .i64 t_k, .int .i64 t_i, .int .i64 t_g, .string t_n, .string ⟨#[]⟩, .int .i64 0, .slice none 0 0, .string ⟨#[]⟩, .int .i64 0] 47 (0, 0)) := (hb13.block b1 (Nat.lt_of_lt_of_le HB1.out.1 ht12.size)).trans ((ht12.block b1 HB1.out.1 (HZL.out _ HB1.out.2)).trans HX11.out)
                    have hb1l : b1 < w13.heap.size := (Array.getElem?_eq_some_iff.1 hX13).1
                    clear hr4 ht4
                    generalize w12.heap.size = b2 at *
                    have HHo2 := Lib.hid (fun W' (hW : Below w13.heap.size w13 W') => HHo.out W' (hL13.below hW) (belowCC hB13 hW))
                    have HS38 := Lib.hid (fun W' (hW : Below w13.heap.size w13 W') => (⟨range_row ((hW.block b1 hb1l).trans hX13), HRT.out W' (touch_trans ht13 (touch_of hW)), range_part (x := [.int .i64 rk, .int .i64 ri, .int .i64 rg, .string rn, .string rf, .int .i64 ra, .slice pr nr cr, .string rb, .int .i64 rz]) (y := [.int .i64 w_k, .int .i64 w_i, .int .i64 w_g, .string w_n, .string w_f, .int .i64 w_a, .slice pw nw cw, .string w_b, .int .i64 w_z]) (v := [.int .i64 t_k, .int .i64 t_i, .int .i64 t_g, .string t_n, .string t_f, .int .i64 t_a, .slice pt nt ct, .string t_b, .int .i64 t_z]) (HRT.out W' (touch_trans ht13 (touch_of hW))) rfl⟩ : W'.rangeAt b1 0 [.int .i64 rk, .int .i64 ri, .int .i64 rg, .string rn, .string ⟨#[]⟩, .int .i64 0, .slice none 0 0, .string ⟨#[]⟩, .int .i64 0, .int .i64 w_k, .int .i64 w_i, .int .i64 w_g, .string w_n, .string ⟨#[]⟩, .int .i64 0, .slice none 0 0, .string ⟨#[]⟩, .int .i64 0, .int .i64 t_k, .int .i64 t_i, .int .i64 t_g, .string t_n, .string ⟨#[]⟩, .int .i64 0, .slice none 0 0, .string ⟨#[]⟩, .int .i64 0] ∧ W'.rangeAt g (o + k * 27) [.int .i64 rk, .int .i64 ri, .int .i64 rg, .string rn, .string rf, .int .i64 ra, .slice pr nr cr, .string rb, .int .i64 rz, .int .i64 w_k, .int .i64 w_i, .int .i64 w_g, .string w_n, .string w_f, .int .i64 w_a, .slice pw nw cw, .string w_b, .int .i64 w_z, .int .i64 t_k, .int .i64 t_i, .int .i64 t_g, .string t_n, .string t_f, .int .i64 t_a, .slice pt nt ct, .string t_b, .int .i64 t_z] ∧ W'.rangeAt g (o + k * 27 + 9) [.int .i64 w_k, .int .i64 w_i, .int .i64 w_g, .string w_n, .string w_f, .int .i64 w_a, .slice pw nw cw, .string w_b, .int .i64 w_z]))
                    have HT13 := Lib.hid ht13
                    have HL13 := Lib.hid hL13
                    have HB13 := Lib.hid hB13
                    clear hb13 hz ht13 hL13 hB13 hX13 hb1l hL12 ht12 HU2 HHo HRT HRr
                    have hbd : Below w13.heap.size w13 w13.drew := belowD (Below.refl _ _)
                    obtain ⟨l1, l2, l3⟩ := HS38.out _ hbd
                    refine wp_region_held_drew (S := (fun w' => w'.rangeAt b1 0 [.int .i64 rk, .int .i64 ri, .int .i64 rg, .string rn, .string ⟨#[]⟩, .int .i64 0, .slice none 0 0, .string ⟨#[]⟩, .int .i64 0, .int .i64 w_k, .int .i64 w_i, .int .i64 w_g, .string w_n, .string ⟨#[]⟩, .int .i64 0, .slice none 0 0, .string ⟨#[]⟩, .int .i64 0, .int .i64 t_k, .int .i64 t_i, .int .i64 t_g, .string t_n, .string ⟨#[]⟩, .int .i64 0, .slice none 0 0, .string ⟨#[]⟩, .int .i64 0] ∧ w'.rangeAt g (o + k * 27) [.int .i64 rk, .int .i64 ri, .int .i64 rg, .string rn, .string rf, .int .i64 ra, .slice pr nr cr, .string rb, .int .i64 rz, .int .i64 w_k, .int .i64 w_i, .int .i64 w_g, .string w_n, .string w_f, .int .i64 w_a, .slice pw nw cw, .string w_b, .int .i64 w_z, .int .i64 t_k, .int .i64 t_i, .int .i64 t_g, .string t_n, .string t_f, .int .i64 t_a, .slice pt nt ct, .string t_b, .int .i64 t_z] ∧ w'.rangeAt g (o + k * 27 + 9) [.int .i64 w_k, .int .i64 w_i, .int .i64 w_g, .string w_n, .string w_f, .int .i64 w_a, .slice pw nw cw, .string w_b, .int .i64 w_z])) (by kernel_rfl) ?_ (fun hHeld => ?_)
                    · exact ⟨l1, l2, l3⟩
                    refine wpAnyH_take (i := 0) (oi := { dst := some 161, op := Op.move (Operand.tmp 14), type := 4, pos := "law.go:353", after := #[], guard := none }) (v := ?vvD0) rfl (by kernel_rfl) (by kernel_rfl) (by kernel_rfl) (fun _ _ _ h => h) (Or.inl ⟨by rfl, ?hyD0⟩) (by assumption) ?rsD0
                    case hyD0 =>
                      intro w hSw
                      (try dsimp only at hSw)
                      go_simp
                      (try with_reducible rfl)
                    (try simp only [Act.put, List.setIfInBounds_toArray, List.set_cons_zero, List.set_cons_succ])
                    refine wpAnyH_take (i := 1) (oi := { dst := some 162, op := Op.unOp UnOp.not 4 (Operand.tmp 161), type := 4, pos := "law.go:353", after := #[{ on := 0, ground := Ground.data }], guard := none }) (v := ?vvD1) rfl (by kernel_rfl) (by kernel_rfl) (by kernel_rfl) (fun _ _ _ h => h) (Or.inl ⟨by rfl, ?hyD1⟩) (by assumption) ?rsD1
                    case hyD1 =>
                      intro w hSw
                      (try dsimp only at hSw)
                      go_simp
                      (try with_reducible rfl)
                    (try simp only [Act.put, List.setIfInBounds_toArray, List.set_cons_zero, List.set_cons_succ])
                    refine wpAnyH_take (i := 2) (oi := { dst := some 163, op := Op.move (Operand.tmp 162), type := 4, pos := "law.go:353", after := #[{ on := 1, ground := Ground.data }], guard := none }) (v := ?vvD2) rfl (by kernel_rfl) (by kernel_rfl) (by kernel_rfl) (fun _ _ _ h => h) (Or.inl ⟨by rfl, ?hyD2⟩) (by assumption) ?rsD2
                    case hyD2 =>
                      intro w hSw
                      (try dsimp only at hSw)
                      go_simp
                      (try with_reducible rfl)
                    (try simp only [Act.put, List.setIfInBounds_toArray, List.set_cons_zero, List.set_cons_succ])
                    refine wpAnyH_take (i := 3) (oi := { dst := some 164, op := Op.move (Operand.tmp 16), type := 4, pos := "law.go:353", after := #[{ on := 2, ground := Ground.guard }], guard := some (2, false) }) (v := ?vvD3) rfl (by kernel_rfl) (by kernel_rfl) (by kernel_rfl) (fun _ _ _ h => h) (Or.inl ⟨by rfl, ?hyD3⟩) (by assumption) ?rsD3
                    case hyD3 =>
                      intro w hSw
                      (try dsimp only at hSw)
                      go_simp
                      (try with_reducible rfl)
                    (try simp only [Act.put, List.setIfInBounds_toArray, List.set_cons_zero, List.set_cons_succ])
                    refine wpAnyH_take (i := 4) (oi := { dst := some 165, op := Op.pick (Operand.tmp 163) (Operand.const (Value.bool true)) (Operand.tmp 164), type := 4, pos := "law.go:353", after := #[{ on := 2, ground := Ground.data }, { on := 3, ground := Ground.data }], guard := none }) (v := ?vvD4) rfl (by kernel_rfl) (by kernel_rfl) (by kernel_rfl) (fun _ _ _ h => h) (Or.inl ⟨by rfl, ?hyD4⟩) (by assumption) ?rsD4
                    case hyD4 =>
                      intro w hSw
                      (try dsimp only at hSw)
                      go_simp
                      (try with_reducible rfl)
                    (try simp only [Act.put, List.setIfInBounds_toArray, List.set_cons_zero, List.set_cons_succ])
                    refine wpAnyH_take (i := 5) (oi := { dst := some 166, op := Op.move (Operand.tmp 165), type := 4, pos := "law.go:353", after := #[{ on := 4, ground := Ground.data }, { on := 2, ground := Ground.chain }], guard := none }) (v := ?vvD5) rfl (by kernel_rfl) (by kernel_rfl) (by kernel_rfl) (fun _ _ _ h => h) (Or.inl ⟨by rfl, ?hyD5⟩) (by assumption) ?rsD5
                    case hyD5 =>
                      intro w hSw
                      (try dsimp only at hSw)
                      go_simp
                      (try with_reducible rfl)
                    (try simp only [Act.put, List.setIfInBounds_toArray, List.set_cons_zero, List.set_cons_succ])
                    refine wpAnyH_take (i := 6) (oi := { dst := some 167, op := Op.load 47 (Operand.tmp 13), type := 47, pos := "law.go:353", after := #[{ on := 5, ground := Ground.guard }], guard := some (5, false) }) rfl (by kernel_rfl) (by kernel_rfl) (by kernel_rfl) (fun _ _ _ h => h) (yieldsIf_load_mid (by rfl) 47 (.tmp 13) rfl b1 0 rfl [.int .i64 rk, .int .i64 ri, .int .i64 rg, .string rn, .string ⟨#[]⟩, .int .i64 0, .slice none 0 0, .string ⟨#[]⟩, .int .i64 0, .int .i64 w_k, .int .i64 w_i, .int .i64 w_g, .string w_n, .string ⟨#[]⟩, .int .i64 0, .slice none 0 0, .string ⟨#[]⟩, .int .i64 0, .int .i64 t_k, .int .i64 t_i, .int .i64 t_g, .string t_n, .string ⟨#[]⟩, .int .i64 0, .slice none 0 0, .string ⟨#[]⟩, .int .i64 0] _ (fun w hs => hs.1) Tryz.underlying47 rfl hsz27) (by assumption) ?_
                    (try simp only [Act.put, List.setIfInBounds_toArray, List.set_cons_zero, List.set_cons_succ])
                    refine wpAnyH_take (i := 7) (oi := { dst := some 168, op := Op.move (Operand.tmp 7), type := 45, pos := "law.go:353", after := #[{ on := 5, ground := Ground.guard }], guard := some (5, false) }) (v := ?vvD7) rfl (by kernel_rfl) (by kernel_rfl) (by kernel_rfl) (fun _ _ _ h => h) (Or.inl ⟨by rfl, ?hyD7⟩) (by assumption) ?rsD7
                    case hyD7 =>
                      intro w hSw
                      (try dsimp only at hSw)
                      go_simp
                      (try with_reducible rfl)
                    (try simp only [Act.put, List.setIfInBounds_toArray, List.set_cons_zero, List.set_cons_succ])
                    refine wpAnyH_take (i := 8) (oi := { dst := some 169, op := Op.move (Operand.tmp 12), type := 3, pos := "law.go:353", after := #[{ on := 5, ground := Ground.guard }], guard := some (5, false) }) (v := ?vvD8) rfl (by kernel_rfl) (by kernel_rfl) (by kernel_rfl) (fun _ _ _ h => h) (Or.inl ⟨by rfl, ?hyD8⟩) (by assumption) ?rsD8
                    case hyD8 =>
                      intro w hSw
                      (try dsimp only at hSw)
                      go_simp
                      (try with_reducible rfl)
                    (try simp only [Act.put, List.setIfInBounds_toArray, List.set_cons_zero, List.set_cons_succ])
                    refine wpAnyH_take (i := 9) (oi := { dst := some 170, op := Op.indexAddr 45 (Operand.tmp 168) (Operand.tmp 169), type := 0, pos := "law.go:353", after := #[{ on := 7, ground := Ground.data }, { on := 8, ground := Ground.data }, { on := 5, ground := Ground.guard }], guard := some (5, false) }) (v := ?vvD9) rfl (by kernel_rfl) (by kernel_rfl) (by kernel_rfl) (fun _ _ _ h => h) (Or.inl ⟨by rfl, ?hyD9⟩) (by assumption) ?rsD9
                    case hyD9 =>
                      intro w hSw
                      (try dsimp only at hSw)
                      go_simp
                      (try with_reducible rfl)
                    (try simp only [Act.put, List.setIfInBounds_toArray, List.set_cons_zero, List.set_cons_succ])
                    refine wpAnyH_take (i := 10) (oi := { dst := some 171, op := Op.load 47 (Operand.tmp 170), type := 47, pos := "law.go:353", after := #[{ on := 9, ground := Ground.data }, { on := 5, ground := Ground.guard }], guard := some (5, false) }) rfl (by kernel_rfl) (by kernel_rfl) (by kernel_rfl) (fun _ _ _ h => h) (yieldsIf_load_mid (by rfl) 47 (.tmp 170) rfl g (o + k * 27) rfl [.int .i64 rk, .int .i64 ri, .int .i64 rg, .string rn, .string rf, .int .i64 ra, .slice pr nr cr, .string rb, .int .i64 rz, .int .i64 w_k, .int .i64 w_i, .int .i64 w_g, .string w_n, .string w_f, .int .i64 w_a, .slice pw nw cw, .string w_b, .int .i64 w_z, .int .i64 t_k, .int .i64 t_i, .int .i64 t_g, .string t_n, .string t_f, .int .i64 t_a, .slice pt nt ct, .string t_b, .int .i64 t_z] _ (fun w hs => hs.2.1) Tryz.underlying47 rfl hsz27) (by assumption) ?_
                    (try simp only [Act.put, List.setIfInBounds_toArray, List.set_cons_zero, List.set_cons_succ])
                    refine wpAnyH_ready (rs := [11]) (by kernel_rfl) (by simp) ?_
                    refine AllReadyH.cons (o := { dst := some 172, op := Op.call { callee := Callee.value (Operand.func 32), args := #[Operand.tmp 167, Operand.tmp 171], argTypes := #[47, 47] }, type := 4, pos := "law.go:353", after := #[{ on := 6, ground := Ground.data }, { on := 10, ground := Ground.data }, { on := 5, ground := Ground.chain }, { on := 5, ground := Ground.guard }], guard := some (5, false) }) rfl (fun K hK => ?_) AllReadyH.nil
                    go_simp
                    refine (HSa.out _).mono ?_
                    rintro e w5' ⟨rfl, hb⟩
                    replace hbd := hbd.trans (hb.mono hbd.size)
                    clear hb l1 l2 l3
                    obtain ⟨l1, l2, l3⟩ := HS38.out _ hbd
                    go_wp2_with fail
                    refine hK.out _ _ ?_ (fun hHeld => ?_)
                    · exact ⟨l1, l2, l3⟩
                    clear hK K
                    (try simp only [Act.put, List.setIfInBounds_toArray, List.set_cons_zero, List.set_cons_succ])
                    refine wpAnyH_take (i := 12) (oi := { dst := some 173, op := Op.unOp UnOp.not 4 (Operand.tmp 172), type := 4, pos := "law.go:353", after := #[{ on := 11, ground := Ground.data }, { on := 5, ground := Ground.guard }], guard := some (5, false) }) (v := ?vvD12) rfl (by kernel_rfl) (by kernel_rfl) (by kernel_rfl) (fun _ _ _ h => h) (Or.inl ⟨by rfl, ?hyD12⟩) (by assumption) ?rsD12
                    case hyD12 =>
                      intro w hSw
                      (try dsimp only at hSw)
                      go_simp
                      (try with_reducible rfl)
                    (try simp only [Act.put, List.setIfInBounds_toArray, List.set_cons_zero, List.set_cons_succ])
                    refine wpAnyH_take (i := 13) (oi := { dst := some 174, op := Op.pick (Operand.tmp 166) (Operand.const (Value.bool true)) (Operand.tmp 173), type := 4, pos := "law.go:353", after := #[{ on := 5, ground := Ground.data }, { on := 12, ground := Ground.data }], guard := none }) (v := ?vvD13) rfl (by kernel_rfl) (by kernel_rfl) (by kernel_rfl) (fun _ _ _ h => h) (Or.inl ⟨by rfl, ?hyD13⟩) (by assumption) ?rsD13
                    case hyD13 =>
                      intro w hSw
                      (try dsimp only at hSw)
                      go_simp
                      (try with_reducible rfl)
                    (try simp only [Act.put, List.setIfInBounds_toArray, List.set_cons_zero, List.set_cons_succ])
                    refine wpAnyH_take (i := 14) (oi := { dst := some 175, op := Op.move (Operand.tmp 174), type := 4, pos := "law.go:353", after := #[{ on := 13, ground := Ground.data }, { on := 11, ground := Ground.chain }], guard := none }) (v := ?vvD14) rfl (by kernel_rfl) (by kernel_rfl) (by kernel_rfl) (fun _ _ _ h => h) (Or.inl ⟨by rfl, ?hyD14⟩) (by assumption) ?rsD14
                    case hyD14 =>
                      intro w hSw
                      (try dsimp only at hSw)
                      go_simp
                      (try with_reducible rfl)
                    (try simp only [Act.put, List.setIfInBounds_toArray, List.set_cons_zero, List.set_cons_succ])
                    refine wpAnyH_take (i := 15) (oi := { dst := some 176, op := Op.move (Operand.tmp 5), type := 24, pos := "law.go:353", after := #[{ on := 14, ground := Ground.guard }], guard := some (14, false) }) (v := ?vvD15) rfl (by kernel_rfl) (by kernel_rfl) (by kernel_rfl) (fun _ _ _ h => h) (Or.inl ⟨by rfl, ?hyD15⟩) (by assumption) ?rsD15
                    case hyD15 =>
                      intro w hSw
                      (try dsimp only at hSw)
                      go_simp
                      (try with_reducible rfl)
                    (try simp only [Act.put, List.setIfInBounds_toArray, List.set_cons_zero, List.set_cons_succ])
                    refine wpAnyH_take (i := 16) (oi := { dst := some 177, op := Op.move (Operand.tmp 7), type := 45, pos := "law.go:353", after := #[{ on := 14, ground := Ground.guard }], guard := some (14, false) }) (v := ?vvD16) rfl (by kernel_rfl) (by kernel_rfl) (by kernel_rfl) (fun _ _ _ h => h) (Or.inl ⟨by rfl, ?hyD16⟩) (by assumption) ?rsD16
                    case hyD16 =>
                      intro w hSw
                      (try dsimp only at hSw)
                      go_simp
                      (try with_reducible rfl)
                    (try simp only [Act.put, List.setIfInBounds_toArray, List.set_cons_zero, List.set_cons_succ])
                    refine wpAnyH_take (i := 17) (oi := { dst := some 178, op := Op.move (Operand.tmp 12), type := 3, pos := "law.go:353", after := #[{ on := 14, ground := Ground.guard }], guard := some (14, false) }) (v := ?vvD17) rfl (by kernel_rfl) (by kernel_rfl) (by kernel_rfl) (fun _ _ _ h => h) (Or.inl ⟨by rfl, ?hyD17⟩) (by assumption) ?rsD17
                    case hyD17 =>
                      intro w hSw
                      (try dsimp only at hSw)
                      go_simp
                      (try with_reducible rfl)
                    (try simp only [Act.put, List.setIfInBounds_toArray, List.set_cons_zero, List.set_cons_succ])
                    refine wpAnyH_take (i := 18) (oi := { dst := some 179, op := Op.indexAddr 45 (Operand.tmp 177) (Operand.tmp 178), type := 0, pos := "law.go:353", after := #[{ on := 16, ground := Ground.data }, { on := 17, ground := Ground.data }, { on := 14, ground := Ground.guard }], guard := some (14, false) }) (v := ?vvD18) rfl (by kernel_rfl) (by kernel_rfl) (by kernel_rfl) (fun _ _ _ h => h) (Or.inl ⟨by rfl, ?hyD18⟩) (by assumption) ?rsD18
                    case hyD18 =>
                      intro w hSw
                      (try dsimp only at hSw)
                      go_simp
                      (try with_reducible rfl)
                    (try simp only [Act.put, List.setIfInBounds_toArray, List.set_cons_zero, List.set_cons_succ])
                    refine wpAnyH_take (i := 19) (oi := { dst := some 180, op := Op.fieldAddr 47 (Operand.tmp 179) 1, type := 0, pos := "law.go:353", after := #[{ on := 18, ground := Ground.data }, { on := 14, ground := Ground.guard }], guard := some (14, false) }) (v := ?vvD19) rfl (by kernel_rfl) (by kernel_rfl) (by kernel_rfl) (fun _ _ _ h => h) (Or.inl ⟨by rfl, ?hyD19⟩) (by assumption) ?rsD19
                    case hyD19 =>
                      intro w hSw
                      (try dsimp only at hSw)
                      go_simp
                      (try with_reducible rfl)
                    (try simp only [Act.put, List.setIfInBounds_toArray, List.set_cons_zero, List.set_cons_succ])
                    refine wpAnyH_take (i := 20) (oi := { dst := some 181, op := Op.load 30 (Operand.tmp 180), type := 30, pos := "law.go:353", after := #[{ on := 19, ground := Ground.data }, { on := 14, ground := Ground.guard }], guard := some (14, false) }) rfl (by kernel_rfl) (by kernel_rfl) (by kernel_rfl) (fun _ _ _ h => h) (yieldsIf_load_mid (by rfl) 30 (.tmp 180) rfl g (o + k * 27 + 9) rfl [.int .i64 w_k, .int .i64 w_i, .int .i64 w_g, .string w_n, .string w_f, .int .i64 w_a, .slice pw nw cw, .string w_b, .int .i64 w_z] _ (fun w hs => hs.2.2) Tryz.underlying30 rfl hsz9) (by assumption) ?_
                    (try simp only [Act.put, List.setIfInBounds_toArray, List.set_cons_zero, List.set_cons_succ])
                    refine wpAnyH_take (i := 22) (oi := { dst := some 183, op := Op.move (Operand.tmp 7), type := 45, pos := "law.go:353", after := #[{ on := 14, ground := Ground.guard }], guard := some (14, false) }) (v := ?vvD22) rfl (by kernel_rfl) (by kernel_rfl) (by kernel_rfl) (fun _ _ _ h => h) (Or.inl ⟨by rfl, ?hyD22⟩) (by assumption) ?rsD22
                    case hyD22 =>
                      intro w hSw
                      (try dsimp only at hSw)
                      go_simp
                      (try with_reducible rfl)
                    (try simp only [Act.put, List.setIfInBounds_toArray, List.set_cons_zero, List.set_cons_succ])
                    refine wpAnyH_take (i := 23) (oi := { dst := some 184, op := Op.move (Operand.tmp 12), type := 3, pos := "law.go:353", after := #[{ on := 14, ground := Ground.guard }], guard := some (14, false) }) (v := ?vvD23) rfl (by kernel_rfl) (by kernel_rfl) (by kernel_rfl) (fun _ _ _ h => h) (Or.inl ⟨by rfl, ?hyD23⟩) (by assumption) ?rsD23
                    case hyD23 =>
                      intro w hSw
                      (try dsimp only at hSw)
                      go_simp
                      (try with_reducible rfl)
                    (try simp only [Act.put, List.setIfInBounds_toArray, List.set_cons_zero, List.set_cons_succ])
                    refine wpAnyH_take (i := 24) (oi := { dst := some 185, op := Op.indexAddr 45 (Operand.tmp 183) (Operand.tmp 184), type := 0, pos := "law.go:353", after := #[{ on := 22, ground := Ground.data }, { on := 23, ground := Ground.data }, { on := 14, ground := Ground.guard }], guard := some (14, false) }) (v := ?vvD24) rfl (by kernel_rfl) (by kernel_rfl) (by kernel_rfl) (fun _ _ _ h => h) (Or.inl ⟨by rfl, ?hyD24⟩) (by assumption) ?rsD24
                    case hyD24 =>
                      intro w hSw
                      (try dsimp only at hSw)
                      go_simp
                      (try with_reducible rfl)
                    (try simp only [Act.put, List.setIfInBounds_toArray, List.set_cons_zero, List.set_cons_succ])
                    refine wpAnyH_take (i := 25) (oi := { dst := some 186, op := Op.load 47 (Operand.tmp 185), type := 47, pos := "law.go:353", after := #[{ on := 24, ground := Ground.data }, { on := 14, ground := Ground.guard }], guard := some (14, false) }) rfl (by kernel_rfl) (by kernel_rfl) (by kernel_rfl) (fun _ _ _ h => h) (yieldsIf_load_mid (by rfl) 47 (.tmp 185) rfl g (o + k * 27) rfl [.int .i64 rk, .int .i64 ri, .int .i64 rg, .string rn, .string rf, .int .i64 ra, .slice pr nr cr, .string rb, .int .i64 rz, .int .i64 w_k, .int .i64 w_i, .int .i64 w_g, .string w_n, .string w_f, .int .i64 w_a, .slice pw nw cw, .string w_b, .int .i64 w_z, .int .i64 t_k, .int .i64 t_i, .int .i64 t_g, .string t_n, .string t_f, .int .i64 t_a, .slice pt nt ct, .string t_b, .int .i64 t_z] _ (fun w hs => hs.2.1) Tryz.underlying47 rfl hsz27) (by assumption) ?_
                    (try simp only [Act.put, List.setIfInBounds_toArray, List.set_cons_zero, List.set_cons_succ])
                    refine wpAnyH_ready (rs := [21]) (by kernel_rfl) (by simp) ?_
                    refine AllReadyH.cons (o := { dst := some 182, op := Op.call { callee := Callee.value (Operand.func 29), args := #[Operand.tmp 176, Operand.tmp 181], argTypes := #[24, 30] }, type := 45, pos := "law.go:353", after := #[{ on := 15, ground := Ground.data }, { on := 20, ground := Ground.data }, { on := 14, ground := Ground.chain }, { on := 14, ground := Ground.guard }], guard := some (14, false) }) rfl (fun K hK => ?_) AllReadyH.nil
                    go_simp
                    refine (HHo2.out _ hbd).mono ?_
                    rintro e w5' ⟨p5, k5, c5, rfl, hb, hin⟩
                    have HIn := Lib.hid hin; clear hin
                    replace hbd := hbd.trans (hb.mono hbd.size)
                    clear hb l1 l2 l3
                    obtain ⟨l1, l2, l3⟩ := HS38.out _ hbd
                    go_wp2_with fail
                    refine hK.out _ _ ?_ (fun hHeld => ?_)
                    · exact ⟨l1, l2, l3⟩
                    clear hK K
                    (try simp only [Act.put, List.setIfInBounds_toArray, List.set_cons_zero, List.set_cons_succ])
                    refine wpAnyH_ready (rs := [26]) (by kernel_rfl) (by simp) ?_
                    refine AllReadyH.cons (o := { dst := some 187, op := Op.call { callee := Callee.value (Operand.func 28), args := #[Operand.tmp 182, Operand.tmp 186], argTypes := #[45, 47] }, type := 4, pos := "law.go:353", after := #[{ on := 21, ground := Ground.data }, { on := 25, ground := Ground.data }, { on := 21, ground := Ground.chain }, { on := 14, ground := Ground.guard }], guard := some (14, false) }) rfl (fun K hK => ?_) AllReadyH.nil
                    go_simp
                    refine (HIn.out _ (Below.refl _ _)).mono ?_
                    rintro e w5' ⟨rfl, hb⟩
                    replace hbd := hbd.trans (hb.mono hbd.size)
                    clear hb l1 l2 l3
                    obtain ⟨l1, l2, l3⟩ := HS38.out _ hbd
                    go_wp2_with fail
                    refine hK.out _ _ ?_ (fun hHeld => ?_)
                    · exact ⟨l1, l2, l3⟩
                    clear hK K
                    (try simp only [Act.put, List.setIfInBounds_toArray, List.set_cons_zero, List.set_cons_succ])
                    refine wpAnyH_take (i := 27) (oi := { dst := some 188, op := Op.pick (Operand.tmp 175) (Operand.const (Value.bool true)) (Operand.tmp 187), type := 4, pos := "law.go:353", after := #[{ on := 14, ground := Ground.data }, { on := 26, ground := Ground.data }], guard := none }) (v := ?vvD27) rfl (by kernel_rfl) (by kernel_rfl) (by kernel_rfl) (fun _ _ _ h => h) (Or.inl ⟨by rfl, ?hyD27⟩) (by assumption) ?rsD27
                    case hyD27 =>
                      intro w hSw
                      (try dsimp only at hSw)
                      go_simp
                      (try with_reducible rfl)
                    (try simp only [Act.put, List.setIfInBounds_toArray, List.set_cons_zero, List.set_cons_succ])
                    refine wpAnyH_done (by kernel_rfl) ?_ _
                    have HLe := Lib.hid (HL13.out.below hbd)
                    have HBe := Lib.hid (belowCC HB13.out hbd)
                    have HTe := Lib.hid (touch_trans HTb.out (touch_trans HT13.out (touch_of hbd)))
                    clear hbd l1 l2 l3
                    go_wp2_with fail
                    go_roundg (Ke.length - (k + 1))
                    case measure => have := HN9.out; omega
                    case rel => exact Lib.hid ⟨k + 1, S1, by go_num, by omega, rfl, HLe.out, HK1.out, HTe.out, HBe.out⟩
                  · obtain rfl : k = Ke.length := by omega
                    have HBe := Lib.hid hbw9
                    clear hbw9 htb hKn hS
                    go_wp2_with fail
                    go_ret
                    exact ⟨rfl, HBe.out⟩
      · go_wp2_with fail
        go_ret
        exact ⟨rfl, HB3.out⟩
end Go.Proofs.YtnakbepcalciiaaGreat.lk
