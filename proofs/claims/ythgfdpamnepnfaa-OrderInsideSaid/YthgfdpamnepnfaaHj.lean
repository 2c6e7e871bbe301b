/- Several texts in one, one behind the other: OrF, ToN, ToO, ToP, LwC0. No condition beyond theirs. -/
import Derived.Test.YthgfdpamnepnfaaGv
import Derived.Test.YthgfdpamnepnfaaGy
import Derived.Test.YthgfdpamnepnfaaHe
import Derived.Test.YthgfdpamnepnfaaHh
/- Tuples and lists with one greater element are greater. No condition. -/
namespace Go.Proofs.Ythgfdpamnepnfaa.tm
set_option linter.unusedVariables false
set_option linter.unusedSimpArgs false

def tupF : TF := ⟨7, 0, 0, ⟨#[]⟩, ⟨#[]⟩, 0, ⟨#[]⟩, 0⟩
def lisF : TF := ⟨9, 0, 0, ⟨#[]⟩, ⟨#[]⟩, 0, ⟨#[]⟩, 0⟩
def nilF : TF := ⟨8, 0, 0, ⟨#[]⟩, ⟨#[]⟩, 0, ⟨#[]⟩, 0⟩
def nilT {n : Nat} : Tm (n + 1) := Tm.mk nilF []
def tupT {n : Nat} (l : List (Tm (n + 1))) : Tm (n + 2) := Tm.mk tupF l
def lisT {n : Nat} (l : List (Tm (n + 1))) : Tm (n + 2) := Tm.mk lisF (l ++ [nilT])
theorem formed_nil {n : Nat} : formedT (nilT (n := n)) = true := by
  have h0 : formedL n [] = true := by cases n <;> rfl
  unfold formedT okT bareOK nilT
  rw [show (Tm.mk nilF ([] : List (Tm n))).items = [] from rfl, h0]
  rw [show (Tm.mk nilF ([] : List (Tm n))).f = nilF from rfl]
  simp [nilF, inB, okF, bareF, zeroF, eqB_t]
theorem formed_tup {n : Nat} (l : List (Tm (n + 1))) (h : formedL (n + 1) l = true) (hl : l.length ≤ 255) : formedT (tupT l) = true := by
  unfold formedT okT bareOK tupT
  rw [show (Tm.mk tupF l).items = l from rfl, show (Tm.mk tupF l).f = tupF from rfl, h]
  simp [tupF, inB, okF, bareF, zeroF, eqB_t, hl]
theorem formedL_app {n : Nat} (a b : List (Tm (n + 1))) : formedL (n + 1) (a ++ b) = (formedL (n + 1) a && formedL (n + 1) b) := by unfold formedL; rw [List.all_append]
theorem formed_lis {n : Nat} (l : List (Tm (n + 1))) (h : formedL (n + 1) l = true) (hl : 1 ≤ l.length) : formedT (lisT l) = true := by
  have h2 : formedL (n + 1) (l ++ [nilT]) = true := by
    rw [formedL_app, h, formedL_cons, formed_nil]; rfl
  unfold formedT okT bareOK lisT
  rw [show (Tm.mk lisF (l ++ [nilT])).items = l ++ [nilT] from rfl, show (Tm.mk lisF (l ++ [nilT])).f = lisF from rfl, h2]
  have hk : lastK (n + 1) (l ++ [nilT]) = 8 := by
    show ((l ++ [nilT]).getLast?.map (fun t : Tm (n + 1) => t.f.kind)).getD 0 = 8
    rw [List.getLast?_append]
    rfl
  rw [hk]
  simp [lisF, inB, okF, bareF, zeroF, eqB_t]
  omega
theorem valid_of {n : Nat} {t : Tm (n + 1)} (h : formedT t = true) (hw : wholeT t ≤ 2000) : validT t = true := by
  unfold validT
  rw [h]; simpa using hw
theorem wholeL_ge {n : Nat} : ∀ (l : List (Tm (n + 1))), formedL (n + 1) l = true → 0 ≤ wholeL (n + 1) l ∧ ∀ t ∈ l, wholeT t ≤ wholeL (n + 1) l
  | [], _ => ⟨by unfold wholeL; simp, fun t h => by simp at h⟩
  | x :: l, h => by
    rw [formedL_cons, Bool.and_eq_true] at h
    have ih := wholeL_ge l h.2
    have hx := (wholeT_bound x h.1).1
    rw [wholeL_cons]
    refine ⟨by omega, fun t ht => ?_⟩
    rcases List.mem_cons.1 ht with rfl | ht
    · omega
    · have := ih.2 t ht; omega
theorem elt_valid {n : Nat} {l : List (Tm (n + 1))} (h : formedL (n + 1) l = true) {f : TF} (hs : 0 ≤ sizeF f l.length) (hw : wholeT (Tm.mk f l) ≤ 2000) {t : Tm (n + 1)} (ht : t ∈ l) : validT t = true := by
  have h1 := (wholeL_ge l h).2 t ht
  have h2 : wholeT (Tm.mk f l) = sizeF f l.length + wholeL (n + 1) l := rfl
  obtain ⟨j, hj, rfl⟩ := List.getElem_of_mem ht
  exact valid_of (formed_at h j hj) (by omega)
theorem each_set {α : Type} {c : α → α → Int} (hr : ∀ a, c a a = 0) : ∀ (l : List α) (k : Nat) (t : α) (hk : k < l.length), c l[k] t ≠ 0 → eachC c l (l.set k t) = c l[k] t
  | [], k, t, hk, _ => by simp at hk
  | x :: l, 0, t, hk, h => by
    have h' : c x t ≠ 0 := h
    show (if c x t = 0 then _ else c x t) = c x t
    rw [if_neg h']
  | x :: l, k + 1, t, hk, h => by
    show (if c x x = 0 then eachC c l (l.set k t) else c x x) = _
    rw [if_pos (hr x)]
    exact each_set hr l k t (by simpa using hk) h
theorem cells_set {α : Type} {kd : α → Int} {c : α → α → Int} (hr : ∀ a, c a a = 0) (z : α) : ∀ (l : List α) (x : α) (k : Nat) (t : α) (hk : k < (x :: l).length), c (x :: l)[k] t ≠ 0 →
    listsC kd c (x :: l ++ [z]) ((x :: l).set k t ++ [z]) = c (x :: l)[k] t
  | l, x, 0, t, hk, h => by
    show cellsC kd c x (l ++ [z]) t (l ++ [z]) = c x t
    obtain ⟨u, v, e⟩ : ∃ u v, l ++ [z] = u :: v := by cases l <;> exact ⟨_, _, rfl⟩
    rw [e]
    have h' : c x t ≠ 0 := h
    show (if c x t = 0 then _ else c x t) = c x t
    rw [if_neg h']
  | [], x, k + 1, t, hk, h => by simp at hk
  | y :: l, x, k + 1, t, hk, h => by
    have ih := cells_set (kd := kd) hr z l y k t (by simpa using hk) h
    show cellsC kd c x (y :: (l ++ [z])) x ((y :: l).set k t ++ [z]) = _
    obtain ⟨u, v, e⟩ : ∃ u v, (y :: l).set k t ++ [z] = u :: v := by cases k <;> exact ⟨_, _, rfl⟩
    rw [e] at ih ⊢
    show (if c x x = 0 then cellsC kd c y (l ++ [z]) u v else c x x) = _
    rw [if_pos (hr x)]
    exact ih
theorem cmpT_refl {n : Nat} (a : Tm (n + 1)) : cmpTm (n + 1) a a = 0 := (ordT (n + 1)).tp.refl a
theorem cmpV_valid {n : Nat} {a b : Tm (n + 1)} (ha : validT a = true) (hb : validT b = true) : cmpV a b = cmpTm (n + 1) a b := by unfold cmpV; rw [if_pos ha, if_pos hb]
theorem tup_more {n : Nat} (l : List (Tm (n + 1))) (t : Tm (n + 1)) (h1 : validT (tupT l) = true) (h2 : validT (tupT (l ++ [t])) = true) : cmpV (tupT l) (tupT (l ++ [t])) = -1 := by
  rw [cmpV_valid h1 h2, cmp_body]
  show (if (7 : Int) = 7 then (if (7 : Int) = 7 then itemsC (cmpTm (n + 1)) l (l ++ [t]) else _) else _) = -1
  rw [if_pos rfl]
  rw [if_pos rfl]
  unfold itemsC
  rw [if_neg (by simp)]
  have := cmpI_lt.2 (show (l.length : Int) < ((l ++ [t]).length : Int) by simp; omega)
  rcases cmpI_range l.length ((l ++ [t]).length : Nat) with h | h | h <;> omega
theorem tup_items {n : Nat} {l : List (Tm (n + 1))} (h : validT (tupT l) = true) {t : Tm (n + 1)} (ht : t ∈ l) : validT t = true := by
  have hf := formed_items (valid_formed h)
  have hw : wholeT (tupT l) ≤ 2000 := by
    unfold validT at h
    rw [Bool.and_eq_true, decide_eq_true_eq] at h
    exact h.2
  exact elt_valid hf (by simp [tupF, sizeF]) hw ht
theorem tup_set {n : Nat} (l : List (Tm (n + 1))) (k : Nat) (t : Tm (n + 1)) (hk : k < l.length) (h1 : validT (tupT l) = true) (h2 : validT (tupT (l.set k t)) = true) (hc : cmpV l[k] t < 0) : cmpV (tupT l) (tupT (l.set k t)) = -1 := by
  have v1 := tup_items h1 (List.getElem_mem hk)
  have v2 := tup_items h2 (List.mem_set hk t)
  rw [cmpV_valid v1 v2] at hc
  rw [cmpV_valid h1 h2, cmp_body]
  show (if (7 : Int) = 7 then (if (7 : Int) = 7 then itemsC (cmpTm (n + 1)) l (l.set k t) else _) else _) = -1
  rw [if_pos rfl]
  rw [if_pos rfl]
  unfold itemsC
  rw [if_pos (by simp), each_set cmpT_refl l k t hk (by omega)]
  rcases (ordT (n + 1)).tp.range l[k] t with h | h | h <;> omega
theorem lis_items {n : Nat} {l : List (Tm (n + 1))} (h : validT (lisT l) = true) {t : Tm (n + 1)} (ht : t ∈ l) : validT t = true := by
  have hf := formed_items (valid_formed h)
  have hw : wholeT (lisT l) ≤ 2000 := by
    unfold validT at h
    rw [Bool.and_eq_true, decide_eq_true_eq] at h
    exact h.2
  exact elt_valid (l := l ++ [nilT]) hf (by simp [lisF, sizeF]) hw (List.mem_append.2 (.inl ht))
theorem lis_set {n : Nat} (l : List (Tm (n + 1))) (k : Nat) (t : Tm (n + 1)) (hk : k < l.length) (h1 : validT (lisT l) = true) (h2 : validT (lisT (l.set k t)) = true) (hc : cmpV l[k] t < 0) : cmpV (lisT l) (lisT (l.set k t)) = -1 := by
  have v1 := lis_items h1 (List.getElem_mem hk)
  have v2 := lis_items h2 (List.mem_set hk t)
  rw [cmpV_valid v1 v2] at hc
  rw [cmpV_valid h1 h2, cmp_body]
  show (if (9 : Int) = 9 then (if (9 : Int) = 7 then _ else if (9 : Int) = 9 then listsC (kdT (n + 1)) (cmpTm (n + 1)) (l ++ [nilT]) (l.set k t ++ [nilT]) else _) else _) = -1
  rw [if_pos rfl, if_neg (by omega), if_pos rfl]
  cases l with
  | nil => simp at hk
  | cons x l =>
    rw [cells_set cmpT_refl nilT l x k t hk (by omega)]
    rcases (ordT (n + 1)).tp.range (x :: l)[k] t with h | h | h <;> omega
end Go.Proofs.Ythgfdpamnepnfaa.tm
/- stagehandref03: formed, fits, Tuple, Nil, List. Conditions: the terms lie in memory; they are few enough. -/
namespace Go.Proofs.Ythgfdpamnepnfaa.tm
open Go.RowKit mem names
set_option linter.unusedVariables false
set_option linter.unusedSimpArgs false
set_option maxHeartbeats 2000000
set_option maxRecDepth 100000

theorem formed_take {n : Nat} {l : List (Tm (n + 1))} {i : Nat} {t : Tm (n + 1)} (h : l[i]? = some t) : formedL (n + 1) (l.take (i + 1)) = (formedL (n + 1) (l.take i) && formedT t) := by
  rw [List.take_add_one, h]
  show formedL (n + 1) (l.take i ++ [t]) = _
  rw [formedL_app, formedL_cons]
  congr 1
  show (formedT t && formedL (n + 1) []) = _
  unfold formedL; simp
theorem formed_not {n : Nat} {l : List (Tm (n + 1))} {i : Nat} {t : Tm (n + 1)} (h : l[i]? = some t) (hf : formedT t = false) : formedL (n + 1) l = false := by
  obtain ⟨hi, rfl⟩ := List.getElem?_eq_some_iff.1 h
  cases hb : formedL (n + 1) l with
  | false => rfl
  | true => rw [formed_at hb i hi] at hf; cases hf
theorem formedW {n : Nat} (w : World) (B : Nat) (v : Value) (l : List (Tm (n + 1))) (hB : B ≤ w.heap.size) (h1 : ItemsAt w B (n + 1) v l) (hs : nodesL (n + 1) l ≤ 100000000) : Calls Try.prog 49 #[v] w (BPost (formedL (n + 1) l) w) := by
  have hlen := nodes_len (n + 1) l
  have hle : l.length ≤ 100000000 := by omega
  have HI := Lib.hid h1
  have HRef : Hid (∀ W t u, Below w.heap.size w W → ItemsAt w B n u t.items → Calls Try.prog 51 #[aggV t.f u] W (BPost (formedT t) W)) := Lib.hid (fun W t u hb hi => refAll n W B u t (Nat.le_trans hB hb.size) (hi.below hb hB))
  have HB0 := Lib.hid hB
  obtain ⟨p, c, rfl, _, _⟩ := h1.shape
  have H0 : Hid (formedL (n + 1) (l.take 0) = true) := Lib.hid (by simp [formedL])
  have HEnd : Hid (formedL (n + 1) (l.take l.length) = formedL (n + 1) l) := Lib.hid (by rw [List.take_length])
  have HNot := Lib.hid (fun i t (h : l[i]? = some t) hf => formed_not h hf)
  have HStep := Lib.hid (fun i t (h : l[i]? = some t) => formed_take h)
  unfold BPost at *
  generalize formedL (n + 1) l = fl at *
  clear h1 hs hlen hB
  go_enter Try.func49, Try.ntmps49
  go_wp2_with fail
  go_loopw [3] (fun s wr => ∃ i : Nat, s = .int .i64 i ∧ i ≤ l.length ∧ Hid (formedL (n + 1) (l.take i) = true) ∧ Hid (Below w.heap.size w wr)) (fun s _ => l.length - (intOf s).toNat)
  case atStart => exact ⟨0, by go_num, by omega, H0, Lib.hid (Below.refl _ _)⟩
  case round =>
    obtain ⟨i, rfl, hil, HF, HB⟩ := hrel
    by_cases hlt : i < l.length
    · obtain ⟨g, o, rfl, hg⟩ := HI.out.addr (by omega)
      obtain ⟨t, x, q, m, d, ht, hx, hC, hIt⟩ := HI.out.elt i hlt
      have hgw : g < w.heap.size := Nat.lt_of_lt_of_le hg HB0.out
      have hC := hC.same (HB.out.block g hgw)
      have hR := HRef.out wr t _ HB.out hIt
      have HN := Lib.hid (HNot.out i t ht)
      have HS := Lib.hid (HStep.out i t ht)
      rw [hx] at hR
      generalize formedT t = ft at *
      have HR := Lib.hid hR
      obtain ⟨k1, i1, g1, n1, fn1, a1, by1, s1⟩ := x
      obtain ⟨x0, x1, x2, x3, x4, x5, x6, x7, x8⟩ := hC
      dsimp only at x0 x1 x2 x3 x4 x5 x6 x7 x8
      unfold aggV at HR
      dsimp only at HR
      have r1 : (i : Int) < (l.length : Int) := by omega
      clear ht hx hIt hR
      go_wp2_with fail
      refine HR.out.mono ?_
      rintro e w1 ⟨rfl, hb1⟩
      have HB1 := Lib.hid (HB.out.trans (hb1.mono HB.out.size))
      clear hb1 HR x0 x1 x2 x3 x4 x5 x6 x7 x8
      cases ft
      · have HFin := Lib.hid (HN.out rfl)
        go_wp2_with fail
        go_ret
        exact ⟨ret1b HFin.out.symm, HB1.out⟩
      · have HF2 : Hid (formedL (n + 1) (l.take (i + 1)) = true) := Lib.hid (by rw [HS.out, HF.out]; rfl)
        go_wp2_with fail
        go_roundw
        case rel => exact ⟨i + 1, by go_num, by omega, HF2, HB1⟩
        case measure => simp [intOf]; omega
    · obtain rfl : i = l.length := by omega
      have HFin : Hid (fl = true) := Lib.hid (by rw [← HEnd.out]; exact HF.out)
      go_wp2_with fail
      go_ret
      exact ⟨ret1b HFin.out.symm, HB.out⟩
/-- a term, and why there is none -/
def TwoPost (v : Value) (k : Int) (w : World) (e : Ending) (w' : World) : Prop := e = .returned (.tuple #[v, .int .i64 k]) ∧ Below w.heap.size w w'
theorem fitsF (x : TF) (p : Option Addr) (m c : Nat) (z : Int) (w : World) (hC : ∀ W, Below w.heap.size w W → Calls Try.prog 68 #[aggV x (.slice p m c)] W (fun e w' => e = .returned (.int .i64 z) ∧ Below W.heap.size W w')) :
    Calls Try.prog 50 #[aggV x (.slice p m c)] w (TwoPost (if z ≤ 2000 then aggV x (.slice p m c) else aggV zeroF nilV) (if z ≤ 2000 then 0 else 3) w) := by
  have HC := Lib.hid hC
  clear hC
  obtain ⟨V, hV⟩ : ∃ V, (if z ≤ 2000 then aggV x (.slice p m c) else aggV zeroF nilV) = V := ⟨_, rfl⟩
  obtain ⟨K, hK⟩ : ∃ K : Int, (if z ≤ 2000 then 0 else 3) = K := ⟨_, rfl⟩
  rw [hV, hK]
  have HV := Lib.hid hV
  have HK := Lib.hid hK
  clear hV hK
  obtain ⟨k, i, gg, nm, fn, ar, by_, bt⟩ := x
  unfold TwoPost
  unfold aggV zeroF nilV at *
  dsimp only at *
  go_enter Try.func50, Try.ntmps50
  go_wp2_with fail
  obtain ⟨hN1, hN2, hbw, hsz⟩ := boxes2 w ⟨k, i, gg, nm, fn, ar, by_, bt⟩ zeroF (.slice p m c) nilV
  unfold cells9 zeroF nilV at hN1 hN2 hbw hsz
  dsimp only at hN1 hN2 hbw hsz
  generalize ((w.alloc (.cells #[.int .i64 k, .int .i64 i, .int .i64 gg, .string nm, .string fn, .int .i64 ar, .slice p m c, .string by_, .int .i64 bt] 24)).alloc (.cells #[.int .i64 0, .int .i64 0, .int .i64 0, .string ⟨#[]⟩, .string ⟨#[]⟩, .int .i64 0, .slice none 0 0, .string ⟨#[]⟩, .int .i64 0] 24)) = W0 at *
  have HZ1 : w.heap.size < W0.heap.size := by omega
  have HZ2 : w.heap.size + 1 < W0.heap.size := by omega
  clear hsz
  have HN1 := Lib.hid hN1
  have HN2 := Lib.hid hN2
  obtain ⟨x0, x1, x2, x3, x4, x5, x6, x7, x8, xz⟩ := hN1
  dsimp only at x0 x1 x2 x3 x4 x5 x6 x7 x8
  have HCW := Lib.hid (HC.out W0 hbw)
  clear HC hN2
  go_wp2_with fail
  refine HCW.out.mono ?_
  rintro e w1 ⟨rfl, hb⟩
  have HM1 := Lib.hid (HN1.out.below hb HZ1)
  have HM2 := Lib.hid (HN2.out.below hb HZ2)
  have hbb := hbw.trans (hb.mono hbw.size)
  clear x0 x1 x2 x3 x4 x5 x6 x7 x8 xz hb HCW HN1 HN2
  obtain ⟨x0, x1, x2, x3, x4, x5, x6, x7, x8, xz⟩ := HM1.out
  obtain ⟨y0, y1, y2, y3, y4, y5, y6, y7, y8, yz⟩ := HM2.out
  dsimp only at x0 x1 x2 x3 x4 x5 x6 x7 x8 y0 y1 y2 y3 y4 y5 y6 y7 y8
  have HBB := Lib.hid hbb
  clear hbb hbw HM1 HM2
  by_cases hz : z ≤ 2000
  · have q0 : ¬ (2000 : Int) < z := by omega
    have q1 : decide ((2000 : Int) < z) = false := decide_eq_false q0
    have HZ := Lib.hid hz
    clear hz
    go_wp2_with fail
    refine bodyPost_ret (v := .tuple #[.agg #[.int .i64 k, .int .i64 i, .int .i64 gg, .string nm, .string fn, .int .i64 ar, .slice p m c, .string by_, .int .i64 bt], .int .i64 0]) (by simp [results, Try.results50, go_sem, *]) rfl ⟨by rw [← HV.out, ← HK.out, if_pos (show z ≤ 2000 by have := HZ.out; omega), if_pos (show z ≤ 2000 by have := HZ.out; omega)], ?_⟩
    (repeat' (first | with_reducible exact HBB.out | with_reducible refine Below.setCell ?_ ?_ _ | omega | (dsimp only; omega) | (simp; done) | (simp; omega)))
  · have q0 : (2000 : Int) < z := by omega
    have q1 : decide ((2000 : Int) < z) = true := decide_eq_true q0
    have HZ := Lib.hid hz
    clear hz
    go_wp2_with fail
    refine bodyPost_ret (v := .tuple #[.agg #[.int .i64 0, .int .i64 0, .int .i64 0, .string ⟨#[]⟩, .string ⟨#[]⟩, .int .i64 0, .slice none 0 0, .string ⟨#[]⟩, .int .i64 0], .int .i64 3]) (by simp [results, Try.results50, go_sem, *]) rfl ⟨by rw [← HV.out, ← HK.out, if_neg (show ¬ z ≤ 2000 by have := HZ.out; omega), if_neg (show ¬ z ≤ 2000 by have := HZ.out; omega)], ?_⟩
    (repeat' (first | with_reducible exact HBB.out | with_reducible refine Below.setCell ?_ ?_ _ | omega | (dsimp only; omega) | (simp; done) | (simp; omega)))
theorem fits {n : Nat} (w : World) (B : Nat) (v : Value) (t : Tm (n + 1)) (hB : B ≤ w.heap.size) (h1 : ItemsAt w B n v t.items) (hf : formedT t = true) (hs : 300 * (nodesT t : Int) ≤ 1000000000000) :
    Calls Try.prog 50 #[aggV t.f v] w (TwoPost (if wholeT t ≤ 2000 then aggV t.f v else aggV zeroF nilV) (if wholeT t ≤ 2000 then 0 else 3) w) := by
  obtain ⟨p, c, rfl, _, _⟩ := h1.shape
  exact fitsF t.f p _ c (wholeT t) w (fun W hb => wholeAll n W B _ t (Nat.le_trans hB hb.size) (h1.below hb hB) hf hs)
theorem nil34 (w : World) : Calls Try.prog 34 #[] w (VPost (aggV nilF nilV) w) := by
  unfold VPost aggV nilF nilV
  dsimp only
  go_enter Try.func34, Try.ntmps34
  go_wp2_with fail
  exact bodyPost_ret (v := (.agg #[.int .i64 8, .int .i64 0, .int .i64 0, .string ⟨#[]⟩, .string ⟨#[]⟩, .int .i64 0, .slice none 0 0, .string ⟨#[]⟩, .int .i64 0])) (by simp [results, Try.results34, go_sem, *]) rfl ⟨rfl, by (repeat' (first | with_reducible exact Below.refl _ _ | with_reducible refine Below.setCell ?_ ?_ _ | with_reducible refine Below.alloc ?_ ?_ _ | exact Nat.le_refl _ | (simp; done)))⟩
theorem pick31 (a : Int) (m : Nat) (hm : 0 < m) (hm2 : m ≤ 1000000) (w : World) : Calls Try.prog 31 #[.int .i64 a, .int .i64 m] w (fun e w' => ∃ k : Nat, e = .returned (.int .i64 k) ∧ k < m ∧ w = w') := by
  obtain ⟨r, hr⟩ : ∃ r, a.tmod (m : Int) = r := ⟨_, rfl⟩
  have h1 : -(m : Int) < r := by rw [← hr]; exact (by have := Int.tmod_lt_of_pos (-a) (b := (m : Int)) (by omega); rw [Int.neg_tmod] at this; omega)
  have h2 : r < (m : Int) := by rw [← hr]; exact Int.tmod_lt_of_pos _ (by omega)
  have hw : IntKind.i64.wrap r = r := IntWalk.i64_in _ (by omega)
  have hm0 : ((m : Int) == 0) = false := by have : ¬ (m : Int) = 0 := by omega
                                            simpa using this
  by_cases h0 : r < 0
  · obtain ⟨k, hk⟩ : ∃ k : Nat, r + (m : Int) = (k : Int) := ⟨(r + m).toNat, by omega⟩
    have hkm : k < m := by omega
    have q1 : decide (r < 0) = true := decide_eq_true h0
    have h1m : (1 : Int) ≤ (m : Int) := by omega
    go_enter Try.func31, Try.ntmps31
    go_wp2_with fail
    go_ret
    exact ⟨k, by rfl, hkm, rfl⟩
  · obtain ⟨k, hk⟩ : ∃ k : Nat, r = (k : Int) := ⟨r.toNat, by omega⟩
    have hkm : k < m := by omega
    have q1 : decide (r < 0) = false := decide_eq_false h0
    have h1m : (1 : Int) ≤ (m : Int) := by omega
    subst hk
    have q2 : ¬ ((k : Int) < 0) := by omega
    go_enter Try.func31, Try.ntmps31
    go_wp2_with fail
    go_ret
    exact ⟨k, by rfl, hkm, rfl⟩
end Go.Proofs.Ythgfdpamnepnfaa.tm
/- stagehandref03.Tuple, List. Conditions: the terms lie in memory; they are few enough. -/
namespace Go.Proofs.Ythgfdpamnepnfaa.tm
open Go.RowKit mem names
set_option linter.unusedVariables false
set_option linter.unusedSimpArgs false
set_option maxHeartbeats 2000000
set_option maxRecDepth 100000

theorem nine_same {w w' : World} {z : Nat} {f : TF} {v : Value} (h : Nine w z f v) (hs : w'.heap[z]? = w.heap[z]?) : Nine w' z f v := by
  have c : ∀ o, w'.cell? ⟨z, o, none⟩ = w.cell? ⟨z, o, none⟩ := fun o => World.cell?_of_block (w := w) (a := ⟨z, o, none⟩) hs
  have g : ∀ o, w'.frozen? ⟨z, o, none⟩ = w.frozen? ⟨z, o, none⟩ := fun o => World.frozen?_of_block (w := w) (a := ⟨z, o, none⟩) hs
  exact ⟨(c _).trans h.c0, (c _).trans h.c1, (c _).trans h.c2, (c _).trans h.c3, (c _).trans h.c4, (c _).trans h.c5, (c _).trans h.c6, (c _).trans h.c7, (c _).trans h.c8, fun o => (g o).trans (h.fz o)⟩
theorem row_ge {n : Nat} {wr : World} {F : Nat → Prop} {base : Nat} {v : Value} {rs : List (TF × Value)} {O : List (Tm (n + 1))} (h : RRowF wr F base v rs O) : ∀ k, v.ownBlock = some k → base ≤ k := by
  intro k hk
  rcases h.own.2 with ⟨rfl, h0⟩ | ⟨g, cap, cur, rfl, hbg, hg, _⟩
  · simp [Value.ownBlock] at hk
  · simp [Value.ownBlock] at hk
    omega
/-- what comes of building a term of a list: the term, or a reason -/
def MkPost {n : Nat} (T : Tm (n + 1)) (F : Nat → Prop) (w : World) (e : Ending) (w' : World) : Prop :=
  ∃ f p m c k, e = .returned (.tuple #[aggV f (.slice p m c), .int .i64 k]) ∧ Below w.heap.size w w' ∧ (k = 0 → f = T.f ∧ m = T.items.length ∧ ItemsIn w' (fun g => F g ∨ w.heap.size ≤ g) n (.slice p m c) T.items ∧ validT T = true)
theorem mk_no {n : Nat} {T : Tm (n + 1)} {F : Nat → Prop} {w w' : World} {k : Int} (hb : Below w.heap.size w w') (hk : k ≠ 0) : MkPost T F w (.returned (.tuple #[aggV zeroF nilV, .int .i64 k])) w' :=
  ⟨zeroF, none, 0, 0, k, rfl, hb, fun h => absurd h hk⟩
theorem RRowF.itemsIn {n : Nat} {wr : World} {F : Nat → Prop} {base : Nat} {v : Value} {rs : List (TF × Value)} {O : List (Tm (n + 1))} (h : RRowF wr F base v rs O) : ItemsIn wr (fun g => F g ∨ v.ownBlock = some g) (n + 1) v O := by
  rcases h.own.2 with ⟨rfl, h0⟩ | ⟨g, cap, cur, rfl, hbg, hg, hc, hm, hs, ht⟩
  · have : O = [] := List.eq_nil_of_length_eq_zero h0
    subst this
    exact ItemsIn.nil_any (by unfold maxLen; omega)
  · refine ⟨_, _, rfl, hc, hm, fun _ => ⟨g, 0, rfl, .inr rfl, fun j hj => ?_⟩⟩
    have hj' : j < rs.length := by have := h.len; omega
    have := row_cells h.own (by have := h.len; omega) j hj'
    refine ⟨rs[j].2, ?_, (h.elt j hj' hj).2.mono (fun _ _ => rfl) (fun _ h => .inl h)⟩
    rw [Nat.zero_add, ← (h.elt j hj' hj).1]
    exact this
theorem box_z (w : World) : Nine (w.alloc (.cells #[.int .i64 0, .int .i64 0, .int .i64 0, .string ⟨#[]⟩, .string ⟨#[]⟩, .int .i64 0, .slice none 0 0, .string ⟨#[]⟩, .int .i64 0] 24)) w.heap.size zeroF nilV ∧ Below w.heap.size w (w.alloc (.cells #[.int .i64 0, .int .i64 0, .int .i64 0, .string ⟨#[]⟩, .string ⟨#[]⟩, .int .i64 0, .slice none 0 0, .string ⟨#[]⟩, .int .i64 0] 24)) ∧ w.heap.size < (w.alloc (.cells #[.int .i64 0, .int .i64 0, .int .i64 0, .string ⟨#[]⟩, .string ⟨#[]⟩, .int .i64 0, .slice none 0 0, .string ⟨#[]⟩, .int .i64 0] 24)).heap.size :=
  ⟨nine_of (MapKept.heap_alloc w (cells9 zeroF nilV)).1, (Below.refl _ _).alloc (Nat.le_refl _) _, by simp⟩
/-- a list that was built stays where one block is written -/
theorem built_stays {n : Nat} {w5 w6 : World} {F : Nat → Prop} {base z : Nat} {v : Value} {rs : List (TF × Value)} {O : List (Tm (n + 1))} (h : RRowF w5 F base v rs O) (hb : Below w5.heap.size w5 w6) (hF : ∀ g, F g → g ≠ z) (hz : z < base) : ∀ W', TouchB (fun k => k = z) w6 W' → ItemsIn W' (fun g => F g ∨ base ≤ g) (n + 1) v O := by
  intro W' ht
  have hlt : ∀ g, (F g ∨ v.ownBlock = some g) → g < w5.heap.size := fun g hg => hg.elim (fun hg => (h.inh g hg).1) (fun hg => own_block_lt h.own g hg)
  have hne : ∀ g, (F g ∨ v.ownBlock = some g) → g ≠ z := fun g hg => by
    rcases hg with hg | hg
    · exact hF g hg
    · have := row_ge h g hg; omega
  exact h.itemsIn.mono (fun g hg => (ht.block g (Nat.lt_of_lt_of_le (hlt g hg) hb.size) (hne g hg)).trans (hb.block g (hlt g hg))) (fun g hg => hg.elim .inl (fun e => .inr (row_ge h g e)))
theorem tuple32 {n : Nat} (w : World) (F : Nat → Prop) (v : Value) (l : List (Tm (n + 1))) (hF : ∀ g, F g → g < w.heap.size) (h0 : ItemsIn w F (n + 1) v l) (hs : nodesL (n + 1) l ≤ 1000000) : Calls Try.prog 32 #[v] w (MkPost (tupT l) F w) := by
  have h1 := h0.toAt hF
  have hB : w.heap.size ≤ w.heap.size := Nat.le_refl _
  have hlen := nodes_len (n + 1) l
  have hle : l.length ≤ 1000000 := by omega
  have hnt : nodesT (tupT l) = 1 + nodesL (n + 1) l := rfl
  have HFm := Lib.hid (fun W (hb : Below w.heap.size w W) => formedW W w.heap.size v l (Nat.le_trans hB hb.size) (h1.below hb hB) (by omega))
  have HFit := Lib.hid (fun (hf : formedL (n + 1) l = true) (h255 : l.length ≤ 255) W u (hi : ItemsAt W W.heap.size (n + 1) u l) => fits W W.heap.size u (tupT l) (Nat.le_refl _) hi (formed_tup l hf h255) (by omega))
  have HVal := Lib.hid (fun (hf : formedL (n + 1) l = true) (h255 : l.length ≤ 255) hw => valid_of (formed_tup l hf h255) hw)
  have HIn := Lib.hid (fun W (hb : Below w.heap.size w W) => h0.mono (fun g hg => hb.block g (hF g hg)) (fun _ h => h))
  have HB0 := Lib.hid hF
  obtain ⟨p, c, rfl, _, _⟩ := h1.shape
  clear h0 hF h1 hs hlen hB hnt
  unfold BPost TwoPost at *
  have HTI : Hid ((tupT l).items = l) := Lib.hid rfl
  have HTF : Hid ((tupT l).f = tupF) := Lib.hid rfl
  rw [HTF.out] at HFit
  have HNo := Lib.hid (fun w' k (hb : Below w.heap.size w w') (hk : k ≠ 0) => mk_no (T := tupT l) (F := F) (k := k) hb hk)
  have HYes : Hid (∀ w' p m c, Below w.heap.size w w' → m = l.length → ItemsIn w' (fun g => F g ∨ w.heap.size ≤ g) (n + 1) (.slice p m c) l → validT (tupT l) = true → MkPost (tupT l) F w (.returned (.tuple #[aggV tupF (.slice p m c), .int .i64 0])) w') := Lib.hid (fun w' p m c hb hm hi hv => ⟨tupF, p, m, c, 0, rfl, hb, fun _ => ⟨rfl, hm, hi, hv⟩⟩)
  generalize formedL (n + 1) l = fl at *
  generalize wholeT (tupT l) = ww at *
  generalize validT (tupT l) = vv at *
  unfold aggV zeroF nilV tupF at *
  dsimp only at *
  go_enter Try.func32, Try.ntmps32
  go_wp2_with fail
  have hN0 := (box_z w).1
  have hb0 := (box_z w).2.1
  have hz0 := (box_z w).2.2
  generalize (w.alloc (.cells #[.int .i64 0, .int .i64 0, .int .i64 0, .string ⟨#[]⟩, .string ⟨#[]⟩, .int .i64 0, .slice none 0 0, .string ⟨#[]⟩, .int .i64 0] 24)) = W0 at *
  have HN0 := Lib.hid hN0
  have HCW := Lib.hid (HFm.out W0 hb0)
  clear hN0 HFm
  refine HCW.out.mono ?_
  rintro e w1 ⟨rfl, hb1⟩
  have HN1 := Lib.hid (HN0.out.below hb1 hz0)
  have hz1 : w.heap.size < w1.heap.size := Nat.lt_of_lt_of_le hz0 hb1.size
  have HBB := Lib.hid (hb0.trans (hb1.mono hb0.size))
  clear hb1 HCW HN0 hb0 hz0
  cases fl
  · obtain ⟨y0, y1, y2, y3, y4, y5, y6, y7, y8, yz⟩ := HN1.out
    (try dsimp only at y0 y1 y2 y3 y4 y5 y6 y7 y8)
    go_wp2_with fail
    refine bodyPost_ret (v := .tuple #[.agg #[.int .i64 0, .int .i64 0, .int .i64 0, .string ⟨#[]⟩, .string ⟨#[]⟩, .int .i64 0, .slice none 0 0, .string ⟨#[]⟩, .int .i64 0], .int .i64 2]) (by simp [results, Try.results32, go_sem, *]) rfl ?_
    refine HNo.out _ 2 ?_ (by omega)
    (repeat' (first | with_reducible exact HBB.out | with_reducible refine Below.setCell ?_ ?_ _ | omega | (dsimp only; omega) | (simp; done) | (simp; omega)))
  · by_cases h255 : l.length ≤ 255
    · have HFit' := Lib.hid (HFit.out rfl h255)
      have HVal' := Lib.hid (HVal.out rfl h255)
      have q0 : ¬ (255 : Int) < (l.length : Int) := by omega
      have q1 : decide ((255 : Int) < (l.length : Int)) = false := decide_eq_false q0
      have HE : Hid (RRowF (n := n) (w1.alloc (.cells #[] 24)) (fun _ => False) w1.heap.size (.slice (some ⟨w1.heap.size, 0, none⟩) 0 0) [] []) := Lib.hid (RRowF.empty _ _ (Nat.le_refl _))
      have HB4 : Hid (Below w.heap.size w (w1.alloc (.cells #[] 24))) := Lib.hid (HBB.out.alloc HBB.out.size _)
      have HI0 := Lib.hid (HIn.out _ HB4.out)
      have HF0 : Hid (∀ g, F g → g < (w1.alloc (.cells #[] 24)).heap.size ∧ (Value.slice (some ⟨w1.heap.size, 0, none⟩) 0 0).ownBlock ≠ some g) := Lib.hid (fun g hg => ⟨Nat.lt_of_lt_of_le (HB0.out g hg) HB4.out.size, by simp [Value.ownBlock]; have := HB0.out g hg; omega⟩)
      have HD0 : Hid (([] : List (Tm (n + 1))).length + l.length ≤ 1000000000) := Lib.hid (by simp; omega)
      have HC0 : Hid (w1.heap.size ≤ (w1.alloc (.cells #[] 24)).heap.size) := Lib.hid (by simp)
      have HT1 : Hid (∀ (W' : World), TouchB (fun k => (Value.slice (some ⟨w1.heap.size, 0, none⟩) 0 0).ownBlock = some k) (w1.alloc (.cells #[] 24)) W' → Below w.heap.size w W' ∧ Nine W' w.heap.size zeroF nilV ∧ w.heap.size < W'.heap.size) := Lib.hid (fun W' ht => by
        have hx : ∀ k, (Value.slice (some ⟨w1.heap.size, 0, none⟩) 0 0).ownBlock = some k → k = w1.heap.size := fun k hk => by simp [Value.ownBlock] at hk; exact hk.symm
        have hs := ht.size
        simp at hs
        refine ⟨below_touch HB4.out ht (fun g hg => by have := hx g hg; omega), nine_same (HN1.out.below ((Below.refl _ w1).alloc (Nat.le_refl _) _) hz1) (ht.block _ (by simp; omega) (fun hg => by have := hx _ hg; omega)), by omega⟩)
      unfold zeroF nilV at HT1
      clear HFit HVal HIn
      go_wp2_with (at_builtin; refine wpList_append_items rfl (.tmp 12) (.tmp 13) rfl rfl HE.out p l.length c l rfl rfl HI0.out HF0.out HD0.out HC0.out ?_; intro p5 c5 w5 rs5 hr5 ht5; rw [List.nil_append] at hr5 ⊢; have HR5 := Lib.hid hr5; have HT5 := Lib.hid (HT1.out _ ht5); clear hr5 ht5)
      have hz5 := HT5.out.2.2
      have HB5 := Lib.hid HT5.out.1
      have HN5 := Lib.hid HT5.out.2.1
      have HI5 := Lib.hid HR5.out.items
      have HR5' := HR5
      have HCF := Lib.hid (HFit'.out w5 _ HI5.out)
      clear HT5 HR5 HFit' HT1 HE HB4 HI0 HF0 HD0 HC0 HN1 HBB
      refine HCF.out.mono ?_
      by_cases hw : ww ≤ 2000
      · rw [if_pos hw, if_pos hw]
        rintro e w6 ⟨rfl, hb6⟩
        have HV := Lib.hid (HVal'.out hw)
        have HN6 := Lib.hid (HN5.out.below hb6 hz5)
        have hz6 : w.heap.size < w6.heap.size := Nat.lt_of_lt_of_le hz5 hb6.size
        have HBB := Lib.hid (HB5.out.trans (hb6.mono HB5.out.size))
        have HSt := Lib.hid (built_stays (z := w.heap.size) HR5'.out hb6 (fun g hg => by rcases hg with hg | hg; exact hg.elim; have := HB0.out g hg; omega) hz1)
        have hw1 : w.heap.size ≤ w1.heap.size := Nat.le_of_lt hz1
        obtain ⟨y0, y1, y2, y3, y4, y5, y6, y7, y8, yz⟩ := HN6.out
        (try dsimp only at y0 y1 y2 y3 y4 y5 y6 y7 y8)
        clear hb6 HCF HN5 HB5 HI5 HR5'
        go_wp2_with fail
        refine bodyPost_ret (v := .tuple #[.agg #[.int .i64 7, .int .i64 0, .int .i64 0, .string ⟨#[]⟩, .string ⟨#[]⟩, .int .i64 0, .slice p5 l.length c5, .string ⟨#[]⟩, .int .i64 0], .int .i64 0]) (by simp [results, Try.results32, go_sem, *]) rfl ?_
        refine HYes.out _ p5 l.length c5 ?_ rfl ((HSt.out _ ?_).mono (fun _ _ => rfl) (fun g hg => by rcases hg with (hg | hg) | hg; exact hg.elim; exact .inl hg; exact .inr (by omega))) HV.out
        · (repeat' (first | with_reducible exact HBB.out | with_reducible refine Below.setCell ?_ ?_ _ | omega | (dsimp only; omega) | (simp; done) | (simp; omega)))
        · (repeat' (first | with_reducible exact TouchB.refl _ _ | with_reducible refine TouchB.setCell ?_ _ _ ?_ | (intro _; rfl)))
      · rw [if_neg hw, if_neg hw]
        rintro e w6 ⟨rfl, hb6⟩
        have HN6 := Lib.hid (HN5.out.below hb6 hz5)
        have hz6 : w.heap.size < w6.heap.size := Nat.lt_of_lt_of_le hz5 hb6.size
        have HBB := Lib.hid (HB5.out.trans (hb6.mono HB5.out.size))
        obtain ⟨y0, y1, y2, y3, y4, y5, y6, y7, y8, yz⟩ := HN6.out
        (try dsimp only at y0 y1 y2 y3 y4 y5 y6 y7 y8)
        clear hb6 HCF HN5 HB5 HI5
        go_wp2_with fail
        refine bodyPost_ret (v := .tuple #[.agg #[.int .i64 0, .int .i64 0, .int .i64 0, .string ⟨#[]⟩, .string ⟨#[]⟩, .int .i64 0, .slice none 0 0, .string ⟨#[]⟩, .int .i64 0], .int .i64 3]) (by simp [results, Try.results32, go_sem, *]) rfl ?_
        refine HNo.out _ 3 ?_ (by omega)
        (repeat' (first | with_reducible exact HBB.out | with_reducible refine Below.setCell ?_ ?_ _ | omega | (dsimp only; omega) | (simp; done) | (simp; omega)))
    · have q0 : (255 : Int) < (l.length : Int) := by omega
      have q1 : decide ((255 : Int) < (l.length : Int)) = true := decide_eq_true q0
      obtain ⟨y0, y1, y2, y3, y4, y5, y6, y7, y8, yz⟩ := HN1.out
      (try dsimp only at y0 y1 y2 y3 y4 y5 y6 y7 y8)
      go_wp2_with fail
      refine bodyPost_ret (v := .tuple #[.agg #[.int .i64 0, .int .i64 0, .int .i64 0, .string ⟨#[]⟩, .string ⟨#[]⟩, .int .i64 0, .slice none 0 0, .string ⟨#[]⟩, .int .i64 0], .int .i64 3]) (by simp [results, Try.results32, go_sem, *]) rfl ?_
      refine HNo.out _ 3 ?_ (by omega)
      (repeat' (first | with_reducible exact HBB.out | with_reducible refine Below.setCell ?_ ?_ _ | omega | (dsimp only; omega) | (simp; done) | (simp; omega)))
theorem one_nil {n : Nat} (W : World) : ItemsIn (n := n + 1) (W.alloc (cells9 nilF nilV)) (fun g => g = W.heap.size) (.slice (some ⟨W.heap.size, 0, none⟩) 1 1) [nilT] := by
  refine ⟨_, _, rfl, Nat.le_refl _, by unfold maxLen; simp, fun _ => ⟨_, 0, rfl, rfl, fun j hj => ?_⟩⟩
  obtain rfl : j = 0 := by simp at hj; omega
  refine ⟨nilV, Cells.of fun i hi => ?_, ItemsIn.nil_any (by unfold maxLen; omega)⟩
  have hc := nine_cell W nilF nilV i
  rw [Addr.add_lit] at hc
  have hi' : i < (nineL nilF nilV).length := by simp [nineL]; omega
  have := hc (nineL nilF nilV)[i] (List.getElem?_eq_getElem hi')
  simp only [Nat.zero_add, Nat.zero_mul]
  show _ = (nineL nilF nilV)[i]?
  rw [List.getElem?_eq_getElem hi']
  simpa using this
set_option maxHeartbeats 8000000 in
theorem list33 {n : Nat} (w : World) (F : Nat → Prop) (v : Value) (l : List (Tm (n + 1))) (hF : ∀ g, F g → g < w.heap.size) (h0 : ItemsIn w F (n + 1) v l) (hs : nodesL (n + 1) l ≤ 1000000) (h1l : 1 ≤ l.length) : Calls Try.prog 33 #[v, aggV nilF nilV] w (MkPost (lisT l) F w) := by
  have h1 := h0.toAt hF
  have hB : w.heap.size ≤ w.heap.size := Nat.le_refl _
  have hlen := nodes_len (n + 1) l
  have hle : l.length ≤ 1000000 := by omega
  have hnt : nodesT (lisT l) = 1 + (nodesL (n + 1) l + 1) := by
    show 1 + nodesL (n + 1) (l ++ [nilT]) = _
    rw [nodesL_append, nodesL_cons]
    have : nodesL (n + 1) ([] : List (Tm (n + 1))) = 0 := rfl
    have h2 : nodesT (nilT (n := n)) = 1 := by
      unfold nodesT
      have : nodesL n (nilT (n := n)).items = 0 := by cases n <;> rfl
      omega
    omega
  have HFm := Lib.hid (fun W (hb : Below w.heap.size w W) => formedW W w.heap.size v l (Nat.le_trans hB hb.size) (h1.below hb hB) (by omega))
  have HFn : Hid (∀ W, Calls Try.prog 51 #[aggV nilF nilV] W (BPost true W)) := Lib.hid (fun W => by
    have := refAll n W W.heap.size nilV nilT (Nat.le_refl _) (ItemsAt.nil_any (by unfold maxLen; omega))
    rw [formed_nil] at this
    exact this)
  have HFit := Lib.hid (fun (hf : formedL (n + 1) l = true) W u (hi : ItemsAt W W.heap.size (n + 1) u (l ++ [nilT])) => fits W W.heap.size u (lisT l) (Nat.le_refl _) hi (formed_lis l hf h1l) (by omega))
  have HVal := Lib.hid (fun (hf : formedL (n + 1) l = true) hw => valid_of (formed_lis l hf h1l) hw)
  have HIn := Lib.hid (fun W (hb : Below w.heap.size w W) => h0.mono (fun g hg => hb.block g (hF g hg)) (fun _ h => h))
  have HB0 := Lib.hid hF
  obtain ⟨p, c, rfl, _, _⟩ := h1.shape
  clear h0 hF h1 hs hlen hB hnt
  unfold BPost TwoPost at *
  have HTF : Hid ((lisT l).f = lisF) := Lib.hid rfl
  rw [HTF.out] at HFit
  have hLn : (l ++ [nilT]).length = l.length + 1 := by simp
  have HNo := Lib.hid (fun w' k (hb : Below w.heap.size w w') (hk : k ≠ 0) => mk_no (T := lisT l) (F := F) (k := k) hb hk)
  have HYes : Hid (∀ w' p m c, Below w.heap.size w w' → m = (l ++ [nilT]).length → ItemsIn w' (fun g => F g ∨ w.heap.size ≤ g) (n + 1) (.slice p m c) (l ++ [nilT]) → validT (lisT l) = true → MkPost (lisT l) F w (.returned (.tuple #[aggV lisF (.slice p m c), .int .i64 0])) w') := Lib.hid (fun w' p m c hb hm hi hv => ⟨lisF, p, m, c, 0, rfl, hb, fun _ => ⟨rfl, hm, hi, hv⟩⟩)
  obtain ⟨L, hL⟩ : ∃ L : List (Tm (n + 1)), l ++ [nilT] = L := ⟨_, rfl⟩
  have HLL := Lib.hid hL
  rw [hL] at HFit HYes hLn
  have HLn := Lib.hid hLn
  clear hL hLn
  generalize formedL (n + 1) l = fl at *
  generalize wholeT (lisT l) = ww at *
  generalize validT (lisT l) = vv at *
  unfold aggV zeroF nilV lisF nilF at *
  dsimp only at *
  go_enter Try.func33, Try.ntmps33
  go_wp2_with fail
  obtain ⟨hN1, hN2, hbw, hsz⟩ := boxes2 w nilF zeroF nilV nilV
  unfold cells9 zeroF nilV nilF at hN1 hN2 hbw hsz
  dsimp only at hN1 hN2 hbw hsz
  generalize ((w.alloc (.cells #[.int .i64 8, .int .i64 0, .int .i64 0, .string ⟨#[]⟩, .string ⟨#[]⟩, .int .i64 0, .slice none 0 0, .string ⟨#[]⟩, .int .i64 0] 24)).alloc (.cells #[.int .i64 0, .int .i64 0, .int .i64 0, .string ⟨#[]⟩, .string ⟨#[]⟩, .int .i64 0, .slice none 0 0, .string ⟨#[]⟩, .int .i64 0] 24)) = W0 at *
  have hz0 : w.heap.size + 1 < W0.heap.size := by omega
  have hy0 : w.heap.size < W0.heap.size := by omega
  clear hsz
  have HNt0 := Lib.hid hN1
  have HN0 := Lib.hid hN2
  have HCW := Lib.hid (HFm.out W0 hbw)
  clear hN1 hN2 HFm
  refine HCW.out.mono ?_
  rintro e w1 ⟨rfl, hb1⟩
  have HN1 := Lib.hid (HN0.out.below hb1 hz0)
  have HNt1 := Lib.hid (HNt0.out.below hb1 hy0)
  have hz1 : w.heap.size + 1 < w1.heap.size := Nat.lt_of_lt_of_le hz0 hb1.size
  have hy1 : w.heap.size < w1.heap.size := Nat.lt_of_lt_of_le hy0 hb1.size
  have HBB := Lib.hid (hbw.trans (hb1.mono hbw.size))
  clear hb1 HCW HN0 HNt0 hbw hz0 hy0
  cases fl
  · obtain ⟨y0, y1, y2, y3, y4, y5, y6, y7, y8, yz⟩ := HN1.out
    (try dsimp only at y0 y1 y2 y3 y4 y5 y6 y7 y8)
    go_wp2_with fail
    refine bodyPost_ret (v := .tuple #[.agg #[.int .i64 0, .int .i64 0, .int .i64 0, .string ⟨#[]⟩, .string ⟨#[]⟩, .int .i64 0, .slice none 0 0, .string ⟨#[]⟩, .int .i64 0], .int .i64 2]) (by simp [results, Try.results33, go_sem, *]) rfl ?_
    refine HNo.out _ 2 ?_ (by omega)
    (repeat' (first | with_reducible exact HBB.out | with_reducible refine Below.setCell ?_ ?_ _ | omega | (dsimp only; omega) | (simp; done) | (simp; omega)))
  · have HFit' := Lib.hid (HFit.out rfl)
    have HVal' := Lib.hid (HVal.out rfl)
    have HCn := Lib.hid (HFn.out w1)
    obtain ⟨x0, x1, x2, x3, x4, x5, x6, x7, x8, xz⟩ := HNt1.out
    (try dsimp only at x0 x1 x2 x3 x4 x5 x6 x7 x8)
    go_wp2_with fail
    refine HCn.out.mono ?_
    rintro e w2 ⟨rfl, hb2⟩
    have HN2 := Lib.hid (HN1.out.below hb2 hz1)
    have HNt2 := Lib.hid (HNt1.out.below hb2 hy1)
    have hz2 : w.heap.size + 1 < w2.heap.size := Nat.lt_of_lt_of_le hz1 hb2.size
    have hy2 : w.heap.size < w2.heap.size := Nat.lt_of_lt_of_le hy1 hb2.size
    have HB2 := Lib.hid (HBB.out.trans (hb2.mono HBB.out.size))
    have q0 : ((l.length : Int) == 0) = false := by have : ¬ (l.length : Int) = 0 := by omega
                                                    simpa using this
    clear hb2 HCn HN1 HNt1 HBB HFn x0 x1 x2 x3 x4 x5 x6 x7 x8 xz hz1 hy1
    have HE : Hid (RRowF (n := n) (w2.alloc (.cells #[] 24)) (fun _ => False) w2.heap.size (.slice (some ⟨w2.heap.size, 0, none⟩) 0 0) [] []) := Lib.hid (RRowF.empty _ _ (Nat.le_refl _))
    have HB4 : Hid (Below w.heap.size w (w2.alloc (.cells #[] 24))) := Lib.hid (HB2.out.alloc HB2.out.size _)
    have HI0 := Lib.hid (HIn.out _ HB4.out)
    have HF0 : Hid (∀ g, F g → g < (w2.alloc (.cells #[] 24)).heap.size ∧ (Value.slice (some ⟨w2.heap.size, 0, none⟩) 0 0).ownBlock ≠ some g) := Lib.hid (fun g hg => ⟨Nat.lt_of_lt_of_le (HB0.out g hg) HB4.out.size, by simp [Value.ownBlock]; have := HB0.out g hg; omega⟩)
    have HD0 : Hid (([] : List (Tm (n + 1))).length + l.length ≤ 1000000000) := Lib.hid (by simp; omega)
    have HD1 : Hid (l.length + ([nilT] : List (Tm (n + 1))).length ≤ 1000000000) := Lib.hid (by simp; omega)
    have HC0 : Hid (w2.heap.size ≤ (w2.alloc (.cells #[] 24)).heap.size) := Lib.hid (by simp)
    have HT1 : Hid (∀ (W' : World), TouchB (fun k => (Value.slice (some ⟨w2.heap.size, 0, none⟩) 0 0).ownBlock = some k) (w2.alloc (.cells #[] 24)) W' → Below w.heap.size w W' ∧ Below w2.heap.size w2 W') := Lib.hid (fun W' ht => by
      have hx : ∀ k, (Value.slice (some ⟨w2.heap.size, 0, none⟩) 0 0).ownBlock = some k → w2.heap.size ≤ k := fun k hk => by simp [Value.ownBlock] at hk; omega
      exact ⟨below_touch HB4.out ht (fun g hg => by have := hx g hg; omega), below_touch ((Below.refl _ w2).alloc (Nat.le_refl _) _) ht hx⟩)
    have HT2 : Hid (∀ (W W' : World) (F : Nat → Prop) (p : Option Addr) (m c : Nat) rs (O : List (Tm (n + 1))), Below w.heap.size w W → Below w2.heap.size w2 W → RRowF W F w2.heap.size (.slice p m c) rs O → TouchB (fun k => (Value.slice p m c).ownBlock = some k) (W.alloc (.cells #[.int .i64 8, .int .i64 0, .int .i64 0, .string ⟨#[]⟩, .string ⟨#[]⟩, .int .i64 0, .slice none 0 0, .string ⟨#[]⟩, .int .i64 0] 24)) W' → Below w.heap.size w W' ∧ Below w2.heap.size w2 W') := Lib.hid (fun W W' F p m c rs O hb hb' hr ht => by
      have hx := fun k hk => row_ge hr k hk
      exact ⟨below_touch (hb.alloc hb.size _) ht (fun g hg => by have := hx g hg; omega), below_touch (hb'.alloc hb'.size _) ht hx⟩)
    have HR2 : Hid (∀ (W : World) (F : Nat → Prop) (p : Option Addr) (m c : Nat) rs (O : List (Tm (n + 1))), RRowF W F w2.heap.size (.slice p m c) rs O → RRowF (W.alloc (.cells #[.int .i64 8, .int .i64 0, .int .i64 0, .string ⟨#[]⟩, .string ⟨#[]⟩, .int .i64 0, .slice none 0 0, .string ⟨#[]⟩, .int .i64 0] 24)) F w2.heap.size (.slice p m c) rs O ∧ (∀ g, g = W.heap.size → g < (W.alloc (.cells #[.int .i64 8, .int .i64 0, .int .i64 0, .string ⟨#[]⟩, .string ⟨#[]⟩, .int .i64 0, .slice none 0 0, .string ⟨#[]⟩, .int .i64 0] 24)).heap.size ∧ (Value.slice p m c).ownBlock ≠ some g) ∧ ItemsIn (n := n + 1) (W.alloc (.cells #[.int .i64 8, .int .i64 0, .int .i64 0, .string ⟨#[]⟩, .string ⟨#[]⟩, .int .i64 0, .slice none 0 0, .string ⟨#[]⟩, .int .i64 0] 24)) (fun g => g = W.heap.size) (.slice (some ⟨W.heap.size, 0, none⟩) 1 1) [nilT]) := Lib.hid (fun W F p m c rs O hr => ⟨hr.below ((Below.refl _ W).alloc (Nat.le_refl _) _), fun g hg => ⟨by subst hg; simp, fun e => by have := own_block_lt hr.own g e; omega⟩, one_nil W⟩)
    clear HFit HVal HIn
    have HNN : Hid (∀ W, Below w2.heap.size w2 W → Nine W (w.heap.size + 1) ⟨0, 0, 0, ⟨#[]⟩, ⟨#[]⟩, 0, ⟨#[]⟩, 0⟩ (.slice none 0 0) ∧ Nine W w.heap.size ⟨8, 0, 0, ⟨#[]⟩, ⟨#[]⟩, 0, ⟨#[]⟩, 0⟩ (.slice none 0 0)) := Lib.hid (fun W hb => ⟨HN2.out.below hb hz2, HNt2.out.below hb hy2⟩)
    clear HN2 HNt2
    go_wp2_with (first
      | (at_builtin; refine wpList_append_items rfl (.tmp 23) (.tmp 24) rfl rfl HE.out p l.length c l rfl rfl HI0.out HF0.out HD0.out HC0.out ?_; intro p5 c5 w5 rs5 hr5 ht5; rw [List.nil_append] at hr5 ⊢; have HR5 := Lib.hid hr5; have HT5 := Lib.hid (HT1.out _ ht5); have HX5 := Lib.hid (HR2.out _ _ _ _ _ _ _ hr5); have HS5 : Hid (w2.heap.size ≤ (w5.alloc (.cells #[.int .i64 8, .int .i64 0, .int .i64 0, .string ⟨#[]⟩, .string ⟨#[]⟩, .int .i64 0, .slice none 0 0, .string ⟨#[]⟩, .int .i64 0] 24)).heap.size) := Lib.hid (Nat.le_trans HT5.out.2.size (by simp)); obtain ⟨x0, x1, x2, x3, x4, x5, x6, x7, x8, xz⟩ := (HNN.out w5 HT5.out.2).2; (try dsimp only at x0 x1 x2 x3 x4 x5 x6 x7 x8); clear hr5 ht5)
      | (at_builtin; refine wpList_append_items rfl (.tmp 33) (.tmp 35) rfl rfl HX5.out.1 (some ⟨w5.heap.size, 0, none⟩) 1 1 [nilT] rfl rfl HX5.out.2.2 HX5.out.2.1 HD1.out HS5.out ?_; intro p6 c6 w6 rs6 hr6 ht6; rw [HLL.out] at hr6 ⊢; have HR6 := Lib.hid hr6; have HT6 := Lib.hid (HT2.out _ _ _ _ _ _ _ _ HT5.out.1 HT5.out.2 HR5.out ht6); clear hr6 ht6))
    have HI6 := Lib.hid HR6.out.items
    have HCF := Lib.hid (HFit'.out w6 _ HI6.out)
    have hz6 : w.heap.size + 1 < w6.heap.size := Nat.lt_of_lt_of_le hz2 HT6.out.2.size
    have H56 : Hid (w2.heap.size ≤ w5.heap.size) := Lib.hid HT5.out.2.size
    clear HFit' HT1 HT2 HR2 HE HB4 HI0 HF0 HD0 HC0 HD1 HX5 HS5 HR5 HT5 x0 x1 x2 x3 x4 x5 x6 x7 x8 xz
    refine HCF.out.mono ?_
    by_cases hw : ww ≤ 2000
    · rw [if_pos hw, if_pos hw]
      rintro e w7 ⟨rfl, hb7⟩
      have HV := Lib.hid (HVal'.out hw)
      have HN7 := Lib.hid ((HNN.out w6 HT6.out.2).1.below hb7 hz6)
      have HBB := Lib.hid (HT6.out.1.trans (hb7.mono HT6.out.1.size))
      have HSt := Lib.hid (built_stays (z := w.heap.size + 1) HR6.out hb7 (fun g hg => by
        rcases hg with (hg | hg) | hg
        · exact hg.elim
        · have := HB0.out g hg; omega
        · have := H56.out; have hg2 : g = w5.heap.size := hg; omega) hz2)
      obtain ⟨y0, y1, y2, y3, y4, y5, y6, y7, y8, yz⟩ := HN7.out
      (try dsimp only at y0 y1 y2 y3 y4 y5 y6 y7 y8)
      clear hb7 HCF HI6 HR6 HNN HT6
      go_wp2_with fail
      refine bodyPost_ret (v := .tuple #[.agg #[.int .i64 9, .int .i64 0, .int .i64 0, .string ⟨#[]⟩, .string ⟨#[]⟩, .int .i64 0, .slice p6 L.length c6, .string ⟨#[]⟩, .int .i64 0], .int .i64 0]) (by simp [results, Try.results33, go_sem, *]) rfl ?_
      refine HYes.out _ p6 L.length c6 ?_ rfl ((HSt.out _ ?_).mono (fun _ _ => rfl) (fun g hg => by rcases hg with ((hg | hg) | hg) | hg; exact hg.elim; exact .inl hg; exact .inr (by have hg2 : g = w5.heap.size := hg; have := H56.out; omega); exact .inr (by omega))) HV.out
      · (repeat' (first | with_reducible exact HBB.out | with_reducible refine Below.setCell ?_ ?_ _ | omega | (dsimp only; omega) | (simp; done) | (simp; omega)))
      · (repeat' (first | with_reducible exact TouchB.refl _ _ | with_reducible refine TouchB.setCell ?_ _ _ ?_ | (intro _; rfl)))
    · rw [if_neg hw, if_neg hw]
      rintro e w7 ⟨rfl, hb7⟩
      have HN7 := Lib.hid ((HNN.out w6 HT6.out.2).1.below hb7 hz6)
      have HBB := Lib.hid (HT6.out.1.trans (hb7.mono HT6.out.1.size))
      obtain ⟨y0, y1, y2, y3, y4, y5, y6, y7, y8, yz⟩ := HN7.out
      (try dsimp only at y0 y1 y2 y3 y4 y5 y6 y7 y8)
      clear hb7 HCF HI6 HR6 HNN HT6
      go_wp2_with fail
      refine bodyPost_ret (v := .tuple #[.agg #[.int .i64 0, .int .i64 0, .int .i64 0, .string ⟨#[]⟩, .string ⟨#[]⟩, .int .i64 0, .slice none 0 0, .string ⟨#[]⟩, .int .i64 0], .int .i64 3]) (by simp [results, Try.results33, go_sem, *]) rfl ?_
      refine HNo.out _ 3 ?_ (by omega)
      (repeat' (first | with_reducible exact HBB.out | with_reducible refine Below.setCell ?_ ?_ _ | omega | (dsimp only; omega) | (simp; done) | (simp; omega)))
end Go.Proofs.Ythgfdpamnepnfaa.tm
/- append(s, l...) within a region that draws its order. Conditions: as said. -/
namespace Go.Proofs.Ythgfdpamnepnfaa.tm
open Go.RowKit mem names
set_option linter.unusedVariables false
set_option linter.unusedSimpArgs false
set_option maxHeartbeats 1000000
set_option maxRecDepth 100000

variable {n : Nat} {w wr w' : World} {F F' : Nat → Prop} {base : Nat} {v v' : Value} {rs rs' : List (TF × Value)} {O : List (Tm (n + 1))}
theorem wp_append_items {o : Oper} {a : Act} {K : Act → World → Prop} {Q : Exit → Act → World → Prop} (s x : Operand)
    (ho : o.op = .call { callee := .builtin .append, args := #[s, x], argTypes := #[22, 22] })
    (hs : a.eval s = v) (hr : RRowF wr F base v rs O) (p : Option Addr) (m c : Nat) (l : List (Tm (n + 1))) (hx : a.eval x = .slice p m c) (hm : l.length = m) (hit : ItemsIn wr F' (n + 1) (.slice p m c) l) (hF' : ∀ g, F' g → g < wr.heap.size ∧ v.ownBlock ≠ some g)
    (hbd : O.length + l.length ≤ 1000000000) (hbase : base ≤ wr.heap.size)
    (h : ∀ p' c' w' rs', RRowF w' (fun g => F g ∨ F' g) base (.slice p' (O ++ l).length c') rs' (O ++ l) → TouchB (fun k => v.ownBlock = some k) wr w' → ((Value.slice p' (O ++ l).length c').ownBlock = v.ownBlock ∨ (Value.slice p' (O ++ l).length c').ownBlock = some wr.heap.size) → K (a.put o.dst (.slice p' (O ++ l).length c')) w') : Oper.wp Try.prog o a wr K Q := by
  subst hm
  obtain ⟨i0, hi0, hz0, hz1, hz2⟩ := info_parts info24
  have key : ∀ (ad : Addr) (mm : Nat) (news : List Value) (rs2 : List (TF × Value)), p = some ad → l.length = mm → news = flatR rs2 → rs2.length = l.length → (∀ j, (h1 : j < rs2.length) → (h2 : j < l.length) → rs2[j].1 = l[j].f ∧ ItemsIn wr F' n rs2[j].2 l[j].items) → (∀ j u, news[j]? = some u → wr.cell? (ad.add j) = some u) → (∀ u ∈ news, u.oneCell' = true) → Oper.wp Try.prog o a wr K Q := by
    intro ad mm news rs2 hp hmm hn hrl hrs hc h1
    subst hp hmm hn
    obtain ⟨v2, w2, hrun, hown, hg, hv0, hb⟩ := run_append_own_at (P := Try.prog) wr base 22 o.type 24 i0 (.agg #[.int .i64 0, .int .i64 0, .int .i64 0, .string ⟨#[]⟩, .string ⟨#[]⟩, .int .i64 0, .slice none 0 0, .string ⟨#[]⟩, .int .i64 0]) 9 112 Try.underlying22 hi0 hz0 hz1 hz2 rfl (by decide) v O.length (flatR rs) hr.own ad l.length c (flatR rs2) (by rw [flatR_len, hrl]) hc h1 (by unfold maxLen; omega) (by omega) hbase
    have hp := hr.push hrl hrs hF' hown hg hb
    obtain ⟨p', c', rfl⟩ := hp.shape
    unfold Oper.wp execOp
    simp only [ho, resolve, invoke, builtin, Sem.run_bind, Sem.run_pure, Result.andThen_ok, List.map_toArray, List.map_cons, List.map_nil, hs, hx, hrun]
    exact h p' c' w2 _ hp ((TouchB.refl _ _).grown hg (fun k hk _ => hk)) hb
  by_cases hn : l = []
  · subst hn
    cases p with
    | none =>
      have hrun := run_append_none24 (P := Try.prog) (w := wr) base 22 o.type 24 i0 9 c Try.underlying22 hi0 v O.length (flatR rs) hr.own
      obtain ⟨p', c', rfl⟩ := hr.shape
      have := h p' c' wr rs (by rw [List.append_nil]; exact ⟨hr.own, hr.len, fun j a b => ⟨(hr.elt j a b).1, (hr.elt j a b).2.mono (fun _ _ => rfl) (fun _ h => .inl h)⟩, fun g hg => hg.elim (hr.inh g) (hF' g)⟩) (TouchB.refl _ _) (.inl (by rw [List.append_nil]))
      rw [List.append_nil] at this
      unfold Oper.wp execOp
      simp only [List.length_nil] at hx
      simp only [ho, resolve, invoke, builtin, Sem.run_bind, Sem.run_pure, Result.andThen_ok, List.map_toArray, List.map_cons, List.map_nil, hs, hx, hrun]
      exact this
    | some ad => exact key ad 0 [] [] rfl rfl rfl rfl (fun j h1 => by simp at h1) (fun j u hj => by simp at hj) (by simp)
  · have hpp : ∃ g o, p = some ⟨g, o, none⟩ := by
      obtain ⟨p0, c0, e, h1, h2, h3⟩ := hit
      simp only [Value.slice.injEq, true_and] at e
      obtain ⟨g, o, e', _⟩ := h3 hn
      exact ⟨g, o, by rw [e.1, e']⟩
    obtain ⟨g, o', rfl⟩ := hpp
    obtain ⟨rs2, hrl, hrs, hcells, hone⟩ := hit.rows
    exact key ⟨g, o', none⟩ l.length (flatR rs2) rs2 rfl rfl rfl hrl hrs hcells hone
theorem step_append_items {ops : Array Oper} {o : Oper} {a : Act} {K : Act → World → Prop} {Q : Exit → Act → World → Prop} {E : Prop} (hgd : o.guard = none) (s x : Operand)
    (ho : o.op = .call { callee := .builtin .append, args := #[s, x], argTypes := #[22, 22] })
    (hs : a.eval s = v) (hr : RRowF wr F base v rs O) (p : Option Addr) (m c : Nat) (l : List (Tm (n + 1))) (hx : a.eval x = .slice p m c) (hm : l.length = m) (hit : ItemsIn wr F' (n + 1) (.slice p m c) l) (hF' : ∀ g, F' g → g < wr.heap.size ∧ v.ownBlock ≠ some g)
    (hbd : O.length + l.length ≤ 1000000000) (hbase : base ≤ wr.heap.size)
    (h : ∀ p' c' w' rs', RRowF w' (fun g => F g ∨ F' g) base (.slice p' (O ++ l).length c') rs' (O ++ l) → TouchB (fun k => v.ownBlock = some k) wr w' → ((Value.slice p' (O ++ l).length c').ownBlock = v.ownBlock ∨ (Value.slice p' (O ++ l).length c').ownBlock = some wr.heap.size) → K (a.put o.dst (.slice p' (O ++ l).length c')) w') :
    if Region.wanted o (yielded ops a.tmps) = true then Oper.wp Try.prog o a wr K Q else E := by
  have hw : Region.wanted o (yielded ops a.tmps) = true := by simp [Region.wanted, hgd]
  rw [if_pos hw]
  exact wp_append_items s x ho hs hr p m c l hx hm hit hF' hbd hbase h
/-- transport through what a region makes -/
theorem RRowF.empty' (W : World) (base z : Nat) (hz : z = W.heap.size) (hb : base ≤ W.heap.size) : RRowF (n := n) (W.alloc (.cells #[] 24)) (fun _ => False) base (.slice (some ⟨z, 0, none⟩) 0 0) [] [] := by subst hz; exact RRowF.empty W base hb
theorem RRowF.allocd (h : RRowF wr F base v rs O) (o : Obj) : RRowF (wr.alloc o) F base v rs O := h.below ((Below.refl _ _).alloc (Nat.le_refl _) _)
theorem RRowF.drewd (h : RRowF wr F base v rs O) : RRowF wr.drew F base v rs O := h.below ((Below.refl _ _).drewN 1)
theorem belowA (h : Below w.heap.size w wr) (o : Obj) : Below w.heap.size w (wr.alloc o) := h.alloc h.size _
theorem belowD (h : Below w.heap.size w wr) : Below w.heap.size w wr.drew := h.drewN 1
theorem blk_new {W : World} {o : Obj} {z : Nat} (hz : z = W.heap.size) : (W.alloc o).heap[z]? = some o := by
  subst hz
  exact (MapKept.heap_alloc W o).1
theorem blk_alloc {W : World} {o : Obj} {z : Nat} (h : W.heap[z]? = some o) (o' : Obj) : (W.alloc o').heap[z]? = some o := by
  have hz := (Array.getElem?_eq_some_iff.1 h).1
  rw [Below.heap_alloc _ _ _ hz]; exact h
theorem blk_drew {W : World} {o : Obj} {z : Nat} (h : W.heap[z]? = some o) : W.drew.heap[z]? = some o := h
theorem blk_touch {W W' : World} {S : Nat → Prop} {o : Obj} {z : Nat} (h : W.heap[z]? = some o) (ht : TouchB S W W') (hn : ¬ S z) : W'.heap[z]? = some o :=
  (ht.block z (Array.getElem?_eq_some_iff.1 h).1 hn).trans h
theorem blk_below {W W' : World} {o : Obj} {z : Nat} (h : W.heap[z]? = some o) (hb : Below W.heap.size W W') : W'.heap[z]? = some o :=
  (hb.block z (Array.getElem?_eq_some_iff.1 h).1).trans h
theorem one_blk_in {W : World} {F : Nat → Prop} {z : Nat} {t : Tm (n + 1)} {f : TF} {u : Value} (hf : t.f = f) (h : W.heap[z]? = some (cells9 f u)) (hi : ItemsIn W F n u t.items) : ItemsIn W (fun g => F g ∨ g = z) (n + 1) (.slice (some ⟨z, 0, none⟩) 1 1) [t] := by
  subst hf
  refine ⟨_, _, rfl, Nat.le_refl _, by unfold maxLen; simp, fun _ => ⟨_, 0, rfl, .inr rfl, fun j hj => ?_⟩⟩
  obtain rfl : j = 0 := by simp at hj; omega
  refine ⟨u, ?_, hi.mono (fun _ _ => rfl) (fun _ h => .inl h)⟩
  have hn := nine_of h
  exact ⟨hn.c0, hn.c1, hn.c2, hn.c3, hn.c4, hn.c5, hn.c6, hn.c7, hn.c8⟩
theorem RRowF.imp (h : RRowF wr F base v rs O) (hF : ∀ g, F g → F' g) (hi : ∀ g, F' g → g < wr.heap.size ∧ v.ownBlock ≠ some g) : RRowF wr F' base v rs O :=
  ⟨h.own, h.len, fun j a b => ⟨(h.elt j a b).1, (h.elt j a b).2.mono (fun _ _ => rfl) hF⟩, hi⟩
theorem RRowF.of_empty {zE : Nat} (hE : wr.heap[zE]? = some (.cells #[] 24)) (hb : base ≤ zE) : RRowF (n := n) wr (fun _ => False) base (.slice (some ⟨zE, 0, none⟩) 0 0) [] [] :=
  ⟨⟨rfl, .inr ⟨zE, 0, #[], rfl, hb, hE, Nat.le_refl _, by unfold maxLen; omega, rfl, rfl⟩⟩, rfl, fun j h => by simp at h, fun g hg => hg.elim⟩
/-- the first append of a region: to an empty list -/
theorem stepB {ops : Array Oper} {o : Oper} {a : Act} {K : Act → World → Prop} {Q : Exit → Act → World → Prop} {E : Prop} (hgd : o.guard = none) (s x : Operand)
    (ho : o.op = .call { callee := .builtin .append, args := #[s, x], argTypes := #[22, 22] }) (zE : Nat)
    (hs : a.eval s = .slice (some ⟨zE, 0, none⟩) 0 0) (hE : wr.heap[zE]? = some (.cells #[] 24)) (base B : Nat) (hbz : base ≤ zE) (hBB : B ≤ base) (p : Option Addr) (m c : Nat) (l : List (Tm (n + 1))) (hx : a.eval x = .slice p m c) (hm : l.length = m) (hit : ItemsIn wr (fun g => g < B) (n + 1) (.slice p m c) l)
    (hbd : l.length ≤ 1000000) (hsz : base ≤ wr.heap.size)
    (h : ∀ p' c' w' rs', RRowF w' (fun g => g < B) base (.slice p' l.length c') rs' l → (∀ g, g < wr.heap.size → g ≠ zE → (Value.slice p' l.length c').ownBlock ≠ some g) → TouchB (fun k => k = zE) wr w' → K (a.put o.dst (.slice p' l.length c')) w') :
    if Region.wanted o (yielded ops a.tmps) = true then Oper.wp Try.prog o a wr K Q else E := by
  have hzE := (Array.getElem?_eq_some_iff.1 hE).1
  refine step_append_items hgd s x ho hs (RRowF.of_empty (n := n) hE hbz) p m c l hx hm hit (fun g hg => ⟨by omega, by simp [Value.ownBlock]; omega⟩) (by simp; omega) hsz ?_
  intro p' c' w' rs' hr ht hb
  rw [List.nil_append] at hr hb ⊢
  have ht' : TouchB (fun k => k = zE) wr w' := ht.mono (fun i _ hi => by simp [Value.ownBlock] at hi; omega)
  refine h p' c' w' rs' (hr.imp (fun g hg => hg.elim (fun f => f.elim) id) (fun g hg => hr.inh g (.inr hg))) (fun g h1 h2 e => ?_) ht'
  rw [e] at hb
  rcases hb with hb | hb
  · simp [Value.ownBlock] at hb; omega
  · simp only [Option.some.injEq] at hb; omega
/-- the second: one term more -/
theorem stepD {ops : Array Oper} {o : Oper} {a : Act} {K : Act → World → Prop} {Q : Exit → Act → World → Prop} {E : Prop} {w5 : World} {p5 : Option Addr} {m5 c5 : Nat} (hgd : o.guard = none) (s x : Operand)
    (ho : o.op = .call { callee := .builtin .append, args := #[s, x], argTypes := #[22, 22] }) (B : Nat)
    (hs : a.eval s = .slice p5 m5 c5) (hr5 : RRowF w5 (fun g => g < B) base (.slice p5 m5 c5) rs O) (hb : Below w5.heap.size w5 wr) (zc : Nat) (hx : a.eval x = .slice (some ⟨zc, 0, none⟩) 1 1) {t : Tm (n + 1)} {f : TF} {u : Value} (hf : t.f = f)
    (hc : wr.heap[zc]? = some (cells9 f u)) (hne : (Value.slice p5 m5 c5).ownBlock ≠ some zc) (hBB : B ≤ base) (hi : ItemsIn wr (fun g => g < B) n u t.items) (hbd : O.length ≤ 1000000) (hsz : base ≤ wr.heap.size)
    (h : ∀ p' c' w' rs', RRowF w' (fun g => g < B ∨ g = zc) base (.slice p' (O ++ [t]).length c') rs' (O ++ [t]) → (∀ g, g < wr.heap.size → (Value.slice p5 m5 c5).ownBlock ≠ some g → (Value.slice p' (O ++ [t]).length c').ownBlock ≠ some g) → TouchB (fun k => (Value.slice p5 m5 c5).ownBlock = some k) wr w' → K (a.put o.dst (.slice p' (O ++ [t]).length c')) w') :
    if Region.wanted o (yielded ops a.tmps) = true then Oper.wp Try.prog o a wr K Q else E := by
  refine step_append_items hgd s x ho hs (hr5.below hb) (some ⟨zc, 0, none⟩) 1 1 [t] hx rfl (one_blk_in hf hc hi) (fun g hg => ?_) (by simp; omega) hsz ?_
  · rcases hg with hg | rfl
    · exact ⟨by omega, fun e => by have := row_ge hr5 g e; omega⟩
    · exact ⟨(Array.getElem?_eq_some_iff.1 hc).1, hne⟩
  · intro p' c' w' rs' hr ht hb
    refine h p' c' w' rs' (hr.imp (fun g hg => hg.elim .inl id) (fun g hg => hr.inh g (.inr hg))) (fun g h1 h2 e => ?_) ht
    rw [e] at hb
    rcases hb with hb | hb
    · exact h2 hb.symm
    · simp only [Option.some.injEq] at hb; omega
theorem ItemsIn.bounded : ∀ {n : Nat} {w : World} {F : Nat → Prop} {v : Value} {l : List (Tm n)}, ItemsIn w F n v l → ItemsIn w (fun g => F g ∧ g < w.heap.size) n v l := by
  intro n
  induction n with
  | zero => intro w F v l h; exact h
  | succ n ih =>
    intro w F v l h
    obtain ⟨p, c, e, h1, h2, h3⟩ := h
    refine ⟨p, c, e, h1, h2, fun hn => ?_⟩
    obtain ⟨g, o, e', hg, hc⟩ := h3 hn
    refine ⟨g, o, e', ⟨hg, ?_⟩, fun j hj => ?_⟩
    · obtain ⟨u, hu, _⟩ := hc 0 (List.length_pos_iff.2 hn)
      exact World.block_lt_of_cell? w _ hu.c0
    · obtain ⟨u, hu, hi⟩ := hc j hj
      exact ⟨u, hu, ih hi⟩
/-- a list that was made stays where a block beside it is written -/
theorem stays_at {W W' : World} {n : Nat} {F : Nat → Prop} {v : Value} {l : List (Tm n)} (h : ItemsIn W F n v l) {z : Nat} (ht : TouchB (fun k => k = z) W W') (hz : W.heap.size ≤ z ∨ ¬ F z) : ItemsAt W' W'.heap.size n v l := by
  have hb := h.bounded
  refine (hb.mono (F' := fun g => F g ∧ g < W.heap.size) (fun g hg => ht.block g hg.2 (fun e => ?_)) (fun _ h => h)).toAt (fun g hg => Nat.lt_of_lt_of_le hg.2 ht.size)
  have e' : g = z := e
  subst e'
  rcases hz with hz | hz
  · omega
  · exact hz hg.1
end Go.Proofs.Ythgfdpamnepnfaa.tm
/- Leaves of the walk of OrderInside. Conditions: as said. -/
namespace Go.Proofs.Ythgfdpamnepnfaa.tm
open Go.RowKit mem names
set_option linter.unusedVariables false
set_option linter.unusedSimpArgs false
set_option maxHeartbeats 4000000
set_option maxRecDepth 100000

theorem RRowF.set {n : Nat} {wr : World} {F : Nat → Prop} {base b m c : Nat} {rs : List (TF × Value)} {O : List (Tm (n + 1))} (h : RRowF wr F base (.slice (some ⟨b, 0, none⟩) m c) rs O) (hm : O.length = m) {k : Nat} (hk : k < O.length) {t : Tm (n + 1)} {f : TF} {u : Value} (hf : t.f = f) (hi : ItemsIn wr F n u t.items) : RRowF (set9 wr b (k * 9) f u) F base (.slice (some ⟨b, 0, none⟩) m c) (rs.set k (f, u)) (O.set k t) := by
  subst hm
  have hlen := h.len
  have ht := set9_touch wr b (k * 9) f u
  have hs : ∀ g, F g → (set9 wr b (k * 9) f u).heap[g]? = wr.heap[g]? := fun g hg => ht.block g (h.inh g hg).1 (fun e => (h.inh g hg).2 (by subst e; rfl))
  refine ⟨?_, by simp [hlen], fun j h1 h2 => ?_, fun g hg => ⟨Nat.lt_of_lt_of_le (h.inh g hg).1 ht.size, (h.inh g hg).2⟩⟩
  · rw [List.length_set]
    exact set9_row h.own k (by omega) f u
  · by_cases hj : k = j
    · subst hj
      rw [List.getElem_set_self, List.getElem_set_self]
      exact ⟨hf.symm, hi.mono hs (fun _ h => h)⟩
    · rw [List.getElem_set_ne hj, List.getElem_set_ne hj]
      have := h.elt j (by simpa using h1) (by simpa using h2)
      exact ⟨this.1, this.2.mono hs (fun _ h => h)⟩
theorem RRowF.cellAt {n : Nat} {wr : World} {F : Nat → Prop} {base b m c : Nat} {rs : List (TF × Value)} {O : List (Tm (n + 1))} (h : RRowF wr F base (.slice (some ⟨b, 0, none⟩) m c) rs O) (hm : O.length = m) {k : Nat} (hk : k < O.length) : ∃ f u, Cells wr b (k * 9) f u := by
  subst hm
  have hj : k < rs.length := by have := h.len; omega
  exact ⟨_, _, row_cells h.own (by have := h.len; omega) k hj⟩
theorem RRowF.addr {n : Nat} {wr : World} {F : Nat → Prop} {base : Nat} {v : Value} {rs : List (TF × Value)} {O : List (Tm (n + 1))} (h : RRowF wr F base v rs O) (hO : 0 < O.length) : ∃ b c, v = .slice (some ⟨b, 0, none⟩) O.length c := by
  rcases h.own.2 with ⟨rfl, h0⟩ | ⟨g, cap, cur, rfl, _⟩
  · omega
  · exact ⟨_, _, rfl⟩
def MadeIn {n : Nat} (T : Tm (n + 1)) (F : Nat → Prop) (W : World) (f : TF) (v : Value) (k : Int) : Prop := k = 0 → f = T.f ∧ ItemsIn W F n v T.items ∧ validT T = true
theorem MadeIn.below {n : Nat} {T : Tm (n + 1)} {F : Nat → Prop} {W W' : World} {f : TF} {v : Value} {k : Int} (h : MadeIn T F W f v k) (hb : Below W.heap.size W W') : MadeIn T F W' f v k := by
  intro e
  obtain ⟨a, b, c⟩ := h e
  exact ⟨a, b.bounded.mono (fun g hg => hb.block g hg.2) (fun g hg => hg.1), c⟩
theorem MadeIn.touch {n : Nat} {T : Tm (n + 1)} {F : Nat → Prop} {W W' : World} {f : TF} {v : Value} {k : Int} {z : Nat} (h : MadeIn T F W f v k) (ht : TouchB (fun k => k = z) W W') (hz : ¬ F z) : MadeIn T F W' f v k := by
  intro e
  obtain ⟨a, b, c⟩ := h e
  exact ⟨a, b.bounded.mono (fun g hg => ht.block g hg.2 (fun e => hz (e ▸ hg.1))) (fun g hg => hg.1), c⟩
theorem MadeIn.cmp {n : Nat} {T1 T2 : Tm (n + 1)} {F1 F2 : Nat → Prop} {W : World} {f1 f2 : TF} {v1 v2 : Value} {k1 k2 : Int} (h1 : MadeIn T1 F1 W f1 v1 k1) (h2 : MadeIn T2 F2 W f2 v2 k2) (s1 : nodesT T1 ≤ 2000000) (s2 : nodesT T2 ≤ 2000000) {r : Int} (hc : validT T1 = true → validT T2 = true → cmpV T1 T2 = r) (e1 : k1 = 0) (e2 : k2 = 0) (W' : World) (hb : Below W.heap.size W W') : Calls Try.prog 14 #[aggV f1 v1, aggV f2 v2] W' (IPostC r W') := by
  obtain ⟨a1, b1, c1⟩ := (h1.below hb) e1
  obtain ⟨a2, b2, c2⟩ := (h2.below hb) e2
  have := Compare W' W'.heap.size v1 v2 T1 T2 (Nat.le_refl _) (b1.bounded.toAt (fun g hg => hg.2)) (b2.bounded.toAt (fun g hg => hg.2)) (by omega) (by omega)
  rw [hc c1 c2] at this
  rw [a1, a2]
  exact this
theorem MadeIn.of {n : Nat} {T : Tm (n + 1)} {F : Nat → Prop} {W : World} {f : TF} {p : Option Addr} {m c : Nat} {k : Int} (h : k = 0 → f = T.f ∧ m = T.items.length ∧ ItemsIn W F n (.slice p m c) T.items ∧ validT T = true) : MadeIn T F W f (.slice p m c) k := by
  intro e
  obtain ⟨a, _, b, c⟩ := h e
  exact ⟨a, b, c⟩
theorem nodes_set {n : Nat} (t : Tm (n + 1)) : ∀ (l : List (Tm (n + 1))) (k : Nat), nodesL (n + 1) (l.set k t) ≤ nodesL (n + 1) l + nodesT t := by
  intro l
  induction l with
  | nil => intro k; simp [nodesL]
  | cons a l ih =>
    intro k
    cases k with
    | zero => rw [List.set_cons_zero, nodesL_cons, nodesL_cons]; omega
    | succ k => rw [List.set_cons_succ, nodesL_cons, nodesL_cons]; have := ih k; omega
theorem nodes_nil {n : Nat} : nodesT (nilT (n := n)) = 1 := by
  have : nodesL n ([] : List (Tm n)) = 0 := by cases n <;> rfl
  show 1 + nodesL n [] = 1
  omega
theorem nine_resets {w : World} {z : Nat} {f0 : TF} {v0 : Value} (f : TF) (v : Value) (h : w.heap[z]? = some (cells9 f0 v0)) : Nine (((((((((w.setCell ⟨z, 0, none⟩ (.int .i64 f.kind)).setCell ⟨z, 1, none⟩ (.int .i64 f.int)).setCell ⟨z, 2, none⟩ (.int .i64 f.gen)).setCell ⟨z, 3, none⟩ (.string f.name)).setCell ⟨z, 4, none⟩ (.string f.func)).setCell ⟨z, 5, none⟩ (.int .i64 f.arity)).setCell ⟨z, 6, none⟩ v).setCell ⟨z, 7, none⟩ (.string f.bytes)).setCell ⟨z, 8, none⟩ (.int .i64 f.bits)) z f v := by
  unfold cells9 at h
  have h := set_blk (o := 0) (u := .int .i64 f.kind) h
  have h := set_blk (o := 1) (u := .int .i64 f.int) h
  have h := set_blk (o := 2) (u := .int .i64 f.gen) h
  have h := set_blk (o := 3) (u := .string f.name) h
  have h := set_blk (o := 4) (u := .string f.func) h
  have h := set_blk (o := 5) (u := .int .i64 f.arity) h
  have h := set_blk (o := 6) (u := v) h
  have h := set_blk (o := 7) (u := .string f.bytes) h
  have h := set_blk (o := 8) (u := .int .i64 f.bits) h
  refine nine_of (h.trans ?_)
  simp [cells9]
/-- what a store of a whole term leaves -/
theorem store_slot {w : World} {z B : Nat} {f0 : TF} {v0 : Value} (f : TF) (v : Value) (h : w.heap[z]? = some (cells9 f0 v0)) (hB : B ≤ z) : Nine (((((((((w.setCell ⟨z, 0, none⟩ (.int .i64 f.kind)).setCell ⟨z, 1, none⟩ (.int .i64 f.int)).setCell ⟨z, 2, none⟩ (.int .i64 f.gen)).setCell ⟨z, 3, none⟩ (.string f.name)).setCell ⟨z, 4, none⟩ (.string f.func)).setCell ⟨z, 5, none⟩ (.int .i64 f.arity)).setCell ⟨z, 6, none⟩ v).setCell ⟨z, 7, none⟩ (.string f.bytes)).setCell ⟨z, 8, none⟩ (.int .i64 f.bits)) z f v ∧ TouchB (fun k => k = z) w (((((((((w.setCell ⟨z, 0, none⟩ (.int .i64 f.kind)).setCell ⟨z, 1, none⟩ (.int .i64 f.int)).setCell ⟨z, 2, none⟩ (.int .i64 f.gen)).setCell ⟨z, 3, none⟩ (.string f.name)).setCell ⟨z, 4, none⟩ (.string f.func)).setCell ⟨z, 5, none⟩ (.int .i64 f.arity)).setCell ⟨z, 6, none⟩ v).setCell ⟨z, 7, none⟩ (.string f.bytes)).setCell ⟨z, 8, none⟩ (.int .i64 f.bits)) ∧ Below B w (((((((((w.setCell ⟨z, 0, none⟩ (.int .i64 f.kind)).setCell ⟨z, 1, none⟩ (.int .i64 f.int)).setCell ⟨z, 2, none⟩ (.int .i64 f.gen)).setCell ⟨z, 3, none⟩ (.string f.name)).setCell ⟨z, 4, none⟩ (.string f.func)).setCell ⟨z, 5, none⟩ (.int .i64 f.arity)).setCell ⟨z, 6, none⟩ v).setCell ⟨z, 7, none⟩ (.string f.bytes)).setCell ⟨z, 8, none⟩ (.int .i64 f.bits)) :=
  ⟨nine_resets f v h, touch_sets f v (TouchB.refl _ _) rfl, below_sets f v (Below.refl _ _) hB⟩
def TwoRel2 {n : Nat} (T : Tm (n + 1)) (w : World) (x9 x10 : Value) (wc : World) : Prop :=
  ∃ z9 f p m c k, x9 = .pointer (some ⟨z9, 0, none⟩) ∧ x10 = .int .i64 k ∧ Nine wc z9 f (.slice p m c) ∧ z9 < wc.heap.size ∧ w.heap.size ≤ z9 ∧ Below w.heap.size w wc ∧ MadeIn T (fun _ => True) wc f (.slice p m c) k
theorem leafA {n : Nat} {T : Tm (n + 1)} {w3 w7 : World} {F : Nat → Prop} (f : TF) {p : Option Addr} {m c : Nat} {k : Int} {z : Nat} (hG : w7.heap[z]? = some (.cells #[.int .i64 0, .int .i64 0, .int .i64 0, .string ⟨#[]⟩, .string ⟨#[]⟩, .int .i64 0, .slice none 0 0, .string ⟨#[]⟩, .int .i64 0] 24)) (hz3 : w3.heap.size ≤ z) (hF : ¬ F z) (hb : Below w3.heap.size w3 w7) (hk : k = 0 → f = T.f ∧ m = T.items.length ∧ ItemsIn w7 F n (.slice p m c) T.items ∧ validT T = true) :
    TwoRel2 T w3 (.pointer (some ⟨z, 0, none⟩)) (.int .i64 k) (((((((((w7.setCell ⟨z, 0, none⟩ (.int .i64 f.kind)).setCell ⟨z, 1, none⟩ (.int .i64 f.int)).setCell ⟨z, 2, none⟩ (.int .i64 f.gen)).setCell ⟨z, 3, none⟩ (.string f.name)).setCell ⟨z, 4, none⟩ (.string f.func)).setCell ⟨z, 5, none⟩ (.int .i64 f.arity)).setCell ⟨z, 6, none⟩ (.slice p m c)).setCell ⟨z, 7, none⟩ (.string f.bytes)).setCell ⟨z, 8, none⟩ (.int .i64 f.bits)) := by
  have hl : z < w7.heap.size := (Array.getElem?_eq_some_iff.1 hG).1
  have ht : TouchB (fun k => k = z) w7 (((((((((w7.setCell ⟨z, 0, none⟩ (.int .i64 f.kind)).setCell ⟨z, 1, none⟩ (.int .i64 f.int)).setCell ⟨z, 2, none⟩ (.int .i64 f.gen)).setCell ⟨z, 3, none⟩ (.string f.name)).setCell ⟨z, 4, none⟩ (.string f.func)).setCell ⟨z, 5, none⟩ (.int .i64 f.arity)).setCell ⟨z, 6, none⟩ (.slice p m c)).setCell ⟨z, 7, none⟩ (.string f.bytes)).setCell ⟨z, 8, none⟩ (.int .i64 f.bits)) := touch_sets f (.slice p m c) (TouchB.refl _ _) rfl
  have hbw : Below w3.heap.size w3 (((((((((w7.setCell ⟨z, 0, none⟩ (.int .i64 f.kind)).setCell ⟨z, 1, none⟩ (.int .i64 f.int)).setCell ⟨z, 2, none⟩ (.int .i64 f.gen)).setCell ⟨z, 3, none⟩ (.string f.name)).setCell ⟨z, 4, none⟩ (.string f.func)).setCell ⟨z, 5, none⟩ (.int .i64 f.arity)).setCell ⟨z, 6, none⟩ (.slice p m c)).setCell ⟨z, 7, none⟩ (.string f.bytes)).setCell ⟨z, 8, none⟩ (.int .i64 f.bits)) := below_sets f (.slice p m c) hb hz3
  have hn : Nine (((((((((w7.setCell ⟨z, 0, none⟩ (.int .i64 f.kind)).setCell ⟨z, 1, none⟩ (.int .i64 f.int)).setCell ⟨z, 2, none⟩ (.int .i64 f.gen)).setCell ⟨z, 3, none⟩ (.string f.name)).setCell ⟨z, 4, none⟩ (.string f.func)).setCell ⟨z, 5, none⟩ (.int .i64 f.arity)).setCell ⟨z, 6, none⟩ (.slice p m c)).setCell ⟨z, 7, none⟩ (.string f.bytes)).setCell ⟨z, 8, none⟩ (.int .i64 f.bits)) z f (.slice p m c) := nine_sets f (.slice p m c) hG
  generalize (((((((((w7.setCell ⟨z, 0, none⟩ (.int .i64 f.kind)).setCell ⟨z, 1, none⟩ (.int .i64 f.int)).setCell ⟨z, 2, none⟩ (.int .i64 f.gen)).setCell ⟨z, 3, none⟩ (.string f.name)).setCell ⟨z, 4, none⟩ (.string f.func)).setCell ⟨z, 5, none⟩ (.int .i64 f.arity)).setCell ⟨z, 6, none⟩ (.slice p m c)).setCell ⟨z, 7, none⟩ (.string f.bytes)).setCell ⟨z, 8, none⟩ (.int .i64 f.bits)) = Wf at *
  refine ⟨z, f, p, m, c, k, rfl, rfl, hn, Nat.lt_of_lt_of_le hl ht.size, hz3, hbw, fun h => ?_⟩
  obtain ⟨e1, e2, e3, e4⟩ := hk h
  exact ⟨e1, (stays_at e3 ht (.inr hF)).in_.mono (fun _ _ => rfl) (fun _ _ => trivial), e4⟩
theorem leafB {n : Nat} {T : Tm (n + 1)} {w3 w7 : World} {F : Nat → Prop} (f : TF) {p : Option Addr} {m c : Nat} {k : Int} (hb : Below w3.heap.size w3 w7) (hk : k = 0 → f = T.f ∧ m = T.items.length ∧ ItemsIn w7 F n (.slice p m c) T.items ∧ validT T = true) :
    TwoRel2 T w3 (.pointer (some ⟨w7.heap.size, 0, none⟩)) (.int .i64 k) (w7.alloc (.cells #[.int .i64 f.kind, .int .i64 f.int, .int .i64 f.gen, .string f.name, .string f.func, .int .i64 f.arity, .slice p m c, .string f.bytes, .int .i64 f.bits] 24)) := by
  obtain ⟨hN, hb7, hz⟩ := box_one w7 f (.slice p m c)
  unfold cells9 at hN hb7 hz
  refine ⟨w7.heap.size, f, p, m, c, k, rfl, rfl, hN, hz, hb.size, hb.trans (hb7.mono hb.size), ?_⟩
  have h := (MadeIn.of hk).below hb7
  intro e
  obtain ⟨a, b, c⟩ := h e
  exact ⟨a, b.bounded.mono (fun g _ => rfl) (fun g _ => trivial), c⟩
end Go.Proofs.Ythgfdpamnepnfaa.tm
