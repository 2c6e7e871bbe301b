/- Several texts in one, one behind the other: CoW, CoX, CoY, CoZ, CpA, CpB, CpC, CpD, CpE, CpF. No condition beyond theirs. -/
import Derived.Test.YtegffanlehaloaaGreatGl

/- The reference's Aged, towards true. Conditions: as said. -/
namespace Go.Proofs.YtegffanlehaloaaGreat.cl
open Go.RowKit mem words
set_option linter.unusedVariables false
set_option linter.unusedSimpArgs false
set_option maxHeartbeats 4000000
set_option maxRecDepth 100000

def AgedG (m : Mm) (a b : List Int) : Prop := ∀ (i : Nat) (x y : Int), a[i]? = some x → b[i]? = some y → (pOld x = true → y = x) ∧ (pOld x = false → pOld y = decide (pIx x < m.at_) ∧ (pOld y = true → (m.o.length : Int) ≤ pIx y))
end Go.Proofs.YtegffanlehaloaaGreat.cl

/- The reference's Full, towards true. Conditions: as said. -/
namespace Go.Proofs.YtegffanlehaloaaGreat.cl
open Go.RowKit mem words
set_option linter.unusedVariables false
set_option linter.unusedSimpArgs false
set_option maxHeartbeats 4000000
set_option maxRecDepth 100000

theorem MemAt.fits {w : World} {B : Nat} {v1 v2 vr : Value} {m : Mm} {K : Bk} {roots : List Int} (h : MemAt w B v1 v2 vr m K roots) (hB : B ≤ w.heap.size) : Calls Tryz.prog 5 #[.agg #[v1, v2, .int .i64 m.at_], vr] w fun e w' => e = .returned (.bool true) ∧ Below w.heap.size w w' := by
  have ht := h.t
  refine (fits13 w B v1 v2 vr m roots hB h.y h.o h.wy h.wo (by omega) (by omega) h.r (fun v hv => (h.rt v hv).2) h.rl).mono ?_
  rintro e w' ⟨r, rfl, hr, hb⟩
  have : r = true := hr.2 ⟨K, h.sh, fun v hv => (h.rt v hv).1⟩
  subst this
  exact ⟨rfl, hb⟩
end Go.Proofs.YtegffanlehaloaaGreat.cl

/- The reference's Minor, towards true. Conditions: as said. -/
namespace Go.Proofs.YtegffanlehaloaaGreat.cl
open Go.RowKit mem words
set_option linter.unusedVariables false
set_option linter.unusedSimpArgs false
set_option maxHeartbeats 4000000
set_option maxRecDepth 100000

end Go.Proofs.YtegffanlehaloaaGreat.cl

/- What a finished collection gives the reference: the same graph, aged. Plain Lean. Conditions: as said. -/
namespace Go.Proofs.YtegffanlehaloaaGreat.cl
open Go.RowKit mem words
set_option linter.unusedVariables false
set_option linter.unusedSimpArgs false
set_option maxHeartbeats 1000000

theorem fnd_map {g : Int → Int} {v : Int} : ∀ {l : List Int}, (∀ u ∈ l, g u = g v → u = v) → fnd (l.map g) (g v) = fnd l v := by
  intro l
  induction l with
  | nil => intro _; rfl
  | cons a r ih =>
    intro h
    have h1 := ih (fun u hu => h u (List.mem_cons_of_mem _ hu))
    rw [List.map_cons]
    unfold fnd
    rw [h1]
    by_cases ha : a = v
    · rw [if_pos ha, if_pos (by rw [ha])]
    · rw [if_neg ha, if_neg (fun e => ha (h a List.mem_cons_self e))]
def hdl (x : List Int) : Nat := if x.headD 0 % 4 = 0 then 1 else 0
theorem wds_get {x : List Int} (q : Nat) : (wds x)[q]? = x[q + hdl x]? := by
  unfold wds hdl
  split
  · rw [List.getElem?_tail]
  · rfl
theorem wds_length {x : List Int} (h : IsObj x) : (wds x).length + hdl x = x.length := by
  obtain ⟨y, r, rfl, _, _⟩ := h
  unfold wds hdl
  split
  · rw [List.length_tail, List.length_cons]; omega
  · rfl
theorem fxd_frm {x : List Int} (h : IsObj x) {q : Nat} (hq : q < (wds x).length) : q < fxd (knd x) (wds x).length ↔ q + hdl x < frm x := by
  have hw := wds_length h
  obtain ⟨y, r, rfl, hk, _⟩ := h
  have e1 : (y :: r).headD 0 = y := rfl
  have e2 : knd (y :: r) = if y % 4 = 0 then hoK y else 0 := rfl
  have e3 : frm (y :: r) = if y % 4 ≠ 0 then 0 else if hoK y = 1 then 1 else if hoK y = 2 then 5 else (y :: r).length := rfl
  have e4 : hdl (y :: r) = if y % 4 = 0 then 1 else 0 := rfl
  rw [e4] at hw ⊢
  rw [e2, e3]
  generalize (wds (y :: r)).length = n at *
  generalize (y :: r).length = N at *
  unfold fxd
  by_cases h4 : y % 4 = 0
  · have ho : hoOk y = true := by
      unfold hok at hk
      simpa [h4] using hk
    have hk1 : 1 ≤ hoK y := by
      unfold hoK
      rw [if_pos ho]
      unfold hoOk at ho
      have := of_decide_eq_true ho
      omega
    rw [if_pos h4] at hw ⊢
    rw [if_pos h4, if_neg (show ¬ (y % 4 ≠ 0) by omega)]
    by_cases h1 : hoK y = 1
    · rw [if_pos (.inr h1), if_pos h1]
      omega
    · rw [if_neg (by omega), if_neg h1]
      by_cases h2 : hoK y = 2
      · rw [if_pos h2, if_pos h2]
        omega
      · rw [if_neg h2, if_neg h2]
        omega
  · rw [if_neg h4, if_neg h4, if_pos h4, if_pos (.inl rfl)]
    omega
variable {m : Mm} {B : Bk} {full : Bool} {roots : List Int} {S : Bk} {D I : List Int}
theorem Done.num (h : Done m B full roots S D I) {v : Int} (hv : pOk v = true → Cl B full D v) : nmI ((cl.met B roots).map (lk D I)) (lk D I v) = nmI (cl.met B roots) v ∧ nmW (lk D I v) = nmW v := by
  have hp := h.pOk_lk v
  unfold nmI nmW
  rw [hp]
  by_cases hpv : pOk v = true
  · rw [if_pos hpv, if_pos hpv, if_pos hpv, if_pos hpv]
    exact ⟨fnd_map (fun u hu e => h.inj (h.met_cl u hu) (hv hpv) e), rfl⟩
  · rw [if_neg hpv, if_neg hpv, if_neg hpv, if_neg hpv]
    refine ⟨rfl, lk_not (fun hd => ?_)⟩
    obtain ⟨x, hx⟩ := (h.inv.src v hd).1
    exact hpv hx.1
theorem Done.isObj (h : Done m B full roots S D I) {w : Int} (hw : ∃ x, Pt B w x) : IsObj (ob B w) := Bk.isObj h.sh.y h.sh.o (ob_pt h.sh.pos hw).2.1.mem
theorem Done.hd (h : Done m B full roots S D I) {w : Int} (hw : Cl B full D w) : hdl (ob S (lk D I w)) = hdl (ob B w) ∧ knd (ob S (lk D I w)) = knd (ob B w) := by
  obtain ⟨h1, _, h2, h3, h4⟩ := h.obj hw
  have p1 : 0 < (ob B w).length := (h.isObj hw.1).pos
  have p2 : 0 < (ob S (lk D I w)).length := by omega
  unfold hdl knd
  by_cases h0 : (ob B w).headD 0 % 4 = 0
  · have h5 := h4 0 _ (headD_get p1)
    have h6 := frm_pos h0 p1
    rw [if_neg (by omega), headD_get p2] at h5
    have h7 := Option.some.inj h5
    rw [h7]
    exact ⟨rfl, rfl⟩
  · rw [if_neg h0, if_neg (fun e => h0 (h3.1 e)), if_neg h0, if_neg (fun e => h0 (h3.1 e))]
    exact ⟨rfl, rfl⟩
theorem Done.same (h : Done m B full roots S D I) : SameG B S roots (roots.map (lk D I)) (cl.met B roots) (cl.met S (roots.map (lk D I))) := by
  rw [h.met]
  have get : ∀ {l : List Int} {i : Nat} {x y : Int}, l[i]? = some x → (l.map (lk D I))[i]? = some y → y = lk D I x := fun h1 h2 => by
    rw [List.getElem?_map, h1] at h2
    exact (Option.some.inj h2).symm
  have kd : ∀ {x : Int}, Cl B full D x → knd (ob S (lk D I x)) = knd (ob B x) ∧ (wds (ob S (lk D I x))).length = (wds (ob B x)).length := fun {x} hc => by
    have hd := h.hd hc
    have ho := h.obj hc
    refine ⟨hd.2, ?_⟩
    have w1 := wds_length (h.isObj hc.1)
    have w2 := wds_length (x := ob S (lk D I x)) (h.inv.obj _ _ ho.1.2.1.mem)
    rw [hd.1] at w2
    have := ho.2.2.1
    omega
  refine ⟨List.length_map _, List.length_map _, fun i x y hx hy => ?_, fun i x y hx hy => ?_, fun i x y hx hy q u v hu hv => ?_⟩
  · rw [get hx hy]
    exact h.num (fun hp => h.cl_root (List.mem_of_getElem? hx) hp)
  · rw [get hx hy]
    exact kd (h.met_cl x (List.mem_of_getElem? hx))
  · have hc := h.met_cl x (List.mem_of_getElem? hx)
    obtain rfl := get hx hy
    have hq : q < (wds (ob B x)).length := (List.getElem?_eq_some_iff.1 hu).1
    have hf := fxd_frm (h.isObj hc.1) hq
    rw [wds_get] at hu hv
    rw [(h.hd hc).1, (h.obj hc).2.2.2.2 _ _ hu] at hv
    have hv := Option.some.inj hv
    constructor
    · intro hlt
      rw [← hv, if_neg (by have := hf.1 hlt; omega)]
    · intro hge
      have hfr : cl.frm (ob B x) ≤ q + hdl (ob B x) := by
        apply Nat.le_of_not_lt
        intro hn
        have := hf.2 hn
        omega
      rw [← hv, if_pos hfr]
      refine h.num (fun hp => h.cl_fol hc ?_ hp)
      unfold folB fol
      refine List.mem_of_getElem? (i := q + hdl (ob B x) - cl.frm (ob B x)) ?_
      rw [List.getElem?_drop, Nat.add_sub_cancel' hfr]
      exact hu
theorem Done.aged (h : Done m B false roots S D I) : AgedG m (cl.met B roots) (cl.met S (roots.map (lk D I))) := by
  rw [h.met]
  intro i x y hx hy
  have hc := h.met_cl x (List.mem_of_getElem? hx)
  rw [List.getElem?_map, hx] at hy
  obtain rfl := Option.some.inj hy
  obtain ⟨z, hz⟩ := hc.1
  constructor
  · intro ho
    refine lk_not (fun hd => ?_)
    have := (h.inv.src x hd).2.1
    unfold mov at this
    rw [ho] at this
    simp at this
  · intro ho
    have hd : x ∈ D := hc.2.2 (by unfold mov; rw [hz.1, ho]; rfl)
    obtain ⟨c1, c2, c3, c4, _⟩ := h.copy hd
    refine ⟨?_, fun ho' => ?_⟩
    · rw [c4]
      unfold age
      rw [ho]
      simp
    · have h1 := h.inv.new _ c1 ho'
      have h2 := h.base_flat rfl
      have h3 := pIx_eq c2
      have h1 : B.o.flatten.length ≤ (pIx (lk D I x)).toNat := h1
      rw [h2] at h1
      have h4 : 0 ≤ pIx (lk D I x) := by rw [h3]; omega
      omega
theorem Done.prefixO (h : Done m B false roots S D I) (i : Nat) (u : Int) (hu : m.o[i]? = some u) : S.o.flatten[i]? = some u := by
  obtain ⟨r, hr⟩ := h.inv.pre
  have hr : S.o = B.o ++ r := hr
  rw [hr, List.flatten_append, h.sh.o.1, List.getElem?_append_left (List.getElem?_eq_some_iff.1 hu).1]
  exact hu
end Go.Proofs.YtegffanlehaloaaGreat.cl

/- The collector: object, area. Conditions: as said. -/
namespace Go.Proofs.YtegffanlehaloaaGreat.cl
open Go.RowKit mem words
set_option linter.unusedVariables false
set_option linter.unusedSimpArgs false
set_option maxHeartbeats 4000000
set_option maxRecDepth 100000

theorem area45 (w : World) (v1 v2 : Value) (p1 p2 : Option Addr) (n1 c1 n2 c2 : Nat) (k : Int) (b : Bool) (h1 : v1 = .slice p1 n1 c1) (h2 : v2 = .slice p2 n2 c2) :
    Calls Tryz.prog 25 #[.agg #[v1, v2, .int .i64 k], .bool b] w fun e w' => e = .returned (if b then v2 else v1) ∧ Below w.heap.size w w' := by
  subst h1 h2
  have HB0 : Hid (Below w.heap.size w (w.alloc (.cells #[.slice p1 n1 c1, .slice p2 n2 c2, .int .i64 k] 24))) := Lib.hid ((Below.refl _ _).alloc (Nat.le_refl _) _)
  cases b
  · go_enter Tryz.func25, Tryz.ntmps25
    go_wp2_with fail
    go_ret
    exact ⟨rfl, HB0.out⟩
  · go_enter Tryz.func25, Tryz.ntmps25
    go_wp2_with fail
    go_ret
    exact ⟨rfl, HB0.out⟩
theorem object44 (w : World) (g o n c i : Nat) (x : List Int) (hx : IsObj x) (hy : 0 ≤ x.headD 0 ∧ x.headD 0 ≤ 18446744073709551615) (hb : i + x.length ≤ n) (hc : n ≤ c) (hn : n ≤ 200000) (hcell : w.cell? ⟨g, o + i, none⟩ = some (.int .u64 (x.headD 0))) :
    Calls Tryz.prog 24 #[.slice (some ⟨g, o, none⟩) n c, .int .i64 i] w fun e w' => e = .returned (.tuple #[.slice (some ⟨g, o + i, none⟩) x.length (c - i), .int .i64 (frm x)]) ∧ w = w' := by
  obtain ⟨y, r, rfl, hk, hl⟩ := hx
  have e1 : (y :: r).headD 0 = y := rfl
  rw [e1] at hy hcell
  have HH := Lib.hid (fun W => HeaderOf y hy.1 hy.2 W)
  have hfr : frm (y :: r) = if y % 4 ≠ 0 then 0 else if hoK y = 1 then 1 else if hoK y = 2 then 5 else (y :: r).length := rfl
  generalize (y :: r).length = N at *
  generalize frm (y :: r) = F at *
  have hpos := osz_pos y
  have ri : (0 : Int) ≤ (i : Int) := by omega
  have rl : (i : Int) < (n : Int) := by omega
  have hci : ¬ c = i := by omega
  rcases hok_cases y with ⟨h4, hk', hs⟩ | ⟨h4, ho, hk', hs⟩ | ⟨h4, ho, hk'⟩
  · rw [hs] at hl
    subst hl
    rw [if_pos h4] at hfr
    have ho : hoOk y = false := by unfold hoOk; simp [h4]
    have e1 : IntKind.i64.wrap ((i : Int) + 2) = (i : Int) + 2 := IntWalk.i64_in _ (by omega)
    have e5 : (i : Int) ≤ (i : Int) + 2 := by omega
    have e6 : (i : Int) + 2 ≤ (c : Int) := by omega
    have e7 : ((i : Int) + 2).toNat = i + 2 := by omega
    rw [ho] at HH
    subst hfr
    clear hs h4 ho hk hk' hpos
    go_enter Tryz.func24, Tryz.ntmps24
    go_wp2_with fail
    refine (HH.out _).mono ?_
    rintro e w' ⟨rfl, rfl⟩
    go_wp2_with fail
    go_ret2
    exact ⟨rfl, rfl⟩
  · rw [hs] at hl
    have e1 : IntKind.i64.wrap ((i : Int) + 1) = (i : Int) + 1 := IntWalk.i64_in _ (by omega)
    have hr := hoN_rng y hy.1
    obtain ⟨M, hM⟩ : ∃ M : Nat, hoN y = M := ⟨(hoN y).toNat, by omega⟩
    rw [hM] at hl hr HH
    have e2 : IntKind.i64.wrap ((i : Int) + 1 + (M : Int)) = (i : Int) + 1 + (M : Int) := IntWalk.i64_in _ (by omega)
    have e5 : (i : Int) ≤ (i : Int) + 1 + (M : Int) := by omega
    have e6 : (i : Int) + 1 + (M : Int) ≤ (c : Int) := by omega
    have e7 : ((i : Int) + 1 + (M : Int)).toNat = i + 1 + M := by omega
    have hN : N = 1 + M := by omega
    subst hN
    have e8 : i + 1 + M - i = 1 + M := by omega
    rw [if_neg (show ¬ (y % 4 ≠ 0) by omega)] at hfr
    rw [ho] at HH
    have HN8 := Lib.hid e8
    have hz : 1 + M = M + 1 := by omega
    have HZ := Lib.hid hz
    clear hs h4 ho hk hk' hpos hM hl e8 hz
    generalize hoK y = kk at *
    by_cases h1 : kk = 1
    · have q1 : (kk == 1) = true := by simpa using h1
      have HF : Hid (F = 1) := Lib.hid (by rw [hfr, if_pos h1])
      clear hfr h1
      go_enter Tryz.func24, Tryz.ntmps24
      go_wp2_with fail
      refine (HH.out _).mono ?_
      rintro e w' ⟨rfl, rfl⟩
      go_wp2_with fail
      go_ret2
      exact ⟨by rw [HF.out, ← HN8.out]; rfl, rfl⟩
    · have q1 : (kk == 1) = false := by simpa using h1
      rw [if_neg h1] at hfr
      by_cases h2 : kk = 2
      · have q2 : (kk == 2) = true := by simpa using h2
        have HF : Hid (F = 5) := Lib.hid (by rw [hfr, if_pos h2])
        clear hfr h1 h2
        go_enter Tryz.func24, Tryz.ntmps24
        go_wp2_with fail
        refine (HH.out _).mono ?_
        rintro e w' ⟨rfl, rfl⟩
        go_wp2_with fail
        go_ret2
        exact ⟨by rw [HF.out, ← HN8.out]; rfl, rfl⟩
      · have q2 : (kk == 2) = false := by simpa using h2
        have HF : Hid (F = 1 + M) := Lib.hid (by rw [hfr, if_neg h2])
        clear hfr h1 h2
        go_enter Tryz.func24, Tryz.ntmps24
        go_wp2_with fail
        refine (HH.out _).mono ?_
        rintro e w' ⟨rfl, rfl⟩
        go_wp2_with fail
        go_ret2
        exact ⟨by rw [HF.out, ← HN8.out]; rfl, rfl⟩
  · rw [hk'] at hk; exact Bool.noConfusion hk
end Go.Proofs.YtegffanlehaloaaGreat.cl

/- The collector: begins. Conditions: as said. -/
namespace Go.Proofs.YtegffanlehaloaaGreat.cl
open Go.RowKit mem words
set_option linter.unusedVariables false
set_option linter.unusedSimpArgs false
set_option maxHeartbeats 4000000
set_option maxRecDepth 100000

def BegP (l : List Int) (a : List (List Int)) (w : World) (e : Ending) (w' : World) : Prop := e = .returned (.slice (some ⟨w.heap.size, 0, none⟩) l.length l.length) ∧ FAt w' (w.heap.size + 1) (.slice (some ⟨w.heap.size, 0, none⟩) l.length l.length) (marks a) ∧ w.heap.size < w'.heap.size ∧ Below w.heap.size w w'
theorem begins51 (w : World) (B : Nat) (v : Value) (l : List Int) (a : List (List Int)) (hB : B ≤ w.heap.size) (h : WAt w B v l) (hw : Wds l) (hl : l.length ≤ 100000) (ha : Objs l a) : Calls Tryz.prog 41 #[v] w (BegP l a w) := by
  obtain ⟨p, c, rfl, hc1, hc2, hp⟩ := h
  obtain ⟨i0, hi0, hz0, hz1, hz2⟩ := info_parts info4
  have HP := Lib.hid hp
  have HW := Lib.hid hw
  have HA0 := Lib.hid ha
  have HC1 := Lib.hid hc1
  clear hp hw ha hc1
  go_enter Tryz.func41, Tryz.ntmps41
  go_wp2_with (at_make; refine wpList_make_full _ rfl _ _ 36 rfl w.heap.size 4 i0 (.bool false) 1 Tryz.underlying36 hi0 hz0 hz1 .i64 .i64 _ _ l.length rfl rfl rfl rfl (by rw [hz2]; omega) (by unfold maxLen; omega) (Nat.le_refl _) ?_; intro w1 hown hgrow)
  have HO : Hid (w1.ownsRow w.heap.size 4 1 (.slice (some ⟨w.heap.size, 0, none⟩) l.length l.length) l.length ((List.replicate l.length false).map Value.bool)) := Lib.hid (by simpa [toList_madeCells_one, Value.cells] using hown)
  have HB1 : Hid (Below w.heap.size w w1) := Lib.hid ((Below.refl _ _).grown hgrow (Nat.le_refl _) (fun k e => by simp at e))
  clear hown hgrow
  go_loopw [4, 5, 6] (fun a _ _ wr => ∃ (i : Nat) (out : List Bool), a = .int .i64 i ∧ i ≤ l.length ∧ Hid (Scn l i out) ∧ Hid (wr.ownsRow w.heap.size 4 1 (.slice (some ⟨w.heap.size, 0, none⟩) l.length l.length) l.length (out.map Value.bool)) ∧ Hid (Below w.heap.size w wr)) (fun a _ _ _ => l.length - (intOf a).toNat)
  case atStart => exact ⟨0, _, by go_num, Nat.zero_le _, Lib.hid (Scn.zero l), HO, HB1⟩
  case round =>
    obtain ⟨i, out, rfl, hil, HS, HOw, HBw⟩ := hrel
    clear HO HB1
    by_cases hlt : i < l.length
    · obtain ⟨g, o, rfl, hg, hc⟩ := HP.out (by intro e; subst e; simp at hlt)
      have hx := (HBw.out.cell (p := ⟨g, o + i, none⟩) (show g < w.heap.size by omega)).trans (hc i hlt)
      have hxr := HW.out _ (List.getElem_mem hlt)
      have hxe : l[i]? = some l[i] := List.getElem?_eq_getElem hlt
      have hdr : l.drop i = l[i] :: l.drop (i + 1) := List.drop_eq_getElem_cons hlt
      generalize l[i] = x at hx hxr hxe hdr
      have HX := Lib.hid hxe
      have hol : out.length = l.length := HS.out.len
      have hcb : wr.cell? ⟨w.heap.size, i, none⟩ = some (.bool (out[i]'(by omega))) := by
        rw [HOw.out.cellAt i (by omega), List.getElem?_map, List.getElem?_eq_getElem (by omega)]
        rfl
      generalize out[i]'(by omega) = b0 at hcb
      have hfz := HOw.out.frozenAt i
      obtain ⟨hst, hgr⟩ := HOw.out.stored i (.bool true)
      have HOw2 : Hid ((wr.setCell ⟨w.heap.size, i, none⟩ (.bool true)).ownsRow w.heap.size 4 1 (.slice (some ⟨w.heap.size, 0, none⟩) l.length l.length) l.length ((out.set i true).map Value.bool)) := Lib.hid (by rw [List.map_set]; exact hst)
      have HBw2 : Hid (Below w.heap.size w (wr.setCell ⟨w.heap.size, i, none⟩ (.bool true))) := Lib.hid (HBw.out.setCell (Nat.le_refl _) _)
      have hx2 : (wr.setCell ⟨w.heap.size, i, none⟩ (.bool true)).cell? ⟨g, o + i, none⟩ = some (.int .u64 x) := (World.cell?_of_block (w := wr) (a := ⟨g, o + i, none⟩) (Below.heap_setCell _ _ _ _ (show g ≠ w.heap.size by omega))).trans hx
      have hok1 : hok x = true := by
        cases hk : hok x
        · exact absurd ⟨a, HA0.out⟩ (HS.out.fail hxe (.inl hk))
        · rfl
      have hos : osz x ≤ l.length - i := by
        apply Nat.le_of_not_lt
        intro hn
        exact absurd ⟨a, HA0.out⟩ (HS.out.fail hxe (.inr (by omega)))
      have HSn := Lib.hid (HS.out.step hxe hok1 hos)
      have hpos := osz_pos x
      have hln : ((l.drop i).take (osz x)).length = osz x := by rw [List.length_take, List.length_drop]; omega
      have hob : IsObj ((l.drop i).take (osz x)) := by
        refine ⟨x, (l.drop (i + 1)).take (osz x - 1), ?_, hok1, hln⟩
        rw [hdr]
        obtain ⟨k, hk⟩ : ∃ k, osz x = k + 1 := ⟨osz x - 1, by omega⟩
        rw [hk]
        rfl
      have hhd : ((l.drop i).take (osz x)).headD 0 = x := by
        rw [hdr]
        obtain ⟨k, hk⟩ : ∃ k, osz x = k + 1 := ⟨osz x - 1, by omega⟩
        rw [hk]
        rfl
      have hob4 := object44 (wr.setCell ⟨w.heap.size, i, none⟩ (.bool true)) g o l.length c i ((l.drop i).take (osz x)) hob (by rw [hhd]; exact hxr) (by rw [hln]; omega) HC1.out (by omega) (by rw [hhd]; exact hx2)
      rw [hln] at hob4
      have HOb := Lib.hid hob4
      clear hst hgr hxe hc hob4 hob hhd hdr hok1 hln hx2 hx
      generalize frm ((l.drop i).take (osz x)) = fr at *
      generalize osz x = sz at *
      have ri : (0 : Int) ≤ (i : Int) := by omega
      go_wp2_with fail
      refine HOb.out.mono ?_
      rintro e w' ⟨rfl, rfl⟩
      go_wp2_with fail
      go_roundw
      case rel => exact ⟨i + sz, out.set i true, by go_num, by omega, HSn, HOw2, HBw2⟩
      case measure => simp [intOf]; omega
    · obtain ⟨a', ha', rfl⟩ := HS.out.done hlt
      obtain rfl := Objs.uniq ha' HA0.out
      have hml : (marks a').length = l.length := HS.out.len
      have HFl := Lib.hid (own_flags HOw.out hml hl)
      have HLt := Lib.hid (row_lt HOw.out)
      clear ha' hml
      go_wp2_with fail
      go_ret
      exact ⟨rfl, HFl.out, HLt.out, HBw.out⟩
end Go.Proofs.YtegffanlehaloaaGreat.cl

/- The collector: the test of a root in fits. Conditions: as said. -/
namespace Go.Proofs.YtegffanlehaloaaGreat.cl
open Go.RowKit mem words
set_option linter.unusedVariables false
set_option linter.unusedSimpArgs false
set_option maxHeartbeats 4000000
set_option maxRecDepth 100000

/-- what fits has laid: the memory's box, and the boxes of the two rows of marks -/
structure FitBox (w : World) (B z0 z1 z2 : Nat) (p1 : Option Addr) (c1 : Nat) (p2 : Option Addr) (c2 : Nat) (p3 : Option Addr) (c3 : Nat) (p4 : Option Addr) (c4 : Nat) (m : Mm) (K : Bk) : Prop where
  b0 : w.heap[z0]? = some (.cells #[.slice p1 m.y.length c1, .slice p2 m.o.length c2, .int .i64 m.at_] 24)
  b1 : w.cell? ⟨z1, 0, none⟩ = some (.slice p3 m.y.length c3)
  b2 : w.cell? ⟨z2, 0, none⟩ = some (.slice p4 m.o.length c4)
  l0 : z0 < w.heap.size
  l1 : z1 < w.heap.size
  l2 : z2 < w.heap.size
  k : BookAt w B (.slice p1 m.y.length c1) (.slice p2 m.o.length c2) (.slice p3 m.y.length c3) (.slice p4 m.o.length c4) m K
  le : B ≤ w.heap.size
theorem FitBox.below {w w' : World} {B z0 z1 z2 : Nat} {p1 : Option Addr} {c1 : Nat} {p2 : Option Addr} {c2 : Nat} {p3 : Option Addr} {c3 : Nat} {p4 : Option Addr} {c4 : Nat} {m : Mm} {K : Bk} (h : FitBox w B z0 z1 z2 p1 c1 p2 c2 p3 c3 p4 c4 m K) (hb : Below w.heap.size w w') : FitBox w' B z0 z1 z2 p1 c1 p2 c2 p3 c3 p4 c4 m K :=
  ⟨(hb.block _ h.l0).trans h.b0, (hb.cell (p := ⟨z1, 0, none⟩) h.l1).trans h.b1, (hb.cell (p := ⟨z2, 0, none⟩) h.l2).trans h.b2, Nat.lt_of_lt_of_le h.l0 hb.size, Nat.lt_of_lt_of_le h.l1 hb.size, Nat.lt_of_lt_of_le h.l2 hb.size, h.k.below hb h.le, Nat.le_trans h.le hb.size⟩
def NotTm (K : Bk) (v : Int) (w : World) (e : Ending) (w' : World) : Prop := ∃ r, e = .returned (.bool r) ∧ (r = true ↔ ¬ Tm K v) ∧ Below w.heap.size w w'
theorem fits53_no (w : World) (z0 z1 z2 : Nat) (K : Bk) (v : Int) (v0 : 0 ≤ v) (v1 : v ≤ 18446744073709551615) (hp : pOk v = false) :
    Calls Tryz.prog 43 #[.int .u64 v, .pointer (some ⟨z0, 0, none⟩), .pointer (some ⟨z1, 0, none⟩), .pointer (some ⟨z2, 0, none⟩)] w (NotTm K v w) := by
  have HP := Lib.hid (fun W => Pointer v v0 v1 W)
  have HT := Lib.hid (fun W => Tag v v0 v1 W)
  have HV := Lib.hid (fun W => Valid v v0 v1 W)
  rw [hp] at HP
  generalize pOld v = o at *
  generalize pIx v = ix at *
  by_cases h3 : v % 4 = 3
  · have q3 : (v % 4 != 3) = false := by simpa using h3
    have HI := Lib.hid (vOk_imm (K := K) h3)
    clear h3 hp
    generalize vOk v = r at *
    go_enter Tryz.func43, Tryz.ntmps43
    go_wp2_with (first | (go_at_call 22; refine (HP.out _).mono ?_; rintro e w' ⟨rfl, rfl⟩) | (go_at_call 44; refine (HT.out _).mono ?_; rintro e w' ⟨rfl, rfl⟩) | (go_at_call 45; refine (HV.out _).mono ?_; rintro e w' ⟨rfl, rfl⟩))
    go_ret
    refine ⟨!r, rfl, ?_, Below.refl _ _⟩
    rw [← HI.out]
    cases r <;> simp
  · have q3 : (v % 4 != 3) = true := by simpa using h3
    have HI : Hid (¬ Tm K v) := Lib.hid (by
      rintro (h | h | h | ⟨x, h⟩)
      · unfold soOk at h; have := of_decide_eq_true h; omega
      · unfold aoOk at h; have := of_decide_eq_true h; omega
      · omega
      · rw [h.1] at hp; exact Bool.noConfusion hp)
    clear h3 hp
    go_enter Tryz.func43, Tryz.ntmps43
    go_wp2_with (first | (go_at_call 22; refine (HP.out _).mono ?_; rintro e w' ⟨rfl, rfl⟩) | (go_at_call 44; refine (HT.out _).mono ?_; rintro e w' ⟨rfl, rfl⟩))
    go_ret
    exact ⟨true, rfl, by simp [HI.out], Below.refl _ _⟩
end Go.Proofs.YtegffanlehaloaaGreat.cl

/- The collector: the test of a root in fits, pointers. Conditions: as said. -/
namespace Go.Proofs.YtegffanlehaloaaGreat.cl
open Go.RowKit mem words
set_option linter.unusedVariables false
set_option linter.unusedSimpArgs false
set_option maxHeartbeats 4000000
set_option maxRecDepth 100000

theorem fits53_false (w : World) (B z0 z1 z2 : Nat) (p1 : Option Addr) (c1 : Nat) (p2 : Option Addr) (c2 : Nat) (p3 : Option Addr) (c3 : Nat) (p4 : Option Addr) (c4 : Nat) (m : Mm) (K : Bk) (h : FitBox w B z0 z1 z2 p1 c1 p2 c2 p3 c3 p4 c4 m K) (v : Int) (v0 : 0 ≤ v) (v1 : v ≤ 18446744073709551615) (hp : pOk v = true) (hold : pOld v = false) :
    Calls Tryz.prog 43 #[.int .u64 v, .pointer (some ⟨z0, 0, none⟩), .pointer (some ⟨z1, 0, none⟩), .pointer (some ⟨z2, 0, none⟩)] w (NotTm K v w) := by
  have HP := Lib.hid (fun W => Pointer v v0 v1 W)
  have HT := Lib.hid (fun W => Tag v v0 v1 W)
  have hiff := (pOk_iff v).1 hp
  have hix : pIx v = ((pIx v).toNat : Int) := by rw [pIx_eq hp]; omega
  have HTm : Hid (Tm K v ↔ ∃ x, At K.y (pIx v).toNat x ∧ (x.headD 0 % 4 = 0 ↔ v % 4 = 2)) := Lib.hid (by
    have e : K.s (pOld v) = K.y := by rw [hold]; rfl
    constructor
    · rintro (h | h | h | ⟨x, h⟩)
      · unfold soOk at h; have := of_decide_eq_true h; omega
      · unfold aoOk at h; have := of_decide_eq_true h; omega
      · omega
      · exact ⟨x, e ▸ h.2.1, h.2.2⟩
    · rintro ⟨x, h1, h2⟩
      exact .inr (.inr (.inr ⟨x, hp, e.symm ▸ h1, h2⟩)))
  rw [hp, hold, hix] at HP
  generalize (pIx v).toNat = i at *
  have HAr := Lib.hid (area45 w.drew (.slice p1 m.y.length c1) (.slice p2 m.o.length c2) p1 p2 m.y.length c1 m.o.length c2 m.at_ false rfl rfl)
  simp only [Bool.false_eq_true, ↓reduceIte] at HAr
  have hbd : Below w.heap.size w w.drew := below_drewN (Below.refl _ _) 1
  have HC0 := Lib.hid (fun W (hb : Below w.heap.size w W) => three_cells (h.below hb).b0)
  have HC1 := Lib.hid (fun W (hb : Below w.heap.size w W) => (h.below hb).b1)
  have HC2 := Lib.hid (fun W (hb : Below w.heap.size w W) => (h.below hb).b2)
  have HPos : Hid (Pos K.y) := Lib.hid h.k.oy.pos
  have HFl : Hid (K.y.flatten = m.y) := Lib.hid h.k.oy.1
  have hml : (marks K.y).length = m.y.length := by rw [marks_len h.k.oy.pos, h.k.oy.1]
  have hl5 := h.k.ly
  obtain ⟨x0, x1, x2, xf⟩ := three_cells h.b0
  have y1 := h.b1
  by_cases hi : i < m.y.length
  · obtain ⟨g1, o1, e1, en1, hg1, hcl1⟩ := RowAt.cellB h.k.fy (by omega)
    obtain ⟨g2, o2, e2, hg2, hcl2⟩ := RowAt.nth' h.k.y (by omega)
    clear en1
    have hle := h.le
    have hcf := hcl1 i (by omega)
    have hmk := marks_getD h.k.oy.pos (i := i) (by omega)
    obtain ⟨u, hu⟩ : ∃ u, m.y[i]? = some u := ⟨_, List.getElem?_eq_getElem hi⟩
    have hcu := hcl2 i u hu
    have hur := h.k.wy u (List.mem_of_getElem? hu)
    have HTu := Lib.hid (fun W => Tag u hur.1 hur.2 W)
    have HHd : Hid (∀ x, At K.y i x → x.headD 0 = u) := Lib.hid (fun x hx => by
      have hobj := h.k.oy.2 x hx.mem
      have h0 := hx.get 0 hobj.pos
      rw [h.k.oy.1, Nat.add_zero, hu, headD_get hobj.pos] at h0
      exact (Option.some.inj h0).symm)
    have HCf := Lib.hid (fun W (hb : Below w.heap.size w W) => (hb.cell (p := ⟨g1, o1 + i, none⟩) (Nat.lt_of_lt_of_le hg1 hle)).trans hcf)
    have HCu := Lib.hid (fun W (hb : Below w.heap.size w W) => (hb.cell (p := ⟨g2, o2 + i, none⟩) (Nat.lt_of_lt_of_le hg2 hle)).trans hcu)
    have q1 : decide ((m.y.length : Int) ≤ (i : Int)) = false := decide_eq_false (by omega)
    have ri : (i : Int) < (m.y.length : Int) := by omega
    generalize (marks K.y).getD i false = f at *
    have HMk := Lib.hid hmk
    subst e1 e2
    clear h hp hold hix hiff hcl1 hcl2 hcf hcu hmk hu hur hml
    cases f
    · have HNo : Hid (¬ Tm K v) := Lib.hid (fun ht => by
        obtain ⟨x, hx, _⟩ := HTm.out.1 ht
        exact Bool.noConfusion (HMk.out.2 ⟨x, hx⟩))
      clear HTm HPos HFl HHd HMk
      go_enter Tryz.func43, Tryz.ntmps43
      go_wp2_with fail
      refine (HP.out _).mono ?_
      rintro e w' ⟨rfl, rfl⟩
      go_wp2_with fail
      go_region_held3 (fun w' => w'.cell? ⟨z0, 0, none⟩ = some (.slice (some ⟨g2, o2, none⟩) m.y.length c1) ∧ w'.cell? ⟨z0, 1, none⟩ = some (.slice p2 m.o.length c2) ∧ w'.cell? ⟨z0, 2, none⟩ = some (.int .i64 m.at_) ∧ w'.cell? ⟨z1, 0, none⟩ = some (.slice (some ⟨g1, o1, none⟩) m.y.length c3)) (go_keep)
        ((go_at_call 25; refine HAr.out.mono ?_; rintro e W3 ⟨rfl, hb3⟩; have HB3 := Lib.hid (hbd.trans hb3); obtain ⟨s0, s1, s2, sf⟩ := HC0.out W3 HB3.out; have t1 := HC1.out W3 HB3.out; clear hb3))
      clear x0 x1 x2 xf y1 s0 s1 s2 sf hbd
      have y2 := HC2.out W3 HB3.out
      have yf := HCf.out W3 HB3.out
      go_wp2_with fail
      go_ret
      exact ⟨true, rfl, by simp [HNo.out], HB3.out⟩
    · have HI : Hid (Tm K v ↔ (u % 4 = 0 ↔ v % 4 = 2)) := Lib.hid (by
        obtain ⟨x, hx⟩ := HMk.out.1 rfl
        rw [HTm.out]
        constructor
        · rintro ⟨x', hx', h'⟩
          rw [HHd.out x' hx'] at h'
          exact h'
        · intro h'
          exact ⟨x, hx, by rw [HHd.out x hx]; exact h'⟩)
      have hA : ∃ a : Bool, (u % 4 == 0) = a ∧ (a = true ↔ u % 4 = 0) := ⟨_, rfl, by simp⟩
      have hB' : ∃ b : Bool, (v % 4 == 2) = b ∧ (b = true ↔ v % 4 = 2) := ⟨_, rfl, by simp⟩
      obtain ⟨a, qa, ha⟩ := hA
      obtain ⟨b, qb, hb⟩ := hB'
      rw [← ha, ← hb] at HI
      clear HTm HPos HFl HHd HMk ha hb
      go_enter Tryz.func43, Tryz.ntmps43
      go_wp2_with fail
      refine (HP.out _).mono ?_
      rintro e w' ⟨rfl, rfl⟩
      go_wp2_with fail
      go_region_held3 (fun w' => w'.cell? ⟨z0, 0, none⟩ = some (.slice (some ⟨g2, o2, none⟩) m.y.length c1) ∧ w'.cell? ⟨z0, 1, none⟩ = some (.slice p2 m.o.length c2) ∧ w'.cell? ⟨z0, 2, none⟩ = some (.int .i64 m.at_) ∧ w'.cell? ⟨z1, 0, none⟩ = some (.slice (some ⟨g1, o1, none⟩) m.y.length c3)) (go_keep)
        ((go_at_call 25; refine HAr.out.mono ?_; rintro e W3 ⟨rfl, hb3⟩; have HB3 := Lib.hid (hbd.trans hb3); obtain ⟨s0, s1, s2, sf⟩ := HC0.out W3 HB3.out; have t1 := HC1.out W3 HB3.out; clear hb3))
      clear x0 x1 x2 xf y1 s0 s1 s2 sf hbd
      have y2 := HC2.out W3 HB3.out
      have yf := HCf.out W3 HB3.out
      have yu := HCu.out W3 HB3.out
      go_wp2_with fail
      refine (HTu.out _).mono ?_
      rintro e w' ⟨rfl, rfl⟩
      go_wp2_with fail
      refine (HT.out _).mono ?_
      rintro e w' ⟨rfl, rfl⟩
      go_wp2_with fail
      go_ret
      refine ⟨_, rfl, ?_, HB3.out⟩
      rw [HI.out]
      cases a <;> cases b <;> simp <;> omega
  · have HNo : Hid (¬ Tm K v) := Lib.hid (by
      rw [HTm.out]
      rintro ⟨x, hx, _⟩
      have h2 := hx.bound
      rw [HFl.out] at h2
      have h3 := HPos.out x hx.mem
      omega)
    have q1 : decide ((m.y.length : Int) ≤ (i : Int)) = true := decide_eq_true (by omega)
    clear HTm HPos HFl h hp hold hix hiff hml
    go_enter Tryz.func43, Tryz.ntmps43
    go_wp2_with fail
    refine (HP.out _).mono ?_
    rintro e w' ⟨rfl, rfl⟩
    go_wp2_with fail
    go_region_held3 (fun w' => w'.cell? ⟨z0, 0, none⟩ = some (.slice p1 m.y.length c1) ∧ w'.cell? ⟨z0, 1, none⟩ = some (.slice p2 m.o.length c2) ∧ w'.cell? ⟨z0, 2, none⟩ = some (.int .i64 m.at_) ∧ w'.cell? ⟨z1, 0, none⟩ = some (.slice p3 m.y.length c3)) (go_keep)
      ((go_at_call 25; refine HAr.out.mono ?_; rintro e W3 ⟨rfl, hb3⟩; have HB3 := Lib.hid (hbd.trans hb3); obtain ⟨s0, s1, s2, sf⟩ := HC0.out W3 HB3.out; have t1 := HC1.out W3 HB3.out; clear hb3))
    clear x0 x1 x2 xf y1 s0 s1 s2 sf hbd
    have y2 := HC2.out W3 HB3.out
    go_wp2_with fail
    go_ret
    exact ⟨true, rfl, by simp [HNo.out], HB3.out⟩
theorem fits53_true (w : World) (B z0 z1 z2 : Nat) (p1 : Option Addr) (c1 : Nat) (p2 : Option Addr) (c2 : Nat) (p3 : Option Addr) (c3 : Nat) (p4 : Option Addr) (c4 : Nat) (m : Mm) (K : Bk) (h : FitBox w B z0 z1 z2 p1 c1 p2 c2 p3 c3 p4 c4 m K) (v : Int) (v0 : 0 ≤ v) (v1 : v ≤ 18446744073709551615) (hp : pOk v = true) (hold : pOld v = true) :
    Calls Tryz.prog 43 #[.int .u64 v, .pointer (some ⟨z0, 0, none⟩), .pointer (some ⟨z1, 0, none⟩), .pointer (some ⟨z2, 0, none⟩)] w (NotTm K v w) := by
  have HP := Lib.hid (fun W => Pointer v v0 v1 W)
  have HT := Lib.hid (fun W => Tag v v0 v1 W)
  have hiff := (pOk_iff v).1 hp
  have hix : pIx v = ((pIx v).toNat : Int) := by rw [pIx_eq hp]; omega
  have HTm : Hid (Tm K v ↔ ∃ x, At K.o (pIx v).toNat x ∧ (x.headD 0 % 4 = 0 ↔ v % 4 = 2)) := Lib.hid (by
    have e : K.s (pOld v) = K.o := by rw [hold]; rfl
    constructor
    · rintro (h | h | h | ⟨x, h⟩)
      · unfold soOk at h; have := of_decide_eq_true h; omega
      · unfold aoOk at h; have := of_decide_eq_true h; omega
      · omega
      · exact ⟨x, e ▸ h.2.1, h.2.2⟩
    · rintro ⟨x, h1, h2⟩
      exact .inr (.inr (.inr ⟨x, hp, e.symm ▸ h1, h2⟩)))
  rw [hp, hold, hix] at HP
  generalize (pIx v).toNat = i at *
  have HAr := Lib.hid (area45 w.drew (.slice p1 m.y.length c1) (.slice p2 m.o.length c2) p1 p2 m.y.length c1 m.o.length c2 m.at_ true rfl rfl)
  simp only [Bool.false_eq_true, ↓reduceIte] at HAr
  have hbd : Below w.heap.size w w.drew := below_drewN (Below.refl _ _) 1
  have HC0 := Lib.hid (fun W (hb : Below w.heap.size w W) => three_cells (h.below hb).b0)
  have HC1 := Lib.hid (fun W (hb : Below w.heap.size w W) => (h.below hb).b1)
  have HC2 := Lib.hid (fun W (hb : Below w.heap.size w W) => (h.below hb).b2)
  have HPos : Hid (Pos K.o) := Lib.hid h.k.oo.pos
  have HFl : Hid (K.o.flatten = m.o) := Lib.hid h.k.oo.1
  have hml : (marks K.o).length = m.o.length := by rw [marks_len h.k.oo.pos, h.k.oo.1]
  have hl5 := h.k.lo
  obtain ⟨x0, x1, x2, xf⟩ := three_cells h.b0
  have y1 := h.b1
  by_cases hi : i < m.o.length
  · obtain ⟨g1, o1, e1, en1, hg1, hcl1⟩ := RowAt.cellB h.k.fo (by omega)
    obtain ⟨g2, o2, e2, hg2, hcl2⟩ := RowAt.nth' h.k.o (by omega)
    clear en1
    have hle := h.le
    have hcf := hcl1 i (by omega)
    have hmk := marks_getD h.k.oo.pos (i := i) (by omega)
    obtain ⟨u, hu⟩ : ∃ u, m.o[i]? = some u := ⟨_, List.getElem?_eq_getElem hi⟩
    have hcu := hcl2 i u hu
    have hur := h.k.wo u (List.mem_of_getElem? hu)
    have HTu := Lib.hid (fun W => Tag u hur.1 hur.2 W)
    have HHd : Hid (∀ x, At K.o i x → x.headD 0 = u) := Lib.hid (fun x hx => by
      have hobj := h.k.oo.2 x hx.mem
      have h0 := hx.get 0 hobj.pos
      rw [h.k.oo.1, Nat.add_zero, hu, headD_get hobj.pos] at h0
      exact (Option.some.inj h0).symm)
    have HCf := Lib.hid (fun W (hb : Below w.heap.size w W) => (hb.cell (p := ⟨g1, o1 + i, none⟩) (Nat.lt_of_lt_of_le hg1 hle)).trans hcf)
    have HCu := Lib.hid (fun W (hb : Below w.heap.size w W) => (hb.cell (p := ⟨g2, o2 + i, none⟩) (Nat.lt_of_lt_of_le hg2 hle)).trans hcu)
    have q1 : decide ((m.o.length : Int) ≤ (i : Int)) = false := decide_eq_false (by omega)
    have ri : (i : Int) < (m.o.length : Int) := by omega
    generalize (marks K.o).getD i false = f at *
    have HMk := Lib.hid hmk
    subst e1 e2
    clear h hp hold hix hiff hcl1 hcl2 hcf hcu hmk hu hur hml
    cases f
    · have HNo : Hid (¬ Tm K v) := Lib.hid (fun ht => by
        obtain ⟨x, hx, _⟩ := HTm.out.1 ht
        exact Bool.noConfusion (HMk.out.2 ⟨x, hx⟩))
      clear HTm HPos HFl HHd HMk
      go_enter Tryz.func43, Tryz.ntmps43
      go_wp2_with fail
      refine (HP.out _).mono ?_
      rintro e w' ⟨rfl, rfl⟩
      go_wp2_with fail
      go_region_held3 (fun w' => w'.cell? ⟨z0, 0, none⟩ = some (.slice p1 m.y.length c1) ∧ w'.cell? ⟨z0, 1, none⟩ = some (.slice (some ⟨g2, o2, none⟩) m.o.length c2) ∧ w'.cell? ⟨z0, 2, none⟩ = some (.int .i64 m.at_) ∧ w'.cell? ⟨z1, 0, none⟩ = some (.slice p3 m.y.length c3)) (go_keep)
        ((go_at_call 25; refine HAr.out.mono ?_; rintro e W3 ⟨rfl, hb3⟩; have HB3 := Lib.hid (hbd.trans hb3); obtain ⟨s0, s1, s2, sf⟩ := HC0.out W3 HB3.out; have t1 := HC1.out W3 HB3.out; clear hb3))
      clear x0 x1 x2 xf y1 s0 s1 s2 sf hbd
      have y2 := HC2.out W3 HB3.out
      have yf := HCf.out W3 HB3.out
      go_wp2_with fail
      go_ret
      exact ⟨true, rfl, by simp [HNo.out], HB3.out⟩
    · have HI : Hid (Tm K v ↔ (u % 4 = 0 ↔ v % 4 = 2)) := Lib.hid (by
        obtain ⟨x, hx⟩ := HMk.out.1 rfl
        rw [HTm.out]
        constructor
        · rintro ⟨x', hx', h'⟩
          rw [HHd.out x' hx'] at h'
          exact h'
        · intro h'
          exact ⟨x, hx, by rw [HHd.out x hx]; exact h'⟩)
      have hA : ∃ a : Bool, (u % 4 == 0) = a ∧ (a = true ↔ u % 4 = 0) := ⟨_, rfl, by simp⟩
      have hB' : ∃ b : Bool, (v % 4 == 2) = b ∧ (b = true ↔ v % 4 = 2) := ⟨_, rfl, by simp⟩
      obtain ⟨a, qa, ha⟩ := hA
      obtain ⟨b, qb, hb⟩ := hB'
      rw [← ha, ← hb] at HI
      clear HTm HPos HFl HHd HMk ha hb
      go_enter Tryz.func43, Tryz.ntmps43
      go_wp2_with fail
      refine (HP.out _).mono ?_
      rintro e w' ⟨rfl, rfl⟩
      go_wp2_with fail
      go_region_held3 (fun w' => w'.cell? ⟨z0, 0, none⟩ = some (.slice p1 m.y.length c1) ∧ w'.cell? ⟨z0, 1, none⟩ = some (.slice (some ⟨g2, o2, none⟩) m.o.length c2) ∧ w'.cell? ⟨z0, 2, none⟩ = some (.int .i64 m.at_) ∧ w'.cell? ⟨z1, 0, none⟩ = some (.slice p3 m.y.length c3)) (go_keep)
        ((go_at_call 25; refine HAr.out.mono ?_; rintro e W3 ⟨rfl, hb3⟩; have HB3 := Lib.hid (hbd.trans hb3); obtain ⟨s0, s1, s2, sf⟩ := HC0.out W3 HB3.out; have t1 := HC1.out W3 HB3.out; clear hb3))
      clear x0 x1 x2 xf y1 s0 s1 s2 sf hbd
      have y2 := HC2.out W3 HB3.out
      have yf := HCf.out W3 HB3.out
      have yu := HCu.out W3 HB3.out
      go_wp2_with fail
      refine (HTu.out _).mono ?_
      rintro e w' ⟨rfl, rfl⟩
      go_wp2_with fail
      refine (HT.out _).mono ?_
      rintro e w' ⟨rfl, rfl⟩
      go_wp2_with fail
      go_ret
      refine ⟨_, rfl, ?_, HB3.out⟩
      rw [HI.out]
      cases a <;> cases b <;> simp <;> omega
  · have HNo : Hid (¬ Tm K v) := Lib.hid (by
      rw [HTm.out]
      rintro ⟨x, hx, _⟩
      have h2 := hx.bound
      rw [HFl.out] at h2
      have h3 := HPos.out x hx.mem
      omega)
    have q1 : decide ((m.o.length : Int) ≤ (i : Int)) = true := decide_eq_true (by omega)
    clear HTm HPos HFl h hp hold hix hiff hml
    go_enter Tryz.func43, Tryz.ntmps43
    go_wp2_with fail
    refine (HP.out _).mono ?_
    rintro e w' ⟨rfl, rfl⟩
    go_wp2_with fail
    go_region_held3 (fun w' => w'.cell? ⟨z0, 0, none⟩ = some (.slice p1 m.y.length c1) ∧ w'.cell? ⟨z0, 1, none⟩ = some (.slice p2 m.o.length c2) ∧ w'.cell? ⟨z0, 2, none⟩ = some (.int .i64 m.at_) ∧ w'.cell? ⟨z1, 0, none⟩ = some (.slice p3 m.y.length c3)) (go_keep)
      ((go_at_call 25; refine HAr.out.mono ?_; rintro e W3 ⟨rfl, hb3⟩; have HB3 := Lib.hid (hbd.trans hb3); obtain ⟨s0, s1, s2, sf⟩ := HC0.out W3 HB3.out; have t1 := HC1.out W3 HB3.out; clear hb3))
    clear x0 x1 x2 xf y1 s0 s1 s2 sf hbd
    have y2 := HC2.out W3 HB3.out
    go_wp2_with fail
    go_ret
    exact ⟨true, rfl, by simp [HNo.out], HB3.out⟩
theorem fits53 (w : World) (B z0 z1 z2 : Nat) (p1 : Option Addr) (c1 : Nat) (p2 : Option Addr) (c2 : Nat) (p3 : Option Addr) (c3 : Nat) (p4 : Option Addr) (c4 : Nat) (m : Mm) (K : Bk) (h : FitBox w B z0 z1 z2 p1 c1 p2 c2 p3 c3 p4 c4 m K) (v : Int) (v0 : 0 ≤ v) (v1 : v ≤ 18446744073709551615) :
    Calls Tryz.prog 43 #[.int .u64 v, .pointer (some ⟨z0, 0, none⟩), .pointer (some ⟨z1, 0, none⟩), .pointer (some ⟨z2, 0, none⟩)] w (NotTm K v w) := by
  cases hp : pOk v
  · exact fits53_no w z0 z1 z2 K v v0 v1 hp
  · cases ho : pOld v
    · exact fits53_false w B z0 z1 z2 p1 c1 p2 c2 p3 c3 p4 c4 m K h v v0 v1 hp ho
    · exact fits53_true w B z0 z1 z2 p1 c1 p2 c2 p3 c3 p4 c4 m K h v v0 v1 hp ho
end Go.Proofs.YtegffanlehaloaaGreat.cl

/- slices.IndexFunc, ContainsFunc at the test of a root. Conditions: as said. -/
namespace Go.Proofs.YtegffanlehaloaaGreat.cl
open Go.RowKit mem words
set_option linter.unusedVariables false
set_option linter.unusedSimpArgs false
set_option maxHeartbeats 4000000
set_option maxRecDepth 100000

def AnyNot (K : Bk) (roots : List Int) : Prop := ∃ v ∈ roots, ¬ Tm K v
def IdxP (K : Bk) (roots : List Int) (w : World) (e : Ending) (w' : World) : Prop := ∃ r : Int, e = .returned (.int .i64 r) ∧ (0 ≤ r ↔ AnyNot K roots) ∧ Below w.heap.size w w'
theorem index83 (w : World) (B z0 z1 z2 : Nat) (p1 : Option Addr) (c1 : Nat) (p2 : Option Addr) (c2 : Nat) (p3 : Option Addr) (c3 : Nat) (p4 : Option Addr) (c4 : Nat) (m : Mm) (K : Bk) (h : FitBox w B z0 z1 z2 p1 c1 p2 c2 p3 c3 p4 c4 m K) (pr : Option Addr) (cr : Nat) (roots : List Int) (hr : WAt w B (.slice pr roots.length cr) roots) (hw : Wds roots) (hl : roots.length ≤ 100000) :
    Calls Tryz.prog 61 #[.slice pr roots.length cr, .func (.func 43) #[] #[.pointer (some ⟨z0, 0, none⟩), .pointer (some ⟨z1, 0, none⟩), .pointer (some ⟨z2, 0, none⟩)]] w (IdxP K roots w) := by
  have HF := Lib.hid (fun W (hb : Below w.heap.size w W) v v0 v1 => fits53 W B z0 z1 z2 p1 c1 p2 c2 p3 c3 p4 c4 m K (h.below hb) v v0 v1)
  have HR := Lib.hid (fun W (hb : Below w.heap.size w W) => hr.below hb h.le)
  have HW := Lib.hid hw
  have HLe := Lib.hid h.le
  clear h hr hw
  go_enter Tryz.func61, Tryz.ntmps61
  go_wp2_with fail
  go_loopw [5, 8] (fun _ a wr => ∃ i : Nat, a = .int .i64 i ∧ i ≤ roots.length ∧ Hid (∀ v ∈ roots.take i, Tm K v) ∧ Hid (Below w.heap.size w wr)) (fun _ a _ => roots.length - (intOf a).toNat)
  case atStart => exact ⟨0, by go_num, Nat.zero_le _, Lib.hid (fun v h => by simp at h), Lib.hid (Below.refl _ _)⟩
  case round =>
    obtain ⟨i, rfl, hi, HI, HBi⟩ := hrel
    by_cases hlt : i < roots.length
    · obtain ⟨g9, o9, e9, hg9, hc9⟩ := RowAt.nth' (HR.out wr HBi.out) (by omega)
      obtain ⟨x, hx⟩ : ∃ x, roots[i]? = some x := ⟨_, List.getElem?_eq_getElem hlt⟩
      have hcx := hc9 i x hx
      have hxr := HW.out x (List.mem_of_getElem? hx)
      have rl : (i : Int) < (roots.length : Int) := by omega
      have rq : decide ((i : Int) < (roots.length : Int)) = true := decide_eq_true rl
      have HC := Lib.hid (HF.out wr HBi.out x hxr.1 hxr.2)
      have HNx : Hid (Tm K x → ∀ v ∈ roots.take (i + 1), Tm K v) := Lib.hid (fun ht v hv => by
        obtain ⟨hk, he⟩ := List.getElem?_eq_some_iff.1 hx
        rw [List.take_succ_eq_append_getElem hk, List.mem_append, List.mem_singleton, he] at hv
        rcases hv with hv | rfl
        · exact HI.out v hv
        · exact ht)
      have HNo : Hid (¬ Tm K x → AnyNot K roots) := Lib.hid (fun hn => ⟨x, List.mem_of_getElem? hx, hn⟩)
      subst e9
      clear hc9 hx hxr
      go_wp2_with fail
      refine HC.out.mono ?_
      rintro e W6 ⟨r6, rfl, hr6, hb6⟩
      have HR6 := Lib.hid hr6
      have HB6 := Lib.hid (HBi.out.trans (hb6.mono HBi.out.size))
      clear hb6 hr6 HC
      cases r6
      · have HN := Lib.hid (HNx.out (by
          apply Classical.byContradiction
          intro hn
          exact Bool.noConfusion (HR6.out.2 hn)))
        clear HNx HNo HR6
        go_wp2_with fail
        go_roundw
        case rel => exact ⟨i + 1, by go_num, by omega, HN, HB6⟩
        case measure => simp [intOf]; omega
      · have HN := Lib.hid (HNo.out (HR6.out.1 rfl))
        clear HNx HNo HR6
        go_wp2_with fail
        go_ret
        exact ⟨i, rfl, by simp [HN.out], HB6.out⟩
    · have rq : decide ((i : Int) < (roots.length : Int)) = false := decide_eq_false (by omega)
      have HN : Hid (¬ AnyNot K roots) := Lib.hid (fun ⟨v, hv, hn⟩ => hn (HI.out v (by rwa [List.take_of_length_le (by omega)])))
      go_wp2_with fail
      go_ret
      exact ⟨-1, rfl, by simp [HN.out], HBi.out⟩
theorem contains52 (w : World) (B z0 z1 z2 : Nat) (p1 : Option Addr) (c1 : Nat) (p2 : Option Addr) (c2 : Nat) (p3 : Option Addr) (c3 : Nat) (p4 : Option Addr) (c4 : Nat) (m : Mm) (K : Bk) (h : FitBox w B z0 z1 z2 p1 c1 p2 c2 p3 c3 p4 c4 m K) (pr : Option Addr) (cr : Nat) (roots : List Int) (hr : WAt w B (.slice pr roots.length cr) roots) (hw : Wds roots) (hl : roots.length ≤ 100000) :
    Calls Tryz.prog 42 #[.slice pr roots.length cr, .func (.func 43) #[] #[.pointer (some ⟨z0, 0, none⟩), .pointer (some ⟨z1, 0, none⟩), .pointer (some ⟨z2, 0, none⟩)]] w fun e w' => ∃ r, e = .returned (.bool r) ∧ (r = true ↔ AnyNot K roots) ∧ Below w.heap.size w w' := by
  have HI := Lib.hid (index83 w B z0 z1 z2 p1 c1 p2 c2 p3 c3 p4 c4 m K h pr cr roots hr hw hl)
  clear h hr hw
  go_enter Tryz.func42, Tryz.ntmps42
  go_wp2_with fail
  refine HI.out.mono ?_
  rintro e W2 ⟨r, rfl, hr, hb⟩
  have HR := Lib.hid hr
  have HB := Lib.hid hb
  clear hr hb
  go_wp2_with fail
  go_ret
  exact ⟨decide (0 ≤ r), rfl, by rw [decide_eq_true_eq]; exact HR.out, HB.out⟩
end Go.Proofs.YtegffanlehaloaaGreat.cl

/- The laws' helpers: large, none. Conditions: as said. -/
namespace Go.Proofs.YtegffanlehaloaaGreat.cl
open Go.RowKit mem words
set_option linter.unusedVariables false
set_option linter.unusedSimpArgs false
set_option maxHeartbeats 4000000
set_option maxRecDepth 100000

def LargeP (n1 n2 nr : Nat) (w : World) (e : Ending) (w' : World) : Prop := ∃ r, e = .returned (.bool r) ∧ (r = true ↔ 600 < n1 ∨ 600 < n2 ∨ 100 < nr) ∧ Below w.heap.size w w'
theorem large7 (w : World) (p1 p2 pr : Option Addr) (n1 c1 n2 c2 nr cr : Nat) (k : Int) :
    Calls Tryz.prog 4 #[.agg #[.slice p1 n1 c1, .slice p2 n2 c2, .int .i64 k], .slice pr nr cr] w (LargeP n1 n2 nr w) := by
  have HB0 : Hid (Below w.heap.size w (w.alloc (.cells #[.slice p1 n1 c1, .slice p2 n2 c2, .int .i64 k] 24))) := Lib.hid ((Below.refl _ _).alloc (Nat.le_refl _) _)
  have HI : Hid (∀ a b c : Bool, a = decide ((600 : Int) < (n1 : Int)) → b = decide ((600 : Int) < (n2 : Int)) → c = decide ((100 : Int) < (nr : Int)) → ((a || b || c) = true ↔ 600 < n1 ∨ 600 < n2 ∨ 100 < nr)) := Lib.hid (by
    rintro a b c rfl rfl rfl
    simp only [Bool.or_eq_true, decide_eq_true_eq]
    omega)
  by_cases h1 : 600 < n1
  · have q1 : decide ((600 : Int) < (n1 : Int)) = true := decide_eq_true (by omega)
    have HY : Hid ((true = true) ↔ 600 < n1 ∨ 600 < n2 ∨ 100 < nr) := Lib.hid (by simp [h1])
    clear h1 HI
    go_enter Tryz.func4, Tryz.ntmps4
    go_wp2_with fail
    go_ret
    exact ⟨true, rfl, by simpa using HY.out, HB0.out⟩
  · have q1 : decide ((600 : Int) < (n1 : Int)) = false := decide_eq_false (by omega)
    by_cases h2 : 600 < n2
    · have q2 : decide ((600 : Int) < (n2 : Int)) = true := decide_eq_true (by omega)
      have HY : Hid ((true = true) ↔ 600 < n1 ∨ 600 < n2 ∨ 100 < nr) := Lib.hid (by simp [h2])
      clear h1 h2 HI
      go_enter Tryz.func4, Tryz.ntmps4
      go_wp2_with fail
      go_ret
      exact ⟨true, rfl, by simpa using HY.out, HB0.out⟩
    · have q2 : decide ((600 : Int) < (n2 : Int)) = false := decide_eq_false (by omega)
      obtain ⟨b, hb⟩ : ∃ b, decide ((100 : Int) < (nr : Int)) = b := ⟨_, rfl⟩
      have HY : Hid (b = true ↔ 600 < n1 ∨ 600 < n2 ∨ 100 < nr) := Lib.hid (by
        rw [← hb, decide_eq_true_eq]
        omega)
      clear h1 h2 HI
      go_enter Tryz.func4, Tryz.ntmps4
      go_wp2_with fail
      go_ret
      exact ⟨b, rfl, HY.out, HB0.out⟩
def SameP (a b : List Int) (w : World) (e : Ending) (w' : World) : Prop := ∃ r, e = .returned (.bool r) ∧ (r = true ↔ a = b) ∧ Below w.heap.size w w'
theorem same26 (w : World) (B : Nat) (v1 v2 : Value) (a b : List Int) (hB : B ≤ w.heap.size) (h1 : WAt w B v1 a) (h2 : WAt w B v2 b) (l1 : a.length ≤ 100000) (l2 : b.length ≤ 100000) :
    Calls Tryz.prog 11 #[v1, v2] w (SameP a b w) := by
  have HR1 := Lib.hid (fun W (hb : Below w.heap.size w W) => h1.below hb hB)
  have HR2 := Lib.hid (fun W (hb : Below w.heap.size w W) => h2.below hb hB)
  obtain ⟨p1, c1, rfl, _⟩ := id h1
  obtain ⟨p2, c2, rfl, _⟩ := id h2
  clear h1 h2
  by_cases hl : a.length = b.length
  · have q1 : ((a.length : Int) != (b.length : Int)) = false := by simp [hl]
    have HLn := Lib.hid hl
    go_enter Tryz.func11, Tryz.ntmps11
    go_wp2_with fail
    go_loopw [5] (fun x wr => ∃ i : Nat, x = .int .i64 i ∧ i ≤ a.length ∧ Hid (a.take i = b.take i) ∧ Hid (Below w.heap.size w wr)) (fun x _ => a.length - (intOf x).toNat)
    case atStart => exact ⟨0, by go_num, Nat.zero_le _, Lib.hid rfl, Lib.hid (Below.refl _ _)⟩
    case round =>
      obtain ⟨i, rfl, hi, HI, HBi⟩ := hrel
      by_cases hlt : i < a.length
      · obtain ⟨g9, o9, e9, hg9, hc9⟩ := RowAt.nth' (HR1.out wr HBi.out) (by omega)
        obtain ⟨g8, o8, e8, hg8, hc8⟩ := RowAt.nth' (HR2.out wr HBi.out) (by omega)
        obtain ⟨x, hx⟩ : ∃ x, a[i]? = some x := ⟨_, List.getElem?_eq_getElem hlt⟩
        obtain ⟨y, hy⟩ : ∃ y, b[i]? = some y := ⟨_, List.getElem?_eq_getElem (by omega)⟩
        have hcx := hc9 i x hx
        have hcy := hc8 i y hy
        have rl : (i : Int) < (a.length : Int) := by omega
        have rl2 : (i : Int) < (b.length : Int) := by omega
        have rq : decide ((i : Int) < (a.length : Int)) = true := decide_eq_true rl
        have HBd : ∀ nd, Hid (Below w.heap.size w (wr.drewN nd)) := fun nd => Lib.hid (below_drewN HBi.out nd)
        have HX := Lib.hid hx
        have HY := Lib.hid hy
        subst e9 e8
        clear hc9 hc8 hx hy hl
        by_cases hxy : x = y
        · have q2 : (x != y) = false := by simp [hxy]
          have HNx : Hid (a.take (i + 1) = b.take (i + 1)) := Lib.hid (by
            rw [List.take_add_one, List.take_add_one, HI.out, HX.out, HY.out, hxy])
          clear hxy
          go_wp2_with fail
          go_quiet (fail)
          go_wp2_with fail
          go_roundw
          case rel => exact ⟨i + 1, by go_num, by omega, HNx, HBd _⟩
          case measure => simp [intOf]; omega
        · have q2 : (x != y) = true := by simp [hxy]
          have HNo : Hid (¬ a = b) := Lib.hid (fun e => by
            have h := HY.out
            rw [← e, HX.out] at h
            exact hxy (Option.some.inj h))
          clear hxy
          go_wp2_with fail
          go_quiet (fail)
          go_wp2_with fail
          go_ret
          exact ⟨false, rfl, by simp [HNo.out], (HBd _).out⟩
      · have rq : decide ((i : Int) < (a.length : Int)) = false := decide_eq_false (by omega)
        have HY : Hid (a = b) := Lib.hid (by
          have h := HI.out
          rwa [List.take_of_length_le (by omega), List.take_of_length_le (by omega)] at h)
        go_wp2_with fail
        go_ret
        exact ⟨true, rfl, by simp [HY.out], HBi.out⟩
  · have q1 : ((a.length : Int) != (b.length : Int)) = true := by
      have : ¬ (a.length : Int) = (b.length : Int) := by omega
      simpa using this
    have HNo : Hid (¬ a = b) := Lib.hid (fun e => hl (by rw [e]))
    clear hl
    go_enter Tryz.func11, Tryz.ntmps11
    go_wp2_with fail
    go_ret
    exact ⟨false, rfl, by simp [HNo.out], Below.refl _ _⟩
end Go.Proofs.YtegffanlehaloaaGreat.cl
