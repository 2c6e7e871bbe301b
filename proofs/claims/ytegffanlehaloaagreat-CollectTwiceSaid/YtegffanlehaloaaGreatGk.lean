/- Several texts in one, one behind the other: CoT, CoU. No condition beyond theirs. -/
import Derived.Test.YtegffanlehaloaaGreatGj

/- The reference's Fits, place, number, size. Conditions: as said. -/
namespace Go.Proofs.YtegffanlehaloaaGreat.cl
open Go.RowKit mem words
set_option linter.unusedVariables false
set_option linter.unusedSimpArgs false
set_option maxHeartbeats 4000000
set_option maxRecDepth 100000

def nmI (l : List Int) (u : Int) : Int := if pOk u = true then fnd l u else -1
def nmW (u : Int) : Int := if pOk u = true then 0 else u
theorem number65 (w : World) (B : Nat) (p : Option Addr) (c : Nat) (l : List Int) (u : Int) (h : WAt w B (.slice p l.length c) l) (hl : l.length ≤ 100000) (u0 : 0 ≤ u) (u1 : u ≤ 18446744073709551615) :
    Calls Tryz.prog 30 #[.slice p l.length c, .int .u64 u] w fun e w' => e = .returned (.tuple #[.int .i64 (nmI l u), .int .u64 (nmW u)]) ∧ w = w' := by
  have HF := Lib.hid (find94 w B p c l u h hl)
  have HP := Lib.hid (fun W => RPointer u u0 u1 W)
  unfold nmI nmW
  clear h
  generalize pOk u = b at *
  generalize pIx u = ix at *
  generalize pOld u = o at *
  generalize fnd l u = r at *
  cases b
  · go_enter Tryz.func30, Tryz.ntmps30
    go_wp2_with fail
    refine HF.out.mono ?_
    rintro e w' ⟨rfl, rfl⟩
    go_wp2_with fail
    refine (HP.out _).mono ?_
    rintro e w' ⟨rfl, rfl⟩
    go_wp2_with fail
    go_ret2
    exact ⟨rfl, rfl⟩
  · go_enter Tryz.func30, Tryz.ntmps30
    go_wp2_with fail
    refine HF.out.mono ?_
    rintro e w' ⟨rfl, rfl⟩
    go_wp2_with fail
    refine (HP.out _).mono ?_
    rintro e w' ⟨rfl, rfl⟩
    go_wp2_with fail
    go_ret2
    exact ⟨rfl, rfl⟩
def FitsPost (m : Mm) (roots : List Int) (w : World) (e : Ending) (w' : World) : Prop := ∃ r, e = .returned (.bool r) ∧ (r = true ↔ ∃ K, Sh m K ∧ ∀ v ∈ roots, Tm K v) ∧ Below w.heap.size w w'
theorem fits13 (w : World) (B : Nat) (v1 v2 vr : Value) (m : Mm) (roots : List Int) (hB : B ≤ w.heap.size) (h1 : WAt w B v1 m.y) (h2 : WAt w B v2 m.o) (w1 : Wds m.y) (w2 : Wds m.o) (l1 : m.y.length ≤ 100000) (l2 : m.o.length ≤ 100000) (hr : WAt w B vr roots) (hrw : Wds roots) (hrl : roots.length ≤ 100000) :
    Calls Tryz.prog 5 #[.agg #[v1, v2, .int .i64 m.at_], vr] w (FitsPost m roots w) := by
  have HSh := Lib.hid (fun W (hb : Below w.heap.size w W) => shape31 W B v1 v2 m (Nat.le_trans hB hb.size) (h1.below hb hB) (h2.below hb hB) w1 w2 l1 l2)
  have HOp := Lib.hid (fun W (hb : Below w.heap.size w W) => open32 W B v1 v2 m (Nat.le_trans hB hb.size) (h1.below hb hB) (h2.below hb hB) w1 w2 l1 l2)
  have HRow := Lib.hid (fun W (hb : Below w.heap.size w W) => hr.below hb hB)
  obtain ⟨p1, c1, rfl, _⟩ := id h1
  obtain ⟨p2, c2, rfl, _⟩ := id h2
  obtain ⟨pr, cr, rfl, _⟩ := id hr
  unfold OpenPost bookV at HOp
  have HX := Lib.hid (MapKept.heap_alloc w (.cells #[.slice p1 m.y.length c1, .slice p2 m.o.length c2, .int .i64 m.at_] 24)).1
  have HB : Hid (Below w.heap.size w (w.alloc (.cells #[.slice p1 m.y.length c1, .slice p2 m.o.length c2, .int .i64 m.at_] 24))) := Lib.hid ((Below.refl _ _).alloc (Nat.le_refl _) _)
  have HRt := Lib.hid hrw
  clear h1 h2 hr hrw
  go_enter Tryz.func5, Tryz.ntmps5
  go_wp2_with fail
  refine (HSh.out _ HB.out).mono ?_
  rintro e W1 ⟨r, rfl, hr, hb1⟩
  have HB1 := Lib.hid (HB.out.trans (hb1.mono HB.out.size))
  obtain ⟨x0, x1, x2, xf⟩ := three_cells (blk_same HX.out hb1)
  have HR := Lib.hid hr
  clear hb1 hr HSh HX HB
  cases r
  · have HNo : Hid (¬ ∃ K, Sh m K ∧ ∀ v ∈ roots, Tm K v) := Lib.hid (fun ⟨K, h, _⟩ => by have := HR.out.2 ⟨K, h⟩; exact Bool.noConfusion this)
    clear HR
    go_wp2_with fail
    go_ret
    exact ⟨false, rfl, by simp [HNo.out], HB1.out⟩
  · obtain ⟨K, hs⟩ := HR.out.1 rfl
    have HS := Lib.hid hs
    clear HR
    go_wp2_with fail
    refine (HOp.out _ HB1.out).mono ?_
    rintro e W2 ⟨hb2, hop⟩
    have HB2 := Lib.hid (HB1.out.trans (hb2.mono HB1.out.size))
    clear hb2 HB1 HOp x0 x1 x2 xf
    rcases hop with ⟨K', v3, v4, rfl, hbk⟩ | ⟨hno, _⟩
    case' inr => exact absurd ⟨K, hs.y, hs.o⟩ hno
    obtain rfl := sh_uniq hs hbk.oy hbk.oo
    have HFw := Lib.hid (fun W (hb : Below W2.heap.size W2 W) v l0 l1 => isTerm33 W W2.heap.size _ _ _ _ m K hb.size (hbk.below hb (Nat.le_refl _)) v l0 l1)
    obtain ⟨_, _, _, _, p3, c3, p4, c4, e1, e2, rfl, rfl⟩ := hbk.form
    clear e1 e2
    have hb3 : Below W2.heap.size W2 (W2.alloc (.cells #[.slice p1 m.y.length c1, .slice p2 m.o.length c2, .int .i64 m.at_, .slice p3 m.y.length c3, .slice p4 m.o.length c4] 38)) := (Below.refl _ _).alloc (Nat.le_refl _) _
    have HB23 := Lib.hid hb3
    have HZs := Lib.hid hb3.size
    have HZ3 := Lib.hid (MapKept.heap_alloc W2 (.cells #[.slice p1 m.y.length c1, .slice p2 m.o.length c2, .int .i64 m.at_, .slice p3 m.y.length c3, .slice p4 m.o.length c4] 38)).1
    have HB03 := Lib.hid (HB2.out.trans (hb3.mono HB2.out.size))
    unfold bookV at *
    clear hbk hb3 HB2 hs
    go_wp2_with fail
    generalize (W2.alloc (.cells #[.slice p1 m.y.length c1, .slice p2 m.o.length c2, .int .i64 m.at_, .slice p3 m.y.length c3, .slice p4 m.o.length c4] 38)) = W3 at *
    generalize W2.heap.size = zz at *
    go_loopw [7] (fun a wr => ∃ i : Nat, a = .int .i64 i ∧ i ≤ roots.length ∧ Hid (∀ v ∈ roots.take i, Tm K v) ∧ Hid (Below W3.heap.size W3 wr)) (fun a _ => roots.length - (intOf a).toNat)
    case atStart => exact ⟨0, by go_num, Nat.zero_le _, Lib.hid (fun v h => by simp at h), Lib.hid (Below.refl _ _)⟩
    case round =>
      obtain ⟨i, rfl, hi, HI, HBi⟩ := hrel
      by_cases hlt : i < roots.length
      · obtain ⟨g9, o9, e9, hg9, hc9⟩ := RowAt.nth' (HRow.out wr (HB03.out.trans (HBi.out.mono HB03.out.size))) (by omega)
        obtain ⟨x, hx⟩ : ∃ x, roots[i]? = some x := ⟨_, List.getElem?_eq_getElem hlt⟩
        have hcx := hc9 i x hx
        have hxr := HRt.out x (List.mem_of_getElem? hx)
        have rl : (i : Int) < (roots.length : Int) := by omega
        have rq : decide ((i : Int) < (roots.length : Int)) = true := decide_eq_true rl
        have hbd : Below W3.heap.size W3 (wr.drewN 1) := below_drewN HBi.out 1
        have HFo := Lib.hid (HFw.out (wr.drewN 1) (HB23.out.trans (hbd.mono HZs.out)) x hxr.1 hxr.2)
        have HNx : Hid (Tm K x → ∀ v ∈ roots.take (i + 1), Tm K v) := Lib.hid (fun ht v hv => by
          obtain ⟨hk, he⟩ := List.getElem?_eq_some_iff.1 hx
          rw [List.take_succ_eq_append_getElem hk, List.mem_append, List.mem_singleton, he] at hv
          rcases hv with hv | rfl
          · exact HI.out v hv
          · exact ht)
        have HNo : Hid (¬ Tm K x → ¬ ∃ K, Sh m K ∧ ∀ v ∈ roots, Tm K v) := Lib.hid (fun hn ⟨K', h, ht⟩ => by
          obtain rfl := sh_uniq h HS.out.y HS.out.o
          exact hn (ht x (List.mem_of_getElem? hx)))
        have hgl : g9 < wr.heap.size := Nat.lt_of_lt_of_le hg9 (Nat.le_trans hB (Nat.le_trans HB03.out.size HBi.out.size))
        have HCx := Lib.hid (fun W (hb : Below (wr.drewN 1).heap.size (wr.drewN 1) W) => (hb.cell (p := ⟨g9, o9 + i, none⟩) (show g9 < wr.heap.size from hgl)).trans hcx)
        have HZd := Lib.hid (fun W (hb : Below W3.heap.size W3 W) => five_cells (blk_same HZ3.out hb))
        obtain ⟨z0, z1, z2, z3, z4, zf⟩ := five_cells (blk_same HZ3.out HBi.out)
        subst e9
        clear hc9 hx hxr
        go_wp2_with fail
        go_region_held3 (fun w' => w'.cell? ⟨zz, 0, none⟩ = some (.slice p1 m.y.length c1) ∧ w'.cell? ⟨zz, 1, none⟩ = some (.slice p2 m.o.length c2) ∧ w'.cell? ⟨zz, 2, none⟩ = some (.int .i64 m.at_) ∧ w'.cell? ⟨zz, 3, none⟩ = some (.slice p3 m.y.length c3) ∧ w'.cell? ⟨zz, 4, none⟩ = some (.slice p4 m.o.length c4) ∧ w'.cell? ⟨g9, o9 + i, none⟩ = some (.int .u64 x)) (go_keep)
          ((go_at_call 16; refine HFo.out.mono ?_; rintro e W6 ⟨r6, rfl, hr6, hb6⟩; have HR6 := Lib.hid hr6; have HB6 := Lib.hid (hbd.trans (hb6.mono hbd.size)); have hv6 := HCx.out W6 hb6; obtain ⟨y0, y1, y2, y3, y4, yf⟩ := HZd.out W6 HB6.out; clear hb6 hr6))
        clear HCx HZd hbd HFo z0 z1 z2 z3 z4 zf y0 y1 y2 y3 y4 yf hcx hv6
        cases r6
        · have HN : Hid (¬ ∃ K, Sh m K ∧ ∀ v ∈ roots, Tm K v) := Lib.hid (HNo.out (fun h => by have := HR6.out.2 h; exact Bool.noConfusion this))
          have HB9 := Lib.hid (HB03.out.trans (HB6.out.mono HB03.out.size))
          clear HNo HR6 HNx
          go_wp2_with fail
          go_ret
          exact ⟨false, rfl, by simp [HN.out], HB9.out⟩
        · have HN := Lib.hid (HNx.out (HR6.out.1 rfl))
          clear HNo HR6 HNx
          go_wp2_with fail
          go_roundw
          case rel => exact ⟨i + 1, by go_num, by omega, HN, HB6⟩
          case measure => simp [intOf]; omega
      · have rq : decide ((i : Int) < (roots.length : Int)) = false := decide_eq_false (by omega)
        have HY : Hid (∃ K, Sh m K ∧ ∀ v ∈ roots, Tm K v) := Lib.hid ⟨K, HS.out, fun v hv => HI.out v (by rwa [List.take_of_length_le (by omega)])⟩
        have HB9 := Lib.hid (HB03.out.trans (HBi.out.mono HB03.out.size))
        go_wp2_with fail
        go_ret
        exact ⟨true, rfl, by simp [HY.out], HB9.out⟩
end Go.Proofs.YtegffanlehaloaaGreat.cl

/- The reference's size, Sizes. Conditions: as said. -/
namespace Go.Proofs.YtegffanlehaloaaGreat.cl
open Go.RowKit mem words
set_option linter.unusedVariables false
set_option linter.unusedSimpArgs false
set_option maxHeartbeats 4000000
set_option maxRecDepth 100000

theorem len_knd {x : List Int} (h : IsObj x) : (knd x = 0 → x.length = 2) ∧ (knd x ≠ 0 → x.length = 1 + (wds x).length) := by
  have hk := knd_zero h
  obtain ⟨y, r, rfl, h1, h2⟩ := h
  unfold osz at h2
  have e1 : (y :: r).headD 0 = y := rfl
  rw [e1] at hk
  constructor
  · intro h0
    rw [h2, if_neg (hk.1 h0)]
  · intro h0
    have h4 : y % 4 = 0 := by
      apply Classical.byContradiction
      intro hn
      exact h0 (hk.2 hn)
    unfold wds
    rw [e1, if_pos h4, List.length_tail, List.length_cons]
    omega
theorem Bk.isObj {m : Mm} {K : Bk} (hy : Objs m.y K.y) (ho : Objs m.o K.o) {b : Bool} {x : List Int} (hx : x ∈ K.s b) : IsObj x := by
  cases b
  · exact hy.2 x hx
  · exact ho.2 x hx
theorem Bk.lenOb {m : Mm} {K : Bk} (hy : Objs m.y K.y) (ho : Objs m.o K.o) {b : Bool} {i : Nat} {x : List Int} (hx : At (K.s b) i x) : x.length ≤ m.y.length + m.o.length := by
  have h1 := hx.bound
  have e1 : K.y.flatten.length = m.y.length := by rw [hy.1]
  have e2 : K.o.flatten.length = m.o.length := by rw [ho.1]
  cases b
  · have h1 : i + x.length ≤ K.y.flatten.length := h1
    omega
  · have h1 : i + x.length ≤ K.o.flatten.length := h1
    omega
theorem met_ls {m : Mm} {K : Bk} (h : Sh m K) (hk : Wk K) {roots : List Int} (hr : ∀ v ∈ roots, Tm K v ∧ 0 ≤ v ∧ v ≤ 18446744073709551615) : Ls K (met K roots) :=
  ⟨met_nodup _ _, bfs_in (P := Pw K) (fun w hw v hv hp => ⟨tm_ptr (pw_fol h hk hw hv).1 hp, (pw_fol h hk hw hv).2⟩) _ _ _ (fun w hw => ((Ls.nil K).fold hr).2 w hw)⟩
theorem sum_le {f : Int → Nat} {c : Nat} : ∀ {l : List Int}, (∀ w ∈ l, f w ≤ c) → (l.map f).sum ≤ c * l.length := by
  intro l
  induction l with
  | nil => intro _; simp
  | cons a r ih =>
    intro h
    have h1 := h a List.mem_cons_self
    have h2 := ih (fun w hw => h w (List.mem_cons_of_mem _ hw))
    rw [List.map_cons, List.sum_cons, List.length_cons, Nat.mul_succ]
    omega
theorem sum_take {f : Int → Nat} {l : List Int} {i : Nat} {x : Int} (h : l[i]? = some x) : ((l.take (i + 1)).map f).sum = ((l.take i).map f).sum + f x := by
  obtain ⟨hk, rfl⟩ := List.getElem?_eq_some_iff.1 h
  rw [List.take_succ_eq_append_getElem hk, List.map_append, List.sum_append]
  simp
theorem wrap_add {a b : Nat} (h : a + b ≤ 1000000000) : IntKind.i64.wrap ((a : Int) + (b : Int)) = ((a + b : Nat) : Int) := by
  have := IntWalk.i64_in ((a : Int) + (b : Int)) (by omega)
  rw [Int.natCast_add]
  exact this
def fB (m : Mm) (K : Bk) (w : Int) : Nat := if pOld w = false ∧ pIx w < m.at_ then (ob K w).length else 0
def fA (m : Mm) (K : Bk) (w : Int) : Nat := if pOld w = false ∧ ¬ pIx w < m.at_ then (ob K w).length else 0
def fO (K : Bk) (w : Int) : Nat := if pOld w = true then (ob K w).length else 0
def SizesPost (m : Mm) (K : Bk) (roots : List Int) (w : World) (e : Ending) (w' : World) : Prop := e = .returned (.tuple #[.int .i64 (szBelow m K (met K roots)), .int .i64 (szAbove m K (met K roots)), .int .i64 (szOld K (met K roots))]) ∧ Below w.heap.size w w'
end Go.Proofs.YtegffanlehaloaaGreat.cl
