/- Several texts in one, one behind the other: TbM, TbN, TbO, TbP, TbQ, TbR, TbS, TbT, TbU. No condition beyond theirs. -/
import Derived.Test.YtfbggmbmgohiiaaGreatQa
import Derived.Test.YtfbggmbmgohiiaaGreatTnK
import Derived.Test.YtfbggmbmgohiiaaGreatTnA
/- terms.Same. Conditions: the terms lie in memory. -/
namespace Go.Proofs.YtfbggmbmgohiiaaGreat.tb
open Go.RowKit mem rec tm names
set_option linter.unusedVariables false
set_option linter.unusedSimpArgs false
set_option maxHeartbeats 4000000
set_option maxRecDepth 100000
def AlikeS (n : Nat) : Prop := ∀ (w : World) (B : Nat) (v1 v2 : Value) (a b : List (Tm n)), B ≤ w.heap.size → ItemsAt w B n v1 a → ItemsAt w B n v2 b → Calls Tryz.prog 94 #[v1, v2, .func (.func 66) #[] #[]] w (BPost (eqB a b) w)
theorem alike_one {n : Nat} (ih : AlikeS n) (w : World) (B : Nat) (v1 v2 : Value) (a b : Tm (n + 1)) (hB : B ≤ w.heap.size) (h1 : ItemsAt w B n v1 a.items) (h2 : ItemsAt w B n v2 b.items) :
    Calls Tryz.prog 66 #[aggV a.f v1, aggV b.f v2] w (BPost (eqB a b) w) := by
  have hno : a.f ≠ b.f → eqB a b = false := fun h => eqB_f (fun e => h (by rw [e]))
  have hin : a.f = b.f → eqB a b = eqB a.items b.items := fun h => by
    by_cases e : a.items = b.items
    · rw [eqB_t e, eqB_t (Tm.ext h e)]
    · rw [eqB_f e, eqB_f (fun e2 => e (by rw [e2]))]
  have hI := fun (W : World) (hb : Below w.heap.size w W) => ih W B v1 v2 a.items b.items (Nat.le_trans hB hb.size) (h1.below hb hB) (h2.below hb hB)
  clear ih h1 h2
  generalize a.items = l1 at *
  generalize b.items = l2 at *
  generalize eqB a b = r at *
  generalize a.f = x at *
  generalize b.f = y at *
  obtain ⟨k1, i1, g1, n1, f1, a1, b1, s1⟩ := x
  obtain ⟨k2, i2, g2, n2, f2, a2, b2, s2⟩ := y
  unfold aggV
  dsimp only
  by_cases e : k1 ≠ k2
  · have hq : (k1 == k2) = false := by simp [e]
    rw [hno (by intro h; simp only [TF.mk.injEq] at h; simp_all)]
    clear hno hin hI e
    go_enter Tryz.func66, Tryz.ntmps66
    go_wp2_with fail
    go_ret
    exact ⟨rfl, ((Below.refl _ _).alloc (Nat.le_refl _) _).alloc (by simp) _⟩
  have e := Classical.not_not.1 e
  subst e
  have qk : (k1 == k1) = true := by first | exact bytes_self _ | simp
  by_cases e : i1 ≠ i2
  · have hq : (i1 == i2) = false := by simp [e]
    rw [hno (by intro h; simp only [TF.mk.injEq] at h; simp_all)]
    clear hno hin hI e
    go_enter Tryz.func66, Tryz.ntmps66
    go_wp2_with fail
    go_ret
    exact ⟨rfl, ((Below.refl _ _).alloc (Nat.le_refl _) _).alloc (by simp) _⟩
  have e := Classical.not_not.1 e
  subst e
  have qi : (i1 == i1) = true := by first | exact bytes_self _ | simp
  by_cases e : g1 ≠ g2
  · have hq : (g1 == g2) = false := by simp [e]
    rw [hno (by intro h; simp only [TF.mk.injEq] at h; simp_all)]
    clear hno hin hI e
    go_enter Tryz.func66, Tryz.ntmps66
    go_wp2_with fail
    go_ret
    exact ⟨rfl, ((Below.refl _ _).alloc (Nat.le_refl _) _).alloc (by simp) _⟩
  have e := Classical.not_not.1 e
  subst e
  have qg : (g1 == g1) = true := by first | exact bytes_self _ | simp
  by_cases e : n1 ≠ n2
  · have hq : (n1.toList == n2.toList) = false := str_ne e
    have hq2 : ¬ n1.toList = n2.toList := str_ne' e
    rw [hno (by intro h; simp only [TF.mk.injEq] at h; simp_all)]
    clear hno hin hI e
    go_enter Tryz.func66, Tryz.ntmps66
    go_wp2_with fail
    go_ret
    exact ⟨rfl, ((Below.refl _ _).alloc (Nat.le_refl _) _).alloc (by simp) _⟩
  have e := Classical.not_not.1 e
  subst e
  have qn : (n1 == n1) = true := by first | exact bytes_self _ | simp
  by_cases e : f1 ≠ f2
  · have hq : (f1.toList == f2.toList) = false := str_ne e
    have hq2 : ¬ f1.toList = f2.toList := str_ne' e
    rw [hno (by intro h; simp only [TF.mk.injEq] at h; simp_all)]
    clear hno hin hI e
    go_enter Tryz.func66, Tryz.ntmps66
    go_wp2_with fail
    go_ret
    exact ⟨rfl, ((Below.refl _ _).alloc (Nat.le_refl _) _).alloc (by simp) _⟩
  have e := Classical.not_not.1 e
  subst e
  have qf : (f1 == f1) = true := by first | exact bytes_self _ | simp
  by_cases e : a1 ≠ a2
  · have hq : (a1 == a2) = false := by simp [e]
    rw [hno (by intro h; simp only [TF.mk.injEq] at h; simp_all)]
    clear hno hin hI e
    go_enter Tryz.func66, Tryz.ntmps66
    go_wp2_with fail
    go_ret
    exact ⟨rfl, ((Below.refl _ _).alloc (Nat.le_refl _) _).alloc (by simp) _⟩
  have e := Classical.not_not.1 e
  subst e
  have qa : (a1 == a1) = true := by first | exact bytes_self _ | simp
  by_cases e : b1 ≠ b2
  · have hq : (b1.toList == b2.toList) = false := str_ne e
    have hq2 : ¬ b1.toList = b2.toList := str_ne' e
    rw [hno (by intro h; simp only [TF.mk.injEq] at h; simp_all)]
    clear hno hin hI e
    go_enter Tryz.func66, Tryz.ntmps66
    go_wp2_with fail
    go_ret
    exact ⟨rfl, ((Below.refl _ _).alloc (Nat.le_refl _) _).alloc (by simp) _⟩
  have e := Classical.not_not.1 e
  subst e
  have qb : (b1 == b1) = true := by first | exact bytes_self _ | simp
  by_cases e : s1 ≠ s2
  · have hq : (s1 == s2) = false := by simp [e]
    rw [hno (by intro h; simp only [TF.mk.injEq] at h; simp_all)]
    clear hno hin hI e
    go_enter Tryz.func66, Tryz.ntmps66
    go_wp2_with fail
    go_ret
    exact ⟨rfl, ((Below.refl _ _).alloc (Nat.le_refl _) _).alloc (by simp) _⟩
  have e := Classical.not_not.1 e
  subst e
  have qs : (s1 == s1) = true := by first | exact bytes_self _ | simp
  rw [hin rfl]
  clear hno hin
  go_enter Tryz.func66, Tryz.ntmps66
  go_wp2_with fail
  refine (hI _ (((Below.refl _ _).alloc (Nat.le_refl _) _).alloc (by simp) _)).mono ?_
  rintro e w' ⟨rfl, hb⟩
  go_wp2_with fail
  go_ret
  exact ⟨rfl, (((Below.refl _ _).alloc (Nat.le_refl _) _).alloc (by simp) _).trans (hb.mono (by simp; omega))⟩
theorem alikeEl {n : Nat} (ih : ∀ m, n = m + 1 → AlikeS m) {w : World} {B : Nat} {p1 p2 : Option Addr} {n1 n2 c1 c2 : Nat} {a b : List (Tm n)} (hB : B ≤ w.heap.size) (h1 : ItemsAt w B n (.slice p1 n1 c1) a) (h2 : ItemsAt w B n (.slice p2 n2 c2) b) (k : Nat) (ha : k < a.length) (hb : k < b.length) :
    ∃ g1 o1 x q1 m1 d1 g2 o2 y q2 m2 d2, p1 = some ⟨g1, o1, none⟩ ∧ p2 = some ⟨g2, o2, none⟩ ∧ g1 < B ∧ g2 < B ∧ Cells w g1 (o1 + k * 9) x (.slice q1 m1 d1) ∧ Cells w g2 (o2 + k * 9) y (.slice q2 m2 d2) ∧
      ∀ W, Below w.heap.size w W → Calls Tryz.prog 66 #[aggV x (.slice q1 m1 d1), aggV y (.slice q2 m2 d2)] W (BPost (eqB a[k] b[k]) W) := by
  cases n with
  | zero => rw [Tm.nil0 a] at ha; exact absurd ha (by simp)
  | succ n =>
    obtain ⟨g1, o1, c1', e1, _, _, hg1, hx1⟩ := h1.at_ (by intro e; subst e; simp at ha)
    obtain ⟨g2, o2, c2', e2, _, _, hg2, hx2⟩ := h2.at_ (by intro e; subst e; simp at hb)
    simp only [Value.slice.injEq] at e1 e2
    obtain ⟨u1, hC1, hI1⟩ := hx1 k ha
    obtain ⟨u2, hC2, hI2⟩ := hx2 k hb
    obtain ⟨q1, d1, rfl, _, _⟩ := hI1.shape
    obtain ⟨q2, d2, rfl, _, _⟩ := hI2.shape
    exact ⟨g1, o1, a[k].f, q1, _, d1, g2, o2, b[k].f, q2, _, d2, e1.1, e2.1, hg1, hg2, hC1, hC2, fun W hW => alike_one (ih n rfl) W B _ _ a[k] b[k] (Nat.le_trans hB hW.size) (hI1.below hW hB) (hI2.below hW hB)⟩
def AlikeI {n : Nat} (a b : List (Tm n)) (w : World) (m : Nat) (iv : Value) (wr : World) : Prop := ∃ k : Nat, iv = .int .i64 (k : Int) ∧ k ≤ a.length ∧ m = a.length - k ∧ a.take k = b.take k ∧ Below w.heap.size w wr
theorem alikeStep {n : Nat} (ih : ∀ m, n = m + 1 → AlikeS m) : AlikeS n := by
  intro w B v1 v2 a b hB h1 h2
  obtain ⟨p1, c1, rfl, hc1, hm1⟩ := h1.shape
  obtain ⟨p2, c2, rfl, hc2, hm2⟩ := h2.shape
  unfold maxLen at hm1 hm2
  by_cases hl : a.length = b.length
  · have hd : (((a.length : Nat) : Int) != ((b.length : Nat) : Int)) = false := by simp [hl]
    have HL := Lib.hid hl; clear hl
    have H1 := Lib.hid h1; clear h1
    have H2 := Lib.hid h2; clear h2
    have H00 : Hid (AlikeI a b w a.length (.int .i64 0) w) := Lib.hid ⟨0, rfl, Nat.zero_le _, rfl, rfl, Below.refl _ _⟩
    go_enter Tryz.func94, Tryz.ntmps94
    go_wp2_with fail
    go_loopg [16] a.length (fun m iv wr => Hid (AlikeI a b w m iv wr))
    case atStart => exact H00
    case round =>
      obtain ⟨k, rfl, hk, hm, ht, hb⟩ := hrel.out
      clear hrel H00
      have HM := Lib.hid hm
      have HT := Lib.hid ht
      have HB := Lib.hid hb
      have HBz := Lib.hid hb.size
      clear hm ht
      by_cases hlt : k < a.length
      · have hkb : k < b.length := by have := HL.out; omega
        obtain ⟨g1, o1, x, q1, m1, d1, g2, o2, y, q2, m2, d2, rfl, rfl, hg1, hg2, hC1, hC2, hCall⟩ := alikeEl ih (Nat.le_trans hB hb.size) (H1.out.below hb hB) (H2.out.below hb hB) k hlt hkb
        have HCall := Lib.hid hCall
        have HYS := Lib.hid (fun e : a[k] = b[k] => take_step HT.out hlt hkb e)
        have HNO := Lib.hid (fun e : a[k] ≠ b[k] => eqB_f (take_ne hlt hkb e))
        clear hCall
        generalize a[k] = ak at *
        generalize b[k] = bk at *
        obtain ⟨x0, x1, x2, x3, x4, x5, x6, x7, x8⟩ := hC1
        have HG2 := Lib.hid (Nat.lt_of_lt_of_le hg2 (Nat.le_trans hB hb.size))
        have HC2 := Lib.hid hC2
        obtain ⟨k1, i1, j1, n1, f1, a1, b1, s1⟩ := x
        dsimp only at x0 x1 x2 x3 x4 x5 x6 x7 x8
        unfold aggV at HCall
        dsimp only at HCall
        have HBx := Lib.hid (belowA (Below.refl wr.heap.size wr) (cells9 ⟨k1, i1, j1, n1, f1, a1, b1, s1⟩ (.slice q1 m1 d1)) (Nat.le_refl _))
        have HNx := Lib.hid (nine_of (alloc_new wr (cells9 ⟨k1, i1, j1, n1, f1, a1, b1, s1⟩ (.slice q1 m1 d1))))
        have HC2x := Lib.hid (HC2.out.same (HBx.out.block _ HG2.out))
        unfold cells9 at HBx HNx HC2x
        dsimp only at HBx HNx HC2x
        clear hC2 hg1 hg2 hb
        go_upto_region 6 with (fail)
        clear x0 x1 x2 x3 x4 x5 x6 x7 x8
        generalize (wr.alloc (.cells #[.int .i64 k1, .int .i64 i1, .int .i64 j1, .string n1, .string f1, .int .i64 a1, .slice q1 m1 d1, .string b1, .int .i64 s1] 24)) = W1 at *
        generalize hz : wr.heap.size = z at *
        have HZ := Lib.hid hz
        clear hz
        obtain ⟨x0, x1, x2, x3, x4, x5, x6, x7, x8, xf⟩ := HNx.out
        obtain ⟨y0, y1, y2, y3, y4, y5, y6, y7, y8⟩ := HC2x.out
        obtain ⟨k2, i2, j2, n2, f2, a2, b2, s2⟩ := y
        dsimp only at x0 x1 x2 x3 x4 x5 x6 x7 x8 y0 y1 y2 y3 y4 y5 y6 y7 y8 HCall
        go_still_tail 6, (by kernel_rfl)
        change wpList _ _ _ _ _ W1.drew
        clear x0 x1 x2 x3 x4 x5 x6 x7 x8 xf y0 y1 y2 y3 y4 y5 y6 y7 y8
        have hbd := belowD HBx.out
        have HBd := Lib.hid hbd
        go_wp2_with fail
        refine (HCall.out _ hbd).mono ?_
        rintro e w3 ⟨rfl, hb3⟩
        have HB4 : Hid (Below w.heap.size w w3) := Lib.hid (HB.out.trans ((hbd.trans (hb3.mono (by have := HZ.out; have := hbd.size; omega))).mono (by have := HBz.out; have := HZ.out; omega)))
        clear hbd hb3
        have hll : a.length ≤ 9223372036854775807 := by omega
        by_cases e : ak = bk
        · rw [eqB_t e]
          have HTk := Lib.hid (HYS.out e)
          clear e
          go_wp2_with fail
          go_roundg (a.length - (k + 1))
          case measure => have := HM.out; omega
          case rel => exact Lib.hid ⟨k + 1, by go_num, by omega, rfl, HTk.out, HB4.out⟩
        · rw [eqB_f e]
          have HN := Lib.hid (HNO.out e)
          clear e
          go_wp2_with fail
          go_ret
          exact ⟨tm.ret1b HN.out.symm, HB4.out⟩
      · have hfin : a = b := by
          have := HT.out
          rwa [List.take_of_length_le (by omega), List.take_of_length_le (by have := HL.out; omega)] at this
        have HF := Lib.hid (eqB_t hfin); clear hfin
        go_wp2_with fail
        go_ret
        exact ⟨tm.ret1b HF.out.symm, HB.out⟩
  · have hd : (((a.length : Nat) : Int) != ((b.length : Nat) : Int)) = true := by simp; omega
    have hfin := eqB_f (fun e : a = b => hl (by rw [e]))
    have HF := Lib.hid hfin; clear hfin
    go_enter Tryz.func94, Tryz.ntmps94
    go_wp2_with fail
    go_ret
    exact ⟨tm.ret1b HF.out.symm, Below.refl _ _⟩
theorem alikeAll : ∀ n, AlikeS n := by
  intro n
  induction n with
  | zero => exact alikeStep (fun m h => by omega)
  | succ n ih => exact alikeStep (fun m h => by obtain rfl : n = m := by omega
                                                exact ih)
/-- terms.Same -/
theorem Same66 {n : Nat} (w : World) (B : Nat) (v1 v2 : Value) (a b : Tm (n + 1)) (hB : B ≤ w.heap.size) (h1 : ItemsAt w B n v1 a.items) (h2 : ItemsAt w B n v2 b.items) :
    Calls Tryz.prog 66 #[aggV a.f v1, aggV b.f v2] w (BPost (eqB a b) w) := alike_one (alikeAll n) w B v1 v2 a b hB h1 h2
end Go.Proofs.YtfbggmbmgohiiaaGreat.tb
/- Tables in memory: the program's object. Conditions: as said. -/
namespace Go.Proofs.YtfbggmbmgohiiaaGreat.tb
open Go.RowKit mem rec tm names
set_option linter.unusedVariables false
set_option linter.unusedSimpArgs false
set_option linter.unusedSectionVars false
set_option maxHeartbeats 1000000
set_option maxRecDepth 100000
/-! ### what a step touches, by the types of the blocks -/
def tyOf (w : World) (k : Nat) : Option TypeId := match w.heap[k]? with
  | some (.cells _ t _) => some t
  | _ => none
theorem tyOf_of {w : World} {k : Nat} {c : Array Value} {t : TypeId} {f : Nat × Nat} (h : w.heap[k]? = some (.cells c t f)) : tyOf w k = some t := by unfold tyOf; rw [h]
theorem tyOf_same {w w' : World} {k : Nat} (h : w'.heap[k]? = w.heap[k]?) : tyOf w' k = tyOf w k := by unfold tyOf; rw [h]
def TyS (T : TypeId → Prop) (B : Nat) (w : World) (k : Nat) : Prop := B ≤ k ∧ ∃ t, tyOf w k = some t ∧ T t
def TT (T : TypeId → Prop) (B : Nat) (w w' : World) : Prop := TouchB (TyS T B w) w w'
section
variable {T : TypeId → Prop} {B : Nat} {a b c : World}
theorem TT.refl : TT T B a a := TouchB.refl _ _
theorem TT.back (h : TT T B a b) {i : Nat} (hi : i < a.heap.size) (hs : TyS T B b i) : TyS T B a i := by
  by_cases hn : TyS T B a i
  · exact hn
  · obtain ⟨hB, t, ht, hT⟩ := hs
    exact ⟨hB, t, (tyOf_same (h.block i hi hn)).symm.trans ht, hT⟩
theorem TT.trans (h : TT T B a b) (k : TT T B b c) : TT T B a c := TouchB.trans h k (fun i hi hs => h.back hi hs)
theorem TT.ofBelow (h : TT T B a b) (hb : Below b.heap.size b c) : TT T B a c := TouchB.ofBelow h hb h.size
theorem TT.new (hb : Below a.heap.size a b) : TT T B a b := (TouchB.refl _ a).ofBelow hb (Nat.le_refl _)
theorem TT.below (h : TT T B a b) (hB : B ≤ a.heap.size) : Below B a b := TouchB.below h (fun k hk => hk.1) hB
theorem TT.keep (h : TT T B a b) {k : Nat} (hk : k < a.heap.size) (hn : ∀ t, tyOf a k = some t → ¬ T t) : b.heap[k]? = a.heap[k]? := h.block k hk (fun ⟨_, t, ht, hT⟩ => hn t ht hT)
theorem TT.keepC (h : TT T B a b) {k : Nat} {x : Array Value} {t : TypeId} {f : Nat × Nat} (hk : a.heap[k]? = some (.cells x t f)) (hn : ¬ T t) : b.heap[k]? = some (.cells x t f) :=
  (h.keep (Array.getElem?_eq_some_iff.1 hk).1 (fun t' ht => by rw [tyOf_of hk] at ht; obtain rfl := Option.some.inj ht; exact hn)).trans hk
theorem TT.setCell (h : TT T B a b) {p : Addr} {x : Array Value} {t : TypeId} {f : Nat × Nat} (hp : b.heap[p.block]? = some (.cells x t f)) (hT : T t) (hB : B ≤ p.block) (u : Value) : TT T B a (b.setCell p u) :=
  TouchB.setCell h p u (fun hi => h.back hi ⟨hB, t, tyOf_of hp, hT⟩)
theorem TT.alloc (h : TT T B a b) (o : Obj) : TT T B a (b.alloc o) := TouchB.alloc h o
theorem TT.drew (h : TT T B a b) : TT T B a b.drew := TouchB.drew h
theorem TT.drewN (h : TT T B a b) (n : Nat) : TT T B a (b.drewN n) := TouchB.drewN h n
theorem TT.app {α : Type} {enc : α → List Value} {e s base : Nat} {v v' : Value} {l xs : List α} (h : TT T B a b) (hA : AppR enc e s b base v l xs v' c) (hown : RecOwn enc e s b base v l) (hT : T e) (hB : B ≤ base) : TT T B a c :=
  TouchB.grown h hA.grown (fun k hk hi => h.back hi ⟨Nat.le_trans hB (hown.lt hk).1, e, by
    rcases hown.2 with ⟨h1, _⟩ | ⟨g, cap, cur, h1, _, hh, _⟩
    · subst h1; simp [Value.ownBlock] at hk
    · subst h1
      obtain rfl : g = k := by simpa [Value.ownBlock] using hk
      exact tyOf_of hh, hT⟩)
end
theorem ownTy {α : Type} {enc : α → List Value} {e s : Nat} {w : World} {base : Nat} {v : Value} {l : List α} (h : RecOwn enc e s w base v l) {k : Nat} (hk : v.ownBlock = some k) : tyOf w k = some e := by
  rcases h.2 with ⟨h1, _⟩ | ⟨g, cap, cur, h1, _, hh, _⟩
  · subst h1; simp [Value.ownBlock] at hk
  · subst h1
    obtain rfl : g = k := by simpa [Value.ownBlock] using hk
    exact tyOf_of hh
/-! ### rows, tables, the object -/
structure RowE (N : Nat) where
  k : Tm (N + 1)
  v : Tm (N + 1)
  h : Int
  uk : Value
  uv : Value
def rowL {N : Nat} (r : RowE N) : List Value := nineL r.k.f r.uk ++ (nineL r.v.f r.uv ++ [.int .u32 r.h])
structure TabE (N : Nat) where
  ref : Tm (N + 1)
  own : Tm (N + 1)
  ur : Value
  uo : Value
  hs : Bool
  vr : Value
  rows : List (RowE N)
  b : Nat
def kindV (hs : Bool) : Value := if hs then .iface 99 (.agg #[]) else .iface 93 (.agg #[])
def tabL {N : Nat} (t : TabE N) : List Value := nineL t.ref.f t.ur ++ (nineL t.own.f t.uo ++ [kindV t.hs, t.vr])
def ptrL (b : Nat) : List Value := [.pointer (some ⟨b, 0, none⟩)]
structure TabAt {N : Nat} (w : World) (B : Nat) (F : Nat → Prop) (t : TabE N) : Prop where
  blk : w.heap[t.b]? = some (.cells (tabL t).toArray 98)
  rows : RecOwn rowL 108 19 w B t.vr t.rows
  iref : ItemsIn w F N t.ur t.ref.items
  iown : ItemsIn w F N t.uo t.own.items
  irow : ∀ r ∈ t.rows, ItemsIn w F N r.uk r.k.items ∧ ItemsIn w F N r.uv r.v.items
  low : B ≤ t.b
structure TbSt (N : Nat) where
  z : Nat
  vl : Value
  tabs : List (TabE N)
structure TbAt {N : Nat} (w : World) (B : Nat) (F : Nat → Prop) (s : TbSt N) : Prop where
  obj : w.heap[s.z]? = some (.cells #[.bool true, s.vl] 74)
  l : RecOwn ptrL 89 1 w B s.vl (s.tabs.map (·.b))
  tabs : ∀ t ∈ s.tabs, TabAt w B F t
  nd : (s.tabs.map (·.b)).Nodup
  rnd : ∀ (i j : Nat) (ti tj : TabE N), s.tabs[i]? = some ti → s.tabs[j]? = some tj → i ≠ j → ∀ k, ti.vr.ownBlock = some k → tj.vr.ownBlock ≠ some k
  low : B ≤ s.z
  ty : Typed w F
  fl : ∀ g, F g → g < w.heap.size
def progT (t : TypeId) : Prop := t = 74 ∨ t = 89 ∨ t = 98 ∨ t = 108
section
variable {N : Nat} {w w' : World} {B : Nat} {F : Nat → Prop}
theorem ItemsIn.shape {n : Nat} {v : Value} {l : List (Tm n)} (h : ItemsIn w F n v l) : ∃ p c, v = .slice p l.length c ∧ l.length ≤ c ∧ c ≤ maxLen := by
  cases n with
  | zero =>
    obtain ⟨p, c, rfl, hc⟩ := h
    have := Tm.nil0 l
    subst this
    exact ⟨p, c, rfl, Nat.zero_le _, hc⟩
  | succ n => obtain ⟨p, c, e, h1, h2, _⟩ := h; exact ⟨p, c, e, h1, h2⟩
theorem nineL_one {f : TF} {u : Value} (h : u.oneCell' = true) : ∀ x ∈ nineL f u, x.oneCell' = true := by
  intro x hx
  simp only [nineL, List.mem_cons, List.mem_nil_iff, or_false] at hx
  rcases hx with rfl | rfl | rfl | rfl | rfl | rfl | rfl | rfl | rfl
  all_goals first | rfl | exact h
theorem in_one {n : Nat} {v : Value} {l : List (Tm n)} (h : ItemsIn w F n v l) : v.oneCell' = true := by
  obtain ⟨p, c, rfl, _, _⟩ := ItemsIn.shape h
  rfl
theorem rowL_len (r : RowE N) : (rowL r).length = 19 := rfl
theorem TabAt.enc {t : TabE N} (h : TabAt w B F t) : EncOK rowL 19 t.rows := fun r hr => ⟨rowL_len r, fun u hu => by
  obtain ⟨h1, h2⟩ := h.irow r hr
  unfold rowL at hu
  rcases List.mem_append.1 hu with hu | hu
  · exact nineL_one (in_one h1) u hu
  rcases List.mem_append.1 hu with hu | hu
  · exact nineL_one (in_one h2) u hu
  · simp at hu; subst hu; rfl⟩
theorem ptrL_ok (l : List Nat) : EncOK ptrL 1 l := fun a _ => ⟨rfl, fun u hu => by simp [ptrL] at hu; subst hu; rfl⟩
theorem TabAt.lt {t : TabE N} (h : TabAt w B F t) : t.b < w.heap.size := (Array.getElem?_eq_some_iff.1 h.blk).1
theorem TabAt.same {F' : Nat → Prop} {t : TabE N} (h : TabAt w B F t) (h1 : w'.heap[t.b]? = w.heap[t.b]?) (h2 : ∀ k, t.vr.ownBlock = some k → w'.heap[k]? = w.heap[k]?) (h3 : ∀ g, F g → w'.heap[g]? = w.heap[g]?) (h4 : ∀ g, F g → F' g) : TabAt w' B F' t :=
  ⟨h1.trans h.blk, h.rows.same h2, h.iref.mono h3 h4, h.iown.mono h3 h4, fun r hr => ⟨(h.irow r hr).1.mono h3 h4, (h.irow r hr).2.mono h3 h4⟩, h.low⟩
theorem TbAt.zlt {s : TbSt N} (h : TbAt w B F s) : s.z < w.heap.size := (Array.getElem?_eq_some_iff.1 h.obj).1
theorem TbAt.same {s : TbSt N} (h : TbAt w B F s) (hs : ∀ k, k < w.heap.size → (F k ∨ ∃ t, tyOf w k = some t ∧ progT t) → w'.heap[k]? = w.heap[k]?) (hz : w.heap.size ≤ w'.heap.size) : TbAt w' B F s := by
  have hF : ∀ g, F g → w'.heap[g]? = w.heap[g]? := fun g hg => hs g (h.fl g hg) (.inl hg)
  refine ⟨(hs _ h.zlt (.inr ⟨_, tyOf_of h.obj, .inl rfl⟩)).trans h.obj, h.l.same (fun k hk => hs k (h.l.lt hk).2 (.inr ⟨_, ownTy h.l hk, .inr (.inl rfl)⟩)), fun t ht => ?_, h.nd, h.rnd, h.low, h.ty.same hF, fun g hg => Nat.lt_of_lt_of_le (h.fl g hg) hz⟩
  have h1 := h.tabs t ht
  exact h1.same (hs _ h1.lt (.inr ⟨_, tyOf_of h1.blk, .inr (.inr (.inl rfl))⟩)) (fun k hk => hs k (h1.rows.lt hk).2 (.inr ⟨_, ownTy h1.rows hk, .inr (.inr (.inr rfl))⟩)) hF (fun _ hg => hg)
theorem TbAt.below {s : TbSt N} (h : TbAt w B F s) (hb : Below w.heap.size w w') : TbAt w' B F s := h.same (fun k hk _ => hb.block k hk) hb.size
end
end Go.Proofs.YtfbggmbmgohiiaaGreat.tb
/- Small functions: New, ref, pid, Int, Atom; the closure of table. Conditions: as said. -/
namespace Go.Proofs.YtfbggmbmgohiiaaGreat.tb
open Go.RowKit mem rec tm names
set_option linter.unusedVariables false
set_option linter.unusedSimpArgs false
set_option maxHeartbeats 4000000
set_option maxRecDepth 100000
theorem results_cell1 {fn : Func} {p : Tmp} {ty : TypeId} (h : fn.results = #[.cell p ty]) (tmps : Array Value) (P : Program) (w : World) :
    (results fn tmps).run P w = ((asAddr (tmps.getD p undef)).run P w).andThen fun a w₁ => (loadVar ty a).run P w₁ := by
  simp only [results, h]
  simp [Sem.run_bind, Result.andThen]
def nmN : ByteArray := ⟨#[110]⟩
def refT {N : Nat} (n : Int) : Tm (N + 1) := Tm.mk ⟨3, n, 1, nmN, ⟨#[]⟩, 0, ⟨#[]⟩, 0⟩ []
def pidT {N : Nat} (n : Int) : Tm (N + 1) := Tm.mk ⟨6, n, 1, nmN, ⟨#[]⟩, 0, ⟨#[]⟩, 0⟩ []
def intT {N : Nat} (n : Int) : Tm (N + 1) := Tm.mk ⟨1, n, 0, ⟨#[]⟩, ⟨#[]⟩, 0, ⟨#[]⟩, 0⟩ []
def atomT {N : Nat} (s : ByteArray) : Tm (N + 1) := Tm.mk ⟨2, 0, 0, s, ⟨#[]⟩, 0, ⟨#[]⟩, 0⟩ []
theorem flat_items {N : Nat} (w : World) (B : Nat) : ItemsAt w B N nilV ([] : List (Tm N)) := ItemsAt.nil_any (Nat.zero_le _)
def VQ (v : Value) (w : World) (e : Ending) (w' : World) : Prop := e = .returned v ∧ Below w.heap.size w w'
theorem ref18 {N : Nat} (n : Int) (w : World) : Calls Tryz.prog 18 #[.int .i64 n] w (VQ (aggV (refT (N := N) n).f nilV) w) := by
  have HB := Lib.hid (fun o => belowA (Below.refl w.heap.size w) o (Nat.le_refl _))
  go_enter Tryz.func18, Tryz.ntmps18
  go_wp2_with fail
  (try simp only [Exit.inBlock, Exit.then])
  refine bodyPost_ret (v := .agg #[.int .i64 3, .int .i64 n, .int .i64 1, .string ⟨#[110]⟩, .string ⟨#[]⟩, .int .i64 0, .slice none 0 0, .string ⟨#[]⟩, .int .i64 0]) ?_ rfl ⟨rfl, ?_⟩
  · rw [results_cell1 rfl]
    go_simp
  · exact HB.out _
theorem pid19 {N : Nat} (n : Int) (w : World) : Calls Tryz.prog 19 #[.int .i64 n] w (VQ (aggV (pidT (N := N) n).f nilV) w) := by
  have HB := Lib.hid (fun o => belowA (Below.refl w.heap.size w) o (Nat.le_refl _))
  go_enter Tryz.func19, Tryz.ntmps19
  go_wp2_with fail
  (try simp only [Exit.inBlock, Exit.then])
  refine bodyPost_ret (v := .agg #[.int .i64 6, .int .i64 n, .int .i64 1, .string ⟨#[110]⟩, .string ⟨#[]⟩, .int .i64 0, .slice none 0 0, .string ⟨#[]⟩, .int .i64 0]) ?_ rfl ⟨rfl, ?_⟩
  · rw [results_cell1 rfl]
    go_simp
  · exact HB.out _
theorem int29 {N : Nat} (n : Int) (w : World) : Calls Tryz.prog 29 #[.int .i64 n] w (VQ (aggV (intT (N := N) n).f nilV) w) := by
  have HB := Lib.hid (fun o => belowA (Below.refl w.heap.size w) o (Nat.le_refl _))
  go_enter Tryz.func29, Tryz.ntmps29
  go_wp2_with fail
  (try simp only [Exit.inBlock, Exit.then])
  refine bodyPost_ret (v := .agg #[.int .i64 1, .int .i64 n, .int .i64 0, .string ⟨#[]⟩, .string ⟨#[]⟩, .int .i64 0, .slice none 0 0, .string ⟨#[]⟩, .int .i64 0]) ?_ rfl ⟨rfl, ?_⟩
  · rw [results_cell1 rfl]
    go_simp
  · exact HB.out _
theorem atom43 {N : Nat} (s : ByteArray) (w : World) : Calls Tryz.prog 43 #[.string s] w (VQ (aggV (atomT (N := N) s).f nilV) w) := by
  have HB := Lib.hid (fun o => belowA (Below.refl w.heap.size w) o (Nat.le_refl _))
  go_enter Tryz.func43, Tryz.ntmps43
  go_wp2_with fail
  (try simp only [Exit.inBlock, Exit.then])
  refine bodyPost_ret (v := .agg #[.int .i64 2, .int .i64 0, .int .i64 0, .string s, .string ⟨#[]⟩, .int .i64 0, .slice none 0 0, .string ⟨#[]⟩, .int .i64 0]) ?_ rfl ⟨rfl, ?_⟩
  · rw [results_cell1 rfl]
    go_simp
  · exact HB.out _
theorem new16 {N : Nat} (w : World) (B : Nat) (hB : B ≤ w.heap.size) : Calls Tryz.prog 16 #[] w fun e w' => e = .returned (.pointer (some ⟨w.heap.size, 0, none⟩)) ∧ TbAt (N := N) w' B (fun _ => False) ⟨w.heap.size, nilV, []⟩ ∧ Below w.heap.size w w' := by
  have HB := Lib.hid (belowA (Below.refl w.heap.size w) (.cells #[.bool true, .slice none 0 0] 74) (Nat.le_refl _))
  have HZ := Lib.hid (alloc_new w (.cells #[.bool true, .slice none 0 0] 74))
  go_enter Tryz.func16, Tryz.ntmps16
  go_wp2_with fail
  go_ret
  exact ⟨rfl, ⟨HZ.out, RecOwn.nil _ _ _, fun t ht => absurd ht List.not_mem_nil, List.nodup_nil, fun i j ti tj h => by simp at h, hB, fun g hg => hg.elim, fun g hg => hg.elim⟩, HB.out⟩
section
variable {N : Nat} {w w' : World} {B : Nat} {F : Nat → Prop}
theorem tab_cells {t : TabE N} (h : w.heap[t.b]? = some (.cells (tabL t).toArray 98)) : Cells w t.b 0 t.ref.f t.ur ∧ Cells w t.b 9 t.own.f t.uo ∧ w.cell? ⟨t.b, 18, none⟩ = some (kindV t.hs) ∧ w.cell? ⟨t.b, 19, none⟩ = some t.vr ∧ ∀ o, w.frozen? ⟨t.b, o, none⟩ = false := by
  have e : ∀ i, w.cell? ⟨t.b, i, none⟩ = (tabL t)[i]? := fun i => by simp only [World.cell?, h]; simp
  refine ⟨⟨e 0, e 1, e 2, e 3, e 4, e 5, e 6, e 7, e 8⟩, ⟨e 9, e 10, e 11, e 12, e 13, e 14, e 15, e 16, e 17⟩, e 18, e 19, fun o => by simp only [World.frozen?, h]; simp⟩
theorem same_in {n : Nat} {a b : Tm (n + 1)} {u1 u2 : Value} {B2 : Nat} (hF : ∀ g, F g → g < w.heap.size) (h1 : ItemsIn w F n u1 a.items) (hB : B2 ≤ w.heap.size) (h2 : ItemsAt w B2 n u2 b.items) : Calls Tryz.prog 66 #[aggV a.f u1, aggV b.f u2] w (BPost (eqB a b) w) :=
  Same66 w w.heap.size u1 u2 a b (Nat.le_refl _) (h1.toAt hF) (h2.more hB)
/-- the closure of table -/
theorem clos82 {t : TabE N} {r : Tm (N + 1)} {u : Value} {zb B2 : Nat} (h : TabAt w B F t) (hF : ∀ g, F g → g < w.heap.size) (hB : B2 ≤ w.heap.size) (hI : ItemsAt w B2 N u r.items) (hz : w.heap[zb]? = some (cells9 r.f u)) :
    Calls Tryz.prog 82 #[.pointer (some ⟨t.b, 0, none⟩), .pointer (some ⟨zb, 0, none⟩)] w (BPost (eqB t.ref r) w) := by
  have HC : Hid (Calls Tryz.prog 66 #[aggV t.ref.f t.ur, aggV r.f u] w.drew (BPost (eqB t.ref r) w.drew)) := Lib.hid (same_in (w := w.drew) hF (ItemsIn.mono (w := w) (w' := w.drew) (F := F) (F' := F) (fun _ _ => rfl) (fun _ hg => hg) h.iref) hB (ItemsAt.same (w := w) (w' := w.drew) (fun _ _ => rfl) hI))
  obtain ⟨⟨x0, x1, x2, x3, x4, x5, x6, x7, x8⟩, _, _, _, _⟩ := tab_cells h.blk
  obtain ⟨y0, y1, y2, y3, y4, y5, y6, y7, y8, yf⟩ := nine_of hz
  obtain ⟨pa, ca, ea, _, _⟩ := ItemsIn.shape h.iref
  obtain ⟨pb, cb, eb, _, _⟩ := hI.shape
  clear h hF hB hI hz
  generalize eqB t.ref r = q at *
  rw [ea] at x6 HC
  rw [eb] at y6 HC
  generalize t.ref.items.length = na at *
  generalize r.items.length = nb at *
  generalize t.ref.f = fa at *
  generalize r.f = fb at *
  generalize t.b = tb at *
  clear ea eb
  obtain ⟨k1, i1, j1, n1, f1, a1, b1, s1⟩ := fa
  obtain ⟨k2, i2, j2, n2, f2, a2, b2, s2⟩ := fb
  unfold aggV at HC
  dsimp only at HC x0 x1 x2 x3 x4 x5 x6 x7 x8 y0 y1 y2 y3 y4 y5 y6 y7 y8
  simp only [Nat.reduceAdd] at x0 x1 x2 x3 x4 x5 x6 x7 x8
  go_enter Tryz.func82, Tryz.ntmps82
  go_wp2_with fail
  go_still_tail 5, (by kernel_rfl)
  change wpList _ _ _ _ _ w.drew
  clear x0 x1 x2 x3 x4 x5 x6 x7 x8 y0 y1 y2 y3 y4 y5 y6 y7 y8 yf
  have HBd := Lib.hid (belowD (Below.refl w.heap.size w))
  go_wp2_with fail
  refine HC.out.mono ?_
  rintro e w3 ⟨rfl, hb3⟩
  have HB4 := Lib.hid (HBd.out.trans (hb3.mono HBd.out.size))
  clear hb3
  go_wp2_with fail
  go_ret
  exact ⟨rfl, HB4.out⟩
end
end Go.Proofs.YtfbggmbmgohiiaaGreat.tb
/- table: which table has a name. Conditions: the object lies in memory. -/
namespace Go.Proofs.YtfbggmbmgohiiaaGreat.tb
open Go.RowKit mem rec tm names
set_option linter.unusedVariables false
set_option linter.unusedSimpArgs false
set_option maxHeartbeats 4000000
set_option maxRecDepth 100000
noncomputable def refAt {N : Nat} (l : List (TabE N)) (r : Tm (N + 1)) : Option Nat := l.findIdx? (fun t => eqB t.ref r)
def optI (o : Option Nat) : Int := match o with
  | none => -1
  | some i => i
section
variable {N : Nat} {w w' : World} {B : Nat} {F : Nat → Prop} {s : TbSt N}
theorem find_none {α : Type} {p : α → Bool} {l : List α} (h : ∀ j, (hj : j < l.length) → p l[j] = false) : l.findIdx? p = none := by
  rw [List.findIdx?_eq_none_iff]
  intro x hx
  obtain ⟨j, hj, rfl⟩ := List.mem_iff_getElem.1 hx
  exact h j hj
theorem find_some {α : Type} {p : α → Bool} {l : List α} {i : Nat} (hi : i < l.length) (h : ∀ j, (hj : j < i) → p (l[j]'(by omega)) = false) (hp : p l[i] = true) : l.findIdx? p = some i := by
  rw [List.findIdx?_eq_some_iff_getElem]
  exact ⟨hi, hp, fun j hj => by rw [h j hj]; simp⟩
theorem TbAt.ptr (h : TbAt w B F s) {i : Nat} (hi : i < s.tabs.length) : ∃ g c, s.vl = .slice (some ⟨g, 0, none⟩) s.tabs.length c ∧ g < w.heap.size ∧ w.cell? ⟨g, i, none⟩ = some (.pointer (some ⟨(s.tabs[i]).b, 0, none⟩)) := by
  have hr := h.l
  rcases id hr.2 with ⟨_, h0⟩ | ⟨g, cap, cur, h1, _, hh, _⟩
  · rw [List.length_map] at h0; omega
  · rw [List.length_map] at h1
    have hrow := hr.row (ptrL_ok _)
    rw [h1] at hrow
    obtain ⟨g', o, e, _, hg, hc⟩ := hrow.nth (by rw [List.length_map]; omega)
    simp only [Option.some.injEq, Addr.mk.injEq, and_true] at e
    obtain ⟨rfl, rfl⟩ := e
    refine ⟨g, cap, h1, hg, ?_⟩
    have := hc i (s.tabs[i]).b (by rw [List.getElem?_map, List.getElem?_eq_getElem hi]; rfl) 0 _ rfl
    simpa using this
def IdxI (l : List (TabE N)) (r : Tm (N + 1)) (w : World) (m : Nat) (iv : Value) (wr : World) : Prop := ∃ i : Nat, iv = .int .i64 (i : Int) ∧ i ≤ l.length ∧ m = l.length - i ∧ (∀ j, (hj : j < i) → (hl : j < l.length) → eqB (l[j]).ref r = false) ∧ Below w.heap.size w wr
theorem index81 (h : TbAt w B F s) (hlen : s.tabs.length ≤ 1000) {r : Tm (N + 1)} {u : Value} {zb B2 : Nat} (hB : B2 ≤ w.heap.size) (hI : ItemsAt w B2 N u r.items) (hz : w.heap[zb]? = some (cells9 r.f u)) :
    Calls Tryz.prog 81 #[s.vl, .func (.func 82) #[] #[.pointer (some ⟨zb, 0, none⟩)]] w fun e w' => e = .returned (.int .i64 (optI (refAt s.tabs r))) ∧ Below w.heap.size w w' := by
  have hzl := (Array.getElem?_eq_some_iff.1 hz).1
  obtain ⟨pl, cl, hv, _, _⟩ := h.l.shape
  rw [List.length_map] at hv
  have HC := Lib.hid (fun (W : World) (hW : Below w.heap.size w W) (i : Nat) (hi : i < s.tabs.length) => clos82 ((h.below hW).tabs _ (List.getElem_mem hi)) (h.below hW).fl (Nat.le_trans hB hW.size) (hI.below hW hB) ((hW.block _ hzl).trans hz))
  have HPt := Lib.hid (fun (W : World) (hW : Below w.heap.size w W) (i : Nat) (hi : i < s.tabs.length) => (h.below hW).ptr hi)
  clear h hB hI hz hzl
  generalize s.tabs = l at *
  rw [hv] at HPt ⊢
  clear hv
  have H00 : Hid (IdxI l r w l.length (.int .i64 0) w) := Lib.hid ⟨0, rfl, Nat.zero_le _, rfl, fun j hj => by omega, Below.refl _ _⟩
  go_enter Tryz.func81, Tryz.ntmps81
  go_wp2_with fail
  go_loopg [8] l.length (fun m iv wr => Hid (IdxI l r w m iv wr))
  case atStart => exact H00
  case round =>
    obtain ⟨i, rfl, hi, hm, hno, hb⟩ := hrel.out
    clear hrel H00
    have HM := Lib.hid hm
    have HNo := Lib.hid hno
    have HB := Lib.hid hb
    clear hm hno
    by_cases hlt : i < l.length
    · obtain ⟨g, c, hv, hg, hp⟩ := HPt.out wr hb i hlt
      simp only [Value.slice.injEq] at hv
      obtain ⟨rfl, _, rfl⟩ := hv
      have HCi := Lib.hid (HC.out wr hb i hlt)
      have HNe := Lib.hid (fun (e : eqB (l[i]).ref r = false) => (fun j (hj : j < i + 1) (hl : j < l.length) => (by
        by_cases h : j < i
        · exact HNo.out j h hl
        · obtain rfl : j = i := by omega
          exact e : eqB (l[j]).ref r = false)))
      have HYe := Lib.hid (fun (e : eqB (l[i]).ref r = true) => (find_some (p := fun t : TabE N => eqB t.ref r) hlt (fun j hj => HNo.out j hj (by omega)) e))
      clear hg hb
      generalize (l[i]).b = tb at *
      generalize eqB (l[i]).ref r = q at *
      go_wp2_with fail
      refine HCi.out.mono ?_
      rintro e w2 ⟨rfl, hb2⟩
      have HB2 := Lib.hid (HB.out.trans (hb2.mono HB.out.size))
      clear hb2 hp
      cases q
      · have HN := Lib.hid (HNe.out rfl)
        go_wp2_with fail
        go_roundg (l.length - (i + 1))
        case measure => have := HM.out; omega
        case rel => exact Lib.hid ⟨i + 1, by go_num, by omega, rfl, HN.out, HB2.out⟩
      · have HY := Lib.hid (HYe.out rfl)
        go_wp2_with fail
        go_ret
        refine ⟨?_, HB2.out⟩
        unfold refAt
        rw [HY.out]
        rfl
    · have hn := find_none (p := fun t : TabE N => eqB t.ref r) (l := l) (fun j hj => HNo.out j (by omega) hj)
      have HN := Lib.hid hn
      clear hn
      go_wp2_with fail
      go_ret
      refine ⟨?_, HB.out⟩
      unfold refAt
      rw [HN.out]
      rfl
end
end Go.Proofs.YtfbggmbmgohiiaaGreat.tb
/- table, Size. Conditions: the object lies in memory. -/
namespace Go.Proofs.YtfbggmbmgohiiaaGreat.tb
open Go.RowKit mem rec tm names
set_option linter.unusedVariables false
set_option linter.unusedSimpArgs false
set_option maxHeartbeats 4000000
set_option maxRecDepth 100000
section
variable {N : Nat} {w w' : World} {B : Nat} {F : Nat → Prop} {s : TbSt N}
theorem refAt_lt {l : List (TabE N)} {r : Tm (N + 1)} {i : Nat} (h : refAt l r = some i) : ∃ hi : i < l.length, l[i].ref = r := by
  unfold refAt at h
  rw [List.findIdx?_eq_some_iff_getElem] at h
  obtain ⟨hi, hp, _⟩ := h
  exact ⟨hi, of_eqB hp⟩
/-- what table hands back: where the table lies, and the error -/
def TabR (l : List (TabE N)) (r : Tm (N + 1)) (po : Option Addr) (er : Int) : Prop := (refAt l r = none ∧ po = none ∧ er = 4) ∨ ∃ i, ∃ hi : i < l.length, refAt l r = some i ∧ po = some ⟨(l[i]).b, 0, none⟩ ∧ er = 0
theorem TabR.of (l : List (TabE N)) (r : Tm (N + 1)) : ∃ po er, TabR l r po er := by
  cases h : refAt l r with
  | none => exact ⟨none, 4, .inl ⟨h, rfl, rfl⟩⟩
  | some i => obtain ⟨hi, _⟩ := refAt_lt h; exact ⟨_, 0, .inr ⟨i, hi, h, rfl, rfl⟩⟩
theorem table49 (h : TbAt w B F s) (hlen : s.tabs.length ≤ 1000) {r : Tm (N + 1)} {u : Value} {B2 : Nat} (hB : B2 ≤ w.heap.size) (hI : ItemsAt w B2 N u r.items) {po : Option Addr} {er : Int} (hR : TabR s.tabs r po er) :
    Calls Tryz.prog 49 #[.pointer (some ⟨s.z, 0, none⟩), aggV r.f u] w fun e w' => e = .returned (.tuple #[.pointer po, .int .i64 er]) ∧ Below w.heap.size w w' := by
  have hb0 := belowA (Below.refl w.heap.size w) (cells9 r.f u) (Nat.le_refl _)
  have hx0 := index81 (h.below hb0) hlen (Nat.le_trans hB hb0.size) (hI.below hb0 hB) (alloc_new w (cells9 r.f u))
  have HO := Lib.hid (fun (W : World) (hW : Below w.heap.size w W) => two_cells (h.below hW).obj)
  have HPt := Lib.hid (fun (W : World) (hW : Below w.heap.size w W) (i : Nat) (hi : i < s.tabs.length) => (h.below hW).ptr hi)
  obtain ⟨pl, cl, hv, _, _⟩ := h.l.shape
  rw [List.length_map] at hv
  obtain ⟨pu, cu, eu, _, _⟩ := hI.shape
  generalize s.z = z at *
  unfold TabR at hR
  generalize hq : refAt s.tabs r = q at *
  generalize s.tabs = l at *
  rw [hv] at hx0 HO HPt
  rw [eu] at hx0 hb0 ⊢
  clear h hB hI hv eu hq
  generalize r.items.length = nr at *
  generalize r.f = f at *
  obtain ⟨fk, fi, fg, fn, ff, fa, fb, fs⟩ := f
  unfold aggV
  unfold cells9 at hx0 hb0
  dsimp only at hx0 hb0 ⊢
  obtain ⟨o0, o1, of⟩ := HO.out _ hb0
  have HB0 := Lib.hid hb0
  have HX := Lib.hid hx0
  have HR := Lib.hid hR
  clear hx0 hb0 hR
  rcases HR.out with ⟨rfl, rfl, rfl⟩ | ⟨i, hi, rfl, rfl, rfl⟩
  · clear HPt HR
    unfold optI at HX
    dsimp only at HX
    go_enter Tryz.func49, Tryz.ntmps49
    go_upto_region 1 with (fail)
    generalize (w.alloc (.cells #[.int .i64 fk, .int .i64 fi, .int .i64 fg, .string fn, .string ff, .int .i64 fa, .slice pu nr cu, .string fb, .int .i64 fs] 24)) = W1 at *
    go_wp2_with fail
    refine HX.out.mono ?_
    rintro e w2 ⟨rfl, hb2⟩
    have hbw := HB0.out.trans (hb2.mono HB0.out.size)
    have HB2 := Lib.hid hbw
    obtain ⟨o0, o1, of⟩ := HO.out _ hbw
    clear hb2
    go_wp2_with fail
    go_ret2
    exact ⟨rfl, HB2.out⟩
  · have HPi := Lib.hid (fun W hW => HPt.out W hW i hi)
    clear HPt HR
    unfold optI at HX
    dsimp only at HX
    generalize (l[i]).b = tb at *
    go_enter Tryz.func49, Tryz.ntmps49
    go_upto_region 1 with (fail)
    generalize (w.alloc (.cells #[.int .i64 fk, .int .i64 fi, .int .i64 fg, .string fn, .string ff, .int .i64 fa, .slice pu nr cu, .string fb, .int .i64 fs] 24)) = W1 at *
    go_wp2_with fail
    refine HX.out.mono ?_
    rintro e w2 ⟨rfl, hb2⟩
    have hbw := HB0.out.trans (hb2.mono HB0.out.size)
    have HB2 := Lib.hid hbw
    obtain ⟨o0, o1, of⟩ := HO.out _ hbw
    clear hb2
    obtain ⟨g, c, hv, hg, hp⟩ := HPi.out w2 hbw
    simp only [Value.slice.injEq] at hv
    obtain ⟨rfl, _, rfl⟩ := hv
    clear hbw hg
    go_wp2_with fail
    go_ret2
    exact ⟨rfl, HB2.out⟩
theorem size31 (h : TbAt w B F s) (hlen : s.tabs.length ≤ 1000) {r : Tm (N + 1)} {u : Value} {B2 : Nat} (hB : B2 ≤ w.heap.size) (hI : ItemsAt w B2 N u r.items) {n er : Int} (hr : (refAt s.tabs r = none ∧ n = 0 ∧ er = 4) ∨ ∃ i, ∃ hi : i < s.tabs.length, refAt s.tabs r = some i ∧ n = (s.tabs[i]).rows.length ∧ er = 0) :
    Calls Tryz.prog 31 #[.pointer (some ⟨s.z, 0, none⟩), aggV r.f u] w fun e w' => e = .returned (.tuple #[.int .i64 n, .int .i64 er]) ∧ Below w.heap.size w w' := by
  have hb0 := belowA (Below.refl w.heap.size w) (cells9 r.f u) (Nat.le_refl _)
  have hx0 := fun po er hR => table49 (h.below hb0) hlen (Nat.le_trans hB hb0.size) (hI.below hb0 hB) (po := po) (er := er) hR
  have hn := nine_of (alloc_new w (cells9 r.f u))
  have HTb := Lib.hid (fun (W : World) (hW : Below w.heap.size w W) (i : Nat) (hi : i < s.tabs.length) => (tab_cells ((h.below hW).tabs _ (List.getElem_mem hi)).blk).2.2.2.1)
  have HVr := Lib.hid (fun (i : Nat) (hi : i < s.tabs.length) => (h.tabs _ (List.getElem_mem hi)).rows.shape)
  obtain ⟨pu, cu, eu, _, _⟩ := hI.shape
  unfold TabR at hx0
  generalize hq : refAt s.tabs r = q at *
  generalize s.tabs = l at *
  generalize s.z = z at *
  rw [eu] at hx0 hb0 hn ⊢
  clear h hB hI eu hq
  generalize r.items.length = nr at *
  generalize r.f = f at *
  obtain ⟨fk, fi, fg, fn, ff, fa, fb, fs⟩ := f
  obtain ⟨x0, x1, x2, x3, x4, x5, x6, x7, x8, xf⟩ := hn
  unfold aggV at hx0 ⊢
  unfold cells9 at hx0 hb0 x0 x1 x2 x3 x4 x5 x6 x7 x8 xf
  dsimp only at hx0 hb0 x0 x1 x2 x3 x4 x5 x6 x7 x8 xf ⊢
  have HB0 := Lib.hid hb0
  have HX := Lib.hid hx0
  clear hx0 hb0
  rcases hr with ⟨rfl, rfl, rfl⟩ | ⟨i, hi, rfl, rfl, rfl⟩
  · have HT := Lib.hid (HX.out none 4 (by simp))
    clear HX HTb HVr
    go_enter Tryz.func31, Tryz.ntmps31
    go_wp2_with fail
    refine HT.out.mono ?_
    rintro e w2 ⟨rfl, hb2⟩
    have hbw := HB0.out.trans (hb2.mono HB0.out.size)
    have HB2 := Lib.hid hbw
    clear hb2 x0 x1 x2 x3 x4 x5 x6 x7 x8 xf
    go_wp2_with fail
    go_ret2
    exact ⟨rfl, HB2.out⟩
  · have HT := Lib.hid (HX.out _ 0 (.inr ⟨i, hi, rfl, rfl, rfl⟩))
    have HTi := Lib.hid (fun W hW => HTb.out W hW i hi)
    obtain ⟨pr, cr, hvr, _, _⟩ := HVr.out i hi
    rw [hvr] at HTi
    clear HX HTb HVr hvr
    generalize (l[i]).rows.length = nrw at *
    generalize (l[i]).b = tb at *
    go_enter Tryz.func31, Tryz.ntmps31
    go_wp2_with fail
    refine HT.out.mono ?_
    rintro e w2 ⟨rfl, hb2⟩
    have hbw := HB0.out.trans (hb2.mono HB0.out.size)
    have HB2 := Lib.hid hbw
    clear hb2 x0 x1 x2 x3 x4 x5 x6 x7 x8 xf
    have hc := HTi.out w2 hbw
    go_wp2_with fail
    go_ret2
    exact ⟨rfl, HB2.out⟩
end
end Go.Proofs.YtfbggmbmgohiiaaGreat.tb
/- before. Conditions: the terms lie in memory. -/
namespace Go.Proofs.YtfbggmbmgohiiaaGreat.tb
open Go.RowKit mem rec tm names
set_option linter.unusedVariables false
set_option linter.unusedSimpArgs false
set_option maxHeartbeats 4000000
set_option maxRecDepth 100000
/-- is a key before another one? -/
noncomputable def befB {N : Nat} (hs : Bool) (x y : Tm (N + 1)) (a b : Int) : Bool := if hs then (decide (a < b) || ((a == b) && decide (cmpV x y < 0))) else decide (cmpV x y < 0)
theorem two_boxes (w : World) (o1 o2 : Obj) : Below w.heap.size w ((w.alloc o1).alloc o2) ∧ ((w.alloc o1).alloc o2).heap[w.heap.size]? = some o1 ∧ ((w.alloc o1).alloc o2).heap[w.heap.size + 1]? = some o2 := by
  have h1 := belowA (Below.refl w.heap.size w) o1 (Nat.le_refl _)
  refine ⟨belowA h1 o2 h1.size, (Below.heap_alloc _ _ _ (by rw [World.size_alloc]; omega)).trans (alloc_new w o1), ?_⟩
  have := alloc_new (w.alloc o1) o2
  rwa [World.size_alloc] at this
theorem bef177 {N : Nat} (w : World) (B : Nat) (u1 u2 : Value) (x y : Tm (N + 1)) (a b : Int) (hB : B ≤ w.heap.size) (h1 : ItemsAt w B N u1 x.items) (h2 : ItemsAt w B N u2 y.items) (s1 : 300 * (nodesT x : Int) ≤ 1000000000000) (s2 : 300 * (nodesT y : Int) ≤ 1000000000000) :
    Calls Tryz.prog 177 #[.agg #[], aggV x.f u1, aggV y.f u2, .int .u32 a, .int .u32 b] w (BPost (befB false x y a b) w) := by
  have HL := Lib.hid (fun W (hW : Below w.heap.size w W) => Less W B u1 u2 x y (Nat.le_trans hB hW.size) (h1.below hW hB) (h2.below hW hB) s1 s2)
  have hbf : befB false x y a b = decide (cmpV x y < 0) := rfl
  rw [hbf]
  obtain ⟨pa, ca, rfl, _, _⟩ := h1.shape
  obtain ⟨pb, cb, rfl, _, _⟩ := h2.shape
  generalize decide (cmpV x y < 0) = q at *
  generalize x.items.length = na at *
  generalize y.items.length = nb at *
  generalize x.f = fa at *
  generalize y.f = fb at *
  clear h1 h2 s1 s2 hB hbf
  obtain ⟨k1, i1, j1, n1, f1, a1, b1, t1⟩ := fa
  obtain ⟨k2, i2, j2, n2, f2, a2, b2, t2⟩ := fb
  unfold aggV at *
  dsimp only at HL ⊢
  have hb0 := belowA (Below.refl w.heap.size w) (.cells #[] 93) (Nat.le_refl _)
  obtain ⟨hb1, hc1, hc2⟩ := two_boxes (w.alloc (.cells #[] 93)) (.cells #[.int .i64 k1, .int .i64 i1, .int .i64 j1, .string n1, .string f1, .int .i64 a1, .slice pa na ca, .string b1, .int .i64 t1] 24) (.cells #[.int .i64 k2, .int .i64 i2, .int .i64 j2, .string n2, .string f2, .int .i64 a2, .slice pb nb cb, .string b2, .int .i64 t2] 24)
  rw [World.size_alloc] at hc1 hc2
  have HB := Lib.hid (hb0.trans (hb1.mono hb0.size))
  have HN1 := Lib.hid (nine_of (f := ⟨k1, i1, j1, n1, f1, a1, b1, t1⟩) (v := .slice pa na ca) hc1)
  have HN2 := Lib.hid (nine_of (f := ⟨k2, i2, j2, n2, f2, a2, b2, t2⟩) (v := .slice pb nb cb) hc2)
  clear hb0 hb1 hc1 hc2
  go_enter Tryz.func177, Tryz.ntmps177
  go_upto_region 1 with (fail)
  generalize (((w.alloc (.cells #[] 93)).alloc (.cells #[.int .i64 k1, .int .i64 i1, .int .i64 j1, .string n1, .string f1, .int .i64 a1, .slice pa na ca, .string b1, .int .i64 t1] 24)).alloc (.cells #[.int .i64 k2, .int .i64 i2, .int .i64 j2, .string n2, .string f2, .int .i64 a2, .slice pb nb cb, .string b2, .int .i64 t2] 24)) = W1 at *
  obtain ⟨x0, x1, x2, x3, x4, x5, x6, x7, x8, xf⟩ := HN1.out
  obtain ⟨y0, y1, y2, y3, y4, y5, y6, y7, y8, yf⟩ := HN2.out
  dsimp only at x0 x1 x2 x3 x4 x5 x6 x7 x8 y0 y1 y2 y3 y4 y5 y6 y7 y8
  go_wp2_with fail
  refine (HL.out _ HB.out).mono ?_
  rintro e w2 ⟨rfl, hb2⟩
  have HB2 := Lib.hid (HB.out.trans (hb2.mono HB.out.size))
  clear hb2 x0 x1 x2 x3 x4 x5 x6 x7 x8 xf y0 y1 y2 y3 y4 y5 y6 y7 y8 yf
  go_wp2_with fail
  go_ret
  exact ⟨rfl, HB2.out⟩
theorem bef179 {N : Nat} (w : World) (B : Nat) (u1 u2 : Value) (x y : Tm (N + 1)) (a b : Int) (hB : B ≤ w.heap.size) (h1 : ItemsAt w B N u1 x.items) (h2 : ItemsAt w B N u2 y.items) (s1 : 300 * (nodesT x : Int) ≤ 1000000000000) (s2 : 300 * (nodesT y : Int) ≤ 1000000000000) :
    Calls Tryz.prog 179 #[.agg #[], aggV x.f u1, aggV y.f u2, .int .u32 a, .int .u32 b] w (BPost (befB true x y a b) w) := by
  have HL := Lib.hid (fun W (hW : Below w.heap.size w W) => Less W B u1 u2 x y (Nat.le_trans hB hW.size) (h1.below hW hB) (h2.below hW hB) s1 s2)
  have hbf : befB true x y a b = (decide (a < b) || ((a == b) && decide (cmpV x y < 0))) := rfl
  rw [hbf]
  obtain ⟨pa, ca, rfl, _, _⟩ := h1.shape
  obtain ⟨pb, cb, rfl, _, _⟩ := h2.shape
  generalize decide (cmpV x y < 0) = q at *
  generalize x.items.length = na at *
  generalize y.items.length = nb at *
  generalize x.f = fa at *
  generalize y.f = fb at *
  clear h1 h2 s1 s2 hB hbf
  obtain ⟨k1, i1, j1, n1, f1, a1, b1, t1⟩ := fa
  obtain ⟨k2, i2, j2, n2, f2, a2, b2, t2⟩ := fb
  unfold aggV at *
  dsimp only at HL ⊢
  have hb0 := belowA (Below.refl w.heap.size w) (.cells #[] 99) (Nat.le_refl _)
  obtain ⟨hb1, hc1, hc2⟩ := two_boxes (w.alloc (.cells #[] 99)) (.cells #[.int .i64 k1, .int .i64 i1, .int .i64 j1, .string n1, .string f1, .int .i64 a1, .slice pa na ca, .string b1, .int .i64 t1] 24) (.cells #[.int .i64 k2, .int .i64 i2, .int .i64 j2, .string n2, .string f2, .int .i64 a2, .slice pb nb cb, .string b2, .int .i64 t2] 24)
  rw [World.size_alloc] at hc1 hc2
  have HB := Lib.hid (hb0.trans (hb1.mono hb0.size))
  have HN1 := Lib.hid (nine_of (f := ⟨k1, i1, j1, n1, f1, a1, b1, t1⟩) (v := .slice pa na ca) hc1)
  have HN2 := Lib.hid (nine_of (f := ⟨k2, i2, j2, n2, f2, a2, b2, t2⟩) (v := .slice pb nb cb) hc2)
  clear hb0 hb1 hc1 hc2
  by_cases c1 : a < b
  · have hd : decide (a < b) = true := decide_eq_true c1
    rw [hd, Bool.true_or]
    go_enter Tryz.func179, Tryz.ntmps179
    go_upto_region 1 with (fail)
    generalize (((w.alloc (.cells #[] 99)).alloc (.cells #[.int .i64 k1, .int .i64 i1, .int .i64 j1, .string n1, .string f1, .int .i64 a1, .slice pa na ca, .string b1, .int .i64 t1] 24)).alloc (.cells #[.int .i64 k2, .int .i64 i2, .int .i64 j2, .string n2, .string f2, .int .i64 a2, .slice pb nb cb, .string b2, .int .i64 t2] 24)) = W1 at *
    obtain ⟨x0, x1, x2, x3, x4, x5, x6, x7, x8, xf⟩ := HN1.out
    obtain ⟨y0, y1, y2, y3, y4, y5, y6, y7, y8, yf⟩ := HN2.out
    dsimp only at x0 x1 x2 x3 x4 x5 x6 x7 x8 y0 y1 y2 y3 y4 y5 y6 y7 y8
    go_wp2_with fail
    go_ret
    exact ⟨rfl, HB.out⟩
  · have hd : decide (a < b) = false := decide_eq_false c1
    rw [hd, Bool.false_or]
    by_cases c2 : a = b
    · have he : (a == b) = true := by simp [c2]
      rw [he, Bool.true_and]
      clear c1 c2
      go_enter Tryz.func179, Tryz.ntmps179
      go_upto_region 1 with (fail)
      generalize (((w.alloc (.cells #[] 99)).alloc (.cells #[.int .i64 k1, .int .i64 i1, .int .i64 j1, .string n1, .string f1, .int .i64 a1, .slice pa na ca, .string b1, .int .i64 t1] 24)).alloc (.cells #[.int .i64 k2, .int .i64 i2, .int .i64 j2, .string n2, .string f2, .int .i64 a2, .slice pb nb cb, .string b2, .int .i64 t2] 24)) = W1 at *
      obtain ⟨x0, x1, x2, x3, x4, x5, x6, x7, x8, xf⟩ := HN1.out
      obtain ⟨y0, y1, y2, y3, y4, y5, y6, y7, y8, yf⟩ := HN2.out
      dsimp only at x0 x1 x2 x3 x4 x5 x6 x7 x8 y0 y1 y2 y3 y4 y5 y6 y7 y8
      go_wp2_with fail
      refine (HL.out _ HB.out).mono ?_
      rintro e w2 ⟨rfl, hb2⟩
      have HB2 := Lib.hid (HB.out.trans (hb2.mono HB.out.size))
      clear hb2 x0 x1 x2 x3 x4 x5 x6 x7 x8 xf y0 y1 y2 y3 y4 y5 y6 y7 y8 yf
      go_wp2_with fail
      go_ret
      exact ⟨rfl, HB2.out⟩
    · have he : (a == b) = false := by simp [c2]
      rw [he, Bool.false_and]
      clear c1 c2
      go_enter Tryz.func179, Tryz.ntmps179
      go_upto_region 1 with (fail)
      generalize (((w.alloc (.cells #[] 99)).alloc (.cells #[.int .i64 k1, .int .i64 i1, .int .i64 j1, .string n1, .string f1, .int .i64 a1, .slice pa na ca, .string b1, .int .i64 t1] 24)).alloc (.cells #[.int .i64 k2, .int .i64 i2, .int .i64 j2, .string n2, .string f2, .int .i64 a2, .slice pb nb cb, .string b2, .int .i64 t2] 24)) = W1 at *
      obtain ⟨x0, x1, x2, x3, x4, x5, x6, x7, x8, xf⟩ := HN1.out
      obtain ⟨y0, y1, y2, y3, y4, y5, y6, y7, y8, yf⟩ := HN2.out
      dsimp only at x0 x1 x2 x3 x4 x5 x6 x7 x8 y0 y1 y2 y3 y4 y5 y6 y7 y8
      go_wp2_with fail
      go_ret
      exact ⟨rfl, HB.out⟩
end Go.Proofs.YtfbggmbmgohiiaaGreat.tb
/- The closure of find. Conditions: the table and the closure's variables lie in memory. -/
namespace Go.Proofs.YtfbggmbmgohiiaaGreat.tb
open Go.RowKit mem rec tm names
set_option linter.unusedVariables false
set_option linter.unusedSimpArgs false
set_option maxHeartbeats 4000000
set_option maxRecDepth 100000
section
variable {N : Nat} {w w' : World} {B : Nat} {F : Nat → Prop} {t : TabE N}
theorem TabAt.below (h : TabAt w B F t) (hb : Below w.heap.size w w') (hF : ∀ g, F g → g < w.heap.size) : TabAt w' B F t := h.same (hb.block _ h.lt) (fun k hk => hb.block k (h.rows.lt hk).2) (fun g hg => hb.block g (hF g hg)) (fun _ hg => hg)
/-- a row in memory -/
theorem TabAt.rowc (h : TabAt w B F t) {i : Nat} (hi : i < t.rows.length) : ∃ g c, t.vr = .slice (some ⟨g, 0, none⟩) t.rows.length c ∧ g < w.heap.size ∧ Cells w g (i * 19) (t.rows[i]).k.f (t.rows[i]).uk ∧ Cells w g (i * 19 + 9) (t.rows[i]).v.f (t.rows[i]).uv ∧ w.cell? ⟨g, i * 19 + 18, none⟩ = some (.int .u32 (t.rows[i]).h) := by
  rcases id h.rows.2 with ⟨_, h0⟩ | ⟨g, cap, cur, h1, _, hh, _⟩
  · omega
  · have hrow := h.rows.row h.enc
    rw [h1] at hrow
    obtain ⟨g', o, e, _, hg, hc⟩ := hrow.nth (by omega)
    simp only [Option.some.injEq, Addr.mk.injEq, and_true] at e
    obtain ⟨rfl, rfl⟩ := e
    have hx : ∀ k u, (rowL t.rows[i])[k]? = some u → w.cell? ⟨g, i * 19 + k, none⟩ = some u := fun k u hu => by
      have := hc i _ (List.getElem?_eq_getElem hi) k u hu
      rwa [Nat.zero_add] at this
    exact ⟨g, cap, h1, hg, ⟨hx 0 _ rfl, hx 1 _ rfl, hx 2 _ rfl, hx 3 _ rfl, hx 4 _ rfl, hx 5 _ rfl, hx 6 _ rfl, hx 7 _ rfl, hx 8 _ rfl⟩, ⟨hx 9 _ rfl, hx 10 _ rfl, hx 11 _ rfl, hx 12 _ rfl, hx 13 _ rfl, hx 14 _ rfl, hx 15 _ rfl, hx 16 _ rfl, hx 17 _ rfl⟩, hx 18 _ rfl⟩
theorem one_cell {w : World} {z : Nat} {a : Value} {ty : TypeId} (h : w.heap[z]? = some (.cells #[a] ty)) : w.cell? ⟨z, 0, none⟩ = some a ∧ ∀ o, w.frozen? ⟨z, o, none⟩ = false := by
  refine ⟨?_, fun o => ?_⟩
  · simp only [World.cell?, h]; rfl
  · simp only [World.frozen?, h]; simp
theorem clos88 (h : TabAt w B F t) (hF : ∀ g, F g → g < w.heap.size) {r : Tm (N + 1)} {u : Value} {zt zk zh B2 : Nat} {hh : Int} (hB : B2 ≤ w.heap.size) (hI : ItemsAt w B2 N u r.items) (hn : 300 * (nodesT r : Int) ≤ 1000000000000)
    (hzt : w.heap[zt]? = some (.cells #[.pointer (some ⟨t.b, 0, none⟩)] 89)) (hzk : w.heap[zk]? = some (cells9 r.f u)) (hzh : w.heap[zh]? = some (.cells #[.int .u32 hh] 28)) {i : Nat} (hi : i < t.rows.length) (hnr : 300 * (nodesT (t.rows[i]).k : Int) ≤ 1000000000000) :
    Calls Tryz.prog 88 #[.int .i64 i, .pointer (some ⟨zt, 0, none⟩), .pointer (some ⟨zk, 0, none⟩), .pointer (some ⟨zh, 0, none⟩)] w (BPost (!befB t.hs (t.rows[i]).k r (t.rows[i]).h hh) w) := by
  have hit := (h.irow _ (List.getElem_mem hi)).1
  have hC1 := fun (a b : Int) => bef177 w.drew w.heap.size (t.rows[i]).uk u (t.rows[i]).k r a b (Nat.le_refl _) (ItemsIn.toAt hF (ItemsIn.mono (w := w) (w' := w.drew) (F := F) (F' := F) (fun _ _ => rfl) (fun _ hg => hg) hit)) ((ItemsAt.same (w := w) (w' := w.drew) (fun _ _ => rfl) hI).more hB) hnr hn
  have hC2 := fun (a b : Int) => bef179 w.drew w.heap.size (t.rows[i]).uk u (t.rows[i]).k r a b (Nat.le_refl _) (ItemsIn.toAt hF (ItemsIn.mono (w := w) (w' := w.drew) (F := F) (F' := F) (fun _ _ => rfl) (fun _ hg => hg) hit)) ((ItemsAt.same (w := w) (w' := w.drew) (fun _ _ => rfl) hI).more hB) hnr hn
  obtain ⟨g, cg, hv, hg, ⟨x0, x1, x2, x3, x4, x5, x6, x7, x8⟩, xv, xh⟩ := h.rowc hi
  clear xv
  obtain ⟨_, _, c18, c19, _⟩ := tab_cells h.blk
  obtain ⟨y0, y1, y2, y3, y4, y5, y6, y7, y8, yf⟩ := nine_of hzk
  obtain ⟨zt0, _⟩ := one_cell hzt
  obtain ⟨zh0, _⟩ := one_cell hzh
  obtain ⟨pa, ca, ea, _, _⟩ := ItemsIn.shape hit
  obtain ⟨pb, cb, eb, _, _⟩ := hI.shape
  have hcb := h.rows.shape
  obtain ⟨q1, q2, q3, hcc, hcm⟩ := hcb
  clear q3
  clear h hF hB hI hn hzt hzk hzh hnr hit
  rw [ea] at x6 hC1 hC2
  rw [eb] at y6 hC1 hC2
  rw [hv] at c19
  clear ea eb hv
  have hir : (i : Int) < (t.rows.length : Int) := by omega
  generalize t.rows[i] = row at *
  generalize t.rows.length = nr at *
  generalize row.k.items.length = na at *
  generalize r.items.length = nb at *
  have HC1 := Lib.hid (hC1 row.h hh)
  have HC2 := Lib.hid (hC2 row.h hh)
  clear hC1 hC2
  generalize row.k.f = fa at *
  generalize r.f = fb at *
  generalize t.b = tb at *
  generalize row.h = hr at *
  generalize row.k = ke at *
  generalize t.hs = hs at *
  obtain ⟨k1, i1, j1, n1, f1, a1, b1, t1⟩ := fa
  obtain ⟨k2, i2, j2, n2, f2, a2, b2, t2⟩ := fb
  unfold aggV at HC1 HC2
  dsimp only at HC1 HC2 x0 x1 x2 x3 x4 x5 x6 x7 x8 y0 y1 y2 y3 y4 y5 y6 y7 y8
  unfold maxLen at hcm
  cases hs
  · generalize befB false ke r hr hh = q at *
    have e18 : kindV false = .iface 93 (.agg #[]) := rfl
    rw [e18] at c18
    clear HC2 e18
    go_enter Tryz.func88, Tryz.ntmps88
    go_wp2_with fail
    go_still_tail 24, (by kernel_rfl)
    change wpList _ _ _ _ _ w.drew
    clear x0 x1 x2 x3 x4 x5 x6 x7 x8 y0 y1 y2 y3 y4 y5 y6 y7 y8 yf xh c18 c19 zt0 zh0
    have HBd := Lib.hid (belowD (Below.refl w.heap.size w))
    go_wp2_with fail
    refine HC1.out.mono ?_
    rintro e w3 ⟨rfl, hb3⟩
    have HB4 := Lib.hid (HBd.out.trans (hb3.mono HBd.out.size))
    clear hb3
    go_wp2_with fail
    go_ret
    exact ⟨rfl, HB4.out⟩
  · generalize befB true ke r hr hh = q at *
    have e18 : kindV true = .iface 99 (.agg #[]) := rfl
    rw [e18] at c18
    clear HC1 e18
    go_enter Tryz.func88, Tryz.ntmps88
    go_wp2_with fail
    go_still_tail 24, (by kernel_rfl)
    change wpList _ _ _ _ _ w.drew
    clear x0 x1 x2 x3 x4 x5 x6 x7 x8 y0 y1 y2 y3 y4 y5 y6 y7 y8 yf xh c18 c19 zt0 zh0
    have HBd := Lib.hid (belowD (Below.refl w.heap.size w))
    go_wp2_with fail
    refine HC2.out.mono ?_
    rintro e w3 ⟨rfl, hb3⟩
    have HB4 := Lib.hid (HBd.out.trans (hb3.mono HBd.out.size))
    clear hb3
    go_wp2_with fail
    go_ret
    exact ⟨rfl, HB4.out⟩
end
end Go.Proofs.YtfbggmbmgohiiaaGreat.tb
/- sort.Search over the rows; find. Conditions: the table lies in memory, its rows are in order. -/
namespace Go.Proofs.YtfbggmbmgohiiaaGreat.tb
open Go.RowKit mem rec tm names
set_option linter.unusedVariables false
set_option linter.unusedSimpArgs false
set_option maxHeartbeats 4000000
set_option maxRecDepth 100000
noncomputable def keyAt {N : Nat} (hs : Bool) (rows : List (RowE N)) (r : Tm (N + 1)) (hh : Int) : Nat := rows.findIdx (fun x => !befB hs x.k r x.h hh)
def Mono {α : Type} (p : α → Bool) (l : List α) : Prop := ∀ i j, (hj : j < l.length) → (hi : i < j) → p l[j] = true → p (l[i]'(by omega)) = true
theorem keyAt_eq {N : Nat} {hs : Bool} {rows : List (RowE N)} {r : Tm (N + 1)} {hh : Int} (hm : Mono (fun x => befB hs x.k r x.h hh) rows) {k : Nat} (hk : k ≤ rows.length) (h1 : ∀ (h : 0 < k), befB hs (rows[k - 1]'(by omega)).k r (rows[k - 1]'(by omega)).h hh = true) (h2 : ∀ (h : k < rows.length), befB hs rows[k].k r rows[k].h hh = false) : keyAt hs rows r hh = k := by
  unfold keyAt
  by_cases hlt : k < rows.length
  · rw [List.findIdx_eq hlt]
    refine ⟨by rw [h2 hlt]; rfl, fun j hj => ?_⟩
    have := h1 (by omega)
    by_cases e : j = k - 1
    · subst e; rw [this]; rfl
    · have := hm j (k - 1) (by omega) (by omega) this
      dsimp only at this
      rw [this]; rfl
  · obtain rfl : k = rows.length := by omega
    rw [List.findIdx_eq_length]
    intro x hx
    obtain ⟨j, hj, rfl⟩ := List.mem_iff_getElem.1 hx
    have := h1 (by omega)
    by_cases e : j = rows.length - 1
    · subst e; rw [this]; rfl
    · have := hm j (rows.length - 1) (by omega) (by omega) this
      dsimp only at this
      rw [this]; rfl
def SrchI (n : Nat) (p : Nat → Bool) (w : World) (m : Nat) (iv jv : Value) (wr : World) : Prop := ∃ i j : Nat, iv = .int .i64 (i : Int) ∧ jv = .int .i64 (j : Int) ∧ i ≤ j ∧ j ≤ n ∧ m = j - i ∧ (0 < i → p (i - 1) = true) ∧ (j < n → p j = false) ∧ Below w.heap.size w wr
section
variable {N : Nat} {w w' : World} {B : Nat} {F : Nat → Prop} {t : TabE N}
theorem search87 (h : TabAt w B F t) (hF : ∀ g, F g → g < w.heap.size) {r : Tm (N + 1)} {u : Value} {zt zk zh B2 : Nat} {hh : Int} (hB : B2 ≤ w.heap.size) (hI : ItemsAt w B2 N u r.items) (hn : 300 * (nodesT r : Int) ≤ 1000000000000)
    (hzt : w.heap[zt]? = some (.cells #[.pointer (some ⟨t.b, 0, none⟩)] 89)) (hzk : w.heap[zk]? = some (cells9 r.f u)) (hzh : w.heap[zh]? = some (.cells #[.int .u32 hh] 28)) (hnr : ∀ x ∈ t.rows, 300 * (nodesT x.k : Int) ≤ 1000000000000) (hlen : t.rows.length ≤ 1000000) (hm : Mono (fun x => befB t.hs x.k r x.h hh) t.rows) :
    Calls Tryz.prog 87 #[.int .i64 t.rows.length, .func (.func 88) #[] #[.pointer (some ⟨zt, 0, none⟩), .pointer (some ⟨zk, 0, none⟩), .pointer (some ⟨zh, 0, none⟩)]] w fun e w' => e = .returned (.int .i64 (keyAt t.hs t.rows r hh)) ∧ Below w.heap.size w w' := by
  have HC := Lib.hid (fun (W : World) (hW : Below w.heap.size w W) (i : Nat) (hi : i < t.rows.length) => clos88 (h.below hW hF) (fun g hg => Nat.lt_of_lt_of_le (hF g hg) hW.size) (Nat.le_trans hB hW.size) (hI.below hW hB) hn ((hW.block _ (Array.getElem?_eq_some_iff.1 hzt).1).trans hzt) ((hW.block _ (Array.getElem?_eq_some_iff.1 hzk).1).trans hzk) ((hW.block _ (Array.getElem?_eq_some_iff.1 hzh).1).trans hzh) hi (hnr _ (List.getElem_mem hi)))
  have HK := Lib.hid (fun (k : Nat) (hk : k ≤ t.rows.length) h1 h2 => keyAt_eq hm hk h1 h2)
  clear h hF hB hI hn hzt hzk hzh hnr hm
  generalize keyAt t.hs t.rows r hh = ka at *
  obtain ⟨p, hp⟩ : ∃ p : Nat → Bool, p = fun i => (t.rows[i]?).elim false (fun x => befB t.hs x.k r x.h hh) := ⟨_, rfl⟩
  have hpi : ∀ i (hi : i < t.rows.length), p i = befB t.hs (t.rows[i]).k r (t.rows[i]).h hh := fun i hi => by rw [hp]; dsimp only; rw [List.getElem?_eq_getElem hi]; rfl
  have HC2 : Hid (∀ W, Below w.heap.size w W → ∀ i : Nat, i < t.rows.length → Calls Tryz.prog 88 #[.int .i64 i, .pointer (some ⟨zt, 0, none⟩), .pointer (some ⟨zk, 0, none⟩), .pointer (some ⟨zh, 0, none⟩)] W (BPost (!p i) W)) := Lib.hid (fun W hW i hi => by rw [hpi i hi]; exact HC.out W hW i hi)
  have HK2 : Hid (∀ k, k ≤ t.rows.length → (0 < k → p (k - 1) = true) → (k < t.rows.length → p k = false) → ka = k) := Lib.hid (fun k hk h1 h2 => HK.out k hk (fun h => by rw [← hpi (k - 1) (by omega)]; exact h1 h) (fun h => by rw [← hpi k h]; exact h2 h))
  clear HC HK hp hpi
  generalize t.rows.length = n at *
  have H00 : Hid (SrchI n p w n (.int .i64 0) (.int .i64 n) w) := Lib.hid ⟨0, n, rfl, rfl, Nat.zero_le _, Nat.le_refl _, rfl, fun h => absurd h (Nat.lt_irrefl 0), fun h => absurd h (Nat.lt_irrefl n), Below.refl _ _⟩
  go_enter Tryz.func87, Tryz.ntmps87
  go_wp2_with fail
  go_loopg [5, 6] n (fun m iv jv wr => Hid (SrchI n p w m iv jv wr))
  case atStart => exact H00
  case round =>
    obtain ⟨i, j, rfl, rfl, hij, hj, hmm, h1, h2, hb⟩ := hrel.out
    clear hrel H00
    have HM := Lib.hid hmm
    have H1 := Lib.hid h1
    have H2 := Lib.hid h2
    have HB := Lib.hid hb
    clear hmm h1 h2
    by_cases hlt : i < j
    · have e : (((i + j) / 2 : Nat) : Int) = ((i : Int) + (j : Int)) / 2 := by omega
      have hC := HC2.out wr hb ((i + j) / 2) (by omega)
      rw [e] at hC
      have HCi := Lib.hid hC
      have HE := Lib.hid e
      clear hb hC e
      generalize hpm : p ((i + j) / 2) = pm at *
      have HPm := Lib.hid hpm
      clear hpm
      have hw1 : IntKind.i64.wrap (((i : Int) + (j : Int)) / 2 + 1) = ((i : Int) + (j : Int)) / 2 + 1 := IntWalk.i64_in _ (by omega)
      go_wp2_with fail
      refine HCi.out.mono ?_
      rintro e w2 ⟨rfl, hb2⟩
      have HB2 := Lib.hid (HB.out.trans (hb2.mono HB.out.size))
      clear hb2
      cases pm
      · dsimp only [Bool.not_false]
        go_wp2_with fail
        go_roundg ((i + j) / 2 - i)
        case measure => have := HM.out; omega
        case rel => exact Lib.hid ⟨i, (i + j) / 2, rfl, by rw [← HE.out], by omega, by omega, rfl, H1.out, fun _ => HPm.out, HB2.out⟩
      · dsimp only [Bool.not_true]
        go_wp2_with fail
        go_roundg (j - ((i + j) / 2 + 1))
        case measure => have := HM.out; omega
        case rel => exact Lib.hid ⟨(i + j) / 2 + 1, j, by rw [← HE.out]; rfl, rfl, by omega, by omega, rfl, fun _ => by rw [Nat.add_sub_cancel]; exact HPm.out, H2.out, HB2.out⟩
    · obtain rfl : i = j := by omega
      have hk := HK2.out i hj H1.out H2.out
      have HE := Lib.hid hk
      clear hk
      go_wp2_with fail
      go_ret
      exact ⟨by rw [HE.out]; rfl, HB.out⟩
end
end Go.Proofs.YtfbggmbmgohiiaaGreat.tb
/- find. Conditions: the table lies in memory, its rows are in order. -/
namespace Go.Proofs.YtfbggmbmgohiiaaGreat.tb
open Go.RowKit mem rec tm names
set_option linter.unusedVariables false
set_option linter.unusedSimpArgs false
set_option maxHeartbeats 4000000
set_option maxRecDepth 100000
noncomputable def hK {N : Nat} (hs : Bool) (r : Tm (N + 1)) : Int := if hs then hashT r else 0
/-- where a key is, or belongs -/
noncomputable def posK {N : Nat} (t : TabE N) (r : Tm (N + 1)) : Nat := keyAt t.hs t.rows r (hK t.hs r)
noncomputable def hasK {N : Nat} (t : TabE N) (r : Tm (N + 1)) : Bool := (t.rows[posK t r]?).elim false (fun x => eqB x.k r)
structure FindOK {N : Nat} (t : TabE N) (r : Tm (N + 1)) : Prop where
  nodes : ∀ x ∈ t.rows, 300 * (nodesT x.k : Int) ≤ 1000000000000
  len : t.rows.length ≤ 1000000
  mono : Mono (fun x => befB t.hs x.k r x.h (hK t.hs r)) t.rows
theorem ta99 (W : World) : (Instr.typeAssert (.iface 99 (.agg #[])) 95 99 true).run Tryz.prog W = .ok (.tuple #[.agg #[], .bool true]) W := by
  simp [Instr.typeAssert, run_underlying Tryz.underlying99]
theorem ta93 (W : World) : (Instr.typeAssert (.iface 93 (.agg #[])) 95 99 true).run Tryz.prog W = .ok (.tuple #[.agg #[], .bool false]) W := by
  have hz : (zeroValue 99).run Tryz.prog W = .ok (.agg #[]) W := by kernel_rfl
  simp [Instr.typeAssert, run_underlying Tryz.underlying99, hz]
theorem cell_keep {w w' : World} {B g o : Nat} {v : Value} (hb : Below B w w') (hg : g < B) (h : w.cell? ⟨g, o, none⟩ = some v) : w'.cell? ⟨g, o, none⟩ = some v := (hb.cell (p := ⟨g, o, none⟩) hg).trans h
section
variable {N : Nat} {w w' : World} {B : Nat} {F : Nat → Prop} {t : TabE N}
theorem posK_le (t : TabE N) (r : Tm (N + 1)) : posK t r ≤ t.rows.length := List.findIdx_le_length
theorem find56 (h : TabAt w B F t) (hF : ∀ g, F g → g < w.heap.size) {r : Tm (N + 1)} {u : Value} {B2 : Nat} (hB : B2 ≤ w.heap.size) (hI : ItemsAt w B2 N u r.items) (hn : 300 * (nodesT r : Int) ≤ 1000000000000) (hok : FindOK t r) :
    Calls Tryz.prog 56 #[.pointer (some ⟨t.b, 0, none⟩), aggV r.f u] w fun e w' => e = .returned (.tuple #[.int .i64 (posK t r), .bool (hasK t r)]) ∧ Below w.heap.size w w' := by
  have hb1 := belowA (Below.refl w.heap.size w) (.cells #[.pointer (some ⟨t.b, 0, none⟩)] 89) (Nat.le_refl _)
  have hb2 := belowA hb1 (cells9 r.f u) hb1.size
  have hb3 := belowA hb2 (.cells #[.int .u32 0] 28) hb2.size
  obtain ⟨p1, p2, p3⟩ := two_boxes w (.cells #[.pointer (some ⟨t.b, 0, none⟩)] 89) (cells9 r.f u)
  have p4 := alloc_new ((w.alloc (Obj.cells #[.pointer (some ⟨t.b, 0, none⟩)] 89)).alloc (cells9 r.f u)) (.cells #[.int .u32 0] 28)
  have hs2 : ((w.alloc (Obj.cells #[.pointer (some ⟨t.b, 0, none⟩)] 89)).alloc (cells9 r.f u)).heap.size = w.heap.size + 1 + 1 := by rw [World.size_alloc, World.size_alloc]
  rw [hs2] at p4
  have p2' := (Below.heap_alloc ((w.alloc (Obj.cells #[.pointer (some ⟨t.b, 0, none⟩)] 89)).alloc (cells9 r.f u)) (.cells #[.int .u32 0] 28) w.heap.size (by omega)).trans p2
  have p3' := (Below.heap_alloc ((w.alloc (Obj.cells #[.pointer (some ⟨t.b, 0, none⟩)] 89)).alloc (cells9 r.f u)) (.cells #[.int .u32 0] 28) (w.heap.size + 1) (by omega)).trans p3
  have HB3 := Lib.hid hb3
  have HP2 := Lib.hid p2'
  have HP3 := Lib.hid p3'
  have HP4 := Lib.hid p4
  have HH := Lib.hid (fun W (hW : Below w.heap.size w W) => Hash12 W B2 u r (Nat.le_trans hB hW.size) (hI.below hW hB) hn)
  have HS := Lib.hid (fun W (hW : Below w.heap.size w W) zt zk zh (a : W.heap[zt]? = some (Obj.cells #[.pointer (some ⟨t.b, 0, none⟩)] 89)) (b : W.heap[zk]? = some (cells9 r.f u)) (c : W.heap[zh]? = some (Obj.cells #[.int .u32 (hK t.hs r)] 28)) => search87 (h.below hW hF) (fun g hg => Nat.lt_of_lt_of_le (hF g hg) hW.size) (Nat.le_trans hB hW.size) (hI.below hW hB) hn a b c hok.nodes hok.len hok.mono)
  have HSm := Lib.hid (fun W (hW : Below w.heap.size w W) (i : Nat) (hi : i < t.rows.length) => same_in (w := W) (F := F) (fun g hg => Nat.lt_of_lt_of_le (hF g hg) hW.size) (((h.below hW hF).irow _ (List.getElem_mem hi)).1) (Nat.le_trans hB hW.size) (hI.below hW hB))
  have HT := Lib.hid (fun W (hW : Below w.heap.size w W) => tab_cells (h.below hW hF).blk)
  have HRw := Lib.hid (fun W (hW : Below w.heap.size w W) (i : Nat) (hi : i < t.rows.length) => (h.below hW hF).rowc hi)
  have HTb := Lib.hid (fun W (hW : Below w.heap.size w W) => (h.below hW hF).lt)
  have HSh := Lib.hid (fun (i : Nat) (hi : i < t.rows.length) => ItemsIn.shape (h.irow _ (List.getElem_mem hi)).1)
  have hle := posK_le t r
  have hlen := hok.len
  obtain ⟨pv, cv, ev, hcc, hcm⟩ := h.rows.shape
  obtain ⟨pb, cb, eb, _, _⟩ := hI.shape
  unfold maxLen at hcm
  unfold hasK
  have hpk : posK t r = keyAt t.hs t.rows r (hK t.hs r) := rfl
  rw [← hpk] at HS
  clear hb1 hb2 hb3 p1 p2 p3 p4 hs2 p2' p3' h hF hB hI hn hok hpk
  rw [ev] at HT HRw
  clear ev
  generalize t.rows = rows at *
  generalize t.b = tb at *
  generalize posK t r = pos at *
  generalize t.hs = hs at *
  rw [eb] at HH HSm HP3 HB3 HS HP2 HP4 ⊢
  generalize r.items.length = nb at *
  clear eb
  generalize r.f = f at *
  obtain ⟨fk, fi, fg, fn, ff, fa, fb, fs⟩ := f
  unfold aggV at HH HSm ⊢
  unfold cells9 at HP2 HP3 HP4 HB3 HS
  dsimp only at HH HSm HP2 HP3 HP4 HB3 HS ⊢
  cases hs
  · have e18 : kindV false = .iface 93 (.agg #[]) := rfl
    rw [e18] at HT
    clear e18
    have hta := fun W => ta93 W
    go_enter Tryz.func56, Tryz.ntmps56
    go_upto_region 2 with (fail)
    generalize (((w.alloc (.cells #[.pointer (some ⟨tb, 0, none⟩)] 89)).alloc (.cells #[.int .i64 fk, .int .i64 fi, .int .i64 fg, .string fn, .string ff, .int .i64 fa, .slice pb nb cb, .string fb, .int .i64 fs] 24)).alloc (.cells #[.int .u32 0] 28)) = W3 at *
    obtain ⟨q0, qf⟩ := one_cell HP2.out
    obtain ⟨_, _, c18, c19, _⟩ := HT.out _ HB3.out
    have hk0 : hK false r = 0 := rfl
    rw [hk0] at HS
    clear hk0 HH
    go_upto_region 5 with (fail)
    have HSr := Lib.hid (HS.out _ HB3.out _ _ _ HP2.out HP3.out HP4.out)
    obtain ⟨q0, qf⟩ := one_cell HP2.out
    obtain ⟨_, _, c18, c19, _⟩ := HT.out _ HB3.out
    go_wp2_with fail
    refine HSr.out.mono ?_
    rintro e w5 ⟨rfl, hb5⟩
    have HB5 := Lib.hid (HB3.out.trans (hb5.mono HB3.out.size))
    have hl2 := (Array.getElem?_eq_some_iff.1 HP2.out).1
    have hl3 := (Array.getElem?_eq_some_iff.1 HP3.out).1
    obtain ⟨q0, qf⟩ := one_cell ((hb5.block _ hl2).trans HP2.out)
    obtain ⟨y0, y1, y2, y3, y4, y5, y6, y7, y8, yf⟩ := nine_of (f := ⟨fk, fi, fg, fn, ff, fa, fb, fs⟩) (v := .slice pb nb cb) ((hb5.block _ hl3).trans HP3.out)
    obtain ⟨_, _, c18, c19, _⟩ := HT.out _ HB5.out
    dsimp only at y0 y1 y2 y3 y4 y5 y6 y7 y8
    have HZl : Hid (w.heap.size < w5.heap.size ∧ w.heap.size + 1 < w5.heap.size) := Lib.hid ⟨Nat.lt_of_lt_of_le hl2 hb5.size, Nat.lt_of_lt_of_le hl3 hb5.size⟩
    have HTl := Lib.hid (HTb.out _ HB5.out)
    clear hb5 HSr hl2 hl3
    go_upto_region 6 with (fail)
    by_cases hlt : pos < rows.length
    · obtain ⟨g, cg, hv, hg, ⟨x0, x1, x2, x3, x4, x5, x6, x7, x8⟩, xv, xh⟩ := HRw.out _ HB5.out pos hlt
      have HGl := Lib.hid hg
      clear xv xh hg
      simp only [Value.slice.injEq] at hv
      obtain ⟨rfl, _, rfl⟩ := hv
      obtain ⟨px, cx, ex, _, _⟩ := HSh.out pos hlt
      have hC := HSm.out w5.drew (belowD HB5.out) pos hlt
      rw [ex] at x6 hC
      have HEl := Lib.hid (show (rows[pos]?).elim false (fun x => eqB x.k r) = eqB (rows[pos]).k r by rw [List.getElem?_eq_getElem hlt]; rfl)
      generalize rows[pos] = row at *
      generalize row.k.f = fx at *
      generalize row.k.items.length = nx at *
      obtain ⟨k1, i1, j1, n1, f1, a1, b1, t1⟩ := fx
      (try unfold aggV at hC)
      dsimp only at hC x0 x1 x2 x3 x4 x5 x6 x7 x8
      generalize eqB row.k r = q at *
      have HC := Lib.hid hC
      clear hC ex
      have hd : decide ((pos : Int) < (rows.length : Int)) = true := decide_eq_true (by omega)
      have hbd := belowD (Below.refl w5.heap.size w5)
      have HBd := Lib.hid hbd
      have HLt : Hid (g < w5.heap.size ∧ tb < w5.heap.size ∧ w.heap.size < w5.heap.size ∧ w.heap.size + 1 < w5.heap.size) := Lib.hid ⟨HGl.out, HTl.out, HZl.out.1, HZl.out.2⟩
      have HF5 := Lib.hid (fun W (hW : Below w5.heap.size w5 W) => (⟨cell_keep hW HLt.out.2.2.1 q0, cell_keep hW HLt.out.2.1 c19, cell_keep hW HLt.out.1 x0, cell_keep hW HLt.out.1 x1, cell_keep hW HLt.out.1 x2, cell_keep hW HLt.out.1 x3, cell_keep hW HLt.out.1 x4, cell_keep hW HLt.out.1 x5, cell_keep hW HLt.out.1 x6, cell_keep hW HLt.out.1 x7, cell_keep hW HLt.out.1 x8, cell_keep hW HLt.out.2.2.2 y0, cell_keep hW HLt.out.2.2.2 y1, cell_keep hW HLt.out.2.2.2 y2, cell_keep hW HLt.out.2.2.2 y3, cell_keep hW HLt.out.2.2.2 y4, cell_keep hW HLt.out.2.2.2 y5, cell_keep hW HLt.out.2.2.2 y6, cell_keep hW HLt.out.2.2.2 y7, cell_keep hW HLt.out.2.2.2 y8⟩ : W.cell? ⟨w.heap.size, 0, none⟩ = some (.pointer (some ⟨tb, 0, none⟩)) ∧ W.cell? ⟨tb, 19, none⟩ = some (.slice (some ⟨g, 0, none⟩) rows.length cv) ∧ W.cell? ⟨g, pos * 19, none⟩ = some (.int .i64 k1) ∧ W.cell? ⟨g, pos * 19 + 1, none⟩ = some (.int .i64 i1) ∧ W.cell? ⟨g, pos * 19 + 1 + 1, none⟩ = some (.int .i64 j1) ∧ W.cell? ⟨g, pos * 19 + 1 + 1 + 1, none⟩ = some (.string n1) ∧ W.cell? ⟨g, pos * 19 + 1 + 1 + 1 + 1, none⟩ = some (.string f1) ∧ W.cell? ⟨g, pos * 19 + 1 + 1 + 1 + 1 + 1, none⟩ = some (.int .i64 a1) ∧ W.cell? ⟨g, pos * 19 + 1 + 1 + 1 + 1 + 1 + 1, none⟩ = some (.slice px nx cx) ∧ W.cell? ⟨g, pos * 19 + 1 + 1 + 1 + 1 + 1 + 1 + 1, none⟩ = some (.string b1) ∧ W.cell? ⟨g, pos * 19 + 1 + 1 + 1 + 1 + 1 + 1 + 1 + 1, none⟩ = some (.int .i64 t1) ∧ W.cell? ⟨(w.heap.size + 1), 0, none⟩ = some (.int .i64 fk) ∧ W.cell? ⟨(w.heap.size + 1), 1, none⟩ = some (.int .i64 fi) ∧ W.cell? ⟨(w.heap.size + 1), 2, none⟩ = some (.int .i64 fg) ∧ W.cell? ⟨(w.heap.size + 1), 3, none⟩ = some (.string fn) ∧ W.cell? ⟨(w.heap.size + 1), 4, none⟩ = some (.string ff) ∧ W.cell? ⟨(w.heap.size + 1), 5, none⟩ = some (.int .i64 fa) ∧ W.cell? ⟨(w.heap.size + 1), 6, none⟩ = some (.slice pb nb cb) ∧ W.cell? ⟨(w.heap.size + 1), 7, none⟩ = some (.string fb) ∧ W.cell? ⟨(w.heap.size + 1), 8, none⟩ = some (.int .i64 fs)))
      obtain ⟨q0, c19, x0, x1, x2, x3, x4, x5, x6, x7, x8, y0, y1, y2, y3, y4, y5, y6, y7, y8⟩ := HF5.out _ hbd
      go_region_held3 (fun w' => w'.cell? ⟨w.heap.size, 0, none⟩ = some (.pointer (some ⟨tb, 0, none⟩)) ∧ w'.cell? ⟨tb, 19, none⟩ = some (.slice (some ⟨g, 0, none⟩) rows.length cv) ∧ w'.cell? ⟨g, pos * 19, none⟩ = some (.int .i64 k1) ∧ w'.cell? ⟨g, pos * 19 + 1, none⟩ = some (.int .i64 i1) ∧ w'.cell? ⟨g, pos * 19 + 1 + 1, none⟩ = some (.int .i64 j1) ∧ w'.cell? ⟨g, pos * 19 + 1 + 1 + 1, none⟩ = some (.string n1) ∧ w'.cell? ⟨g, pos * 19 + 1 + 1 + 1 + 1, none⟩ = some (.string f1) ∧ w'.cell? ⟨g, pos * 19 + 1 + 1 + 1 + 1 + 1, none⟩ = some (.int .i64 a1) ∧ w'.cell? ⟨g, pos * 19 + 1 + 1 + 1 + 1 + 1 + 1, none⟩ = some (.slice px nx cx) ∧ w'.cell? ⟨g, pos * 19 + 1 + 1 + 1 + 1 + 1 + 1 + 1, none⟩ = some (.string b1) ∧ w'.cell? ⟨g, pos * 19 + 1 + 1 + 1 + 1 + 1 + 1 + 1 + 1, none⟩ = some (.int .i64 t1) ∧ w'.cell? ⟨(w.heap.size + 1), 0, none⟩ = some (.int .i64 fk) ∧ w'.cell? ⟨(w.heap.size + 1), 1, none⟩ = some (.int .i64 fi) ∧ w'.cell? ⟨(w.heap.size + 1), 2, none⟩ = some (.int .i64 fg) ∧ w'.cell? ⟨(w.heap.size + 1), 3, none⟩ = some (.string fn) ∧ w'.cell? ⟨(w.heap.size + 1), 4, none⟩ = some (.string ff) ∧ w'.cell? ⟨(w.heap.size + 1), 5, none⟩ = some (.int .i64 fa) ∧ w'.cell? ⟨(w.heap.size + 1), 6, none⟩ = some (.slice pb nb cb) ∧ w'.cell? ⟨(w.heap.size + 1), 7, none⟩ = some (.string fb) ∧ w'.cell? ⟨(w.heap.size + 1), 8, none⟩ = some (.int .i64 fs)) (go_keep)
        (first | (go_at_call 66; refine HC.out.mono ?_; rintro e w6 ⟨rfl, hb6⟩; have hb7 := HBd.out.trans hb6; obtain ⟨q0, c19, x0, x1, x2, x3, x4, x5, x6, x7, x8, y0, y1, y2, y3, y4, y5, y6, y7, y8⟩ := HF5.out _ hb7) | fail)
      all_goals
        have HB6 := Lib.hid (HB5.out.trans (hb7.mono HB5.out.size))
        clear q0 c19 x0 x1 x2 x3 x4 x5 x6 x7 x8 y0 y1 y2 y3 y4 y5 y6 y7 y8 hb6 hb7
        go_wp2_with fail
        go_ret2
        exact ⟨by rw [HEl.out]; rfl, HB6.out⟩
    · have HEl : Hid ((rows[pos]?).elim false (fun x => eqB x.k r) = false) := Lib.hid (by rw [List.getElem?_eq_none (by omega)]; rfl)
      have hd : decide ((pos : Int) < (rows.length : Int)) = false := decide_eq_false (by omega)
      clear y0 y1 y2 y3 y4 y5 y6 y7 y8 yf
      go_quiet (fail)
      go_wp2_with fail
      go_ret2
      exact ⟨by rw [HEl.out]; rfl, belowN HB5.out _⟩
  · have e18 : kindV true = .iface 99 (.agg #[]) := rfl
    rw [e18] at HT
    clear e18
    have hta := fun W => ta99 W
    go_enter Tryz.func56, Tryz.ntmps56
    go_upto_region 2 with (fail)
    generalize (((w.alloc (.cells #[.pointer (some ⟨tb, 0, none⟩)] 89)).alloc (.cells #[.int .i64 fk, .int .i64 fi, .int .i64 fg, .string fn, .string ff, .int .i64 fa, .slice pb nb cb, .string fb, .int .i64 fs] 24)).alloc (.cells #[.int .u32 0] 28)) = W3 at *
    obtain ⟨q0, qf⟩ := one_cell HP2.out
    obtain ⟨_, _, c18, c19, _⟩ := HT.out _ HB3.out
    have hk0 : hK true r = hashT r := rfl
    rw [hk0] at HS
    clear hk0
    obtain ⟨y0, y1, y2, y3, y4, y5, y6, y7, y8, yf⟩ := nine_of (f := ⟨fk, fi, fg, fn, ff, fa, fb, fs⟩) (v := .slice pb nb cb) HP3.out
    dsimp only at y0 y1 y2 y3 y4 y5 y6 y7 y8
    go_wp2_with fail
    refine (HH.out _ HB3.out).mono ?_
    rintro e w4 ⟨rfl, hb4⟩
    have HB4 := Lib.hid (HB3.out.trans (hb4.mono HB3.out.size))
    have hl2 := (Array.getElem?_eq_some_iff.1 HP2.out).1
    have hl3 := (Array.getElem?_eq_some_iff.1 HP3.out).1
    have hl4 := (Array.getElem?_eq_some_iff.1 HP4.out).1
    have h42 := (hb4.block _ hl2).trans HP2.out
    have h43 := (hb4.block _ hl3).trans HP3.out
    have h44 := (hb4.block _ hl4).trans HP4.out
    clear y0 y1 y2 y3 y4 y5 y6 y7 y8 yf q0 qf c18 c19 hb4 hl2 hl3 hl4
    obtain ⟨z0, zf⟩ := one_cell h44
    generalize hashT r = hr at *
    have HQ4 : Hid ((w4.setCell ⟨w.heap.size + 1 + 1, 0, none⟩ (.int .u32 hr)).heap[w.heap.size + 1 + 1]? = some (.cells #[.int .u32 hr] 28)) := Lib.hid (heap_setCell_same w4 _ 0 _ 28 _ h44)
    have HQ2 : Hid ((w4.setCell ⟨w.heap.size + 1 + 1, 0, none⟩ (.int .u32 hr)).heap[w.heap.size]? = some (.cells #[.pointer (some ⟨tb, 0, none⟩)] 89)) := Lib.hid ((Below.heap_setCell _ _ _ _ (fun e => by first | (have e' : w.heap.size = w.heap.size + 1 + 1 := e; omega) | (have e' : w.heap.size + 1 + 1 = w.heap.size := e; omega))).trans h42)
    have HQ3 : Hid ((w4.setCell ⟨w.heap.size + 1 + 1, 0, none⟩ (.int .u32 hr)).heap[w.heap.size + 1]? = some (.cells #[.int .i64 fk, .int .i64 fi, .int .i64 fg, .string fn, .string ff, .int .i64 fa, .slice pb nb cb, .string fb, .int .i64 fs] 24)) := Lib.hid ((Below.heap_setCell _ _ _ _ (fun e => by first | (have e' : w.heap.size + 1 = w.heap.size + 1 + 1 := e; omega) | (have e' : w.heap.size + 1 + 1 = w.heap.size + 1 := e; omega))).trans h43)
    have HBq := Lib.hid (HB4.out.setCell (p := ⟨w.heap.size + 1 + 1, 0, none⟩) (by show w.heap.size ≤ w.heap.size + 1 + 1; omega) (.int .u32 hr))
    clear h42 h43 h44
    go_upto_region 5 with (fail)
    generalize (w4.setCell ⟨w.heap.size + 1 + 1, 0, none⟩ (.int .u32 hr)) = W4 at *
    clear z0 zf
    have HSr := Lib.hid (HS.out _ HBq.out _ _ _ HQ2.out HQ3.out HQ4.out)
    obtain ⟨q0, qf⟩ := one_cell HQ2.out
    obtain ⟨_, _, c18, c19, _⟩ := HT.out _ HBq.out
    go_wp2_with fail
    refine HSr.out.mono ?_
    rintro e w5 ⟨rfl, hb5⟩
    have HB5 := Lib.hid (HBq.out.trans (hb5.mono HBq.out.size))
    have hl2 := (Array.getElem?_eq_some_iff.1 HQ2.out).1
    have hl3 := (Array.getElem?_eq_some_iff.1 HQ3.out).1
    obtain ⟨q0, qf⟩ := one_cell ((hb5.block _ hl2).trans HQ2.out)
    obtain ⟨y0, y1, y2, y3, y4, y5, y6, y7, y8, yf⟩ := nine_of (f := ⟨fk, fi, fg, fn, ff, fa, fb, fs⟩) (v := .slice pb nb cb) ((hb5.block _ hl3).trans HQ3.out)
    obtain ⟨_, _, c18, c19, _⟩ := HT.out _ HB5.out
    dsimp only at y0 y1 y2 y3 y4 y5 y6 y7 y8
    have HZl : Hid (w.heap.size < w5.heap.size ∧ w.heap.size + 1 < w5.heap.size) := Lib.hid ⟨Nat.lt_of_lt_of_le hl2 hb5.size, Nat.lt_of_lt_of_le hl3 hb5.size⟩
    have HTl := Lib.hid (HTb.out _ HB5.out)
    clear hb5 HSr hl2 hl3
    go_upto_region 6 with (fail)
    by_cases hlt : pos < rows.length
    · obtain ⟨g, cg, hv, hg, ⟨x0, x1, x2, x3, x4, x5, x6, x7, x8⟩, xv, xh⟩ := HRw.out _ HB5.out pos hlt
      have HGl := Lib.hid hg
      clear xv xh hg
      simp only [Value.slice.injEq] at hv
      obtain ⟨rfl, _, rfl⟩ := hv
      obtain ⟨px, cx, ex, _, _⟩ := HSh.out pos hlt
      have hC := HSm.out w5.drew (belowD HB5.out) pos hlt
      rw [ex] at x6 hC
      have HEl := Lib.hid (show (rows[pos]?).elim false (fun x => eqB x.k r) = eqB (rows[pos]).k r by rw [List.getElem?_eq_getElem hlt]; rfl)
      generalize rows[pos] = row at *
      generalize row.k.f = fx at *
      generalize row.k.items.length = nx at *
      obtain ⟨k1, i1, j1, n1, f1, a1, b1, t1⟩ := fx
      (try unfold aggV at hC)
      dsimp only at hC x0 x1 x2 x3 x4 x5 x6 x7 x8
      generalize eqB row.k r = q at *
      have HC := Lib.hid hC
      clear hC ex
      have hd : decide ((pos : Int) < (rows.length : Int)) = true := decide_eq_true (by omega)
      have hbd := belowD (Below.refl w5.heap.size w5)
      have HBd := Lib.hid hbd
      have HLt : Hid (g < w5.heap.size ∧ tb < w5.heap.size ∧ w.heap.size < w5.heap.size ∧ w.heap.size + 1 < w5.heap.size) := Lib.hid ⟨HGl.out, HTl.out, HZl.out.1, HZl.out.2⟩
      have HF5 := Lib.hid (fun W (hW : Below w5.heap.size w5 W) => (⟨cell_keep hW HLt.out.2.2.1 q0, cell_keep hW HLt.out.2.1 c19, cell_keep hW HLt.out.1 x0, cell_keep hW HLt.out.1 x1, cell_keep hW HLt.out.1 x2, cell_keep hW HLt.out.1 x3, cell_keep hW HLt.out.1 x4, cell_keep hW HLt.out.1 x5, cell_keep hW HLt.out.1 x6, cell_keep hW HLt.out.1 x7, cell_keep hW HLt.out.1 x8, cell_keep hW HLt.out.2.2.2 y0, cell_keep hW HLt.out.2.2.2 y1, cell_keep hW HLt.out.2.2.2 y2, cell_keep hW HLt.out.2.2.2 y3, cell_keep hW HLt.out.2.2.2 y4, cell_keep hW HLt.out.2.2.2 y5, cell_keep hW HLt.out.2.2.2 y6, cell_keep hW HLt.out.2.2.2 y7, cell_keep hW HLt.out.2.2.2 y8⟩ : W.cell? ⟨w.heap.size, 0, none⟩ = some (.pointer (some ⟨tb, 0, none⟩)) ∧ W.cell? ⟨tb, 19, none⟩ = some (.slice (some ⟨g, 0, none⟩) rows.length cv) ∧ W.cell? ⟨g, pos * 19, none⟩ = some (.int .i64 k1) ∧ W.cell? ⟨g, pos * 19 + 1, none⟩ = some (.int .i64 i1) ∧ W.cell? ⟨g, pos * 19 + 1 + 1, none⟩ = some (.int .i64 j1) ∧ W.cell? ⟨g, pos * 19 + 1 + 1 + 1, none⟩ = some (.string n1) ∧ W.cell? ⟨g, pos * 19 + 1 + 1 + 1 + 1, none⟩ = some (.string f1) ∧ W.cell? ⟨g, pos * 19 + 1 + 1 + 1 + 1 + 1, none⟩ = some (.int .i64 a1) ∧ W.cell? ⟨g, pos * 19 + 1 + 1 + 1 + 1 + 1 + 1, none⟩ = some (.slice px nx cx) ∧ W.cell? ⟨g, pos * 19 + 1 + 1 + 1 + 1 + 1 + 1 + 1, none⟩ = some (.string b1) ∧ W.cell? ⟨g, pos * 19 + 1 + 1 + 1 + 1 + 1 + 1 + 1 + 1, none⟩ = some (.int .i64 t1) ∧ W.cell? ⟨(w.heap.size + 1), 0, none⟩ = some (.int .i64 fk) ∧ W.cell? ⟨(w.heap.size + 1), 1, none⟩ = some (.int .i64 fi) ∧ W.cell? ⟨(w.heap.size + 1), 2, none⟩ = some (.int .i64 fg) ∧ W.cell? ⟨(w.heap.size + 1), 3, none⟩ = some (.string fn) ∧ W.cell? ⟨(w.heap.size + 1), 4, none⟩ = some (.string ff) ∧ W.cell? ⟨(w.heap.size + 1), 5, none⟩ = some (.int .i64 fa) ∧ W.cell? ⟨(w.heap.size + 1), 6, none⟩ = some (.slice pb nb cb) ∧ W.cell? ⟨(w.heap.size + 1), 7, none⟩ = some (.string fb) ∧ W.cell? ⟨(w.heap.size + 1), 8, none⟩ = some (.int .i64 fs)))
      obtain ⟨q0, c19, x0, x1, x2, x3, x4, x5, x6, x7, x8, y0, y1, y2, y3, y4, y5, y6, y7, y8⟩ := HF5.out _ hbd
      go_region_held3 (fun w' => w'.cell? ⟨w.heap.size, 0, none⟩ = some (.pointer (some ⟨tb, 0, none⟩)) ∧ w'.cell? ⟨tb, 19, none⟩ = some (.slice (some ⟨g, 0, none⟩) rows.length cv) ∧ w'.cell? ⟨g, pos * 19, none⟩ = some (.int .i64 k1) ∧ w'.cell? ⟨g, pos * 19 + 1, none⟩ = some (.int .i64 i1) ∧ w'.cell? ⟨g, pos * 19 + 1 + 1, none⟩ = some (.int .i64 j1) ∧ w'.cell? ⟨g, pos * 19 + 1 + 1 + 1, none⟩ = some (.string n1) ∧ w'.cell? ⟨g, pos * 19 + 1 + 1 + 1 + 1, none⟩ = some (.string f1) ∧ w'.cell? ⟨g, pos * 19 + 1 + 1 + 1 + 1 + 1, none⟩ = some (.int .i64 a1) ∧ w'.cell? ⟨g, pos * 19 + 1 + 1 + 1 + 1 + 1 + 1, none⟩ = some (.slice px nx cx) ∧ w'.cell? ⟨g, pos * 19 + 1 + 1 + 1 + 1 + 1 + 1 + 1, none⟩ = some (.string b1) ∧ w'.cell? ⟨g, pos * 19 + 1 + 1 + 1 + 1 + 1 + 1 + 1 + 1, none⟩ = some (.int .i64 t1) ∧ w'.cell? ⟨(w.heap.size + 1), 0, none⟩ = some (.int .i64 fk) ∧ w'.cell? ⟨(w.heap.size + 1), 1, none⟩ = some (.int .i64 fi) ∧ w'.cell? ⟨(w.heap.size + 1), 2, none⟩ = some (.int .i64 fg) ∧ w'.cell? ⟨(w.heap.size + 1), 3, none⟩ = some (.string fn) ∧ w'.cell? ⟨(w.heap.size + 1), 4, none⟩ = some (.string ff) ∧ w'.cell? ⟨(w.heap.size + 1), 5, none⟩ = some (.int .i64 fa) ∧ w'.cell? ⟨(w.heap.size + 1), 6, none⟩ = some (.slice pb nb cb) ∧ w'.cell? ⟨(w.heap.size + 1), 7, none⟩ = some (.string fb) ∧ w'.cell? ⟨(w.heap.size + 1), 8, none⟩ = some (.int .i64 fs)) (go_keep)
        (first | (go_at_call 66; refine HC.out.mono ?_; rintro e w6 ⟨rfl, hb6⟩; have hb7 := HBd.out.trans hb6; obtain ⟨q0, c19, x0, x1, x2, x3, x4, x5, x6, x7, x8, y0, y1, y2, y3, y4, y5, y6, y7, y8⟩ := HF5.out _ hb7) | fail)
      all_goals
        have HB6 := Lib.hid (HB5.out.trans (hb7.mono HB5.out.size))
        clear q0 c19 x0 x1 x2 x3 x4 x5 x6 x7 x8 y0 y1 y2 y3 y4 y5 y6 y7 y8 hb6 hb7
        go_wp2_with fail
        go_ret2
        exact ⟨by rw [HEl.out]; rfl, HB6.out⟩
    · have HEl : Hid ((rows[pos]?).elim false (fun x => eqB x.k r) = false) := Lib.hid (by rw [List.getElem?_eq_none (by omega)]; rfl)
      have hd : decide ((pos : Int) < (rows.length : Int)) = false := decide_eq_false (by omega)
      clear y0 y1 y2 y3 y4 y5 y6 y7 y8 yf
      go_quiet (fail)
      go_wp2_with fail
      go_ret2
      exact ⟨by rw [HEl.out]; rfl, belowN HB5.out _⟩
end
end Go.Proofs.YtfbggmbmgohiiaaGreat.tb
