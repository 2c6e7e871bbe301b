/- Several texts in one, one behind the other: LkLd, LkLf, ToF. No condition beyond theirs. -/
import Derived.Test.YtnakbepcalciiaaGreatHr
import Derived.Test.YtnakbepcalciiaaGreatHb
import Derived.Test.YtnakbepcalciiaaGreatHa
import Derived.Test.YtnakbepcalciiaaGreatHm
import Derived.Test.YtnakbepcalciiaaGreatGv
import Derived.Test.YtnakbepcalciiaaGreatGq
import Derived.Test.YtnakbepcalciiaaGreatHf
import Derived.Maps.AppendAt
/- holds: is a term in a list? Conditions: the list lies in memory. -/
namespace Go.Proofs.YtnakbepcalciiaaGreat.lk
open Go.RowKit mem rec tm names pm
set_option linter.unusedVariables false
set_option linter.unusedSimpArgs false
set_option maxHeartbeats 4000000
set_option maxRecDepth 100000
noncomputable def memT {n : Nat} (t : Tm (n + 1)) (l : List (Tm (n + 1) × Value)) : Bool := l.any (fun y => eqB y.1 t)
theorem memT_take {n : Nat} {t : Tm (n + 1)} {l : List (Tm (n + 1) × Value)} {k : Nat} {y : Tm (n + 1) × Value} (h : l[k]? = some y) : memT t (l.take (k + 1)) = (memT t (l.take k) || eqB y.1 t) := by
  unfold memT
  rw [List.take_add_one, h, List.any_append]
  simp
theorem memT_mem {n : Nat} {t : Tm (n + 1)} {l : List (Tm (n + 1) × Value)} {y : Tm (n + 1) × Value} (h : y ∈ l) (he : eqB y.1 t = true) : memT t l = true := by
  unfold memT
  rw [List.any_eq_true]
  exact ⟨y, h, he⟩
theorem eqB_iff {α : Type} {a b : α} : eqB a b = true ↔ a = b := by
  constructor
  · intro h
    by_cases e : a = b
    · exact e
    · rw [eqB_f e] at h; cases h
  · exact eqB_t
theorem memT_iff {n : Nat} {t : Tm (n + 1)} {l : List (Tm (n + 1) × Value)} : memT t l = true ↔ ∃ y ∈ l, y.1 = t := by
  unfold memT
  rw [List.any_eq_true]
  constructor
  · rintro ⟨y, h1, h2⟩; exact ⟨y, h1, eqB_iff.1 h2⟩
  · rintro ⟨y, h1, h2⟩; exact ⟨y, h1, eqB_t h2⟩
def HoI {n : Nat} (t : Tm (n + 1)) (l : List (Tm (n + 1) × Value)) (W : World) (m : Nat) (iv : Value) (wr : World) : Prop := ∃ i : Nat, iv = .int .i64 (i : Int) ∧ i ≤ l.length ∧ m = l.length - i ∧ memT t (l.take i) = false ∧ Below W.heap.size W wr
theorem holdsT {n : Nat} {w : World} {B : Nat} {v ut : Value} {l : List (Tm (n + 1) × Value)} {t : Tm (n + 1)} (hB : B ≤ w.heap.size) (h : RecAt tE 9 w B v l) (hin : ∀ y ∈ l, tEok w B y) (ht : ItemsAt w B n ut t.items) (hl : l.length ≤ 100000000) :
    Calls Tryz.prog 23 #[v, aggV t.f ut] w (fun e w' => e = .returned (.bool (memT t l)) ∧ Below w.heap.size w w') := by
  have HSm := Lib.hid (fun W' (hW : Below w.heap.size w W') (y : Tm (n + 1) × Value) (hy : y ∈ l) => sameOne W' B y.2 ut y.1 t (Nat.le_trans hB hW.size) (ItemsAt.below (hin y hy) hW hB) (ht.below hW hB))
  have HTk := Lib.hid (fun k y (hk : l[k]? = some y) => memT_take (t := t) hk)
  have HMm := Lib.hid (fun y (hy : y ∈ l) (he : eqB y.1 t = true) => memT_mem hy he)
  have HIn := Lib.hid hin
  obtain ⟨pv, cv, rfl, _, _⟩ := h.shape
  obtain ⟨pt, ct, rfl, _, _⟩ := ht.shape
  have HR := Lib.hid (fun W (hW : Below w.heap.size w W) => h.below hW hB)
  clear h hB hin ht
  obtain ⟨r, hr⟩ : ∃ r, memT t l = r := ⟨_, rfl⟩
  have HRr := Lib.hid hr
  rw [hr]
  rw [hr] at HMm
  clear hr
  have H0 : Hid (HoI t l w l.length (.int .i64 0) w) := Lib.hid ⟨0, rfl, Nat.zero_le _, rfl, rfl, Below.refl _ _⟩
  obtain ⟨ft, hft⟩ : ∃ f, t.f = f := ⟨_, rfl⟩
  obtain ⟨nt, hnt⟩ : ∃ k, t.items.length = k := ⟨_, rfl⟩
  rw [hft, hnt] at HSm ⊢
  clear hft hnt
  obtain ⟨tk, ti, tg, tn, tf, ta, tb, tz⟩ := ft
  unfold aggV BPost at *
  dsimp only at *
  have hx := alloc_new w (.cells #[.int .i64 tk, .int .i64 ti, .int .i64 tg, .string tn, .string tf, .int .i64 ta, .slice pt nt ct, .string tb, .int .i64 tz] 30)
  have hb1 := belowA (Below.refl w.heap.size w) (.cells #[.int .i64 tk, .int .i64 ti, .int .i64 tg, .string tn, .string tf, .int .i64 ta, .slice pt nt ct, .string tb, .int .i64 tz] 30) (Nat.le_refl _)
  have hlx : w.heap.size < (w.alloc (.cells #[.int .i64 tk, .int .i64 ti, .int .i64 tg, .string tn, .string tf, .int .i64 ta, .slice pt nt ct, .string tb, .int .i64 tz] 30)).heap.size := by rw [World.size_alloc]; omega
  have HX := Lib.hid hx
  have HB1 := Lib.hid hb1
  have hsz9 : (Tryz.prog.info? 30).map (·.size) = some 9 := by kernel_rfl
  clear hx hb1
  go_enter Tryz.func23, Tryz.ntmps23
  go_upto_region 1 with (fail)
  generalize (w.alloc (.cells #[.int .i64 tk, .int .i64 ti, .int .i64 tg, .string tn, .string tf, .int .i64 ta, .slice pt nt ct, .string tb, .int .i64 tz] 30)) = W1 at *
  have HXa := Lib.hid (fun W (hW : Below W1.heap.size W1 W) => range_row ((hW.block _ hlx).trans HX.out))
  have HRa := Lib.hid (fun W (hW : Below W1.heap.size W1 W) => HR.out W (HB1.out.trans (hW.mono HB1.out.size)))
  have HSa := Lib.hid (fun W (hW : Below W1.heap.size W1 W) => HSm.out W (HB1.out.trans (hW.mono HB1.out.size)))
  have H00 : Hid (HoI t l W1 l.length (.int .i64 0) W1) := Lib.hid ⟨0, rfl, Nat.zero_le _, rfl, rfl, Below.refl _ _⟩
  clear HR HX hlx HSm H0
  have HLe := Lib.hid HB1.out.size
  generalize hzb : w.heap.size = zb at *
  have HZb := Lib.hid hzb
  clear hzb
  go_wp2_with fail
  go_loopg [5] l.length (fun m iv wr => Hid (HoI t l W1 m iv wr))
  case atStart => exact H00
  case round =>
    obtain ⟨i, rfl, hil, hm, hN, hbw⟩ := hrel.out
    clear hrel H00
    by_cases hlt : i < l.length
    · have r1 : (i : Int) < (l.length : Int) := by omega
      have hat := List.getElem?_eq_getElem hlt
      obtain ⟨g, o, e1, _, _, _⟩ := (HRa.out _ hbw).nth (by omega)
      subst e1
      have HYr := Lib.hid (fun W' (hW : Below wr.heap.size wr W') => RecAt_range (HRa.out W' (belowCC hbw hW)) hat)
      have HTr := Lib.hid (fun W' (hW : Below wr.heap.size wr W') => HXa.out W' (belowCC hbw hW))
      have HS := Lib.hid (fun W' (hW : Below wr.heap.size wr W') => HSa.out W' (belowCC hbw hW) _ (List.getElem_mem hlt))
      have HY' := Lib.hid (HMm.out _ (List.getElem_mem hlt))
      have HT' := Lib.hid (HTk.out _ _ hat)
      have hyi := HIn.out _ (List.getElem_mem hlt)
      have HN := Lib.hid hm
      have HNf := Lib.hid hN
      have HBw := Lib.hid hbw
      clear hat hm hN hbw
      generalize l[i] = y at *
      obtain ⟨y, uy⟩ := y
      obtain ⟨py, cy, ey, _, _⟩ := ItemsAt.shape hyi
      dsimp only at ey
      subst ey
      clear hyi
      dsimp only at HS HY' HT'
      obtain ⟨q, hq⟩ : ∃ q, eqB y t = q := ⟨_, rfl⟩
      rw [hq] at HS HY' HT'
      clear hq
      unfold tE nineL at HYr
      dsimp only at HYr
      obtain ⟨fy, hfy⟩ : ∃ f, y.f = f := ⟨_, rfl⟩
      obtain ⟨ny, hny⟩ : ∃ k, y.items.length = k := ⟨_, rfl⟩
      rw [hfy, hny] at HS HYr
      clear hfy hny
      obtain ⟨yk, yi, yg, yn, yf, ya, yb, yz⟩ := fy
      dsimp only at HS HYr
      have HRg : Hid (∀ W', Below wr.heap.size wr W' → W'.rangeAt g (o + i * 9) [.int .i64 yk, .int .i64 yi, .int .i64 yg, .string yn, .string yf, .int .i64 ya, .slice py ny cy, .string yb, .int .i64 yz] ∧ W'.rangeAt zb 0 [.int .i64 tk, .int .i64 ti, .int .i64 tg, .string tn, .string tf, .int .i64 ta, .slice pt nt ct, .string tb, .int .i64 tz]) := Lib.hid (fun W' hW => ⟨HYr.out W' hW, HTr.out W' hW⟩)
      clear HYr HTr
      go_upto_region 4 with (fail)
      have hbd : Below wr.heap.size wr wr.drew := belowD (Below.refl _ _)
      obtain ⟨l1, l2⟩ := HRg.out _ hbd
      refine wp_region_held_drew (S := (fun w' => w'.rangeAt g (o + i * 9) [.int .i64 yk, .int .i64 yi, .int .i64 yg, .string yn, .string yf, .int .i64 ya, .slice py ny cy, .string yb, .int .i64 yz] ∧ w'.rangeAt zb 0 [.int .i64 tk, .int .i64 ti, .int .i64 tg, .string tn, .string tf, .int .i64 ta, .slice pt nt ct, .string tb, .int .i64 tz])) (by kernel_rfl) ?_ (fun hHeld => ?_)
      · exact ⟨l1, l2⟩
      refine wpAnyH_take (i := 0) (oi := { dst := some 12, op := Op.move (Operand.tmp 0), type := 28, pos := "law.go:181", after := #[], guard := none }) (v := ?vvA0) rfl (by kernel_rfl) (by kernel_rfl) (by kernel_rfl) (fun _ _ _ h => h) (Or.inl ⟨by rfl, ?hyA0⟩) (by assumption) ?rsA0
      case hyA0 =>
        intro w hSw
        (try dsimp only at hSw)
        go_simp
        (try with_reducible rfl)
      (try simp only [Act.put, List.setIfInBounds_toArray, List.set_cons_zero, List.set_cons_succ])
      refine wpAnyH_take (i := 1) (oi := { dst := some 13, op := Op.move (Operand.tmp 5), type := 3, pos := "law.go:181", after := #[], guard := none }) (v := ?vvA1) rfl (by kernel_rfl) (by kernel_rfl) (by kernel_rfl) (fun _ _ _ h => h) (Or.inl ⟨by rfl, ?hyA1⟩) (by assumption) ?rsA1
      case hyA1 =>
        intro w hSw
        (try dsimp only at hSw)
        go_simp
        (try with_reducible rfl)
      (try simp only [Act.put, List.setIfInBounds_toArray, List.set_cons_zero, List.set_cons_succ])
      refine wpAnyH_take (i := 2) (oi := { dst := some 14, op := Op.indexAddr 28 (Operand.tmp 12) (Operand.tmp 13), type := 0, pos := "law.go:181", after := #[{ on := 0, ground := Ground.data }, { on := 1, ground := Ground.data }], guard := none }) (v := ?vvA2) rfl (by kernel_rfl) (by kernel_rfl) (by kernel_rfl) (fun _ _ _ h => h) (Or.inl ⟨by rfl, ?hyA2⟩) (by assumption) ?rsA2
      case hyA2 =>
        intro w hSw
        (try dsimp only at hSw)
        go_simp
        (try with_reducible rfl)
      (try simp only [Act.put, List.setIfInBounds_toArray, List.set_cons_zero, List.set_cons_succ])
      refine wpAnyH_take (i := 3) (oi := { dst := some 15, op := Op.load 30 (Operand.tmp 14), type := 30, pos := "law.go:181", after := #[{ on := 2, ground := Ground.data }], guard := none }) rfl (by kernel_rfl) (by kernel_rfl) (by kernel_rfl) (fun _ _ _ h => h) (yieldsIf_load_mid (by rfl) 30 (.tmp 14) rfl g (o + i * 9) rfl [.int .i64 yk, .int .i64 yi, .int .i64 yg, .string yn, .string yf, .int .i64 ya, .slice py ny cy, .string yb, .int .i64 yz] _ (fun w hs => hs.1) Tryz.underlying30 rfl hsz9) (by assumption) ?_
      (try simp only [Act.put, List.setIfInBounds_toArray, List.set_cons_zero, List.set_cons_succ])
      refine wpAnyH_take (i := 4) (oi := { dst := some 16, op := Op.load 30 (Operand.tmp 3), type := 30, pos := "law.go:181", after := #[], guard := none }) rfl (by kernel_rfl) (by kernel_rfl) (by kernel_rfl) (fun _ _ _ h => h) (yieldsIf_load_mid (by rfl) 30 (.tmp 3) rfl zb 0 rfl [.int .i64 tk, .int .i64 ti, .int .i64 tg, .string tn, .string tf, .int .i64 ta, .slice pt nt ct, .string tb, .int .i64 tz] _ (fun w hs => hs.2) Tryz.underlying30 rfl hsz9) (by assumption) ?_
      (try simp only [Act.put, List.setIfInBounds_toArray, List.set_cons_zero, List.set_cons_succ])
      refine wpAnyH_ready (rs := [5]) (by kernel_rfl) (by simp) ?_
      refine AllReadyH.cons (o := { dst := some 17, op := Op.call { callee := Callee.value (Operand.func 21), args := #[Operand.tmp 15, Operand.tmp 16], argTypes := #[30, 30] }, type := 4, pos := "law.go:181", after := #[{ on := 3, ground := Ground.data }, { on := 4, ground := Ground.data }], guard := none }) rfl (fun K hK => ?_) AllReadyH.nil
      go_simp
      refine (HS.out _ hbd).mono ?_
      rintro e w5 ⟨rfl, hb⟩
      replace hbd := hbd.trans (hb.mono hbd.size)
      clear hb l1 l2
      obtain ⟨l1, l2⟩ := HRg.out _ hbd
      go_wp2_with fail
      refine hK.out _ _ ?_ (fun hHeld => ?_)
      · exact ⟨l1, l2⟩
      clear hK K
      (try simp only [Act.put, List.setIfInBounds_toArray, List.set_cons_zero, List.set_cons_succ])
      refine wpAnyH_done (by kernel_rfl) ?_ _
      have HBe := Lib.hid (belowCC HBw.out hbd)
      clear hbd l1 l2
      cases q
      · have HN2 := Lib.hid (show memT t (l.take (i + 1)) = false by rw [HT'.out, HNf.out]; rfl)
        go_wp2_with fail
        go_roundg (l.length - (i + 1))
        case measure => have := HN.out; omega
        case rel => exact Lib.hid ⟨i + 1, by go_num, by omega, rfl, HN2.out, HBe.out⟩
      · have HFin := Lib.hid (HY'.out rfl)
        go_wp2_with fail
        go_ret
        exact ⟨names.ret1b HFin.out.symm, by rw [HZb.out]; exact HB1.out.trans (HBe.out.mono HLe.out)⟩
    · obtain rfl : i = l.length := by omega
      rw [List.take_length] at hN
      have HFin := Lib.hid (HRr.out.symm.trans hN)
      have HBe := Lib.hid hbw
      clear hN hbw hm
      go_wp2_with fail
      go_ret
      exact ⟨names.ret1b HFin.out.symm, by rw [HZb.out]; exact HB1.out.trans (HBe.out.mono HLe.out)⟩
end Go.Proofs.YtnakbepcalciiaaGreat.lk
/- Join, Part and Watch of terms as they come in, while a script runs. Conditions: as said. -/
namespace Go.Proofs.YtnakbepcalciiaaGreat.lk
open Go.RowKit mem rec tm names pm
set_option linter.unusedVariables false
set_option linter.unusedSimpArgs false
set_option maxHeartbeats 4000000
set_option maxRecDepth 100000
/-- the state holds what is asked, whatever is noted, if that process is -/
def LosT {n : Nat} (S : LkSt) (O : List Id) (t : Tm (n + 1)) (i : Nat) : Prop := ∀ O' : List Id, (∀ q ∈ O, q ∈ O') → (validT t = true → idOf t.f ∈ O') → Los S O' i
def LosQ {n : Nat} (z mh mm : Nat) (O : List Id) (t : Tm (n + 1)) (i : Nat) (w w' : World) : Prop := ∃ S, LkAt w' z mh mm S ∧ LosT S O t i ∧ TouchB (LkS z mh mm) w w'
section
variable {n : Nat} {w : World} {z mh mm : Nat} {S : LkSt} {O : List Id} {i : Nat} {B : Nat} {va vb vr : Value} {ta tb tr : Tm (n + 1)}
theorem Los.same (h : Los S O i) (t : Tm (n + 1)) (j : Nat) (hj : i ≤ j) : LosT S O t j := fun O' h1 _ => h.more h1 hj
theorem los_pair (h : Los S O i) {S' : LkSt} (hp : ∀ O', okI 6 (idOf ta.f) = true → okI 6 (idOf tb.f) = true → locB S.node S.gen (idOf ta.f) = true → idOf ta.f ∈ O' → Los S O' i → Los S' O' (i + 1)) : LosT (if pairB S.node S.gen false (decide (ta.f.kind = 6) && validT ta) (decide (tb.f.kind = 6) && validT tb) (idOf ta.f) (idOf tb.f) = true then S' else S) O ta (i + 1) := fun O' h1 h2 => by
  split
  · rename_i hk
    obtain ⟨p1, p2, p3, _⟩ := pair_parts hk
    have hv : validT ta = true := by rw [Bool.and_eq_true] at p1; exact p1.2
    exact hp O' (term_okL (.inr rfl) p1).2 (term_okL (.inr rfl) p2).2 p3 (h2 hv) (h.more h1 (Nat.le_refl _))
  · exact h.more h1 (Nat.le_succ _)
theorem partL (h : LkAt w z mh mm S) (hL : Los S O i) (hi : i ≤ 1000) (hB : B ≤ w.heap.size) (ha : ItemsAt w B n va ta.items) (hb : ItemsAt w B n vb tb.items) (sa : (nodesT ta : Int) ≤ 6000) (sb : (nodesT tb : Int) ≤ 6000) :
    Calls Tryz.prog 18 #[.pointer (some ⟨z, 0, none⟩), aggV ta.f va, aggV tb.f vb] w (fun e w' => (∃ k b c, e = .returned (.tuple #[.int .i64 k, .bool b, .int .i64 c])) ∧ LosQ z mh mm O ta (i + 1) w w') := by
  refine (part18 h B va vb ta tb hB ha hb (by omega) (by omega) hL.l0 (by have := hL.l1; omega)).mono ?_
  rintro e w' ⟨rfl, h1, h2⟩
  exact ⟨⟨_, _, _, rfl⟩, _, h1, los_pair hL (fun O' a b c d hl => hl.part a b c d), h2⟩
theorem joinL (h : LkAt w z mh mm S) (hL : Los S O i) (hB : B ≤ w.heap.size) (ha : ItemsAt w B n va ta.items) (hb : ItemsAt w B n vb tb.items) (sa : (nodesT ta : Int) ≤ 6000) (sb : (nodesT tb : Int) ≤ 6000) :
    Calls Tryz.prog 20 #[.pointer (some ⟨z, 0, none⟩), aggV ta.f va, aggV tb.f vb] w (fun e w' => (∃ b c, e = .returned (.tuple #[.bool b, .int .i64 c])) ∧ LosQ z mh mm O ta (i + 1) w w') := by
  refine (join20 h B va vb ta tb hB ha hb (by omega) (by omega)).mono ?_
  rintro e w' ⟨rfl, h1, h2⟩
  exact ⟨⟨_, _, rfl⟩, _, h1, los_pair hL (fun O' a b c d hl => hl.join a b c d), h2⟩
theorem watchL (h : LkAt w z mh mm S) (hL : LosT S O ta i) (hB : B ≤ w.heap.size) (hr : ItemsAt w B n vr tr.items) (ha : ItemsAt w B n va ta.items) (hb : ItemsAt w B n vb tb.items) (sr : (nodesT tr : Int) ≤ 6000) (sa : (nodesT ta : Int) ≤ 6000) (sb : (nodesT tb : Int) ≤ 6000) :
    Calls Tryz.prog 27 #[.pointer (some ⟨z, 0, none⟩), monV tr.f ta.f tb.f vr va vb] w (fun e w' => (∃ c, e = .returned (.int .i64 c)) ∧ LosQ z mh mm O ta (i + 1) w w') := by
  refine (watch27 h B vr va vb tr ta tb hB hr ha hb (by omega) (by omega) (by omega)).mono ?_
  rintro e w' ⟨rfl, h1, h2⟩
  exact ⟨⟨_, rfl⟩, _, h1, fun O' a b => (hL O' a b).watch _ _ _ _, h2⟩
end
theorem pickL (a : Int) (m : Nat) (hm : 0 < m) (hm2 : m ≤ 1000000) (w : World) : Calls Tryz.prog 17 #[.int .i64 a, .int .i64 m] w (fun e w' => ∃ k : Nat, e = .returned (.int .i64 k) ∧ k < m ∧ w = w') := by
  obtain ⟨r, hr⟩ : ∃ r, a.tmod (m : Int) = r := ⟨_, rfl⟩
  have h1 : -(m : Int) < r := by rw [← hr]; exact (by have := Int.tmod_lt_of_pos (-a) (b := (m : Int)) (by omega); rw [Int.neg_tmod] at this; omega)
  have h2 : r < (m : Int) := by rw [← hr]; exact Int.tmod_lt_of_pos _ (by omega)
  have hw : IntKind.i64.wrap r = r := IntWalk.i64_in _ (by omega)
  have hm0 : ((m : Int) == 0) = false := by have : ¬ (m : Int) = 0 := by omega
                                            simpa using this
  by_cases h0 : r < 0
  · obtain ⟨k, hk⟩ : ∃ k : Nat, r + (m : Int) = (k : Int) := ⟨(r + m).toNat, by omega⟩
    have hkm : k < m := by omega
    have q1 : decide (r < 0) = true := decide_eq_true h0
    have h1m : (1 : Int) ≤ (m : Int) := by omega
    go_enter Tryz.func17, Tryz.ntmps17
    go_wp2_with fail
    go_ret
    exact ⟨k, by rfl, hkm, rfl⟩
  · obtain ⟨k, hk⟩ : ∃ k : Nat, r = (k : Int) := ⟨r.toNat, by omega⟩
    have hkm : k < m := by omega
    have q1 : decide (r < 0) = false := decide_eq_false h0
    have h1m : (1 : Int) ≤ (m : Int) := by omega
    subst hk
    have q2 : ¬ ((k : Int) < 0) := by omega
    go_enter Tryz.func17, Tryz.ntmps17
    go_wp2_with fail
    go_ret
    exact ⟨k, by rfl, hkm, rfl⟩
/-- the terms that are noted -/
structure OwnOK {n : Nat} (W : World) (Ow : List (Tm (n + 1) × Value)) : Prop where
  val : ∀ y ∈ Ow, validT y.1 = true
  at_ : ∀ y ∈ Ow, tEok W W.heap.size y
  nd : (Ow.map (·.1)).Nodup
  nodes : ∀ y ∈ Ow, nodesT y.1 ≤ 6000
theorem OwnOK.nil {n : Nat} (W : World) : OwnOK W ([] : List (Tm (n + 1) × Value)) := ⟨by simp, by simp, List.nodup_nil, by simp⟩
theorem OwnOK.add {n : Nat} {W : World} {Ow : List (Tm (n + 1) × Value)} (h : OwnOK W Ow) {t : Tm (n + 1)} {u : Value} (hv : validT t = true) (hu : ItemsAt W W.heap.size n u t.items) (hn : (nodesT t : Int) ≤ 6000) (hm : ¬ ∃ y ∈ Ow, y.1 = t) : OwnOK W (Ow ++ [(t, u)]) := by
  refine ⟨fun y hy => ?_, fun y hy => ?_, ?_, fun y hy => ?_⟩
  · rcases List.mem_append.1 hy with hy | hy
    · exact h.val y hy
    · rw [List.mem_singleton.1 hy]; exact hv
  · rcases List.mem_append.1 hy with hy | hy
    · exact h.at_ y hy
    · rw [List.mem_singleton.1 hy]; exact hu
  · rw [List.map_append, List.nodup_append]
    refine ⟨h.nd, by simp, ?_⟩
    intro a ha b hb e
    simp only [List.map_cons, List.map_nil, List.mem_singleton] at hb
    obtain ⟨y, hy, rfl⟩ := List.mem_map.1 ha
    exact hm ⟨y, hy, e.trans hb⟩
  · rcases List.mem_append.1 hy with hy | hy
    · exact h.nodes y hy
    · rw [List.mem_singleton.1 hy]; have h6 : nodesT t ≤ 6000 := by omega
      exact h6
theorem nodes_le {n : Nat} : ∀ {l : List (Tm (n + 1))} {k : Nat}, (∀ t ∈ l, nodesT t ≤ k) → nodesL (n + 1) l ≤ l.length * k
  | [], k, _ => by simp [nodesL]
  | t :: l, k, h => by
    have h1 := nodes_le (l := l) (fun x hx => h x (List.mem_cons_of_mem _ hx))
    have h2 := h t List.mem_cons_self
    have e : nodesL (n + 1) (t :: l) = nodesT t + nodesL (n + 1) l := by simp [nodesL, nodesT]
    rw [e, List.length_cons, Nat.add_mul]
    omega
theorem sortL_mem {n : Nat} {l : List (Tm (n + 1))} {t : Tm (n + 1)} : t ∈ sortL l ↔ t ∈ l := (List.mergeSort_perm l (leB cmpV)).mem_iff
theorem sortL_strict {n : Nat} {l : List (Tm (n + 1))} (hv : ∀ t ∈ l, validT t = true) (hn : l.Nodup) : (sortL l).Pairwise (fun x y => cmpV x y < 0) := by
  have hp : (sortL l).Perm l := List.mergeSort_perm _ _
  have hw : (sortL l).Pairwise (fun a b => leB cmpV a b = true) := List.pairwise_mergeSort (fun a b c h1 h2 => by
    unfold leB at *
    exact decide_eq_true (tpV.trans a b c trivial trivial trivial (of_decide_eq_true h1) (of_decide_eq_true h2))) (fun a b => by
    unfold leB
    have := tpV.anti a b
    by_cases h : cmpV a b ≤ 0
    · simp [h]
    · have h' : cmpV b a ≤ 0 := by omega
      simp [h']) l
  refine List.Pairwise.imp_of_mem ?_ (hw.and (hp.nodup_iff.2 hn))
  intro a b ha hb hab
  have h1 : cmpV a b ≤ 0 := of_decide_eq_true hab.1
  have va := hv a (hp.mem_iff.1 ha)
  have vb := hv b (hp.mem_iff.1 hb)
  have h3 : cmpV a b ≠ 0 := fun e => by
    unfold cmpV at e
    rw [if_pos va, if_pos vb] at e
    exact hab.2 ((ordT (n + 1)).eq _ _ (valid_formed va) (valid_formed vb) e)
  omega
end Go.Proofs.YtnakbepcalciiaaGreat.lk

/- Lists of terms: parts of a list, rows of terms that others hold, sorting by halves. Conditions: as said. -/
namespace Go.Proofs.YtnakbepcalciiaaGreat.tm
open Go.RowKit mem names
set_option linter.unusedVariables false
set_option linter.unusedSimpArgs false
set_option maxHeartbeats 1000000
set_option maxRecDepth 100000

theorem sort_halves {β : Type} {c : β → β → Int} (h : TP (fun _ => True) c) (l : List β) (k : Nat) (hk : k ≤ l.length) : ((l.take k).mergeSort (leB c)).merge ((l.drop k).mergeSort (leB c)) (leB c) = l.mergeSort (leB c) := by
  have htr : ∀ a b d, leB c a b = true → leB c b d = true → leB c a d = true := fun a b d x y => by
    unfold leB at *
    rw [decide_eq_true_eq] at *
    exact h.trans a b d trivial trivial trivial x y
  have hto : ∀ a b, (leB c a b || leB c b a) = true := fun a b => by
    unfold leB
    have := h.anti a b
    rw [Bool.or_eq_true, decide_eq_true_eq, decide_eq_true_eq]; omega
  have hz : l.zipIdx = (l.take k).zipIdx ++ (l.drop k).zipIdx k := by
    have := List.zipIdx_append (xs := l.take k) (ys := l.drop k) (k := 0)
    rw [List.take_append_drop, Nat.zero_add, List.length_take, Nat.min_eq_left hk] at this
    exact this
  have e1 : (((l.take k).zipIdx.mergeSort (List.zipIdxLE (leB c))).map (fun x => x.1)) = (l.take k).mergeSort (leB c) := List.mergeSort_zipIdx
  have e2 : ((((l.drop k).zipIdx k).mergeSort (List.zipIdxLE (leB c))).map (fun x => x.1)) = (l.drop k).mergeSort (leB c) := by
    have hm := List.map_mergeSort (r := List.zipIdxLE (leB c)) (s := List.zipIdxLE (leB c)) (f := fun x : β × Nat => (x.1, k + x.2)) (l := (l.drop k).zipIdx) (fun a _ b _ => by
      unfold List.zipIdxLE
      dsimp only
      have : (decide (k + a.2 ≤ k + b.2)) = decide (a.2 ≤ b.2) := by simp
      rw [this])
    have he : (l.drop k).zipIdx k = (l.drop k).zipIdx.map (fun x : β × Nat => (x.1, k + x.2)) := List.zipIdx_eq_map_add
    rw [he, ← hm, List.map_map, ← List.mergeSort_zipIdx (l := l.drop k)]
    rfl
  rw [← e1, ← e2, ← List.map_merge (r := List.zipIdxLE (leB c)) (f := fun x : β × Nat => x.1), ← List.mergeSort_zipIdx (l := l)]
  · congr 1
    refine List.Perm.eq_of_pairwise (le := fun a b => List.zipIdxLE (leB c) a b = true) ?_ ?_ ?_ ?_
    · rintro ⟨a, i⟩ ⟨b, j⟩ ha hb h1 h2
      have hij : i = j := by
        unfold List.zipIdxLE leB at h1 h2
        have := h.anti a b
        simp only [decide_eq_true_eq] at h1 h2
        repeat' split at h1
        all_goals (repeat' split at h2)
        all_goals first | (cases h1; done) | (cases h2; done) | (simp at h1 h2; omega) | omega
      subst hij
      have hb' := List.mem_mergeSort.1 hb
      have ha' : (a, i) ∈ l.zipIdx := by
        rw [hz]
        have := (List.merge_perm_append (le := List.zipIdxLE (leB c))).mem_iff.1 ha
        rcases List.mem_append.1 this with h' | h'
        · exact List.mem_append.2 (.inl (List.mem_mergeSort.1 h'))
        · exact List.mem_append.2 (.inr (List.mem_mergeSort.1 h'))
      rw [List.mk_mem_zipIdx_iff_getElem?] at ha' hb'
      rw [ha'] at hb'
      simp only [Option.some.injEq] at hb'
      rw [hb']
    · exact List.pairwise_merge (List.zipIdxLE_trans htr) (List.zipIdxLE_total hto) _ _ (List.pairwise_mergeSort (List.zipIdxLE_trans htr) (List.zipIdxLE_total hto) _) (List.pairwise_mergeSort (List.zipIdxLE_trans htr) (List.zipIdxLE_total hto) _)
    · exact List.pairwise_mergeSort (List.zipIdxLE_trans htr) (List.zipIdxLE_total hto) _
    · refine (List.merge_perm_append (le := List.zipIdxLE (leB c))).trans ?_
      rw [hz]
      exact ((List.mergeSort_perm _ _).append (List.mergeSort_perm _ _)).trans (List.mergeSort_perm _ _).symm
  · rintro ⟨a, i⟩ ha ⟨b, j⟩ hb
    have ha' := List.mem_mergeSort.1 ha
    have hb' := List.mem_mergeSort.1 hb
    have h1 := List.mem_zipIdx ha'
    have h2 := List.mem_zipIdx hb'
    have hij : i ≤ j := by
      have := h1.2.1; have := h2.1; simp at *; omega
    unfold List.zipIdxLE
    dsimp only
    by_cases hab : leB c a b = true <;> by_cases hba : leB c b a = true <;> simp [hab, hba, hij]

variable {n : Nat} {w w' : World} {B : Nat}
theorem ItemsAt.take_ {l : List (Tm (n + 1))} {g o c : Nat} (h : ItemsAt w B (n + 1) (.slice (some ⟨g, o, none⟩) l.length c) l) (k : Nat) (hk : k ≤ l.length) : ItemsAt w B (n + 1) (.slice (some ⟨g, o, none⟩) k c) (l.take k) := by
  obtain ⟨p, c', e, h1, h2, h3⟩ := h
  simp only [Value.slice.injEq, true_and] at e
  obtain ⟨rfl, rfl⟩ := e
  refine ⟨some ⟨g, o, none⟩, c, by simp [Nat.min_eq_left hk], by simp; omega, h2, fun hn => ?_⟩
  obtain ⟨g', o', e, hg, hc⟩ := h3 (by intro e; subst e; simp at hn)
  refine ⟨g', o', e, hg, fun j hj => ?_⟩
  have hj' : j < l.length := by simp at hj; omega
  obtain ⟨u, hu⟩ := hc j hj'
  exact ⟨u, by simpa using hu⟩
theorem ItemsAt.drop_ {l : List (Tm (n + 1))} {g o c : Nat} (h : ItemsAt w B (n + 1) (.slice (some ⟨g, o, none⟩) l.length c) l) (k : Nat) (hk : k ≤ l.length) : ItemsAt w B (n + 1) (.slice (some ⟨g, o + k * 9, none⟩) (l.length - k) (c - k)) (l.drop k) := by
  obtain ⟨p, c', e, h1, h2, h3⟩ := h
  simp only [Value.slice.injEq, true_and] at e
  obtain ⟨rfl, rfl⟩ := e
  refine ⟨some ⟨g, o + k * 9, none⟩, c - k, by simp, by simp; omega, by omega, fun hn => ?_⟩
  obtain ⟨g', o', e, hg, hc⟩ := h3 (by intro e; subst e; simp at hn)
  simp only [Option.some.injEq, Addr.mk.injEq, and_true] at e
  obtain ⟨rfl, rfl⟩ := e
  refine ⟨_, _, rfl, hg, fun j hj => ?_⟩
  have hj' : k + j < l.length := by simp at hj; omega
  obtain ⟨u, hu1, hu2⟩ := hc (k + j) hj'
  refine ⟨u, ?_, by simpa using hu2⟩
  rw [show o + k * 9 + j * 9 = o + (k + j) * 9 by omega]
  simpa using hu1
/-- the cells of a list, as a row -/
theorem ItemsAt.rows {l : List (Tm (n + 1))} {g o c : Nat} (h : ItemsAt w B (n + 1) (.slice (some ⟨g, o, none⟩) l.length c) l) : ∃ rs : List (TF × Value), rs.length = l.length ∧ (∀ j, (h1 : j < rs.length) → (h2 : j < l.length) → rs[j].1 = l[j].f ∧ ItemsAt w B n rs[j].2 l[j].items) ∧
    (∀ j u, (flatR rs)[j]? = some u → w.cell? ((⟨g, o, none⟩ : Addr).add j) = some u) ∧ ∀ u ∈ flatR rs, u.oneCell' = true := by
  obtain ⟨p, c', e, h1, h2, h3⟩ := h
  simp only [Value.slice.injEq, true_and] at e
  obtain ⟨rfl, rfl⟩ := e
  have key : ∀ k, k ≤ l.length → ∃ rs : List (TF × Value), rs.length = k ∧ ∀ j, (h1 : j < rs.length) → (h2 : j < l.length) → rs[j].1 = l[j].f ∧ ItemsAt w B n rs[j].2 l[j].items ∧ Cells w g (o + j * 9) rs[j].1 rs[j].2 := by
    intro k
    induction k with
    | zero => intro _; exact ⟨[], rfl, fun j h => by simp at h⟩
    | succ k ih =>
      intro hk
      obtain ⟨rs, hl, hr⟩ := ih (by omega)
      obtain ⟨g', o', e, hg, hc⟩ := h3 (by intro e; subst e; simp at hk)
      simp only [Option.some.injEq, Addr.mk.injEq, and_true] at e
      obtain ⟨rfl, rfl⟩ := e
      obtain ⟨u, hu1, hu2⟩ := hc k (by omega)
      refine ⟨rs ++ [((l[k]'(by omega)).f, u)], by simp [hl], fun j h1 h2 => ?_⟩
      by_cases hj : j < rs.length
      · rw [List.getElem_append_left hj]; exact hr j hj h2
      · have : j = k := by simp at h1; omega
        subst this
        rw [List.getElem_append_right (by omega)]
        simp only [hl, Nat.sub_self, List.getElem_cons_zero]
        first | exact ⟨rfl, hu2, hu1⟩ | exact ⟨trivial, hu2, hu1⟩
  obtain ⟨rs, hl, hr⟩ := key l.length (Nat.le_refl _)
  refine ⟨rs, hl, fun j h1 h2 => ⟨(hr j h1 h2).1, (hr j h1 h2).2.1⟩, fun j u hj => ?_, fun u hu => ?_⟩
  · rw [Addr.add_lit]
    have hjl : j < (flatR rs).length := (List.getElem?_eq_some_iff.1 hj).1
    rw [flatR_len] at hjl
    have hq : j / 9 < rs.length := by omega
    have := (hr (j / 9) hq (by omega)).2.2.all (j % 9) (Nat.mod_lt _ (by omega))
    rw [← flatR_get rs (j / 9) hq (j % 9) (Nat.mod_lt _ (by omega))] at this
    rw [show j / 9 * 9 + j % 9 = j by omega, show o + j / 9 * 9 + j % 9 = o + j by omega] at this
    rw [this, hj]
  · unfold flatR at hu
    rw [List.mem_flatMap] at hu
    obtain ⟨r, hr1, hr2⟩ := hu
    obtain ⟨j, hj, rfl⟩ := List.getElem_of_mem hr1
    obtain ⟨_, hi, _⟩ := hr j hj (by omega)
    obtain ⟨q, c2, e, _⟩ := hi.shape
    rw [e] at hr2
    exact nine_one _ _ _ _ u hr2
/-- a growing row of terms, whose elements lie below B -/
def RRow (wr : World) (B base : Nat) (v : Value) (rs : List (TF × Value)) (O : List (Tm (n + 1))) : Prop :=
  wr.ownsRow base 30 9 v O.length (flatR rs) ∧ rs.length = O.length ∧ ∀ j, (h1 : j < rs.length) → (h2 : j < O.length) → rs[j].1 = O[j].f ∧ ItemsAt wr B n rs[j].2 O[j].items
theorem RRow.nil (wr : World) (B base : Nat) : RRow (n := n) wr B base (.slice none 0 0) [] [] := ⟨World.ownsRow_nil _ _ _ _, rfl, fun j h => by simp at h⟩
theorem RRow.items {wr : World} {B base : Nat} {v : Value} {rs : List (TF × Value)} {O : List (Tm (n + 1))} (h : RRow wr B base v rs O) (hB : B ≤ wr.heap.size) : ItemsAt wr wr.heap.size (n + 1) v O := by
  obtain ⟨h1, h2, h3⟩ := h
  rcases h1.2 with ⟨rfl, h0⟩ | ⟨g, cap, cur, rfl, hbg, hg, hc, hm, hs, ht⟩
  · have : O = [] := List.eq_nil_of_length_eq_zero h0
    subst this
    exact ItemsAt.nil_any (by unfold maxLen; omega)
  · refine ⟨_, _, rfl, hc, hm, fun _ => ⟨g, 0, rfl, (Array.getElem?_eq_some_iff.1 hg).1, fun j hj => ?_⟩⟩
    have hj' : j < rs.length := by omega
    have := row_cells h1 (by omega) j hj'
    refine ⟨rs[j].2, ?_, (h3 j hj' hj).2.more hB⟩
    rw [Nat.zero_add, ← (h3 j hj' hj).1]
    exact this
theorem RRow.below {wr w' : World} {B base : Nat} {v : Value} {rs : List (TF × Value)} {O : List (Tm (n + 1))} (h : RRow wr B base v rs O) (hb : Below wr.heap.size wr w') (hB : B ≤ wr.heap.size) : RRow w' B base v rs O := by
  obtain ⟨h1, h2, h3⟩ := h
  refine ⟨row_same h1 (fun k hk => hb.block k ?_), h2, fun j a b => ⟨(h3 j a b).1, (h3 j a b).2.below hb hB⟩⟩
  rcases h1.2 with ⟨rfl, h0⟩ | ⟨g, cap, cur, rfl, hbg, hg, _⟩
  · simp [Value.ownBlock] at hk
  · simp [Value.ownBlock] at hk
    subst hk
    exact (Array.getElem?_eq_some_iff.1 hg).1
/-- an append of further terms -/
theorem RRow.push {wr w' : World} {B base : Nat} {v v' : Value} {rs rs' : List (TF × Value)} {O O' : List (Tm (n + 1))} (h : RRow wr B base v rs O) (hl : rs'.length = O'.length) (h' : ∀ j, (h1 : j < rs'.length) → (h2 : j < O'.length) → rs'[j].1 = O'[j].f ∧ ItemsAt wr B n rs'[j].2 O'[j].items)
    (hown : w'.ownsRow base 30 9 v' (O.length + O'.length) (flatR rs ++ flatR rs')) (hg : wr.grownBy w' v.ownBlock) (hv : ∀ k, v.ownBlock = some k → B ≤ k) (hB : B ≤ wr.heap.size) : RRow w' B base v' (rs ++ rs') (O ++ O') := by
  obtain ⟨h1, h2, h3⟩ := h
  have hs : ∀ g, g < B → w'.heap[g]? = wr.heap[g]? := fun g hg' => hg.block g (by omega) (fun e => by have := hv g e.symm; omega)
  refine ⟨by rw [List.length_append, flatR_append]; exact hown, by simp [h2, hl], fun j a b => ?_⟩
  by_cases hj : j < rs.length
  · rw [List.getElem_append_left hj, List.getElem_append_left (by omega)]
    exact ⟨(h3 j hj (by omega)).1, (h3 j hj (by omega)).2.same hs⟩
  · rw [List.getElem_append_right (by omega), List.getElem_append_right (by omega)]
    have e : j - rs.length = j - O.length := by omega
    have := h' (j - O.length) (by simp at a b; omega) (by simp at a b; omega)
    simp only [e]
    exact ⟨this.1, this.2.same hs⟩
theorem RRow.own_ge {wr : World} {B base : Nat} {v : Value} {rs : List (TF × Value)} {O : List (Tm (n + 1))} (h : RRow wr B base v rs O) : ∀ k, v.ownBlock = some k → base ≤ k := by
  intro k hk
  rcases h.1.2 with ⟨rfl, h0⟩ | ⟨g, cap, cur, rfl, hbg, hg, _⟩
  · simp [Value.ownBlock] at hk
  · simp [Value.ownBlock] at hk
    omega
theorem RRow.shape {wr : World} {B base : Nat} {v : Value} {rs : List (TF × Value)} {O : List (Tm (n + 1))} (h : RRow wr B base v rs O) : ∃ p c, v = .slice p O.length c := by
  rcases h.1.2 with ⟨rfl, h0⟩ | ⟨g, cap, cur, rfl, _⟩
  · exact ⟨_, _, by rw [h0]⟩
  · exact ⟨_, _, rfl⟩
theorem run_append_none24 {P : Program} {w : World} (base : Nat) (t ty e : TypeId) (i : TypeInfo) (size c : Nat) (ht : P.underlying t = some (.slice e)) (hi : P.info? e = some i)
    (v : Value) (n : Nat) (xs : List Value) (hown : w.ownsRow base e size v n xs) :
    (Builtin.append_ #[t, t] ty #[v, .slice none 0 c]).run P w = .ok v w := by
  rcases hown.2 with ⟨rfl, rfl⟩ | ⟨g, cap, cur, rfl, _, _, hnc, _⟩
  · simp [Builtin.append_, run_underlying ht, sizeOf, typeInfo, hi, Builtin.lenOf, Builtin.firstCells]
  · simp [Builtin.append_, run_underlying ht, sizeOf, typeInfo, hi, Builtin.lenOf, Builtin.firstCells, hnc, storeCells]
theorem wpList_append_none24 {P : Program} {w : World} {ops : Array Oper} {rest : List Oper} {o : Oper} {a : Act} {Q : Exit → Act → World → Prop} (hgd : o.guard = none) (s x : Operand) (t : TypeId)
    (ho : o.op = .call { callee := .builtin .append, args := #[s, x], argTypes := #[t, t] })
    (base : Nat) (e : TypeId) (i : TypeInfo) (size c : Nat) (ht : P.underlying t = some (.slice e)) (hi : P.info? e = some i)
    (v : Value) (n : Nat) (xs : List Value) (hs : a.eval s = v) (hown : w.ownsRow base e size v n xs) (hx : a.eval x = .slice none 0 c)
    (h : wpList P ops Q rest (a.put o.dst v) w) : wpList P ops Q (o :: rest) a w := by
  refine wpList_plain hgd fun K hK => ?_
  have hrun := run_append_none24 (P := P) (w := w) base t o.type e i size c ht hi v n xs hown
  unfold Oper.wp
  simp [execOp, ho, resolve, invoke, builtin, hs, hx, hrun, Result.andThen]
  exact hK _ _ h
end Go.Proofs.YtnakbepcalciiaaGreat.tm
