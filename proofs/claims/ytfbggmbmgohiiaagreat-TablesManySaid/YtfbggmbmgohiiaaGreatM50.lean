/- Texts of this seat, one behind the other: TfC, TfD, TfE, TfF. No condition beyond theirs. -/
import Derived.Test.YtfbggmbmgohiiaaGreatM49
import Derived.Test.YtfbggmbmgohiiaaGreatM37
set_option linter.unusedSimpArgs false
set_option linter.unusedVariables false
set_option maxHeartbeats 4000000
set_option maxRecDepth 100000
namespace Go.Proofs.YtfbggmbmgohiiaaGreat.tb
open Go.RowKit mem rec tm names
section
variable {N : Nat} {w W W' : World} {B B2 z g ob zb : Nat} {F : Nat → Prop} {s : TbSt N} {o : Tm (N + 1)} {uo : Value}
theorem outsT_enc (c : EndC w B B2 F s g ob zb o uo) {l : List (TabE N)} (hl : ∀ t ∈ l, t ∈ s.tabs) : EncOK tE 9 (outsT o l) := fun r hr => by
  unfold outsT at hr
  obtain ⟨t, ht, rfl⟩ := List.mem_map.1 hr
  have h1 := c.tb.tabs t (hl t (List.mem_filter.1 ht).1)
  exact ⟨tE_len _, nineL_one (in_one h1.iref)⟩
theorem outsT_len {l : List (TabE N)} : (outsT o l).length ≤ l.length := by
  unfold outsT
  rw [List.length_map]
  exact List.length_filter_le _ _
theorem outsT_succ {l : List (TabE N)} {j : Nat} {t : TabE N} (h : l[j]? = some t) : outsT o (l.take (j + 1)) = outsT o (l.take j) ++ (if eqB t.own o then [(t.ref, t.ur)] else []) := by
  unfold outsT
  rw [List.take_add_one, h, List.filter_append, List.map_append]
  congr 1
  show (List.filter (fun t => eqB t.own o) [t]).map _ = _
  cases hq : eqB t.own o <;> simp [hq]
noncomputable def kept (o : Tm (N + 1)) (l : List (TabE N)) : List (TabE N) := l.filter (fun t => !eqB t.own o)
theorem kept_succ {l : List (TabE N)} {j : Nat} {t : TabE N} (h : l[j]? = some t) : kept o (l.take (j + 1)) = kept o (l.take j) ++ (if eqB t.own o then [] else [t]) := by
  unfold kept
  rw [List.take_add_one, h, List.filter_append]
  congr 1
  show List.filter (fun t => !eqB t.own o) [t] = _
  cases hq : eqB t.own o <;> simp [hq]
theorem ptr_at {L : List Nat} {n cp : Nat} (h : RecOwn ptrL 89 1 W B (.slice (some ⟨g, 0, none⟩) n cp) L) {i : Nat} (hi : i < L.length) : W.cell? ⟨g, i, none⟩ = some (.pointer (some ⟨L[i], 0, none⟩)) ∧ W.frozen? ⟨g, i, none⟩ = false := by
  have hr := h.row (ptrL_ok L)
  obtain ⟨g', o', e, _, hg, hc⟩ := hr.nth (by omega)
  simp only [Option.some.injEq, Addr.mk.injEq, and_true] at e
  obtain ⟨rfl, rfl⟩ := e
  obtain ⟨g', cap, cur, hv, hbg, hg2, _⟩ := own_some h (by omega)
  simp only [Value.slice.injEq, Option.some.injEq, Addr.mk.injEq, and_true, true_and] at hv
  obtain ⟨rfl, _⟩ := hv
  refine ⟨?_, by simp only [World.frozen?, hg2]; simp⟩
  have := hc i L[i] (List.getElem?_eq_getElem hi) 0 _ rfl
  simpa using this
def IdxE (w : World) (g ob : Nat) (o : Tm (N + 1)) (l : List (TabE N)) (W : World) (m : Nat) (iv : Value) (wr : World) : Prop := ∃ i : Nat, iv = .int .i64 (i : Int) ∧ i ≤ l.length ∧ m = l.length - i ∧ EndS w g ob (outsT o (l.take i)) wr ∧ wr.heap[g]? = W.heap[g]? ∧ ∀ j, (hj : j < i) → (hl : j < l.length) → eqB (l[j]).own o = false
def IdxP (w : World) (g ob : Nat) (o : Tm (N + 1)) (l : List (TabE N)) (W : World) (e : Ending) (w' : World) : Prop := w'.heap[g]? = W.heap[g]? ∧ ((e = .returned (.int .i64 (-1)) ∧ EndS w g ob (outsT o l) w' ∧ ∀ t ∈ l, eqB t.own o = false) ∨
  ∃ i : Nat, i < l.length ∧ e = .returned (.int .i64 (i : Int)) ∧ EndS w g ob (outsT o (l.take (i + 1))) w' ∧ (∀ j, (hj : j < i) → (hl : j < l.length) → eqB (l[j]).own o = false) ∧ ∀ h : i < l.length, eqB (l[i]).own o = true)
theorem index81o (c : EndC w B B2 F s g ob zb o uo) (hlen : s.tabs.length ≤ 1000) (E : EndS (N := N) w g ob [] W) {n cp : Nat} (hn : n = s.tabs.length) (hown : RecOwn ptrL 89 1 W B (.slice (some ⟨g, 0, none⟩) n cp) (s.tabs.map (·.b))) :
    Calls Tryz.prog 81 #[.slice (some ⟨g, 0, none⟩) n cp, .func (.func 65) #[] #[.pointer (some ⟨zb, 0, none⟩), .pointer (some ⟨ob, 0, none⟩)]] W (IdxP w g ob o s.tabs W) := by
  have hgt : ∀ X, X.heap[g]? = W.heap[g]? → RecOwn ptrL 89 1 X B (.slice (some ⟨g, 0, none⟩) n cp) (s.tabs.map (·.b)) := fun X hX => hown.same (fun k hk => by
    have e : k = g := (Option.some.inj hk).symm
    rw [e]; exact hX)
  have HPt := Lib.hid (fun (X : World) (hX : X.heap[g]? = W.heap[g]?) (i : Nat) (hi : i < s.tabs.length) => (show X.cell? ⟨g, i, none⟩ = some (.pointer (some ⟨(s.tabs[i]).b, 0, none⟩)) from by
    have := (ptr_at (hgt X hX) (i := i) (by rw [List.length_map]; exact hi)).1
    rwa [List.getElem_map] at this))
  have HC := Lib.hid (fun (X : World) (i : Nat) (hi : i < s.tabs.length) (hE : EndS w g ob (outsT o (s.tabs.take i)) X) => (show Calls Tryz.prog 65 #[.pointer (some ⟨(s.tabs[i]).b, 0, none⟩), .pointer (some ⟨zb, 0, none⟩), .pointer (some ⟨ob, 0, none⟩)] X (ClosQ w g ob (eqB (s.tabs[i]).own o) (outsT o (s.tabs.take (i + 1))) X) from by
    rw [outsT_succ (List.getElem?_eq_getElem hi)]
    exact clos65 c hE (outsT_enc c (fun t ht => List.mem_of_mem_take ht)) (by have := outsT_len (o := o) (l := s.tabs.take i); rw [List.length_take] at this; omega) (List.getElem_mem hi)))
  clear c hown hgt
  generalize s.tabs = l at *
  subst hn
  have H00 : Hid (IdxE w g ob o l W l.length (.int .i64 0) W) := Lib.hid ⟨0, rfl, Nat.zero_le _, rfl, E, rfl, fun j hj => by omega⟩
  clear E
  go_enter Tryz.func81, Tryz.ntmps81
  go_wp2_with fail
  go_loopg [8] l.length (fun m iv wr => Hid (IdxE w g ob o l W m iv wr))
  case atStart => exact H00
  case round =>
    obtain ⟨i, rfl, hi, hm, hE, hg, hno⟩ := hrel.out
    clear hrel H00
    have HM := Lib.hid hm
    by_cases hlt : i < l.length
    · have r1 : (i : Int) < (l.length : Int) := by omega
      have hp := HPt.out wr hg i hlt
      have HCi := Lib.hid (HC.out wr i hlt hE)
      have HG := Lib.hid hg
      have HNo := Lib.hid hno
      obtain ⟨q, hq⟩ : ∃ q, eqB (l[i]).own o = q := ⟨_, rfl⟩
      have HQ := Lib.hid hq
      rw [hq] at HCi
      clear hg hE hm hno hq
      generalize (l[i]).b = tb at *
      unfold ClosQ at HCi
      go_wp2_with fail
      refine HCi.out.mono ?_
      rintro e w2 ⟨rfl, hE2, hg2⟩
      have HE2 := Lib.hid hE2
      have HG2 := Lib.hid (hg2.trans HG.out)
      clear hE2 hg2 hp
      cases q
      · have HN : Hid (∀ j, (hj : j < i + 1) → (hl : j < l.length) → eqB (l[j]).own o = false) := Lib.hid (fun j hj hl => by
          by_cases e : j = i
          · subst e; exact HQ.out
          · exact HNo.out j (by omega) hl)
        go_wp2_with fail
        go_roundg (l.length - (i + 1))
        case measure => have := HM.out; omega
        case rel => exact Lib.hid ⟨i + 1, by go_num, by omega, rfl, HE2.out, HG2.out, HN.out⟩
      · go_wp2_with fail
        go_ret
        exact ⟨HG2.out, .inr ⟨i, hlt, rfl, HE2.out, HNo.out, fun _ => HQ.out⟩⟩
    · obtain rfl : i = l.length := by omega
      have HE := Lib.hid hE
      have HG := Lib.hid hg
      have HNo := Lib.hid hno
      clear hE hg hno hm
      go_wp2_with fail
      go_ret
      refine ⟨HG.out, .inl ⟨rfl, ?_, fun t ht => ?_⟩⟩
      · have := HE.out
        rwa [List.take_length] at this
      · obtain ⟨j, hj, rfl⟩ := List.mem_iff_getElem.1 ht
        exact HNo.out j hj hj
end
theorem zeroCells89 (n : Nat) : (Builtin.zeroCells #[.pointer none] n).toList = List.replicate n (.pointer none) := by
  apply List.ext_getElem?
  intro i
  simp only [Builtin.zeroCells, Array.toList_map, Array.toList_range, List.getElem?_map]
  by_cases h : i < n
  · rw [List.getElem?_range (by simpa using h), List.getElem?_replicate, if_pos h]
    have e : i % 1 = 0 := Nat.mod_one i
    show some (#[Value.pointer none][i % 1]!) = _
    rw [e]
    rfl
  · rw [List.getElem?_eq_none (by simpa using h), List.getElem?_replicate, if_neg h]
    rfl
theorem ptr_map (M : List Nat) : M.flatMap ptrL = M.map (fun b => Value.pointer (some ⟨b, 0, none⟩)) := by
  induction M with
  | nil => rfl
  | cons a M ih => rw [List.flatMap_cons, ih]; rfl
theorem clear_rest {w : World} {B g n c : Nat} {L : List Nat} (hown : RecOwn ptrL 89 1 w B (.slice (some ⟨g, 0, none⟩) n c) L) {k : Nat} (hk : k < L.length) (c' : Nat) (ty : TypeId) :
    ∃ w', (Builtin.clear_ #[72] ty #[.slice (some ⟨g, k, none⟩) (n - k) c']).run Tryz.prog w = .ok (.tuple #[]) w' ∧ RecOwn ptrL 89 1 w' B (.slice (some ⟨g, 0, none⟩) k c) (L.take k) ∧ TouchB (fun q => q = g) w w' := by
  obtain ⟨g', cap, cur, hv, hbg, hg, hnc, hcm, hcs, htk⟩ := own_some hown (by omega)
  simp only [Value.slice.injEq, Option.some.injEq, Addr.mk.injEq, and_true, true_and] at hv
  obtain ⟨rfl, rfl, rfl⟩ := hv
  have hm : L.length - k ≠ 0 := by omega
  obtain ⟨m, hm⟩ : ∃ m, L.length - k = m + 1 := ⟨L.length - k - 1, by omega⟩
  rw [Nat.mul_one] at hcs htk
  have hlr : (List.replicate (m + 1) (Value.pointer none)).length = m + 1 := List.length_replicate
  have hst := run_storeCells_at Tryz.prog g k 89 (List.replicate (m + 1) (.pointer none)) 0 cur w hg (by rw [hlr, hcs]; omega) (fun v hv => by
    obtain ⟨_, rfl⟩ := List.mem_replicate.1 hv
    rfl)
  simp only [Nat.add_zero, hlr] at hst
  have hcl : cur.toList.length = c := by rw [Array.length_toList]; exact hcs
  have hz := zeroCells89 (m + 1)
  rw [hm]
  refine ⟨w.setRow g (cur.toList.take k ++ List.replicate (m + 1) (Value.pointer none) ++ cur.toList.drop (k + (m + 1))).toArray, ?_, ⟨?_, .inr ⟨g, c, _, by rw [List.length_take]; congr 1; omega, hbg, setRow_heap _ _ _ _ _ _ hg, by rw [List.length_take]; omega, hcm, ?_, ?_⟩⟩, touch_setRow _ _ _⟩
  · have hzv : (zeroValue 89).run Tryz.prog w = .ok (.pointer none) w := by kernel_rfl
    simp [Builtin.clear_, run_underlying Tryz.underlying72, hzv, Value.cells, hz, hst]
  · exact flat_len (ptrL_ok _)
  · rw [List.size_toArray, List.length_append, List.length_append, List.length_take, List.length_drop, hlr, hcl, Nat.mul_one]
    omega
  · rw [List.toList_toArray, Nat.mul_one, List.length_take, Nat.min_eq_left (by omega)]
    have h1 : (cur.toList.take k).length = k := by rw [List.length_take]; omega
    rw [List.append_assoc, List.take_left' h1]
    have h2 : cur.toList.take k = (cur.toList.take L.length).take k := by rw [List.take_take, Nat.min_eq_left (by omega)]
    rw [h2, htk]
    rw [ptr_map, ptr_map, List.map_take]
section
variable {N : Nat} {w W W' : World} {B B2 z g ob zb : Nat} {F : Nat → Prop} {s : TbSt N} {o : Tm (N + 1)} {uo : Value}
def EndP (w : World) (B g ob : Nat) (o : Tm (N + 1)) (l : List (TabE N)) (e : Ending) (w' : World) : Prop := ∃ v', e = .returned v' ∧ RecOwn ptrL 89 1 w' B v' ((kept o l).map (·.b)) ∧ EndS w g ob (outsT o l) w' ∧ v'.ownBlock = some g
def DlR (w : World) (B g ob cp : Nat) (o : Tm (N + 1)) (l : List (TabE N)) (k j : Nat) (wr : World) : Prop := ∃ L : List Nat, j ≤ l.length ∧ k < j ∧ L.length = l.length ∧ L.take k = (kept o (l.take j)).map (·.b) ∧ L.drop j = (l.drop j).map (·.b) ∧ EndS w g ob (outsT o (l.take j)) wr ∧ RecOwn ptrL 89 1 wr B (.slice (some ⟨g, 0, none⟩) l.length cp) L
def DlI (w : World) (B g ob cp : Nat) (o : Tm (N + 1)) (l : List (TabE N)) (m : Nat) (iv jv : Value) (wr : World) : Prop := ∃ (k j : Nat), iv = .int .i64 (k : Int) ∧ jv = .int .i64 (j : Int) ∧ m = l.length - j ∧ DlR w B g ob cp o l k j wr
theorem kept_all {l : List (TabE N)} (h : ∀ t ∈ l, eqB t.own o = false) : kept o l = l := by
  unfold kept
  rw [List.filter_eq_self]
  intro t ht
  rw [h t ht]
  rfl
theorem dl_start {cp : Nat} {l : List (TabE N)} {i : Nat} (hi : i < l.length) (hE : EndS w g ob (outsT o (l.take (i + 1))) W) (hown : RecOwn ptrL 89 1 W B (.slice (some ⟨g, 0, none⟩) l.length cp) (l.map (·.b))) (h0 : ∀ j, (hj : j < i) → (hl : j < l.length) → eqB (l[j]).own o = false) (h1 : eqB (l[i]).own o = true) : DlR w B g ob cp o l i (i + 1) W := by
  refine ⟨l.map (·.b), hi, Nat.lt_succ_self i, List.length_map _, ?_, List.map_drop.symm, hE, hown⟩
  rw [kept_succ (List.getElem?_eq_getElem hi), h1, if_pos rfl, List.append_nil, kept_all, List.map_take]
  intro t ht
  obtain ⟨j, hj, e⟩ := List.mem_iff_getElem.1 ht
  rw [List.length_take] at hj
  rw [List.getElem_take] at e
  rw [← e]
  exact h0 j (by omega) (by omega)
theorem dl_out {cp : Nat} {l : List (TabE N)} {k j : Nat} {L : List Nat} (hj : j < l.length) (hk : k < j) (hL : L.length = l.length) (h1 : L.take k = (kept o (l.take j)).map (·.b)) (h2 : L.drop j = (l.drop j).map (·.b)) (hE : EndS w g ob (outsT o (l.take (j + 1))) W) (hown : RecOwn ptrL 89 1 W B (.slice (some ⟨g, 0, none⟩) l.length cp) L) (hq : eqB (l[j]).own o = true) : DlR w B g ob cp o l k (j + 1) W := by
  refine ⟨L, hj, by omega, hL, ?_, ?_, hE, hown⟩
  · rw [kept_succ (List.getElem?_eq_getElem hj), hq, if_pos rfl, List.append_nil, h1]
  · have := congrArg (List.drop 1) h2
    rwa [List.drop_drop, ← List.map_drop, List.drop_drop] at this
theorem dl_keep (c : EndC w B B2 F s g ob zb o uo) {cp : Nat} {l : List (TabE N)} {k j : Nat} {L : List Nat} (hj : j < l.length) (hk : k < j) (hL : L.length = l.length) (h1 : L.take k = (kept o (l.take j)).map (·.b)) (h2 : L.drop j = (l.drop j).map (·.b)) (hE : EndS w g ob (outsT o (l.take (j + 1))) W) (hown : RecOwn ptrL 89 1 W B (.slice (some ⟨g, 0, none⟩) l.length cp) L) (hq : eqB (l[j]).own o = false) : DlR w B g ob cp o l (k + 1) (j + 1) (W.setCell ⟨g, k, none⟩ (.pointer (some ⟨(l[j]).b, 0, none⟩))) := by
  have hgl := ty_lt c.tg
  have hgo : g ≠ ob := ty_ne c.tg c.to_ (by decide)
  obtain ⟨vo, q1, q2⟩ := hE.out
  have hE2 : EndS w g ob (outsT o (l.take (j + 1))) (W.setCell ⟨g, k, none⟩ (.pointer (some ⟨(l[j]).b, 0, none⟩))) := ⟨TouchB.setCell hE.T _ _ (fun _ => .inl rfl), vo, (Below.heap_setCell _ _ _ _ (Ne.symm hgo)).trans q1, q2.same (fun q hq => Below.heap_setCell _ _ _ _ (fun e => by
    have := (q2.lt hq).1
    have e : q = g := e
    omega))⟩
  have hown2 : RecOwn ptrL 89 1 (W.setCell ⟨g, k, none⟩ (.pointer (some ⟨(l[j]).b, 0, none⟩))) B (.slice (some ⟨g, 0, none⟩) l.length cp) (L.set k (l[j]).b) := by
    obtain ⟨g', cap, cur, hv, hbg, hg, hnc, hcm, hcs, htk⟩ := own_some hown (by omega)
    simp only [Value.slice.injEq, Option.some.injEq, Addr.mk.injEq, and_true, true_and] at hv
    obtain ⟨rfl, e, rfl⟩ := hv
    refine ⟨by rw [flat_len (ptrL_ok _)], .inr ⟨g, cp, cur.setIfInBounds k (.pointer (some ⟨(l[j]).b, 0, none⟩)), by rw [List.length_set]; congr 1, hbg, set_block hg _, by rw [List.length_set]; exact hnc, hcm, by rw [Array.size_setIfInBounds]; exact hcs, ?_⟩⟩
    rw [Array.toList_setIfInBounds, List.length_set, List.take_set, htk]
    refine List.ext_getElem? fun i => ?_
    have fg : ∀ (M : List Nat) (i : Nat), (M.flatMap ptrL)[i]? = (M[i]?).map (fun b => Value.pointer (some ⟨b, 0, none⟩)) := fun M i => by
      rw [ptr_map, List.getElem?_map]
    rw [List.getElem?_set, fg, fg, List.getElem?_set]
    have hfl : (L.flatMap ptrL).length = L.length := by rw [flat_len (ptrL_ok _), Nat.mul_one]
    rw [hfl]
    split
    · split <;> rfl
    · rfl
  refine ⟨L.set k (l[j]).b, hj, by omega, by rw [List.length_set]; exact hL, ?_, ?_, hE2, hown2⟩
  · rw [kept_succ (List.getElem?_eq_getElem hj), hq, if_neg (by decide), List.map_append, ← h1, List.take_add_one, List.take_set_of_le (Nat.le_refl _), List.getElem?_set_self (by omega)]
    rfl
  · rw [List.drop_set_of_lt (by omega)]
    have := congrArg (List.drop 1) h2
    rwa [List.drop_drop, ← List.map_drop, List.drop_drop] at this
end
section
variable {N : Nat} {w W W' : World} {B B2 z g ob zb : Nat} {F : Nat → Prop} {s : TbSt N} {o : Tm (N + 1)} {uo : Value}
theorem del64 (c : EndC w B B2 F s g ob zb o uo) (hlen : s.tabs.length ≤ 1000) (E : EndS (N := N) w g ob [] W) {n cp : Nat} (hn : n = s.tabs.length) (hown : RecOwn ptrL 89 1 W B (.slice (some ⟨g, 0, none⟩) n cp) (s.tabs.map (·.b))) :
    Calls Tryz.prog 64 #[.slice (some ⟨g, 0, none⟩) n cp, .func (.func 65) #[] #[.pointer (some ⟨zb, 0, none⟩), .pointer (some ⟨ob, 0, none⟩)]] W (EndP w B g ob o s.tabs) := by
  have hncp : n ≤ cp ∧ cp ≤ maxLen := by
    obtain ⟨_, c', e, h1, h2⟩ := hown.shape
    simp only [Value.slice.injEq] at e
    rw [e.2.2]
    rw [List.length_map] at h1
    exact ⟨by omega, h2⟩
  obtain ⟨hnc, hcm⟩ := hncp
  unfold maxLen at hcm
  have hgt : ∀ X, X.heap[g]? = W.heap[g]? → RecOwn ptrL 89 1 X B (.slice (some ⟨g, 0, none⟩) n cp) (s.tabs.map (·.b)) := fun X hX => hown.same (fun k hk => by
    have e : k = g := (Option.some.inj hk).symm
    rw [e]; exact hX)
  have HG := Lib.hid hgt
  have HIx := Lib.hid (index81o c hlen E hn hown)
  have HCl := Lib.hid (fun (X : World) (i : Nat) (hi : i < s.tabs.length) (hE : EndS w g ob (outsT o (s.tabs.take i)) X) => (show Calls Tryz.prog 65 #[.pointer (some ⟨(s.tabs[i]).b, 0, none⟩), .pointer (some ⟨zb, 0, none⟩), .pointer (some ⟨ob, 0, none⟩)] X (ClosQ w g ob (eqB (s.tabs[i]).own o) (outsT o (s.tabs.take (i + 1))) X) from by
    rw [outsT_succ (List.getElem?_eq_getElem hi)]
    exact clos65 c hE (outsT_enc c (fun t ht => List.mem_of_mem_take ht)) (by have := outsT_len (o := o) (l := s.tabs.take i); rw [List.length_take] at this; omega) (List.getElem_mem hi)))
  have HC := Lib.hid c
  have hgol : g < w.heap.size ∧ ob < w.heap.size ∧ g ≠ ob := ⟨ty_lt c.tg, ty_lt c.to_, ty_ne c.tg c.to_ (by decide)⟩
  have HGo := Lib.hid hgol
  clear hgt c hown hgol E
  generalize s.tabs = l at *
  subst hn
  unfold IdxP at HIx
  go_enter Tryz.func64, Tryz.ntmps64
  go_wp2_with fail
  refine HIx.out.mono ?_
  rintro e w2 ⟨hg2, ⟨rfl, hE2, hall⟩ | ⟨i0, hi0, rfl, hE2, h0, h1⟩⟩
  · have HE2 := Lib.hid hE2
    have HA := Lib.hid hall
    have HW := Lib.hid (HG.out _ hg2)
    clear hE2 hall hg2 HIx
    go_wp2_with fail
    go_ret
    exact ⟨_, rfl, by rw [kept_all HA.out]; exact HW.out, HE2.out, rfl⟩
  · have H00 : Hid (DlR w B g ob cp o l i0 (i0 + 1) w2) := Lib.hid (dl_start hi0 hE2 (HG.out _ hg2) h0 (h1 hi0))
    have r0 : ¬ ((i0 : Int) = -1) := by omega
    have hi1 : (i0 : Int) < (l.length : Int) := by omega
    have hw1 : IntKind.i64.wrap ((i0 : Int) + 1) = (i0 : Int) + 1 := IntWalk.i64_in _ (by omega)
    clear hE2 hg2 h0 h1 HIx
    go_wp2_with fail
    go_loopg [5, 6] (l.length - (i0 + 1)) (fun m iv jv wr => Hid (DlI w B g ob cp o l m iv jv wr))
    case atStart => exact Lib.hid ⟨i0, i0 + 1, rfl, by go_num, rfl, H00.out⟩
    case round =>
      obtain ⟨k, j, rfl, rfl, hm, L, hj, hk, hL, h1, h2, hE, hO⟩ := hrel.out
      clear hrel H00 r0 hi1 hw1
      have HM := Lib.hid hm
      by_cases hlt : j < l.length
      · have r1 : (j : Int) < (l.length : Int) := by omega
        have hLj : L[j]'(by omega) = (l[j]).b := by
          have := congrArg (fun x => x[0]?) h2
          simp only [List.getElem?_drop, List.getElem?_map, Nat.add_zero] at this
          rw [List.getElem?_eq_getElem (by omega), List.getElem?_eq_getElem hlt] at this
          exact Option.some.inj this
        have hp := (ptr_at hO (i := j) (by omega)).1
        rw [hLj] at hp
        obtain ⟨q, hq⟩ : ∃ q, eqB (l[j]).own o = q := ⟨_, rfl⟩
        have HCi := Lib.hid (HCl.out wr j hlt hE)
        rw [hq] at HCi
        have HOs := Lib.hid (fun (X : World) (hX : X.heap[g]? = wr.heap[g]?) => hO.same (w' := X) (fun k hk => by
          have e : k = g := (Option.some.inj hk).symm
          rw [e]; exact hX))
        have HOut := Lib.hid (fun (X : World) (hX : X.heap[g]? = wr.heap[g]?) (hE2 : EndS w g ob (outsT o (l.take (j + 1))) X) (hqt : eqB (l[j]).own o = true) => dl_out hlt hk hL h1 h2 hE2 (HOs.out X hX) hqt)
        have HKeep := Lib.hid (fun (X : World) (hX : X.heap[g]? = wr.heap[g]?) (hE2 : EndS w g ob (outsT o (l.take (j + 1))) X) (hqf : eqB (l[j]).own o = false) => dl_keep HC.out hlt hk hL h1 h2 hE2 (HOs.out X hX) hqf)
        have HPk := Lib.hid (fun (X : World) (hX : X.heap[g]? = wr.heap[g]?) => ptr_at (HOs.out X hX) (i := k) (by omega))
        rw [hq] at HOut HKeep
        have r2 : (k : Int) < (l.length : Int) := by omega
        clear h1 h2 hE hO hLj hm hq
        generalize (l[j]).b = tb at *
        unfold ClosQ at HCi
        go_wp2_with fail
        refine HCi.out.mono ?_
        rintro e w3 ⟨rfl, hE3, hg3⟩
        clear hp
        cases q
        · have HK := Lib.hid (HKeep.out w3 hg3 hE3 rfl)
          obtain ⟨hk1, hk2⟩ := HPk.out w3 hg3
          generalize L[k]'(by omega) = bk at *
          clear hE3 hg3
          go_wp2_with fail
          go_roundg (l.length - (j + 1))
          case measure => have := HM.out; omega
          case rel => exact Lib.hid ⟨k + 1, j + 1, by go_num, by go_num, rfl, HK.out⟩
        · have HK := Lib.hid (HOut.out w3 hg3 hE3 rfl)
          clear hE3 hg3
          go_wp2_with fail
          go_roundg (l.length - (j + 1))
          case measure => have := HM.out; omega
          case rel => exact Lib.hid ⟨k, j + 1, rfl, by go_num, rfl, HK.out⟩
      · obtain rfl : j = l.length := by omega
        rw [List.take_length] at h1 hE
        obtain ⟨w7, hr7, hown7, hT7⟩ := clear_rest hO (k := k) (by omega) (cp - k) 0
        have hne : ¬ (cp = k) := by omega
        have hkn : (k : Int) ≤ (l.length : Int) := by omega
        have hkc : (k : Int) ≤ (cp : Int) := by omega
        have hnc2 : (l.length : Int) ≤ (cp : Int) := by omega
        have HF : Hid (EndP w B g ob o l (.returned (.slice (some ⟨g, 0, none⟩) k cp)) w7) := Lib.hid ⟨_, rfl, by rw [h1] at hown7; exact hown7, ⟨hE.T.trans hT7 (fun q _ e => .inl e), by
          obtain ⟨vo, q1, q2⟩ := hE.out
          have hne := HGo.out
          exact ⟨vo, (hT7.block ob (by have := hE.T.size; omega) (fun e => hne.2.2 e.symm)).trans q1, q2.same (fun q hq => hT7.block q (q2.lt hq).2 (fun e => by have := (q2.lt hq).1; omega))⟩⟩, rfl⟩
        clear h1 h2 hE hO hown7 hT7 hm
        go_wp2_with (refine wpList_clear_run rfl (.tmp 38) rfl (by first | rfl | (simp only [hne, if_false]; rfl)) hr7 ?_)
        go_ret
        exact HF.out
end
section
theorem index81n (W : World) (fv : Value) : Calls Tryz.prog 81 #[.slice none 0 0, fv] W fun e w' => e = .returned (.int .i64 (-1)) ∧ Below W.heap.size W w' := by
  have HB := Lib.hid (Below.refl W.heap.size W)
  go_enter Tryz.func81, Tryz.ntmps81
  go_wp2_with fail
  refine wp_loop_rounds 1 ?_
  rw [rounds_succ]
  go_wp2_with fail
  go_ret
  exact ⟨rfl, HB.out⟩
theorem del64n (W : World) (fv : Value) : Calls Tryz.prog 64 #[.slice none 0 0, fv] W fun e w' => e = .returned (.slice none 0 0) ∧ Below W.heap.size W w' := by
  have HI := Lib.hid (index81n W fv)
  go_enter Tryz.func64, Tryz.ntmps64
  go_wp2_with fail
  refine HI.out.mono ?_
  rintro e w2 ⟨rfl, hb⟩
  have HB := Lib.hid hb
  clear hb HI
  go_wp2_with fail
  go_ret
  exact ⟨rfl, HB.out⟩
variable {N : Nat} {w w' W W' : World} {B B2 z g ob zb : Nat} {F : Nat → Prop} {s : TbSt N} {o : Tm (N + 1)} {uo : Value}
def DelG (w : World) (B ob : Nat) (o : Tm (N + 1)) (s : TbSt N) (e : Ending) (w' : World) : Prop := ∃ v' vo, e = .returned v' ∧ RecOwn ptrL 89 1 w' B v' ((kept o s.tabs).map (·.b)) ∧ w'.heap[ob]? = some (.cells #[vo] 22) ∧ RecOwn tE 24 9 w' w.heap.size vo (outsT o s.tabs) ∧ TouchB (fun k => s.vl.ownBlock = some k ∨ k = ob) w w' ∧ ∀ k, v'.ownBlock = some k → s.vl.ownBlock = some k
theorem del64g (h : TbAt w B F s) (hlen : s.tabs.length ≤ 1000) (hB2 : B2 ≤ B) (hob : w.heap[ob]? = some (.cells #[.slice none 0 0] 22)) (hbo : B ≤ ob) (hz : w.heap[zb]? = some (cells9 o.f uo)) (hI : ItemsAt w B2 N uo o.items) :
    Calls Tryz.prog 64 #[s.vl, .func (.func 65) #[] #[.pointer (some ⟨zb, 0, none⟩), .pointer (some ⟨ob, 0, none⟩)]] w (DelG w B ob o s) := by
  rcases h.l.2 with ⟨e1, e2⟩ | ⟨g, cap, cur, e1, hbg, hg, _⟩
  · rw [List.length_map] at e2
    have e3 : s.tabs = [] := List.eq_nil_of_length_eq_zero e2
    rw [e1]
    refine (del64n w _).mono ?_
    rintro e w2 ⟨rfl, hb⟩
    refine ⟨_, .slice none 0 0, rfl, ?_, (hb.block ob (Array.getElem?_eq_some_iff.1 hob).1).trans hob, ?_, (TouchB.refl _ _).ofBelow hb (Nat.le_refl _), fun k hk => by simp [Value.ownBlock] at hk⟩
    · rw [e3]
      exact RecOwn.nil _ _ _
    · rw [e3]
      exact RecOwn.nil _ _ _
  · have c : EndC w B B2 F s g ob zb o uo := ⟨h, tyOf_of hg, tyOf_of hob, hz, hI, Nat.le_trans hB2 hbg, Nat.le_trans hB2 hbo⟩
    have E : EndS (N := N) w g ob [] w := ⟨TouchB.refl _ _, _, hob, RecOwn.nil _ _ _⟩
    have hown := h.l
    rw [e1] at hown ⊢
    refine (del64 c hlen E (List.length_map _) hown).mono ?_
    rintro e w2 ⟨v', rfl, h1, hE, h2⟩
    obtain ⟨vo, q1, q2⟩ := hE.out
    have hs : s.vl.ownBlock = some g := by rw [e1]; rfl
    refine ⟨v', vo, rfl, h1, q1, q2, ?_, fun k hk => by rw [hs, ← hk, h2]⟩
    have := hE.T
    have e : (fun k => s.vl.ownBlock = some k ∨ k = ob) = (fun k => k = g ∨ k = ob) := funext fun k => by
      rw [hs]
      exact propext ⟨fun h => h.elim (fun h => .inl (Option.some.inj h).symm) .inr, fun h => h.elim (fun h => .inl (by rw [h])) .inr⟩
    rw [e]
    exact this
theorem TbAt.sub (h : TbAt w B F s) (p : TabE N → Bool) {v' : Value} (hs : ∀ k, k < w.heap.size → (F k ∨ tyOf w k = some 98 ∨ tyOf w k = some 108) → w'.heap[k]? = w.heap[k]?) (hz : w.heap.size ≤ w'.heap.size) (ho : w'.heap[s.z]? = some (.cells #[.bool true, v'] 74)) (hl : RecOwn ptrL 89 1 w' B v' ((s.tabs.filter p).map (·.b))) : TbAt w' B F ⟨s.z, v', s.tabs.filter p⟩ := by
  have hF : ∀ k, F k → w'.heap[k]? = w.heap[k]? := fun k hk => hs k (h.fl k hk) (.inl hk)
  have hnd : ((s.tabs.filter p).map (·.b)).Nodup := h.nd.sublist (List.filter_sublist.map _)
  refine ⟨ho, hl, fun t ht => ?_, hnd, fun i j ti tj hi hj hij k hk => ?_, h.low, h.ty.same hF, fun k hk => Nat.lt_of_lt_of_le (h.fl k hk) hz⟩
  · have h1 := h.tabs t (List.mem_filter.1 ht).1
    exact h1.same (hs _ h1.lt (.inr (.inl (tyOf_of h1.blk)))) (fun k hk => hs k (h1.rows.lt hk).2 (.inr (.inr (ownTy h1.rows hk)))) hF (fun _ q => q)
  · obtain ⟨i', hi'⟩ := List.mem_iff_getElem?.1 (List.mem_filter.1 (List.mem_of_getElem? hi)).1
    obtain ⟨j', hj'⟩ := List.mem_iff_getElem?.1 (List.mem_filter.1 (List.mem_of_getElem? hj)).1
    refine h.rnd i' j' ti tj hi' hj' (fun e => ?_) k hk
    subst e
    rw [hi'] at hj'
    obtain rfl := Option.some.inj hj'
    have key : ∀ a b : Nat, a < b → (s.tabs.filter p)[a]? = some ti → (s.tabs.filter p)[b]? = some ti → False := fun a b hab ha hb => by
      obtain ⟨_, e1⟩ := List.getElem?_eq_some_iff.1 ha
      obtain ⟨hbl, e2⟩ := List.getElem?_eq_some_iff.1 hb
      have := List.pairwise_iff_getElem.1 hnd a b (by rw [List.length_map]; omega) (by rw [List.length_map]; omega) hab
      rw [List.getElem_map, List.getElem_map, e1, e2] at this
      exact this rfl
    rcases Nat.lt_or_gt_of_ne hij with hlt | hlt
    · exact key i j hlt hi hj
    · exact key j i hlt hj hi
end
end Go.Proofs.YtfbggmbmgohiiaaGreat.tb
