/- filled. Conditions: the list of calls lies in memory. -/
import Derived.Test.YtgkiknkifleofaaWalkU
namespace Go.Proofs.Ytgkiknkifleofaa.tm
open Go.RowKit mem TP
set_option linter.unusedVariables false
set_option linter.unusedSimpArgs false
set_option maxHeartbeats 1000000
set_option maxRecDepth 100000

/-- a call of the list -/
structure AD where
  kind : Int
  due : Int
  id : Int
def adV (a : AD) : List Value := [.int .i64 a.kind, .int .i64 a.due, .int .i64 a.id]
def adsV (l : List AD) : List Value := l.flatMap adV
def ActsAt (w : World) (v : Value) (l : List AD) : Prop := ∃ p c, v = .slice p l.length c ∧ l.length ≤ c ∧ c ≤ maxLen ∧ (l ≠ [] → ∃ g o, p = some ⟨g, o, none⟩ ∧ g < w.heap.size ∧ ∀ j, (h : j < l.length) → w.cell? ⟨g, o + j * 3, none⟩ = some (.int .i64 l[j].kind) ∧ w.cell? ⟨g, o + j * 3 + 1, none⟩ = some (.int .i64 l[j].due) ∧ w.cell? ⟨g, o + j * 3 + 1 + 1, none⟩ = some (.int .i64 l[j].id))
theorem ActsAt.below {w w' : World} {v : Value} {l : List AD} (h : ActsAt w v l) {B : Nat} (hb : Below B w w') (hB : w.heap.size ≤ B) : ActsAt w' v l := by
  obtain ⟨p, c, rfl, h1, h2, h3⟩ := h
  refine ⟨p, c, rfl, h1, h2, fun hn => ?_⟩
  obtain ⟨g, o, rfl, hg, hc⟩ := h3 hn
  have hs : w'.heap[g]? = w.heap[g]? := hb.block g (by omega)
  refine ⟨g, o, rfl, by have := hb.size; omega, fun j hj => ?_⟩
  have e : ∀ x, w'.cell? ⟨g, x, none⟩ = w.cell? ⟨g, x, none⟩ := fun x => World.cell?_of_block (w := w) (w' := w') (a := ⟨g, x, none⟩) hs
  rw [e, e, e]
  exact hc j hj
structure FS where
  A : List TD
  n : Nat
  ins : List AD
def fstep (s : FS) (a : AD) : FS := ⟨addT s.A s.n a.due a.id, addN s.A s.n a.due a.id, if addE s.A a.due a.id = 0 then s.ins ++ [a] else s.ins⟩
def fill (l : List AD) : FS := l.foldl fstep ⟨[], 0, []⟩
theorem fill_snoc (l : List AD) (k : Nat) (h : k < l.length) : fill (l.take (k + 1)) = fstep (fill (l.take k)) l[k] := by
  unfold fill; rw [List.take_succ_eq_append_getElem h, List.foldl_append]; rfl
theorem fstep_n (s : FS) (a : AD) : (fstep s a).n ≤ s.n + 1 := by unfold fstep addN; dsimp only; split <;> omega
theorem fstep_ins (s : FS) (a : AD) : (fstep s a).ins.length ≤ s.ins.length + 1 := by unfold fstep; dsimp only; split <;> simp
theorem fill_n (l : List AD) : (fill l).n ≤ l.length ∧ (fill l).ins.length ≤ l.length := by
  have h : ∀ (l : List AD) (s : FS), (l.foldl fstep s).n ≤ s.n + l.length ∧ (l.foldl fstep s).ins.length ≤ s.ins.length + l.length := by
    intro l
    induction l with
    | nil => intro s; exact ⟨by simp, by simp⟩
    | cons a l ih =>
      intro s
      have h1 := ih (fstep s a)
      have h2 := fstep_n s a
      have h3 := fstep_ins s a
      rw [List.foldl_cons, List.length_cons]
      omega
  have := h l ⟨[], 0, []⟩
  unfold fill
  simpa using this
theorem fill_zero (l : List AD) : fill (l.take 0) = ⟨[], 0, []⟩ := rfl
theorem info38 : (Try.prog.info? 38).map (fun i => (i.zero, i.size, i.bytes)) = some (some (.agg #[.int .i64 0, .int .i64 0, .int .i64 0]), 3, 24) := by kernel_rfl

/-- a wheel, and a list of calls beside it, both of the call's own -/
structure Both (B : Nat) (w : World) (b : Nat) (s : FS) (v : Value) (F : Nat → Prop) : Prop where
  whl : Wheel w b s.A s.n F
  own : ∀ k, F k → B ≤ k
  row : w.ownsRow B 38 3 v s.ins.length (adsV s.ins)
  off : ∀ g, v.ownBlock = some g → ¬ F g
theorem Wheel.lt {w : World} {b n : Nat} {A : List TD} {F : Nat → Prop} (h : Wheel w b A n F) (k : Nat) (hk : F k) : k < w.heap.size := by
  obtain ⟨m, p, c, Q, D, kvs, _, _, _, hL⟩ := h; exact hL k hk
theorem both_app {B : Nat} {w3 w4 : World} {b : Nat} {o : Obj} {s' : FS} {v v' : Value} {F : Nat → Prop} (hw : Wheel w3 b s'.A s'.n F) (hF : ∀ k, F k → B ≤ k) (ho : ∀ g, v.ownBlock = some g → ¬ F g)
    (hr : w4.ownsRow B 38 3 v' s'.ins.length (adsV s'.ins)) (hg : (w3.alloc o).grownBy w4 v.ownBlock) (hat : v'.ownBlock = v.ownBlock ∨ v'.ownBlock = some (w3.heap.size + 1)) : Both B w4 b s' v' F := by
  refine ⟨hw.same (Nat.le_trans (by simp) hg.size) (fun k hk hFk => ?_), hF, hr, fun g hgg e => ?_⟩
  · rw [hg.block k (by simp; omega) (fun e => ho k e.symm hFk), Below.heap_alloc _ _ _ hk]
  · rcases hat with h | h
    · exact ho g (h ▸ hgg) e
    · rw [hgg] at h; simp at h
      have := hw.lt g e; omega
def FillPost (w : World) (l : List AD) (e : Ending) (w' : World) : Prop := ∃ b v F, e = .returned (.tuple #[.pointer (some ⟨b, 0, none⟩), v]) ∧ Below w.heap.size w w' ∧ Both w.heap.size w' b (fill (l.take 400)) v F
theorem adsV_snoc (l : List AD) (a : AD) : adsV (l ++ [a]) = adsV l ++ [.int .i64 a.kind, .int .i64 a.due, .int .i64 a.id] := by
  unfold adsV; rw [List.flatMap_append]; simp [adV]

theorem filled1 {w : World} {v : Value} {l : List AD} (h : ActsAt w v l) : Calls Try.prog 11 #[v] w (FillPost w l) := by
  obtain ⟨i0, hinf, hz0, hz1, hz2⟩ := info_parts info38
  obtain ⟨p, c, rfl, hc1, hc2, hc3⟩ := h
  unfold maxLen at hc2
  have HC := Lib.hid hc3; clear hc3
  go_enter Try.func11, Try.ntmps11
  go_wp2_with fail
  refine (New w).mono ?_
  rintro e w1 ⟨b, rfl, hb1, hw1⟩
  go_wp2_with fail
  go_loopw [5, 6] (fun v s wr => ∃ k : Nat, s = .int .i64 k ∧ k ≤ l.length ∧ k ≤ 400 ∧ Below w.heap.size w wr ∧ ∃ F, Both w.heap.size wr b (fill (l.take k)) v F) (fun _ s _ => l.length - (intOf s).toNat)
  case atStart => exact ⟨0, rfl, by omega, by omega, hb1, _, hw1, fun k hk => hk.1, World.ownsRow_nil _ _ _ _, fun g hg => by simp [Value.ownBlock] at hg⟩
  case round =>
    obtain ⟨k, rfl, hk, hk4, hb, F, hw⟩ := hrel
    by_cases hlt : k < l.length
    · by_cases hlt4 : k < 400
      · have hl0 : l ≠ [] := by intro e; subst e; simp at hlt
        obtain ⟨g, o, rfl, hg, hx⟩ := HC.out hl0
        obtain ⟨x0, x1, x2⟩ := hx k hlt
        have y0 : wr.cell? ⟨g, o + k * 3, none⟩ = some (.int .i64 l[k].kind) := (hb.cell (p := ⟨g, o + k * 3, none⟩) hg).trans x0
        have y1 : wr.cell? ⟨g, o + k * 3 + 1, none⟩ = some (.int .i64 l[k].due) := (hb.cell (p := ⟨g, o + k * 3 + 1, none⟩) hg).trans x1
        have y2 : wr.cell? ⟨g, o + k * 3 + 1 + 1, none⟩ = some (.int .i64 l[k].id) := (hb.cell (p := ⟨g, o + k * 3 + 1 + 1, none⟩) hg).trans x2
        clear x0 x1 x2 hx
        have hd1 : decide (k < l.length) = true := decide_eq_true hlt
        have hd2 : decide (k < 400) = true := decide_eq_true hlt4
        have HN := Lib.hid (fill_n (l.take k))
        have HS := Lib.hid (fill_snoc l k hlt)
        go_wp2_with fail
        go_still_tail 11, (by kernel_rfl)
        change wpList _ _ _ _ _ wr.drew
        have hb' : Below w.heap.size w wr.drew := ⟨hb.os, hb.tape, hb.output, hb.size, hb.block⟩
        have hw' : Both w.heap.size wr.drew b (fill (l.take k)) u5 F := ⟨hw.whl.same (Nat.le_refl _) (fun _ _ _ => rfl), hw.own, hw.row, hw.off⟩
        have y0' : wr.drew.cell? ⟨g, o + k * 3, none⟩ = some (.int .i64 l[k].kind) := y0
        have y1' : wr.drew.cell? ⟨g, o + k * 3 + 1, none⟩ = some (.int .i64 l[k].due) := y1
        have y2' : wr.drew.cell? ⟨g, o + k * 3 + 1 + 1, none⟩ = some (.int .i64 l[k].id) := y2
        clear hb hw y0 y1 y2
        generalize wr.drew = w2 at *
        generalize hs : fill (l.take k) = s at *
        have HSS := Lib.hid hs; clear hs
        generalize l[k] = a at *
        have hn2 : s.n < 1000 := by have := HN.out.1; rw [List.length_take] at this; omega
        have hi2 : s.ins.length < 1000 := by have := HN.out.2; rw [List.length_take] at this; omega
        go_wp2_with fail
        refine (AddM w2 hw'.whl hn2 a.due a.id).mono ?_
        rintro e w3 ⟨rfl, F3, hw3, hT3, hF3⟩
        have hb3 : Below w.heap.size w2 w3 := hT3.below hw'.own hb'.size
        have z0 : w3.cell? ⟨g, o + k * 3, none⟩ = some (.int .i64 a.kind) := (hb3.cell (p := ⟨g, o + k * 3, none⟩) hg).trans y0'
        have z1 : w3.cell? ⟨g, o + k * 3 + 1, none⟩ = some (.int .i64 a.due) := (hb3.cell (p := ⟨g, o + k * 3 + 1, none⟩) hg).trans y1'
        have z2 : w3.cell? ⟨g, o + k * 3 + 1 + 1, none⟩ = some (.int .i64 a.id) := (hb3.cell (p := ⟨g, o + k * 3 + 1 + 1, none⟩) hg).trans y2'
        have hb4 := hb'.trans hb3
        have hr3 : w3.ownsRow w.heap.size 38 3 u5 s.ins.length (adsV s.ins) := row_same hw'.row (fun g hg => hT3.block g (World.ownsRow.lt (h := hw'.row) g hg).2 (hw'.off g hg))
        have ho3 : ∀ g, u5.ownBlock = some g → ¬ F3 g := fun g hg e => by
          rcases hF3 g e with e | e
          · exact hw'.off g hg e
          · have := (World.ownsRow.lt (h := hw'.row) g hg).2; omega
        have hown3 : ∀ k, F3 k → w.heap.size ≤ k := fun k hk => by
          rcases hF3 k hk with e | e
          · exact hw'.own k e
          · have := hb'.size; omega
        clear hw' hb' hT3 hb3 y0' y1' y2'
        by_cases hE : addE s.A a.due a.id = 0
        · have hq : (addE s.A a.due a.id == 0) = true := by simp [hE]
          have HE := Lib.hid hE; clear hE
          have hf : fstep s a = ⟨addT s.A s.n a.due a.id, addN s.A s.n a.due a.id, s.ins ++ [a]⟩ := by unfold fstep; rw [if_pos HE.out]
          have HF := Lib.hid hf; clear hf
          have hF3s := hw3
          have H3 := Lib.hid hw3; clear hw3
          have HO3 := Lib.hid ho3; clear ho3
          have HW3 := Lib.hid hown3; clear hown3
          clear hF3s
          have hsz := hb4.size
          generalize addE s.A a.due a.id = ee at *
          go_wp2_with (at_builtin; refine wpList_append_own_at _ rfl _ _ 22 rfl w.heap.size 38 i0 (.agg #[.int .i64 0, .int .i64 0, .int .i64 0]) 3 24 Try.underlying22 hinf hz0 hz1 hz2 rfl (by decide) _ _ _ rfl (hr3.alloc _) ⟨w3.heap.size, 0, none⟩ 1 1 [.int .i64 a.kind, .int .i64 a.due, .int .i64 a.id] rfl rfl ?c1 ?c2 ?c3 ?c4 ?c5 ?_)
          case c1 =>
            intro j u hj
            rcases j with _ | _ | _ | j
            · simp at hj; subst hj; simp [Addr.add]
            · simp at hj; subst hj; simp [Addr.add]
            · simp at hj; subst hj; simp [Addr.add]
            · simp at hj
          case c2 => intro u hu; simp at hu; rcases hu with e | e | e <;> (subst e; rfl)
          case c3 => unfold maxLen; omega
          case c4 => omega
          case c5 => simp; omega
          intro v' w4 hr4 hgrow _ hat
          have hb5 : Below w.heap.size w w4 := (hb4.alloc hsz _).grown hgrow (by simp; omega) (fun g hg => (World.ownsRow.lt (h := hr3) g hg).1)
          have hfin : Both w.heap.size w4 b (fill (l.take (k + 1))) v' F3 := by
            rw [HS.out, HF.out]
            exact both_app H3.out HW3.out HO3.out (by simpa [adsV_snoc] using hr4) hgrow hat
          have HFIN := Lib.hid hfin; clear hfin
          clear hr4 hgrow hat hr3
          go_wp2_with fail
          go_roundw
          case rel => exact ⟨k + 1, by go_num, by omega, by omega, hb5, F3, HFIN.out⟩
          case measure => simp [intOf]; omega
        · have hq : (addE s.A a.due a.id == 0) = false := by simp [hE]
          have hf : fstep s a = ⟨addT s.A s.n a.due a.id, addN s.A s.n a.due a.id, s.ins⟩ := by unfold fstep; rw [if_neg hE]
          have hfin : Both w.heap.size w3 b (fill (l.take (k + 1))) u5 F3 := by
            rw [HS.out, hf]
            exact ⟨hw3, hown3, hr3, ho3⟩
          have HFIN := Lib.hid hfin; clear hfin
          clear hw3 hown3 hr3 ho3 hf hE
          generalize addE s.A a.due a.id = ee at *
          go_wp2_with fail
          go_roundw
          case rel => exact ⟨k + 1, by go_num, by omega, by omega, hb4, F3, HFIN.out⟩
          case measure => simp [intOf]; omega
      · have hd1 : decide (k < l.length) = true := decide_eq_true hlt
        have hd2 : decide (k < 400) = false := decide_eq_false hlt4
        obtain rfl : k = 400 := by omega
        go_wp2_with fail
        go_ret2
        exact ⟨_, _, _, rfl, hb, hw⟩
    · have hd1 : decide (k < l.length) = false := decide_eq_false hlt
      have hfin : fill (l.take k) = fill (l.take 400) := by rw [List.take_of_length_le (by omega), List.take_of_length_le (by omega)]
      have hw' : Both w.heap.size wr b (fill (l.take 400)) u5 F := hfin ▸ hw
      clear hfin hw
      go_wp2_with fail
      go_ret2
      exact ⟨_, _, _, rfl, hb, hw'⟩
end Go.Proofs.Ytgkiknkifleofaa.tm
