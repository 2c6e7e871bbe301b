/- Texts of this seat, one behind the other: TcQ, TcR, TcS. No condition beyond theirs. -/
import Derived.Test.YtfbggmbmgohiiaaGreatL39
/- Next. Conditions: the object and the terms lie in memory. -/
namespace Go.Proofs.YtfbggmbmgohiiaaGreat.tb
open Go.RowKit mem rec tm names
set_option linter.unusedVariables false
set_option linter.unusedSimpArgs false
set_option maxHeartbeats 4000000
set_option maxRecDepth 100000
section
variable {N : Nat} {w w' : World} {B : Nat} {F : Nat → Prop} {s : TbSt N}
end
end Go.Proofs.YtfbggmbmgohiiaaGreat.tb
/- slices.Delete of one row: plain part. Conditions: the rows are the call's own. -/
namespace Go.Proofs.YtfbggmbmgohiiaaGreat.tb
open Go.RowKit mem rec tm names
set_option linter.unusedVariables false
set_option linter.unusedSimpArgs false
set_option maxHeartbeats 1000000
set_option maxRecDepth 100000
section
variable {N : Nat} {w : World} {B : Nat} {l : List (RowE N)} {g cap : Nat}
theorem clear_tail (hown : RecOwn rowL 108 19 w B (.slice (some ⟨g, 0, none⟩) l.length cap) l) (hc : l.length < cap) (c : Nat) (ty : TypeId) :
    ∃ w', (Builtin.clear_ #[96] ty #[.slice (some ⟨g, l.length * 19, none⟩) 1 c]).run Tryz.prog w = .ok (.tuple #[]) w' ∧ RecOwn rowL 108 19 w' B (.slice (some ⟨g, 0, none⟩) l.length cap) l ∧ TouchB (fun q => q = g) w w' := by
  obtain ⟨hlen, hz | ⟨g', cap', cur, hv, hbg, hg, hnc, hcm, hcs, htk⟩⟩ := hown
  · simp at hz
  simp only [Value.slice.injEq, Option.some.injEq, Addr.mk.injEq, and_true, true_and] at hv
  obtain ⟨rfl, rfl⟩ := hv
  obtain ⟨i0, hi0, hz0, hs0, hb0⟩ := info_parts info108
  have hZl : (Builtin.zeroCells (Value.agg #[.int .i64 0, .int .i64 0, .int .i64 0, .string ⟨#[]⟩, .string ⟨#[]⟩, .int .i64 0, .slice none 0 0, .string ⟨#[]⟩, .int .i64 0, .int .i64 0, .int .i64 0, .int .i64 0, .string ⟨#[]⟩, .string ⟨#[]⟩, .int .i64 0, .slice none 0 0, .string ⟨#[]⟩, .int .i64 0, .int .u32 0]).cells 1).toList = nineL zeroF nilV ++ (nineL zeroF nilV ++ [.int .u32 0]) := by kernel_rfl
  have hcl : cur.toList.length = cap * 19 := by rw [Array.length_toList]; exact hcs
  have hl19 : (nineL zeroF nilV ++ (nineL zeroF nilV ++ [Value.int .u32 0])).length = 19 := rfl
  have hst := run_storeCells_at Tryz.prog g (l.length * 19) 108 (nineL zeroF nilV ++ (nineL zeroF nilV ++ [.int .u32 0])) 0 cur w hg (by rw [hl19, hcs]; omega) (fun v hv => by
    rcases List.mem_append.1 hv with hv | hv
    · exact nineL_one rfl v hv
    rcases List.mem_append.1 hv with hv | hv
    · exact nineL_one rfl v hv
    · simp at hv; subst hv; rfl)
  simp only [Nat.add_zero] at hst
  have hput : (put cur.toList (l.length * 19) (nineL zeroF nilV ++ (nineL zeroF nilV ++ [Value.int .u32 0]))).take (l.length * 19) = l.flatMap rowL := (put_take (l.length * 19) (Nat.le_refl _) (by rw [hcl]; omega)).trans htk
  refine ⟨w.setRow g (put cur.toList (l.length * 19) (nineL zeroF nilV ++ (nineL zeroF nilV ++ [.int .u32 0]))).toArray, ?_, ⟨hlen, .inr ⟨g, cap, _, rfl, hbg, setRow_heap _ _ _ _ _ _ hg, hnc, hcm, ?_, ?_⟩⟩, touch_setRow _ _ _⟩
  · have hzv : (zeroValue 108).run Tryz.prog w = .ok (.agg #[.int .i64 0, .int .i64 0, .int .i64 0, .string ⟨#[]⟩, .string ⟨#[]⟩, .int .i64 0, .slice none 0 0, .string ⟨#[]⟩, .int .i64 0, .int .i64 0, .int .i64 0, .int .i64 0, .string ⟨#[]⟩, .string ⟨#[]⟩, .int .i64 0, .slice none 0 0, .string ⟨#[]⟩, .int .i64 0, .int .u32 0]) w := by kernel_rfl
    unfold put
    unfold Builtin.clear_
    simp [run_underlying Tryz.underlying96, hzv, hZl, hst]
  · rw [List.size_toArray, put_len (by rw [hcl, hl19]; omega), hcl]
  · rw [List.toList_toArray]; exact hput
theorem del_append (hown : RecOwn rowL 108 19 w B (.slice (some ⟨g, 0, none⟩) l.length cap) l) (hE : EncOK rowL 19 l) {p : Nat} (hp : p < l.length) {o : Nat} (ho : o = (p + 1) * 19 ∨ l.length = p + 1) (c : Nat) (ty : TypeId) :
    ∃ w', (Builtin.append_ #[96, 96] ty #[.slice (some ⟨g, 0, none⟩) p cap, .slice (some ⟨g, o, none⟩) (l.length - (p + 1)) c]).run Tryz.prog w = .ok (.slice (some ⟨g, 0, none⟩) (l.length - 1) cap) w' ∧ RecOwn rowL 108 19 w' B (.slice (some ⟨g, 0, none⟩) (l.take p ++ l.drop (p + 1)).length cap) (l.take p ++ l.drop (p + 1)) ∧ TouchB (fun q => q = g) w w' ∧ (l.take p ++ l.drop (p + 1)).length = l.length - 1 := by
  have hlen2 : (l.take p ++ l.drop (p + 1)).length = l.length - 1 := by rw [List.length_append, List.length_take, List.length_drop]; omega
  obtain ⟨g', cap', cur, hv, hbg, hg, hnc, hcm, hcs, htk⟩ := own_parts hown (by omega)
  simp only [Value.slice.injEq, Option.some.injEq, Addr.mk.injEq, and_true, true_and] at hv
  obtain ⟨rfl, rfl⟩ := hv
  obtain ⟨i0, hi0, hz0, hs0, hb0⟩ := info_parts info108
  have hE1 : EncOK rowL 19 (l.take p) := hE.sub (fun a ha => List.mem_of_mem_take ha)
  have hE2 : EncOK rowL 19 (l.drop (p + 1)) := hE.sub (fun a ha => List.mem_of_mem_drop ha)
  have hcl : cur.toList.length = cap * 19 := by rw [Array.length_toList]; exact hcs
  have hrow : w.ownsRow B 108 19 (.slice (some ⟨g, 0, none⟩) p cap) p ((l.take p).flatMap rowL) := by
    refine ⟨by rw [flat_len hE1, List.length_take, Nat.min_eq_left (by omega)], .inr ⟨g, cap, cur, rfl, hbg, hg, by omega, hcm, hcs, ?_⟩⟩
    have h1 : cur.toList.take (p * 19) = (cur.toList.take (l.length * 19)).take (p * 19) := by rw [List.take_take, Nat.min_eq_left (by omega)]
    rw [h1, htk]
    exact flat_take hE p (by omega)
  have hnews : ∀ j u, ((l.drop (p + 1)).flatMap rowL)[j]? = some u → w.cell? ((⟨g, o, none⟩ : Addr).add j) = some u := fun j u hj => by
    rcases ho with rfl | ho
    rotate_left
    · rw [List.drop_of_length_le (by omega)] at hj
      simp at hj
    rw [Addr.add_lit]
    rw [← flat_drop hE (p + 1) (by omega), ← htk, List.getElem?_drop, List.getElem?_take] at hj
    split at hj
    · rw [cell_of_row w g _ cur 108 _ hg]
      rwa [Array.getElem?_toList] at hj
    · cases hj
  obtain ⟨w', hr, ho', hgr⟩ := run_append_fits (P := Tryz.prog) (w := w) B 96 ty 108 i0 19 Tryz.underlying96 hi0 hs0 g p cap _ hrow ⟨g, o, none⟩ (l.length - (p + 1)) c ((l.drop (p + 1)).flatMap rowL) (by rw [flat_len hE2, List.length_drop]) hnews (fun u hu => by
    obtain ⟨a, ha, hu⟩ := List.mem_flatMap.1 hu
    exact (hE2 a ha).2 u hu) (by omega)
  have e : p + (l.length - (p + 1)) = l.length - 1 := by omega
  rw [e] at hr ho'
  refine ⟨w', hr, ?_, ⟨hgr.os, hgr.tape, hgr.output, hgr.size, fun k hk hn => hgr.block k hk (fun e => hn (by simpa using e))⟩, hlen2⟩
  unfold RecOwn
  rw [hlen2, List.flatMap_append]
  exact ho'
end
end Go.Proofs.YtfbggmbmgohiiaaGreat.tb
/- slices.Delete of one row. Conditions: the rows are the call's own. -/
namespace Go.Proofs.YtfbggmbmgohiiaaGreat.tb
open Go.RowKit mem rec tm names
set_option linter.unusedVariables false
set_option linter.unusedSimpArgs false
set_option maxHeartbeats 4000000
set_option maxRecDepth 100000
theorem step_append_run {w w' : World} {ops : Array Oper} {o : Oper} {a : Act} {K : Act → World → Prop} {Q : Exit → Act → World → Prop} {E : Prop} (hgd : o.guard = none) (x y : Operand) {t t' : TypeId}
    (ho : o.op = .call { callee := .builtin .append, args := #[x, y], argTypes := #[t, t'] }) {vx vy v : Value} (hx : a.eval x = vx) (hy : a.eval y = vy) (hr : (Builtin.append_ #[t, t'] o.type #[vx, vy]).run Tryz.prog w = .ok v w')
    (hK : K (a.put o.dst v) w') : if Region.wanted o (yielded ops a.tmps) = true then Oper.wp Tryz.prog o a w K Q else E := by
  have hw : Region.wanted o (yielded ops a.tmps) = true := by simp [Region.wanted, hgd]
  rw [if_pos hw]
  unfold Oper.wp execOp
  simp only [ho, resolve, invoke, builtin, Sem.run_bind, Sem.run_pure, Result.andThen_ok, List.map_toArray, List.map_cons, List.map_nil, hx, hy, hr]
  exact hK
theorem wpList_clear_run {w w' : World} {ops : Array Oper} {rest : List Oper} {o : Oper} {a : Act} {Q : Exit → Act → World → Prop} (hgd : o.guard = none) (x : Operand) {t : TypeId}
    (ho : o.op = .call { callee := .builtin .clear, args := #[x], argTypes := #[t] }) {vx v : Value} (hx : a.eval x = vx) (hr : (Builtin.clear_ #[t] o.type #[vx]).run Tryz.prog w = .ok v w')
    (h : wpList Tryz.prog ops Q rest (a.put o.dst v) w') : wpList Tryz.prog ops Q (o :: rest) a w := by
  refine wpList_plain hgd fun K hK => ?_
  unfold Oper.wp execOp
  simp only [ho, resolve, invoke, builtin, Sem.run_bind, Sem.run_pure, Result.andThen_ok, List.map_toArray, List.map_cons, List.map_nil, hx, hr]
  exact hK _ _ h
section
variable {N : Nat} {w : World} {B : Nat} {l : List (RowE N)} {g cap : Nat}
theorem delete57 (hown : RecOwn rowL 108 19 w B (.slice (some ⟨g, 0, none⟩) l.length cap) l) (hE : EncOK rowL 19 l) (hl : l.length ≤ 1000000) {p : Nat} (hp : p < l.length) :
    Calls Tryz.prog 57 #[.slice (some ⟨g, 0, none⟩) l.length cap, .int .i64 p, .int .i64 ((p : Int) + 1)] w fun e w' => e = .returned (.slice (some ⟨g, 0, none⟩) (l.length - 1) cap) ∧ RecOwn rowL 108 19 w' B (.slice (some ⟨g, 0, none⟩) (l.length - 1) cap) (l.take p ++ l.drop (p + 1)) ∧ TouchB (fun q => q = g) w w' := by
  have hcb : l.length ≤ cap ∧ cap ≤ maxLen := by
    obtain ⟨_, c', ec, h1, h2⟩ := hown.shape
    simp only [Value.slice.injEq] at ec
    rw [ec.2.2]
    exact ⟨h1, h2⟩
  obtain ⟨hcl, hcm⟩ := hcb
  have hown2 : RecOwn rowL 108 19 w.drew B (.slice (some ⟨g, 0, none⟩) l.length cap) l := hown.below (belowD (Below.refl _ _))
  have HA := Lib.hid (fun o ho c ty => del_append hown2 hE hp (o := o) ho c ty)
  have HC := Lib.hid (fun (W : World) (h : RecOwn rowL 108 19 W B (.slice (some ⟨g, 0, none⟩) (l.take p ++ l.drop (p + 1)).length cap) (l.take p ++ l.drop (p + 1))) c ty => clear_tail h (by
    have : (l.take p ++ l.drop (p + 1)).length = l.length - 1 := by rw [List.length_append, List.length_take, List.length_drop]; omega
    omega) c ty)
  clear hown hown2 hE
  generalize l.take p ++ l.drop (p + 1) = l2 at *
  generalize hn : l.length = n at *
  unfold maxLen at hcm
  have h1 : ((p : Int) + 1).toNat = p + 1 := by omega
  have h2 : (p : Int) + 1 ≤ (n : Int) := by omega
  have h3 : (n : Int) ≤ (cap : Int) := by omega
  have h4 : (p : Int) ≤ (p : Int) + 1 := by omega
  have h5 : ¬ ((p : Int) = (p : Int) + 1) := by omega
  have h6 : (0 : Int) ≤ (p : Int) + 1 := by omega
  have h7 : (p : Int) ≤ (cap : Int) := by omega
  have h8 : (n : Int) ≤ 1000000 := by omega
  have h9 : (((n - 1 : Nat) : Int)) ≤ (n : Int) := by omega
  have hcp : ¬ (cap = p) := by omega
  have hnp : n - 1 ≤ cap := by omega
  go_enter Tryz.func57, Tryz.ntmps57
  go_upto_region 5 with (fail)
  refine wp_region_held_drew (S := (fun _ => True)) (by kernel_rfl) ?_ (fun hHeld => ?_)
  · trivial
  refine wpAnyH_take (i := 0) (oi := { dst := some 20, op := Op.move (Operand.tmp 0), type := 96, pos := "slices.go:232", after := #[], guard := none }) (v := ?vvA0) rfl (by kernel_rfl) (by kernel_rfl) (by kernel_rfl) (fun _ _ _ h => h) (Or.inl ⟨by rfl, ?hyA0⟩) (by assumption) ?rsA0
  case hyA0 =>
    intro w hSw
    (try dsimp only at hSw)
    go_simp
    (try with_reducible rfl)
  (try simp only [Act.put, List.setIfInBounds_toArray, List.set_cons_zero, List.set_cons_succ])
  refine wpAnyH_take (i := 1) (oi := { dst := some 21, op := Op.move (Operand.tmp 1), type := 3, pos := "slices.go:232", after := #[], guard := none }) (v := ?vvA1) rfl (by kernel_rfl) (by kernel_rfl) (by kernel_rfl) (fun _ _ _ h => h) (Or.inl ⟨by rfl, ?hyA1⟩) (by assumption) ?rsA1
  case hyA1 =>
    intro w hSw
    (try dsimp only at hSw)
    go_simp
    (try with_reducible rfl)
  (try simp only [Act.put, List.setIfInBounds_toArray, List.set_cons_zero, List.set_cons_succ])
  refine wpAnyH_take (i := 2) (oi := { dst := some 22, op := Op.slice 96 (Operand.tmp 20) none (some (Operand.tmp 21)) none, type := 96, pos := "slices.go:232", after := #[{ on := 0, ground := Ground.data }, { on := 1, ground := Ground.data }], guard := none }) (v := ?vvA2) rfl (by kernel_rfl) (by kernel_rfl) (by kernel_rfl) (fun _ _ _ h => h) (Or.inl ⟨by rfl, ?hyA2⟩) (by assumption) ?rsA2
  case hyA2 =>
    intro w hSw
    (try dsimp only at hSw)
    go_simp
    (try with_reducible rfl)
  (try simp only [Act.put, List.setIfInBounds_toArray, List.set_cons_zero, List.set_cons_succ])
  refine wpAnyH_take (i := 3) (oi := { dst := some 23, op := Op.move (Operand.tmp 0), type := 96, pos := "slices.go:232", after := #[], guard := none }) (v := ?vvA3) rfl (by kernel_rfl) (by kernel_rfl) (by kernel_rfl) (fun _ _ _ h => h) (Or.inl ⟨by rfl, ?hyA3⟩) (by assumption) ?rsA3
  case hyA3 =>
    intro w hSw
    (try dsimp only at hSw)
    go_simp
    (try with_reducible rfl)
  (try simp only [Act.put, List.setIfInBounds_toArray, List.set_cons_zero, List.set_cons_succ])
  refine wpAnyH_take (i := 4) (oi := { dst := some 24, op := Op.move (Operand.tmp 2), type := 3, pos := "slices.go:232", after := #[], guard := none }) (v := ?vvA4) rfl (by kernel_rfl) (by kernel_rfl) (by kernel_rfl) (fun _ _ _ h => h) (Or.inl ⟨by rfl, ?hyA4⟩) (by assumption) ?rsA4
  case hyA4 =>
    intro w hSw
    (try dsimp only at hSw)
    go_simp
    (try with_reducible rfl)
  (try simp only [Act.put, List.setIfInBounds_toArray, List.set_cons_zero, List.set_cons_succ])
  refine wpAnyH_take (i := 5) (oi := { dst := some 25, op := Op.slice 96 (Operand.tmp 23) (some (Operand.tmp 24)) none none, type := 96, pos := "slices.go:232", after := #[{ on := 3, ground := Ground.data }, { on := 4, ground := Ground.data }], guard := none }) (v := ?vvA5) rfl (by kernel_rfl) (by kernel_rfl) (by kernel_rfl) (fun _ _ _ h => h) (Or.inl ⟨by rfl, ?hyA5⟩) (by assumption) ?rsA5
  case hyA5 =>
    intro w hSw
    (try dsimp only at hSw)
    go_simp
    (try with_reducible rfl)
  (try simp only [Act.put, List.setIfInBounds_toArray, List.set_cons_zero, List.set_cons_succ])
  try simp only [Option.map_some, Addr.add_lit, Nat.zero_add]
  obtain ⟨o, ho, he⟩ : ∃ o : Nat, (o = (p + 1) * 19 ∨ n = p + 1) ∧ (if cap = p + 1 then some (⟨g, 0, none⟩ : Addr) else some ⟨g, (p + 1) * 19, none⟩) = some ⟨g, o, none⟩ := by
    by_cases hq : cap = p + 1
    · exact ⟨0, .inr (by omega), by rw [if_pos hq]⟩
    · exact ⟨_, .inl rfl, by rw [if_neg hq]⟩
  rw [he]
  refine wpAnyH_ready (rs := [6]) (by kernel_rfl) (by simp) ?_
  refine AllReadyH.cons (o := { dst := some 26, op := Op.call { callee := Callee.builtin Builtin.append, args := #[Operand.tmp 22, Operand.tmp 25], argTypes := #[96, 96] }, type := 96, pos := "slices.go:232", after := #[{ on := 2, ground := Ground.data }, { on := 5, ground := Ground.data }], guard := none }) rfl (fun K hK => ?_) AllReadyH.nil
  obtain ⟨w6, hr, hown6, hT6, hl6⟩ := HA.out o ho (cap - (p + 1)) 96
  refine step_append_run (t := 96) (t' := 96) (w' := w6) (v := .slice (some ⟨g, 0, none⟩) (n - 1) cap) rfl (.tmp 22) (.tmp 25) rfl rfl rfl ?_ ?_
  · exact hr
  refine hK.out _ _ ?_ (fun hHeld => ?_)
  · trivial
  clear hK K
  (try simp only [Act.put, List.setIfInBounds_toArray, List.set_cons_zero, List.set_cons_succ])
  refine wpAnyH_take (i := 7) (oi := { dst := some 0, op := Op.assign (Operand.tmp 26), type := 96, pos := "slices.go:232", after := #[{ on := 6, ground := Ground.data }, { on := 6, ground := Ground.chain }, { on := 0, ground := Ground.phase }, { on := 1, ground := Ground.phase }, { on := 2, ground := Ground.phase }, { on := 3, ground := Ground.phase }, { on := 4, ground := Ground.phase }, { on := 5, ground := Ground.phase }, { on := 6, ground := Ground.phase }], guard := none }) (v := ?vvA7) rfl (by kernel_rfl) (by kernel_rfl) (by kernel_rfl) (fun _ _ _ h => h) (Or.inl ⟨by rfl, ?hyA7⟩) (by assumption) ?rsA7
  case hyA7 =>
    intro w hSw
    (try dsimp only at hSw)
    go_simp
    (try with_reducible rfl)
  (try simp only [Act.put, List.setIfInBounds_toArray, List.set_cons_zero, List.set_cons_succ])
  refine wpAnyH_done (by kernel_rfl) ?_ _
  obtain ⟨w7, hr7, hown7, hT7⟩ := HC.out _ hown6 (cap - (n - 1)) 0
  rw [hl6] at hr7 hown7
  have hnn : n - (n - 1) = 1 := by omega
  go_wp2_with (refine wpList_clear_run rfl (.tmp 31) rfl (by first | rfl | (rw [hnn])) hr7 ?_)
  go_ret
  exact ⟨rfl, hown7, ((TouchB.refl (fun q => q = g) w).drew.trans hT6 (fun _ _ e => e)).trans hT7 (fun _ _ e => e)⟩
end
end Go.Proofs.YtfbggmbmgohiiaaGreat.tb
