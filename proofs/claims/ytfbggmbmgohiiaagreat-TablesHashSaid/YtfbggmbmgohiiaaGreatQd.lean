/- Several texts in one, one behind the other: TbV, TbW, TbX, TbY, TcA, Skip, TcB, TcC, TcD. No condition beyond theirs. -/
import Derived.Test.YtfbggmbmgohiiaaGreatQc
import Derived.Laws.CopyRow
import Derived.Lib.Overlaps
import Derived.Laws.Externs
import Derived.OrdersHeld
import Derived.KernelRfl
/- Moving records within a row, as slices.Insert does: plain lists, and the builtins copy and append. Conditions: as said. -/
namespace Go.Proofs.YtfbggmbmgohiiaaGreat.tb
open Go.RowKit mem rec tm names
set_option linter.unusedVariables false
set_option linter.unusedSimpArgs false
set_option maxHeartbeats 4000000
set_option maxRecDepth 100000
/-- X written over A from p on -/
def put {α : Type} (A : List α) (p : Nat) (X : List α) : List α := A.take p ++ X ++ A.drop (p + X.length)
theorem put_len {α : Type} {A : List α} {p : Nat} {X : List α} (h : p + X.length ≤ A.length) : (put A p X).length = A.length := by
  unfold put
  simp only [List.length_append, List.length_take, List.length_drop]
  omega
theorem put_take {α : Type} {A : List α} {p : Nat} {X : List α} (q : Nat) (hq : q ≤ p) (h : p ≤ A.length) : (put A p X).take q = A.take q := by
  unfold put
  rw [List.append_assoc, List.take_append_of_le_length (by rw [List.length_take]; omega), List.take_take, Nat.min_eq_left hq]
theorem put_mid {α : Type} {A : List α} {p : Nat} {X : List α} (h : p ≤ A.length) : (put A p X).take (p + X.length) = A.take p ++ X := by
  unfold put
  exact List.take_left' (by rw [List.length_append, List.length_take]; omega)
theorem put_drop {α : Type} {A : List α} {p : Nat} {X : List α} (h : p ≤ A.length) : (put A p X).drop (p + X.length) = A.drop (p + X.length) := by
  unfold put
  exact List.drop_left' (by rw [List.length_append, List.length_take]; omega)
/-- the row moved to the right, then the new one -/
theorem ins_room {α : Type} {A X : List α} {p n s : Nat} (hp : p ≤ n) (hX : X.length = s) (hA : n + s ≤ A.length) : (put (put A (p + s) ((A.take n).drop p)) p X).take (n + s) = A.take p ++ X ++ (A.take n).drop p := by
  have hD : ((A.take n).drop p).length = n - p := by rw [List.length_drop, List.length_take]; omega
  unfold put
  rw [hD, hX]
  have e1 : ((A.take (p + s) ++ (A.take n).drop p ++ A.drop (p + s + (n - p))).take p) = A.take p := by
    rw [List.append_assoc, List.take_append_of_le_length (by rw [List.length_take]; omega), List.take_take, Nat.min_eq_left (by omega)]
  have e2 : ((A.take (p + s) ++ (A.take n).drop p ++ A.drop (p + s + (n - p))).drop (p + s)) = (A.take n).drop p ++ A.drop (p + s + (n - p)) := by
    rw [List.append_assoc]
    exact List.drop_left' (by rw [List.length_take]; omega)
  rw [e1, e2, ← List.append_assoc]
  exact List.take_left' (by simp only [List.length_append, hD, hX, List.length_take]; omega)
/-- in a new row: the head is there, then the new one, then the tail -/
theorem ins_new {α : Type} {R X Z : List α} {p s : Nat} (hp : p ≤ R.length) (hX : X.length = s) (hZ : s + (R.length - p) ≤ Z.length) : (put (put (R.take p ++ Z) p X) (p + s) (R.drop p)).take (R.length + s) = R.take p ++ X ++ R.drop p := by
  have hD : (R.drop p).length = R.length - p := List.length_drop
  have hT : (R.take p).length = p := by rw [List.length_take]; omega
  have e1 : put (R.take p ++ Z) p X = R.take p ++ X ++ Z.drop s := by
    unfold put
    rw [List.take_left' hT, hX, List.drop_append, hT, Nat.add_sub_cancel_left, List.drop_of_length_le (by omega), List.nil_append]
  have e2 : (R.take p ++ X ++ Z.drop s).take (p + s) = R.take p ++ X := List.take_left' (by rw [List.length_append, hT, hX])
  rw [e1]
  unfold put
  rw [e2]
  exact List.take_left' (by simp only [List.length_append, hT, hX, hD]; omega)
theorem wpList_copy_run {w w' : World} {ops : Array Oper} {rest : List Oper} {o : Oper} {a : Act} {Q : Exit → Act → World → Prop} (hgd : o.guard = none) (x y : Operand) {t t' : TypeId}
    (ho : o.op = .call { callee := .builtin .copy, args := #[x, y], argTypes := #[t, t'] }) {vx vy v : Value} (hx : a.eval x = vx) (hy : a.eval y = vy) (hr : (Builtin.copy_ #[t, t'] o.type #[vx, vy]).run Tryz.prog w = .ok v w')
    (h : wpList Tryz.prog ops Q rest (a.put o.dst v) w') : wpList Tryz.prog ops Q (o :: rest) a w := by
  refine wpList_plain hgd fun K hK => ?_
  unfold Oper.wp execOp
  simp only [ho, resolve, invoke, builtin, Sem.run_bind, Sem.run_pure, Result.andThen_ok, List.map_toArray, List.map_cons, List.map_nil, hx, hy, hr]
  exact hK _ _ h
theorem step_copy_run {w w' : World} {ops : Array Oper} {o : Oper} {a : Act} {K : Act → World → Prop} {Q : Exit → Act → World → Prop} {E : Prop} (hgd : o.guard = none) (x y : Operand) {t t' : TypeId}
    (ho : o.op = .call { callee := .builtin .copy, args := #[x, y], argTypes := #[t, t'] }) {vx vy v : Value} (hx : a.eval x = vx) (hy : a.eval y = vy) (hr : (Builtin.copy_ #[t, t'] o.type #[vx, vy]).run Tryz.prog w = .ok v w')
    (hK : K (a.put o.dst v) w') : if Region.wanted o (yielded ops a.tmps) = true then Oper.wp Tryz.prog o a w K Q else E := by
  have hw : Region.wanted o (yielded ops a.tmps) = true := by simp [Region.wanted, hgd]
  rw [if_pos hw]
  unfold Oper.wp execOp
  simp only [ho, resolve, invoke, builtin, Sem.run_bind, Sem.run_pure, Result.andThen_ok, List.map_toArray, List.map_cons, List.map_nil, hx, hy, hr]
  exact hK
theorem wpList_appmake_run {w w' : World} {ops : Array Oper} {rest : List Oper} {o : Oper} {a : Act} {Q : Exit → Act → World → Prop} (hgd : o.guard = none) (x y : Operand) {t t' : TypeId}
    (ho : o.op = .call { callee := .builtin .append, args := #[x, y], argTypes := #[t, t'] }) {vx vy v : Value} (hx : a.eval x = vx) (hy : a.eval y = vy) (hr : (Builtin.append_ #[t, t'] o.type #[vx, vy]).run Tryz.prog w = .ok v w')
    (h : wpList Tryz.prog ops Q rest (a.put o.dst v) w') : wpList Tryz.prog ops Q (o :: rest) a w := by
  refine wpList_plain hgd fun K hK => ?_
  unfold Oper.wp execOp
  simp only [ho, resolve, invoke, builtin, Sem.run_bind, Sem.run_pure, Result.andThen_ok, List.map_toArray, List.map_cons, List.map_nil, hx, hy, hr]
  exact hK _ _ h
section
variable {sl e s b : Nat} {z : Value} {i : TypeInfo}
theorem run_sizeOf (hi : Tryz.prog.info? e = some i) (hs : i.size = s) (w : World) : (Go.sizeOf e).run Tryz.prog w = .ok s w := by
  rw [← hs]
  simp [Go.sizeOf, typeInfo, Sem.run, hi, Result.andThen]
/-- copy: m records from somewhere into the row of block g -/
theorem run_copy_rec (hu : Tryz.prog.underlying sl = some (.slice e)) (hi : Tryz.prog.info? e = some i) (hs : i.size = s) (ty : TypeId) (w : World) (g o : Nat) (cur : Array Value) (hg : w.heap[g]? = some (.cells cur e (0, 0))) (dLen dCap : Nat) (a : Addr) (sLen sCap : Nat) (news : List Value) (hl : news.length = Nat.min sLen dLen * s) (hnews : ∀ j u, news[j]? = some u → w.cell? (a.add j) = some u) (h1 : ∀ u ∈ news, u.oneCell' = true) (hfit : o + news.length ≤ cur.size) :
    (Builtin.copy_ #[sl, sl] ty #[.slice (some ⟨g, o, none⟩) dLen dCap, .slice (some a) sLen sCap]).run Tryz.prog w = .ok (goInt (Nat.min sLen dLen)) (w.setRow g (put cur.toList o news).toArray) := by
  have hf := run_firstCells_some (P := Tryz.prog) w s (Nat.min sLen dLen) a sLen sCap news hl hnews
  have hst := run_storeCells_at Tryz.prog g o e news 0 cur w hg (by simpa using hfit) h1
  simp only [Nat.add_zero] at hst
  unfold put
  simp [Builtin.copy_, run_underlying hu, Builtin.lenOf, sizeOf, typeInfo, hi, hs, hf, hst]
/-- append(s, make(S, k)...) where there is no room: a new row -/
theorem run_append_make (hu : Tryz.prog.underlying sl = some (.slice e)) (hi : Tryz.prog.info? e = some i) (hz : i.zero = some z) (hs : i.size = s) (hzs : z.cells.size = s) (hpos : 0 < s) (hb : i.bytes = b) (ty : TypeId) (w : World) (g sLen sCap k : Nat) (olds : List Value) (hlo : olds.length = sLen * s) (holds : ∀ j u, olds[j]? = some u → w.cell? ⟨g, j, none⟩ = some u) (hk : 0 < k) (hg : sCap < sLen + k) (hsm : (sLen + k) * b ≤ 140737488355328) (hsm2 : sLen + k ≤ 1000000000) (hk2 : k * b ≤ 140737488355328) :
    (Builtin.append_ #[sl, 3] ty #[.slice (some ⟨g, 0, none⟩) sLen sCap, .int .i64 k]).run Tryz.prog w =
      .ok (.slice (some ⟨w.heap.size, 0, none⟩) (sLen + k) (grownCap w (sLen + k) sCap e))
        (w.drew.alloc (.cells (olds.toArray ++ Builtin.zeroCells z.cells k ++ Builtin.zeroCells z.cells (grownCap w (sLen + k) sCap e - (sLen + k))) e)) := by
  have hn : ¬ (sLen + k ≤ sCap) := by omega
  have h63' : ¬ (9223372036854775807 < ((sLen : Int) + (k : Int))) := by omega
  have h48' : ¬ (281474976710656 < Builtin.nextslicecap (sLen + k) sCap * i.bytes) := Nat.not_lt.2 (growslice_fits (by omega) (by rw [hb]; exact hsm))
  have hw : IntKind.i64.wrap (k : Int) = k := IntWalk.i64_in _ (by omega)
  have h48'' : ¬ (281474976710656 < (k : Int) * (i.bytes : Int)) := by
    have : ((k * i.bytes : Nat) : Int) ≤ ((140737488355328 : Nat) : Int) := Int.ofNat_le.2 (by rw [hb]; exact hk2)
    rw [Int.natCast_mul] at this
    have e : ((140737488355328 : Nat) : Int) = 140737488355328 := rfl
    omega
  have hks : ¬ (k * s = 0) := by
    have := Nat.mul_pos hk hpos
    omega
  have hfo := run_firstCells_some (P := Tryz.prog) w.drew s sLen ⟨g, 0, none⟩ sLen sCap olds hlo (by intro j u hj; rw [Addr.add_lit, Nat.zero_add]; exact holds j u hj)
  have hk0 : ¬ ((k : Int) < 0) := by omega
  have hai : (asInt (.int .i64 (k : Int))).run Tryz.prog w = .ok (k : Int) w := by simp [asInt, asIntOf]
  simp [Builtin.append_, hai, run_underlying hu, run_underlying Tryz.underlying3, sizeOf, typeInfo, zeroValue, hi, hz, hs, hn, h63', h48', h48'', hw, hk0, hks, Question.forced, hfo, newRow, grownCap]
end
end Go.Proofs.YtfbggmbmgohiiaaGreat.tb
/- slices.Insert of one row. Conditions: the rows are the call's own. -/
namespace Go.Proofs.YtfbggmbmgohiiaaGreat.tb
open Go.RowKit mem rec tm names
set_option linter.unusedVariables false
set_option linter.unusedSimpArgs false
set_option maxHeartbeats 4000000
set_option maxRecDepth 100000
theorem info108 : (Tryz.prog.info? 108).map (fun i => (i.zero, i.size, i.bytes)) = some (some (.agg #[.int .i64 0, .int .i64 0, .int .i64 0, .string ⟨#[]⟩, .string ⟨#[]⟩, .int .i64 0, .slice none 0 0, .string ⟨#[]⟩, .int .i64 0, .int .i64 0, .int .i64 0, .int .i64 0, .string ⟨#[]⟩, .string ⟨#[]⟩, .int .i64 0, .slice none 0 0, .string ⟨#[]⟩, .int .i64 0, .int .u32 0]), 19, 232) := by kernel_rfl
theorem elR : ElTy 96 108 19 := elty_of Tryz.underlying96 info108 rfl (by decide) (by decide)
def InsQ {N : Nat} (B : Nat) (vr : Value) (l' : List (RowE N)) (w : World) (e : Ending) (w' : World) : Prop := ∃ v', e = .returned v' ∧ RecOwn rowL 108 19 w' B v' l' ∧ TouchB (fun k => vr.ownBlock = some k) w w' ∧ ∀ k, v'.ownBlock = some k → vr.ownBlock = some k ∨ w.heap.size ≤ k
section
variable {N : Nat} {w : World} {B : Nat} {vr : Value} {l : List (RowE N)} {row : RowE N} {zv : Nat}
theorem row_at (h : w.heap[zv]? = some (.cells (rowL row).toArray 108)) (hE : EncOK rowL 19 [row]) : RecAt rowL 19 w (zv + 1) (.slice (some ⟨zv, 0, none⟩) 1 1) [row] :=
  RecAt.fresh (l := [row]) hE (by decide) (by simpa using h) (Nat.le_refl _) (by decide)
theorem insert60e (hown : RecOwn rowL 108 19 w B vr l) (hB : B ≤ w.heap.size) (hlen : l.length ≤ 1000000) (hE : EncOK rowL 19 [row]) (hz : w.heap[zv]? = some (.cells (rowL row).toArray 108)) :
    Calls Tryz.prog 60 #[vr, .int .i64 l.length, .slice (some ⟨zv, 0, none⟩) 1 1] w (InsQ B vr (l ++ [row]) w) := by
  have HO := Lib.hid hown
  have HRw := Lib.hid (row_at hz hE)
  have HE := Lib.hid hE
  obtain ⟨pv, cv, rfl, hc, hm⟩ := hown.shape
  unfold maxLen at hm
  clear hown hz hE
  go_enter Tryz.func60, Tryz.ntmps60
  go_wp2_with (first
    | (refine wpList_append_rec elR rfl (.tmp 23) (.tmp 24) rfl rfl HO.out hB rfl HRw.out HE.out (by simp; omega) ?_; intro v' w2 hA; obtain ⟨ao', cap', hv, _, _⟩ := hA.own.shape; generalize (l ++ [row]).length = q at hv; subst hv; have HA : Hid (AppR rowL 108 19 w B (.slice pv l.length cv) l [row] (.slice ao' q cap') w2) := Lib.hid hA; clear hA))
  all_goals
    go_ret
    refine ⟨.slice ao' q cap', rfl, HA.out.own, HA.out.touch (TouchB.refl _ _) (fun k hk _ => by cases pv <;> first | exact hk | simpa [Value.ownBlock] using hk), fun k hk => ?_⟩
    rcases HA.out.at_ with e | e
    · have h5 : (Value.slice pv l.length cv).ownBlock = some k := e ▸ hk
      exact .inl (by cases pv <;> first | exact h5 | simpa [Value.ownBlock] using h5)
    · rw [e] at hk
      exact .inr (Nat.le_of_eq (Option.some.inj hk))
theorem own_parts (hown : RecOwn rowL 108 19 w B vr l) (h0 : 0 < l.length) : ∃ g cap cur, vr = .slice (some ⟨g, 0, none⟩) l.length cap ∧ B ≤ g ∧ w.heap[g]? = some (.cells cur 108 (0, 0)) ∧ l.length ≤ cap ∧ cap ≤ maxLen ∧ cur.size = cap * 19 ∧ cur.toList.take (l.length * 19) = l.flatMap rowL := by
  rcases hown.2 with ⟨_, hz⟩ | ⟨g, cap, cur, hv, r⟩
  · omega
  · exact ⟨g, cap, cur, hv, r⟩
theorem flat_take (hE : EncOK rowL 19 l) (i : Nat) (hi : i ≤ l.length) : (l.flatMap rowL).take (i * 19) = (l.take i).flatMap rowL := by
  have e : l.flatMap rowL = (l.take i).flatMap rowL ++ (l.drop i).flatMap rowL := by rw [← List.flatMap_append, List.take_append_drop]
  rw [e]
  exact List.take_left' (by rw [flat_len (hE.sub (fun a ha => List.mem_of_mem_take ha)), List.length_take, Nat.min_eq_left hi])
theorem flat_drop (hE : EncOK rowL 19 l) (i : Nat) (hi : i ≤ l.length) : (l.flatMap rowL).drop (i * 19) = (l.drop i).flatMap rowL := by
  have e : l.flatMap rowL = (l.take i).flatMap rowL ++ (l.drop i).flatMap rowL := by rw [← List.flatMap_append, List.take_append_drop]
  rw [e]
  exact List.drop_left' (by rw [flat_len (hE.sub (fun a ha => List.mem_of_mem_take ha)), List.length_take, Nat.min_eq_left hi])
theorem overlaps90 {gb ob lb cb : Nat} {cur : Array Value} (hz : w.heap[zv]? = some (.cells (rowL row).toArray 108)) (hg : w.heap[gb]? = some (.cells cur 108 (0, 0))) (hne : zv ≠ gb) (hc : cur.size ≠ 0) :
    (callFunc 90 #[.slice (some ⟨zv, 0, none⟩) 1 1, .slice (some ⟨gb, ob, none⟩) lb cb]).run Tryz.prog w = .ok (.value (.bool false)) w := by
  have hsz : ∀ w, (Go.sizeOf 108).run Tryz.prog w = .ok 19 w := fun w => by
    obtain ⟨i0, hi, hzz, hs, hb⟩ := info_parts info108
    exact run_sizeOf hi hs w
  rw [run_callFunc_extern Tryz.func90 (by kernel_rfl) (by kernel_rfl) (by kernel_rfl) (e := Extern.SlicesOverlaps.overlaps #[96, 96] #[4]) (by kernel_rfl),
    Lib.run_overlaps_apart w 96 4 108 Tryz.underlying96 19 hsz ⟨zv, 0, none⟩ ⟨gb, ob, none⟩ 1 1 lb cb hne 108 108 (rowL row).toArray.size cur.size (by simp [World.shape?, hz]) (by simp [World.shape?, hg]) hc (by simp only [World.frozen?, hz]; simp) (by simp only [World.frozen?, hz]; simp)]
  rfl
theorem insert60m (hown : RecOwn rowL 108 19 w B vr l) (hB : B ≤ w.heap.size) (hlen : l.length ≤ 1000000) (hEl : EncOK rowL 19 l) (hE : EncOK rowL 19 [row]) (hz : w.heap[zv]? = some (.cells (rowL row).toArray 108)) (hne : vr.ownBlock ≠ some zv) {i : Nat} (hi : i < l.length) {p : Option Addr} {n c : Nat} (hvr : vr = .slice p n c) (hroom : l.length + 1 ≤ c) :
    Calls Tryz.prog 60 #[vr, .int .i64 i, .slice (some ⟨zv, 0, none⟩) 1 1] w (InsQ B vr (l.take i ++ [row] ++ l.drop i) w) := by
  obtain ⟨g, cap, cur, rfl, hbg, hg, hnc, hcm, hcs, htk⟩ := own_parts hown (by omega)
  simp only [Value.slice.injEq] at hvr
  obtain ⟨rfl, rfl, rfl⟩ := hvr
  obtain ⟨i0, hi0, hz0, hs0, hb0⟩ := info_parts info108
  have hng : zv ≠ g := fun e => hne (by rw [e]; rfl)
  have hfl := flat_len hEl
  have hov := fun lb cb => overlaps90 (gb := g) (ob := (i + 1) * 19) (lb := lb) (cb := cb) hz hg hng (by omega)
  unfold maxLen at hcm
  have hw1 : IntKind.i64.wrap ((l.length : Int) + 1) = (l.length : Int) + 1 := IntWalk.i64_in _ (by omega)
  have hw2 : IntKind.i64.wrap ((i : Int) + 1) = (i : Int) + 1 := IntWalk.i64_in _ (by omega)
  have hne2 : ¬ ((i : Int) = (l.length : Int)) := by omega
  have hb2 : ¬ (cap = i + 1) := by omega
  have hb4 : ¬ (cap = i) := by omega
  have hb1 : (0 : Int) ≤ (i : Int) + 1 := by omega
  have htn : ((i : Int) + 1).toNat = i + 1 := by omega
  have hb3 : (i : Int) ≤ (l.length : Int) + 1 := by omega
  have hin : i ≤ l.length := by omega
  have hin2 : (i : Int) ≤ (l.length : Int) := by omega
  have hX : (rowL row).length = 19 := rfl
  have hcl : cur.toList.length = cap * 19 := by simpa using hcs
  have hDl : ((l.drop i).flatMap rowL).length = (l.length - i) * 19 := by rw [flat_len (hEl.sub (fun a ha => List.mem_of_mem_drop ha)), List.length_drop]
  have hD1 : ((cur.toList.take (l.length * 19)).drop (i * 19)) = (l.drop i).flatMap rowL := by rw [htk, flat_drop hEl i (Nat.le_of_lt hi)]
  have hc1 : ∀ j u, ((l.drop i).flatMap rowL)[j]? = some u → w.drew.cell? ((⟨g, i * 19, none⟩ : Addr).add j) = some u := fun j u hj => by
    rw [Addr.add_lit]
    have h2 : (l.flatMap rowL)[i * 19 + j]? = some u := by rw [← List.getElem?_drop, flat_drop hEl i (Nat.le_of_lt hi)]; exact hj
    have := World.ownsRow.cells (g := g) hown rfl (i * 19 + j) u h2
    rwa [Addr.add_lit, Nat.zero_add] at this
  have h1D : ∀ u ∈ (l.drop i).flatMap rowL, u.oneCell' = true := fun u hu => by
    obtain ⟨a, ha, hu⟩ := List.mem_flatMap.1 hu
    exact (hEl a (List.mem_of_mem_drop ha)).2 u hu
  have hm1 : Nat.min (l.length + 1 - i) (l.length - i) = l.length - i := by simp only [Nat.min_def]; split <;> omega
  have hr1 := fun ty dc sc => run_copy_rec (sl := 96) (e := 108) (s := 19) Tryz.underlying96 hi0 hs0 ty w.drew g ((i + 1) * 19) cur hg (l.length - i) dc ⟨g, i * 19, none⟩ (l.length + 1 - i) sc ((l.drop i).flatMap rowL) (by rw [hm1]; exact hDl) hc1 h1D (by rw [hDl]; omega)
  rw [hm1] at hr1
  obtain ⟨C1, hC1⟩ : ∃ C1, put cur.toList ((i + 1) * 19) ((l.drop i).flatMap rowL) = C1 := ⟨_, rfl⟩
  have hC1l : C1.length = cap * 19 := by rw [← hC1, put_len (by rw [hDl]; omega), hcl]
  rw [hC1] at hr1
  have hg1 := setRow_heap w.drew g cur C1.toArray 108 (0, 0) hg
  have hz1 : (w.drew.setRow g C1.toArray).heap[zv]? = some (.cells (rowL row).toArray 108) := (setRow_other w.drew g zv _ hng).trans hz
  have hm2 : Nat.min 1 (l.length + 1 - i) = 1 := by simp only [Nat.min_def]; split <;> omega
  have hr2 := fun ty dc sc => run_copy_rec (sl := 96) (e := 108) (s := 19) Tryz.underlying96 hi0 hs0 ty (w.drew.setRow g C1.toArray) g (i * 19) C1.toArray hg1 (l.length + 1 - i) dc ⟨zv, 0, none⟩ 1 sc (rowL row) (by rw [hm2, hX]) (fun j u hj => by
    rw [Addr.add_lit, Nat.zero_add]
    simp only [World.cell?, hz1]
    simpa using hj) (fun u hu => (hE row (List.mem_singleton.2 rfl)).2 u hu) (by rw [hX, List.size_toArray, hC1l]; omega)
  rw [hm2] at hr2
  have hg2 := setRow_heap (w.drew.setRow g C1.toArray) g C1.toArray (put C1 (i * 19) (rowL row)).toArray 108 (0, 0) hg1
  have HFin : Hid (InsQ B (.slice (some ⟨g, 0, none⟩) l.length cap) (l.take i ++ [row] ++ l.drop i) w (.returned (.slice (some ⟨g, 0, none⟩) (l.length + 1) cap)) ((w.drew.setRow g C1.toArray).setRow g (put C1 (i * 19) (rowL row)).toArray)) := Lib.hid (by
    have hln : (l.take i ++ [row] ++ l.drop i).length = l.length + 1 := by simp; omega
    have hins := ins_room (A := cur.toList) (X := rowL row) (p := i * 19) (n := l.length * 19) (s := 19) (by omega) hX (by omega)
    rw [hD1, show i * 19 + 19 = (i + 1) * 19 by omega, hC1] at hins
    refine ⟨_, rfl, ⟨?_, .inr ⟨g, cap, _, by rw [hln], hbg, hg2, by rw [hln]; exact hroom, by unfold maxLen; omega, ?_, ?_⟩⟩, ⟨rfl, rfl, rfl, by simp [World.setRow], fun k hk hn => ?_⟩, fun k hk => .inl (by simpa [Value.ownBlock] using hk)⟩
    · rw [flat_len ((EncOK.append (EncOK.append (hEl.sub (fun a ha => List.mem_of_mem_take ha)) hE) (hEl.sub (fun a ha => List.mem_of_mem_drop ha))))]
    · rw [List.size_toArray, put_len (by rw [hX, hC1l]; omega), hC1l]
    · rw [hln, show (l.length + 1) * 19 = l.length * 19 + 19 by omega, hins, List.flatMap_append, List.flatMap_append, ← flat_take hEl i (Nat.le_of_lt hi), ← htk, List.take_take, Nat.min_eq_left (by omega)]
      simp
    · have hkg : k ≠ g := fun e => hn (by rw [e]; rfl)
      exact (setRow_other _ g k _ hkg).trans (setRow_other _ g k _ hkg))
  have HR1 := Lib.hid hr1
  have HR2 := Lib.hid hr2
  clear hown hne hbg hg hnc hcs htk hfl hX hcl hDl hD1 hc1 h1D hC1 hC1l hg1 hz1 hg2 hr1 hr2 hm1 hm2 hz hE hEl hi0 hz0 hs0 hb0 hng
  go_enter Tryz.func60, Tryz.ntmps60
  go_wp2_with (simp only [hov])
  have hcz : (cap : Int) ≤ 9223372036854775807 := by omega
  clear hov hcm hw1 hne2 hlen hB
  go_still_tail 8, (by kernel_rfl)
  change wpList _ _ _ _ _ w.drew
  go_wp2_with (first
    | (refine wpList_copy_run rfl (.tmp 73) (.tmp 76) rfl rfl rfl (HR1.out _ _ _) ?_)
    | (refine wpList_copy_run rfl (.tmp 80) (.tmp 81) rfl rfl rfl (HR2.out _ _ _) ?_))
  go_ret
  exact HFin.out
end
end Go.Proofs.YtfbggmbmgohiiaaGreat.tb
/- slices.Insert of one row where there is no room. Conditions: the rows are the call's own. -/
namespace Go.Proofs.YtfbggmbmgohiiaaGreat.tb
open Go.RowKit mem rec tm names
set_option linter.unusedVariables false
set_option linter.unusedSimpArgs false
set_option maxHeartbeats 4000000
set_option maxRecDepth 100000
section
variable {N : Nat} {w : World} {B : Nat} {vr : Value} {l : List (RowE N)} {row : RowE N} {zv : Nat}
theorem insert60g (hown : RecOwn rowL 108 19 w B vr l) (hB : B ≤ w.heap.size) (hlen : l.length ≤ 1000000) (hEl : EncOK rowL 19 l) (hE : EncOK rowL 19 [row]) (hz : w.heap[zv]? = some (.cells (rowL row).toArray 108)) {i : Nat} (hi : i < l.length) {p : Option Addr} {n c : Nat} (hvr : vr = .slice p n c) (hroom : c < l.length + 1) :
    Calls Tryz.prog 60 #[vr, .int .i64 i, .slice (some ⟨zv, 0, none⟩) 1 1] w (InsQ B vr (l.take i ++ [row] ++ l.drop i) w) := by
  obtain ⟨g, cap, cur, rfl, hbg, hg, hnc, hcm, hcs, htk⟩ := own_parts hown (by omega)
  simp only [Value.slice.injEq] at hvr
  obtain ⟨rfl, rfl, rfl⟩ := hvr
  obtain ⟨i0, hi0, hz0, hs0, hb0⟩ := info_parts info108
  have hfl := flat_len hEl
  have hcapz : (cap : Int) ≤ 9223372036854775807 := by unfold maxLen at hcm; omega
  have hw1 : IntKind.i64.wrap ((l.length : Int) + 1) = (l.length : Int) + 1 := IntWalk.i64_in _ (by omega)
  have hw2 : IntKind.i64.wrap ((i : Int) + 1) = (i : Int) + 1 := IntWalk.i64_in _ (by omega)
  have hw3 : IntKind.i64.wrap ((l.length : Int) + 1 - (i : Int)) = (l.length : Int) + 1 - (i : Int) := IntWalk.i64_in _ (by omega)
  have hne2 : ¬ ((i : Int) = (l.length : Int)) := by omega
  have hb4 : ¬ (cap = i) := by omega
  have hb1 : (0 : Int) ≤ (i : Int) + 1 := by omega
  have htn : ((i : Int) + 1).toNat = i + 1 := by omega
  have hb3 : (i : Int) ≤ (l.length : Int) + 1 := by omega
  have hin : i ≤ l.length := by omega
  have hin2 : (i : Int) ≤ (l.length : Int) := by omega
  have hic : (i : Int) ≤ (cap : Int) := by omega
  have hX : (rowL row).length = 19 := rfl
  have hDl : ((l.drop i).flatMap rowL).length = (l.length - i) * 19 := by rw [flat_len (hEl.sub (fun a ha => List.mem_of_mem_drop ha)), List.length_drop]
  have hTl : ((l.take i).flatMap rowL).length = i * 19 := by rw [flat_len (hEl.sub (fun a ha => List.mem_of_mem_take ha)), List.length_take, Nat.min_eq_left hin]
  have hcell := World.ownsRow.cells (g := g) hown rfl
  have hc0 : ∀ j u, ((l.take i).flatMap rowL)[j]? = some u → w.cell? ⟨g, j, none⟩ = some u := fun j u hj => by
    have h2 : (l.flatMap rowL)[j]? = some u := by
      have hlt := (List.getElem?_eq_some_iff.1 hj).1
      rw [← flat_take hEl i hin, List.getElem?_take] at hj
      rw [hTl] at hlt
      rwa [if_pos hlt] at hj
    have := hcell j u h2
    rwa [Addr.add_lit, Nat.zero_add] at this
  have hk : ((l.length + 1 - i : Nat) : Int) = (l.length : Int) + 1 - (i : Int) := by omega
  have hr0 := fun ty => run_append_make (sl := 96) (e := 108) (s := 19) Tryz.underlying96 hi0 hz0 hs0 rfl (by decide) hb0 ty w g i cap (l.length + 1 - i) _ hTl hc0 (by omega) (by omega) (by omega) (by omega) (by omega)
  rw [hk, show i + (l.length + 1 - i) = l.length + 1 by omega] at hr0
  have hge := grownCap_ge w (l.length + 1) cap 108
  have hcpm : grownCap w (l.length + 1) cap 108 ≤ maxLen := grownCap_le_maxLen w (l.length + 1) cap 108 (by unfold maxLen; omega)
  generalize grownCap w (l.length + 1) cap 108 = cp at *
  obtain ⟨Z, hZ⟩ : ∃ Z : Array Value, Builtin.zeroCells (Value.agg #[.int .i64 0, .int .i64 0, .int .i64 0, .string ⟨#[]⟩, .string ⟨#[]⟩, .int .i64 0, .slice none 0 0, .string ⟨#[]⟩, .int .i64 0, .int .i64 0, .int .i64 0, .int .i64 0, .string ⟨#[]⟩, .string ⟨#[]⟩, .int .i64 0, .slice none 0 0, .string ⟨#[]⟩, .int .i64 0, .int .u32 0]).cells (l.length + 1 - i) ++ Builtin.zeroCells (Value.agg #[.int .i64 0, .int .i64 0, .int .i64 0, .string ⟨#[]⟩, .string ⟨#[]⟩, .int .i64 0, .slice none 0 0, .string ⟨#[]⟩, .int .i64 0, .int .i64 0, .int .i64 0, .int .i64 0, .string ⟨#[]⟩, .string ⟨#[]⟩, .int .i64 0, .slice none 0 0, .string ⟨#[]⟩, .int .i64 0, .int .u32 0]).cells (cp - (l.length + 1)) = Z := ⟨_, rfl⟩
  have hZs : Z.size = (l.length + 1 - i) * 19 + (cp - (l.length + 1)) * 19 := by
    rw [← hZ, Array.size_append, size_zeroCells, size_zeroCells]
    rfl
  simp only [Array.append_assoc] at hr0
  rw [hZ] at hr0
  have hpre : ((l.take i).flatMap rowL).toArray ++ Z = ((l.take i).flatMap rowL ++ Z.toList).toArray := by simp
  rw [hpre] at hr0
  clear hpre hZ
  generalize hC0 : (l.take i).flatMap rowL ++ Z.toList = C0 at *
  have hC0l : C0.length = cp * 19 := by rw [← hC0, List.length_append, hTl, Array.length_toList, hZs]; omega
  have hZl : Z.toList.length = (l.length + 1 - i) * 19 + (cp - (l.length + 1)) * 19 := by rw [Array.length_toList, hZs]
  obtain ⟨W1, hW1⟩ : ∃ W1, w.drew.alloc (.cells C0.toArray 108) = W1 := ⟨_, rfl⟩
  have hg1 : W1.heap[w.heap.size]? = some (.cells C0.toArray 108) := by rw [← hW1]; exact alloc_new w.drew _
  have hold : ∀ k, k < w.heap.size → W1.heap[k]? = w.heap[k]? := fun k hk => by rw [← hW1]; exact Below.heap_alloc w.drew _ k hk
  have hW1p : W1.os = w.os ∧ W1.tape = w.tape ∧ W1.output = w.output ∧ W1.heap.size = w.heap.size + 1 := by rw [← hW1]; exact ⟨rfl, rfl, rfl, World.size_alloc _ _⟩
  rw [hW1] at hr0
  have hzl := (Array.getElem?_eq_some_iff.1 hz).1
  have hgl := (Array.getElem?_eq_some_iff.1 hg).1
  have hz1 := (hold zv hzl).trans hz
  have hm2 : Nat.min 1 (l.length + 1 - i) = 1 := by simp only [Nat.min_def]; split <;> omega
  have hr1 := fun ty dc sc => run_copy_rec (sl := 96) (e := 108) (s := 19) Tryz.underlying96 hi0 hs0 ty W1 w.heap.size (i * 19) C0.toArray hg1 (l.length + 1 - i) dc ⟨zv, 0, none⟩ 1 sc (rowL row) (by rw [hm2, hX]) (fun j u hj => by
    rw [Addr.add_lit, Nat.zero_add]
    simp only [World.cell?, hz1]
    simpa using hj) (fun u hu => (hE row (List.mem_singleton.2 rfl)).2 u hu) (by rw [hX, List.size_toArray, hC0l]; omega)
  rw [hm2] at hr1
  have hg2 := setRow_heap W1 w.heap.size C0.toArray (put C0 (i * 19) (rowL row)).toArray 108 (0, 0) hg1
  have hC1l : (put C0 (i * 19) (rowL row)).length = cp * 19 := by rw [put_len (by rw [hX, hC0l]; omega), hC0l]
  obtain ⟨C1, hC1⟩ : ∃ C1, put C0 (i * 19) (rowL row) = C1 := ⟨_, rfl⟩
  rw [hC1] at hr1 hg2 hC1l
  obtain ⟨W2, hW2⟩ : ∃ W2, W1.setRow w.heap.size C1.toArray = W2 := ⟨_, rfl⟩
  rw [hW2] at hg2 hr1
  have hold2 : ∀ k, k < w.heap.size → W2.heap[k]? = w.heap[k]? := fun k hk => by rw [← hW2]; exact (setRow_other W1 w.heap.size k _ (by omega)).trans (hold k hk)
  have hW2p : W2.os = w.os ∧ W2.tape = w.tape ∧ W2.output = w.output ∧ W2.heap.size = w.heap.size + 1 := by rw [← hW2]; exact ⟨hW1p.1, hW1p.2.1, hW1p.2.2.1, by simp [World.setRow, hW1p.2.2.2]⟩
  have hc2 : ∀ j u, ((l.drop i).flatMap rowL)[j]? = some u → W2.drew.cell? ((⟨g, i * 19, none⟩ : Addr).add j) = some u := fun j u hj => by
    rw [Addr.add_lit]
    have h2 : (l.flatMap rowL)[i * 19 + j]? = some u := by rw [← List.getElem?_drop, flat_drop hEl i hin]; exact hj
    have := hcell (i * 19 + j) u h2
    rw [Addr.add_lit, Nat.zero_add] at this
    exact (World.cell?_of_block (w := w) (w' := W2.drew) (a := ⟨g, i * 19 + j, none⟩) (hold2 g hgl)).trans this
  have h1D : ∀ u ∈ (l.drop i).flatMap rowL, u.oneCell' = true := fun u hu => by
    obtain ⟨a, ha, hu⟩ := List.mem_flatMap.1 hu
    exact (hEl a (List.mem_of_mem_drop ha)).2 u hu
  have hm3 : Nat.min (l.length - i) (l.length - i) = l.length - i := by simp only [Nat.min_def]; split <;> omega
  have hr2 := fun ty dc sc => run_copy_rec (sl := 96) (e := 108) (s := 19) Tryz.underlying96 hi0 hs0 ty W2.drew w.heap.size ((i + 1) * 19) C1.toArray hg2 (l.length - i) dc ⟨g, i * 19, none⟩ (l.length - i) sc ((l.drop i).flatMap rowL) (by rw [hm3]; exact hDl) hc2 h1D (by rw [hDl, List.size_toArray, hC1l]; omega)
  rw [hm3] at hr2
  have hg3 := setRow_heap W2.drew w.heap.size C1.toArray (put C1 ((i + 1) * 19) ((l.drop i).flatMap rowL)).toArray 108 (0, 0) hg2
  have HFin : Hid (InsQ B (.slice (some ⟨g, 0, none⟩) l.length cap) (l.take i ++ [row] ++ l.drop i) w (.returned (.slice (some ⟨w.heap.size, 0, none⟩) (l.length + 1) cp)) (W2.drew.setRow w.heap.size (put C1 ((i + 1) * 19) ((l.drop i).flatMap rowL)).toArray)) := Lib.hid (by
    have hln : (l.take i ++ [row] ++ l.drop i).length = l.length + 1 := by simp; omega
    have hins := ins_new (R := l.flatMap rowL) (X := rowL row) (Z := Z.toList) (p := i * 19) (s := 19) (by omega) hX (by omega)
    rw [flat_take hEl i hin, flat_drop hEl i hin, hC0, show i * 19 + 19 = (i + 1) * 19 by omega, hC1, hfl] at hins
    refine ⟨_, rfl, ⟨?_, .inr ⟨w.heap.size, cp, _, by rw [hln], hB, hg3, by rw [hln]; exact hge, hcpm, ?_, ?_⟩⟩, ⟨hW2p.1, hW2p.2.1, hW2p.2.2.1, by simp [World.setRow, hW2p.2.2.2], fun k hk hn => ?_⟩, fun k hk => .inr (Nat.le_of_eq (by simpa [Value.ownBlock] using hk))⟩
    · rw [flat_len ((EncOK.append (EncOK.append (hEl.sub (fun a ha => List.mem_of_mem_take ha)) hE) (hEl.sub (fun a ha => List.mem_of_mem_drop ha))))]
    · rw [List.size_toArray, put_len (by rw [hDl, hC1l]; omega), hC1l]
    · rw [hln, show (l.length + 1) * 19 = l.length * 19 + 19 by omega, hins, List.flatMap_append, List.flatMap_append]
      simp
    · exact (setRow_other _ w.heap.size k _ (by omega)).trans (hold2 k hk))
  have HR0 := Lib.hid hr0
  have HR1 := Lib.hid hr1
  have HR2 := Lib.hid hr2
  have hcpi : ¬ (cp = i) := by omega
  have hcpi1 : ¬ (cp = i + 1) := by omega
  have hcpz : (cp : Int) ≤ 9223372036854775807 := by unfold maxLen at hcpm; omega
  clear hown hB hbg hg hcm hcs htk hfl hX hDl hTl hcell hc0 hk hr0 hcpm hZs hC0 hC0l hZl hW1 hg1 hold hW1p hzl hgl hz1 hm2 hr1 hg2 hC1l hC1 hW2 hold2 hW2p hc2 h1D hm3 hr2 hg3 hz hE hEl hi0 hz0 hs0 hb0
  go_enter Tryz.func60, Tryz.ntmps60
  go_upto_region 9 with (fail)
  clear hw1 hcapz
  go_upto_region 10 with (at_builtin; refine wpList_appmake_run (t := 96) (t' := 3) (w' := W1) rfl (.tmp 34) (.tmp 39) rfl rfl rfl (HR0.out _) ?_)
  go_upto_region 11 with (refine wpList_copy_run (t := 96) (t' := 96) (w' := W2) rfl (.tmp 43) (.tmp 44) rfl rfl rfl (HR1.out _ _ _) ?_)
  go_simp
  clear HR0 HR1 hw3 hroom hge hic
  go_still_tail 8, (by kernel_rfl)
  change wpList _ _ _ _ _ W2.drew
  go_wp2_with (refine wpList_copy_run rfl (.tmp 50) (.tmp 53) rfl rfl rfl (HR2.out _ _ _) ?_)
  go_ret
  have h5 := HFin.out
  rw [List.append_assoc] at h5
  exact h5
theorem insert60 (hown : RecOwn rowL 108 19 w B vr l) (hB : B ≤ w.heap.size) (hlen : l.length ≤ 1000000) (hEl : EncOK rowL 19 l) (hE : EncOK rowL 19 [row]) (hz : w.heap[zv]? = some (.cells (rowL row).toArray 108)) (hne : vr.ownBlock ≠ some zv) {i : Nat} (hi : i ≤ l.length) :
    Calls Tryz.prog 60 #[vr, .int .i64 i, .slice (some ⟨zv, 0, none⟩) 1 1] w (InsQ B vr (l.take i ++ [row] ++ l.drop i) w) := by
  by_cases h : i < l.length
  · obtain ⟨p, c, hv, _, _⟩ := hown.shape
    by_cases hr : l.length + 1 ≤ c
    · exact insert60m hown hB hlen hEl hE hz hne h hv hr
    · exact insert60g hown hB hlen hEl hE hz h hv (by omega)
  · obtain rfl : i = l.length := by omega
    rw [List.take_length, List.drop_length, List.append_nil]
    exact insert60e hown hB hlen hE hz
end
end Go.Proofs.YtfbggmbmgohiiaaGreat.tb
/- keyed. Conditions: the object lies in memory. -/
namespace Go.Proofs.YtfbggmbmgohiiaaGreat.tb
open Go.RowKit mem rec tm names
set_option linter.unusedVariables false
set_option linter.unusedSimpArgs false
set_option maxHeartbeats 4000000
set_option maxRecDepth 100000
section
variable {N : Nat} {w w' : World} {B : Nat} {F : Nat → Prop} {s : TbSt N}
def KeyR (l : List (TabE N)) (r k : Tm (N + 1)) (po : Option Addr) (er : Int) : Prop := (validT k = false ∧ po = none ∧ er = 2) ∨ (validT k = true ∧ TabR l r po er)
theorem keyed55 (h : TbAt w B F s) (hlen : s.tabs.length ≤ 1000) {r k : Tm (N + 1)} {ur uk : Value} {B2 : Nat} (hB : B2 ≤ w.heap.size) (hI : ItemsAt w B2 N ur r.items) (hJ : ItemsAt w B2 N uk k.items) (hn : 300 * (nodesT k : Int) ≤ 1000000000000) {po : Option Addr} {er : Int} (hR : KeyR s.tabs r k po er) :
    Calls Tryz.prog 55 #[.pointer (some ⟨s.z, 0, none⟩), aggV r.f ur, aggV k.f uk] w fun e w' => e = .returned (.tuple #[.pointer po, .int .i64 er]) ∧ Below w.heap.size w w' := by
  obtain ⟨hb0, hc1, hc2⟩ := two_boxes w (cells9 r.f ur) (cells9 k.f uk)
  have HTb := Lib.hid (fun (W : World) (hW : Below w.heap.size w W) hR => table49 (h.below hW) hlen (Nat.le_trans hB hW.size) (hI.below hW hB) (po := po) (er := er) hR)
  have HV := Lib.hid (fun (W : World) (hW : Below w.heap.size w W) => ValidTm (ofAll N) W B2 uk k (Nat.le_trans hB hW.size) (hJ.below hW hB) hn)
  have HO := Lib.hid (fun (W : World) (hW : Below w.heap.size w W) => two_cells (h.below hW).obj)
  obtain ⟨pl, cl, hv, _, _⟩ := h.l.shape
  obtain ⟨pr, cr, er1, _, _⟩ := hI.shape
  obtain ⟨pk, ck, ek, _, _⟩ := hJ.shape
  rw [hv] at HO
  unfold KeyR at hR
  generalize validT k = vk at *
  generalize s.z = z at *
  rw [er1] at HTb hb0 hc1 hc2 ⊢
  rw [ek] at HV hb0 hc1 hc2 ⊢
  generalize r.items.length = nr at *
  generalize k.items.length = nk at *
  have HR := Lib.hid hR
  clear h hB hI hJ hn hR hv er1 ek
  generalize r.f = fr at *
  generalize k.f = fk at *
  obtain ⟨rk, ri, rg, rn, rf, ra, rb, rs⟩ := fr
  obtain ⟨kk, ki, kg, kn, kf, ka, kb, ks⟩ := fk
  have HZ1 := Lib.hid hc1
  have HZ2 := Lib.hid hc2
  unfold aggV at *
  unfold BPost at HV
  unfold cells9 at hb0 HZ1 HZ2
  dsimp only at HTb HV hb0 HZ1 HZ2 ⊢
  have HB0 := Lib.hid hb0
  have hl1 := (Array.getElem?_eq_some_iff.1 HZ1.out).1
  clear hc1 hc2 hb0
  rcases HR.out with ⟨rfl, rfl, rfl⟩ | ⟨rfl, hT⟩
  · clear HTb HR
    go_enter Tryz.func55, Tryz.ntmps55
    go_upto_region 1 with (fail)
    generalize ((w.alloc (.cells #[.int .i64 rk, .int .i64 ri, .int .i64 rg, .string rn, .string rf, .int .i64 ra, .slice pr nr cr, .string rb, .int .i64 rs] 24)).alloc (.cells #[.int .i64 kk, .int .i64 ki, .int .i64 kg, .string kn, .string kf, .int .i64 ka, .slice pk nk ck, .string kb, .int .i64 ks] 24)) = W1 at *
    obtain ⟨o0, o1, of⟩ := HO.out _ HB0.out
    obtain ⟨y0, y1, y2, y3, y4, y5, y6, y7, y8, yf⟩ := nine_of (f := ⟨kk, ki, kg, kn, kf, ka, kb, ks⟩) (v := .slice pk nk ck) HZ2.out
    dsimp only at y0 y1 y2 y3 y4 y5 y6 y7 y8
    go_wp2_with fail
    refine (HV.out _ HB0.out).mono ?_
    rintro e w2 ⟨rfl, hb2⟩
    have HB2 := Lib.hid (HB0.out.trans (hb2.mono HB0.out.size))
    clear hb2 y0 y1 y2 y3 y4 y5 y6 y7 y8 yf
    go_wp2_with fail
    go_ret2
    exact ⟨rfl, HB2.out⟩
  · have HT := Lib.hid (fun W hW => HTb.out W hW hT)
    clear HTb HR hT
    go_enter Tryz.func55, Tryz.ntmps55
    go_upto_region 1 with (fail)
    generalize ((w.alloc (.cells #[.int .i64 rk, .int .i64 ri, .int .i64 rg, .string rn, .string rf, .int .i64 ra, .slice pr nr cr, .string rb, .int .i64 rs] 24)).alloc (.cells #[.int .i64 kk, .int .i64 ki, .int .i64 kg, .string kn, .string kf, .int .i64 ka, .slice pk nk ck, .string kb, .int .i64 ks] 24)) = W1 at *
    obtain ⟨o0, o1, of⟩ := HO.out _ HB0.out
    obtain ⟨y0, y1, y2, y3, y4, y5, y6, y7, y8, yf⟩ := nine_of (f := ⟨kk, ki, kg, kn, kf, ka, kb, ks⟩) (v := .slice pk nk ck) HZ2.out
    dsimp only at y0 y1 y2 y3 y4 y5 y6 y7 y8
    go_wp2_with fail
    refine (HV.out _ HB0.out).mono ?_
    rintro e w2 ⟨rfl, hb2⟩
    have HB2 := Lib.hid (HB0.out.trans (hb2.mono HB0.out.size))
    obtain ⟨x0, x1, x2, x3, x4, x5, x6, x7, x8, xf⟩ := nine_of (f := ⟨rk, ri, rg, rn, rf, ra, rb, rs⟩) (v := .slice pr nr cr) ((hb2.block _ hl1).trans HZ1.out)
    dsimp only at x0 x1 x2 x3 x4 x5 x6 x7 x8
    clear hb2 y0 y1 y2 y3 y4 y5 y6 y7 y8 yf
    go_wp2_with fail
    refine (HT.out _ HB2.out).mono ?_
    rintro e w3 ⟨rfl, hb3⟩
    have HB3 := Lib.hid (HB2.out.trans (hb3.mono HB2.out.size))
    clear hb3 x0 x1 x2 x3 x4 x5 x6 x7 x8 xf
    go_wp2_with fail
    go_ret2
    exact ⟨rfl, HB3.out⟩
end
end Go.Proofs.YtfbggmbmgohiiaaGreat.tb
/- One table of the object turned. No condition. -/
namespace Go.Proofs.YtfbggmbmgohiiaaGreat.tb
open Go.RowKit mem rec tm names
set_option linter.unusedVariables false
set_option linter.unusedSimpArgs false
set_option maxHeartbeats 1000000
set_option maxRecDepth 100000
section
variable {N : Nat} {w w' : World} {B : Nat} {F F' : Nat → Prop} {s : TbSt N}
theorem F_ty (h : TbAt w B F s) {g : Nat} (hg : F g) : tyOf w g = some 24 := by
  obtain ⟨cur, M, h1, _⟩ := h.ty g hg
  exact tyOf_of h1
theorem ty_ne {k k' : Nat} {a b : TypeId} (h1 : tyOf w k = some a) (h2 : tyOf w k' = some b) (hne : a ≠ b) : k ≠ k' := fun e => by
  rw [e, h2] at h1
  exact hne (Option.some.inj h1).symm
theorem TbAt.upd (h : TbAt w B F s) {i : Nat} {t t' : TabE N} (hi : s.tabs[i]? = some t) (hT : TouchB (fun k => k = t.b ∨ t.vr.ownBlock = some k) w w') (hb : t'.b = t.b) (h' : TabAt w' B F' t') (hv : ∀ k, t'.vr.ownBlock = some k → t.vr.ownBlock = some k ∨ w.heap.size ≤ k)
    (hF : ∀ g, F g → F' g) (hty : Typed w' F') (hfl : ∀ g, F' g → g < w'.heap.size) : TbAt w' B F' { s with tabs := s.tabs.set i t' } := by
  have hti := h.tabs t (List.mem_of_getElem? hi)
  have hsame : ∀ k, k < w.heap.size → k ≠ t.b → t.vr.ownBlock ≠ some k → w'.heap[k]? = w.heap[k]? := fun k hk h1 h2 => hT.block k hk (fun e => by rcases e with e | e; exact h1 e; exact h2 e)
  have htb := tyOf_of hti.blk
  have hvr : ∀ k, t.vr.ownBlock = some k → tyOf w k = some 108 := fun k hk => ownTy hti.rows hk
  have hSty : ∀ k a, k < w.heap.size → tyOf w k = some a → a ≠ 98 → a ≠ 108 → w'.heap[k]? = w.heap[k]? := fun k a hk ha h1 h2 => hsame k hk (ty_ne ha htb h1) (fun e => ty_ne ha (hvr k e) h2 rfl)
  have hFs : ∀ g, F g → w'.heap[g]? = w.heap[g]? := fun g hg => hSty g 24 (h.fl g hg) (F_ty h hg) (by decide) (by decide)
  have hlt : i < s.tabs.length := (List.getElem?_eq_some_iff.1 hi).1
  have hset : ∀ j u, (s.tabs.set i t')[j]? = some u → (j = i ∧ u = t') ∨ (j ≠ i ∧ s.tabs[j]? = some u) := fun j u hj => by
    by_cases e : i = j
    · subst e
      rw [List.getElem?_set_self hlt] at hj
      exact .inl ⟨rfl, (Option.some.inj hj).symm⟩
    · rw [List.getElem?_set_ne e] at hj
      exact .inr ⟨fun e' => e e'.symm, hj⟩
  have hbs : (s.tabs.set i t').map (·.b) = s.tabs.map (·.b) := by
    refine List.ext_getElem? fun j => ?_
    rw [List.getElem?_map, List.getElem?_map, List.getElem?_set]
    by_cases e : i = j
    · subst e; rw [if_pos rfl, if_pos hlt, hi]; simp [hb]
    · rw [if_neg e]
  refine ⟨(hSty _ 74 h.zlt (tyOf_of h.obj) (by decide) (by decide)).trans h.obj, ?_, fun u hu => ?_, by rw [hbs]; exact h.nd, fun j k tj tk hj hk hne q hq => ?_, h.low, hty, hfl⟩
  · show RecOwn ptrL 89 1 w' B s.vl ((s.tabs.set i t').map (·.b))
    rw [hbs]
    exact h.l.same (fun k hk => hSty k 89 (h.l.lt hk).2 (ownTy h.l hk) (by decide) (by decide))
  · obtain ⟨j, hj⟩ := List.mem_iff_getElem?.1 hu
    rcases hset j u hj with ⟨_, rfl⟩ | ⟨hne, hj⟩
    · exact h'
    · have hu := h.tabs u (List.mem_of_getElem? hj)
      have hne2 : u.b ≠ t.b := fun e => by
        have h1 : (s.tabs.map (·.b))[j]? = some t.b := by rw [List.getElem?_map, hj, ← e]; rfl
        have h2 : (s.tabs.map (·.b))[i]? = some t.b := by rw [List.getElem?_map, hi]; rfl
        have hjl : j < (s.tabs.map (·.b)).length := (List.getElem?_eq_some_iff.1 h1).1
        exact hne ((List.getElem?_inj hjl h.nd).1 (h1.trans h2.symm))
      refine hu.same (hsame _ hu.lt hne2 (fun e => ty_ne (tyOf_of hu.blk) (hvr _ e) (by decide) rfl)) (fun q hq => hsame q (hu.rows.lt hq).2 (ty_ne (ownTy hu.rows hq) htb (by decide)) (h.rnd j i u t hj hi hne q hq)) hFs hF
  · rcases hset j tj hj with ⟨rfl, rfl⟩ | ⟨hj1, hj2⟩
    · rcases hset k tk hk with ⟨rfl, rfl⟩ | ⟨hk1, hk2⟩
      · exact absurd rfl hne
      · rcases hv q hq with h1 | h1
        · exact h.rnd j k t tk hi hk2 hne q h1
        · intro e
          have := ((h.tabs tk (List.mem_of_getElem? hk2)).rows.lt e).2
          omega
    · rcases hset k tk hk with ⟨rfl, rfl⟩ | ⟨hk1, hk2⟩
      · intro e
        rcases hv q e with h1 | h1
        · exact h.rnd j k tj t hj2 hi hne q hq h1
        · have := ((h.tabs tj (List.mem_of_getElem? hj2)).rows.lt hq).2
          omega
      · exact h.rnd j k tj tk hj2 hk2 hne q hq
end
end Go.Proofs.YtfbggmbmgohiiaaGreat.tb
/- Several operations of a drawn region that are not wanted, taken at once. No condition. -/
namespace Go.Proofs.YtfbggmbmgohiiaaGreat.rec
open Go
set_option linter.unusedVariables false
/-- may these come up now, one behind the other, and is none of them wanted? -/
def skipB (md : Region.Mode) (ops : Array Oper) : List (Nat × Tmp) → Array Bool → Act → Bool
  | [], _, _ => true
  | p :: is, listed, a => (match ops[p.1]? with
      | some oi => decide (oi.dst = some p.2) && (Region.free md ops listed p.1 && ((Region.ready md ops listed).contains p.1 && !(Region.wanted oi (yielded ops a.tmps))))
      | none => false) && skipB md ops is (listed.setIfInBounds p.1 true) (a.put (some p.2) undef)
def skipL : List (Nat × Tmp) → Array Bool → Array Bool
  | [], l => l
  | p :: is, l => skipL is (l.setIfInBounds p.1 true)
def skipA : List (Nat × Tmp) → Act → Act
  | [], a => a
  | p :: is, a => skipA is (a.put (some p.2) undef)
theorem wpAnyH_skip {P : Program} {ops : Array Oper} {Q : Exit → Act → World → Prop} {md : Region.Mode} {S : World → Prop} (hs : Region.noSelect ops = true) (hQ : ∀ c a t v w, Q (.panic c) (Act.put a (some t) v) w → Q (.panic c) a w) :
    ∀ (is : List (Nat × Tmp)) {k fuel : Nat} {listed : Array Bool} {a : Act} {w : World}, is.length = k → skipB md ops is listed a = true → S w → wpAnyH P md ops Q S fuel (skipL is listed) (skipA is a) w → wpAnyH P md ops Q S (fuel + k) listed a w
  | [], k, fuel, listed, a, w, hk, _, _, h => by subst hk; exact h
  | p :: is, k, fuel, listed, a, w, hk, hb, hS, h => by
    subst hk
    unfold skipB at hb
    rw [Bool.and_eq_true] at hb
    obtain ⟨h1, h2⟩ := hb
    cases hi : ops[p.1]? with
    | none => rw [hi] at h1; cases h1
    | some oi =>
      rw [hi] at h1
      simp only [Bool.and_eq_true, decide_eq_true_eq, Bool.not_eq_true'] at h1
      obtain ⟨hd, hf, hr, hw⟩ := h1
      have ih := wpAnyH_skip (P := P) (Q := Q) (S := S) hs hQ is (k := is.length) (fuel := fuel) (w := w) rfl h2 hS h
      have := wpAnyH_take (P := P) (v := undef) (fuel := fuel + is.length) (w := w) hi hs hf hr (fun c a w h => hQ c a _ _ w (by rw [hd] at h; exact h)) (Or.inr ⟨hw, rfl⟩) hS (by rw [hd]; exact ih)
      exact this
end Go.Proofs.YtfbggmbmgohiiaaGreat.rec
/- A value laid into a row; new terms beside touched blocks; stores in drawn regions. No condition. -/
namespace Go.Proofs.YtfbggmbmgohiiaaGreat.tb
open Go.RowKit mem rec tm names
set_option linter.unusedVariables false
set_option linter.unusedSimpArgs false
set_option maxHeartbeats 1000000
set_option maxRecDepth 100000
theorem put_seg {α : Type} {A P X0 X R : List α} {n p : Nat} (h : A.take n = P ++ X0 ++ R) (hp : P.length = p) (hX : X0.length = X.length) : (put A p X).take n = P ++ X ++ R := by
  have hl : P.length + X0.length + R.length = min n A.length := by rw [← List.length_take, h]; simp only [List.length_append]
  have e : A = P ++ X0 ++ (R ++ A.drop n) := by rw [← List.append_assoc, ← h, List.take_append_drop]
  by_cases hn : n ≤ A.length
  · rw [Nat.min_eq_left hn] at hl
    unfold put
    generalize A.drop n = D at e
    subst e
    rw [List.append_assoc P X0, List.take_left' hp, ← List.append_assoc, List.drop_left' (by rw [List.length_append]; omega), ← List.append_assoc]
    exact List.take_left' (by simp only [List.length_append]; omega)
  · have hd : A.drop n = [] := List.drop_of_length_le (by omega)
    have hA : A.length = P.length + X0.length + R.length := by rw [e, hd]; simp only [List.length_append, List.length_nil]; omega
    unfold put
    generalize A.drop n = D at e hd
    subst hd
    rw [List.append_nil] at e
    subst e
    rw [List.append_assoc P X0, List.take_left' hp, ← List.append_assoc, List.drop_left' (by rw [List.length_append]; omega)]
    exact List.take_of_length_le (by simp only [List.length_append] at *; omega)
structure NewI (w0 w : World) (F : Nat → Prop) (n : Nat) (u : Value) (l : List (Tm n)) : Prop where
  items : ItemsIn w F n u l
  typed : Typed w F
  inr : ∀ g, F g → w0.heap.size ≤ g ∧ g < w.heap.size
section
variable {n : Nat} {w0 w w' : World} {F S : Nat → Prop} {u : Value} {l : List (Tm n)}
theorem NewI.of (h : NewAt w w' F n u l) (hw : w0.heap.size ≤ w.heap.size) : NewI w0 w' F n u l := ⟨h.items, h.typed, fun g hg => ⟨Nat.le_trans hw (h.inr g hg).1, (h.inr g hg).2⟩⟩
theorem NewI.touch (h : NewI w0 w F n u l) (ht : TouchB S w w') (hS : ∀ k, S k → k < w0.heap.size) : NewI w0 w' F n u l := by
  have hs : ∀ g, F g → w'.heap[g]? = w.heap[g]? := fun g hg => ht.block g (h.inr g hg).2 (fun e => by have := hS g e; have := (h.inr g hg).1; omega)
  exact ⟨h.items.mono hs (fun _ hg => hg), h.typed.same hs, fun g hg => ⟨(h.inr g hg).1, Nat.lt_of_lt_of_le (h.inr g hg).2 ht.size⟩⟩
theorem NewI.below (h : NewI w0 w F n u l) (hb : Below w.heap.size w w') : NewI w0 w' F n u l := h.touch (S := fun _ => False) ((TouchB.refl _ _).ofBelow hb (Nat.le_refl _)) (fun _ f => f.elim)
end
theorem yieldsB_cell {ops : Array Oper} {S : World → Prop} {op : Oper} {a : Act} (hw : Region.wanted op (yielded ops a.tmps) = true) (ty : TypeId) (x : Operand) (ho : op.op = .load ty x) (b o : Nat) (hx : a.eval x = .pointer (some ⟨b, o, none⟩)) (v : Value)
    (hl : ∀ w a v, w.cell? a = some v → (loadVar ty a).run Tryz.prog w = .ok v w) (hS : ∀ w, S w → w.cell? ⟨b, o, none⟩ = some v) : YieldsIf Tryz.prog ops S op v a :=
  .inl ⟨hw, fun w hs => by
    unfold execOp
    simp only [ho, hx, Instr.loadAt, Instr.sureAddr, Sem.run_bind, Sem.run_pure, Result.andThen_ok, hl w _ v (hS w hs)]⟩
theorem ld96 (w : World) (a : Addr) (v : Value) (h : w.cell? a = some v) : (loadVar 96 a).run Tryz.prog w = .ok v w := by
  go_simp
theorem st96 (w : World) (a : Addr) (v0 v : Value) (hv : v.oneCell' = true) (h : w.cell? a = some v0) (hf : w.frozen? a = false) : (storeVar 96 a v).run Tryz.prog w = .ok () (w.setCell a v) := by
  have hi : (Tryz.prog.info? 96).map (·.size) = some 1 := by kernel_rfl
  cases hq : Tryz.prog.info? 96 with
  | none => simp [hq] at hi
  | some ie =>
    have hs : ie.size = 1 := by simpa [hq] using hi
    have hc : v.cells = #[v] := by cases v <;> first | rfl | simp [Value.oneCell'] at hv
    have ha : a.add 0 = a := by cases a; simp [Addr.add]
    simp [storeVar, hc, sizeOf, typeInfo, hq, hs, storeCells, run_store Tryz.prog _ _ v _ hv, ha, h, hf, Result.andThen]
theorem step_store_run {w w' : World} {ops : Array Oper} {o : Oper} {a : Act} {K : Act → World → Prop} {Q : Exit → Act → World → Prop} {E : Prop} (hw : Region.wanted o (yielded ops a.tmps) = true) (ty : TypeId) (x y : Operand)
    (ho : o.op = .store ty x y) {p : Addr} {v : Value} (hx : a.eval x = .pointer (some p)) (hy : a.eval y = v) (hr : (storeVar ty p v).run Tryz.prog w = .ok () w')
    (hK : K (a.put o.dst undef) w') : if Region.wanted o (yielded ops a.tmps) = true then Oper.wp Tryz.prog o a w K Q else E := by
  rw [if_pos hw]
  unfold Oper.wp execOp
  simp only [ho, hx, hy, Instr.storeAt, Instr.sureAddr, Sem.run_bind, Sem.run_pure, Result.andThen_ok, hr]
  exact hK
section
variable {N : Nat} {w : World} {B : Nat} {vr : Value} {l : List (RowE N)}
theorem row_split {i : Nat} (hi : i < l.length) : l.flatMap rowL = ((l.take i).flatMap rowL ++ nineL l[i].k.f l[i].uk) ++ nineL l[i].v.f l[i].uv ++ ([.int .u32 l[i].h] ++ (l.drop (i + 1)).flatMap rowL) := by
  have e : l = l.take i ++ l[i] :: l.drop (i + 1) := by rw [List.getElem_cons_drop, List.take_append_drop]
  conv => lhs; rw [e]
  rw [List.flatMap_append, List.flatMap_cons]
  unfold rowL
  simp only [List.append_assoc]
theorem setv_split {i : Nat} (hi : i < l.length) (v : Tm (N + 1)) (u : Value) : (l.set i { l[i] with v := v, uv := u }).flatMap rowL = ((l.take i).flatMap rowL ++ nineL l[i].k.f l[i].uk) ++ nineL v.f u ++ ([.int .u32 l[i].h] ++ (l.drop (i + 1)).flatMap rowL) := by
  rw [List.set_eq_take_append_cons_drop, if_pos hi, List.flatMap_append, List.flatMap_cons]
  unfold rowL
  simp only [List.append_assoc]
/-- a value is laid into a row -/
theorem store_row (hown : RecOwn rowL 108 19 w B vr l) (hE : EncOK rowL 19 l) {i : Nat} (hi : i < l.length) {g : Nat} {n c : Nat} (hvr : vr = .slice (some ⟨g, 0, none⟩) n c) (v : Tm (N + 1)) {u : Value} (hu : u.oneCell' = true) :
    ∃ w', (storeVar 24 ⟨g, i * 19 + 9, none⟩ (aggV v.f u)).run Tryz.prog w = .ok () w' ∧ RecOwn rowL 108 19 w' B vr (l.set i { l[i] with v := v, uv := u }) ∧ TouchB (fun k => vr.ownBlock = some k) w w' := by
  obtain ⟨g', cap, cur, hv, hbg, hg, hnc, hcm, hcs, htk⟩ := own_parts hown (by omega)
  subst hvr
  simp only [Value.slice.injEq, Option.some.injEq, Addr.mk.injEq, and_true, true_and] at hv
  obtain ⟨rfl, rfl, rfl⟩ := hv
  have hlen : (nineL v.f u).length = 9 := rfl
  have hcl : cur.toList.length = c * 19 := by rw [Array.length_toList]; exact hcs
  have hst := run_storeCells_at Tryz.prog g (i * 19 + 9) 108 (nineL v.f u) 0 cur w hg (by rw [hlen, hcs]; omega) (nineL_one hu)
  simp only [Nat.add_zero] at hst
  have hi24 : (Tryz.prog.info? 24).map (·.size) = some 9 := by kernel_rfl
  have hP : ((l.take i).flatMap rowL ++ nineL l[i].k.f l[i].uk).length = i * 19 + 9 := by
    rw [List.length_append, flat_len (hE.sub (fun a ha => List.mem_of_mem_take ha)), List.length_take, Nat.min_eq_left (by omega)]
    rfl
  have htk2 : cur.toList.take (l.length * 19) = ((l.take i).flatMap rowL ++ nineL l[i].k.f l[i].uk) ++ nineL l[i].v.f l[i].uv ++ ([.int .u32 l[i].h] ++ (l.drop (i + 1)).flatMap rowL) := htk.trans (row_split hi)
  have hput := put_seg (X := nineL v.f u) htk2 hP rfl
  have hE2 : EncOK rowL 19 (l.set i { l[i] with v := v, uv := u }) := fun r hr => by
    rcases List.mem_or_eq_of_mem_set hr with h | h
    · exact hE r h
    · subst h
      refine ⟨rfl, fun x hx => ?_⟩
      unfold rowL at hx
      have h1 := (hE _ (List.getElem_mem hi)).2
      rcases List.mem_append.1 hx with hx | hx
      · exact h1 x (by unfold rowL; exact List.mem_append_left _ hx)
      rcases List.mem_append.1 hx with hx | hx
      · exact nineL_one hu x hx
      · simp at hx; subst hx; rfl
  refine ⟨w.setRow g (put cur.toList (i * 19 + 9) (nineL v.f u)).toArray, ?_, ⟨?_, .inr ⟨g, c, (put cur.toList (i * 19 + 9) (nineL v.f u)).toArray, by simp, hbg, setRow_heap _ _ _ _ _ _ hg, by simpa using hnc, hcm, ?_, ?_⟩⟩, ⟨rfl, rfl, rfl, by simp [World.setRow], fun k hk hn => setRow_other _ g k _ (fun e => hn (by subst e; rfl))⟩⟩
  · have hc : (aggV v.f u).cells.toList = nineL v.f u := rfl
    have hc2 : (aggV v.f u).cells.size = 9 := rfl
    cases hq : Tryz.prog.info? 24 with
    | none => simp [hq] at hi24
    | some ie =>
      have hs : ie.size = 9 := by simpa [hq] using hi24
      unfold put
      rw [hlen] at hst ⊢
      simp [storeVar, sizeOf, typeInfo, hq, hs, hc, hc2, hst, hlen]
  · exact flat_len hE2
  · rw [List.size_toArray, put_len (by rw [hcl, hlen]; omega), hcl]
  · rw [List.toList_toArray, List.length_set, setv_split hi]
    exact hput
/-- three boxes, in every world that has not touched them -/
theorem three_boxes (w : World) (o1 o2 o3 : Obj) {x1 x2 x3 : List Value} {t1 t2 t3 : TypeId} (e1 : o1 = .cells x1.toArray t1) (e2 : o2 = .cells x2.toArray t2) (e3 : o3 = .cells x3.toArray t3) {S : Nat → Prop} (hS : ∀ k, S k → k < w.heap.size) :
    Below w.heap.size w (((w.alloc o1).alloc o2).alloc o3) ∧ ∀ W, TouchB S (((w.alloc o1).alloc o2).alloc o3) W → W.rangeAt w.heap.size 0 x1 ∧ W.rangeAt (w.heap.size + 1) 0 x2 ∧ W.rangeAt (w.heap.size + 2) 0 x3 := by
  obtain ⟨h1, h2, h3⟩ := two_boxes w o1 o2
  have h4 := alloc_new ((w.alloc o1).alloc o2) o3
  have hs : ((w.alloc o1).alloc o2).heap.size = w.heap.size + 2 := by rw [World.size_alloc, World.size_alloc]
  rw [hs] at h4
  have k1 := (Below.heap_alloc ((w.alloc o1).alloc o2) o3 w.heap.size (by omega)).trans h2
  have k2 := (Below.heap_alloc ((w.alloc o1).alloc o2) o3 (w.heap.size + 1) (by omega)).trans h3
  refine ⟨belowA h1 o3 h1.size, fun W hW => ?_⟩
  have hr : ∀ g (x : List Value) t, w.heap.size ≤ g → (((w.alloc o1).alloc o2).alloc o3).heap[g]? = some (.cells x.toArray t) → W.rangeAt g 0 x := fun g x t hg hx j u hu => by
    have hb := (hW.block g (Array.getElem?_eq_some_iff.1 hx).1 (fun e => by have := hS g e; omega)).trans hx
    rw [cell_of_row W g (0 + j) x.toArray t _ hb]
    simpa using hu
  exact ⟨hr _ _ _ (Nat.le_refl _) (by rw [k1, e1]), hr _ _ _ (by omega) (by rw [k2, e2]), hr _ _ _ (by omega) (by rw [h4, e3])⟩
end
end Go.Proofs.YtfbggmbmgohiiaaGreat.tb
/- Put: what its steps do to the table, beside the code. Conditions: the table lies in memory. -/
namespace Go.Proofs.YtfbggmbmgohiiaaGreat.tb
open Go.RowKit mem rec tm names
set_option linter.unusedVariables false
set_option linter.unusedSimpArgs false
set_option maxHeartbeats 1000000
set_option maxRecDepth 100000
def insK {α : Type} (l : List α) (i : Nat) (a : α) : List α := l.take i ++ [a] ++ l.drop i
def setV {N : Nat} (l : List (RowE N)) (i : Nat) (v : Tm (N + 1)) (u : Value) : List (RowE N) := match l[i]? with
  | none => l
  | some r => l.set i { r with v := v, uv := u }
theorem setV_of {N : Nat} {l : List (RowE N)} {i : Nat} (hi : i < l.length) (v : Tm (N + 1)) (u : Value) : setV l i v u = l.set i { l[i] with v := v, uv := u } := by
  unfold setV
  rw [List.getElem?_eq_getElem hi]
def zT {N : Nat} : Tm (N + 1) := Tm.mk zeroF []
noncomputable def newRow {N : Nat} (k : Tm (N + 1)) (u : Value) : RowE N := ⟨k, zT, hashT k, u, nilV⟩
noncomputable def midRows {N : Nat} (t : TabE N) (k : Tm (N + 1)) (u : Value) : List (RowE N) := if hasK t k then t.rows else insK t.rows (posK t k) (newRow k u)
def MoveS {N : Nat} (t : TabE N) (q : Nat) : Prop := q = t.b ∨ t.vr.ownBlock = some q
structure TabQ {N : Nat} (w : World) (B : Nat) (F : Nat → Prop) (t : TabE N) (W : World) (F1 : Nat → Prop) (vr : Value) (l : List (RowE N)) : Prop where
  at_ : TabAt W B F1 { t with vr := vr, rows := l }
  touch : TouchB (MoveS t) w W
  more : ∀ g, F g → F1 g
  ty : Typed W F1
  fl : ∀ g, F1 g → g < W.heap.size
  own : ∀ q, vr.ownBlock = some q → t.vr.ownBlock = some q ∨ w.heap.size ≤ q
def MidQ {N : Nat} (w : World) (B : Nat) (F : Nat → Prop) (t : TabE N) (k : Tm (N + 1)) (W : World) : Prop := ∃ F1 uk vr, TabQ w B F t W F1 vr (midRows t k uk)
def PutQ {N : Nat} (w : World) (B : Nat) (F : Nat → Prop) (t : TabE N) (k v : Tm (N + 1)) (W : World) : Prop := ∃ F1 uk uv vr, TabQ w B F t W F1 vr (setV (midRows t k uk) (posK t k) v uv)
section
variable {N : Nat} {w : World} {B : Nat} {F : Nat → Prop} {t : TabE N} {k v : Tm (N + 1)}
theorem typed_ty {W : World} {G : Nat → Prop} (h : Typed W G) {g : Nat} (hg : G g) : tyOf W g = some 24 := by
  obtain ⟨cur, M, h1, _⟩ := h g hg
  exact tyOf_of h1
theorem mid_has (h : TabAt w B F t) (hty : Typed w F) (hfl : ∀ g, F g → g < w.heap.size) (hh : hasK t k = true) {W : World} (hb : Below w.heap.size w W) : MidQ w B F t k W := by
  refine ⟨F, nilV, t.vr, ?_, (TouchB.refl _ _).ofBelow hb (Nat.le_refl _), fun _ hg => hg, hty.same (fun g hg => hb.block g (hfl g hg)), fun g hg => Nat.lt_of_lt_of_le (hfl g hg) hb.size, fun q hq => .inl hq⟩
  unfold midRows
  rw [if_pos hh]
  exact h.below hb hfl
theorem tab_set (t : TabE N) (vr : Value) (l : List (RowE N)) : (tabL t).toArray.setIfInBounds 19 vr = (tabL { t with vr := vr, rows := l }).toArray := by
  unfold tabL nineL
  simp
theorem set_block {W : World} {b o : Nat} {c : Array Value} {ty : TypeId} (h : W.heap[b]? = some (.cells c ty)) (v : Value) : (W.setCell ⟨b, o, none⟩ v).heap[b]? = some (.cells (c.setIfInBounds o v) ty) := heap_setCell_same W b o c ty v h
theorem ins_step (h : TabAt w B F t) (hty : Typed w F) (hfl : ∀ g, F g → g < w.heap.size) (hB : B ≤ w.heap.size) (hlen : t.rows.length ≤ 1000000) (hh : hasK t k = false) {W : World} (hb : Below w.heap.size w W) {zv : Nat} {F1 : Nat → Prop} {u : Value}
    (hN : NewI w W F1 N u k.items) (hz0 : w.heap.size ≤ zv) (hz : W.heap[zv]? = some (.cells (rowL (newRow k u)).toArray 108)) :
    Calls Tryz.prog 60 #[t.vr, .int .i64 (posK t k), .slice (some ⟨zv, 0, none⟩) 1 1] W fun e w' => ∃ v', e = .returned v' ∧ v'.oneCell' = true ∧ TouchB (fun q => t.vr.ownBlock = some q) W w' ∧ w'.cell? ⟨t.b, 19, none⟩ = some t.vr ∧ w'.frozen? ⟨t.b, 19, none⟩ = false ∧ MidQ w B F t k (w'.setCell ⟨t.b, 19, none⟩ v') := by
  have hW := h.below hb hfl
  have hE1 : EncOK rowL 19 [newRow k u] := fun r hr => ⟨rowL_len r, fun x hx => by
    obtain rfl : r = newRow k u := by simpa using hr
    unfold rowL at hx
    rcases List.mem_append.1 hx with hx | hx
    · exact nineL_one (in_one hN.items) x hx
    rcases List.mem_append.1 hx with hx | hx
    · exact nineL_one rfl x hx
    · simp at hx; subst hx; rfl⟩
  have hvl : ∀ q, t.vr.ownBlock = some q → q < w.heap.size := fun q hq => (h.rows.lt hq).2
  refine (insert60 hW.rows (Nat.le_trans hB hb.size) hlen hW.enc hE1 hz (fun e => by have := hvl _ e; omega) (posK_le t k)).mono ?_
  rintro e w' ⟨v', rfl, hown, hT, hv⟩
  have hone : v'.oneCell' = true := by obtain ⟨p, c, rfl, _, _⟩ := hown.shape; rfl
  have hne : t.vr.ownBlock ≠ some t.b := fun e => ty_ne (tyOf_of h.blk) (ownTy h.rows e) (by decide) rfl
  have hblk : w'.heap[t.b]? = some (.cells (tabL t).toArray 98) := (hT.block _ hW.lt (fun e => hne e)).trans hW.blk
  obtain ⟨_, _, _, hc19, hfz⟩ := tab_cells hblk
  refine ⟨v', rfl, hone, hT, hc19, hfz 19, ?_⟩
  have hN' : NewI w w' F1 N u k.items := hN.touch hT (fun q hq => hvl q hq)
  have hTw : TouchB (MoveS t) w (w'.setCell ⟨t.b, 19, none⟩ v') := TouchB.setCell (((TouchB.refl _ _).ofBelow hb (Nat.le_refl _)).trans hT (fun _ _ e => .inr e)) _ _ (fun _ => .inl rfl)
  have hsz : (w'.setCell ⟨t.b, 19, none⟩ v').heap.size = w'.heap.size := by simp
  have hset : ∀ g, g ≠ t.b → (w'.setCell ⟨t.b, 19, none⟩ v').heap[g]? = w'.heap[g]? := fun g hg => Below.heap_setCell _ _ _ _ hg
  have hF1ne : ∀ g, F1 g → g ≠ t.b := fun g hg e => by have := (hN.inr g hg).1; have := h.lt; omega
  have hFne : ∀ g, F g → g ≠ t.b ∧ t.vr.ownBlock ≠ some g := fun g hg => ⟨ty_ne (typed_ty hty hg) (tyOf_of h.blk) (by decide), fun e => ty_ne (typed_ty hty hg) (ownTy h.rows e) (by decide) rfl⟩
  have hFs : ∀ g, F g → (w'.setCell ⟨t.b, 19, none⟩ v').heap[g]? = w.heap[g]? := fun g hg => (hset g (hFne g hg).1).trans ((hT.block g (Nat.lt_of_lt_of_le (hfl g hg) hb.size) (hFne g hg).2).trans (hb.block g (hfl g hg)))
  have hF1s : ∀ g, F1 g → (w'.setCell ⟨t.b, 19, none⟩ v').heap[g]? = w'.heap[g]? := fun g hg => hset g (hF1ne g hg)
  have hv'b : v'.ownBlock ≠ some t.b := fun e => by
    rcases hv _ e with e | e
    · exact hne e
    · have := hW.lt; omega
  refine ⟨fun g => F g ∨ F1 g, u, v', ⟨⟨?_, ?_, h.iref.mono hFs (fun _ q => .inl q), h.iown.mono hFs (fun _ q => .inl q), ?_, h.low⟩, hTw, fun _ q => .inl q, (hty.same hFs).union (hN'.typed.same hF1s), ?_, fun q hq => ?_⟩⟩
  · exact (set_block hblk v').trans (by rw [tab_set t v' (midRows t k u)])
  · show RecOwn rowL 108 19 _ B v' (midRows t k u)
    unfold midRows insK
    rw [hh, if_neg (by decide)]
    exact hown.same (fun q hq => hset q (fun e => hv'b (by rw [← e]; exact hq)))
  · intro r hr
    have hr' : r ∈ insK t.rows (posK t k) (newRow k u) := by
      have hr : r ∈ midRows t k u := hr
      unfold midRows at hr
      rwa [hh, if_neg (by decide)] at hr
    unfold insK at hr'
    simp only [List.mem_append, List.mem_singleton] at hr'
    rcases hr' with (hr' | rfl) | hr'
    · have := h.irow r (List.mem_of_mem_take hr')
      exact ⟨this.1.mono hFs (fun _ q => .inl q), this.2.mono hFs (fun _ q => .inl q)⟩
    · exact ⟨hN'.items.mono hF1s (fun _ q => .inr q), ItemsIn.nil_any (by decide)⟩
    · have := h.irow r (List.mem_of_mem_drop hr')
      exact ⟨this.1.mono hFs (fun _ q => .inl q), this.2.mono hFs (fun _ q => .inl q)⟩
  · rintro g (hg | hg)
    · rw [hsz]; exact Nat.lt_of_lt_of_le (hfl g hg) (Nat.le_trans hb.size hT.size)
    · rw [hsz]; exact (hN'.inr g hg).2
  · rcases hv q hq with e | e
    · exact .inl e
    · exact .inr (Nat.le_trans hb.size e)
theorem pos_mid (t : TabE N) (k : Tm (N + 1)) (u : Value) : posK t k < (midRows t k u).length := by
  unfold midRows
  split
  · rename_i hh
    unfold hasK at hh
    by_cases hp : posK t k < t.rows.length
    · exact hp
    · rw [List.getElem?_eq_none (by omega)] at hh
      cases hh
  · unfold insK
    have := posK_le t k
    simp only [List.length_append, List.length_take, List.length_drop, List.length_singleton]
    omega
/-- what the last step of Put finds, and does -/
theorem val_step (hB : B ≤ w.heap.size) (hlowv : ∀ q, t.vr.ownBlock = some q → B ≤ q) (hlow : B ≤ t.b) {Wm : World} (hm : MidQ w B F t k Wm) {uv0 : Value} {B2 : Nat} (hB2 : B2 ≤ B) (hI : ItemsAt w B2 N uv0 v.items) (hn : nodesT v ≤ 100000000) :
    ∃ g n c, Wm.cell? ⟨t.b, 19, none⟩ = some (.slice (some ⟨g, 0, none⟩) n c) ∧ posK t k < n ∧ n ≤ maxLen ∧ t.b < Wm.heap.size ∧ g ≠ t.b ∧ tyOf Wm g = some 108 ∧
      ∀ W, Below Wm.heap.size Wm W → Calls Tryz.prog 51 #[aggV v.f uv0] W (TPost v.f v.items W) ∧ ∀ F2 u2, NewI Wm W F2 N u2 v.items → ∃ w', (storeVar 24 ⟨g, posK t k * 19 + 9, none⟩ (aggV v.f u2)).run Tryz.prog W = .ok () w' ∧ PutQ w B F t k v w' ∧ TouchB (fun q => q = g) W w' := by
  obtain ⟨F1, uk, vr, hq⟩ := hm
  have hpos := pos_mid t k uk
  have hbB : Below B w Wm := hq.touch.below (fun q hq => by rcases hq with rfl | e; exact hlow; exact hlowv q e) hB
  have hown := hq.at_.rows
  obtain ⟨g, cap, cur, hv, hbg, hg, hnc, hcm, hcs, htk⟩ := own_parts hown (by show 0 < (midRows t k uk).length; omega)
  have hv : vr = .slice (some ⟨g, 0, none⟩) (midRows t k uk).length cap := hv
  have hblk : Wm.heap[t.b]? = some (.cells (tabL { t with vr := vr, rows := midRows t k uk }).toArray 98) := hq.at_.blk
  obtain ⟨_, _, _, hc19, _⟩ := tab_cells hq.at_.blk
  have hgl : g < Wm.heap.size := (Array.getElem?_eq_some_iff.1 hg).1
  have hgt : tyOf Wm g = some 108 := tyOf_of hg
  have hgb : g ≠ t.b := ty_ne hgt (tyOf_of hblk) (by decide)
  refine ⟨g, (midRows t k uk).length, cap, hc19.trans (by rw [← hv]), hpos, Nat.le_trans hnc hcm, (Array.getElem?_eq_some_iff.1 hblk).1, hgb, hgt, fun W hb => ?_⟩
  have hsz : B2 ≤ W.heap.size := by have := hb.size; have := hbB.size; omega
  refine ⟨copyAll N W B2 uv0 v hsz ((hI.below hbB hB2).below hb (by have := hbB.size; omega)) hn, fun F2 u2 hN => ?_⟩
  have hW := hq.at_.below hb hq.fl
  obtain ⟨w', hst, hown', hT⟩ := store_row (i := posK t k) hW.rows hW.enc hpos hv v (in_one hN.items)
  have hvb : ∀ q, vr.ownBlock = some q → q = g := fun q e => by rw [hv] at e; exact (Option.some.inj e).symm
  have hT2 : TouchB (fun q => q = g) W w' := hT.mono (fun q _ e => hvb q e)
  refine ⟨w', hst, ?_, hT2⟩
  have hs : ∀ q, q < Wm.heap.size → q ≠ g → w'.heap[q]? = Wm.heap[q]? := fun q hq1 hq2 => (hT2.block q (Nat.lt_of_lt_of_le hq1 hb.size) hq2).trans (hb.block q hq1)
  have hF1s : ∀ q, F1 q → w'.heap[q]? = Wm.heap[q]? := fun q hq1 => hs q (hq.fl q hq1) (ty_ne (typed_ty hq.ty hq1) hgt (by decide))
  have hN' := hN.touch hT2 (fun q e => by subst e; exact hgl)
  have hF2s : ∀ q, F2 q → w'.heap[q]? = w'.heap[q]? := fun _ _ => rfl
  have hset : (midRows t k uk).set (posK t k) { (midRows t k uk)[posK t k] with v := v, uv := u2 } = setV (midRows t k uk) (posK t k) v u2 := (setV_of hpos v u2).symm
  refine ⟨fun q => F1 q ∨ F2 q, uk, u2, vr, ⟨⟨?_, ?_, hq.at_.iref.mono hF1s (fun _ e => .inl e), hq.at_.iown.mono hF1s (fun _ e => .inl e), ?_, hq.at_.low⟩, ?_, fun q e => .inl (hq.more q e), (hq.ty.same hF1s).union hN'.typed, ?_, hq.own⟩⟩
  · exact (hs t.b (Array.getElem?_eq_some_iff.1 hblk).1 (Ne.symm hgb)).trans hblk
  · rw [← hset]
    exact hown'
  · intro r hr
    have hr : r ∈ setV (midRows t k uk) (posK t k) v u2 := hr
    rw [← hset] at hr
    rcases List.mem_or_eq_of_mem_set hr with hr | rfl
    · have := hq.at_.irow r hr
      exact ⟨this.1.mono hF1s (fun _ e => .inl e), this.2.mono hF1s (fun _ e => .inl e)⟩
    · have := hq.at_.irow _ (List.getElem_mem hpos)
      exact ⟨this.1.mono hF1s (fun _ e => .inl e), hN'.items.mono hF2s (fun _ e => .inr e)⟩
  · refine (hq.touch.ofBelow hb hq.touch.size).trans hT2 (fun q hql e => ?_)
    subst e
    rcases hq.own q (by rw [hv]; rfl) with e | e
    · exact .inr e
    · omega
  · rintro q (e | e)
    · exact Nat.lt_of_lt_of_le (hq.fl q e) (Nat.le_trans hb.size hT2.size)
    · exact (hN'.inr q e).2
end
section
variable {N : Nat} {w w' : World} {B : Nat} {F : Nat → Prop} {s : TbSt N}
theorem TabQ.upd (h : TbAt w B F s) {i : Nat} (hi : i < s.tabs.length) {F1 : Nat → Prop} {vr : Value} {l : List (RowE N)} (hq : TabQ w B F s.tabs[i] w' F1 vr l) : TbAt w' B F1 { s with tabs := s.tabs.set i { s.tabs[i] with vr := vr, rows := l } } ∧ TT progT B w w' := by
  have ht := h.tabs _ (List.getElem_mem hi)
  refine ⟨h.upd (List.getElem?_eq_getElem hi) hq.touch rfl hq.at_ hq.own hq.more hq.ty hq.fl, hq.touch.mono (fun q _ hS => ?_)⟩
  rcases hS with rfl | e
  · exact ⟨ht.low, 98, tyOf_of ht.blk, .inr (.inr (.inl rfl))⟩
  · exact ⟨(ht.rows.lt e).1, 108, ownTy ht.rows e, .inr (.inr (.inr rfl))⟩
end
end Go.Proofs.YtfbggmbmgohiiaaGreat.tb
/- Put, where it succeeds. Conditions: the object and the terms lie in memory. -/
namespace Go.Proofs.YtfbggmbmgohiiaaGreat.tb
open Go.RowKit mem rec tm names
set_option linter.unusedVariables false
set_option linter.unusedSimpArgs false
set_option maxHeartbeats 4000000
set_option maxRecDepth 100000
theorem rng_same {w w' : World} {b o : Nat} {x : List Value} (h : w.rangeAt b o x) (hb : w'.heap[b]? = w.heap[b]?) : w'.rangeAt b o x := fun j u hu => (World.cell?_of_block (w := w) (w' := w') (a := ⟨b, o + j, none⟩) hb).trans (h j u hu)
theorem box3_ty (w : World) (o1 o2 : Obj) {x : Array Value} {ty : TypeId} {S : Nat → Prop} (hS : ∀ k, S k → k < w.heap.size) : ∀ W, TouchB S (((w.alloc o1).alloc o2).alloc (.cells x ty)) W → tyOf W (w.heap.size + 2) = some ty := fun W hW => by
  have h4 := alloc_new ((w.alloc o1).alloc o2) (.cells x ty)
  have hs : ((w.alloc o1).alloc o2).heap.size = w.heap.size + 2 := by rw [World.size_alloc, World.size_alloc]
  rw [hs] at h4
  exact tyOf_of ((hW.block _ (Array.getElem?_eq_some_iff.1 h4).1 (fun e => by have := hS _ e; omega)).trans h4)
section
variable {N : Nat} {w w' : World} {B : Nat} {F : Nat → Prop} {s : TbSt N}
theorem put24y (h : TbAt w B F s) (hB : B ≤ w.heap.size) (hlen : s.tabs.length ≤ 1000) {r k v : Tm (N + 1)} {ur uk uv : Value} {B2 : Nat} (hB2 : B2 ≤ B) (hI : ItemsAt w B2 N ur r.items) (hJ : ItemsAt w B2 N uk k.items) (hV : ItemsAt w B2 N uv v.items) (hnk : nodesT k ≤ 100000000) (hnv : nodesT v ≤ 100000000)
    (hvk : validT k = true) (hvv : validT v = true) {i : Nat} (hi : i < s.tabs.length) (hr : refAt s.tabs r = some i) (hok : FindOK s.tabs[i] k) :
    Calls Tryz.prog 24 #[.pointer (some ⟨s.z, 0, none⟩), aggV r.f ur, aggV k.f uk, aggV v.f uv] w fun e w' => e = .returned (.int .i64 0) ∧ PutQ w B F s.tabs[i] k v w' := by
  have hBw : B2 ≤ w.heap.size := Nat.le_trans hB2 hB
  have ht := h.tabs _ (List.getElem_mem hi)
  have hKR : KeyR s.tabs r k (some ⟨(s.tabs[i]).b, 0, none⟩) 0 := .inr ⟨hvk, .inr ⟨i, hi, hr, rfl, rfl⟩⟩
  have HV := Lib.hid (fun (W : World) (hW : Below w.heap.size w W) => ValidTm (ofAll N) W B2 uv v (Nat.le_trans hBw hW.size) (hV.below hW hBw) (by omega))
  have HKy := Lib.hid (fun (W : World) (hW : Below w.heap.size w W) => keyed55 (h.below hW) hlen (Nat.le_trans hBw hW.size) (hI.below hW hBw) (hJ.below hW hBw) (by omega) hKR)
  have HFi := Lib.hid (fun (W : World) (hW : Below w.heap.size w W) => find56 (ht.below hW h.fl) (fun g hg => Nat.lt_of_lt_of_le (h.fl g hg) hW.size) (Nat.le_trans hBw hW.size) (hJ.below hW hBw) (by omega) hok)
  have HC1 := Lib.hid (fun (W : World) (hW : Below w.heap.size w W) => copyAll N W B2 uk k (Nat.le_trans hBw hW.size) (hJ.below hW hBw) hnk)
  have HH := Lib.hid (fun (W : World) (hW : Below w.heap.size w W) => Hash12 W B2 uk k (Nat.le_trans hBw hW.size) (hJ.below hW hBw) (by omega))
  have HIns := Lib.hid (fun (hh : hasK s.tabs[i] k = false) (W : World) (hW : Below w.heap.size w W) (zv : Nat) (F1 : Nat → Prop) (u : Value) hN hz0 hz => ins_step ht h.ty h.fl hB hok.len hh hW (zv := zv) (F1 := F1) (u := u) hN hz0 hz)
  have HHas := Lib.hid (fun (hh : hasK s.tabs[i] k = true) (W : World) (hW : Below w.heap.size w W) => mid_has ht h.ty h.fl hh hW)
  have HVal := Lib.hid (fun (Wm : World) (hm : MidQ w B F s.tabs[i] k Wm) => val_step hB (fun q hq => (ht.rows.lt hq).1) ht.low hm hB2 hV hnv)
  have HO := Lib.hid (fun (W : World) (hW : Below w.heap.size w W) => two_cells (h.below hW).obj)
  have HT19 := Lib.hid (fun (W : World) (hW : Below w.heap.size w W) => (tab_cells (ht.below hW h.fl).blk).2.2.2.1)
  have hvl : ∀ q, (s.tabs[i]).vr.ownBlock = some q → q < w.heap.size := fun q hq => (ht.rows.lt hq).2
  have hbl := ht.lt
  have hpl := posK_le s.tabs[i] k
  have hrl := hok.len
  obtain ⟨pl, cl, hvr, hcc, hcm⟩ := ht.rows.shape
  obtain ⟨pr, cr, er, _, _⟩ := hI.shape
  obtain ⟨pk, ck, ek, _, _⟩ := hJ.shape
  obtain ⟨pv, cv, ev, _, _⟩ := hV.shape
  obtain ⟨pw, cw, ew, _, _⟩ := h.l.shape
  rw [ew] at HO
  unfold maxLen at hcm
  generalize hht : hasK s.tabs[i] k = hs at *
  generalize hpp : posK s.tabs[i] k = pos at *
  generalize s.tabs[i] = t at *
  clear h hB hlen hI hJ hV hnk hnv hvk hi hr hok ht hKR hBw hB2
  generalize s.z = z at *
  rw [hvv] at HV
  rw [hvr] at HT19 HIns
  rw [er] at HKy ⊢
  rw [ek] at HKy HFi HC1 HH ⊢
  rw [ev] at HV HVal ⊢
  have hzf : (zT : Tm (N + 1)).f = zeroF := rfl
  unfold newRow rowL nineL at HIns
  dsimp only at HIns
  simp only [hzf, List.cons_append, List.nil_append] at HIns
  generalize hMd : MidQ w B F t k = Md at *
  generalize hPt : PutQ w B F t k v = Pt at *
  generalize hTb : t.b = tb at *
  generalize hTv : t.vr = tv at *
  generalize t.rows.length = nrw at *
  generalize hashT k = hk at *
  have HNi : Hid (∀ W W' F1 u, NewI W W' F1 N u k.items → u.oneCell' = true) := Lib.hid (fun W W' F1 u hN => in_one hN.items)
  generalize r.items.length = nr at *
  generalize k.items.length = nk at *
  generalize v.items.length = nv at *
  obtain ⟨kil, hki⟩ : ∃ x, k.items = x := ⟨_, rfl⟩
  obtain ⟨vil, hvi⟩ : ∃ x, v.items = x := ⟨_, rfl⟩
  rw [hki] at HNi HC1 HIns
  rw [hvi] at HVal
  generalize r.f = fr at *
  generalize k.f = fk at *
  generalize v.f = fv at *
  clear hzf er ek ev hvv ew hht hpp hMd hPt hTb hki hvi
  obtain ⟨rk, ri, rg, rn, rf, ra, rb, rs⟩ := fr
  obtain ⟨kk, ki, kg, kn, kf, ka, kb, ks⟩ := fk
  obtain ⟨vk, vi, vg, vn, vf, va, vb, vs⟩ := fv
  unfold aggV at *
  unfold BPost at HV
  unfold zeroF nilV at HIns
  dsimp only at *
  have hsz9 : (Tryz.prog.info? 24).map (·.size) = some 9 := by kernel_rfl
  obtain ⟨hb0, hX0⟩ := three_boxes w (.cells #[.int .i64 rk, .int .i64 ri, .int .i64 rg, .string rn, .string rf, .int .i64 ra, .slice pr nr cr, .string rb, .int .i64 rs] 24) (.cells #[.int .i64 kk, .int .i64 ki, .int .i64 kg, .string kn, .string kf, .int .i64 ka, .slice pk nk ck, .string kb, .int .i64 ks] 24) (.cells #[.int .i64 vk, .int .i64 vi, .int .i64 vg, .string vn, .string vf, .int .i64 va, .slice pv nv cv, .string vb, .int .i64 vs] 24) (x1 := [.int .i64 rk, .int .i64 ri, .int .i64 rg, .string rn, .string rf, .int .i64 ra, .slice pr nr cr, .string rb, .int .i64 rs]) (x2 := [.int .i64 kk, .int .i64 ki, .int .i64 kg, .string kn, .string kf, .int .i64 ka, .slice pk nk ck, .string kb, .int .i64 ks]) (x3 := [.int .i64 vk, .int .i64 vi, .int .i64 vg, .string vn, .string vf, .int .i64 va, .slice pv nv cv, .string vb, .int .i64 vs]) rfl rfl rfl (S := fun q => q < w.heap.size) (fun _ q => q)
  have hY0 := box3_ty w (.cells #[.int .i64 rk, .int .i64 ri, .int .i64 rg, .string rn, .string rf, .int .i64 ra, .slice pr nr cr, .string rb, .int .i64 rs] 24) (.cells #[.int .i64 kk, .int .i64 ki, .int .i64 kg, .string kn, .string kf, .int .i64 ka, .slice pk nk ck, .string kb, .int .i64 ks] 24) (x := #[.int .i64 vk, .int .i64 vi, .int .i64 vg, .string vn, .string vf, .int .i64 va, .slice pv nv cv, .string vb, .int .i64 vs]) (ty := 24) (S := fun q => q < w.heap.size) (fun _ q => q)
  go_enter Tryz.func24, Tryz.ntmps24
  go_upto_region 1 with (fail)
  generalize (((w.alloc (.cells #[.int .i64 rk, .int .i64 ri, .int .i64 rg, .string rn, .string rf, .int .i64 ra, .slice pr nr cr, .string rb, .int .i64 rs] 24)).alloc (.cells #[.int .i64 kk, .int .i64 ki, .int .i64 kg, .string kn, .string kf, .int .i64 ka, .slice pk nk ck, .string kb, .int .i64 ks] 24)).alloc (.cells #[.int .i64 vk, .int .i64 vi, .int .i64 vg, .string vn, .string vf, .int .i64 va, .slice pv nv cv, .string vb, .int .i64 vs] 24)) = W1 at *
  obtain ⟨l5, l6, l7⟩ := hX0 _ (TouchB.refl _ _)
  have HL5 := Lib.hid l5
  have HL6 := Lib.hid l6
  have HL7 := Lib.hid l7
  have HB0 := Lib.hid hb0
  have HX := Lib.hid hX0
  have HY := Lib.hid hY0
  obtain ⟨o0, o1, of⟩ := HO.out _ hb0
  have y0 := l7 0 _ rfl
  have y1 := l7 1 _ rfl
  have y2 := l7 2 _ rfl
  have y3 := l7 3 _ rfl
  have y4 := l7 4 _ rfl
  have y5 := l7 5 _ rfl
  have y6 := l7 6 _ rfl
  have y7 := l7 7 _ rfl
  have y8 := l7 8 _ rfl
  simp only [Nat.reduceAdd] at y0 y1 y2 y3 y4 y5 y6 y7 y8
  clear hb0 hX0 hY0 l5 l6 l7
  go_wp2_with fail
  refine (HV.out _ HB0.out).mono ?_
  rintro e w2 ⟨rfl, hb2⟩
  have HB2 := Lib.hid (HB0.out.trans (hb2.mono HB0.out.size))
  have HT2 := Lib.hid ((TouchB.refl (fun q => q < w.heap.size) W1).ofBelow hb2 (Nat.le_refl _))
  obtain ⟨l5, l6, l7⟩ := HX.out _ HT2.out
  clear HL5 HL6 HL7 y0 y1 y2 y3 y4 y5 y6 y7 y8 o0 o1 of hb2
  have HL5 := Lib.hid l5
  have HL6 := Lib.hid l6
  clear l5 l6 l7
  go_wp2_with (first
    | (refine wpList_load_mid rfl 24 (.tmp 5) rfl w.heap.size 0 rfl [.int .i64 rk, .int .i64 ri, .int .i64 rg, .string rn, .string rf, .int .i64 ra, .slice pr nr cr, .string rb, .int .i64 rs] _ HL5.out Tryz.underlying24 rfl hsz9 ?_)
    | (refine wpList_load_mid rfl 24 (.tmp 6) rfl (w.heap.size + 1) 0 rfl [.int .i64 kk, .int .i64 ki, .int .i64 kg, .string kn, .string kf, .int .i64 ka, .slice pk nk ck, .string kb, .int .i64 ks] _ HL6.out Tryz.underlying24 rfl hsz9 ?_))
  refine (HKy.out _ HB2.out).mono ?_
  rintro e w3 ⟨rfl, hb3⟩
  have HB3 := Lib.hid (HB2.out.trans (hb3.mono HB2.out.size))
  have HT3 := Lib.hid (HT2.out.ofBelow hb3 HT2.out.size)
  obtain ⟨l5, l6, l7⟩ := HX.out _ HT3.out
  clear HL5 HL6 hb3 HB2 HT2 HKy HV HO
  have HL6 := Lib.hid l6
  clear l5 l6 l7
  go_wp2_with (first
    | (refine wpList_load_mid rfl 24 (.tmp 6) rfl (w.heap.size + 1) 0 rfl [.int .i64 kk, .int .i64 ki, .int .i64 kg, .string kn, .string kf, .int .i64 ka, .slice pk nk ck, .string kb, .int .i64 ks] _ HL6.out Tryz.underlying24 rfl hsz9 ?_))
  refine (HFi.out _ HB3.out).mono ?_
  rintro e w4 ⟨rfl, hb4⟩
  have HB4 := Lib.hid (HB3.out.trans (hb4.mono HB3.out.size))
  have HT4 := Lib.hid (HT3.out.ofBelow hb4 HT3.out.size)
  clear HL6 hb4 HB3 HT3 HFi
  go_upto_if 43 with (fail)
  go_cut [9, 11] from 44 to 58 (fun s9 s11 wc => s9 = .pointer (some ⟨tb, 0, none⟩) ∧ s11 = .int .i64 (pos : Int) ∧ wc.rangeAt (w.heap.size + 2) 0 [.int .i64 vk, .int .i64 vi, .int .i64 vg, .string vn, .string vf, .int .i64 va, .slice pv nv cv, .string vb, .int .i64 vs] ∧ tyOf wc (w.heap.size + 2) = some 24 ∧ Md wc)
  case first =>
    cases hs
    · have HIn := Lib.hid (HIns.out (by trivial))
      clear HIns HHas HVal
      go_upto_region 8 with (fail)
      have hbd := HB4.out.trans (belowD (Below.refl w.heap.size w4))
      have HTB := HT4.out.drew
      obtain ⟨_, l6, _⟩ := HX.out _ HTB
      refine wp_region_held_drew (S := (fun w' => w'.rangeAt (w.heap.size + 1) 0 [.int .i64 kk, .int .i64 ki, .int .i64 kg, .string kn, .string kf, .int .i64 ka, .slice pk nk ck, .string kb, .int .i64 ks])) (by kernel_rfl) ?_ (fun hHeld => ?_)
      · exact l6
      refine wpAnyH_take (i := 0) (oi := { dst := some 44, op := Op.move (Operand.tmp 9), type := 89, pos := "tables.go:115", after := #[], guard := none }) (v := ?vvA0) rfl (by kernel_rfl) (by kernel_rfl) (by kernel_rfl) (fun _ _ _ h => h) (Or.inl ⟨by rfl, ?hyA0⟩) (by assumption) ?rsA0
      case hyA0 =>
        intro w hSw
        (try dsimp only at hSw)
        go_simp
        (try with_reducible rfl)
      (try simp only [Act.put, List.setIfInBounds_toArray, List.set_cons_zero, List.set_cons_succ])
      refine wpAnyH_take (i := 1) (oi := { dst := some 45, op := Op.move (Operand.tmp 9), type := 89, pos := "tables.go:115", after := #[], guard := none }) (v := ?vvA1) rfl (by kernel_rfl) (by kernel_rfl) (by kernel_rfl) (fun _ _ _ h => h) (Or.inl ⟨by rfl, ?hyA1⟩) (by assumption) ?rsA1
      case hyA1 =>
        intro w hSw
        (try dsimp only at hSw)
        go_simp
        (try with_reducible rfl)
      (try simp only [Act.put, List.setIfInBounds_toArray, List.set_cons_zero, List.set_cons_succ])
      refine wpAnyH_take (i := 2) (oi := { dst := some 46, op := Op.nilCheck (Operand.tmp 45), type := 0, pos := "tables.go:115", after := #[{ on := 1, ground := Ground.data }], guard := none }) (v := ?vvA2) rfl (by kernel_rfl) (by kernel_rfl) (by kernel_rfl) (fun _ _ _ h => h) (Or.inl ⟨by rfl, ?hyA2⟩) (by assumption) ?rsA2
      case hyA2 =>
        intro w hSw
        (try dsimp only at hSw)
        go_simp
        (try with_reducible rfl)
      (try simp only [Act.put, List.setIfInBounds_toArray, List.set_cons_zero, List.set_cons_succ])
      refine wpAnyH_take (i := 3) (oi := { dst := some 47, op := Op.fieldAddr 98 (Operand.tmp 46) 3, type := 0, pos := "tables.go:115", after := #[{ on := 2, ground := Ground.data }], guard := none }) (v := ?vvA3) rfl (by kernel_rfl) (by kernel_rfl) (by kernel_rfl) (fun _ _ _ h => h) (Or.inl ⟨by rfl, ?hyA3⟩) (by assumption) ?rsA3
      case hyA3 =>
        intro w hSw
        (try dsimp only at hSw)
        go_simp
        (try with_reducible rfl)
      (try simp only [Act.put, List.setIfInBounds_toArray, List.set_cons_zero, List.set_cons_succ])
      refine wpAnyH_take (i := 5) (oi := { dst := some 49, op := Op.move (Operand.tmp 11), type := 3, pos := "tables.go:115", after := #[], guard := none }) (v := ?vvA5) rfl (by kernel_rfl) (by kernel_rfl) (by kernel_rfl) (fun _ _ _ h => h) (Or.inl ⟨by rfl, ?hyA5⟩) (by assumption) ?rsA5
      case hyA5 =>
        intro w hSw
        (try dsimp only at hSw)
        go_simp
        (try with_reducible rfl)
      (try simp only [Act.put, List.setIfInBounds_toArray, List.set_cons_zero, List.set_cons_succ])
      refine wpAnyH_take (i := 6) (oi := { dst := some 50, op := Op.load 24 (Operand.tmp 6), type := 24, pos := "tables.go:115", after := #[], guard := none }) rfl (by kernel_rfl) (by kernel_rfl) (by kernel_rfl) (fun _ _ _ h => h) (yieldsIf_load_mid (by rfl) 24 (.tmp 6) rfl (w.heap.size + 1) 0 rfl [.int .i64 kk, .int .i64 ki, .int .i64 kg, .string kn, .string kf, .int .i64 ka, .slice pk nk ck, .string kb, .int .i64 ks] _ (fun w hs => hs) Tryz.underlying24 rfl hsz9) (by assumption) ?_
      (try simp only [Act.put, List.setIfInBounds_toArray, List.set_cons_zero, List.set_cons_succ])
      refine wpAnyH_take (i := 8) (oi := { dst := some 52, op := Op.load 24 (Operand.tmp 6), type := 24, pos := "tables.go:115", after := #[], guard := none }) rfl (by kernel_rfl) (by kernel_rfl) (by kernel_rfl) (fun _ _ _ h => h) (yieldsIf_load_mid (by rfl) 24 (.tmp 6) rfl (w.heap.size + 1) 0 rfl [.int .i64 kk, .int .i64 ki, .int .i64 kg, .string kn, .string kf, .int .i64 ka, .slice pk nk ck, .string kb, .int .i64 ks] _ (fun w hs => hs) Tryz.underlying24 rfl hsz9) (by assumption) ?_
      (try simp only [Act.put, List.setIfInBounds_toArray, List.set_cons_zero, List.set_cons_succ])
      refine wpAnyH_ready (rs := [4, 7]) (by kernel_rfl) (by simp) ?_
      refine (AllReadyH.cons (o := { dst := some 48, op := Op.load 96 (Operand.tmp 47), type := 96, pos := "tables.go:115", after := #[{ on := 3, ground := Ground.data }], guard := none }) rfl (fun K hK => ?_) (AllReadyH.cons (o := { dst := some 51, op := Op.call { callee := Callee.value (Operand.func 51), args := #[Operand.tmp 50], argTypes := #[24] }, type := 24, pos := "tables.go:115", after := #[{ on := 6, ground := Ground.data }], guard := none }) rfl (fun K hK => ?_) AllReadyH.nil))
      · skip
        have hc := HT19.out _ hbd
        go_simp
        refine hK.out _ _ ?_ (fun hHeld => ?_)
        · exact l6
        clear hK K
        (try simp only [Act.put, List.setIfInBounds_toArray, List.set_cons_zero, List.set_cons_succ])
        refine wpAnyH_ready (rs := [7]) (by kernel_rfl) (by simp) ?_
        refine AllReadyH.cons (o := { dst := some 51, op := Op.call { callee := Callee.value (Operand.func 51), args := #[Operand.tmp 50], argTypes := #[24] }, type := 24, pos := "tables.go:115", after := #[{ on := 6, ground := Ground.data }], guard := none }) rfl (fun K hK => ?_) AllReadyH.nil
        go_simp
        refine (HC1.out _ hbd).mono ?_
        rintro e w57 ⟨F1, g1, rfl, hN, _⟩
        dsimp only [aggV]
        have hN1 := NewI.of (w0 := w) hN hbd.size
        replace HTB := HTB.ofBelow hN.below HTB.size
        replace hbd := hbd.trans (hN.below.mono hbd.size)
        clear l6 hN
        obtain ⟨_, l6, _⟩ := HX.out _ HTB
        go_wp2_with fail
        refine hK.out _ _ ?_ (fun hHeld => ?_)
        · exact l6
        clear hK K
        (try simp only [Act.put, List.setIfInBounds_toArray, List.set_cons_zero, List.set_cons_succ])
        refine wpAnyH_ready (rs := [9]) (by kernel_rfl) (by simp) ?_
        refine AllReadyH.cons (o := { dst := some 53, op := Op.call { callee := Callee.value (Operand.func 12), args := #[Operand.tmp 52], argTypes := #[24] }, type := 28, pos := "tables.go:115", after := #[{ on := 8, ground := Ground.data }, { on := 7, ground := Ground.chain }], guard := none }) rfl (fun K hK => ?_) AllReadyH.nil
        go_simp
        refine (HH.out _ hbd).mono ?_
        rintro e w59 ⟨rfl, hb9⟩
        replace hN1 := hN1.below hb9
        replace HTB := HTB.ofBelow hb9 HTB.size
        replace hbd := hbd.trans (hb9.mono hbd.size)
        clear l6 hb9
        obtain ⟨_, l6, _⟩ := HX.out _ HTB
        go_wp2_with fail
        refine hK.out _ _ ?_ (fun hHeld => ?_)
        · exact l6
        clear hK K
        (try simp only [Act.put, List.setIfInBounds_toArray, List.set_cons_zero, List.set_cons_succ])
        refine wpAnyH_take (i := 10) (oi := { dst := some 54, op := Op.build 108 #[(0, Operand.tmp 51), (2, Operand.tmp 53)], type := 108, pos := "tables.go:115", after := #[{ on := 7, ground := Ground.data }, { on := 9, ground := Ground.data }], guard := none }) (v := ?vvAx410) rfl (by kernel_rfl) (by kernel_rfl) (by kernel_rfl) (fun _ _ _ h => h) (Or.inl ⟨by rfl, ?hyAx410⟩) (by assumption) ?rsAx410
        case hyAx410 =>
          intro w hSw
          (try dsimp only at hSw)
          go_simp
          (try with_reducible rfl)
        (try simp only [Act.put, List.setIfInBounds_toArray, List.set_cons_zero, List.set_cons_succ])
        refine wpAnyH_ready (rs := [11]) (by kernel_rfl) (by simp) ?_
        refine AllReadyH.cons (o := { dst := some 55, op := Op.buildSlice 96 1 #[(0, Operand.tmp 54)], type := 96, pos := "tables.go:115", after := #[{ on := 10, ground := Ground.data }], guard := none }) rfl (fun K hK => ?_) AllReadyH.nil
        go_simp
        have hzv := alloc_new w59 (.cells #[.int .i64 kk, .int .i64 ki, .int .i64 kg, .string kn, .string kf, .int .i64 ka, .slice (some ⟨g1, 0, none⟩) kil.length kil.length, .string kb, .int .i64 ks, .int .i64 0, .int .i64 0, .int .i64 0, .string ⟨#[]⟩, .string ⟨#[]⟩, .int .i64 0, .slice none 0 0, .string ⟨#[]⟩, .int .i64 0, .int .u32 hk] 108)
        have hba := belowA (Below.refl w59.heap.size w59) (.cells #[.int .i64 kk, .int .i64 ki, .int .i64 kg, .string kn, .string kf, .int .i64 ka, .slice (some ⟨g1, 0, none⟩) kil.length kil.length, .string kb, .int .i64 ks, .int .i64 0, .int .i64 0, .int .i64 0, .string ⟨#[]⟩, .string ⟨#[]⟩, .int .i64 0, .slice none 0 0, .string ⟨#[]⟩, .int .i64 0, .int .u32 hk] 108) (Nat.le_refl _)
        replace hN1 := hN1.below hba
        replace HTB := HTB.ofBelow hba HTB.size
        have hz0 := hbd.size
        replace hbd := hbd.trans (hba.mono hbd.size)
        clear l6 hba
        obtain ⟨_, l6, _⟩ := HX.out _ HTB
        refine hK.out _ _ ?_ (fun hHeld => ?_)
        · exact l6
        clear hK K
        (try simp only [Act.put, List.setIfInBounds_toArray, List.set_cons_zero, List.set_cons_succ])
        refine wpAnyH_ready (rs := [12]) (by kernel_rfl) (by simp) ?_
        refine AllReadyH.cons (o := { dst := some 56, op := Op.call { callee := Callee.value (Operand.func 60), args := #[Operand.tmp 48, Operand.tmp 49, Operand.tmp 55], argTypes := #[96, 3, 96] }, type := 96, pos := "tables.go:115", after := #[{ on := 4, ground := Ground.data }, { on := 5, ground := Ground.data }, { on := 11, ground := Ground.data }, { on := 9, ground := Ground.chain }], guard := none }) rfl (fun K hK => ?_) AllReadyH.nil
        go_simp
        refine (HIn.out _ hbd _ _ _ hN1 hz0 hzv).mono ?_
        rintro e w512 ⟨v', rfl, hone, hT12, hc19, hf19, hMd⟩
        replace HTB := HTB.trans hT12 (fun q _ e => hvl q (by rw [hvr]; exact e))
        clear l6 hN1 hzv hz0 hbd
        obtain ⟨_, l6, _⟩ := HX.out _ HTB
        go_wp2_with fail
        refine hK.out _ _ ?_ (fun hHeld => ?_)
        · exact l6
        clear hK K
        (try simp only [Act.put, List.setIfInBounds_toArray, List.set_cons_zero, List.set_cons_succ])
        refine wpAnyH_take (i := 13) (oi := { dst := some 57, op := Op.nilCheck (Operand.tmp 44), type := 0, pos := "tables.go:115", after := #[{ on := 0, ground := Ground.data }, { on := 0, ground := Ground.phase }, { on := 1, ground := Ground.phase }, { on := 2, ground := Ground.phase }, { on := 3, ground := Ground.phase }, { on := 4, ground := Ground.phase }, { on := 5, ground := Ground.phase }, { on := 6, ground := Ground.phase }, { on := 7, ground := Ground.phase }, { on := 8, ground := Ground.phase }, { on := 9, ground := Ground.phase }, { on := 10, ground := Ground.phase }, { on := 11, ground := Ground.phase }, { on := 12, ground := Ground.phase }], guard := none }) (v := ?vvAx413) rfl (by kernel_rfl) (by kernel_rfl) (by kernel_rfl) (fun _ _ _ h => h) (Or.inl ⟨by rfl, ?hyAx413⟩) (by assumption) ?rsAx413
        case hyAx413 =>
          intro w hSw
          (try dsimp only at hSw)
          go_simp
          (try with_reducible rfl)
        (try simp only [Act.put, List.setIfInBounds_toArray, List.set_cons_zero, List.set_cons_succ])
        refine wpAnyH_take (i := 14) (oi := { dst := some 58, op := Op.fieldAddr 98 (Operand.tmp 57) 3, type := 0, pos := "tables.go:115", after := #[{ on := 13, ground := Ground.data }, { on := 0, ground := Ground.phase }, { on := 1, ground := Ground.phase }, { on := 2, ground := Ground.phase }, { on := 3, ground := Ground.phase }, { on := 4, ground := Ground.phase }, { on := 5, ground := Ground.phase }, { on := 6, ground := Ground.phase }, { on := 7, ground := Ground.phase }, { on := 8, ground := Ground.phase }, { on := 9, ground := Ground.phase }, { on := 10, ground := Ground.phase }, { on := 11, ground := Ground.phase }, { on := 12, ground := Ground.phase }], guard := none }) (v := ?vvAx414) rfl (by kernel_rfl) (by kernel_rfl) (by kernel_rfl) (fun _ _ _ h => h) (Or.inl ⟨by rfl, ?hyAx414⟩) (by assumption) ?rsAx414
        case hyAx414 =>
          intro w hSw
          (try dsimp only at hSw)
          go_simp
          (try with_reducible rfl)
        (try simp only [Act.put, List.setIfInBounds_toArray, List.set_cons_zero, List.set_cons_succ])
        refine wpAnyH_ready (rs := [15]) (by kernel_rfl) (by simp) ?_
        refine AllReadyH.cons (o := { dst := none, op := Op.store 96 (Operand.tmp 58) (Operand.tmp 56), type := 0, pos := "tables.go:115", after := #[{ on := 14, ground := Ground.data }, { on := 12, ground := Ground.data }, { on := 12, ground := Ground.chain }, { on := 0, ground := Ground.phase }, { on := 1, ground := Ground.phase }, { on := 2, ground := Ground.phase }, { on := 3, ground := Ground.phase }, { on := 4, ground := Ground.phase }, { on := 5, ground := Ground.phase }, { on := 6, ground := Ground.phase }, { on := 7, ground := Ground.phase }, { on := 8, ground := Ground.phase }, { on := 9, ground := Ground.phase }, { on := 10, ground := Ground.phase }, { on := 11, ground := Ground.phase }, { on := 12, ground := Ground.phase }], guard := none }) rfl (fun K hK => ?_) AllReadyH.nil
        refine step_store_run (by rfl) 96 (.tmp 58) (.tmp 56) rfl (p := ⟨tb, 19, none⟩) (v := v') rfl rfl (st96 _ _ _ _ hone hc19 hf19) ?_
        replace HTB := HTB.setCell ⟨tb, 19, none⟩ v' (fun _ => hbl)
        clear l6
        obtain ⟨_, l6, _⟩ := HX.out _ HTB
        refine hK.out _ _ ?_ (fun hHeld => ?_)
        · exact l6
        clear hK K
        (try simp only [Act.put, List.setIfInBounds_toArray, List.set_cons_zero, List.set_cons_succ])
        refine wpAnyH_done (by kernel_rfl) ?_ _
        go_wp2_with fail
        go_meet
        exact ⟨rfl, rfl, (HX.out _ HTB).2.2, HY.out _ HTB, hMd⟩
      · skip
        go_simp
        refine (HC1.out _ hbd).mono ?_
        rintro e w57 ⟨F1, g1, rfl, hN, _⟩
        dsimp only [aggV]
        have hN1 := NewI.of (w0 := w) hN hbd.size
        replace HTB := HTB.ofBelow hN.below HTB.size
        replace hbd := hbd.trans (hN.below.mono hbd.size)
        clear l6 hN
        obtain ⟨_, l6, _⟩ := HX.out _ HTB
        go_wp2_with fail
        refine hK.out _ _ ?_ (fun hHeld => ?_)
        · exact l6
        clear hK K
        (try simp only [Act.put, List.setIfInBounds_toArray, List.set_cons_zero, List.set_cons_succ])
        refine wpAnyH_ready (rs := [4, 9]) (by kernel_rfl) (by simp) ?_
        refine (AllReadyH.cons (o := { dst := some 48, op := Op.load 96 (Operand.tmp 47), type := 96, pos := "tables.go:115", after := #[{ on := 3, ground := Ground.data }], guard := none }) rfl (fun K hK => ?_) (AllReadyH.cons (o := { dst := some 53, op := Op.call { callee := Callee.value (Operand.func 12), args := #[Operand.tmp 52], argTypes := #[24] }, type := 28, pos := "tables.go:115", after := #[{ on := 8, ground := Ground.data }, { on := 7, ground := Ground.chain }], guard := none }) rfl (fun K hK => ?_) AllReadyH.nil))
        · skip
          have hc := HT19.out _ hbd
          go_simp
          refine hK.out _ _ ?_ (fun hHeld => ?_)
          · exact l6
          clear hK K
          (try simp only [Act.put, List.setIfInBounds_toArray, List.set_cons_zero, List.set_cons_succ])
          refine wpAnyH_ready (rs := [9]) (by kernel_rfl) (by simp) ?_
          refine AllReadyH.cons (o := { dst := some 53, op := Op.call { callee := Callee.value (Operand.func 12), args := #[Operand.tmp 52], argTypes := #[24] }, type := 28, pos := "tables.go:115", after := #[{ on := 8, ground := Ground.data }, { on := 7, ground := Ground.chain }], guard := none }) rfl (fun K hK => ?_) AllReadyH.nil
          go_simp
          refine (HH.out _ hbd).mono ?_
          rintro e w59 ⟨rfl, hb9⟩
          replace hN1 := hN1.below hb9
          replace HTB := HTB.ofBelow hb9 HTB.size
          replace hbd := hbd.trans (hb9.mono hbd.size)
          clear l6 hb9
          obtain ⟨_, l6, _⟩ := HX.out _ HTB
          go_wp2_with fail
          refine hK.out _ _ ?_ (fun hHeld => ?_)
          · exact l6
          clear hK K
          (try simp only [Act.put, List.setIfInBounds_toArray, List.set_cons_zero, List.set_cons_succ])
          refine wpAnyH_take (i := 10) (oi := { dst := some 54, op := Op.build 108 #[(0, Operand.tmp 51), (2, Operand.tmp 53)], type := 108, pos := "tables.go:115", after := #[{ on := 7, ground := Ground.data }, { on := 9, ground := Ground.data }], guard := none }) (v := ?vvAx7x410) rfl (by kernel_rfl) (by kernel_rfl) (by kernel_rfl) (fun _ _ _ h => h) (Or.inl ⟨by rfl, ?hyAx7x410⟩) (by assumption) ?rsAx7x410
          case hyAx7x410 =>
            intro w hSw
            (try dsimp only at hSw)
            go_simp
            (try with_reducible rfl)
          (try simp only [Act.put, List.setIfInBounds_toArray, List.set_cons_zero, List.set_cons_succ])
          refine wpAnyH_ready (rs := [11]) (by kernel_rfl) (by simp) ?_
          refine AllReadyH.cons (o := { dst := some 55, op := Op.buildSlice 96 1 #[(0, Operand.tmp 54)], type := 96, pos := "tables.go:115", after := #[{ on := 10, ground := Ground.data }], guard := none }) rfl (fun K hK => ?_) AllReadyH.nil
          go_simp
          have hzv := alloc_new w59 (.cells #[.int .i64 kk, .int .i64 ki, .int .i64 kg, .string kn, .string kf, .int .i64 ka, .slice (some ⟨g1, 0, none⟩) kil.length kil.length, .string kb, .int .i64 ks, .int .i64 0, .int .i64 0, .int .i64 0, .string ⟨#[]⟩, .string ⟨#[]⟩, .int .i64 0, .slice none 0 0, .string ⟨#[]⟩, .int .i64 0, .int .u32 hk] 108)
          have hba := belowA (Below.refl w59.heap.size w59) (.cells #[.int .i64 kk, .int .i64 ki, .int .i64 kg, .string kn, .string kf, .int .i64 ka, .slice (some ⟨g1, 0, none⟩) kil.length kil.length, .string kb, .int .i64 ks, .int .i64 0, .int .i64 0, .int .i64 0, .string ⟨#[]⟩, .string ⟨#[]⟩, .int .i64 0, .slice none 0 0, .string ⟨#[]⟩, .int .i64 0, .int .u32 hk] 108) (Nat.le_refl _)
          replace hN1 := hN1.below hba
          replace HTB := HTB.ofBelow hba HTB.size
          have hz0 := hbd.size
          replace hbd := hbd.trans (hba.mono hbd.size)
          clear l6 hba
          obtain ⟨_, l6, _⟩ := HX.out _ HTB
          refine hK.out _ _ ?_ (fun hHeld => ?_)
          · exact l6
          clear hK K
          (try simp only [Act.put, List.setIfInBounds_toArray, List.set_cons_zero, List.set_cons_succ])
          refine wpAnyH_ready (rs := [12]) (by kernel_rfl) (by simp) ?_
          refine AllReadyH.cons (o := { dst := some 56, op := Op.call { callee := Callee.value (Operand.func 60), args := #[Operand.tmp 48, Operand.tmp 49, Operand.tmp 55], argTypes := #[96, 3, 96] }, type := 96, pos := "tables.go:115", after := #[{ on := 4, ground := Ground.data }, { on := 5, ground := Ground.data }, { on := 11, ground := Ground.data }, { on := 9, ground := Ground.chain }], guard := none }) rfl (fun K hK => ?_) AllReadyH.nil
          go_simp
          refine (HIn.out _ hbd _ _ _ hN1 hz0 hzv).mono ?_
          rintro e w512 ⟨v', rfl, hone, hT12, hc19, hf19, hMd⟩
          replace HTB := HTB.trans hT12 (fun q _ e => hvl q (by rw [hvr]; exact e))
          clear l6 hN1 hzv hz0 hbd
          obtain ⟨_, l6, _⟩ := HX.out _ HTB
          go_wp2_with fail
          refine hK.out _ _ ?_ (fun hHeld => ?_)
          · exact l6
          clear hK K
          (try simp only [Act.put, List.setIfInBounds_toArray, List.set_cons_zero, List.set_cons_succ])
          refine wpAnyH_take (i := 13) (oi := { dst := some 57, op := Op.nilCheck (Operand.tmp 44), type := 0, pos := "tables.go:115", after := #[{ on := 0, ground := Ground.data }, { on := 0, ground := Ground.phase }, { on := 1, ground := Ground.phase }, { on := 2, ground := Ground.phase }, { on := 3, ground := Ground.phase }, { on := 4, ground := Ground.phase }, { on := 5, ground := Ground.phase }, { on := 6, ground := Ground.phase }, { on := 7, ground := Ground.phase }, { on := 8, ground := Ground.phase }, { on := 9, ground := Ground.phase }, { on := 10, ground := Ground.phase }, { on := 11, ground := Ground.phase }, { on := 12, ground := Ground.phase }], guard := none }) (v := ?vvAx7x413) rfl (by kernel_rfl) (by kernel_rfl) (by kernel_rfl) (fun _ _ _ h => h) (Or.inl ⟨by rfl, ?hyAx7x413⟩) (by assumption) ?rsAx7x413
          case hyAx7x413 =>
            intro w hSw
            (try dsimp only at hSw)
            go_simp
            (try with_reducible rfl)
          (try simp only [Act.put, List.setIfInBounds_toArray, List.set_cons_zero, List.set_cons_succ])
          refine wpAnyH_take (i := 14) (oi := { dst := some 58, op := Op.fieldAddr 98 (Operand.tmp 57) 3, type := 0, pos := "tables.go:115", after := #[{ on := 13, ground := Ground.data }, { on := 0, ground := Ground.phase }, { on := 1, ground := Ground.phase }, { on := 2, ground := Ground.phase }, { on := 3, ground := Ground.phase }, { on := 4, ground := Ground.phase }, { on := 5, ground := Ground.phase }, { on := 6, ground := Ground.phase }, { on := 7, ground := Ground.phase }, { on := 8, ground := Ground.phase }, { on := 9, ground := Ground.phase }, { on := 10, ground := Ground.phase }, { on := 11, ground := Ground.phase }, { on := 12, ground := Ground.phase }], guard := none }) (v := ?vvAx7x414) rfl (by kernel_rfl) (by kernel_rfl) (by kernel_rfl) (fun _ _ _ h => h) (Or.inl ⟨by rfl, ?hyAx7x414⟩) (by assumption) ?rsAx7x414
          case hyAx7x414 =>
            intro w hSw
            (try dsimp only at hSw)
            go_simp
            (try with_reducible rfl)
          (try simp only [Act.put, List.setIfInBounds_toArray, List.set_cons_zero, List.set_cons_succ])
          refine wpAnyH_ready (rs := [15]) (by kernel_rfl) (by simp) ?_
          refine AllReadyH.cons (o := { dst := none, op := Op.store 96 (Operand.tmp 58) (Operand.tmp 56), type := 0, pos := "tables.go:115", after := #[{ on := 14, ground := Ground.data }, { on := 12, ground := Ground.data }, { on := 12, ground := Ground.chain }, { on := 0, ground := Ground.phase }, { on := 1, ground := Ground.phase }, { on := 2, ground := Ground.phase }, { on := 3, ground := Ground.phase }, { on := 4, ground := Ground.phase }, { on := 5, ground := Ground.phase }, { on := 6, ground := Ground.phase }, { on := 7, ground := Ground.phase }, { on := 8, ground := Ground.phase }, { on := 9, ground := Ground.phase }, { on := 10, ground := Ground.phase }, { on := 11, ground := Ground.phase }, { on := 12, ground := Ground.phase }], guard := none }) rfl (fun K hK => ?_) AllReadyH.nil
          refine step_store_run (by rfl) 96 (.tmp 58) (.tmp 56) rfl (p := ⟨tb, 19, none⟩) (v := v') rfl rfl (st96 _ _ _ _ hone hc19 hf19) ?_
          replace HTB := HTB.setCell ⟨tb, 19, none⟩ v' (fun _ => hbl)
          clear l6
          obtain ⟨_, l6, _⟩ := HX.out _ HTB
          refine hK.out _ _ ?_ (fun hHeld => ?_)
          · exact l6
          clear hK K
          (try simp only [Act.put, List.setIfInBounds_toArray, List.set_cons_zero, List.set_cons_succ])
          refine wpAnyH_done (by kernel_rfl) ?_ _
          go_wp2_with fail
          go_meet
          exact ⟨rfl, rfl, (HX.out _ HTB).2.2, HY.out _ HTB, hMd⟩
        · skip
          go_simp
          refine (HH.out _ hbd).mono ?_
          rintro e w59 ⟨rfl, hb9⟩
          replace hN1 := hN1.below hb9
          replace HTB := HTB.ofBelow hb9 HTB.size
          replace hbd := hbd.trans (hb9.mono hbd.size)
          clear l6 hb9
          obtain ⟨_, l6, _⟩ := HX.out _ HTB
          go_wp2_with fail
          refine hK.out _ _ ?_ (fun hHeld => ?_)
          · exact l6
          clear hK K
          (try simp only [Act.put, List.setIfInBounds_toArray, List.set_cons_zero, List.set_cons_succ])
          refine wpAnyH_take (i := 10) (oi := { dst := some 54, op := Op.build 108 #[(0, Operand.tmp 51), (2, Operand.tmp 53)], type := 108, pos := "tables.go:115", after := #[{ on := 7, ground := Ground.data }, { on := 9, ground := Ground.data }], guard := none }) (v := ?vvAx7x910) rfl (by kernel_rfl) (by kernel_rfl) (by kernel_rfl) (fun _ _ _ h => h) (Or.inl ⟨by rfl, ?hyAx7x910⟩) (by assumption) ?rsAx7x910
          case hyAx7x910 =>
            intro w hSw
            (try dsimp only at hSw)
            go_simp
            (try with_reducible rfl)
          (try simp only [Act.put, List.setIfInBounds_toArray, List.set_cons_zero, List.set_cons_succ])
          refine wpAnyH_ready (rs := [4, 11]) (by kernel_rfl) (by simp) ?_
          refine (AllReadyH.cons (o := { dst := some 48, op := Op.load 96 (Operand.tmp 47), type := 96, pos := "tables.go:115", after := #[{ on := 3, ground := Ground.data }], guard := none }) rfl (fun K hK => ?_) (AllReadyH.cons (o := { dst := some 55, op := Op.buildSlice 96 1 #[(0, Operand.tmp 54)], type := 96, pos := "tables.go:115", after := #[{ on := 10, ground := Ground.data }], guard := none }) rfl (fun K hK => ?_) AllReadyH.nil))
          · skip
            have hc := HT19.out _ hbd
            go_simp
            refine hK.out _ _ ?_ (fun hHeld => ?_)
            · exact l6
            clear hK K
            (try simp only [Act.put, List.setIfInBounds_toArray, List.set_cons_zero, List.set_cons_succ])
            refine wpAnyH_ready (rs := [11]) (by kernel_rfl) (by simp) ?_
            refine AllReadyH.cons (o := { dst := some 55, op := Op.buildSlice 96 1 #[(0, Operand.tmp 54)], type := 96, pos := "tables.go:115", after := #[{ on := 10, ground := Ground.data }], guard := none }) rfl (fun K hK => ?_) AllReadyH.nil
            go_simp
            have hzv := alloc_new w59 (.cells #[.int .i64 kk, .int .i64 ki, .int .i64 kg, .string kn, .string kf, .int .i64 ka, .slice (some ⟨g1, 0, none⟩) kil.length kil.length, .string kb, .int .i64 ks, .int .i64 0, .int .i64 0, .int .i64 0, .string ⟨#[]⟩, .string ⟨#[]⟩, .int .i64 0, .slice none 0 0, .string ⟨#[]⟩, .int .i64 0, .int .u32 hk] 108)
            have hba := belowA (Below.refl w59.heap.size w59) (.cells #[.int .i64 kk, .int .i64 ki, .int .i64 kg, .string kn, .string kf, .int .i64 ka, .slice (some ⟨g1, 0, none⟩) kil.length kil.length, .string kb, .int .i64 ks, .int .i64 0, .int .i64 0, .int .i64 0, .string ⟨#[]⟩, .string ⟨#[]⟩, .int .i64 0, .slice none 0 0, .string ⟨#[]⟩, .int .i64 0, .int .u32 hk] 108) (Nat.le_refl _)
            replace hN1 := hN1.below hba
            replace HTB := HTB.ofBelow hba HTB.size
            have hz0 := hbd.size
            replace hbd := hbd.trans (hba.mono hbd.size)
            clear l6 hba
            obtain ⟨_, l6, _⟩ := HX.out _ HTB
            refine hK.out _ _ ?_ (fun hHeld => ?_)
            · exact l6
            clear hK K
            (try simp only [Act.put, List.setIfInBounds_toArray, List.set_cons_zero, List.set_cons_succ])
            refine wpAnyH_ready (rs := [12]) (by kernel_rfl) (by simp) ?_
            refine AllReadyH.cons (o := { dst := some 56, op := Op.call { callee := Callee.value (Operand.func 60), args := #[Operand.tmp 48, Operand.tmp 49, Operand.tmp 55], argTypes := #[96, 3, 96] }, type := 96, pos := "tables.go:115", after := #[{ on := 4, ground := Ground.data }, { on := 5, ground := Ground.data }, { on := 11, ground := Ground.data }, { on := 9, ground := Ground.chain }], guard := none }) rfl (fun K hK => ?_) AllReadyH.nil
            go_simp
            refine (HIn.out _ hbd _ _ _ hN1 hz0 hzv).mono ?_
            rintro e w512 ⟨v', rfl, hone, hT12, hc19, hf19, hMd⟩
            replace HTB := HTB.trans hT12 (fun q _ e => hvl q (by rw [hvr]; exact e))
            clear l6 hN1 hzv hz0 hbd
            obtain ⟨_, l6, _⟩ := HX.out _ HTB
            go_wp2_with fail
            refine hK.out _ _ ?_ (fun hHeld => ?_)
            · exact l6
            clear hK K
            (try simp only [Act.put, List.setIfInBounds_toArray, List.set_cons_zero, List.set_cons_succ])
            refine wpAnyH_take (i := 13) (oi := { dst := some 57, op := Op.nilCheck (Operand.tmp 44), type := 0, pos := "tables.go:115", after := #[{ on := 0, ground := Ground.data }, { on := 0, ground := Ground.phase }, { on := 1, ground := Ground.phase }, { on := 2, ground := Ground.phase }, { on := 3, ground := Ground.phase }, { on := 4, ground := Ground.phase }, { on := 5, ground := Ground.phase }, { on := 6, ground := Ground.phase }, { on := 7, ground := Ground.phase }, { on := 8, ground := Ground.phase }, { on := 9, ground := Ground.phase }, { on := 10, ground := Ground.phase }, { on := 11, ground := Ground.phase }, { on := 12, ground := Ground.phase }], guard := none }) (v := ?vvAx7x9x413) rfl (by kernel_rfl) (by kernel_rfl) (by kernel_rfl) (fun _ _ _ h => h) (Or.inl ⟨by rfl, ?hyAx7x9x413⟩) (by assumption) ?rsAx7x9x413
            case hyAx7x9x413 =>
              intro w hSw
              (try dsimp only at hSw)
              go_simp
              (try with_reducible rfl)
            (try simp only [Act.put, List.setIfInBounds_toArray, List.set_cons_zero, List.set_cons_succ])
            refine wpAnyH_take (i := 14) (oi := { dst := some 58, op := Op.fieldAddr 98 (Operand.tmp 57) 3, type := 0, pos := "tables.go:115", after := #[{ on := 13, ground := Ground.data }, { on := 0, ground := Ground.phase }, { on := 1, ground := Ground.phase }, { on := 2, ground := Ground.phase }, { on := 3, ground := Ground.phase }, { on := 4, ground := Ground.phase }, { on := 5, ground := Ground.phase }, { on := 6, ground := Ground.phase }, { on := 7, ground := Ground.phase }, { on := 8, ground := Ground.phase }, { on := 9, ground := Ground.phase }, { on := 10, ground := Ground.phase }, { on := 11, ground := Ground.phase }, { on := 12, ground := Ground.phase }], guard := none }) (v := ?vvAx7x9x414) rfl (by kernel_rfl) (by kernel_rfl) (by kernel_rfl) (fun _ _ _ h => h) (Or.inl ⟨by rfl, ?hyAx7x9x414⟩) (by assumption) ?rsAx7x9x414
            case hyAx7x9x414 =>
              intro w hSw
              (try dsimp only at hSw)
              go_simp
              (try with_reducible rfl)
            (try simp only [Act.put, List.setIfInBounds_toArray, List.set_cons_zero, List.set_cons_succ])
            refine wpAnyH_ready (rs := [15]) (by kernel_rfl) (by simp) ?_
            refine AllReadyH.cons (o := { dst := none, op := Op.store 96 (Operand.tmp 58) (Operand.tmp 56), type := 0, pos := "tables.go:115", after := #[{ on := 14, ground := Ground.data }, { on := 12, ground := Ground.data }, { on := 12, ground := Ground.chain }, { on := 0, ground := Ground.phase }, { on := 1, ground := Ground.phase }, { on := 2, ground := Ground.phase }, { on := 3, ground := Ground.phase }, { on := 4, ground := Ground.phase }, { on := 5, ground := Ground.phase }, { on := 6, ground := Ground.phase }, { on := 7, ground := Ground.phase }, { on := 8, ground := Ground.phase }, { on := 9, ground := Ground.phase }, { on := 10, ground := Ground.phase }, { on := 11, ground := Ground.phase }, { on := 12, ground := Ground.phase }], guard := none }) rfl (fun K hK => ?_) AllReadyH.nil
            refine step_store_run (by rfl) 96 (.tmp 58) (.tmp 56) rfl (p := ⟨tb, 19, none⟩) (v := v') rfl rfl (st96 _ _ _ _ hone hc19 hf19) ?_
            replace HTB := HTB.setCell ⟨tb, 19, none⟩ v' (fun _ => hbl)
            clear l6
            obtain ⟨_, l6, _⟩ := HX.out _ HTB
            refine hK.out _ _ ?_ (fun hHeld => ?_)
            · exact l6
            clear hK K
            (try simp only [Act.put, List.setIfInBounds_toArray, List.set_cons_zero, List.set_cons_succ])
            refine wpAnyH_done (by kernel_rfl) ?_ _
            go_wp2_with fail
            go_meet
            exact ⟨rfl, rfl, (HX.out _ HTB).2.2, HY.out _ HTB, hMd⟩
          · skip
            go_simp
            have hzv := alloc_new w59 (.cells #[.int .i64 kk, .int .i64 ki, .int .i64 kg, .string kn, .string kf, .int .i64 ka, .slice (some ⟨g1, 0, none⟩) kil.length kil.length, .string kb, .int .i64 ks, .int .i64 0, .int .i64 0, .int .i64 0, .string ⟨#[]⟩, .string ⟨#[]⟩, .int .i64 0, .slice none 0 0, .string ⟨#[]⟩, .int .i64 0, .int .u32 hk] 108)
            have hba := belowA (Below.refl w59.heap.size w59) (.cells #[.int .i64 kk, .int .i64 ki, .int .i64 kg, .string kn, .string kf, .int .i64 ka, .slice (some ⟨g1, 0, none⟩) kil.length kil.length, .string kb, .int .i64 ks, .int .i64 0, .int .i64 0, .int .i64 0, .string ⟨#[]⟩, .string ⟨#[]⟩, .int .i64 0, .slice none 0 0, .string ⟨#[]⟩, .int .i64 0, .int .u32 hk] 108) (Nat.le_refl _)
            replace hN1 := hN1.below hba
            replace HTB := HTB.ofBelow hba HTB.size
            have hz0 := hbd.size
            replace hbd := hbd.trans (hba.mono hbd.size)
            clear l6 hba
            obtain ⟨_, l6, _⟩ := HX.out _ HTB
            refine hK.out _ _ ?_ (fun hHeld => ?_)
            · exact l6
            clear hK K
            (try simp only [Act.put, List.setIfInBounds_toArray, List.set_cons_zero, List.set_cons_succ])
            refine wpAnyH_ready (rs := [4]) (by kernel_rfl) (by simp) ?_
            refine AllReadyH.cons (o := { dst := some 48, op := Op.load 96 (Operand.tmp 47), type := 96, pos := "tables.go:115", after := #[{ on := 3, ground := Ground.data }], guard := none }) rfl (fun K hK => ?_) AllReadyH.nil
            have hc := HT19.out _ hbd
            go_simp
            refine hK.out _ _ ?_ (fun hHeld => ?_)
            · exact l6
            clear hK K
            (try simp only [Act.put, List.setIfInBounds_toArray, List.set_cons_zero, List.set_cons_succ])
            refine wpAnyH_ready (rs := [12]) (by kernel_rfl) (by simp) ?_
            refine AllReadyH.cons (o := { dst := some 56, op := Op.call { callee := Callee.value (Operand.func 60), args := #[Operand.tmp 48, Operand.tmp 49, Operand.tmp 55], argTypes := #[96, 3, 96] }, type := 96, pos := "tables.go:115", after := #[{ on := 4, ground := Ground.data }, { on := 5, ground := Ground.data }, { on := 11, ground := Ground.data }, { on := 9, ground := Ground.chain }], guard := none }) rfl (fun K hK => ?_) AllReadyH.nil
            go_simp
            refine (HIn.out _ hbd _ _ _ hN1 hz0 hzv).mono ?_
            rintro e w512 ⟨v', rfl, hone, hT12, hc19, hf19, hMd⟩
            replace HTB := HTB.trans hT12 (fun q _ e => hvl q (by rw [hvr]; exact e))
            clear l6 hN1 hzv hz0 hbd
            obtain ⟨_, l6, _⟩ := HX.out _ HTB
            go_wp2_with fail
            refine hK.out _ _ ?_ (fun hHeld => ?_)
            · exact l6
            clear hK K
            (try simp only [Act.put, List.setIfInBounds_toArray, List.set_cons_zero, List.set_cons_succ])
            refine wpAnyH_take (i := 13) (oi := { dst := some 57, op := Op.nilCheck (Operand.tmp 44), type := 0, pos := "tables.go:115", after := #[{ on := 0, ground := Ground.data }, { on := 0, ground := Ground.phase }, { on := 1, ground := Ground.phase }, { on := 2, ground := Ground.phase }, { on := 3, ground := Ground.phase }, { on := 4, ground := Ground.phase }, { on := 5, ground := Ground.phase }, { on := 6, ground := Ground.phase }, { on := 7, ground := Ground.phase }, { on := 8, ground := Ground.phase }, { on := 9, ground := Ground.phase }, { on := 10, ground := Ground.phase }, { on := 11, ground := Ground.phase }, { on := 12, ground := Ground.phase }], guard := none }) (v := ?vvAx7x9x1113) rfl (by kernel_rfl) (by kernel_rfl) (by kernel_rfl) (fun _ _ _ h => h) (Or.inl ⟨by rfl, ?hyAx7x9x1113⟩) (by assumption) ?rsAx7x9x1113
            case hyAx7x9x1113 =>
              intro w hSw
              (try dsimp only at hSw)
              go_simp
              (try with_reducible rfl)
            (try simp only [Act.put, List.setIfInBounds_toArray, List.set_cons_zero, List.set_cons_succ])
            refine wpAnyH_take (i := 14) (oi := { dst := some 58, op := Op.fieldAddr 98 (Operand.tmp 57) 3, type := 0, pos := "tables.go:115", after := #[{ on := 13, ground := Ground.data }, { on := 0, ground := Ground.phase }, { on := 1, ground := Ground.phase }, { on := 2, ground := Ground.phase }, { on := 3, ground := Ground.phase }, { on := 4, ground := Ground.phase }, { on := 5, ground := Ground.phase }, { on := 6, ground := Ground.phase }, { on := 7, ground := Ground.phase }, { on := 8, ground := Ground.phase }, { on := 9, ground := Ground.phase }, { on := 10, ground := Ground.phase }, { on := 11, ground := Ground.phase }, { on := 12, ground := Ground.phase }], guard := none }) (v := ?vvAx7x9x1114) rfl (by kernel_rfl) (by kernel_rfl) (by kernel_rfl) (fun _ _ _ h => h) (Or.inl ⟨by rfl, ?hyAx7x9x1114⟩) (by assumption) ?rsAx7x9x1114
            case hyAx7x9x1114 =>
              intro w hSw
              (try dsimp only at hSw)
              go_simp
              (try with_reducible rfl)
            (try simp only [Act.put, List.setIfInBounds_toArray, List.set_cons_zero, List.set_cons_succ])
            refine wpAnyH_ready (rs := [15]) (by kernel_rfl) (by simp) ?_
            refine AllReadyH.cons (o := { dst := none, op := Op.store 96 (Operand.tmp 58) (Operand.tmp 56), type := 0, pos := "tables.go:115", after := #[{ on := 14, ground := Ground.data }, { on := 12, ground := Ground.data }, { on := 12, ground := Ground.chain }, { on := 0, ground := Ground.phase }, { on := 1, ground := Ground.phase }, { on := 2, ground := Ground.phase }, { on := 3, ground := Ground.phase }, { on := 4, ground := Ground.phase }, { on := 5, ground := Ground.phase }, { on := 6, ground := Ground.phase }, { on := 7, ground := Ground.phase }, { on := 8, ground := Ground.phase }, { on := 9, ground := Ground.phase }, { on := 10, ground := Ground.phase }, { on := 11, ground := Ground.phase }, { on := 12, ground := Ground.phase }], guard := none }) rfl (fun K hK => ?_) AllReadyH.nil
            refine step_store_run (by rfl) 96 (.tmp 58) (.tmp 56) rfl (p := ⟨tb, 19, none⟩) (v := v') rfl rfl (st96 _ _ _ _ hone hc19 hf19) ?_
            replace HTB := HTB.setCell ⟨tb, 19, none⟩ v' (fun _ => hbl)
            clear l6
            obtain ⟨_, l6, _⟩ := HX.out _ HTB
            refine hK.out _ _ ?_ (fun hHeld => ?_)
            · exact l6
            clear hK K
            (try simp only [Act.put, List.setIfInBounds_toArray, List.set_cons_zero, List.set_cons_succ])
            refine wpAnyH_done (by kernel_rfl) ?_ _
            go_wp2_with fail
            go_meet
            exact ⟨rfl, rfl, (HX.out _ HTB).2.2, HY.out _ HTB, hMd⟩
    · go_wp2_with fail
      go_meet
      exact ⟨rfl, rfl, (HX.out _ HT4.out).2.2, HY.out _ HT4.out, HHas.out trivial _ HB4.out⟩
  case rest =>
    clear HX HY HHas HIns HT4 HB4 HC1 HH HT19
    obtain ⟨rfl, rfl, l7, hy7, hmd⟩ := hcut
    obtain ⟨g, n, c, hc19, hpn, hnm, htl, hgt, hg8, HW⟩ := HVal.out _ hmd
    unfold maxLen at hnm
    have hl7 : (w.heap.size + 2) < wc.heap.size := World.block_lt_of_cell? wc _ (l7 0 _ rfl)
    have hne7 : (w.heap.size + 2) ≠ g := ty_ne hy7 hg8 (by decide)
    have HW2 := Lib.hid HW
    clear HVal HW hmd
    go_upto_region 9 with (fail)
    have hbd := belowD (Below.refl wc.heap.size wc)
    refine wp_region_held_drew (S := (fun w' => w'.rangeAt (w.heap.size + 2) 0 [.int .i64 vk, .int .i64 vi, .int .i64 vg, .string vn, .string vf, .int .i64 va, .slice pv nv cv, .string vb, .int .i64 vs] ∧ w'.cell? ⟨tb, 19, none⟩ = some (.slice (some ⟨g, 0, none⟩) n c))) (by kernel_rfl) ?_ (fun hHeld => ?_)
    · exact ⟨l7, hc19⟩
    refine wpAnyH_take (i := 0) (oi := { dst := some 59, op := Op.move (Operand.tmp 9), type := 89, pos := "tables.go:117", after := #[], guard := none }) (v := ?vvB0) rfl (by kernel_rfl) (by kernel_rfl) (by kernel_rfl) (fun _ _ _ h => h) (Or.inl ⟨by rfl, ?hyB0⟩) (by assumption) ?rsB0
    case hyB0 =>
      intro w hSw
      (try dsimp only at hSw)
      go_simp
      (try with_reducible rfl)
    (try simp only [Act.put, List.setIfInBounds_toArray, List.set_cons_zero, List.set_cons_succ])
    refine wpAnyH_take (i := 1) (oi := { dst := some 60, op := Op.nilCheck (Operand.tmp 59), type := 0, pos := "tables.go:117", after := #[{ on := 0, ground := Ground.data }], guard := none }) (v := ?vvB1) rfl (by kernel_rfl) (by kernel_rfl) (by kernel_rfl) (fun _ _ _ h => h) (Or.inl ⟨by rfl, ?hyB1⟩) (by assumption) ?rsB1
    case hyB1 =>
      intro w hSw
      (try dsimp only at hSw)
      go_simp
      (try with_reducible rfl)
    (try simp only [Act.put, List.setIfInBounds_toArray, List.set_cons_zero, List.set_cons_succ])
    refine wpAnyH_take (i := 2) (oi := { dst := some 61, op := Op.fieldAddr 98 (Operand.tmp 60) 3, type := 0, pos := "tables.go:117", after := #[{ on := 1, ground := Ground.data }], guard := none }) (v := ?vvB2) rfl (by kernel_rfl) (by kernel_rfl) (by kernel_rfl) (fun _ _ _ h => h) (Or.inl ⟨by rfl, ?hyB2⟩) (by assumption) ?rsB2
    case hyB2 =>
      intro w hSw
      (try dsimp only at hSw)
      go_simp
      (try with_reducible rfl)
    (try simp only [Act.put, List.setIfInBounds_toArray, List.set_cons_zero, List.set_cons_succ])
    refine wpAnyH_take (i := 3) (oi := { dst := some 62, op := Op.load 96 (Operand.tmp 61), type := 96, pos := "tables.go:117", after := #[{ on := 2, ground := Ground.data }], guard := none }) rfl (by kernel_rfl) (by kernel_rfl) (by kernel_rfl) (fun _ _ _ h => h) (yieldsB_cell (by rfl) 96 (.tmp 61) rfl tb 19 rfl _ ld96 (fun w hs => hs.2)) (by assumption) ?_
    (try simp only [Act.put, List.setIfInBounds_toArray, List.set_cons_zero, List.set_cons_succ])
    refine wpAnyH_take (i := 4) (oi := { dst := some 63, op := Op.move (Operand.tmp 11), type := 3, pos := "tables.go:117", after := #[], guard := none }) (v := ?vvB4) rfl (by kernel_rfl) (by kernel_rfl) (by kernel_rfl) (fun _ _ _ h => h) (Or.inl ⟨by rfl, ?hyB4⟩) (by assumption) ?rsB4
    case hyB4 =>
      intro w hSw
      (try dsimp only at hSw)
      go_simp
      (try with_reducible rfl)
    (try simp only [Act.put, List.setIfInBounds_toArray, List.set_cons_zero, List.set_cons_succ])
    refine wpAnyH_take (i := 5) (oi := { dst := some 64, op := Op.load 24 (Operand.tmp 7), type := 24, pos := "tables.go:117", after := #[], guard := none }) rfl (by kernel_rfl) (by kernel_rfl) (by kernel_rfl) (fun _ _ _ h => h) (yieldsIf_load_mid (by rfl) 24 (.tmp 7) rfl (w.heap.size + 2) 0 rfl [.int .i64 vk, .int .i64 vi, .int .i64 vg, .string vn, .string vf, .int .i64 va, .slice pv nv cv, .string vb, .int .i64 vs] _ (fun w hs => hs.1) Tryz.underlying24 rfl hsz9) (by assumption) ?_
    (try simp only [Act.put, List.setIfInBounds_toArray, List.set_cons_zero, List.set_cons_succ])
    refine wpAnyH_ready (rs := [6]) (by kernel_rfl) (by simp) ?_
    refine AllReadyH.cons (o := { dst := some 65, op := Op.call { callee := Callee.value (Operand.func 51), args := #[Operand.tmp 64], argTypes := #[24] }, type := 24, pos := "tables.go:117", after := #[{ on := 5, ground := Ground.data }], guard := none }) rfl (fun K hK => ?_) AllReadyH.nil
    go_simp
    refine ((HW2.out _ hbd).1).mono ?_
    rintro e w6 ⟨F2, g2, rfl, hN, _⟩
    dsimp only [aggV]
    have hN2 := NewI.of (w0 := wc) hN hbd.size
    replace hbd := hbd.trans (hN.below.mono hbd.size)
    clear hN
    replace l7 := rng_same l7 (hbd.block _ hl7)
    replace hc19 := cell_keep hbd htl hc19
    go_wp2_with fail
    refine hK.out _ _ ?_ (fun hHeld => ?_)
    · exact ⟨l7, hc19⟩
    clear hK K
    (try simp only [Act.put, List.setIfInBounds_toArray, List.set_cons_zero, List.set_cons_succ])
    refine wpAnyH_take (i := 7) (oi := { dst := some 66, op := Op.indexAddr 96 (Operand.tmp 62) (Operand.tmp 63), type := 0, pos := "tables.go:117", after := #[{ on := 3, ground := Ground.data }, { on := 4, ground := Ground.data }, { on := 0, ground := Ground.phase }, { on := 1, ground := Ground.phase }, { on := 2, ground := Ground.phase }, { on := 3, ground := Ground.phase }, { on := 4, ground := Ground.phase }, { on := 5, ground := Ground.phase }, { on := 6, ground := Ground.phase }], guard := none }) (v := ?vvB7) rfl (by kernel_rfl) (by kernel_rfl) (by kernel_rfl) (fun _ _ _ h => h) (Or.inl ⟨by rfl, ?hyB7⟩) (by assumption) ?rsB7
    case hyB7 =>
      intro w hSw
      (try dsimp only at hSw)
      go_simp
      (try with_reducible rfl)
    (try simp only [Act.put, List.setIfInBounds_toArray, List.set_cons_zero, List.set_cons_succ])
    refine wpAnyH_take (i := 8) (oi := { dst := some 67, op := Op.fieldAddr 108 (Operand.tmp 66) 1, type := 0, pos := "tables.go:117", after := #[{ on := 7, ground := Ground.data }, { on := 0, ground := Ground.phase }, { on := 1, ground := Ground.phase }, { on := 2, ground := Ground.phase }, { on := 3, ground := Ground.phase }, { on := 4, ground := Ground.phase }, { on := 5, ground := Ground.phase }, { on := 6, ground := Ground.phase }], guard := none }) (v := ?vvB8) rfl (by kernel_rfl) (by kernel_rfl) (by kernel_rfl) (fun _ _ _ h => h) (Or.inl ⟨by rfl, ?hyB8⟩) (by assumption) ?rsB8
    case hyB8 =>
      intro w hSw
      (try dsimp only at hSw)
      go_simp
      (try with_reducible rfl)
    (try simp only [Act.put, List.setIfInBounds_toArray, List.set_cons_zero, List.set_cons_succ])
    refine wpAnyH_ready (rs := [9]) (by kernel_rfl) (by simp) ?_
    refine AllReadyH.cons (o := { dst := none, op := Op.store 24 (Operand.tmp 67) (Operand.tmp 65), type := 0, pos := "tables.go:117", after := #[{ on := 8, ground := Ground.data }, { on := 6, ground := Ground.data }, { on := 6, ground := Ground.chain }, { on := 0, ground := Ground.phase }, { on := 1, ground := Ground.phase }, { on := 2, ground := Ground.phase }, { on := 3, ground := Ground.phase }, { on := 4, ground := Ground.phase }, { on := 5, ground := Ground.phase }, { on := 6, ground := Ground.phase }], guard := none }) rfl (fun K hK => ?_) AllReadyH.nil
    obtain ⟨w9, hst, hPt, hT9⟩ := (HW2.out _ hbd).2 F2 _ hN2
    refine step_store_run (by rfl) 24 (.tmp 67) (.tmp 65) rfl (p := ⟨g, pos * 19 + 9, none⟩) rfl rfl hst ?_
    have hz1 := Nat.lt_of_lt_of_le hl7 hbd.size
    have hz2 := Nat.lt_of_lt_of_le htl hbd.size
    replace l7 := rng_same l7 (hT9.block _ hz1 hne7)
    replace hc19 := (hT9.cell (p := ⟨tb, 19, none⟩) hz2 (fun e => hgt e.symm)).trans hc19
    refine hK.out _ _ ?_ (fun hHeld => ?_)
    · exact ⟨l7, hc19⟩
    clear hK K
    (try simp only [Act.put, List.setIfInBounds_toArray, List.set_cons_zero, List.set_cons_succ])
    refine wpAnyH_done (by kernel_rfl) ?_ _
    go_wp2_with fail
    go_ret
    exact ⟨rfl, hPt⟩
end
end Go.Proofs.YtfbggmbmgohiiaaGreat.tb
