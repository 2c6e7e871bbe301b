/- Several texts in one, one behind the other: LkMa, LkT, LkU, LkV, LkW. No condition beyond theirs. -/
import Derived.Test.YtnakbepcalciiaaGreatGa
import Derived.Test.YtnakbepcalciiaaGreatGb
import Derived.Test.YtnakbepcalciiaaGreatGu
import Derived.Laws.Rows
/- Loads of a record within a row; lists of monitors as they come in. Conditions: as said. -/
namespace Go.Proofs.YtnakbepcalciiaaGreat.lk
open Go.RowKit mem rec tm Go.ChangeShapes Go.WideShapes Go.ChangeAt Go.Deep
set_option linter.unusedVariables false
set_option linter.unusedSimpArgs false
set_option maxRecDepth 100000
theorem run_loadVar_at {P : Program} (w : World) (g o : Nat) (ty : TypeId) (cs : Array Value) (d : TypeDesc) (hc : ∀ j v, cs.toList[j]? = some v → w.cell? ⟨g, o + j, none⟩ = some v)
    (hd : (match d with | .struct _ | .array _ _ => true | _ => false) = true) (hu : P.underlying ty = some d) (hi : (P.info? ty).map (·.size) = some cs.size) :
    (loadVar ty ⟨g, o, none⟩).run P w = .ok (.agg cs) w := by
  have hl : (loadCells ⟨g, o, none⟩ cs.toList.length).run P w = .ok cs.toList.toArray w :=
    run_loadCells_list (P := P) w ⟨g, o, none⟩ cs.toList (fun j v hv => by
      have hadd : (⟨g, o, none⟩ : Addr).add j = ⟨g, o + j, none⟩ := by unfold Addr.add; split <;> simp_all
      rw [hadd]
      exact hc j v hv)
  cases hq : P.info? ty with
  | none => simp [hq] at hi
  | some i =>
    have hs : i.size = cs.size := by simpa [hq] using hi
    have hagg : (isAgg ty).run P w = .ok true w := by
      unfold isAgg
      rw [Sem.run_bind, run_underlying hu w]
      cases d <;> simp_all
    simp only [Array.length_toList, Array.toArray_toList] at hl
    simp [loadVar, Sem.run_bind, hagg, sizeOf, typeInfo, hq, hs, hl]
/-- a monitor as it came in: three terms, and the slices of their elements -/
structure MonE (n : Nat) where
  r : Tm (n + 1)
  w : Tm (n + 1)
  t : Tm (n + 1)
  ur : Value
  uw : Value
  ut : Value
def mxL {n : Nat} (e : MonE n) : List Value := nineL e.r.f e.ur ++ nineL e.w.f e.uw ++ nineL e.t.f e.ut
theorem mxL_len {n : Nat} (e : MonE n) : (mxL e).length = 27 := rfl
def MonIn (w : World) (B : Nat) {n : Nat} (e : MonE n) : Prop := ItemsAt w B n e.ur e.r.items ∧ ItemsAt w B n e.uw e.w.items ∧ ItemsAt w B n e.ut e.t.items
theorem mxL_one {w : World} {B n : Nat} {e : MonE n} (h : MonIn w B e) : ∀ u ∈ mxL e, u.oneCell' = true := by
  obtain ⟨r, w', t, ur, uw, ut⟩ := e
  obtain ⟨h1, h2, h3⟩ := h
  obtain ⟨p1, c1, e1, _, _⟩ := h1.shape
  obtain ⟨p2, c2, e2, _, _⟩ := h2.shape
  obtain ⟨p3, c3, e3, _, _⟩ := h3.shape
  dsimp only at e1 e2 e3
  subst e1; subst e2; subst e3
  intro u hu
  simp only [mxL, nineL, List.mem_append, List.mem_cons, List.mem_nil_iff, or_false] at hu
  rcases hu with (h | h) | h
  all_goals
    rcases h with rfl | rfl | rfl | rfl | rfl | rfl | rfl | rfl | rfl <;> rfl
variable {H : Type} {enc : TypeId × Value → H} {W : World}
theorem cells47 : Tryz.prog.cellsOf 47 = 27 := by kernel_rfl
theorem open_mon {m : Nat} {cs : List Value} {x : DataW H × List MemPlace} (h : DataW.trod enc Tryz.prog W 0 (fun _ => true) true (m + 1 + 1) 47 cs = some x) : ∃ e : MonE m, cs = mxL e ∧ MonIn W W.heap.size e := by
  obtain ⟨ys, n', hn', hy, hlen, hyl, hf⟩ := DataW.trod_struct Tryz.underlying47 h
  obtain rfl : m + 1 = n' := by omega
  have hl27 : cs.length = 27 := hlen
  match cs, hl27 with
  | [b1, b2, b3, b4, b5, b6, b7, b8, b9, c0, c1, c2, c3, c4, c5, c6, c7, c8, c9, d0, d1, d2, d3, d4, d5, d6, d7], _ =>
  have hl : ys.length = 3 := hyl
  match ys, hl with
  | [y1, y2, y3], _ =>
  have t1 : DataW.trod enc Tryz.prog W 0 (fun _ => true) true (m + 1) 30 [b1, b2, b3, b4, b5, b6, b7, b8, b9] = some y1 := hf 0 _ rfl
  have t2 : DataW.trod enc Tryz.prog W 0 (fun _ => true) true (m + 1) 30 [c0, c1, c2, c3, c4, c5, c6, c7, c8] = some y2 := hf 1 _ rfl
  have t3 : DataW.trod enc Tryz.prog W 0 (fun _ => true) true (m + 1) 30 [c9, d0, d1, d2, d3, d4, d5, d6, d7] = some y3 := hf 2 _ rfl
  obtain ⟨a, ua, ea, ha⟩ := open_nine (fun v x => open_items m v x) t1
  obtain ⟨b, ub, eb, hb⟩ := open_nine (fun v x => open_items m v x) t2
  obtain ⟨r, ur, er, hr⟩ := open_nine (fun v x => open_items m v x) t3
  refine ⟨⟨a, b, r, ua, ub, ur⟩, ?_, ha, hb, hr⟩
  have e : [b1, b2, b3, b4, b5, b6, b7, b8, b9, c0, c1, c2, c3, c4, c5, c6, c7, c8, c9, d0, d1, d2, d3, d4, d5, d6, d7] = [b1, b2, b3, b4, b5, b6, b7, b8, b9] ++ [c0, c1, c2, c3, c4, c5, c6, c7, c8] ++ [c9, d0, d1, d2, d3, d4, d5, d6, d7] := rfl
  rw [e, ea, eb, er]
  rfl
theorem open_mons {b : Nat} {v : Value} {d : DataW H} {ps : List MemPlace} (hv : Value.okWide Tryz.prog W .any b 45 v) (h : DataW.Trod enc Tryz.prog W 0 (fun _ => true) true 45 v d ps) : ∃ n, ∃ l : List (MonE n), RecAt mxL 27 W W.heap.size v l ∧ ∀ e ∈ l, MonIn W W.heap.size e := by
  obtain ⟨a0, len, cap, rfl⟩ := okWide_slice Tryz.underlying45 hv
  obtain ⟨fuel, hf⟩ := h
  have hf' : DataW.trod enc Tryz.prog W 0 (fun _ => true) true fuel 45 [.slice a0 len cap] = some (d, ps) := by simpa [Value.cells] using hf
  rcases DataW.trod_slice Tryz.underlying45 hf' with ⟨hcs, hx⟩ | ⟨a, len', cap', elems, rest, m, hm, hcs, hx, hb, hlc, hcm, hel, hat, _, _⟩
  · simp only [List.cons.injEq, and_true] at hcs
    rw [hcs]
    exact ⟨0, [], RecAt.nil _ _ _ _ (Nat.zero_le _), fun e he => by simp at he⟩
  · simp only [List.cons.injEq, and_true] at hcs
    rw [hcs]
    cases len' with
    | zero => exact ⟨0, [], RecAt.nil _ _ _ _ hcm, fun e he => by simp at he⟩
    | succ len' =>
      have hget : ∀ i, i < len' + 1 → ∃ cs x, W.cells? 0 (a.add (i * 27)) 27 = some cs ∧ DataW.trod enc Tryz.prog W 0 (fun _ => true) true m 47 cs = some x := by
        intro i hi
        have h0 := hat i hi
        have e0 : elems[i]? = some (elems[i]'(by omega)) := List.getElem?_eq_getElem (by omega)
        rw [e0] at h0
        rw [cells47] at h0
        cases hc : W.cells? 0 (a.add (i * 27)) 27 with
        | none => rw [hc] at h0; simp at h0
        | some cs => rw [hc] at h0; exact ⟨cs, _, rfl, h0⟩
      match m, hget with
      | 0, hget => obtain ⟨cs, x, _, h0⟩ := hget 0 (by omega); simp [DataW.trod] at h0
      | 1, hget =>
        exfalso
        obtain ⟨cs, x, _, h0⟩ := hget 0 (by omega)
        obtain ⟨ys, n', hn', hy, hlen, hyl, hf⟩ := DataW.trod_struct Tryz.underlying47 h0
        obtain rfl : 0 = n' := by omega
        have hl : ys.length = 3 := hyl
        match ys, hl with
        | [y0, y1, y2], _ =>
          have t0 := hf 0 _ rfl
          simp [DataW.trod] at t0
      | m + 1 + 1, hget =>
        have hex : ∀ i, i < len' + 1 → ∃ t : MonE m, (∀ k, k < 27 → W.cell? (a.add (i * 27 + k)) = (mxL t)[k]?) ∧ MonIn W W.heap.size t := by
          intro i hi
          obtain ⟨cs, x, hc, h0⟩ := hget i hi
          obtain ⟨t, rfl, h1⟩ := open_mon h0
          refine ⟨t, fun k hk => ?_, h1⟩
          obtain ⟨_, _, hcell⟩ := World.cells?_some hc
          have := hcell k hk
          rw [Go.Deep.add_add] at this
          exact this
        obtain ⟨l, hl, hP⟩ := list_ofT _ (len' + 1) hex
        obtain ⟨g, o, pth⟩ := a
        have hpos : 0 < l.length := by omega
        have x0 := (hP 0 hpos).1 0 (by omega)
        have hpth : pth = none := by
          cases pth with
          | none => rfl
          | some q =>
            exfalso
            have x1 : W.cell? ⟨g, o, some q⟩ = some _ := x0
            unfold World.cell? at x1
            split at x1 <;> simp at x1
        subst hpth
        refine ⟨m, l, ⟨some ⟨g, o, none⟩, cap', by rw [hl], by omega, hcm, fun hne => ⟨g, o, rfl, ?_, fun j e hj k u hu => ?_⟩⟩, fun e he => ?_⟩
        · have := World.block_lt_of_cell? W _ x0; rw [Addr.add_lit] at this; exact this
        · have hjl : j < l.length := by
            rcases Nat.lt_or_ge j l.length with h | h
            · exact h
            · rw [List.getElem?_eq_none h] at hj; cases hj
          rw [List.getElem?_eq_getElem hjl] at hj
          simp only [Option.some.injEq] at hj
          subst hj
          have hk : k < 27 := by
            rcases Nat.lt_or_ge k 27 with h | h
            · exact h
            · rw [List.getElem?_eq_none (by rw [mxL_len]; exact h)] at hu; cases hu
          have := (hP j hjl).1 k hk
          rw [Addr.add_lit] at this
          rw [this, hu]
        · obtain ⟨j, hj, rfl⟩ := List.getElem_of_mem he
          exact (hP j hj).2
end Go.Proofs.YtnakbepcalciiaaGreat.lk
/- told: monitors as others know them. Conditions: the row lies in memory. -/
namespace Go.Proofs.YtnakbepcalciiaaGreat.lk
open Go.RowKit mem rec tm names pm
set_option linter.unusedVariables false
set_option linter.unusedSimpArgs false
set_option maxHeartbeats 4000000
set_option maxRecDepth 100000
theorem info47 : (Tryz.prog.info? 47).map (fun i => (i.zero, i.size, i.bytes)) = some (some (.agg #[.int .i64 0, .int .i64 0, .int .i64 0, .string ⟨#[]⟩, .string ⟨#[]⟩, .int .i64 0, .slice none 0 0, .string ⟨#[]⟩, .int .i64 0, .int .i64 0, .int .i64 0, .int .i64 0, .string ⟨#[]⟩, .string ⟨#[]⟩, .int .i64 0, .slice none 0 0, .string ⟨#[]⟩, .int .i64 0, .int .i64 0, .int .i64 0, .int .i64 0, .string ⟨#[]⟩, .string ⟨#[]⟩, .int .i64 0, .slice none 0 0, .string ⟨#[]⟩, .int .i64 0]), 27, 336) := by kernel_rfl
theorem el47 : ElTy 45 47 27 := elty_of Tryz.underlying45 info47 rfl (by decide) (by decide)
def ToldI (L : List Mn) (W : World) (n : Nat) (out iv : Value) (wr : World) : Prop :=
  ∃ i : Nat, iv = .int .i64 i ∧ i ≤ L.length ∧ n = L.length - i ∧ RecOwn mnTL 47 27 wr W.heap.size out (L.take i) ∧ Below W.heap.size W wr
def ToldP (L : List Mn) (w : World) (e : Ending) (w' : World) : Prop := ∃ v, e = .returned v ∧ RecOwn mnTL 47 27 w' w.heap.size v L ∧ Below w.heap.size w w'
theorem told88 {w : World} {B : Nat} {v : Value} {L : List Mn} (hB : B ≤ w.heap.size) (h : RecAt mnL 12 w B v L) (hl : L.length ≤ 100000000) : Calls Tryz.prog 88 #[v] w (ToldP L w) := by
  obtain ⟨pv, cv, rfl, _, _⟩ := h.shape
  have HR := Lib.hid (fun W (hW : Below w.heap.size w W) => h.below hW hB)
  have H00 : Hid (ToldI L w L.length (.slice none 0 0) (.int .i64 0) w) := Lib.hid ⟨0, rfl, Nat.zero_le _, rfl, RecOwn.nil _ _ _, Below.refl _ _⟩
  have HBl := Lib.hid hB
  clear h hB
  go_enter Tryz.func88, Tryz.ntmps88
  go_wp2_with fail
  go_loopg [3, 8] L.length (fun n out iv wr => Hid (ToldI L w n out iv wr))
  case atStart => exact H00
  case round =>
    obtain ⟨i, rfl, hi, hn, hown, hbw⟩ := hrel.out
    clear hrel H00
    by_cases hlt : i < L.length
    · have hat := List.getElem?_eq_getElem hlt
      obtain ⟨g, o, e1, hn0, hg, hc⟩ := (HR.out _ hbw).nth (by omega)
      have hc := hc i _ hat
      have HTk : Hid (L.take (i + 1) = L.take i ++ [L[i]]) := Lib.hid (by rw [List.take_add_one, hat]; rfl)
      subst e1
      generalize L[i] = p at *
      obtain ⟨⟨x1, x2, x3, x4⟩, ⟨y1, y2, y3, y4⟩, ⟨v1, v2, v3, v4⟩⟩ := p
      have e0 : wr.cell? ⟨g, o + i * 12, none⟩ = some (.int .i64 x1) := hc 0 _ rfl
      have e1 : wr.cell? ⟨g, o + i * 12 + 1, none⟩ = some (.string x2) := hc 1 _ rfl
      have e2 : wr.cell? ⟨g, o + i * 12 + 2, none⟩ = some (.int .i64 x3) := hc 2 _ rfl
      have e3 : wr.cell? ⟨g, o + i * 12 + 3, none⟩ = some (.int .i64 x4) := hc 3 _ rfl
      have e4 : wr.cell? ⟨g, o + i * 12 + 4, none⟩ = some (.int .i64 y1) := hc 4 _ rfl
      have e5 : wr.cell? ⟨g, o + i * 12 + 5, none⟩ = some (.string y2) := hc 5 _ rfl
      have e6 : wr.cell? ⟨g, o + i * 12 + 6, none⟩ = some (.int .i64 y3) := hc 6 _ rfl
      have e7 : wr.cell? ⟨g, o + i * 12 + 7, none⟩ = some (.int .i64 y4) := hc 7 _ rfl
      have e8 : wr.cell? ⟨g, o + i * 12 + 8, none⟩ = some (.int .i64 v1) := hc 8 _ rfl
      have e9 : wr.cell? ⟨g, o + i * 12 + 9, none⟩ = some (.string v2) := hc 9 _ rfl
      have e10 : wr.cell? ⟨g, o + i * 12 + 10, none⟩ = some (.int .i64 v3) := hc 10 _ rfl
      have e11 : wr.cell? ⟨g, o + i * 12 + 11, none⟩ = some (.int .i64 v4) := hc 11 _ rfl
      have HA := Lib.hid (fun W => api92 ((x1, x2, x3, x4), (y1, y2, y3, y4), (v1, v2, v3, v4)) W)
      have HA2 : Hid (∀ W, Calls Tryz.prog 92 #[.agg #[.int .i64 x1, .string x2, .int .i64 x3, .int .i64 x4, .int .i64 y1, .string y2, .int .i64 y3, .int .i64 y4, .int .i64 v1, .string v2, .int .i64 v3, .int .i64 v4]] W fun e w' => e = .returned (.agg #[.int .i64 x1, .int .i64 x4, .int .i64 x3, .string x2, .string ⟨#[]⟩, .int .i64 0, .slice none 0 0, .string ⟨#[]⟩, .int .i64 0, .int .i64 y1, .int .i64 y4, .int .i64 y3, .string y2, .string ⟨#[]⟩, .int .i64 0, .slice none 0 0, .string ⟨#[]⟩, .int .i64 0, .int .i64 v1, .int .i64 v4, .int .i64 v3, .string v2, .string ⟨#[]⟩, .int .i64 0, .slice none 0 0, .string ⟨#[]⟩, .int .i64 0]) ∧ Below W.heap.size W w') := HA
      have HN := Lib.hid hn
      have HO := Lib.hid hown
      have r1 : (i : Int) < (L.length : Int) := by omega
      clear hc hn hown hn0 hat HA
      go_upto_region 5 with (fail)
      have hX := alloc_new wr (.cells #[.int .i64 x1, .string x2, .int .i64 x3, .int .i64 x4, .int .i64 y1, .string y2, .int .i64 y3, .int .i64 y4, .int .i64 v1, .string v2, .int .i64 v3, .int .i64 v4] 162)
      have hb4 := belowA (Below.refl wr.heap.size wr) (.cells #[.int .i64 x1, .string x2, .int .i64 x3, .int .i64 x4, .int .i64 y1, .string y2, .int .i64 y3, .int .i64 y4, .int .i64 v1, .string v2, .int .i64 v3, .int .i64 v4] 162) (Nat.le_refl _)
      have HO4 := Lib.hid (HO.out.below hb4)
      have HB4 := Lib.hid (hbw.trans (hb4.mono hbw.size))
      clear e0 e1 e2 e3 e4 e5 e6 e7 e8 e9 e10 e11 HO hb4 hbw hg
      generalize (wr.alloc (.cells #[.int .i64 x1, .string x2, .int .i64 x3, .int .i64 x4, .int .i64 y1, .string y2, .int .i64 y3, .int .i64 y4, .int .i64 v1, .string v2, .int .i64 v3, .int .i64 v4] 162)) = W4 at *
      generalize wr.heap.size = zb at *
      obtain ⟨p0, p1, p2, p3, p4, p5, p6, p7, p8, p9, p10, p11, pf⟩ := cells12 hX
      go_wp2_with fail
      refine (HA2.out _).mono ?_
      rintro e W6 ⟨rfl, hb6⟩
      have hX7 := alloc_new W6 (.cells #[.int .i64 x1, .int .i64 x4, .int .i64 x3, .string x2, .string ⟨#[]⟩, .int .i64 0, .slice none 0 0, .string ⟨#[]⟩, .int .i64 0, .int .i64 y1, .int .i64 y4, .int .i64 y3, .string y2, .string ⟨#[]⟩, .int .i64 0, .slice none 0 0, .string ⟨#[]⟩, .int .i64 0, .int .i64 v1, .int .i64 v4, .int .i64 v3, .string v2, .string ⟨#[]⟩, .int .i64 0, .slice none 0 0, .string ⟨#[]⟩, .int .i64 0] 47)
      have hb7 := belowA hb6 (.cells #[.int .i64 x1, .int .i64 x4, .int .i64 x3, .string x2, .string ⟨#[]⟩, .int .i64 0, .slice none 0 0, .string ⟨#[]⟩, .int .i64 0, .int .i64 y1, .int .i64 y4, .int .i64 y3, .string y2, .string ⟨#[]⟩, .int .i64 0, .slice none 0 0, .string ⟨#[]⟩, .int .i64 0, .int .i64 v1, .int .i64 v4, .int .i64 v3, .string v2, .string ⟨#[]⟩, .int .i64 0, .slice none 0 0, .string ⟨#[]⟩, .int .i64 0] 47) hb6.size
      have hE : EncOK mnTL 27 [(((x1, x2, x3, x4), (y1, y2, y3, y4), (v1, v2, v3, v4)) : Mn)] := fun a _ => ⟨mnTL_len a, mnTL_one a⟩
      have HR7 := Lib.hid (RecAt.fresh (enc := mnTL) (l := [(((x1, x2, x3, x4), (y1, y2, y3, y4), (v1, v2, v3, v4)) : Mn)]) (c := 1) hE (by decide) hX7 (Nat.le_refl _) (by decide))
      have HO7 := Lib.hid (HO4.out.below hb7)
      have HB7 := Lib.hid (HB4.out.trans (hb7.mono HB4.out.size))
      have HLe : Hid ((L.take i).length + 1 ≤ 1000000000) := Lib.hid (by have := List.length_take_le i L; omega)
      have HSw := Lib.hid HB7.out.size
      clear p0 p1 p2 p3 p4 p5 p6 p7 p8 p9 p10 p11 pf hX hX7 hb7 hb6 HO4 HB4 HA2
      go_wp2_with (refine wpList_append_rec el47 rfl (.tmp 12) (.tmp 15) rfl rfl HO7.out HSw.out rfl HR7.out hE HLe.out ?_)
      intro v' W8 hA
      have HO8 := Lib.hid hA.own
      have HB8 := Lib.hid (hA.belowB HB7.out HB7.out.size (fun k hk => (HO7.out.lt hk).1))
      clear hA HR7 HO7 HB7
      go_wp2_with fail
      go_roundg (L.length - (i + 1))
      case measure => have := HN.out; omega
      case rel => exact Lib.hid ⟨i + 1, by go_num, by omega, rfl, by rw [HTk.out]; exact HO8.out, HB8.out⟩
    · obtain rfl : i = L.length := by omega
      have HO := Lib.hid hown
      have HBf := Lib.hid hbw
      clear hown hbw hn
      go_wp2_with fail
      go_ret
      exact ⟨_, rfl, by have := HO.out; rw [List.take_length] at this; exact this, HBf.out⟩
end Go.Proofs.YtnakbepcalciiaaGreat.lk
/- Held, Watched: the monitors of a watcher and of a target. Conditions: the object was made by New; the term lies in memory. -/
namespace Go.Proofs.YtnakbepcalciiaaGreat.lk
open Go.RowKit mem rec tm names pm
set_option linter.unusedVariables false
set_option linter.unusedSimpArgs false
set_option maxHeartbeats 4000000
set_option maxRecDepth 100000
def HeldP (ok : Bool) (T : Mn → Bool) (M : List (Id × Mn)) (w : World) (e : Ending) (w' : World) : Prop :=
  ∃ v L, e = .returned v ∧ L.Perm ((M.map (·.2)).filter (fun m => ok && T m)) ∧ L.Pairwise (fun x y => cmM x y ≤ 0) ∧ RecOwn mnTL 47 27 w' w.heap.size v L ∧ Below w.heap.size w w'
theorem held90 {w : World} {bk bx : Nat} (ok : Bool) (x : Id) (hk : w.heap[bk]? = some (.cells #[.bool ok] 4)) (hx : w.heap[bx]? = some (.cells #[.int .i64 x.1, .string x.2.1, .int .i64 x.2.2.1, .int .i64 x.2.2.2] 147)) (m : Mn) : Calls Tryz.prog 90 #[mnV m, .pointer (some ⟨bk, 0, none⟩), .pointer (some ⟨bx, 0, none⟩)] w fun e w' => e = .returned (.bool (ok && decide (m.2.1 = x))) ∧ Below w.heap.size w w' := by
  obtain ⟨u1, u2, u3, u4⟩ := x
  obtain ⟨⟨x1, x2, x3, x4⟩, ⟨y1, y2, y3, y4⟩, ⟨v1, v2, v3, v4⟩⟩ := m
  have hq := eqlId (y1, y2, y3, y4) (u1, u2, u3, u4)
  have hlt : bx < w.heap.size := (Array.getElem?_eq_some_iff.1 hx).1
  have hltk : bk < w.heap.size := (Array.getElem?_eq_some_iff.1 hk).1
  have hb := belowA (Below.refl w.heap.size w) (.cells #[.int .i64 x1, .string x2, .int .i64 x3, .int .i64 x4, .int .i64 y1, .string y2, .int .i64 y3, .int .i64 y4, .int .i64 v1, .string v2, .int .i64 v3, .int .i64 v4] 162) (Nat.le_refl _)
  have hn := alloc_new w (.cells #[.int .i64 x1, .string x2, .int .i64 x3, .int .i64 x4, .int .i64 y1, .string y2, .int .i64 y3, .int .i64 y4, .int .i64 v1, .string v2, .int .i64 v3, .int .i64 v4] 162)
  have hx' := (hb.block _ hlt).trans hx
  have hk' := (hb.block _ hltk).trans hk
  unfold idV at hq
  unfold mnV
  dsimp only at *
  generalize decide ((y1, y2, y3, y4) = (u1, u2, u3, u4)) = q at *
  have HB := Lib.hid hb
  clear hb hx hlt hk hltk
  go_enter Tryz.func90, Tryz.ntmps90
  go_upto_region 1 with (fail)
  generalize (w.alloc (.cells #[.int .i64 x1, .string x2, .int .i64 x3, .int .i64 x4, .int .i64 y1, .string y2, .int .i64 y3, .int .i64 y4, .int .i64 v1, .string v2, .int .i64 v3, .int .i64 v4] 162)) = W1 at *
  obtain ⟨p0, p1, p2, p3, p4, p5, p6, p7, p8, p9, p10, p11, pf⟩ := cells12 hn
  obtain ⟨b0, b1, b2, b3, bf⟩ := four_cells hx'
  have k0 : W1.cell? ⟨bk, 0, none⟩ = some (.bool ok) := by simp only [World.cell?, hk']; rfl
  cases ok
  · go_wp2_with fail
    go_ret
    exact ⟨rfl, HB.out⟩
  · go_wp2_with fail
    go_ret
    exact ⟨rfl, HB.out⟩
theorem held29 {n : Nat} {w : World} {z mh mm : Nat} {s : LkSt} (h : LkAt w z mh mm s) (hlen : s.M.length ≤ 100000000) (B : Nat) (va : Value) (ta : Tm (n + 1)) (hB : B ≤ w.heap.size) (ha : ItemsAt w B n va ta.items) (sa : 300 * (nodesT ta : Int) ≤ 1000000000000) :
    Calls Tryz.prog 29 #[.pointer (some ⟨z, 0, none⟩), aggV ta.f va] w (HeldP (decide (ta.f.kind = 6) && validT ta) (fun m => decide (m.2.1 = idOf ta.f)) s.M w) := by
  have HOA := Lib.hid (fun W (hW : Below w.heap.size w W) => of86 W B va ta 6 (Nat.le_trans hB hW.size) (ha.below hW hB) sa)
  have HLn := Lib.hid hlen
  obtain ⟨pa, ca, rfl, _, _⟩ := ha.shape
  clear ha sa hB
  generalize (decide (ta.f.kind = 6) && validT ta) = ra at *
  have HT : Hid (∀ (W : World) (bk bx : Nat), W.heap[bk]? = some (.cells #[.bool ra] 4) → W.heap[bx]? = some (.cells #[.int .i64 (idOf ta.f).1, .string (idOf ta.f).2.1, .int .i64 (idOf ta.f).2.2.1, .int .i64 (idOf ta.f).2.2.2] 147) → Below w.heap.size w W → Calls Tryz.prog 89 #[.pointer (some ⟨z, 0, none⟩), .func (.func 90) #[] #[.pointer (some ⟨bk, 0, none⟩), .pointer (some ⟨bx, 0, none⟩)]] W (ChosenP (fun m => ra && decide (m.2.1 = idOf ta.f)) s.M W)) := Lib.hid (fun W bk bx hk hx hW =>
    chosen89 (h.below hW) hlen (enters_of Tryz.func90 (by kernel_rfl) rfl) (fun W2 m hb => held90 ra (idOf ta.f) ((hb.block _ (Array.getElem?_eq_some_iff.1 hk).1).trans hk) ((hb.block _ (Array.getElem?_eq_some_iff.1 hx).1).trans hx) m))
  have HTo : Hid (∀ (W : World) (v : Value) (L : List Mn), RecAt mnL 12 W W.heap.size v L → L.length ≤ 100000000 → Calls Tryz.prog 88 #[v] W (ToldP L W)) := Lib.hid (fun W v L hv hl => told88 (Nat.le_refl _) hv hl)
  clear h hlen
  generalize ta.items.length = na at *
  generalize ta.f = fa at *
  have hA := nine_of (alloc_new w (cells9 fa (.slice pa na ca)))
  have hb1 := belowA (Below.refl w.heap.size w) (cells9 fa (.slice pa na ca)) (Nat.le_refl _)
  obtain ⟨ak, ai, ag, an, af, aa, ab, az⟩ := fa
  unfold aggV idV idOf at *
  unfold cells9 at *
  dsimp only at *
  have HA := Lib.hid hA
  have HB1 := Lib.hid hb1
  clear hA hb1
  go_enter Tryz.func29, Tryz.ntmps29
  go_upto_region 1 with (fail)
  generalize (w.alloc (.cells #[.int .i64 ak, .int .i64 ai, .int .i64 ag, .string an, .string af, .int .i64 aa, .slice pa na ca, .string ab, .int .i64 az] 30)) = W1 at *
  obtain ⟨x0, x1, x2, x3, x4, x5, x6, x7, x8, xf⟩ := HA.out
  dsimp only at x0 x1 x2 x3 x4 x5 x6 x7 x8
  go_wp2_with fail
  refine (HOA.out _ HB1.out).mono ?_
  rintro e W2 ⟨rfl, hb2⟩
  clear x0 x1 x2 x3 x4 x5 x6 x7 x8 xf HOA HA
  have hbw := HB1.out.trans (hb2.mono HB1.out.size)
  clear hb2
  go_upto_region 2 with (fail)
  have hX0 := alloc_new W2 (.cells #[.int .i64 ak, .string an, .int .i64 ag, .int .i64 ai] 147)
  have hb3 := belowA (Below.refl W2.heap.size W2) (.cells #[.int .i64 ak, .string an, .int .i64 ag, .int .i64 ai] 147) (Nat.le_refl _)
  have hb4 := belowA (Below.refl (W2.alloc (.cells #[.int .i64 ak, .string an, .int .i64 ag, .int .i64 ai] 147)).heap.size _) (.cells #[.bool ra] 4) (Nat.le_refl _)
  have hX := (hb4.block _ (show W2.heap.size < (W2.alloc (.cells #[.int .i64 ak, .string an, .int .i64 ag, .int .i64 ai] 147)).heap.size by rw [World.size_alloc]; omega)).trans hX0
  have hK := alloc_new (W2.alloc (.cells #[.int .i64 ak, .string an, .int .i64 ag, .int .i64 ai] 147)) (.cells #[.bool ra] 4)
  rw [World.size_alloc] at hK
  have hb5 := hbw.trans ((hb3.trans (hb4.mono hb3.size)).mono hbw.size)
  clear hX0 hb3 hb4 hbw
  generalize ((W2.alloc (.cells #[.int .i64 ak, .string an, .int .i64 ag, .int .i64 ai] 147)).alloc (.cells #[.bool ra] 4)) = W4 at *
  have HC := Lib.hid (HT.out W4 _ _ hK hX hb5)
  have HB5 := Lib.hid hb5
  have hmf : ∀ (fn : Fn) (first cap : Array Value) (w : World), (Instr.makeFunc fn first cap).run Tryz.prog w = .ok (.func fn first cap) w := fun _ _ _ _ => rfl
  clear hK hX hb5 HT
  go_wp2_with fail
  refine HC.out.mono ?_
  rintro e W5 ⟨v, L, rfl, hp, hs, hr, ho, hb⟩
  have hLl : L.length ≤ 100000000 := by
    have h1 := hp.length_eq
    have h2 := List.length_filter_le (fun m => ra && decide (m.2.1 = (ak, an, ag, ai))) (s.M.map (·.2))
    rw [List.length_map] at h2
    have h3 := HLn.out
    omega
  have HTc := Lib.hid (HTo.out W5 v L hr hLl)
  have HPp := Lib.hid hp
  have HPs := Lib.hid hs
  have HB6 := Lib.hid (HB5.out.trans (hb.mono HB5.out.size))
  clear hp hs hr ho hb hLl HC HTo
  go_wp2_with fail
  refine HTc.out.mono ?_
  rintro e W6 ⟨v', rfl, hown, hb⟩
  have HO := Lib.hid hown
  have HB7 := Lib.hid (HB6.out.trans (hb.mono HB6.out.size))
  clear hown hb HTc
  go_wp2_with fail
  go_ret
  exact ⟨_, L, rfl, HPp.out, HPs.out, HO.out.base (fun k hk => Nat.le_trans HB6.out.size (HO.out.lt hk).1), HB7.out⟩
theorem watched91 {w : World} {bk bx : Nat} (ok : Bool) (x : Id) (hk : w.heap[bk]? = some (.cells #[.bool ok] 4)) (hx : w.heap[bx]? = some (.cells #[.int .i64 x.1, .string x.2.1, .int .i64 x.2.2.1, .int .i64 x.2.2.2] 147)) (m : Mn) : Calls Tryz.prog 91 #[mnV m, .pointer (some ⟨bk, 0, none⟩), .pointer (some ⟨bx, 0, none⟩)] w fun e w' => e = .returned (.bool (ok && decide (m.2.2 = x))) ∧ Below w.heap.size w w' := by
  obtain ⟨u1, u2, u3, u4⟩ := x
  obtain ⟨⟨x1, x2, x3, x4⟩, ⟨y1, y2, y3, y4⟩, ⟨v1, v2, v3, v4⟩⟩ := m
  have hq := eqlId (v1, v2, v3, v4) (u1, u2, u3, u4)
  have hlt : bx < w.heap.size := (Array.getElem?_eq_some_iff.1 hx).1
  have hltk : bk < w.heap.size := (Array.getElem?_eq_some_iff.1 hk).1
  have hb := belowA (Below.refl w.heap.size w) (.cells #[.int .i64 x1, .string x2, .int .i64 x3, .int .i64 x4, .int .i64 y1, .string y2, .int .i64 y3, .int .i64 y4, .int .i64 v1, .string v2, .int .i64 v3, .int .i64 v4] 162) (Nat.le_refl _)
  have hn := alloc_new w (.cells #[.int .i64 x1, .string x2, .int .i64 x3, .int .i64 x4, .int .i64 y1, .string y2, .int .i64 y3, .int .i64 y4, .int .i64 v1, .string v2, .int .i64 v3, .int .i64 v4] 162)
  have hx' := (hb.block _ hlt).trans hx
  have hk' := (hb.block _ hltk).trans hk
  unfold idV at hq
  unfold mnV
  dsimp only at *
  generalize decide ((v1, v2, v3, v4) = (u1, u2, u3, u4)) = q at *
  have HB := Lib.hid hb
  clear hb hx hlt hk hltk
  go_enter Tryz.func91, Tryz.ntmps91
  go_upto_region 1 with (fail)
  generalize (w.alloc (.cells #[.int .i64 x1, .string x2, .int .i64 x3, .int .i64 x4, .int .i64 y1, .string y2, .int .i64 y3, .int .i64 y4, .int .i64 v1, .string v2, .int .i64 v3, .int .i64 v4] 162)) = W1 at *
  obtain ⟨p0, p1, p2, p3, p4, p5, p6, p7, p8, p9, p10, p11, pf⟩ := cells12 hn
  obtain ⟨b0, b1, b2, b3, bf⟩ := four_cells hx'
  have k0 : W1.cell? ⟨bk, 0, none⟩ = some (.bool ok) := by simp only [World.cell?, hk']; rfl
  cases ok
  · go_wp2_with fail
    go_ret
    exact ⟨rfl, HB.out⟩
  · go_wp2_with fail
    go_ret
    exact ⟨rfl, HB.out⟩
theorem watched30 {n : Nat} {w : World} {z mh mm : Nat} {s : LkSt} (h : LkAt w z mh mm s) (hlen : s.M.length ≤ 100000000) (B : Nat) (va : Value) (ta : Tm (n + 1)) (hB : B ≤ w.heap.size) (ha : ItemsAt w B n va ta.items) (sa : 300 * (nodesT ta : Int) ≤ 1000000000000) :
    Calls Tryz.prog 30 #[.pointer (some ⟨z, 0, none⟩), aggV ta.f va] w (HeldP (decide (ta.f.kind = 6) && validT ta) (fun m => decide (m.2.2 = idOf ta.f)) s.M w) := by
  have HOA := Lib.hid (fun W (hW : Below w.heap.size w W) => of86 W B va ta 6 (Nat.le_trans hB hW.size) (ha.below hW hB) sa)
  have HLn := Lib.hid hlen
  obtain ⟨pa, ca, rfl, _, _⟩ := ha.shape
  clear ha sa hB
  generalize (decide (ta.f.kind = 6) && validT ta) = ra at *
  have HT : Hid (∀ (W : World) (bk bx : Nat), W.heap[bk]? = some (.cells #[.bool ra] 4) → W.heap[bx]? = some (.cells #[.int .i64 (idOf ta.f).1, .string (idOf ta.f).2.1, .int .i64 (idOf ta.f).2.2.1, .int .i64 (idOf ta.f).2.2.2] 147) → Below w.heap.size w W → Calls Tryz.prog 89 #[.pointer (some ⟨z, 0, none⟩), .func (.func 91) #[] #[.pointer (some ⟨bk, 0, none⟩), .pointer (some ⟨bx, 0, none⟩)]] W (ChosenP (fun m => ra && decide (m.2.2 = idOf ta.f)) s.M W)) := Lib.hid (fun W bk bx hk hx hW =>
    chosen89 (h.below hW) hlen (enters_of Tryz.func91 (by kernel_rfl) rfl) (fun W2 m hb => watched91 ra (idOf ta.f) ((hb.block _ (Array.getElem?_eq_some_iff.1 hk).1).trans hk) ((hb.block _ (Array.getElem?_eq_some_iff.1 hx).1).trans hx) m))
  have HTo : Hid (∀ (W : World) (v : Value) (L : List Mn), RecAt mnL 12 W W.heap.size v L → L.length ≤ 100000000 → Calls Tryz.prog 88 #[v] W (ToldP L W)) := Lib.hid (fun W v L hv hl => told88 (Nat.le_refl _) hv hl)
  clear h hlen
  generalize ta.items.length = na at *
  generalize ta.f = fa at *
  have hA := nine_of (alloc_new w (cells9 fa (.slice pa na ca)))
  have hb1 := belowA (Below.refl w.heap.size w) (cells9 fa (.slice pa na ca)) (Nat.le_refl _)
  obtain ⟨ak, ai, ag, an, af, aa, ab, az⟩ := fa
  unfold aggV idV idOf at *
  unfold cells9 at *
  dsimp only at *
  have HA := Lib.hid hA
  have HB1 := Lib.hid hb1
  clear hA hb1
  go_enter Tryz.func30, Tryz.ntmps30
  go_upto_region 1 with (fail)
  generalize (w.alloc (.cells #[.int .i64 ak, .int .i64 ai, .int .i64 ag, .string an, .string af, .int .i64 aa, .slice pa na ca, .string ab, .int .i64 az] 30)) = W1 at *
  obtain ⟨x0, x1, x2, x3, x4, x5, x6, x7, x8, xf⟩ := HA.out
  dsimp only at x0 x1 x2 x3 x4 x5 x6 x7 x8
  go_wp2_with fail
  refine (HOA.out _ HB1.out).mono ?_
  rintro e W2 ⟨rfl, hb2⟩
  clear x0 x1 x2 x3 x4 x5 x6 x7 x8 xf HOA HA
  have hbw := HB1.out.trans (hb2.mono HB1.out.size)
  clear hb2
  go_upto_region 2 with (fail)
  have hX0 := alloc_new W2 (.cells #[.int .i64 ak, .string an, .int .i64 ag, .int .i64 ai] 147)
  have hb3 := belowA (Below.refl W2.heap.size W2) (.cells #[.int .i64 ak, .string an, .int .i64 ag, .int .i64 ai] 147) (Nat.le_refl _)
  have hb4 := belowA (Below.refl (W2.alloc (.cells #[.int .i64 ak, .string an, .int .i64 ag, .int .i64 ai] 147)).heap.size _) (.cells #[.bool ra] 4) (Nat.le_refl _)
  have hX := (hb4.block _ (show W2.heap.size < (W2.alloc (.cells #[.int .i64 ak, .string an, .int .i64 ag, .int .i64 ai] 147)).heap.size by rw [World.size_alloc]; omega)).trans hX0
  have hK := alloc_new (W2.alloc (.cells #[.int .i64 ak, .string an, .int .i64 ag, .int .i64 ai] 147)) (.cells #[.bool ra] 4)
  rw [World.size_alloc] at hK
  have hb5 := hbw.trans ((hb3.trans (hb4.mono hb3.size)).mono hbw.size)
  clear hX0 hb3 hb4 hbw
  generalize ((W2.alloc (.cells #[.int .i64 ak, .string an, .int .i64 ag, .int .i64 ai] 147)).alloc (.cells #[.bool ra] 4)) = W4 at *
  have HC := Lib.hid (HT.out W4 _ _ hK hX hb5)
  have HB5 := Lib.hid hb5
  have hmf : ∀ (fn : Fn) (first cap : Array Value) (w : World), (Instr.makeFunc fn first cap).run Tryz.prog w = .ok (.func fn first cap) w := fun _ _ _ _ => rfl
  clear hK hX hb5 HT
  go_wp2_with fail
  refine HC.out.mono ?_
  rintro e W5 ⟨v, L, rfl, hp, hs, hr, ho, hb⟩
  have hLl : L.length ≤ 100000000 := by
    have h1 := hp.length_eq
    have h2 := List.length_filter_le (fun m => ra && decide (m.2.2 = (ak, an, ag, ai))) (s.M.map (·.2))
    rw [List.length_map] at h2
    have h3 := HLn.out
    omega
  have HTc := Lib.hid (HTo.out W5 v L hr hLl)
  have HPp := Lib.hid hp
  have HPs := Lib.hid hs
  have HB6 := Lib.hid (HB5.out.trans (hb.mono HB5.out.size))
  clear hp hs hr ho hb hLl HC HTo
  go_wp2_with fail
  refine HTc.out.mono ?_
  rintro e W6 ⟨v', rfl, hown, hb⟩
  have HO := Lib.hid hown
  have HB7 := Lib.hid (HB6.out.trans (hb.mono HB6.out.size))
  clear hown hb HTc
  go_wp2_with fail
  go_ret
  exact ⟨_, L, rfl, HPp.out, HPs.out, HO.out.base (fun k hk => Nat.le_trans HB6.out.size (HO.out.lt hk).1), HB7.out⟩
end Go.Proofs.YtnakbepcalciiaaGreat.lk
/- Watch. Conditions: the object was made by New; the terms lie in memory. -/
namespace Go.Proofs.YtnakbepcalciiaaGreat.lk
open Go.RowKit mem rec tm names pm
set_option linter.unusedVariables false
set_option linter.unusedSimpArgs false
set_option maxHeartbeats 4000000
set_option maxRecDepth 100000
def okW (s : LkSt) (a b c : Bool) (y t : Id) : Bool := a && (b && (c && (locB s.node s.gen y || locB s.node s.gen t)))
def watchE (ok : Bool) (s : LkSt) (r : Id) : Int := if ok then (if (pFind s.M r).isSome then 8 else 0) else 2
def watchS (ok : Bool) (s : LkSt) (r y t : Id) : LkSt := if ok then (if (pFind s.M r).isSome then s else { s with M := pPut s.M r (r, y, t) }) else s
def WatchP (ok : Bool) (s : LkSt) (r y t : Id) (z mh mm : Nat) (w : World) (e : Ending) (w' : World) : Prop := e = .returned (.int .i64 (watchE ok s r)) ∧ LkAt w' z mh mm (watchS ok s r y t) ∧ TouchB (LkS z mh mm) w w'
theorem putM_run {w : World} {z mh mm : Nat} {s : LkSt} (h : LkAt w z mh mm s) (r : Id) (m : Mn) : ∃ w', (Instr.mapUpdate 83 (.map (some mm)) (idV r) (mnV m)).run Tryz.prog w = .ok () w' ∧ LkAt w' z mh mm { s with M := pPut s.M r m } ∧ TouchB (fun i => i = mm) w w' ∧ w'.heap.size = w.heap.size := by
  obtain ⟨w', h1, h2, h3, h4⟩ := run_mapUpdate_any (P := Tryz.prog) key_id Tryz.underlying83 h.mo r (mnV m)
  exact ⟨w', h1, h.putM h2 h3, h3, h4⟩
theorem delM_run {w : World} {z mh mm : Nat} {s : LkSt} (h : LkAt w z mh mm s) (r : Id) : ∃ w', (Builtin.delete_ #[83, 147] 0 #[.map (some mm), idV r]).run Tryz.prog w = .ok (.tuple #[]) w' ∧ LkAt w' z mh mm { s with M := pDel s.M r } ∧ TouchB (fun i => i = mm) w w' ∧ w'.heap.size = w.heap.size := by
  obtain ⟨w', h1, h2, h3, h4⟩ := run_delete_any (P := Tryz.prog) (ty := 0) (at1 := 147) key_id Tryz.underlying83 h.mo r
  exact ⟨w', h1, h.delM h2 h3, h3, h4⟩
/-- a monitor as three terms -/
def monV (fr fw ft : TF) (vr vw vt : Value) : Value := .agg #[.int .i64 fr.kind, .int .i64 fr.int, .int .i64 fr.gen, .string fr.name, .string fr.func, .int .i64 fr.arity, vr, .string fr.bytes, .int .i64 fr.bits, .int .i64 fw.kind, .int .i64 fw.int, .int .i64 fw.gen, .string fw.name, .string fw.func, .int .i64 fw.arity, vw, .string fw.bytes, .int .i64 fw.bits, .int .i64 ft.kind, .int .i64 ft.int, .int .i64 ft.gen, .string ft.name, .string ft.func, .int .i64 ft.arity, vt, .string ft.bytes, .int .i64 ft.bits]
theorem watch27 {n1 n2 n3 : Nat} {w : World} {z mh mm : Nat} {s : LkSt} (h : LkAt w z mh mm s) (B : Nat) (vr vw vt : Value) (tr : Tm (n1 + 1)) (tw : Tm (n2 + 1)) (tt : Tm (n3 + 1)) (hB : B ≤ w.heap.size) (h1 : ItemsAt w B n1 vr tr.items) (h2 : ItemsAt w B n2 vw tw.items) (h3 : ItemsAt w B n3 vt tt.items) (s1 : 300 * (nodesT tr : Int) ≤ 1000000000000) (s2 : 300 * (nodesT tw : Int) ≤ 1000000000000) (s3 : 300 * (nodesT tt : Int) ≤ 1000000000000) :
    Calls Tryz.prog 27 #[.pointer (some ⟨z, 0, none⟩), monV tr.f tw.f tt.f vr vw vt] w (WatchP (okW s (decide (tr.f.kind = 3) && validT tr) (decide (tw.f.kind = 6) && validT tw) (decide (tt.f.kind = 6) && validT tt) (idOf tw.f) (idOf tt.f)) s (idOf tr.f) (idOf tw.f) (idOf tt.f) z mh mm w) := by
  have HR := Lib.hid (fun W (hW : Below w.heap.size w W) => of86 W B vr tr 3 (Nat.le_trans hB hW.size) (h1.below hW hB) s1)
  have HW := Lib.hid (fun W (hW : Below w.heap.size w W) => of86 W B vw tw 6 (Nat.le_trans hB hW.size) (h2.below hW hB) s2)
  have HT := Lib.hid (fun W (hW : Below w.heap.size w W) => of86 W B vt tt 6 (Nat.le_trans hB hW.size) (h3.below hW hB) s3)
  have HN := Lib.hid (fun W (hW : Below w.heap.size w W) => none85 (h.below hW).obj)
  have HLw := Lib.hid (fun W (hW : Below w.heap.size w W) => local80 (h.below hW).obj (idOf tw.f))
  have HLt := Lib.hid (fun W (hW : Below w.heap.size w W) => local80 (h.below hW).obj (idOf tt.f))
  have H0 := Lib.hid h
  obtain ⟨pr, cr, rfl, _, _⟩ := h1.shape
  obtain ⟨pw, cw, rfl, _, _⟩ := h2.shape
  obtain ⟨pt, ct, rfl, _, _⟩ := h3.shape
  clear h h1 h2 h3 s1 s2 s3 hB
  obtain ⟨ok, hok⟩ : ∃ ok, okW s (decide (tr.f.kind = 3) && validT tr) (decide (tw.f.kind = 6) && validT tw) (decide (tt.f.kind = 6) && validT tt) (idOf tw.f) (idOf tt.f) = ok := ⟨_, rfl⟩
  rw [hok]
  unfold okW at hok
  generalize (decide (tr.f.kind = 3) && validT tr) = ra at *
  generalize (decide (tw.f.kind = 6) && validT tw) = rb at *
  generalize (decide (tt.f.kind = 6) && validT tt) = rc at *
  generalize tr.items.length = nr at *
  generalize tw.items.length = nw at *
  generalize tt.items.length = nt at *
  generalize tr.f = fr at *
  generalize tw.f = fw at *
  generalize tt.f = ft at *
  have HE0 : Hid (ok = false → watchE ok s (idOf fr) = 2 ∧ watchS ok s (idOf fr) (idOf fw) (idOf ft) = s) := Lib.hid (fun h => by unfold watchE watchS; rw [h]; exact ⟨rfl, rfl⟩)
  have HE1 : Hid (ok = true → (pFind s.M (idOf fr)).isSome = true → watchE ok s (idOf fr) = 8 ∧ watchS ok s (idOf fr) (idOf fw) (idOf ft) = s) := Lib.hid (fun h h' => by unfold watchE watchS; rw [h, h']; exact ⟨rfl, rfl⟩)
  have HE2 : Hid (ok = true → (pFind s.M (idOf fr)).isSome = false → watchE ok s (idOf fr) = 0 ∧ watchS ok s (idOf fr) (idOf fw) (idOf ft) = { s with M := pPut s.M (idOf fr) (idOf fr, idOf fw, idOf ft) }) := Lib.hid (fun h h' => by unfold watchE watchS; rw [h, h']; exact ⟨rfl, rfl⟩)
  generalize locB s.node s.gen (idOf fw) = lw at *
  generalize locB s.node s.gen (idOf ft) = lt at *
  have HOK := Lib.hid hok
  clear hok
  obtain ⟨rk, ri, rg, rn, rf, ra_, rb_, rz⟩ := fr
  obtain ⟨wk, wi, wg, wn, wf, wa_, wb_, wz⟩ := fw
  obtain ⟨tk, ti, tg, tn, tf, ta_, tb_, tz⟩ := ft
  unfold WatchP
  unfold monV aggV idV idOf at *
  dsimp only at *
  have hx := alloc_new w (.cells #[.int .i64 rk, .int .i64 ri, .int .i64 rg, .string rn, .string rf, .int .i64 ra_, .slice pr nr cr, .string rb_, .int .i64 rz, .int .i64 wk, .int .i64 wi, .int .i64 wg, .string wn, .string wf, .int .i64 wa_, .slice pw nw cw, .string wb_, .int .i64 wz, .int .i64 tk, .int .i64 ti, .int .i64 tg, .string tn, .string tf, .int .i64 ta_, .slice pt nt ct, .string tb_, .int .i64 tz] 47)
  have hb1 := belowA (Below.refl w.heap.size w) (.cells #[.int .i64 rk, .int .i64 ri, .int .i64 rg, .string rn, .string rf, .int .i64 ra_, .slice pr nr cr, .string rb_, .int .i64 rz, .int .i64 wk, .int .i64 wi, .int .i64 wg, .string wn, .string wf, .int .i64 wa_, .slice pw nw cw, .string wb_, .int .i64 wz, .int .i64 tk, .int .i64 ti, .int .i64 tg, .string tn, .string tf, .int .i64 ta_, .slice pt nt ct, .string tb_, .int .i64 tz] 47) (Nat.le_refl _)
  have hlx : w.heap.size < (w.alloc (.cells #[.int .i64 rk, .int .i64 ri, .int .i64 rg, .string rn, .string rf, .int .i64 ra_, .slice pr nr cr, .string rb_, .int .i64 rz, .int .i64 wk, .int .i64 wi, .int .i64 wg, .string wn, .string wf, .int .i64 wa_, .slice pw nw cw, .string wb_, .int .i64 wz, .int .i64 tk, .int .i64 ti, .int .i64 tg, .string tn, .string tf, .int .i64 ta_, .slice pt nt ct, .string tb_, .int .i64 tz] 47)).heap.size := by rw [World.size_alloc]; omega
  have HB1 := Lib.hid hb1
  have HX := Lib.hid hx
  clear hx hb1
  go_enter Tryz.func27, Tryz.ntmps27
  go_wp2_with fail
  refine (HN.out _ HB1.out).mono ?_
  rintro e w1 ⟨rfl, hw1⟩
  subst hw1
  clear HN
  go_upto_region 3 with (fail)
  generalize (w.alloc (.cells #[.int .i64 rk, .int .i64 ri, .int .i64 rg, .string rn, .string rf, .int .i64 ra_, .slice pr nr cr, .string rb_, .int .i64 rz, .int .i64 wk, .int .i64 wi, .int .i64 wg, .string wn, .string wf, .int .i64 wa_, .slice pw nw cw, .string wb_, .int .i64 wz, .int .i64 tk, .int .i64 ti, .int .i64 tg, .string tn, .string tf, .int .i64 ta_, .slice pt nt ct, .string tb_, .int .i64 tz] 47)) = W1 at *
  have HZ := Lib.hid (fun W (hW : Below W1.heap.size W1 W) => cells27 ((hW.block _ hlx).trans HX.out))
  obtain ⟨m0, m1, m2, m3, m4, m5, m6, m7, m8, m9, m10, m11, m12, m13, m14, m15, m16, m17, m18, m19, m20, m21, m22, m23, m24, m25, m26, cf⟩ := HZ.out _ (Below.refl _ _)
  go_wp2_with fail
  refine (HR.out _ HB1.out).mono ?_
  rintro e W2 ⟨rfl, hb⟩
  clear m0 m1 m2 m3 m4 m5 m6 m7 m8 m9 m10 m11 m12 m13 m14 m15 m16 m17 m18 m19 m20 m21 m22 m23 m24 m25 m26 cf HR
  go_upto_region 4 with (fail)
  have hzr := alloc_new W2 (.cells #[.int .i64 rk, .string rn, .int .i64 rg, .int .i64 ri] 147)
  have hbr := belowA hb (.cells #[.int .i64 rk, .string rn, .int .i64 rg, .int .i64 ri] 147) hb.size
  have hlzr : W2.heap.size < (W2.alloc (.cells #[.int .i64 rk, .string rn, .int .i64 rg, .int .i64 ri] 147)).heap.size := by rw [World.size_alloc]; omega
  have hgzr := hb.size
  clear hb
  generalize (W2.alloc (.cells #[.int .i64 rk, .string rn, .int .i64 rg, .int .i64 ri] 147)) = W3 at *
  generalize W2.heap.size = zr at *
  have hbs1 := hbr
  have HB2 := Lib.hid (HB1.out.trans (hbs1.mono HB1.out.size))
  obtain ⟨m0, m1, m2, m3, m4, m5, m6, m7, m8, m9, m10, m11, m12, m13, m14, m15, m16, m17, m18, m19, m20, m21, m22, m23, m24, m25, m26, cf⟩ := HZ.out _ hbs1
  go_wp2_with fail
  refine (HW.out _ HB2.out).mono ?_
  rintro e W4 ⟨rfl, hb⟩
  clear m0 m1 m2 m3 m4 m5 m6 m7 m8 m9 m10 m11 m12 m13 m14 m15 m16 m17 m18 m19 m20 m21 m22 m23 m24 m25 m26 cf HW
  go_upto_region 5 with (fail)
  have hzw := alloc_new W4 (.cells #[.int .i64 wk, .string wn, .int .i64 wg, .int .i64 wi] 147)
  have hbw := belowA hb (.cells #[.int .i64 wk, .string wn, .int .i64 wg, .int .i64 wi] 147) hb.size
  have hlzw : W4.heap.size < (W4.alloc (.cells #[.int .i64 wk, .string wn, .int .i64 wg, .int .i64 wi] 147)).heap.size := by rw [World.size_alloc]; omega
  have hgzw := hb.size
  clear hb
  generalize (W4.alloc (.cells #[.int .i64 wk, .string wn, .int .i64 wg, .int .i64 wi] 147)) = W5 at *
  generalize W4.heap.size = zw at *
  have hbs2 := hbs1.trans (hbw.mono hbs1.size)
  have HB3 := Lib.hid (HB1.out.trans (hbs2.mono HB1.out.size))
  obtain ⟨m0, m1, m2, m3, m4, m5, m6, m7, m8, m9, m10, m11, m12, m13, m14, m15, m16, m17, m18, m19, m20, m21, m22, m23, m24, m25, m26, cf⟩ := HZ.out _ hbs2
  go_wp2_with fail
  refine (HT.out _ HB3.out).mono ?_
  rintro e W6 ⟨rfl, hb⟩
  clear m0 m1 m2 m3 m4 m5 m6 m7 m8 m9 m10 m11 m12 m13 m14 m15 m16 m17 m18 m19 m20 m21 m22 m23 m24 m25 m26 cf HT
  go_upto_region 6 with (fail)
  have hzt := alloc_new W6 (.cells #[.int .i64 tk, .string tn, .int .i64 tg, .int .i64 ti] 147)
  have hbt := belowA hb (.cells #[.int .i64 tk, .string tn, .int .i64 tg, .int .i64 ti] 147) hb.size
  have hlzt : W6.heap.size < (W6.alloc (.cells #[.int .i64 tk, .string tn, .int .i64 tg, .int .i64 ti] 147)).heap.size := by rw [World.size_alloc]; omega
  have hgzt := hb.size
  clear hb
  generalize (W6.alloc (.cells #[.int .i64 tk, .string tn, .int .i64 tg, .int .i64 ti] 147)) = W7 at *
  generalize W6.heap.size = zt at *
  have hbs3 := hbs2.trans (hbt.mono hbs2.size)
  have HB4 := Lib.hid (HB1.out.trans (hbs3.mono HB1.out.size))
  have hzr7 := ((hbt.block _ (Nat.lt_of_lt_of_le hlzr hbw.size)).trans (hbw.block _ hlzr)).trans hzr
  have hzw7 := (hbt.block _ hlzw).trans hzw
  have hrl : zr < W7.heap.size := Nat.lt_of_lt_of_le (Nat.lt_of_lt_of_le hlzr hbw.size) hbt.size
  have hwl : zw < W7.heap.size := Nat.lt_of_lt_of_le hlzw hbt.size
  have HRa := Lib.hid (fun W (hW : Below W7.heap.size W7 W) => four_cells ((hW.block _ hrl).trans hzr7))
  have HWa := Lib.hid (fun W (hW : Below W7.heap.size W7 W) => four_cells ((hW.block _ hwl).trans hzw7))
  have HTa := Lib.hid (fun W (hW : Below W7.heap.size W7 W) => four_cells ((hW.block _ hlzt).trans hzt))
  have HS7 := Lib.hid (H0.out.below HB4.out)
  have HL1 := Lib.hid (fun W (hW : Below W7.heap.size W7 W) => HLw.out W (HB4.out.trans (hW.mono HB4.out.size)))
  have HL2 := Lib.hid (fun W (hW : Below W7.heap.size W7 W) => HLt.out W (HB4.out.trans (hW.mono HB4.out.size)))
  have HG : Hid (w.heap.size ≤ zr ∧ w.heap.size ≤ zw ∧ w.heap.size ≤ zt) := Lib.hid ⟨by have := HB1.out.size; omega, by have := HB1.out.size; have := hbr.size; omega, by have := HB1.out.size; have := hbr.size; have := hbw.size; omega⟩
  have hg : zr < zw ∧ zw < zt := ⟨by omega, by omega⟩
  clear hbs1 hbs2 hbs3 hbr hbw hbt hzr hzw hzt hzr7 hzw7 hlzr hlzw HLw HLt HZ HX hgzr hgzw hgzt HB2 HB3 hlx
  go_cut [54] from 33 to 54 (fun v wc => v = .bool (!ok) ∧ Below W7.heap.size W7 wc)
  case first =>
    obtain ⟨a0, a1, a2, a3, af'⟩ := HWa.out _ (Below.refl _ _)
    obtain ⟨b0, b1, b2, b3, bf'⟩ := HTa.out _ (Below.refl _ _)
    cases ra
    · go_wp2_with fail
      go_meet
      exact ⟨by rw [← HOK.out]; rfl, Below.refl _ _⟩
    cases rb
    · go_wp2_with fail
      go_meet
      exact ⟨by rw [← HOK.out]; rfl, Below.refl _ _⟩
    cases rc
    · go_wp2_with fail
      go_meet
      exact ⟨by rw [← HOK.out]; rfl, Below.refl _ _⟩
    go_wp2_with fail
    refine (HL1.out _ (Below.refl _ _)).mono ?_
    rintro e W8 ⟨rfl, hb8⟩
    clear a0 a1 a2 a3 af' b0 b1 b2 b3 bf'
    obtain ⟨b0, b1, b2, b3, bf'⟩ := HTa.out _ hb8
    cases lw
    · go_wp2_with fail
      refine (HL2.out _ hb8).mono ?_
      rintro e W9 ⟨rfl, hb9⟩
      go_wp2_with fail
      go_meet
      exact ⟨by rw [← HOK.out]; cases lt <;> rfl, hb8.trans (hb9.mono hb8.size)⟩
    · go_wp2_with fail
      go_meet
      exact ⟨by rw [← HOK.out]; rfl, hb8⟩
  case rest =>
    obtain ⟨hv, hb8⟩ := hcut
    cases ok
    · have hv : u54 = .bool true := hv
      subst hv
      go_wp2_with fail
      go_ret
      exact ⟨by rw [(HE0.out (by simp)).1]; rfl, by rw [(HE0.out (by simp)).2]; exact HS7.out.below hb8, touch_trans (touch_of HB4.out) (touch_of hb8)⟩
    · have hv : u54 = .bool false := hv
      subst hv
      go_upto_region 8 with (fail)
      have HS8 := Lib.hid (fun W (hW : Below wc.heap.size wc W) => HS7.out.below (hb8.trans (hW.mono hb8.size)))
      have HM := Lib.hid (fun W (hW : Below wc.heap.size wc W) => map83 (HS7.out.below (hb8.trans (hW.mono hb8.size))) (rk, rn, rg, ri))
      have HRb := Lib.hid (fun W (hW : Below wc.heap.size wc W) => HRa.out W (hb8.trans (hW.mono hb8.size)))
      have HWb := Lib.hid (fun W (hW : Below wc.heap.size wc W) => HWa.out W (hb8.trans (hW.mono hb8.size)))
      have HTb := Lib.hid (fun W (hW : Below wc.heap.size wc W) => HTa.out W (hb8.trans (hW.mono hb8.size)))
      have HB8 := Lib.hid (HB4.out.trans (hb8.mono HB4.out.size))
      have HZ8 : Hid (zt < wc.heap.size) := Lib.hid (Nat.lt_of_lt_of_le hlzt hb8.size)
      clear hb8 HRa HWa HTa HL1 HL2 HS7
      obtain ⟨⟨⟨d1, d2, d3, d4⟩, ⟨d5, d6, d7, d8⟩, ⟨d9, d10, d11, d12⟩⟩, hm0⟩ : ∃ m0 : Mn, (pFind s.M (rk, rn, rg, ri)).getD zMn = m0 := ⟨_, rfl⟩
      unfold idV at HM
      dsimp only at HM
      simp only [hm0] at HM
      unfold mnV at HM
      dsimp only at HM
      clear hm0
      generalize (pFind s.M (rk, rn, rg, ri)).isSome = kn at *
      go_cut [12] from 55 to 63 (fun v wd => v = .bool kn ∧ Below wc.heap.size wc wd)
      case first =>
        have hl0 := HM.out _ (belowD (Below.refl _ _))
        have hl1 := fun o => HM.out _ (belowDA (w := wc) o)
        obtain ⟨a0, a1, a2, a3, af'⟩ := HRb.out _ (Below.refl _ _)
        obtain ⟨c0, c1, c2, c3, c4, cf⟩ := five_cells (HS8.out _ (Below.refl _ _)).obj
        go_region_held3 (fun w' => w'.cell? ⟨z, 4, none⟩ = some (.map (some mm)) ∧ w'.cell? ⟨zr, 0, none⟩ = some (.int .i64 rk) ∧ w'.cell? ⟨zr, 1, none⟩ = some (.string rn) ∧ w'.cell? ⟨zr, 2, none⟩ = some (.int .i64 rg) ∧ w'.cell? ⟨zr, 3, none⟩ = some (.int .i64 ri)) (go_keep) (fail)
        all_goals
          go_wp2_with fail
          go_meet
          refine ⟨rfl, ?_⟩
          (repeat' (first | with_reducible exact Below.refl _ _ | with_reducible refine belowD ?_ | with_reducible refine belowA ?_ _ (Nat.le_refl _) | with_reducible refine Below.setCell ?_ ?_ _ | exact Nat.le_refl _))
      case rest =>
        obtain ⟨rfl, hbd⟩ := hcut
        have HBd := Lib.hid (HB8.out.trans (hbd.mono HB8.out.size))
        have HSd := Lib.hid (HS8.out _ hbd)
        cases kn
        · go_upto_region 11 with (fail)
          have HSe := Lib.hid (HS8.out _ (belowD hbd))
          obtain ⟨W9, hrun9, h9, ht9, hs9⟩ := putM_run HSe.out (rk, rn, rg, ri) ((rk, rn, rg, ri), (wk, wn, wg, wi), (tk, tn, tg, ti))
          obtain ⟨c0, c1, c2, c3, c4, cf⟩ := five_cells HSd.out.obj
          obtain ⟨a0, a1, a2, a3, af'⟩ := HRb.out _ hbd
          obtain ⟨e0, e1, e2, e3, ef'⟩ := HWb.out _ hbd
          obtain ⟨b0, b1, b2, b3, bf'⟩ := HTb.out _ hbd
          unfold idV mnV at hrun9
          dsimp only at hrun9
          have HS9 := Lib.hid h9
          have HT9 : Hid (TouchB (LkS z mh mm) w W9) := Lib.hid (touch_trans (touch_of HBd.out) (touch_trans (touch_of (belowD (Below.refl _ _))) (touch_mm ht9)))
          clear h9 ht9 hs9
          go_still_tail 9, (by kernel_rfl)
          go_wp2_with fail
          go_ret
          exact ⟨by rw [(HE2.out (by simp) (by simp)).1]; rfl, by rw [(HE2.out (by simp) (by simp)).2]; exact HS9.out, HT9.out⟩
        · go_wp2_with fail
          go_ret
          exact ⟨by rw [(HE1.out (by simp) (by simp)).1]; rfl, by rw [(HE1.out (by simp) (by simp)).2]; exact HSd.out, touch_of HBd.out⟩
end Go.Proofs.YtnakbepcalciiaaGreat.lk
/- The methods at processes and refs that are known; pid. Conditions: as said. -/
namespace Go.Proofs.YtnakbepcalciiaaGreat.lk
open Go.RowKit mem rec tm names pm
set_option linter.unusedVariables false
set_option linter.unusedSimpArgs false
set_option maxHeartbeats 4000000
set_option maxRecDepth 100000
theorem of_ok {k : Int} (hk : k = 3 ∨ k = 6) (x : Id) : (decide ((tmI x).f.kind = k) && validT (tmI x)) = okI k x := by
  by_cases h : x.1 = k
  · have h1 : (tmI x).f.kind = k := h
    rw [decide_eq_true h1, Bool.true_and, Bool.eq_iff_iff, valid_id hk h1]
    exact ⟨fun h => h.2.2, fun h => ⟨rfl, rfl, h⟩⟩
  · have h1 : ¬ (tmI x).f.kind = k := h
    have h2 : okI k x = false := by unfold okI; rw [decide_eq_false h]; rfl
    rw [decide_eq_false h1, h2]
    rfl
/-- an identity as the value of a term -/
def idA (x : Id) : Value := .agg #[.int .i64 x.1, .int .i64 x.2.2.2, .int .i64 x.2.2.1, .string x.2.1, .string ⟨#[]⟩, .int .i64 0, .slice none 0 0, .string ⟨#[]⟩, .int .i64 0]
theorem idA_eq (x : Id) : aggV (tmI x).f nilV = idA x := rfl
theorem nodesI (x : Id) : 300 * (nodesT (tmI x) : Int) ≤ 1000000000000 := by rw [nodes_tmI]; decide
theorem nilI (W : World) (x : Id) : ItemsAt W 0 0 nilV (tmI x).items := ⟨none, 0, rfl, Nat.zero_le _⟩
section
variable {w : World} {z mh mm : Nat} {s : LkSt}
theorem joinI (h : LkAt w z mh mm s) (x y : Id) : Calls Tryz.prog 20 #[.pointer (some ⟨z, 0, none⟩), idA x, idA y] w (JoinP (pairB s.node s.gen false (okI 6 x) (okI 6 y) x y) s (joinS s x y) (sendB s x y) z mh mm w) := by
  have := join20 h 0 nilV nilV (tmI x) (tmI y) (Nat.zero_le _) (nilI w x) (nilI w y) (nodesI x) (nodesI y)
  rw [of_ok (.inr rfl), of_ok (.inr rfl)] at this
  exact this
theorem partI (h : LkAt w z mh mm s) (x y : Id) (h0 : 0 ≤ s.last) (h1 : s.last ≤ 1000000000000) : Calls Tryz.prog 18 #[.pointer (some ⟨z, 0, none⟩), idA x, idA y] w (PartP (pairB s.node s.gen false (okI 6 x) (okI 6 y) x y) (partN s x y) (partB s x y) s (partS s x y) z mh mm w) := by
  have := part18 h 0 nilV nilV (tmI x) (tmI y) (Nat.zero_le _) (nilI w x) (nilI w y) (nodesI x) (nodesI y) h0 h1
  rw [of_ok (.inr rfl), of_ok (.inr rfl)] at this
  exact this
theorem cameI (h : LkAt w z mh mm s) (x y : Id) : Calls Tryz.prog 41 #[.pointer (some ⟨z, 0, none⟩), idA x, idA y] w (LeftP (pairB s.node s.gen true (okI 6 x) (okI 6 y) x y) s (cameS s x y) z mh mm w) := by
  have := came41 h 0 nilV nilV (tmI x) (tmI y) (Nat.zero_le _) (nilI w x) (nilI w y) (nodesI x) (nodesI y)
  rw [of_ok (.inr rfl), of_ok (.inr rfl)] at this
  exact this
theorem leftI (h : LkAt w z mh mm s) (x y : Id) : Calls Tryz.prog 49 #[.pointer (some ⟨z, 0, none⟩), idA x, idA y] w (LeftP (pairB s.node s.gen true (okI 6 x) (okI 6 y) x y) s (fellS s x y) z mh mm w) := by
  have := left49 h 0 nilV nilV (tmI x) (tmI y) (Nat.zero_le _) (nilI w x) (nilI w y) (nodesI x) (nodesI y)
  rw [of_ok (.inr rfl), of_ok (.inr rfl)] at this
  exact this
theorem ackedI (h : LkAt w z mh mm s) (x y : Id) (k : Int) : Calls Tryz.prog 50 #[.pointer (some ⟨z, 0, none⟩), idA x, idA y, .int .i64 k] w (LeftP (pairB s.node s.gen true (okI 6 x) (okI 6 y) x y) s (ackS s x y k) z mh mm w) := by
  have := acked50 h 0 nilV nilV (tmI x) (tmI y) (Nat.zero_le _) (nilI w x) (nilI w y) (nodesI x) (nodesI y) k
  rw [of_ok (.inr rfl), of_ok (.inr rfl)] at this
  exact this
theorem ofI (h : LkAt w z mh mm s) (hlen : s.H.length ≤ 100000000) (x : Id) : Calls Tryz.prog 22 #[.pointer (some ⟨z, 0, none⟩), idA x] w (OfQ (okI 6 x && locB s.node s.gen x) x s w) := by
  have := of22 h hlen 0 nilV (tmI x) (Nat.zero_le _) (nilI w x) (nodesI x)
  rw [of_ok (.inr rfl)] at this
  exact this
theorem heldI (h : LkAt w z mh mm s) (hlen : s.M.length ≤ 100000000) (x : Id) : Calls Tryz.prog 29 #[.pointer (some ⟨z, 0, none⟩), idA x] w (HeldP (okI 6 x) (fun m => decide (m.2.1 = x)) s.M w) := by
  have := held29 h hlen 0 nilV (tmI x) (Nat.zero_le _) (nilI w x) (nodesI x)
  rw [of_ok (.inr rfl)] at this
  exact this
theorem watchI (h : LkAt w z mh mm s) (r x y : Id) : Calls Tryz.prog 27 #[.pointer (some ⟨z, 0, none⟩), .agg (mnTL (r, x, y)).toArray] w (WatchP (okW s (okI 3 r) (okI 6 x) (okI 6 y) x y) s r x y z mh mm w) := by
  have := watch27 h 0 nilV nilV nilV (tmI r) (tmI x) (tmI y) (Nat.zero_le _) (nilI w r) (nilI w x) (nilI w y) (nodesI r) (nodesI x) (nodesI y)
  rw [of_ok (.inl rfl), of_ok (.inr rfl), of_ok (.inr rfl)] at this
  exact this
end
def pidI (nm : ByteArray) (n : Int) : Id := (6, nm, 1, n)
theorem pid16 (nm : ByteArray) (n : Int) (w : World) : Calls Tryz.prog 16 #[.string nm, .int .i64 n] w fun e w' => e = .returned (idA (pidI nm n)) ∧ Below w.heap.size w w' := by
  have hb := belowA (Below.refl w.heap.size w) (.cells #[.int .i64 6, .int .i64 n, .int .i64 1, .string nm, .string ⟨#[]⟩, .int .i64 0, .slice none 0 0, .string ⟨#[]⟩, .int .i64 0] 30) (Nat.le_refl _)
  have HB := Lib.hid hb
  clear hb
  unfold idA pidI
  dsimp only
  go_enter Tryz.func16, Tryz.ntmps16
  go_wp2_with fail
  (try simp only [Exit.inBlock, Exit.then])
  refine bodyPost_ret (v := .agg #[.int .i64 6, .int .i64 n, .int .i64 1, .string nm, .string ⟨#[]⟩, .int .i64 0, .slice none 0 0, .string ⟨#[]⟩, .int .i64 0]) ?_ rfl ⟨rfl, ?_⟩
  · rw [results_cell1 rfl]
    go_simp
  · exact HB.out
def nmN : ByteArray := ⟨#[110]⟩
def nmM : ByteArray := ⟨#[109]⟩
theorem v_n : vName nmN = true := vName_true (by decide) (by decide) (fun k h => by
  have h : k < 1 := h
  obtain rfl : k = 0 := by omega
  rfl)
theorem v_m : vName nmM = true := vName_true (by decide) (by decide) (fun k h => by
  have h : k < 1 := h
  obtain rfl : k = 0 := by omega
  rfl)
theorem ok_pid {nm : ByteArray} {n : Int} (h : vName nm = true) (h1 : 1 ≤ n) (h2 : n ≤ 2147483647) : okI 6 (pidI nm n) = true := by
  unfold okI pidI
  dsimp only
  rw [h, inB_t (by omega), inB_t (by omega)]
  rfl
end Go.Proofs.YtnakbepcalciiaaGreat.lk
