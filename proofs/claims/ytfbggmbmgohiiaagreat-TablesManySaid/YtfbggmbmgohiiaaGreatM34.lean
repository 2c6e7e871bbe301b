/- Texts of this seat, one behind the other: TcG, TcH, TcI. No condition beyond theirs. -/
import Derived.Test.YtfbggmbmgohiiaaGreatM33
set_option linter.unusedSimpArgs false
set_option linter.unusedVariables false
set_option maxHeartbeats 4000000
set_option maxRecDepth 100000
namespace Go.Proofs.YtfbggmbmgohiiaaGreat.tb
open Go.RowKit mem rec tm names
theorem results_cc {fn : Func} {p q r s : Tmp} {ty ty2 : TypeId} (h : fn.results = #[.cell p ty, .cell q ty2, .tmp r, .tmp s]) (tmps : Array Value) (P : Program) (w : World) :
    (results fn tmps).run P w = ((asAddr (tmps.getD p undef)).run P w).andThen fun a w₁ => ((loadVar ty a).run P w₁).andThen fun x w₂ => ((asAddr (tmps.getD q undef)).run P w₂).andThen fun b w₃ => ((loadVar ty2 b).run P w₃).andThen fun y w₄ => .ok (.tuple #[x, y, tmps.getD r undef, tmps.getD s undef]) w₄ := by
  simp only [results, h]
  simp [Sem.run_bind, Result.andThen]
theorem touch_setRow (w : World) (g : Nat) (cs : Array Value) : TouchB (fun q => q = g) w (w.setRow g cs) := ⟨rfl, rfl, rfl, by simp, fun k _ hn => setRow_other _ g k _ hn⟩
theorem cells_rng {w : World} {g o : Nat} {f : TF} {u : Value} (h : Cells w g o f u) : w.rangeAt g o (nineL f u) := fun j x hx => by
  obtain ⟨h0, h1, h2, h3, h4, h5, h6, h7, h8⟩ := h
  have hj := (List.getElem?_eq_some_iff.1 hx).1
  have : j = 0 ∨ j = 1 ∨ j = 2 ∨ j = 3 ∨ j = 4 ∨ j = 5 ∨ j = 6 ∨ j = 7 ∨ j = 8 := by simp [nineL] at hj; omega
  rcases this with rfl | rfl | rfl | rfl | rfl | rfl | rfl | rfl | rfl <;> (simp [nineL] at hx; subst hx; assumption)
theorem row_rng {w : World} {g : Nat} {x : List Value} {t : TypeId} (h : w.heap[g]? = some (.cells x.toArray t)) : w.rangeAt g 0 x := fun j u hu => by
  rw [cell_of_row w g (0 + j) x.toArray t _ h]
  simpa using hu
theorem NewI.base {n : Nat} {w0 w1 w : World} {F : Nat → Prop} {u : Value} {l : List (Tm n)} (h : NewI w1 w F n u l) (hs : w0.heap.size ≤ w1.heap.size) : NewI w0 w F n u l := ⟨h.items, h.typed, fun g hg => ⟨Nat.le_trans hs (h.inr g hg).1, (h.inr g hg).2⟩⟩
def RowP {N : Nat} (k v : Tm (N + 1)) (w : World) (e : Ending) (w' : World) : Prop := ∃ F1 F2 u1 u2, e = .returned (.tuple #[aggV k.f u1, aggV v.f u2, .bool true, .int .i64 0]) ∧ Below w.heap.size w w' ∧ NewI w w' F1 N u1 k.items ∧ NewI w w' F2 N u2 v.items
section
variable {N : Nat} {w w' : World} {B : Nat} {F : Nat → Prop} {s : TbSt N} {t : TabE N}
theorem row73y (h : TabAt w B F t) (hfl : ∀ g, F g → g < w.heap.size) {i : Nat} (hi : i < t.rows.length) (hnk : nodesT (t.rows[i]).k ≤ 100000000) (hnv : nodesT (t.rows[i]).v ≤ 100000000) :
    Calls Tryz.prog 73 #[.pointer (some ⟨t.b, 0, none⟩), .int .i64 i] w (RowP (t.rows[i]).k (t.rows[i]).v w) := by
  obtain ⟨hik, hiv⟩ := h.irow _ (List.getElem_mem hi)
  have HC1 := Lib.hid (fun (W : World) (hW : Below w.heap.size w W) => copyAll N W w.heap.size (t.rows[i]).uk (t.rows[i]).k hW.size ((hik.toAt hfl).below hW (Nat.le_refl _)) hnk)
  have HC2 := Lib.hid (fun (W : World) (hW : Below w.heap.size w W) => copyAll N W w.heap.size (t.rows[i]).uv (t.rows[i]).v hW.size ((hiv.toAt hfl).below hW (Nat.le_refl _)) hnv)
  obtain ⟨g, c, ev, hg, hck, hcv, hx18⟩ := h.rowc hi
  have htb := h.lt
  have HRg : Hid (∀ W, Below w.heap.size w W → W.cell? ⟨t.b, 19, none⟩ = some (.slice (some ⟨g, 0, none⟩) t.rows.length c) ∧ W.rangeAt g (i * 19) (nineL (t.rows[i]).k.f (t.rows[i]).uk) ∧ W.rangeAt g (i * 19 + 9) (nineL (t.rows[i]).v.f (t.rows[i]).uv)) :=
    Lib.hid (fun W hW => ⟨by rw [← ev]; exact cell_keep hW htb (tab_cells h.blk).2.2.2.1, rng_same (cells_rng hck) (hW.block g hg), rng_same (cells_rng hcv) (hW.block g hg)⟩)
  obtain ⟨pv0, cv0, ev0, hcc, hcm⟩ := h.rows.shape
  have hcl : c = cv0 := by rw [ev] at ev0; simp only [Value.slice.injEq] at ev0; exact ev0.2.2
  unfold maxLen at hcm
  obtain ⟨pk, ck, ek, _, _⟩ := ItemsIn.shape hik
  obtain ⟨pv, cv, e2, _, _⟩ := ItemsIn.shape hiv
  have hilt : (i : Int) < (t.rows.length : Int) := by omega
  rw [ek] at HC1 HRg
  rw [e2] at HC2 HRg
  unfold RowP
  clear h hfl hnk hnv hik hiv ev hck hcv ek e2 ev0 hx18
  generalize (t.rows[i]).k = kt at *
  generalize (t.rows[i]).v = vt at *
  clear hi
  generalize t.rows.length = n at *
  generalize t.b = tb at *
  generalize kt.items.length = nk at *
  generalize vt.items.length = nv at *
  generalize kt.items = kil at *
  generalize vt.items = vil at *
  generalize kt.f = fk at *
  generalize vt.f = fv at *
  obtain ⟨kk, ki, kg, kn, kf, ka, kb, ks⟩ := fk
  obtain ⟨vk, vi, vg, vn, vf, va, vb, vs⟩ := fv
  unfold aggV at *
  unfold nineL at HRg
  dsimp only at *
  have hsz9 : (Tryz.prog.info? 24).map (·.size) = some 9 := by kernel_rfl
  obtain ⟨hb0, hz4, hz5⟩ := two_boxes w (.cells #[.int .i64 0, .int .i64 0, .int .i64 0, .string ⟨#[]⟩, .string ⟨#[]⟩, .int .i64 0, .slice none 0 0, .string ⟨#[]⟩, .int .i64 0] 24) (.cells #[.int .i64 0, .int .i64 0, .int .i64 0, .string ⟨#[]⟩, .string ⟨#[]⟩, .int .i64 0, .slice none 0 0, .string ⟨#[]⟩, .int .i64 0] 24)
  have hs1 : ((w.alloc (.cells #[.int .i64 0, .int .i64 0, .int .i64 0, .string ⟨#[]⟩, .string ⟨#[]⟩, .int .i64 0, .slice none 0 0, .string ⟨#[]⟩, .int .i64 0] 24)).alloc (.cells #[.int .i64 0, .int .i64 0, .int .i64 0, .string ⟨#[]⟩, .string ⟨#[]⟩, .int .i64 0, .slice none 0 0, .string ⟨#[]⟩, .int .i64 0] 24)).heap.size = w.heap.size + 2 := by rw [World.size_alloc, World.size_alloc]
  obtain ⟨c0, _, _⟩ := HRg.out _ hb0
  go_enter Tryz.func73, Tryz.ntmps73
  go_upto_region 1 with (fail)
  generalize ((w.alloc (.cells #[.int .i64 0, .int .i64 0, .int .i64 0, .string ⟨#[]⟩, .string ⟨#[]⟩, .int .i64 0, .slice none 0 0, .string ⟨#[]⟩, .int .i64 0] 24)).alloc (.cells #[.int .i64 0, .int .i64 0, .int .i64 0, .string ⟨#[]⟩, .string ⟨#[]⟩, .int .i64 0, .slice none 0 0, .string ⟨#[]⟩, .int .i64 0] 24)) = W1 at *
  have HZ4 := Lib.hid hz4
  have HZ5 := Lib.hid hz5
  clear hz4 hz5
  go_upto_region 3 with (fail)
  clear c0
  have hbd := hb0.trans (belowD (Below.refl w.heap.size W1))
  have hbW := belowD (Below.refl W1.heap.size W1)
  obtain ⟨l1, l2, l3⟩ := HRg.out _ hbd
  refine wp_region_held_drew (S := (fun w' => w'.cell? ⟨tb, 19, none⟩ = some (.slice (some ⟨g, 0, none⟩) n c) ∧ w'.rangeAt g (i * 19) [.int .i64 kk, .int .i64 ki, .int .i64 kg, .string kn, .string kf, .int .i64 ka, .slice pk nk ck, .string kb, .int .i64 ks] ∧ w'.rangeAt g (i * 19 + 9) [.int .i64 vk, .int .i64 vi, .int .i64 vg, .string vn, .string vf, .int .i64 va, .slice pv nv cv, .string vb, .int .i64 vs])) (by kernel_rfl) ?_ (fun hHeld => ?_)
  · exact ⟨l1, l2, l3⟩
  refine wpAnyH_take (i := 0) (oi := { dst := some 17, op := Op.move (Operand.tmp 0), type := 89, pos := "tables.go:152", after := #[], guard := none }) (v := ?vvA0) rfl (by kernel_rfl) (by kernel_rfl) (by kernel_rfl) (fun _ _ _ h => h) (Or.inl ⟨by rfl, ?hyA0⟩) (by assumption) ?rsA0
  case hyA0 =>
    intro w hSw
    (try dsimp only at hSw)
    go_simp
    (try with_reducible rfl)
  (try simp only [Act.put, List.setIfInBounds_toArray, List.set_cons_zero, List.set_cons_succ])
  refine wpAnyH_take (i := 1) (oi := { dst := some 18, op := Op.nilCheck (Operand.tmp 17), type := 0, pos := "tables.go:152", after := #[{ on := 0, ground := Ground.data }], guard := none }) (v := ?vvA1) rfl (by kernel_rfl) (by kernel_rfl) (by kernel_rfl) (fun _ _ _ h => h) (Or.inl ⟨by rfl, ?hyA1⟩) (by assumption) ?rsA1
  case hyA1 =>
    intro w hSw
    (try dsimp only at hSw)
    go_simp
    (try with_reducible rfl)
  (try simp only [Act.put, List.setIfInBounds_toArray, List.set_cons_zero, List.set_cons_succ])
  refine wpAnyH_take (i := 2) (oi := { dst := some 19, op := Op.fieldAddr 98 (Operand.tmp 18) 3, type := 0, pos := "tables.go:152", after := #[{ on := 1, ground := Ground.data }], guard := none }) (v := ?vvA2) rfl (by kernel_rfl) (by kernel_rfl) (by kernel_rfl) (fun _ _ _ h => h) (Or.inl ⟨by rfl, ?hyA2⟩) (by assumption) ?rsA2
  case hyA2 =>
    intro w hSw
    (try dsimp only at hSw)
    go_simp
    (try with_reducible rfl)
  (try simp only [Act.put, List.setIfInBounds_toArray, List.set_cons_zero, List.set_cons_succ])
  refine wpAnyH_take (i := 3) (oi := { dst := some 20, op := Op.load 96 (Operand.tmp 19), type := 96, pos := "tables.go:152", after := #[{ on := 2, ground := Ground.data }], guard := none }) rfl (by kernel_rfl) (by kernel_rfl) (by kernel_rfl) (fun _ _ _ h => h) (yieldsB_cell (by rfl) 96 (.tmp 19) rfl tb 19 rfl _ ld96 (fun w hs => hs.1)) (by assumption) ?_
  (try simp only [Act.put, List.setIfInBounds_toArray, List.set_cons_zero, List.set_cons_succ])
  refine wpAnyH_take (i := 4) (oi := { dst := some 21, op := Op.move (Operand.tmp 1), type := 3, pos := "tables.go:152", after := #[], guard := none }) (v := ?vvA4) rfl (by kernel_rfl) (by kernel_rfl) (by kernel_rfl) (fun _ _ _ h => h) (Or.inl ⟨by rfl, ?hyA4⟩) (by assumption) ?rsA4
  case hyA4 =>
    intro w hSw
    (try dsimp only at hSw)
    go_simp
    (try with_reducible rfl)
  (try simp only [Act.put, List.setIfInBounds_toArray, List.set_cons_zero, List.set_cons_succ])
  refine wpAnyH_take (i := 5) (oi := { dst := some 22, op := Op.indexAddr 96 (Operand.tmp 20) (Operand.tmp 21), type := 0, pos := "tables.go:152", after := #[{ on := 3, ground := Ground.data }, { on := 4, ground := Ground.data }], guard := none }) (v := ?vvA5) rfl (by kernel_rfl) (by kernel_rfl) (by kernel_rfl) (fun _ _ _ h => h) (Or.inl ⟨by rfl, ?hyA5⟩) (by assumption) ?rsA5
  case hyA5 =>
    intro w hSw
    (try dsimp only at hSw)
    go_simp
    (try with_reducible rfl)
  (try simp only [Act.put, List.setIfInBounds_toArray, List.set_cons_zero, List.set_cons_succ])
  refine wpAnyH_take (i := 6) (oi := { dst := some 23, op := Op.fieldAddr 108 (Operand.tmp 22) 0, type := 0, pos := "tables.go:152", after := #[{ on := 5, ground := Ground.data }], guard := none }) (v := ?vvA6) rfl (by kernel_rfl) (by kernel_rfl) (by kernel_rfl) (fun _ _ _ h => h) (Or.inl ⟨by rfl, ?hyA6⟩) (by assumption) ?rsA6
  case hyA6 =>
    intro w hSw
    (try dsimp only at hSw)
    go_simp
    (try with_reducible rfl)
  (try simp only [Act.put, List.setIfInBounds_toArray, List.set_cons_zero, List.set_cons_succ])
  refine wpAnyH_take (i := 7) (oi := { dst := some 24, op := Op.load 24 (Operand.tmp 23), type := 24, pos := "tables.go:152", after := #[{ on := 6, ground := Ground.data }], guard := none }) rfl (by kernel_rfl) (by kernel_rfl) (by kernel_rfl) (fun _ _ _ h => h) (yieldsIf_load_mid (by rfl) 24 (.tmp 23) rfl g (i * 19) rfl [.int .i64 kk, .int .i64 ki, .int .i64 kg, .string kn, .string kf, .int .i64 ka, .slice pk nk ck, .string kb, .int .i64 ks] _ (fun w hs => hs.2.1) Tryz.underlying24 rfl hsz9) (by assumption) ?_
  (try simp only [Act.put, List.setIfInBounds_toArray, List.set_cons_zero, List.set_cons_succ])
  refine wpAnyH_take (i := 9) (oi := { dst := some 26, op := Op.move (Operand.tmp 0), type := 89, pos := "tables.go:152", after := #[], guard := none }) (v := ?vvA9) rfl (by kernel_rfl) (by kernel_rfl) (by kernel_rfl) (fun _ _ _ h => h) (Or.inl ⟨by rfl, ?hyA9⟩) (by assumption) ?rsA9
  case hyA9 =>
    intro w hSw
    (try dsimp only at hSw)
    go_simp
    (try with_reducible rfl)
  (try simp only [Act.put, List.setIfInBounds_toArray, List.set_cons_zero, List.set_cons_succ])
  refine wpAnyH_take (i := 10) (oi := { dst := some 27, op := Op.nilCheck (Operand.tmp 26), type := 0, pos := "tables.go:152", after := #[{ on := 9, ground := Ground.data }], guard := none }) (v := ?vvA10) rfl (by kernel_rfl) (by kernel_rfl) (by kernel_rfl) (fun _ _ _ h => h) (Or.inl ⟨by rfl, ?hyA10⟩) (by assumption) ?rsA10
  case hyA10 =>
    intro w hSw
    (try dsimp only at hSw)
    go_simp
    (try with_reducible rfl)
  (try simp only [Act.put, List.setIfInBounds_toArray, List.set_cons_zero, List.set_cons_succ])
  refine wpAnyH_take (i := 11) (oi := { dst := some 28, op := Op.fieldAddr 98 (Operand.tmp 27) 3, type := 0, pos := "tables.go:152", after := #[{ on := 10, ground := Ground.data }], guard := none }) (v := ?vvA11) rfl (by kernel_rfl) (by kernel_rfl) (by kernel_rfl) (fun _ _ _ h => h) (Or.inl ⟨by rfl, ?hyA11⟩) (by assumption) ?rsA11
  case hyA11 =>
    intro w hSw
    (try dsimp only at hSw)
    go_simp
    (try with_reducible rfl)
  (try simp only [Act.put, List.setIfInBounds_toArray, List.set_cons_zero, List.set_cons_succ])
  refine wpAnyH_take (i := 12) (oi := { dst := some 29, op := Op.load 96 (Operand.tmp 28), type := 96, pos := "tables.go:152", after := #[{ on := 11, ground := Ground.data }], guard := none }) rfl (by kernel_rfl) (by kernel_rfl) (by kernel_rfl) (fun _ _ _ h => h) (yieldsB_cell (by rfl) 96 (.tmp 28) rfl tb 19 rfl _ ld96 (fun w hs => hs.1)) (by assumption) ?_
  (try simp only [Act.put, List.setIfInBounds_toArray, List.set_cons_zero, List.set_cons_succ])
  refine wpAnyH_take (i := 13) (oi := { dst := some 30, op := Op.move (Operand.tmp 1), type := 3, pos := "tables.go:152", after := #[], guard := none }) (v := ?vvA13) rfl (by kernel_rfl) (by kernel_rfl) (by kernel_rfl) (fun _ _ _ h => h) (Or.inl ⟨by rfl, ?hyA13⟩) (by assumption) ?rsA13
  case hyA13 =>
    intro w hSw
    (try dsimp only at hSw)
    go_simp
    (try with_reducible rfl)
  (try simp only [Act.put, List.setIfInBounds_toArray, List.set_cons_zero, List.set_cons_succ])
  refine wpAnyH_take (i := 14) (oi := { dst := some 31, op := Op.indexAddr 96 (Operand.tmp 29) (Operand.tmp 30), type := 0, pos := "tables.go:152", after := #[{ on := 12, ground := Ground.data }, { on := 13, ground := Ground.data }], guard := none }) (v := ?vvA14) rfl (by kernel_rfl) (by kernel_rfl) (by kernel_rfl) (fun _ _ _ h => h) (Or.inl ⟨by rfl, ?hyA14⟩) (by assumption) ?rsA14
  case hyA14 =>
    intro w hSw
    (try dsimp only at hSw)
    go_simp
    (try with_reducible rfl)
  (try simp only [Act.put, List.setIfInBounds_toArray, List.set_cons_zero, List.set_cons_succ])
  refine wpAnyH_take (i := 15) (oi := { dst := some 32, op := Op.fieldAddr 108 (Operand.tmp 31) 1, type := 0, pos := "tables.go:152", after := #[{ on := 14, ground := Ground.data }], guard := none }) (v := ?vvA15) rfl (by kernel_rfl) (by kernel_rfl) (by kernel_rfl) (fun _ _ _ h => h) (Or.inl ⟨by rfl, ?hyA15⟩) (by assumption) ?rsA15
  case hyA15 =>
    intro w hSw
    (try dsimp only at hSw)
    go_simp
    (try with_reducible rfl)
  (try simp only [Act.put, List.setIfInBounds_toArray, List.set_cons_zero, List.set_cons_succ])
  refine wpAnyH_take (i := 16) (oi := { dst := some 33, op := Op.load 24 (Operand.tmp 32), type := 24, pos := "tables.go:152", after := #[{ on := 15, ground := Ground.data }], guard := none }) rfl (by kernel_rfl) (by kernel_rfl) (by kernel_rfl) (fun _ _ _ h => h) (yieldsIf_load_mid (by rfl) 24 (.tmp 32) rfl g (i * 19 + 9) rfl [.int .i64 vk, .int .i64 vi, .int .i64 vg, .string vn, .string vf, .int .i64 va, .slice pv nv cv, .string vb, .int .i64 vs] _ (fun w hs => hs.2.2) Tryz.underlying24 rfl hsz9) (by assumption) ?_
  (try simp only [Act.put, List.setIfInBounds_toArray, List.set_cons_zero, List.set_cons_succ])
  refine wpAnyH_ready (rs := [8]) (by kernel_rfl) (by simp) ?_
  refine AllReadyH.cons (o := { dst := some 25, op := Op.call { callee := Callee.value (Operand.func 51), args := #[Operand.tmp 24], argTypes := #[24] }, type := 24, pos := "tables.go:152", after := #[{ on := 7, ground := Ground.data }], guard := none }) rfl (fun K hK => ?_) AllReadyH.nil
  go_simp
  refine (HC1.out _ hbd).mono ?_
  rintro e w8 ⟨F1, g1, rfl, hN, _⟩
  dsimp only [aggV]
  have hN1 := NewI.of (w0 := W1) hN hbW.size
  replace hbW := hbW.trans (hN.below.mono hbW.size)
  replace hbd := hbd.trans (hN.below.mono hbd.size)
  clear l1 l2 l3 hN
  obtain ⟨l1, l2, l3⟩ := HRg.out _ hbd
  go_wp2_with fail
  refine hK.out _ _ ?_ (fun hHeld => ?_)
  · exact ⟨l1, l2, l3⟩
  clear hK K
  (try simp only [Act.put, List.setIfInBounds_toArray, List.set_cons_zero, List.set_cons_succ])
  refine wpAnyH_ready (rs := [17]) (by kernel_rfl) (by simp) ?_
  refine AllReadyH.cons (o := { dst := some 34, op := Op.call { callee := Callee.value (Operand.func 51), args := #[Operand.tmp 33], argTypes := #[24] }, type := 24, pos := "tables.go:152", after := #[{ on := 16, ground := Ground.data }, { on := 8, ground := Ground.chain }], guard := none }) rfl (fun K hK => ?_) AllReadyH.nil
  go_simp
  refine (HC2.out _ hbd).mono ?_
  rintro e w17 ⟨F2, g2, rfl, hN, _⟩
  dsimp only [aggV]
  have hN2 := NewI.of (w0 := W1) hN hbW.size
  replace hN1 := hN1.below hN.below
  replace hbW := hbW.trans (hN.below.mono hbW.size)
  replace hbd := hbd.trans (hN.below.mono hbd.size)
  clear l1 l2 l3 hN
  obtain ⟨l1, l2, l3⟩ := HRg.out _ hbd
  go_wp2_with fail
  refine hK.out _ _ ?_ (fun hHeld => ?_)
  · exact ⟨l1, l2, l3⟩
  clear hK K
  (try simp only [Act.put, List.setIfInBounds_toArray, List.set_cons_zero, List.set_cons_succ])
  refine wpAnyH_ready (rs := [18]) (by kernel_rfl) (by simp) ?_
  refine AllReadyH.cons (o := { dst := none, op := Op.store 24 (Operand.tmp 4) (Operand.tmp 25), type := 0, pos := "tables.go:152", after := #[{ on := 8, ground := Ground.data }, { on := 17, ground := Ground.chain }, { on := 0, ground := Ground.phase }, { on := 1, ground := Ground.phase }, { on := 2, ground := Ground.phase }, { on := 3, ground := Ground.phase }, { on := 4, ground := Ground.phase }, { on := 5, ground := Ground.phase }, { on := 6, ground := Ground.phase }, { on := 7, ground := Ground.phase }, { on := 8, ground := Ground.phase }, { on := 9, ground := Ground.textOnly Departure.lateStores }, { on := 10, ground := Ground.textOnly Departure.lateStores }, { on := 11, ground := Ground.textOnly Departure.lateStores }, { on := 12, ground := Ground.textOnly Departure.lateStores }, { on := 13, ground := Ground.textOnly Departure.lateStores }, { on := 14, ground := Ground.textOnly Departure.lateStores }, { on := 15, ground := Ground.textOnly Departure.lateStores }, { on := 16, ground := Ground.textOnly Departure.lateStores }, { on := 17, ground := Ground.textOnly Departure.lateStoresUnsure }], guard := none }) rfl (fun K hK => ?_) AllReadyH.nil
  have hz4 := (hbW.block w.heap.size (by omega)).trans HZ4.out
  have hz5 := (hbW.block (w.heap.size + 1) (by omega)).trans HZ5.out
  refine step_store_run (by rfl) 24 (.tmp 4) (.tmp 25) rfl (p := ⟨w.heap.size, 0, none⟩) rfl rfl (run_storeVar_row _ _ 24 24 _ #[.int .i64 kk, .int .i64 ki, .int .i64 kg, .string kn, .string kf, .int .i64 ka, .slice (some ⟨g1, 0, none⟩) kil.length kil.length, .string kb, .int .i64 ks] hz4 hsz9 rfl (all_oneCell_toArray (nineL_one (f := ⟨kk, ki, kg, kn, kf, ka, kb, ks⟩) (u := .slice (some ⟨g1, 0, none⟩) kil.length kil.length) rfl))) ?_
  have hq4 := setRow_heap w17 w.heap.size _ #[.int .i64 kk, .int .i64 ki, .int .i64 kg, .string kn, .string kf, .int .i64 ka, .slice (some ⟨g1, 0, none⟩) kil.length kil.length, .string kb, .int .i64 ks] _ _ hz4
  have hq5 := (setRow_other w17 w.heap.size (w.heap.size + 1) #[.int .i64 kk, .int .i64 ki, .int .i64 kg, .string kn, .string kf, .int .i64 ka, .slice (some ⟨g1, 0, none⟩) kil.length kil.length, .string kb, .int .i64 ks] (by omega)).trans hz5
  replace hN1 := hN1.touch (touch_setRow w17 w.heap.size #[.int .i64 kk, .int .i64 ki, .int .i64 kg, .string kn, .string kf, .int .i64 ka, .slice (some ⟨g1, 0, none⟩) kil.length kil.length, .string kb, .int .i64 ks]) (fun q e => by subst e; omega)
  replace hN2 := hN2.touch (touch_setRow w17 w.heap.size #[.int .i64 kk, .int .i64 ki, .int .i64 kg, .string kn, .string kf, .int .i64 ka, .slice (some ⟨g1, 0, none⟩) kil.length kil.length, .string kb, .int .i64 ks]) (fun q e => by subst e; omega)
  replace hbd := hbd.trans ((touch_setRow w17 w.heap.size #[.int .i64 kk, .int .i64 ki, .int .i64 kg, .string kn, .string kf, .int .i64 ka, .slice (some ⟨g1, 0, none⟩) kil.length kil.length, .string kb, .int .i64 ks]).below (fun q e => Nat.le_of_eq e.symm) hbd.size)
  clear l1 l2 l3 hz4 hz5
  obtain ⟨l1, l2, l3⟩ := HRg.out _ hbd
  generalize w17.setRow w.heap.size #[.int .i64 kk, .int .i64 ki, .int .i64 kg, .string kn, .string kf, .int .i64 ka, .slice (some ⟨g1, 0, none⟩) kil.length kil.length, .string kb, .int .i64 ks] = w18 at *
  refine hK.out _ _ ?_ (fun hHeld => ?_)
  · exact ⟨l1, l2, l3⟩
  clear hK K
  (try simp only [Act.put, List.setIfInBounds_toArray, List.set_cons_zero, List.set_cons_succ])
  refine wpAnyH_ready (rs := [19]) (by kernel_rfl) (by simp) ?_
  refine AllReadyH.cons (o := { dst := none, op := Op.store 24 (Operand.tmp 5) (Operand.tmp 34), type := 0, pos := "tables.go:152", after := #[{ on := 17, ground := Ground.data }, { on := 18, ground := Ground.chain }, { on := 0, ground := Ground.phase }, { on := 1, ground := Ground.phase }, { on := 2, ground := Ground.phase }, { on := 3, ground := Ground.phase }, { on := 4, ground := Ground.phase }, { on := 5, ground := Ground.phase }, { on := 6, ground := Ground.phase }, { on := 7, ground := Ground.phase }, { on := 8, ground := Ground.phase }, { on := 9, ground := Ground.phase }, { on := 10, ground := Ground.phase }, { on := 11, ground := Ground.phase }, { on := 12, ground := Ground.phase }, { on := 13, ground := Ground.phase }, { on := 14, ground := Ground.phase }, { on := 15, ground := Ground.phase }, { on := 16, ground := Ground.phase }, { on := 17, ground := Ground.phase }, { on := 18, ground := Ground.phase }], guard := none }) rfl (fun K hK => ?_) AllReadyH.nil
  refine step_store_run (by rfl) 24 (.tmp 5) (.tmp 34) rfl (p := ⟨w.heap.size + 1, 0, none⟩) rfl rfl (run_storeVar_row _ _ 24 24 _ #[.int .i64 vk, .int .i64 vi, .int .i64 vg, .string vn, .string vf, .int .i64 va, .slice (some ⟨g2, 0, none⟩) vil.length vil.length, .string vb, .int .i64 vs] hq5 hsz9 rfl (all_oneCell_toArray (nineL_one (f := ⟨vk, vi, vg, vn, vf, va, vb, vs⟩) (u := .slice (some ⟨g2, 0, none⟩) vil.length vil.length) rfl))) ?_
  have hp5 := setRow_heap w18 (w.heap.size + 1) _ #[.int .i64 vk, .int .i64 vi, .int .i64 vg, .string vn, .string vf, .int .i64 va, .slice (some ⟨g2, 0, none⟩) vil.length vil.length, .string vb, .int .i64 vs] _ _ hq5
  have hp4 := (setRow_other w18 (w.heap.size + 1) w.heap.size #[.int .i64 vk, .int .i64 vi, .int .i64 vg, .string vn, .string vf, .int .i64 va, .slice (some ⟨g2, 0, none⟩) vil.length vil.length, .string vb, .int .i64 vs] (by omega)).trans hq4
  replace hN1 := hN1.touch (touch_setRow w18 (w.heap.size + 1) #[.int .i64 vk, .int .i64 vi, .int .i64 vg, .string vn, .string vf, .int .i64 va, .slice (some ⟨g2, 0, none⟩) vil.length vil.length, .string vb, .int .i64 vs]) (fun q e => by subst e; omega)
  replace hN2 := hN2.touch (touch_setRow w18 (w.heap.size + 1) #[.int .i64 vk, .int .i64 vi, .int .i64 vg, .string vn, .string vf, .int .i64 va, .slice (some ⟨g2, 0, none⟩) vil.length vil.length, .string vb, .int .i64 vs]) (fun q e => by subst e; omega)
  replace hbd := hbd.trans ((touch_setRow w18 (w.heap.size + 1) #[.int .i64 vk, .int .i64 vi, .int .i64 vg, .string vn, .string vf, .int .i64 va, .slice (some ⟨g2, 0, none⟩) vil.length vil.length, .string vb, .int .i64 vs]).below (fun q e => by omega) hbd.size)
  clear l1 l2 l3 hq4 hq5
  obtain ⟨l1, l2, l3⟩ := HRg.out _ hbd
  generalize w18.setRow (w.heap.size + 1) #[.int .i64 vk, .int .i64 vi, .int .i64 vg, .string vn, .string vf, .int .i64 va, .slice (some ⟨g2, 0, none⟩) vil.length vil.length, .string vb, .int .i64 vs] = w19 at *
  refine hK.out _ _ ?_ (fun hHeld => ?_)
  · exact ⟨l1, l2, l3⟩
  clear hK K
  (try simp only [Act.put, List.setIfInBounds_toArray, List.set_cons_zero, List.set_cons_succ])
  refine wpAnyH_take (i := 20) (oi := { dst := some 6, op := Op.assign (Operand.const (Value.bool true)), type := 4, pos := "tables.go:152", after := #[{ on := 19, ground := Ground.chain }, { on := 0, ground := Ground.phase }, { on := 1, ground := Ground.phase }, { on := 2, ground := Ground.phase }, { on := 3, ground := Ground.phase }, { on := 4, ground := Ground.phase }, { on := 5, ground := Ground.phase }, { on := 6, ground := Ground.phase }, { on := 7, ground := Ground.phase }, { on := 8, ground := Ground.phase }, { on := 9, ground := Ground.phase }, { on := 10, ground := Ground.phase }, { on := 11, ground := Ground.phase }, { on := 12, ground := Ground.phase }, { on := 13, ground := Ground.phase }, { on := 14, ground := Ground.phase }, { on := 15, ground := Ground.phase }, { on := 16, ground := Ground.phase }, { on := 17, ground := Ground.phase }, { on := 18, ground := Ground.phase }, { on := 19, ground := Ground.phase }], guard := none }) (v := ?vvA20) rfl (by kernel_rfl) (by kernel_rfl) (by kernel_rfl) (fun _ _ _ h => h) (Or.inl ⟨by rfl, ?hyA20⟩) (by assumption) ?rsA20
  case hyA20 =>
    intro w hSw
    (try dsimp only at hSw)
    go_simp
    (try with_reducible rfl)
  (try simp only [Act.put, List.setIfInBounds_toArray, List.set_cons_zero, List.set_cons_succ])
  refine wpAnyH_take (i := 21) (oi := { dst := some 7, op := Op.assign (Operand.const (Value.int IntKind.i64 0)), type := 40, pos := "tables.go:152", after := #[{ on := 20, ground := Ground.chain }, { on := 0, ground := Ground.phase }, { on := 1, ground := Ground.phase }, { on := 2, ground := Ground.phase }, { on := 3, ground := Ground.phase }, { on := 4, ground := Ground.phase }, { on := 5, ground := Ground.phase }, { on := 6, ground := Ground.phase }, { on := 7, ground := Ground.phase }, { on := 8, ground := Ground.phase }, { on := 9, ground := Ground.phase }, { on := 10, ground := Ground.phase }, { on := 11, ground := Ground.phase }, { on := 12, ground := Ground.phase }, { on := 13, ground := Ground.phase }, { on := 14, ground := Ground.phase }, { on := 15, ground := Ground.phase }, { on := 16, ground := Ground.phase }, { on := 17, ground := Ground.phase }, { on := 18, ground := Ground.phase }, { on := 19, ground := Ground.phase }, { on := 20, ground := Ground.phase }], guard := none }) (v := ?vvA21) rfl (by kernel_rfl) (by kernel_rfl) (by kernel_rfl) (fun _ _ _ h => h) (Or.inl ⟨by rfl, ?hyA21⟩) (by assumption) ?rsA21
  case hyA21 =>
    intro w hSw
    (try dsimp only at hSw)
    go_simp
    (try with_reducible rfl)
  (try simp only [Act.put, List.setIfInBounds_toArray, List.set_cons_zero, List.set_cons_succ])
  refine wpAnyH_done (by kernel_rfl) ?_ _
  go_wp2_with fail
  (try simp only [Exit.inBlock, Exit.then])
  have hl4 := run_loadVar_mid (P := Tryz.prog) w19 w.heap.size 0 24 [.int .i64 kk, .int .i64 ki, .int .i64 kg, .string kn, .string kf, .int .i64 ka, .slice (some ⟨g1, 0, none⟩) kil.length kil.length, .string kb, .int .i64 ks] _ (row_rng hp4) Tryz.underlying24 rfl hsz9
  have hl5 := run_loadVar_mid (P := Tryz.prog) w19 (w.heap.size + 1) 0 24 [.int .i64 vk, .int .i64 vi, .int .i64 vg, .string vn, .string vf, .int .i64 va, .slice (some ⟨g2, 0, none⟩) vil.length vil.length, .string vb, .int .i64 vs] _ (row_rng hp5) Tryz.underlying24 rfl hsz9
  refine bodyPost_ret (v := .tuple #[.agg #[.int .i64 kk, .int .i64 ki, .int .i64 kg, .string kn, .string kf, .int .i64 ka, .slice (some ⟨g1, 0, none⟩) kil.length kil.length, .string kb, .int .i64 ks], .agg #[.int .i64 vk, .int .i64 vi, .int .i64 vg, .string vn, .string vf, .int .i64 va, .slice (some ⟨g2, 0, none⟩) vil.length vil.length, .string vb, .int .i64 vs], .bool true, .int .i64 0]) ?_ rfl ⟨F1, F2, _, _, rfl, hbd, hN1.base hb0.size, hN2.base hb0.size⟩
  have hA : ∀ (a : Addr) (w : World), (asAddr (.pointer (some a))).run Tryz.prog w = .ok a w := fun _ _ => rfl
  rw [results_cc rfl]
  simp [hA, hl4, hl5, Result.andThen]
theorem three_heap (w : World) (o1 o2 o3 : Obj) : Below w.heap.size w (((w.alloc o1).alloc o2).alloc o3) ∧ (((w.alloc o1).alloc o2).alloc o3).heap.size = w.heap.size + 3 ∧ (((w.alloc o1).alloc o2).alloc o3).heap[w.heap.size]? = some o1 ∧ (((w.alloc o1).alloc o2).alloc o3).heap[w.heap.size + 1]? = some o2 ∧ (((w.alloc o1).alloc o2).alloc o3).heap[w.heap.size + 2]? = some o3 := by
  obtain ⟨h1, h2, h3⟩ := two_boxes w o1 o2
  have h4 := alloc_new ((w.alloc o1).alloc o2) o3
  have hs : ((w.alloc o1).alloc o2).heap.size = w.heap.size + 2 := by rw [World.size_alloc, World.size_alloc]
  rw [hs] at h4
  exact ⟨belowA h1 o3 h1.size, by rw [World.size_alloc, hs], (Below.heap_alloc ((w.alloc o1).alloc o2) o3 w.heap.size (by omega)).trans h2, (Below.heap_alloc ((w.alloc o1).alloc o2) o3 (w.heap.size + 1) (by omega)).trans h3, h4⟩
theorem first39y (h : TbAt w B F s) (hlen : s.tabs.length ≤ 1000) {r : Tm (N + 1)} {ur : Value} {B2 : Nat} (hB : B2 ≤ w.heap.size) (hI : ItemsAt w B2 N ur r.items) {i : Nat} (hi : i < s.tabs.length) (hr : refAt s.tabs r = some i) (h0 : 0 < (s.tabs[i]).rows.length)
    (hnk : nodesT ((s.tabs[i]).rows[0]).k ≤ 100000000) (hnv : nodesT ((s.tabs[i]).rows[0]).v ≤ 100000000) :
    Calls Tryz.prog 39 #[.pointer (some ⟨s.z, 0, none⟩), aggV r.f ur] w (RowP ((s.tabs[i]).rows[0]).k ((s.tabs[i]).rows[0]).v w) := by
  have ht := h.tabs _ (List.getElem_mem hi)
  have hTR : TabR s.tabs r (some ⟨(s.tabs[i]).b, 0, none⟩) 0 := .inr ⟨i, hi, hr, rfl, rfl⟩
  have HTb := Lib.hid (fun (W : World) (hW : Below w.heap.size w W) => table49 (h.below hW) hlen (Nat.le_trans hB hW.size) (hI.below hW hB) hTR)
  have HRo := Lib.hid (fun (W : World) (hW : Below w.heap.size w W) => row73y (ht.below hW h.fl) (fun g hg => Nat.lt_of_lt_of_le (h.fl g hg) hW.size) h0 hnk hnv)
  obtain ⟨pr, cr, er, _, _⟩ := hI.shape
  have HSh : Hid (∀ (W W' : World) G u (k : Tm (N + 1)), NewI W W' G N u k.items → u.oneCell' = true) := Lib.hid (fun W W' G u k hN => in_one hN.items)
  rw [er] at HTb ⊢
  unfold RowP at *
  generalize ((s.tabs[i]).rows[0]).k = kt at *
  generalize ((s.tabs[i]).rows[0]).v = vt at *
  generalize (s.tabs[i]).b = tb at *
  generalize s.z = z at *
  have HN1 := Lib.hid (fun W W' G u => HSh.out W W' G u kt)
  have HN2 := Lib.hid (fun W W' G u => HSh.out W W' G u vt)
  clear h ht hTR hlen hB hI hr h0 hnk hnv er HSh hi
  generalize r.items.length = nr at *
  generalize r.f = fr at *
  generalize kt.items = kil at *
  generalize vt.items = vil at *
  generalize kt.f = fk at *
  generalize vt.f = fv at *
  obtain ⟨rk, ri, rg, rn, rf, ra, rb, rs⟩ := fr
  obtain ⟨kk, ki, kg, kn, kf, ka, kb, ks⟩ := fk
  obtain ⟨vk, vi, vg, vn, vf, va, vb, vs⟩ := fv
  unfold aggV at *
  dsimp only at *
  have hsz9 : (Tryz.prog.info? 24).map (·.size) = some 9 := by kernel_rfl
  obtain ⟨hb0, hs1, hz3, hz4, hz5⟩ := three_heap w (.cells #[.int .i64 rk, .int .i64 ri, .int .i64 rg, .string rn, .string rf, .int .i64 ra, .slice pr nr cr, .string rb, .int .i64 rs] 24) (.cells #[.int .i64 0, .int .i64 0, .int .i64 0, .string ⟨#[]⟩, .string ⟨#[]⟩, .int .i64 0, .slice none 0 0, .string ⟨#[]⟩, .int .i64 0] 24) (.cells #[.int .i64 0, .int .i64 0, .int .i64 0, .string ⟨#[]⟩, .string ⟨#[]⟩, .int .i64 0, .slice none 0 0, .string ⟨#[]⟩, .int .i64 0] 24)
  go_enter Tryz.func39, Tryz.ntmps39
  go_upto_region 1 with (fail)
  generalize (((w.alloc (.cells #[.int .i64 rk, .int .i64 ri, .int .i64 rg, .string rn, .string rf, .int .i64 ra, .slice pr nr cr, .string rb, .int .i64 rs] 24)).alloc (.cells #[.int .i64 0, .int .i64 0, .int .i64 0, .string ⟨#[]⟩, .string ⟨#[]⟩, .int .i64 0, .slice none 0 0, .string ⟨#[]⟩, .int .i64 0] 24)).alloc (.cells #[.int .i64 0, .int .i64 0, .int .i64 0, .string ⟨#[]⟩, .string ⟨#[]⟩, .int .i64 0, .slice none 0 0, .string ⟨#[]⟩, .int .i64 0] 24)) = W1 at *
  have HL3 := Lib.hid (row_rng hz3)
  have HZ4 := Lib.hid hz4
  have HZ5 := Lib.hid hz5
  have HB0 := Lib.hid hb0
  clear hz3 hz4 hz5 hb0
  go_wp2_with (first
    | (refine wpList_load_mid rfl 24 (.tmp 3) rfl w.heap.size 0 rfl [.int .i64 rk, .int .i64 ri, .int .i64 rg, .string rn, .string rf, .int .i64 ra, .slice pr nr cr, .string rb, .int .i64 rs] _ HL3.out Tryz.underlying24 rfl hsz9 ?_))
  refine (HTb.out _ HB0.out).mono ?_
  rintro e w2 ⟨rfl, hb2⟩
  have HB2 := Lib.hid (HB0.out.trans (hb2.mono HB0.out.size))
  have HW2 := Lib.hid hb2
  clear hb2 HL3 HTb
  go_wp2_with fail
  refine (HRo.out _ HB2.out).mono ?_
  rintro e w3 ⟨F1, F2, u1, u2, rfl, hb3, hN1, hN2⟩
  have HB3 := Lib.hid (HB2.out.trans (hb3.mono HB2.out.size))
  have hbW := HW2.out.trans (hb3.mono HW2.out.size)
  have hW12 := HW2.out.size
  have hz4 := (hbW.block (w.heap.size + 1) (by omega)).trans HZ4.out
  have hz5 := (hbW.block (w.heap.size + 2) (by omega)).trans HZ5.out
  have ho1 : #[.int .i64 kk, .int .i64 ki, .int .i64 kg, .string kn, .string kf, .int .i64 ka, u1, .string kb, .int .i64 ks].all (·.oneCell') = true := all_oneCell_toArray (nineL_one (f := ⟨kk, ki, kg, kn, kf, ka, kb, ks⟩) (u := u1) (HN1.out _ _ _ _ hN1))
  have ho2 : #[.int .i64 vk, .int .i64 vi, .int .i64 vg, .string vn, .string vf, .int .i64 va, u2, .string vb, .int .i64 vs].all (·.oneCell') = true := all_oneCell_toArray (nineL_one (f := ⟨vk, vi, vg, vn, vf, va, vb, vs⟩) (u := u2) (HN2.out _ _ _ _ hN2))
  have hq4 := setRow_heap w3 (w.heap.size + 1) _ #[.int .i64 kk, .int .i64 ki, .int .i64 kg, .string kn, .string kf, .int .i64 ka, u1, .string kb, .int .i64 ks] _ _ hz4
  have hq5 := (setRow_other w3 (w.heap.size + 1) (w.heap.size + 2) #[.int .i64 kk, .int .i64 ki, .int .i64 kg, .string kn, .string kf, .int .i64 ka, u1, .string kb, .int .i64 ks] (by omega)).trans hz5
  have hM1 := hN1.touch (touch_setRow w3 (w.heap.size + 1) #[.int .i64 kk, .int .i64 ki, .int .i64 kg, .string kn, .string kf, .int .i64 ka, u1, .string kb, .int .i64 ks]) (fun q e => by subst e; omega)
  have hM2 := hN2.touch (touch_setRow w3 (w.heap.size + 1) #[.int .i64 kk, .int .i64 ki, .int .i64 kg, .string kn, .string kf, .int .i64 ka, u1, .string kb, .int .i64 ks]) (fun q e => by subst e; omega)
  have hbq := HB3.out.trans ((touch_setRow w3 (w.heap.size + 1) #[.int .i64 kk, .int .i64 ki, .int .i64 kg, .string kn, .string kf, .int .i64 ka, u1, .string kb, .int .i64 ks]).below (fun q e => by omega) HB3.out.size)
  have hp5 := setRow_heap (w3.setRow (w.heap.size + 1) #[.int .i64 kk, .int .i64 ki, .int .i64 kg, .string kn, .string kf, .int .i64 ka, u1, .string kb, .int .i64 ks]) (w.heap.size + 2) _ #[.int .i64 vk, .int .i64 vi, .int .i64 vg, .string vn, .string vf, .int .i64 va, u2, .string vb, .int .i64 vs] _ _ hq5
  have hp4 := (setRow_other (w3.setRow (w.heap.size + 1) #[.int .i64 kk, .int .i64 ki, .int .i64 kg, .string kn, .string kf, .int .i64 ka, u1, .string kb, .int .i64 ks]) (w.heap.size + 2) (w.heap.size + 1) #[.int .i64 vk, .int .i64 vi, .int .i64 vg, .string vn, .string vf, .int .i64 va, u2, .string vb, .int .i64 vs] (by omega)).trans hq4
  have hK1 := hM1.touch (touch_setRow (w3.setRow (w.heap.size + 1) #[.int .i64 kk, .int .i64 ki, .int .i64 kg, .string kn, .string kf, .int .i64 ka, u1, .string kb, .int .i64 ks]) (w.heap.size + 2) #[.int .i64 vk, .int .i64 vi, .int .i64 vg, .string vn, .string vf, .int .i64 va, u2, .string vb, .int .i64 vs]) (fun q e => by subst e; omega)
  have hK2 := hM2.touch (touch_setRow (w3.setRow (w.heap.size + 1) #[.int .i64 kk, .int .i64 ki, .int .i64 kg, .string kn, .string kf, .int .i64 ka, u1, .string kb, .int .i64 ks]) (w.heap.size + 2) #[.int .i64 vk, .int .i64 vi, .int .i64 vg, .string vn, .string vf, .int .i64 va, u2, .string vb, .int .i64 vs]) (fun q e => by subst e; omega)
  have hbp := hbq.trans ((touch_setRow (w3.setRow (w.heap.size + 1) #[.int .i64 kk, .int .i64 ki, .int .i64 kg, .string kn, .string kf, .int .i64 ka, u1, .string kb, .int .i64 ks]) (w.heap.size + 2) #[.int .i64 vk, .int .i64 vi, .int .i64 vg, .string vn, .string vf, .int .i64 va, u2, .string vb, .int .i64 vs]).below (fun q e => by omega) hbq.size)
  have hl4 := run_loadVar_mid (P := Tryz.prog) _ (w.heap.size + 1) 0 24 [.int .i64 kk, .int .i64 ki, .int .i64 kg, .string kn, .string kf, .int .i64 ka, u1, .string kb, .int .i64 ks] _ (row_rng hp4) Tryz.underlying24 rfl hsz9
  have hl5 := run_loadVar_mid (P := Tryz.prog) _ (w.heap.size + 2) 0 24 [.int .i64 vk, .int .i64 vi, .int .i64 vg, .string vn, .string vf, .int .i64 va, u2, .string vb, .int .i64 vs] _ (row_rng hp5) Tryz.underlying24 rfl hsz9
  have HZ4' := Lib.hid hz4
  have HQ5 := Lib.hid hq5
  have HF := Lib.hid (And.intro hl4 (And.intro hl5 (And.intro hbp (And.intro (hK1.base (HB2.out.size)) (hK2.base (HB2.out.size))))))
  clear hl4 hl5 hp4 hp5 hK1 hK2 hbp hbq hM1 hM2 hq4 hq5 hz4 hz5 hbW hN1 hN2 hb3 HN1 HN2 HRo
  go_wp2_with (first
    | (refine wpList_store_row rfl 24 (.tmp 4) (.tmp 22) rfl (w.heap.size + 1) #[.int .i64 kk, .int .i64 ki, .int .i64 kg, .string kn, .string kf, .int .i64 ka, u1, .string kb, .int .i64 ks] rfl rfl 24 _ HZ4'.out hsz9 rfl ho1 ?_)
    | (refine wpList_store_row rfl 24 (.tmp 5) (.tmp 23) rfl (w.heap.size + 2) #[.int .i64 vk, .int .i64 vi, .int .i64 vg, .string vn, .string vf, .int .i64 va, u2, .string vb, .int .i64 vs] rfl rfl 24 _ HQ5.out hsz9 rfl ho2 ?_))
  (try simp only [Exit.inBlock, Exit.then])
  obtain ⟨hl4, hl5, hbp, hK1, hK2⟩ := HF.out
  refine bodyPost_ret (v := .tuple #[.agg #[.int .i64 kk, .int .i64 ki, .int .i64 kg, .string kn, .string kf, .int .i64 ka, u1, .string kb, .int .i64 ks], .agg #[.int .i64 vk, .int .i64 vi, .int .i64 vg, .string vn, .string vf, .int .i64 va, u2, .string vb, .int .i64 vs], .bool true, .int .i64 0]) ?_ rfl ⟨F1, F2, u1, u2, rfl, hbp, hK1, hK2⟩
  have hA : ∀ (a : Addr) (w : World), (asAddr (.pointer (some a))).run Tryz.prog w = .ok a w := fun _ _ => rfl
  rw [results_cc rfl]
  simp [hA, hl4, hl5, Result.andThen]
end
theorem valid_flat {f : TF} (h1 : inB f.kind 0 10 = true) (h2 : okF f 0 (lastK 0 ([] : List (Tm 0))) = true) (h3 : { bareF f with kind := 0 } = zeroF) (h4 : sizeF f 0 ≤ 2000) : validT (Tm.mk (n := 0) f []) = true := by
  have e1 : (Tm.mk (n := 0) f []).f = f := rfl
  have e2 : (Tm.mk (n := 0) f []).items = [] := rfl
  have h3' : bareOK f 0 = true := by
    unfold bareOK
    rw [eqB_t h3]
    simp
  unfold validT formedT okT wholeT formedL wholeL
  rw [e1, e2]
  simp only [List.length_nil, h1, h2, h3', Bool.and_self, Bool.true_and, decide_eq_true_eq]
  omega
def aN : ByteArray := ⟨#[97]⟩
theorem ref_valid : validT (refT (N := 0) 1) = true := valid_flat (by kernel_rfl) (by kernel_rfl) rfl (by show (1 : Int) ≤ 2000; decide)
theorem pid_valid : validT (pidT (N := 0) 1) = true := valid_flat (by kernel_rfl) (by kernel_rfl) rfl (by show (1 : Int) ≤ 2000; decide)
theorem int_valid (k : Int) : validT (intT (N := 0) k) = true := valid_flat (by kernel_rfl) (by kernel_rfl) rfl (by show (1 : Int) ≤ 2000; decide)
theorem atom_valid : validT (atomT (N := 0) aN) = true := valid_flat (by kernel_rfl) (by kernel_rfl) rfl (by show (1 : Int) ≤ 2000; decide)
theorem cmp_a3 : cmpV (atomT (N := 0) aN) (intT 3) = 1 := by
  unfold cmpV
  rw [atom_valid, int_valid]
  kernel_rfl
theorem ne_a3 : atomT (N := 0) aN ≠ intT 3 := fun e => by
  have := congrArg (fun t => t.f.kind) e
  exact absurd this (by decide)
abbrev R1 : Tm (0 + 1) := refT 1
abbrev P1 : Tm (0 + 1) := pidT 1
abbrev A1 : Tm (0 + 1) := atomT aN
abbrev I1 : Tm (0 + 1) := intT 1
abbrev I3 : Tm (0 + 1) := intT 3
def StR (B z : Nat) (l : List (Tm (0 + 1) × Tm (0 + 1))) (W : World) : Prop := ∃ F vl t, TbAt W B F ⟨z, vl, [t]⟩ ∧ t.ref = R1 ∧ t.hs = false ∧ t.rows.map (fun r => (r.k, r.v)) = l
section
variable {B z : Nat} {l : List (Tm (0 + 1) × Tm (0 + 1))} {W W' : World}
theorem StR.below (h : StR B z l W) (hb : Below W.heap.size W W') : StR B z l W' := by
  obtain ⟨F, vl, t, h1, h2⟩ := h
  exact ⟨F, vl, t, h1.below hb, h2⟩
theorem ref_one {t : TabE 0} (h : t.ref = R1) : refAt [t] R1 = some 0 := by
  unfold refAt
  rw [List.findIdx?_cons, eqB_t h]
  rfl
theorem c_make {F : Nat → Prop} (h : TbAt W B F ⟨z, nilV, ([] : List (TabE 0))⟩) (hB : B ≤ W.heap.size) : Calls Tryz.prog 17 #[.pointer (some ⟨z, 0, none⟩), aggV R1.f nilV, aggV P1.f nilV, .bool false] W fun e w' => e = .returned (.int .i64 0) ∧ StR B z [] w' ∧ TT progT B W w' := by
  refine (make17y h hB (by simp) (Nat.zero_le B) (flat_items W 0) (flat_items W 0) (by decide) (by decide) ref_valid pid_valid rfl rfl false (by simp) rfl).mono ?_
  rintro e w' ⟨rfl, F1, ur, uo, vl, b, h1, h2, _⟩
  exact ⟨rfl, ⟨F1, vl, _, h1, rfl, rfl, rfl⟩, h2⟩
theorem c_twice (h : StR B z l W) (hB : B ≤ W.heap.size) (hs : Bool) : Calls Tryz.prog 17 #[.pointer (some ⟨z, 0, none⟩), aggV R1.f nilV, aggV P1.f nilV, .bool hs] W fun e w' => e = .returned (.int .i64 8) ∧ Below W.heap.size W w' := by
  obtain ⟨F, vl, t, h1, h2, _, _⟩ := h
  exact make17t h1 hB (by simp) (Nat.zero_le B) (flat_items W 0) (flat_items W 0) (by decide) (by decide) ref_valid pid_valid rfl rfl hs (i := 0) (by simp) (ref_one h2)
theorem c_put (h : StR B z l W) (hB : B ≤ W.heap.size) {k v : Tm (0 + 1)} (hk : nodesT k ≤ 100000000) (hv : nodesT v ≤ 100000000) (hki : k.items = []) (hvi : v.items = []) (h1 : validT k = true) (h2 : validT v = true) (hno : ∀ x ∈ l, x.1 ≠ k ∧ ¬ cmpV x.1 k < 0 ∧ nodesT x.1 ≤ 100000000) (hl : l.length ≤ 1) :
    Calls Tryz.prog 24 #[.pointer (some ⟨z, 0, none⟩), aggV R1.f nilV, aggV k.f nilV, aggV v.f nilV] W fun e w' => e = .returned (.int .i64 0) ∧ StR B z ((k, v) :: l) w' ∧ TT progT B W w' := by
  obtain ⟨F, vl, t, hT, hr, hs, hrows⟩ := h
  have hlen : t.rows.length = l.length := by rw [← hrows, List.length_map]
  have hmem : ∀ x ∈ t.rows, x.k ≠ k ∧ ¬ cmpV x.k k < 0 ∧ nodesT x.k ≤ 100000000 := fun x hx => hno (x.k, x.v) (by rw [← hrows]; exact List.mem_map.2 ⟨x, hx, rfl⟩)
  have hok : FindOK t k := ⟨fun x hx => by have := (hmem x hx).2.2; omega, by omega, fun i j hj hi => by omega⟩
  have hpos : posK t k = 0 := by
    unfold posK keyAt
    cases hq : t.rows with
    | nil => rfl
    | cons x xs =>
      have hx := hmem x (by rw [hq]; exact List.mem_cons_self)
      have : befB t.hs x.k k x.h (hK t.hs k) = false := by
        unfold befB
        rw [hs, if_neg (by decide), decide_eq_false hx.2.1]
      rw [List.findIdx_cons, this]
      rfl
  have hhas : hasK t k = false := by
    unfold hasK
    rw [hpos]
    cases hq : t.rows with
    | nil => rfl
    | cons x xs =>
      have hx := hmem x (by rw [hq]; exact List.mem_cons_self)
      exact eqB_f hx.1
  have hIk : ItemsAt W 0 0 nilV k.items := by rw [hki]; exact flat_items W 0
  have hIv : ItemsAt W 0 0 nilV v.items := by rw [hvi]; exact flat_items W 0
  refine (put24y hT hB (by simp) (Nat.zero_le B) (flat_items W 0 : ItemsAt W 0 0 nilV R1.items) hIk hIv hk hv h1 h2 (i := 0) (by simp) (ref_one hr) hok).mono ?_
  rintro e w' ⟨rfl, F1, uk, uv, vr, hq⟩
  obtain ⟨h3, h4⟩ := hq.upd hT (i := 0) (by simp)
  refine ⟨rfl, ⟨F1, vl, _, h3, hr, hs, ?_⟩, h4⟩
  show (setV (midRows t k uk) (posK t k) v uv).map (fun r => (r.k, r.v)) = (k, v) :: l
  unfold midRows
  rw [hhas, if_neg (by decide), hpos]
  unfold insK setV
  simp only [List.take_zero, List.nil_append, List.singleton_append, List.drop_zero, List.getElem?_cons_zero, List.set_cons_zero, List.map_cons, hrows, newRow]
theorem c_first {k v : Tm (0 + 1)} (h : StR B z ((k, v) :: l) W) (hk : nodesT k ≤ 100000000) (hv : nodesT v ≤ 100000000) : Calls Tryz.prog 39 #[.pointer (some ⟨z, 0, none⟩), aggV R1.f nilV] W (RowP k v W) := by
  obtain ⟨F, vl, t, hT, hr, hs, hrows⟩ := h
  have h0 : 0 < t.rows.length := by
    have := congrArg List.length hrows
    simp at this
    omega
  have hrow : ((t.rows[0]).k, (t.rows[0]).v) = (k, v) := by
    have := congrArg (fun x => x[0]?) hrows
    simp only [List.getElem?_map, List.getElem?_cons_zero, List.getElem?_eq_getElem h0, Option.map_some] at this
    exact Option.some.inj this
  simp only [Prod.mk.injEq] at hrow
  obtain ⟨e1, e2⟩ := hrow
  have := first39y hT (by simp) (Nat.zero_le W.heap.size) (flat_items W 0 : ItemsAt W 0 0 nilV R1.items) (i := 0) (by simp) (ref_one hr) h0 (e1.symm ▸ hk : nodesT (t.rows[0]).k ≤ 100000000) (e2.symm ▸ hv : nodesT (t.rows[0]).v ≤ 100000000)
  simp only [List.getElem_cons_zero, e1, e2] at this
  exact this
theorem c_size (h : StR B z l W) : Calls Tryz.prog 31 #[.pointer (some ⟨z, 0, none⟩), aggV R1.f nilV] W fun e w' => e = .returned (.tuple #[.int .i64 l.length, .int .i64 0]) ∧ Below W.heap.size W w' := by
  obtain ⟨F, vl, t, hT, hr, hs, hrows⟩ := h
  have hlen : t.rows.length = l.length := by rw [← hrows, List.length_map]
  refine size31 hT (by simp) (Nat.zero_le W.heap.size) (flat_items W 0 : ItemsAt W 0 0 nilV R1.items) (n := l.length) (er := 0) (.inr ⟨0, by simp, ref_one hr, ?_, rfl⟩)
  show (l.length : Int) = (t.rows.length : Int)
  rw [hlen]
end
end Go.Proofs.YtfbggmbmgohiiaaGreat.tb
