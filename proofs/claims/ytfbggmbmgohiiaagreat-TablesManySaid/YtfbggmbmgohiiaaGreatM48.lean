/- Texts of this seat, one behind the other: TcJ. No condition beyond theirs. -/
import Derived.Test.YtfbggmbmgohiiaaGreatM34
import Derived.Test.YtfbggmbmgohiiaaGreatM45
set_option linter.unusedSimpArgs false
set_option linter.unusedVariables false
set_option maxHeartbeats 4000000
set_option maxRecDepth 100000
namespace Go.Proofs.YtfbggmbmgohiiaaGreat.tb
open Go.RowKit mem rec tm names
theorem ld2 (w : World) (a : Addr) (v : Value) (h : w.cell? a = some v) : (loadVar 2 a).run Tryz.prog w = .ok v w := by
  go_simp
theorem ld9 (w : World) (a : Addr) (v : Value) (h : w.cell? a = some v) : (loadVar 9 a).run Tryz.prog w = .ok v w := by
  go_simp
theorem shown9 (w : World) : Calls Tryz.prog 9 #[] w (BPost true w) := by
  have HRf := Lib.hid (fun W => ref18 (N := 0) 1 W)
  have HPd := Lib.hid (fun W => pid19 (N := 0) 1 W)
  have HI1 := Lib.hid (fun W => int29 (N := 0) 1 W)
  have HI3 := Lib.hid (fun W => int29 (N := 0) 3 W)
  have HAt := Lib.hid (fun W => atom43 (N := 0) ⟨#[97]⟩ W)
  have HNew := Lib.hid (new16 (N := 0) w w.heap.size (Nat.le_refl _))
  have HMk := Lib.hid (fun W F (h : TbAt W w.heap.size F ⟨w.heap.size, nilV, ([] : List (TabE 0))⟩) hB => c_make h hB)
  have HTw := Lib.hid (fun W (h : StR w.heap.size w.heap.size [] W) hB => c_twice h hB true)
  have HP1 := Lib.hid (fun W (h : StR w.heap.size w.heap.size [] W) hB => c_put h hB (k := A1) (v := I1) (by decide) (by decide) rfl rfl atom_valid (int_valid 1) (fun x hx => by cases hx) (by decide))
  have HP2 := Lib.hid (fun W (h : StR w.heap.size w.heap.size [(A1, I1)] W) hB => c_put h hB (k := I3) (v := A1) (by decide) (by decide) rfl rfl (int_valid 3) atom_valid (fun x hx => by
    obtain rfl : x = (A1, I1) := by simpa using hx
    exact ⟨ne_a3, by rw [cmp_a3]; decide, by decide⟩) (by decide))
  have HFs := Lib.hid (fun W (h : StR w.heap.size w.heap.size [(I3, A1), (A1, I1)] W) => c_first h (by decide) (by decide))
  have HSz := Lib.hid (fun W (h : StR w.heap.size w.heap.size [(I3, A1), (A1, I1)] W) => c_size h)
  have HH := Lib.hid (fun W => Hash12 (n := 0) W 0 nilV A1 (Nat.zero_le _) (flat_items W 0) (by decide))
  have HR := Lib.hid (fun W => RHash13 (n := 0) W 0 nilV A1 (Nat.zero_le _) (flat_items W 0) (by decide))
  have HOne : Hid (∀ (W W' : World) G u (k : Tm (0 + 1)), NewI W W' G 0 u k.items → u.oneCell' = true) := Lib.hid (fun W W' G u k hN => in_one hN.items)
  obtain ⟨RV, hRV⟩ : ∃ x, aggV (refT (N := 0) 1).f nilV = x := ⟨_, rfl⟩
  obtain ⟨PV, hPV⟩ : ∃ x, aggV (pidT (N := 0) 1).f nilV = x := ⟨_, rfl⟩
  obtain ⟨V1, hV1⟩ : ∃ x, aggV (intT (N := 0) 1).f nilV = x := ⟨_, rfl⟩
  obtain ⟨V3, hV3⟩ : ∃ x, aggV (intT (N := 0) 3).f nilV = x := ⟨_, rfl⟩
  have hAV : aggV (atomT (N := 0) aN).f nilV = .agg #[.int .i64 2, .int .i64 0, .int .i64 0, .string ⟨#[97]⟩, .string ⟨#[]⟩, .int .i64 0, .slice none 0 0, .string ⟨#[]⟩, .int .i64 0] := rfl
  have hAV2 : aggV (atomT (N := 0) ⟨#[97]⟩).f nilV = .agg #[.int .i64 2, .int .i64 0, .int .i64 0, .string ⟨#[97]⟩, .string ⟨#[]⟩, .int .i64 0, .slice none 0 0, .string ⟨#[]⟩, .int .i64 0] := rfl
  have hA3 : ∀ u, aggV I3.f u = .agg #[.int .i64 1, .int .i64 3, .int .i64 0, .string ⟨#[]⟩, .string ⟨#[]⟩, .int .i64 0, u, .string ⟨#[]⟩, .int .i64 0] := fun _ => rfl
  have hAA : ∀ u, aggV A1.f u = .agg #[.int .i64 2, .int .i64 0, .int .i64 0, .string ⟨#[97]⟩, .string ⟨#[]⟩, .int .i64 0, u, .string ⟨#[]⟩, .int .i64 0] := fun _ => rfl
  have hq : hashT A1 = hashT A1 := rfl
  generalize hashT A1 = hA at HH HR hq
  clear hq
  unfold VQ at HRf HPd HI1 HI3 HAt
  rw [hRV] at HRf HMk HTw HP1 HP2 HFs HSz
  rw [hPV] at HPd HMk HTw
  rw [hV1] at HI1 HP1
  rw [hV3] at HI3 HP2
  rw [hAV] at HP1 HP2 HH HR
  rw [hAV2] at HAt
  unfold RowP at HFs
  simp only [hA3, hAA] at HFs
  obtain ⟨St0, hSt0⟩ : ∃ x : World → Prop, x = StR w.heap.size w.heap.size [] := ⟨_, rfl⟩
  obtain ⟨St1, hSt1⟩ : ∃ x : World → Prop, x = StR w.heap.size w.heap.size [(A1, I1)] := ⟨_, rfl⟩
  obtain ⟨St2, hSt2⟩ : ∃ x : World → Prop, x = StR w.heap.size w.heap.size [(I3, A1), (A1, I1)] := ⟨_, rfl⟩
  have HB0 : Hid (∀ W W', St0 W → Below W.heap.size W W' → St0 W') := Lib.hid (by rw [hSt0]; exact fun W W' h hb => h.below hb)
  have HB1 : Hid (∀ W W', St1 W → Below W.heap.size W W' → St1 W') := Lib.hid (by rw [hSt1]; exact fun W W' h hb => h.below hb)
  have HB2 : Hid (∀ W W', St2 W → Below W.heap.size W W' → St2 W') := Lib.hid (by rw [hSt2]; exact fun W W' h hb => h.below hb)
  rw [← hSt0] at HMk HTw HP1
  rw [← hSt1] at HP1 HP2
  rw [← hSt2] at HP2 HFs HSz
  clear hSt0 hSt1 hSt2 hRV hPV hV1 hV3 hAV hAV2 hA3 hAA
  have hsz9 : (Tryz.prog.info? 24).map (·.size) = some 9 := by kernel_rfl
  have hoA : (#[.int .i64 2, .int .i64 0, .int .i64 0, .string ⟨#[97]⟩, .string ⟨#[]⟩, .int .i64 0, .slice none 0 0, .string ⟨#[]⟩, .int .i64 0] : Array Value).all (·.oneCell') = true := all_oneCell_toArray (nineL_one (f := A1.f) (u := nilV) rfl)
  go_enter Tryz.func9, Tryz.ntmps9
  go_wp2_with fail
  refine HNew.out.mono ?_
  rintro e w1 ⟨rfl, hT0, hb1⟩
  go_wp2_with fail
  refine (HRf.out _).mono ?_
  rintro e w2 ⟨rfl, hb2⟩
  have hT2 := hT0.below hb2
  have hbd := hb1.trans (hb2.mono hb1.size)
  clear hT0 hb1 hb2
  go_wp2_with fail
  refine (HPd.out _).mono ?_
  rintro e w3 ⟨rfl, hb3⟩
  have hT3 := hT2.below hb3
  replace hbd := hbd.trans (hb3.mono hbd.size)
  clear hT2 hb3
  go_wp2_with fail
  refine (HMk.out _ _ hT3 hbd.size).mono ?_
  rintro e w4 ⟨rfl, hS4, hTT⟩
  replace hbd := hbd.trans (hTT.below hbd.size)
  clear hT3 hTT
  go_wp2_with fail
  refine (HRf.out _).mono ?_
  rintro e w5 ⟨rfl, hb5⟩
  have hS5 := HB0.out _ _ hS4 hb5
  replace hbd := hbd.trans (hb5.mono hbd.size)
  clear hS4 hb5
  go_wp2_with fail
  refine (HPd.out _).mono ?_
  rintro e w6 ⟨rfl, hb6⟩
  have hS6 := HB0.out _ _ hS5 hb6
  replace hbd := hbd.trans (hb6.mono hbd.size)
  clear hS5 hb6
  go_wp2_with fail
  refine (HTw.out _ hS6 hbd.size).mono ?_
  rintro e w7 ⟨rfl, hb7⟩
  have hS7 := HB0.out _ _ hS6 hb7
  replace hbd := hbd.trans (hb7.mono hbd.size)
  clear hS6 hb7
  go_wp2_with fail
  refine (HAt.out _).mono ?_
  rintro e w8 ⟨rfl, hb8⟩
  have hS8 := HB0.out _ _ hS7 hb8
  replace hbd := hbd.trans (hb8.mono hbd.size)
  clear hS7 hb8
  have hba := belowA (Below.refl w8.heap.size w8) (.cells #[.int .i64 0, .int .i64 0, .int .i64 0, .string ⟨#[]⟩, .string ⟨#[]⟩, .int .i64 0, .slice none 0 0, .string ⟨#[]⟩, .int .i64 0] 24) (Nat.le_refl _)
  have hza := alloc_new w8 (.cells #[.int .i64 0, .int .i64 0, .int .i64 0, .string ⟨#[]⟩, .string ⟨#[]⟩, .int .i64 0, .slice none 0 0, .string ⟨#[]⟩, .int .i64 0] 24)
  have hbs := hba.trans ((touch_setRow (w8.alloc (.cells #[.int .i64 0, .int .i64 0, .int .i64 0, .string ⟨#[]⟩, .string ⟨#[]⟩, .int .i64 0, .slice none 0 0, .string ⟨#[]⟩, .int .i64 0] 24)) w8.heap.size #[.int .i64 2, .int .i64 0, .int .i64 0, .string ⟨#[97]⟩, .string ⟨#[]⟩, .int .i64 0, .slice none 0 0, .string ⟨#[]⟩, .int .i64 0]).below (fun q e => Nat.le_of_eq e.symm) hba.size)
  have hz2 := setRow_heap _ w8.heap.size _ #[.int .i64 2, .int .i64 0, .int .i64 0, .string ⟨#[97]⟩, .string ⟨#[]⟩, .int .i64 0, .slice none 0 0, .string ⟨#[]⟩, .int .i64 0] _ _ hza
  have HZa := Lib.hid hza
  have hS9 := HB0.out _ _ hS8 hbs
  have hw8 := hbd.size
  replace hbd := hbd.trans (hbs.mono hbd.size)
  clear hba hza hbs hS8
  go_upto_region 5 with (first
    | (refine wpList_store_row rfl 24 (.tmp 2) (.tmp 28) rfl w8.heap.size #[.int .i64 2, .int .i64 0, .int .i64 0, .string ⟨#[97]⟩, .string ⟨#[]⟩, .int .i64 0, .slice none 0 0, .string ⟨#[]⟩, .int .i64 0] rfl rfl 24 _ HZa.out hsz9 rfl hoA ?_))
  generalize (w8.alloc (.cells #[.int .i64 0, .int .i64 0, .int .i64 0, .string ⟨#[]⟩, .string ⟨#[]⟩, .int .i64 0, .slice none 0 0, .string ⟨#[]⟩, .int .i64 0] 24)).setRow w8.heap.size #[.int .i64 2, .int .i64 0, .int .i64 0, .string ⟨#[97]⟩, .string ⟨#[]⟩, .int .i64 0, .slice none 0 0, .string ⟨#[]⟩, .int .i64 0] = w9 at *
  generalize w8.heap.size = z2 at *
  clear HZa
  have hd := belowD (Below.refl w9.heap.size w9)
  have hSc := HB0.out _ _ hS9 hd
  replace hz2 := (hd.block z2 (Array.getElem?_eq_some_iff.1 hz2).1).trans hz2
  replace hbd := hbd.trans (hd.mono hbd.size)
  clear hS9 hd
  refine wp_region_held_drew (S := (fun w' => w'.rangeAt z2 0 [.int .i64 2, .int .i64 0, .int .i64 0, .string ⟨#[97]⟩, .string ⟨#[]⟩, .int .i64 0, .slice none 0 0, .string ⟨#[]⟩, .int .i64 0])) (by kernel_rfl) ?_ (fun hHeld => ?_)
  · exact row_rng hz2
  refine wpAnyH_take (i := 0) (oi := { dst := some 29, op := Op.move (Operand.tmp 1), type := 34, pos := "law.go:32", after := #[], guard := none }) (v := ?vvA0) rfl (by kernel_rfl) (by kernel_rfl) (by kernel_rfl) (fun _ _ _ h => h) (Or.inl ⟨by rfl, ?hyA0⟩) (by assumption) ?rsA0
  case hyA0 =>
    intro w hSw
    (try dsimp only at hSw)
    go_simp
    (try with_reducible rfl)
  (try simp only [Act.put, List.setIfInBounds_toArray, List.set_cons_zero, List.set_cons_succ])
  refine wpAnyH_take (i := 2) (oi := { dst := some 31, op := Op.load 24 (Operand.tmp 2), type := 24, pos := "law.go:32", after := #[], guard := none }) rfl (by kernel_rfl) (by kernel_rfl) (by kernel_rfl) (fun _ _ _ h => h) (yieldsIf_load_mid (by rfl) 24 (.tmp 2) rfl z2 0 rfl [.int .i64 2, .int .i64 0, .int .i64 0, .string ⟨#[97]⟩, .string ⟨#[]⟩, .int .i64 0, .slice none 0 0, .string ⟨#[]⟩, .int .i64 0] _ (fun w hs => hs) Tryz.underlying24 rfl hsz9) (by assumption) ?_
  (try simp only [Act.put, List.setIfInBounds_toArray, List.set_cons_zero, List.set_cons_succ])
  refine wpAnyH_take (i := 5) (oi := { dst := some 34, op := Op.move (Operand.tmp 1), type := 34, pos := "law.go:32", after := #[], guard := none }) (v := ?vvA5) rfl (by kernel_rfl) (by kernel_rfl) (by kernel_rfl) (fun _ _ _ h => h) (Or.inl ⟨by rfl, ?hyA5⟩) (by assumption) ?rsA5
  case hyA5 =>
    intro w hSw
    (try dsimp only at hSw)
    go_simp
    (try with_reducible rfl)
  (try simp only [Act.put, List.setIfInBounds_toArray, List.set_cons_zero, List.set_cons_succ])
  refine wpAnyH_take (i := 8) (oi := { dst := some 37, op := Op.load 24 (Operand.tmp 2), type := 24, pos := "law.go:32", after := #[], guard := none }) rfl (by kernel_rfl) (by kernel_rfl) (by kernel_rfl) (fun _ _ _ h => h) (yieldsIf_load_mid (by rfl) 24 (.tmp 2) rfl z2 0 rfl [.int .i64 2, .int .i64 0, .int .i64 0, .string ⟨#[97]⟩, .string ⟨#[]⟩, .int .i64 0, .slice none 0 0, .string ⟨#[]⟩, .int .i64 0] _ (fun w hs => hs) Tryz.underlying24 rfl hsz9) (by assumption) ?_
  (try simp only [Act.put, List.setIfInBounds_toArray, List.set_cons_zero, List.set_cons_succ])
  refine wpAnyH_ready (rs := [1]) (by kernel_rfl) (by simp) ?_
  refine AllReadyH.cons (o := { dst := some 30, op := Op.call { callee := Callee.value (Operand.func 18), args := #[Operand.const (Value.int IntKind.i64 1)], argTypes := #[2] }, type := 24, pos := "law.go:32", after := #[], guard := none }) rfl (fun K hK => ?_) AllReadyH.nil
  go_simp
  refine (HRf.out _).mono ?_
  rintro e v1 ⟨rfl, hb⟩
  replace hSc := HB0.out _ _ hSc hb
  replace hz2 := (hb.block z2 (Array.getElem?_eq_some_iff.1 hz2).1).trans hz2
  replace hbd := hbd.trans (hb.mono hbd.size)
  clear hb
  go_wp2_with fail
  refine hK.out _ _ ?_ (fun hHeld => ?_)
  · exact row_rng hz2
  clear hK K
  (try simp only [Act.put, List.setIfInBounds_toArray, List.set_cons_zero, List.set_cons_succ])
  refine wpAnyH_ready (rs := [3]) (by kernel_rfl) (by simp) ?_
  refine AllReadyH.cons (o := { dst := some 32, op := Op.call { callee := Callee.value (Operand.func 29), args := #[Operand.const (Value.int IntKind.i64 1)], argTypes := #[2] }, type := 24, pos := "law.go:32", after := #[{ on := 1, ground := Ground.chain }], guard := none }) rfl (fun K hK => ?_) AllReadyH.nil
  go_simp
  refine (HI1.out _).mono ?_
  rintro e v3 ⟨rfl, hb⟩
  replace hSc := HB0.out _ _ hSc hb
  replace hz2 := (hb.block z2 (Array.getElem?_eq_some_iff.1 hz2).1).trans hz2
  replace hbd := hbd.trans (hb.mono hbd.size)
  clear hb
  go_wp2_with fail
  refine hK.out _ _ ?_ (fun hHeld => ?_)
  · exact row_rng hz2
  clear hK K
  (try simp only [Act.put, List.setIfInBounds_toArray, List.set_cons_zero, List.set_cons_succ])
  refine wpAnyH_ready (rs := [4]) (by kernel_rfl) (by simp) ?_
  refine AllReadyH.cons (o := { dst := some 33, op := Op.call { callee := Callee.value (Operand.func 24), args := #[Operand.tmp 29, Operand.tmp 30, Operand.tmp 31, Operand.tmp 32], argTypes := #[34, 24, 24, 24] }, type := 40, pos := "law.go:32", after := #[{ on := 0, ground := Ground.data }, { on := 1, ground := Ground.data }, { on := 2, ground := Ground.data }, { on := 3, ground := Ground.data }, { on := 3, ground := Ground.chain }], guard := none }) rfl (fun K hK => ?_) AllReadyH.nil
  go_simp
  refine (HP1.out _ hSc hbd.size).mono ?_
  rintro e v4 ⟨rfl, hSn, hTT⟩
  clear hSc
  have hSc := hSn
  replace hz2 := hTT.keepC hz2 (by unfold progT; decide)
  replace hbd := hbd.trans (hTT.below hbd.size)
  clear hSn hTT
  go_wp2_with fail
  refine hK.out _ _ ?_ (fun hHeld => ?_)
  · exact row_rng hz2
  clear hK K
  (try simp only [Act.put, List.setIfInBounds_toArray, List.set_cons_zero, List.set_cons_succ])
  refine wpAnyH_ready (rs := [6]) (by kernel_rfl) (by simp) ?_
  refine AllReadyH.cons (o := { dst := some 35, op := Op.call { callee := Callee.value (Operand.func 18), args := #[Operand.const (Value.int IntKind.i64 1)], argTypes := #[2] }, type := 24, pos := "law.go:32", after := #[{ on := 4, ground := Ground.chain }], guard := none }) rfl (fun K hK => ?_) AllReadyH.nil
  go_simp
  refine (HRf.out _).mono ?_
  rintro e v6 ⟨rfl, hb⟩
  replace hSc := HB1.out _ _ hSc hb
  replace hz2 := (hb.block z2 (Array.getElem?_eq_some_iff.1 hz2).1).trans hz2
  replace hbd := hbd.trans (hb.mono hbd.size)
  clear hb
  go_wp2_with fail
  refine hK.out _ _ ?_ (fun hHeld => ?_)
  · exact row_rng hz2
  clear hK K
  (try simp only [Act.put, List.setIfInBounds_toArray, List.set_cons_zero, List.set_cons_succ])
  refine wpAnyH_ready (rs := [7]) (by kernel_rfl) (by simp) ?_
  refine AllReadyH.cons (o := { dst := some 36, op := Op.call { callee := Callee.value (Operand.func 29), args := #[Operand.const (Value.int IntKind.i64 3)], argTypes := #[2] }, type := 24, pos := "law.go:32", after := #[{ on := 6, ground := Ground.chain }], guard := none }) rfl (fun K hK => ?_) AllReadyH.nil
  go_simp
  refine (HI3.out _).mono ?_
  rintro e v7 ⟨rfl, hb⟩
  replace hSc := HB1.out _ _ hSc hb
  replace hz2 := (hb.block z2 (Array.getElem?_eq_some_iff.1 hz2).1).trans hz2
  replace hbd := hbd.trans (hb.mono hbd.size)
  clear hb
  go_wp2_with fail
  refine hK.out _ _ ?_ (fun hHeld => ?_)
  · exact row_rng hz2
  clear hK K
  (try simp only [Act.put, List.setIfInBounds_toArray, List.set_cons_zero, List.set_cons_succ])
  refine wpAnyH_ready (rs := [9]) (by kernel_rfl) (by simp) ?_
  refine AllReadyH.cons (o := { dst := some 38, op := Op.call { callee := Callee.value (Operand.func 24), args := #[Operand.tmp 34, Operand.tmp 35, Operand.tmp 36, Operand.tmp 37], argTypes := #[34, 24, 24, 24] }, type := 40, pos := "law.go:32", after := #[{ on := 5, ground := Ground.data }, { on := 6, ground := Ground.data }, { on := 7, ground := Ground.data }, { on := 8, ground := Ground.data }, { on := 7, ground := Ground.chain }], guard := none }) rfl (fun K hK => ?_) AllReadyH.nil
  go_simp
  refine (HP2.out _ hSc hbd.size).mono ?_
  rintro e v9 ⟨rfl, hSn, hTT⟩
  clear hSc
  have hSc := hSn
  replace hz2 := hTT.keepC hz2 (by unfold progT; decide)
  replace hbd := hbd.trans (hTT.below hbd.size)
  clear hSn hTT
  go_wp2_with fail
  refine hK.out _ _ ?_ (fun hHeld => ?_)
  · exact row_rng hz2
  clear hK K
  (try simp only [Act.put, List.setIfInBounds_toArray, List.set_cons_zero, List.set_cons_succ])
  refine wpAnyH_take (i := 10) (oi := { dst := some 3, op := Op.assign (Operand.tmp 33), type := 40, pos := "law.go:32", after := #[{ on := 4, ground := Ground.data }, { on := 9, ground := Ground.chain }, { on := 0, ground := Ground.phase }, { on := 1, ground := Ground.phase }, { on := 2, ground := Ground.phase }, { on := 3, ground := Ground.phase }, { on := 4, ground := Ground.phase }, { on := 5, ground := Ground.textOnly Departure.lateStores }, { on := 6, ground := Ground.textOnly Departure.lateStoresUnsure }, { on := 7, ground := Ground.textOnly Departure.lateStoresUnsure }, { on := 8, ground := Ground.textOnly Departure.lateStores }, { on := 9, ground := Ground.textOnly Departure.lateStoresUnsure }], guard := none }) (v := ?vvA10) rfl (by kernel_rfl) (by kernel_rfl) (by kernel_rfl) (fun _ _ _ h => h) (Or.inl ⟨by rfl, ?hyA10⟩) (by assumption) ?rsA10
  case hyA10 =>
    intro w hSw
    (try dsimp only at hSw)
    go_simp
    (try with_reducible rfl)
  (try simp only [Act.put, List.setIfInBounds_toArray, List.set_cons_zero, List.set_cons_succ])
  refine wpAnyH_take (i := 11) (oi := { dst := some 4, op := Op.assign (Operand.tmp 38), type := 40, pos := "law.go:32", after := #[{ on := 9, ground := Ground.data }, { on := 10, ground := Ground.chain }, { on := 0, ground := Ground.phase }, { on := 1, ground := Ground.phase }, { on := 2, ground := Ground.phase }, { on := 3, ground := Ground.phase }, { on := 4, ground := Ground.phase }, { on := 5, ground := Ground.phase }, { on := 6, ground := Ground.phase }, { on := 7, ground := Ground.phase }, { on := 8, ground := Ground.phase }, { on := 9, ground := Ground.phase }, { on := 10, ground := Ground.phase }], guard := none }) (v := ?vvA11) rfl (by kernel_rfl) (by kernel_rfl) (by kernel_rfl) (fun _ _ _ h => h) (Or.inl ⟨by rfl, ?hyA11⟩) (by assumption) ?rsA11
  case hyA11 =>
    intro w hSw
    (try dsimp only at hSw)
    go_simp
    (try with_reducible rfl)
  (try simp only [Act.put, List.setIfInBounds_toArray, List.set_cons_zero, List.set_cons_succ])
  refine wpAnyH_done (by kernel_rfl) ?_ _
  go_wp2_with fail
  refine (HRf.out _).mono ?_
  rintro e x1 ⟨rfl, hb⟩
  replace hSc := HB2.out _ _ hSc hb
  replace hz2 := (hb.block z2 (Array.getElem?_eq_some_iff.1 hz2).1).trans hz2
  replace hbd := hbd.trans (hb.mono hbd.size)
  clear hb
  go_wp2_with fail
  refine (HFs.out _ hSc).mono ?_
  rintro e x2 ⟨F1, F2, u1, u2, rfl, hb, hN1, hN2⟩
  replace hSc := HB2.out _ _ hSc hb
  replace hz2 := (hb.block z2 (Array.getElem?_eq_some_iff.1 hz2).1).trans hz2
  replace hbd := hbd.trans (hb.mono hbd.size)
  have ho1 : (#[.int .i64 1, .int .i64 3, .int .i64 0, .string ⟨#[]⟩, .string ⟨#[]⟩, .int .i64 0, u1, .string ⟨#[]⟩, .int .i64 0] : Array Value).all (·.oneCell') = true := all_oneCell_toArray (nineL_one (f := I3.f) (u := u1) (HOne.out _ _ _ _ _ hN1))
  have ho2 : (#[.int .i64 2, .int .i64 0, .int .i64 0, .string ⟨#[97]⟩, .string ⟨#[]⟩, .int .i64 0, u2, .string ⟨#[]⟩, .int .i64 0] : Array Value).all (·.oneCell') = true := all_oneCell_toArray (nineL_one (f := A1.f) (u := u2) (HOne.out _ _ _ _ _ hN2))
  clear hN1 hN2 hb
  obtain ⟨hb0, hza, hzb⟩ := two_boxes x2 (.cells #[.int .i64 0, .int .i64 0, .int .i64 0, .string ⟨#[]⟩, .string ⟨#[]⟩, .int .i64 0, .slice none 0 0, .string ⟨#[]⟩, .int .i64 0] 24) (.cells #[.int .i64 0, .int .i64 0, .int .i64 0, .string ⟨#[]⟩, .string ⟨#[]⟩, .int .i64 0, .slice none 0 0, .string ⟨#[]⟩, .int .i64 0] 24)
  have hs1 : ((x2.alloc (.cells #[.int .i64 0, .int .i64 0, .int .i64 0, .string ⟨#[]⟩, .string ⟨#[]⟩, .int .i64 0, .slice none 0 0, .string ⟨#[]⟩, .int .i64 0] 24)).alloc (.cells #[.int .i64 0, .int .i64 0, .int .i64 0, .string ⟨#[]⟩, .string ⟨#[]⟩, .int .i64 0, .slice none 0 0, .string ⟨#[]⟩, .int .i64 0] 24)).heap.size = x2.heap.size + 2 := by rw [World.size_alloc, World.size_alloc]
  have HZa := Lib.hid hza
  have hq4 := setRow_heap _ x2.heap.size _ #[.int .i64 1, .int .i64 3, .int .i64 0, .string ⟨#[]⟩, .string ⟨#[]⟩, .int .i64 0, u1, .string ⟨#[]⟩, .int .i64 0] _ _ hza
  have hq5 := (setRow_other ((x2.alloc (.cells #[.int .i64 0, .int .i64 0, .int .i64 0, .string ⟨#[]⟩, .string ⟨#[]⟩, .int .i64 0, .slice none 0 0, .string ⟨#[]⟩, .int .i64 0] 24)).alloc (.cells #[.int .i64 0, .int .i64 0, .int .i64 0, .string ⟨#[]⟩, .string ⟨#[]⟩, .int .i64 0, .slice none 0 0, .string ⟨#[]⟩, .int .i64 0] 24)) x2.heap.size (x2.heap.size + 1) #[.int .i64 1, .int .i64 3, .int .i64 0, .string ⟨#[]⟩, .string ⟨#[]⟩, .int .i64 0, u1, .string ⟨#[]⟩, .int .i64 0] (by omega)).trans hzb
  have hbq := hb0.trans ((touch_setRow ((x2.alloc (.cells #[.int .i64 0, .int .i64 0, .int .i64 0, .string ⟨#[]⟩, .string ⟨#[]⟩, .int .i64 0, .slice none 0 0, .string ⟨#[]⟩, .int .i64 0] 24)).alloc (.cells #[.int .i64 0, .int .i64 0, .int .i64 0, .string ⟨#[]⟩, .string ⟨#[]⟩, .int .i64 0, .slice none 0 0, .string ⟨#[]⟩, .int .i64 0] 24)) x2.heap.size #[.int .i64 1, .int .i64 3, .int .i64 0, .string ⟨#[]⟩, .string ⟨#[]⟩, .int .i64 0, u1, .string ⟨#[]⟩, .int .i64 0]).below (fun q e => by omega) hb0.size)
  have HQ5 := Lib.hid hq5
  have hp5 := setRow_heap _ (x2.heap.size + 1) _ #[.int .i64 2, .int .i64 0, .int .i64 0, .string ⟨#[97]⟩, .string ⟨#[]⟩, .int .i64 0, u2, .string ⟨#[]⟩, .int .i64 0] _ _ hq5
  have hp4 := (setRow_other (((x2.alloc (.cells #[.int .i64 0, .int .i64 0, .int .i64 0, .string ⟨#[]⟩, .string ⟨#[]⟩, .int .i64 0, .slice none 0 0, .string ⟨#[]⟩, .int .i64 0] 24)).alloc (.cells #[.int .i64 0, .int .i64 0, .int .i64 0, .string ⟨#[]⟩, .string ⟨#[]⟩, .int .i64 0, .slice none 0 0, .string ⟨#[]⟩, .int .i64 0] 24)).setRow x2.heap.size #[.int .i64 1, .int .i64 3, .int .i64 0, .string ⟨#[]⟩, .string ⟨#[]⟩, .int .i64 0, u1, .string ⟨#[]⟩, .int .i64 0]) (x2.heap.size + 1) x2.heap.size #[.int .i64 2, .int .i64 0, .int .i64 0, .string ⟨#[97]⟩, .string ⟨#[]⟩, .int .i64 0, u2, .string ⟨#[]⟩, .int .i64 0] (by omega)).trans hq4
  have hbp := hbq.trans ((touch_setRow (((x2.alloc (.cells #[.int .i64 0, .int .i64 0, .int .i64 0, .string ⟨#[]⟩, .string ⟨#[]⟩, .int .i64 0, .slice none 0 0, .string ⟨#[]⟩, .int .i64 0] 24)).alloc (.cells #[.int .i64 0, .int .i64 0, .int .i64 0, .string ⟨#[]⟩, .string ⟨#[]⟩, .int .i64 0, .slice none 0 0, .string ⟨#[]⟩, .int .i64 0] 24)).setRow x2.heap.size #[.int .i64 1, .int .i64 3, .int .i64 0, .string ⟨#[]⟩, .string ⟨#[]⟩, .int .i64 0, u1, .string ⟨#[]⟩, .int .i64 0]) (x2.heap.size + 1) #[.int .i64 2, .int .i64 0, .int .i64 0, .string ⟨#[97]⟩, .string ⟨#[]⟩, .int .i64 0, u2, .string ⟨#[]⟩, .int .i64 0]).below (fun q e => by omega) hbq.size)
  replace hSc := HB2.out _ _ hSc hbp
  replace hz2 := (hbp.block z2 (Array.getElem?_eq_some_iff.1 hz2).1).trans hz2
  replace hbd := hbd.trans (hbp.mono hbd.size)
  clear hza hzb hq4 hq5 hbq hbp hb0 hs1
  go_upto_region 7 with (first
    | (refine wpList_store_row rfl 24 (.tmp 5) (.tmp 43) rfl x2.heap.size #[.int .i64 1, .int .i64 3, .int .i64 0, .string ⟨#[]⟩, .string ⟨#[]⟩, .int .i64 0, u1, .string ⟨#[]⟩, .int .i64 0] rfl rfl 24 _ HZa.out hsz9 rfl ho1 ?_)
    | (refine wpList_store_row rfl 24 (.tmp 6) (.tmp 44) rfl (x2.heap.size + 1) #[.int .i64 2, .int .i64 0, .int .i64 0, .string ⟨#[97]⟩, .string ⟨#[]⟩, .int .i64 0, u2, .string ⟨#[]⟩, .int .i64 0] rfl rfl 24 _ HQ5.out hsz9 rfl ho2 ?_))
  clear HZa HQ5
  generalize (((x2.alloc (.cells #[.int .i64 0, .int .i64 0, .int .i64 0, .string ⟨#[]⟩, .string ⟨#[]⟩, .int .i64 0, .slice none 0 0, .string ⟨#[]⟩, .int .i64 0] 24)).alloc (.cells #[.int .i64 0, .int .i64 0, .int .i64 0, .string ⟨#[]⟩, .string ⟨#[]⟩, .int .i64 0, .slice none 0 0, .string ⟨#[]⟩, .int .i64 0] 24)).setRow x2.heap.size #[.int .i64 1, .int .i64 3, .int .i64 0, .string ⟨#[]⟩, .string ⟨#[]⟩, .int .i64 0, u1, .string ⟨#[]⟩, .int .i64 0]).setRow (x2.heap.size + 1) #[.int .i64 2, .int .i64 0, .int .i64 0, .string ⟨#[97]⟩, .string ⟨#[]⟩, .int .i64 0, u2, .string ⟨#[]⟩, .int .i64 0] = x3 at *
  generalize x2.heap.size + 1 = z6 at *
  generalize x2.heap.size = z5 at *
  go_wp2_with fail
  refine (HRf.out _).mono ?_
  rintro e x4 ⟨rfl, hb⟩
  replace hSc := HB2.out _ _ hSc hb
  replace hz2 := (hb.block _ (Array.getElem?_eq_some_iff.1 hz2).1).trans hz2
  replace hp4 := (hb.block _ (Array.getElem?_eq_some_iff.1 hp4).1).trans hp4
  replace hp5 := (hb.block _ (Array.getElem?_eq_some_iff.1 hp5).1).trans hp5
  replace hbd := hbd.trans (hb.mono hbd.size)
  clear hb
  go_wp2_with fail
  refine (HSz.out _ hSc).mono ?_
  rintro e x5 ⟨rfl, hb⟩
  replace hSc := HB2.out _ _ hSc hb
  replace hz2 := (hb.block _ (Array.getElem?_eq_some_iff.1 hz2).1).trans hz2
  replace hp4 := (hb.block _ (Array.getElem?_eq_some_iff.1 hp4).1).trans hp4
  replace hp5 := (hb.block _ (Array.getElem?_eq_some_iff.1 hp5).1).trans hp5
  replace hbd := hbd.trans (hb.mono hbd.size)
  clear hb
  go_upto_region 8 with (fail)
  have hb := belowD (Below.refl x5.heap.size x5)
  replace hSc := HB2.out _ _ hSc hb
  replace hz2 := (hb.block _ (Array.getElem?_eq_some_iff.1 hz2).1).trans hz2
  replace hp4 := (hb.block _ (Array.getElem?_eq_some_iff.1 hp4).1).trans hp4
  replace hp5 := (hb.block _ (Array.getElem?_eq_some_iff.1 hp5).1).trans hp5
  replace hbd := hbd.trans (hb.mono hbd.size)
  clear hb
  have k5 := row_rng hp4 1 _ rfl
  have k6 := row_rng hp5 3 _ rfl
  simp only [Nat.reduceAdd] at k5 k6
  refine wp_region_held_drew (S := (fun w' => w'.rangeAt z2 0 [.int .i64 2, .int .i64 0, .int .i64 0, .string ⟨#[97]⟩, .string ⟨#[]⟩, .int .i64 0, .slice none 0 0, .string ⟨#[]⟩, .int .i64 0] ∧ w'.cell? ⟨z5, 1, none⟩ = some (.int .i64 3) ∧ w'.cell? ⟨z6, 3, none⟩ = some (.string ⟨#[97]⟩))) (by kernel_rfl) ?_ (fun hHeld => ?_)
  · exact ⟨row_rng hz2, k5, k6⟩
  refine wpAnyH_take (i := 0) (oi := { dst := some 53, op := Op.move (Operand.tmp 3), type := 40, pos := "law.go:35", after := #[], guard := none }) (v := ?vvB0) rfl (by kernel_rfl) (by kernel_rfl) (by kernel_rfl) (fun _ _ _ h => h) (Or.inl ⟨by rfl, ?hyB0⟩) (by assumption) ?rsB0
  case hyB0 =>
    intro w hSw
    (try dsimp only at hSw)
    go_simp
    (try with_reducible rfl)
  (try simp only [Act.put, List.setIfInBounds_toArray, List.set_cons_zero, List.set_cons_succ])
  refine wpAnyH_take (i := 1) (oi := { dst := some 54, op := Op.binOp BinOp.eql 40 (Operand.tmp 53) (Operand.const (Value.int IntKind.i64 0)) 40, type := 4, pos := "law.go:35", after := #[{ on := 0, ground := Ground.data }], guard := none }) (v := ?vvB1) rfl (by kernel_rfl) (by kernel_rfl) (by kernel_rfl) (fun _ _ _ h => h) (Or.inl ⟨by rfl, ?hyB1⟩) (by assumption) ?rsB1
  case hyB1 =>
    intro w hSw
    (try dsimp only at hSw)
    go_simp
    (try with_reducible rfl)
  (try simp only [Act.put, List.setIfInBounds_toArray, List.set_cons_zero, List.set_cons_succ])
  refine wpAnyH_take (i := 2) (oi := { dst := some 55, op := Op.move (Operand.tmp 54), type := 4, pos := "law.go:35", after := #[{ on := 1, ground := Ground.data }], guard := none }) (v := ?vvB2) rfl (by kernel_rfl) (by kernel_rfl) (by kernel_rfl) (fun _ _ _ h => h) (Or.inl ⟨by rfl, ?hyB2⟩) (by assumption) ?rsB2
  case hyB2 =>
    intro w hSw
    (try dsimp only at hSw)
    go_simp
    (try with_reducible rfl)
  (try simp only [Act.put, List.setIfInBounds_toArray, List.set_cons_zero, List.set_cons_succ])
  refine wpAnyH_take (i := 3) (oi := { dst := some 56, op := Op.move (Operand.tmp 4), type := 40, pos := "law.go:35", after := #[{ on := 2, ground := Ground.guard }], guard := some (2, true) }) (v := ?vvB3) rfl (by kernel_rfl) (by kernel_rfl) (by kernel_rfl) (fun _ _ _ h => h) (Or.inl ⟨by rfl, ?hyB3⟩) (by assumption) ?rsB3
  case hyB3 =>
    intro w hSw
    (try dsimp only at hSw)
    go_simp
    (try with_reducible rfl)
  (try simp only [Act.put, List.setIfInBounds_toArray, List.set_cons_zero, List.set_cons_succ])
  refine wpAnyH_take (i := 4) (oi := { dst := some 57, op := Op.binOp BinOp.eql 40 (Operand.tmp 56) (Operand.const (Value.int IntKind.i64 0)) 40, type := 4, pos := "law.go:35", after := #[{ on := 3, ground := Ground.data }, { on := 2, ground := Ground.guard }], guard := some (2, true) }) (v := ?vvB4) rfl (by kernel_rfl) (by kernel_rfl) (by kernel_rfl) (fun _ _ _ h => h) (Or.inl ⟨by rfl, ?hyB4⟩) (by assumption) ?rsB4
  case hyB4 =>
    intro w hSw
    (try dsimp only at hSw)
    go_simp
    (try with_reducible rfl)
  (try simp only [Act.put, List.setIfInBounds_toArray, List.set_cons_zero, List.set_cons_succ])
  refine wpAnyH_take (i := 5) (oi := { dst := some 58, op := Op.pick (Operand.tmp 55) (Operand.tmp 57) (Operand.const (Value.bool false)), type := 4, pos := "law.go:35", after := #[{ on := 2, ground := Ground.data }, { on := 4, ground := Ground.data }], guard := none }) (v := ?vvB5) rfl (by kernel_rfl) (by kernel_rfl) (by kernel_rfl) (fun _ _ _ h => h) (Or.inl ⟨by rfl, ?hyB5⟩) (by assumption) ?rsB5
  case hyB5 =>
    intro w hSw
    (try dsimp only at hSw)
    go_simp
    (try with_reducible rfl)
  (try simp only [Act.put, List.setIfInBounds_toArray, List.set_cons_zero, List.set_cons_succ])
  refine wpAnyH_take (i := 6) (oi := { dst := some 59, op := Op.move (Operand.tmp 58), type := 4, pos := "law.go:35", after := #[{ on := 5, ground := Ground.data }, { on := 2, ground := Ground.chain }], guard := none }) (v := ?vvB6) rfl (by kernel_rfl) (by kernel_rfl) (by kernel_rfl) (fun _ _ _ h => h) (Or.inl ⟨by rfl, ?hyB6⟩) (by assumption) ?rsB6
  case hyB6 =>
    intro w hSw
    (try dsimp only at hSw)
    go_simp
    (try with_reducible rfl)
  (try simp only [Act.put, List.setIfInBounds_toArray, List.set_cons_zero, List.set_cons_succ])
  refine wpAnyH_take (i := 7) (oi := { dst := some 60, op := Op.fieldAddr 24 (Operand.tmp 5) 1, type := 0, pos := "law.go:35", after := #[{ on := 6, ground := Ground.guard }], guard := some (6, true) }) (v := ?vvB7) rfl (by kernel_rfl) (by kernel_rfl) (by kernel_rfl) (fun _ _ _ h => h) (Or.inl ⟨by rfl, ?hyB7⟩) (by assumption) ?rsB7
  case hyB7 =>
    intro w hSw
    (try dsimp only at hSw)
    go_simp
    (try with_reducible rfl)
  (try simp only [Act.put, List.setIfInBounds_toArray, List.set_cons_zero, List.set_cons_succ])
  refine wpAnyH_take (i := 8) (oi := { dst := some 61, op := Op.load 2 (Operand.tmp 60), type := 2, pos := "law.go:35", after := #[{ on := 7, ground := Ground.data }, { on := 6, ground := Ground.guard }], guard := some (6, true) }) rfl (by kernel_rfl) (by kernel_rfl) (by kernel_rfl) (fun _ _ _ h => h) (yieldsB_cell (by rfl) 2 (.tmp 60) rfl z5 1 rfl _ ld2 (fun w hs => hs.2.1)) (by assumption) ?_
  (try simp only [Act.put, List.setIfInBounds_toArray, List.set_cons_zero, List.set_cons_succ])
  refine wpAnyH_take (i := 9) (oi := { dst := some 62, op := Op.binOp BinOp.eql 2 (Operand.tmp 61) (Operand.const (Value.int IntKind.i64 3)) 2, type := 4, pos := "law.go:35", after := #[{ on := 8, ground := Ground.data }, { on := 6, ground := Ground.guard }], guard := some (6, true) }) (v := ?vvB9) rfl (by kernel_rfl) (by kernel_rfl) (by kernel_rfl) (fun _ _ _ h => h) (Or.inl ⟨by rfl, ?hyB9⟩) (by assumption) ?rsB9
  case hyB9 =>
    intro w hSw
    (try dsimp only at hSw)
    go_simp
    (try with_reducible rfl)
  (try simp only [Act.put, List.setIfInBounds_toArray, List.set_cons_zero, List.set_cons_succ])
  refine wpAnyH_take (i := 10) (oi := { dst := some 63, op := Op.pick (Operand.tmp 59) (Operand.tmp 62) (Operand.const (Value.bool false)), type := 4, pos := "law.go:35", after := #[{ on := 6, ground := Ground.data }, { on := 9, ground := Ground.data }], guard := none }) (v := ?vvB10) rfl (by kernel_rfl) (by kernel_rfl) (by kernel_rfl) (fun _ _ _ h => h) (Or.inl ⟨by rfl, ?hyB10⟩) (by assumption) ?rsB10
  case hyB10 =>
    intro w hSw
    (try dsimp only at hSw)
    go_simp
    (try with_reducible rfl)
  (try simp only [Act.put, List.setIfInBounds_toArray, List.set_cons_zero, List.set_cons_succ])
  refine wpAnyH_take (i := 11) (oi := { dst := some 64, op := Op.move (Operand.tmp 63), type := 4, pos := "law.go:35", after := #[{ on := 10, ground := Ground.data }, { on := 6, ground := Ground.chain }], guard := none }) (v := ?vvB11) rfl (by kernel_rfl) (by kernel_rfl) (by kernel_rfl) (fun _ _ _ h => h) (Or.inl ⟨by rfl, ?hyB11⟩) (by assumption) ?rsB11
  case hyB11 =>
    intro w hSw
    (try dsimp only at hSw)
    go_simp
    (try with_reducible rfl)
  (try simp only [Act.put, List.setIfInBounds_toArray, List.set_cons_zero, List.set_cons_succ])
  refine wpAnyH_take (i := 12) (oi := { dst := some 65, op := Op.fieldAddr 24 (Operand.tmp 6) 3, type := 0, pos := "law.go:35", after := #[{ on := 11, ground := Ground.guard }], guard := some (11, true) }) (v := ?vvB12) rfl (by kernel_rfl) (by kernel_rfl) (by kernel_rfl) (fun _ _ _ h => h) (Or.inl ⟨by rfl, ?hyB12⟩) (by assumption) ?rsB12
  case hyB12 =>
    intro w hSw
    (try dsimp only at hSw)
    go_simp
    (try with_reducible rfl)
  (try simp only [Act.put, List.setIfInBounds_toArray, List.set_cons_zero, List.set_cons_succ])
  refine wpAnyH_take (i := 13) (oi := { dst := some 66, op := Op.load 9 (Operand.tmp 65), type := 9, pos := "law.go:35", after := #[{ on := 12, ground := Ground.data }, { on := 11, ground := Ground.guard }], guard := some (11, true) }) rfl (by kernel_rfl) (by kernel_rfl) (by kernel_rfl) (fun _ _ _ h => h) (yieldsB_cell (by rfl) 9 (.tmp 65) rfl z6 3 rfl _ ld9 (fun w hs => hs.2.2)) (by assumption) ?_
  (try simp only [Act.put, List.setIfInBounds_toArray, List.set_cons_zero, List.set_cons_succ])
  refine wpAnyH_take (i := 14) (oi := { dst := some 67, op := Op.binOp BinOp.eql 9 (Operand.tmp 66) (Operand.const (Value.string { data := #[97] })) 9, type := 4, pos := "law.go:35", after := #[{ on := 13, ground := Ground.data }, { on := 11, ground := Ground.guard }], guard := some (11, true) }) (v := ?vvB14) rfl (by kernel_rfl) (by kernel_rfl) (by kernel_rfl) (fun _ _ _ h => h) (Or.inl ⟨by rfl, ?hyB14⟩) (by assumption) ?rsB14
  case hyB14 =>
    intro w hSw
    (try dsimp only at hSw)
    go_simp
    (try with_reducible rfl)
  (try simp only [Act.put, List.setIfInBounds_toArray, List.set_cons_zero, List.set_cons_succ])
  refine wpAnyH_take (i := 15) (oi := { dst := some 68, op := Op.pick (Operand.tmp 64) (Operand.tmp 67) (Operand.const (Value.bool false)), type := 4, pos := "law.go:35", after := #[{ on := 11, ground := Ground.data }, { on := 14, ground := Ground.data }], guard := none }) (v := ?vvB15) rfl (by kernel_rfl) (by kernel_rfl) (by kernel_rfl) (fun _ _ _ h => h) (Or.inl ⟨by rfl, ?hyB15⟩) (by assumption) ?rsB15
  case hyB15 =>
    intro w hSw
    (try dsimp only at hSw)
    go_simp
    (try with_reducible rfl)
  (try simp only [Act.put, List.setIfInBounds_toArray, List.set_cons_zero, List.set_cons_succ])
  refine wpAnyH_take (i := 16) (oi := { dst := some 69, op := Op.move (Operand.tmp 68), type := 4, pos := "law.go:35", after := #[{ on := 15, ground := Ground.data }, { on := 11, ground := Ground.chain }], guard := none }) (v := ?vvB16) rfl (by kernel_rfl) (by kernel_rfl) (by kernel_rfl) (fun _ _ _ h => h) (Or.inl ⟨by rfl, ?hyB16⟩) (by assumption) ?rsB16
  case hyB16 =>
    intro w hSw
    (try dsimp only at hSw)
    go_simp
    (try with_reducible rfl)
  (try simp only [Act.put, List.setIfInBounds_toArray, List.set_cons_zero, List.set_cons_succ])
  refine wpAnyH_take (i := 17) (oi := { dst := some 70, op := Op.move (Operand.tmp 7), type := 4, pos := "law.go:35", after := #[{ on := 16, ground := Ground.guard }], guard := some (16, true) }) (v := ?vvB17) rfl (by kernel_rfl) (by kernel_rfl) (by kernel_rfl) (fun _ _ _ h => h) (Or.inl ⟨by rfl, ?hyB17⟩) (by assumption) ?rsB17
  case hyB17 =>
    intro w hSw
    (try dsimp only at hSw)
    go_simp
    (try with_reducible rfl)
  (try simp only [Act.put, List.setIfInBounds_toArray, List.set_cons_zero, List.set_cons_succ])
  refine wpAnyH_take (i := 18) (oi := { dst := some 71, op := Op.pick (Operand.tmp 69) (Operand.tmp 70) (Operand.const (Value.bool false)), type := 4, pos := "law.go:35", after := #[{ on := 16, ground := Ground.data }, { on := 17, ground := Ground.data }], guard := none }) (v := ?vvB18) rfl (by kernel_rfl) (by kernel_rfl) (by kernel_rfl) (fun _ _ _ h => h) (Or.inl ⟨by rfl, ?hyB18⟩) (by assumption) ?rsB18
  case hyB18 =>
    intro w hSw
    (try dsimp only at hSw)
    go_simp
    (try with_reducible rfl)
  (try simp only [Act.put, List.setIfInBounds_toArray, List.set_cons_zero, List.set_cons_succ])
  refine wpAnyH_take (i := 19) (oi := { dst := some 72, op := Op.move (Operand.tmp 71), type := 4, pos := "law.go:35", after := #[{ on := 18, ground := Ground.data }, { on := 16, ground := Ground.chain }], guard := none }) (v := ?vvB19) rfl (by kernel_rfl) (by kernel_rfl) (by kernel_rfl) (fun _ _ _ h => h) (Or.inl ⟨by rfl, ?hyB19⟩) (by assumption) ?rsB19
  case hyB19 =>
    intro w hSw
    (try dsimp only at hSw)
    go_simp
    (try with_reducible rfl)
  (try simp only [Act.put, List.setIfInBounds_toArray, List.set_cons_zero, List.set_cons_succ])
  refine wpAnyH_take (i := 20) (oi := { dst := some 73, op := Op.move (Operand.tmp 8), type := 40, pos := "law.go:35", after := #[{ on := 19, ground := Ground.guard }], guard := some (19, true) }) (v := ?vvB20) rfl (by kernel_rfl) (by kernel_rfl) (by kernel_rfl) (fun _ _ _ h => h) (Or.inl ⟨by rfl, ?hyB20⟩) (by assumption) ?rsB20
  case hyB20 =>
    intro w hSw
    (try dsimp only at hSw)
    go_simp
    (try with_reducible rfl)
  (try simp only [Act.put, List.setIfInBounds_toArray, List.set_cons_zero, List.set_cons_succ])
  refine wpAnyH_take (i := 21) (oi := { dst := some 74, op := Op.binOp BinOp.eql 40 (Operand.tmp 73) (Operand.const (Value.int IntKind.i64 0)) 40, type := 4, pos := "law.go:35", after := #[{ on := 20, ground := Ground.data }, { on := 19, ground := Ground.guard }], guard := some (19, true) }) (v := ?vvB21) rfl (by kernel_rfl) (by kernel_rfl) (by kernel_rfl) (fun _ _ _ h => h) (Or.inl ⟨by rfl, ?hyB21⟩) (by assumption) ?rsB21
  case hyB21 =>
    intro w hSw
    (try dsimp only at hSw)
    go_simp
    (try with_reducible rfl)
  (try simp only [Act.put, List.setIfInBounds_toArray, List.set_cons_zero, List.set_cons_succ])
  refine wpAnyH_take (i := 22) (oi := { dst := some 75, op := Op.pick (Operand.tmp 72) (Operand.tmp 74) (Operand.const (Value.bool false)), type := 4, pos := "law.go:35", after := #[{ on := 19, ground := Ground.data }, { on := 21, ground := Ground.data }], guard := none }) (v := ?vvB22) rfl (by kernel_rfl) (by kernel_rfl) (by kernel_rfl) (fun _ _ _ h => h) (Or.inl ⟨by rfl, ?hyB22⟩) (by assumption) ?rsB22
  case hyB22 =>
    intro w hSw
    (try dsimp only at hSw)
    go_simp
    (try with_reducible rfl)
  (try simp only [Act.put, List.setIfInBounds_toArray, List.set_cons_zero, List.set_cons_succ])
  refine wpAnyH_take (i := 23) (oi := { dst := some 76, op := Op.move (Operand.tmp 75), type := 4, pos := "law.go:35", after := #[{ on := 22, ground := Ground.data }, { on := 19, ground := Ground.chain }], guard := none }) (v := ?vvB23) rfl (by kernel_rfl) (by kernel_rfl) (by kernel_rfl) (fun _ _ _ h => h) (Or.inl ⟨by rfl, ?hyB23⟩) (by assumption) ?rsB23
  case hyB23 =>
    intro w hSw
    (try dsimp only at hSw)
    go_simp
    (try with_reducible rfl)
  (try simp only [Act.put, List.setIfInBounds_toArray, List.set_cons_zero, List.set_cons_succ])
  refine wpAnyH_take (i := 24) (oi := { dst := some 77, op := Op.move (Operand.tmp 9), type := 3, pos := "law.go:35", after := #[{ on := 23, ground := Ground.guard }], guard := some (23, true) }) (v := ?vvB24) rfl (by kernel_rfl) (by kernel_rfl) (by kernel_rfl) (fun _ _ _ h => h) (Or.inl ⟨by rfl, ?hyB24⟩) (by assumption) ?rsB24
  case hyB24 =>
    intro w hSw
    (try dsimp only at hSw)
    go_simp
    (try with_reducible rfl)
  (try simp only [Act.put, List.setIfInBounds_toArray, List.set_cons_zero, List.set_cons_succ])
  refine wpAnyH_take (i := 25) (oi := { dst := some 78, op := Op.binOp BinOp.eql 3 (Operand.tmp 77) (Operand.const (Value.int IntKind.i64 2)) 3, type := 4, pos := "law.go:35", after := #[{ on := 24, ground := Ground.data }, { on := 23, ground := Ground.guard }], guard := some (23, true) }) (v := ?vvB25) rfl (by kernel_rfl) (by kernel_rfl) (by kernel_rfl) (fun _ _ _ h => h) (Or.inl ⟨by rfl, ?hyB25⟩) (by assumption) ?rsB25
  case hyB25 =>
    intro w hSw
    (try dsimp only at hSw)
    go_simp
    (try with_reducible rfl)
  (try simp only [Act.put, List.setIfInBounds_toArray, List.set_cons_zero, List.set_cons_succ])
  refine wpAnyH_take (i := 26) (oi := { dst := some 79, op := Op.pick (Operand.tmp 76) (Operand.tmp 78) (Operand.const (Value.bool false)), type := 4, pos := "law.go:35", after := #[{ on := 23, ground := Ground.data }, { on := 25, ground := Ground.data }], guard := none }) (v := ?vvB26) rfl (by kernel_rfl) (by kernel_rfl) (by kernel_rfl) (fun _ _ _ h => h) (Or.inl ⟨by rfl, ?hyB26⟩) (by assumption) ?rsB26
  case hyB26 =>
    intro w hSw
    (try dsimp only at hSw)
    go_simp
    (try with_reducible rfl)
  (try simp only [Act.put, List.setIfInBounds_toArray, List.set_cons_zero, List.set_cons_succ])
  refine wpAnyH_take (i := 27) (oi := { dst := some 80, op := Op.move (Operand.tmp 79), type := 4, pos := "law.go:35", after := #[{ on := 26, ground := Ground.data }, { on := 23, ground := Ground.chain }], guard := none }) (v := ?vvB27) rfl (by kernel_rfl) (by kernel_rfl) (by kernel_rfl) (fun _ _ _ h => h) (Or.inl ⟨by rfl, ?hyB27⟩) (by assumption) ?rsB27
  case hyB27 =>
    intro w hSw
    (try dsimp only at hSw)
    go_simp
    (try with_reducible rfl)
  (try simp only [Act.put, List.setIfInBounds_toArray, List.set_cons_zero, List.set_cons_succ])
  refine wpAnyH_take (i := 28) (oi := { dst := some 81, op := Op.move (Operand.tmp 10), type := 40, pos := "law.go:35", after := #[{ on := 27, ground := Ground.guard }], guard := some (27, true) }) (v := ?vvB28) rfl (by kernel_rfl) (by kernel_rfl) (by kernel_rfl) (fun _ _ _ h => h) (Or.inl ⟨by rfl, ?hyB28⟩) (by assumption) ?rsB28
  case hyB28 =>
    intro w hSw
    (try dsimp only at hSw)
    go_simp
    (try with_reducible rfl)
  (try simp only [Act.put, List.setIfInBounds_toArray, List.set_cons_zero, List.set_cons_succ])
  refine wpAnyH_take (i := 29) (oi := { dst := some 82, op := Op.binOp BinOp.eql 40 (Operand.tmp 81) (Operand.const (Value.int IntKind.i64 0)) 40, type := 4, pos := "law.go:35", after := #[{ on := 28, ground := Ground.data }, { on := 27, ground := Ground.guard }], guard := some (27, true) }) (v := ?vvB29) rfl (by kernel_rfl) (by kernel_rfl) (by kernel_rfl) (fun _ _ _ h => h) (Or.inl ⟨by rfl, ?hyB29⟩) (by assumption) ?rsB29
  case hyB29 =>
    intro w hSw
    (try dsimp only at hSw)
    go_simp
    (try with_reducible rfl)
  (try simp only [Act.put, List.setIfInBounds_toArray, List.set_cons_zero, List.set_cons_succ])
  refine wpAnyH_take (i := 30) (oi := { dst := some 83, op := Op.pick (Operand.tmp 80) (Operand.tmp 82) (Operand.const (Value.bool false)), type := 4, pos := "law.go:35", after := #[{ on := 27, ground := Ground.data }, { on := 29, ground := Ground.data }], guard := none }) (v := ?vvB30) rfl (by kernel_rfl) (by kernel_rfl) (by kernel_rfl) (fun _ _ _ h => h) (Or.inl ⟨by rfl, ?hyB30⟩) (by assumption) ?rsB30
  case hyB30 =>
    intro w hSw
    (try dsimp only at hSw)
    go_simp
    (try with_reducible rfl)
  (try simp only [Act.put, List.setIfInBounds_toArray, List.set_cons_zero, List.set_cons_succ])
  refine wpAnyH_take (i := 31) (oi := { dst := some 84, op := Op.move (Operand.tmp 83), type := 4, pos := "law.go:35", after := #[{ on := 30, ground := Ground.data }, { on := 27, ground := Ground.chain }], guard := none }) (v := ?vvB31) rfl (by kernel_rfl) (by kernel_rfl) (by kernel_rfl) (fun _ _ _ h => h) (Or.inl ⟨by rfl, ?hyB31⟩) (by assumption) ?rsB31
  case hyB31 =>
    intro w hSw
    (try dsimp only at hSw)
    go_simp
    (try with_reducible rfl)
  (try simp only [Act.put, List.setIfInBounds_toArray, List.set_cons_zero, List.set_cons_succ])
  refine wpAnyH_take (i := 32) (oi := { dst := some 85, op := Op.load 24 (Operand.tmp 2), type := 24, pos := "law.go:35", after := #[{ on := 31, ground := Ground.guard }], guard := some (31, true) }) rfl (by kernel_rfl) (by kernel_rfl) (by kernel_rfl) (fun _ _ _ h => h) (yieldsIf_load_mid (by rfl) 24 (.tmp 2) rfl z2 0 rfl [.int .i64 2, .int .i64 0, .int .i64 0, .string ⟨#[97]⟩, .string ⟨#[]⟩, .int .i64 0, .slice none 0 0, .string ⟨#[]⟩, .int .i64 0] _ (fun w hs => hs.1) Tryz.underlying24 rfl hsz9) (by assumption) ?_
  (try simp only [Act.put, List.setIfInBounds_toArray, List.set_cons_zero, List.set_cons_succ])
  refine wpAnyH_take (i := 34) (oi := { dst := some 87, op := Op.load 24 (Operand.tmp 2), type := 24, pos := "law.go:35", after := #[{ on := 31, ground := Ground.guard }], guard := some (31, true) }) rfl (by kernel_rfl) (by kernel_rfl) (by kernel_rfl) (fun _ _ _ h => h) (yieldsIf_load_mid (by rfl) 24 (.tmp 2) rfl z2 0 rfl [.int .i64 2, .int .i64 0, .int .i64 0, .string ⟨#[97]⟩, .string ⟨#[]⟩, .int .i64 0, .slice none 0 0, .string ⟨#[]⟩, .int .i64 0] _ (fun w hs => hs.1) Tryz.underlying24 rfl hsz9) (by assumption) ?_
  (try simp only [Act.put, List.setIfInBounds_toArray, List.set_cons_zero, List.set_cons_succ])
  refine wpAnyH_ready (rs := [33]) (by kernel_rfl) (by simp) ?_
  refine AllReadyH.cons (o := { dst := some 86, op := Op.call { callee := Callee.value (Operand.func 12), args := #[Operand.tmp 85], argTypes := #[24] }, type := 28, pos := "law.go:35", after := #[{ on := 32, ground := Ground.data }, { on := 31, ground := Ground.chain }, { on := 31, ground := Ground.guard }], guard := some (31, true) }) rfl (fun K hK => ?_) AllReadyH.nil
  go_simp
  refine (HH.out _).mono ?_
  rintro e x6 ⟨rfl, hb⟩
  replace hSc := HB2.out _ _ hSc hb
  replace hz2 := (hb.block _ (Array.getElem?_eq_some_iff.1 hz2).1).trans hz2
  replace hp4 := (hb.block _ (Array.getElem?_eq_some_iff.1 hp4).1).trans hp4
  replace hp5 := (hb.block _ (Array.getElem?_eq_some_iff.1 hp5).1).trans hp5
  replace hbd := hbd.trans (hb.mono hbd.size)
  clear hb
  clear k5 k6
  have k5 := row_rng hp4 1 _ rfl
  have k6 := row_rng hp5 3 _ rfl
  simp only [Nat.reduceAdd] at k5 k6
  go_wp2_with fail
  refine hK.out _ _ ?_ (fun hHeld => ?_)
  · exact ⟨row_rng hz2, k5, k6⟩
  clear hK K
  (try simp only [Act.put, List.setIfInBounds_toArray, List.set_cons_zero, List.set_cons_succ])
  refine wpAnyH_ready (rs := [35]) (by kernel_rfl) (by simp) ?_
  refine AllReadyH.cons (o := { dst := some 88, op := Op.call { callee := Callee.value (Operand.func 13), args := #[Operand.tmp 87], argTypes := #[24] }, type := 28, pos := "law.go:35", after := #[{ on := 34, ground := Ground.data }, { on := 33, ground := Ground.chain }, { on := 31, ground := Ground.guard }], guard := some (31, true) }) rfl (fun K hK => ?_) AllReadyH.nil
  go_simp
  refine (HR.out _).mono ?_
  rintro e x7 ⟨rfl, hb⟩
  replace hSc := HB2.out _ _ hSc hb
  replace hz2 := (hb.block _ (Array.getElem?_eq_some_iff.1 hz2).1).trans hz2
  replace hp4 := (hb.block _ (Array.getElem?_eq_some_iff.1 hp4).1).trans hp4
  replace hp5 := (hb.block _ (Array.getElem?_eq_some_iff.1 hp5).1).trans hp5
  replace hbd := hbd.trans (hb.mono hbd.size)
  clear hb
  clear k5 k6
  have k5 := row_rng hp4 1 _ rfl
  have k6 := row_rng hp5 3 _ rfl
  simp only [Nat.reduceAdd] at k5 k6
  go_wp2_with fail
  refine hK.out _ _ ?_ (fun hHeld => ?_)
  · exact ⟨row_rng hz2, k5, k6⟩
  clear hK K
  (try simp only [Act.put, List.setIfInBounds_toArray, List.set_cons_zero, List.set_cons_succ])
  refine wpAnyH_take (i := 36) (oi := { dst := some 89, op := Op.binOp BinOp.eql 28 (Operand.tmp 86) (Operand.tmp 88) 28, type := 4, pos := "law.go:35", after := #[{ on := 33, ground := Ground.data }, { on := 35, ground := Ground.data }, { on := 31, ground := Ground.guard }], guard := some (31, true) }) (v := ?vvB36) rfl (by kernel_rfl) (by kernel_rfl) (by kernel_rfl) (fun _ _ _ h => h) (Or.inl ⟨by rfl, ?hyB36⟩) (by assumption) ?rsB36
  case hyB36 =>
    intro w hSw
    (try dsimp only at hSw)
    go_simp
    (try with_reducible rfl)
  (try simp only [Act.put, List.setIfInBounds_toArray, List.set_cons_zero, List.set_cons_succ])
  refine wpAnyH_take (i := 37) (oi := { dst := some 90, op := Op.pick (Operand.tmp 84) (Operand.tmp 89) (Operand.const (Value.bool false)), type := 4, pos := "law.go:35", after := #[{ on := 31, ground := Ground.data }, { on := 36, ground := Ground.data }], guard := none }) (v := ?vvB37) rfl (by kernel_rfl) (by kernel_rfl) (by kernel_rfl) (fun _ _ _ h => h) (Or.inl ⟨by rfl, ?hyB37⟩) (by assumption) ?rsB37
  case hyB37 =>
    intro w hSw
    (try dsimp only at hSw)
    go_simp
    (try with_reducible rfl)
  (try simp only [Act.put, List.setIfInBounds_toArray, List.set_cons_zero, List.set_cons_succ])
  refine wpAnyH_take (i := 38) (oi := { dst := some 0, op := Op.assign (Operand.tmp 90), type := 4, pos := "law.go:35", after := #[{ on := 37, ground := Ground.data }, { on := 35, ground := Ground.chain }, { on := 0, ground := Ground.phase }, { on := 1, ground := Ground.phase }, { on := 2, ground := Ground.phase }, { on := 3, ground := Ground.phase }, { on := 4, ground := Ground.phase }, { on := 5, ground := Ground.phase }, { on := 6, ground := Ground.phase }, { on := 7, ground := Ground.phase }, { on := 8, ground := Ground.phase }, { on := 9, ground := Ground.phase }, { on := 10, ground := Ground.phase }, { on := 11, ground := Ground.phase }, { on := 12, ground := Ground.phase }, { on := 13, ground := Ground.phase }, { on := 14, ground := Ground.phase }, { on := 15, ground := Ground.phase }, { on := 16, ground := Ground.phase }, { on := 17, ground := Ground.phase }, { on := 18, ground := Ground.phase }, { on := 19, ground := Ground.phase }, { on := 20, ground := Ground.phase }, { on := 21, ground := Ground.phase }, { on := 22, ground := Ground.phase }, { on := 23, ground := Ground.phase }, { on := 24, ground := Ground.phase }, { on := 25, ground := Ground.phase }, { on := 26, ground := Ground.phase }, { on := 27, ground := Ground.phase }, { on := 28, ground := Ground.phase }, { on := 29, ground := Ground.phase }, { on := 30, ground := Ground.phase }, { on := 31, ground := Ground.phase }, { on := 32, ground := Ground.phase }, { on := 33, ground := Ground.phase }, { on := 34, ground := Ground.phase }, { on := 35, ground := Ground.phase }, { on := 36, ground := Ground.phase }, { on := 37, ground := Ground.phase }], guard := none }) (v := ?vvB38) rfl (by kernel_rfl) (by kernel_rfl) (by kernel_rfl) (fun _ _ _ h => h) (Or.inl ⟨by rfl, ?hyB38⟩) (by assumption) ?rsB38
  case hyB38 =>
    intro w hSw
    (try dsimp only at hSw)
    go_simp
    (try with_reducible rfl)
  (try simp only [Act.put, List.setIfInBounds_toArray, List.set_cons_zero, List.set_cons_succ])
  refine wpAnyH_done (by kernel_rfl) ?_ _
  go_wp2_with fail
  go_ret
  exact ⟨rfl, hbd⟩
end Go.Proofs.YtfbggmbmgohiiaaGreat.tb
