/- Several texts in one, one behind the other: CqJ. No condition beyond theirs. -/
import Derived.Test.YtegffanlehaloaaGreatGr

/- The collector: keep. Conditions: as said. -/
namespace Go.Proofs.YtegffanlehaloaaGreat.cl
open Go.RowKit mem words
set_option linter.unusedVariables false
set_option linter.unusedSimpArgs false
set_option maxHeartbeats 4000000
set_option maxRecDepth 100000

theorem key34 : KeyKind Tryz.prog 43 (Value.int .u64) := int_key Tryz.underlying43
theorem zero34 (w : World) : (zeroValue 43).run Tryz.prog w = .ok (.int .u64 0) w := by kernel_rfl
theorem new_word (w : World) (p : Int) : ∀ j x, [p][j]? = some x → (w.alloc (.cells #[.int .u64 p] 43)).cell? ((⟨w.heap.size, 0, none⟩ : Addr).add j) = some (.int .u64 x) := by
  intro j x hj
  cases j with
  | zero =>
    obtain rfl := Option.some.inj hj
    exact cell_one_new w (.int .u64 p) 43 0 _ rfl
  | succ j => simp at hj
theorem own_slice {w : World} {base : Nat} {v : Value} {l : List Int} (h : WOwn w base v l) : ∃ p n c, v = .slice p n c := by
  obtain ⟨p, c, e⟩ := h.shape
  exact ⟨p, _, c, e⟩
theorem add_cell {W : World} {g o i j : Nat} {u : Value} (h : W.cell? ⟨g, o + (i + j), none⟩ = some u) : W.cell? ((⟨g, o + i, none⟩ : Addr).add j) = some u := by
  have : (⟨g, o + i, none⟩ : Addr).add j = ⟨g, o + (i + j), none⟩ := by
    cases j with
    | zero => rfl
    | succ j => simp [Addr.add, Nat.add_assoc]
  rw [this]
  exact h
theorem keep_full {w : World} {z mp base : Nat} {vY vO vC vF1 vF2 : Value} {m : Mm} {mk : Int} {S : Bk} {D I : List Int} (h : ColAt w z mp base vY vO vC vF1 vF2 m mk true S D I I) (hl : D.length = I.length) (hsy : S.y.flatten.length ≤ 200000) (hso : S.o.flatten.length ≤ 200000) (hsi : I.length ≤ 200000)
    (K : Bk) (hy : Objs m.y K.y) (ho : Objs m.o K.o) (w1 : Wds m.y) (w2 : Wds m.o) (l1 : m.y.length ≤ 100000) (l2 : m.o.length ≤ 100000) (v : Int) (v0 : 0 ≤ v) (v1 : v ≤ 18446744073709551615) (hm : mov true v = true) (hn : v ∉ D) (x : List Int) (hx : Pt K v x) :
    Calls Tryz.prog 46 #[.pointer (some ⟨z, 0, none⟩), .int .u64 v] w (KeepP w z mp base vY vO vC vF1 vF2 m K mk true S D I v) := by
  obtain ⟨pY, cY, rfl⟩ := h.ry.shape
  obtain ⟨pO, cO, rfl⟩ := h.ro.shape
  obtain ⟨pC, cC, rfl⟩ := h.rc.shape
  obtain ⟨p1, c1, rfl, _⟩ := id h.f1
  obtain ⟨p2, c2, rfl, _⟩ := id h.f2
  rename_i R1 R2
  clear R1 R2
  have hlk := run_lookup_ok key34 Tryz.underlying46 h.fw v (zero34 w)
  rw [fwd_find hl, if_neg hn] at hlk
  have HH := Lib.hid h
  have HL := Lib.hid hl
  have HN := Lib.hid hn
  have HMv := Lib.hid hm
  have HPx := Lib.hid hx
  have hbs : ∀ b, Objs (m.s b) (K.s b) := fun b => by cases b <;> assumption
  have hpw : ∀ b, WAt w base (if b then .slice p2 m.o.length c2 else .slice p1 m.y.length c1) (m.s b) := fun b => by cases b; exact h.f1; exact h.f2
  have hwd : ∀ b, Wds (m.s b) := fun b => by cases b <;> assumption
  have hll : ∀ b, (m.s b).length ≤ 100000 := fun b => by cases b <;> assumption
  have hpk := hx.1
  have hat := hx.2.1
  have hrg := (pOk_iff v).1 hpk
  have hix : pIx v = ((pIx v).toNat : Int) := by rw [pIx_eq hpk]; omega
  have hob := (hbs (pOld v)).2 x hat.mem
  have hbd := hat.bound
  rw [(hbs (pOld v)).1] at hbd
  have hxp := hob.pos
  have HTg := Lib.hid (fun W => Tag v v0 v1 W)
  have HPp := Lib.hid (fun W => Pointer v v0 v1 W)
  rw [hpk] at HPp
  skip
  have hage : age true m.at_ v = true := by unfold age; rfl
  have HAg := Lib.hid hage
  obtain ⟨pF, cF, eF, hcF⟩ : ∃ pF cF, (if pOld v then Value.slice p2 m.o.length c2 else Value.slice p1 m.y.length c1) = .slice pF (m.s (pOld v)).length cF ∧ (m.s (pOld v)).length ≤ cF := by
    obtain ⟨p, c, e, h1, _⟩ := hpw (pOld v)
    exact ⟨p, c, e, h1⟩
  have hwa := hpw (pOld v)
  rw [eF] at hwa
  obtain ⟨gF, oF, e1, hgF, hcl⟩ := RowAt.nth' hwa (by omega)
  subst e1
  have HAr0 := fun W => area45 W (.slice p1 m.y.length c1) (.slice p2 m.o.length c2) p1 p2 m.y.length c1 m.o.length c2 m.at_ (pOld v) rfl rfl
  rw [eF] at HAr0
  have HAr := Lib.hid HAr0
  have hle := h.le
  have hget : ∀ j y, x[j]? = some y → (m.s (pOld v))[(pIx v).toNat + j]? = some y := fun j y hj => by
    have := hat.get j (List.getElem?_eq_some_iff.1 hj).1
    rw [(hbs (pOld v)).1] at this
    rw [this, hj]
  have HCell := Lib.hid (fun W (hb : Below w.heap.size w W) (j : Nat) (y : Int) (hj : x[j]? = some y) => add_cell ((hb.cell (p := ⟨gF, oF + ((pIx v).toNat + j), none⟩) (show gF < w.heap.size by omega)).trans (hcl _ y (hget j y hj))))
  have hx0 : x[0]? = some (x.headD 0) := headD_get hxp
  have hxr := hwd (pOld v) (x.headD 0) (List.mem_of_getElem? (hget 0 _ hx0))
  have HOb0 := Lib.hid (fun W (hb : Below w.heap.size w W) => object44 W gF oF (m.s (pOld v)).length cF (pIx v).toNat x hob hxr hbd hcF (by have := hll (pOld v); omega) ((hb.cell (p := ⟨gF, oF + (pIx v).toNat, none⟩) (show gF < w.heap.size by omega)).trans (by have := hcl _ _ (hget 0 _ hx0); rwa [Nat.add_zero] at this)))
  have HXl : Hid (x.length ≤ 100000) := Lib.hid (by have := hll (pOld v); omega)
  have HSl : Hid (∀ l, l = S.y.flatten ∨ l = S.o.flatten → l.length ≤ 200000) := Lib.hid (fun l e => by rcases e with rfl | rfl <;> assumption)
  have HBx := Lib.hid (fun W => Box true (S.o.flatten.length : Int) W)
  have HLs := Lib.hid (fun W => words.List true (S.o.flatten.length : Int) W)
  rw [hix] at HPp
  skip
  have hxn : ¬ x = [] := by intro e; rw [e] at hxp; simp at hxp
  clear h hl hn hm hx hbs hpw hwd hll hpk hat hob hbd hxp eF hwa HAr0 hgF hcl hget hx0 hxr hcF hage hix hle
  clear hsy hso
  generalize hny : S.y.flatten.length = nY at *
  generalize hno : S.o.flatten.length = nO at *
  have HNy := Lib.hid hny
  have HNo := Lib.hid hno
  clear hny hno
  generalize frm x = fx at *
  generalize (pIx v).toNat = i at *
  generalize (m.s (pOld v)).length = nF at *
  generalize pOld v = b at *
  cases b
  · obtain ⟨a0, a1, a2, a3, a4, a5, a6, a7, a8, af⟩ := nine_cells HH.out.blk
    have htg : v % 4 = 1 ∨ v % 4 = 2 := hrg.1
    by_cases ht : v % 4 = 1
    · have q1 : (v % 4 == 1) = true := by simp [ht]
      have HT4 := Lib.hid ht
      clear ht htg hrg
      go_enter Tryz.func46, Tryz.ntmps46
      go_wp2_with fail
      refine (HPp.out _).mono ?_
      rintro e w' ⟨rfl, rfl⟩
      go_wp2_with fail
      refine (HAr.out _).mono ?_
      rintro e W1 ⟨rfl, hb1⟩
      have H1 := Lib.hid (HH.out.below hb1)
      have HS1 := Lib.hid (ColS.below HH.out hb1)
      have HB1 : Hid (base ≤ W1.heap.size) := Lib.hid (Nat.le_of_lt H1.out.le)
      have HCx := Lib.hid (HCell.out W1 hb1)
      have HOb := Lib.hid (HOb0.out W1 hb1)
      clear hb1 a0 a1 a2 a3 a4 a5 a6 a7 a8 af
      obtain ⟨b0, b1, b2, b3, b4, b5, b6, b7, b8, bf⟩ := nine_cells H1.out.blk
      go_wp2_with fail
      refine HOb.out.mono ?_
      rintro e w' ⟨rfl, rfl⟩
      go_wp2_with fail
      refine (HBx.out _).mono ?_
      rintro e w' ⟨rfl, rfl⟩
      go_wp2_with fail
      refine (HTg.out _).mono ?_
      rintro e w' ⟨rfl, rfl⟩
      go_wp2_with fail
      refine (HLs.out _).mono ?_
      rintro e w' ⟨rfl, rfl⟩
      go_wp2_with (first
          | (at_builtin; refine wpList_append_words rfl (.tmp 106) (.tmp 107) rfl rfl H1.out.ro HB1.out ⟨gF, oF + i, none⟩ x.length (cF - i) x rfl rfl HCx.out (by (have := HXl.out); (have h9 := HSl.out _ (.inr rfl)); omega) ?_; intro v' w3 ha; have HA3 := Lib.hid ha; obtain ⟨p3, n3, c3, rfl⟩ := own_slice ha.own; obtain ⟨d0, d1, d2, d3, d4, d5, d6, d7, d8, df⟩ := nine_cells ((ha.other (Array.getElem?_eq_some_iff.1 H1.out.blk).1 H1.out.dz.2.1).trans H1.out.blk); obtain ⟨h2, s2⟩ := H1.out.stepO ha; have HH2 := Lib.hid h2; have HS2 := Lib.hid s2; obtain ⟨e0, e1, e2, e3, e4, e5, e6, e7, e8, ef⟩ := nine_cells h2.blk; clear ha h2 s2)
          | (at_mapUpdate; refine wpList_mapUpdate_al _ rfl _ _ _ 46 rfl key34 Tryz.underlying46 mp (fwd D I) HH2.out.fw v (.int .u64 (ptrW 1 true (nO : Int))) rfl rfl rfl ?_; intro w4 hm4 ht4 hz4; obtain ⟨h3, s3⟩ := HH2.out.stepM HL.out HN.out hm4 ht4; have HH3 := Lib.hid h3; have HS3 := Lib.hid s3; have HAl := Lib.hid ((Below.refl w4.heap.size w4).alloc (Nat.le_refl _) (.cells #[.int .u64 (ptrW 1 true (nO : Int))] 43)); have HH4 := Lib.hid (h3.below HAl.out); have HS4 := Lib.hid (ColS.below h3 HAl.out); obtain ⟨g0, g1, g2, g3, g4, g5, g6, g7, g8, gf⟩ := nine_cells h3.blk; obtain ⟨k0, k1, k2, k3, k4, k5, k6, k7, k8, kf⟩ := nine_cells HH4.out.blk; clear hm4 ht4 hz4 h3 s3)
          | (at_builtin; refine wpList_append_words rfl (.tmp 120) (.tmp 122) rfl rfl HH4.out.rc (Nat.le_of_lt HH4.out.le) ⟨w4.heap.size, 0, none⟩ 1 1 [ptrW 1 true (nO : Int)] rfl rfl (new_word _ _) (by (have := hsi); (show I.length + 1 ≤ 400000); omega) ?_; intro v'' w5 ha; obtain ⟨p5, n5, c5, rfl⟩ := own_slice ha.own; obtain ⟨n0, n1, n2, n3, n4, n5, n6, n7, n8, nf⟩ := nine_cells ((ha.other (Array.getElem?_eq_some_iff.1 HH4.out.blk).1 HH4.out.dz.2.2).trans HH4.out.blk); obtain ⟨h5, s5⟩ := HH4.out.stepC ha; have HH5 := Lib.hid h5; have HS5 := Lib.hid s5; clear ha h5 s5))
      go_ret
      refine ⟨_, _, _, _, _, _, ?_, HH5.out, ((((ColS.trans HH.out HS1.out (ColS.trans H1.out HS2.out (ColS.trans HH2.out HS3.out (ColS.trans HH3.out HS4.out HS5.out))))))), .inr ⟨HMv.out, HN.out, x, 1, HPx.out, .inl rfl, HT4.out, by rw [HAg.out], rfl, by rw [HAg.out, show (S.s true).flatten.length = nO from HNo.out]⟩⟩
      rw [lk_new HL.out HN.out]
      rfl
    · have q1 : (v % 4 == 1) = false := by simp [ht]
      have HT4 : Hid (v % 4 = 2) := Lib.hid (htg.resolve_left ht)
      clear ht htg hrg
      go_enter Tryz.func46, Tryz.ntmps46
      go_wp2_with fail
      refine (HPp.out _).mono ?_
      rintro e w' ⟨rfl, rfl⟩
      go_wp2_with fail
      refine (HAr.out _).mono ?_
      rintro e W1 ⟨rfl, hb1⟩
      have H1 := Lib.hid (HH.out.below hb1)
      have HS1 := Lib.hid (ColS.below HH.out hb1)
      have HB1 : Hid (base ≤ W1.heap.size) := Lib.hid (Nat.le_of_lt H1.out.le)
      have HCx := Lib.hid (HCell.out W1 hb1)
      have HOb := Lib.hid (HOb0.out W1 hb1)
      clear hb1 a0 a1 a2 a3 a4 a5 a6 a7 a8 af
      obtain ⟨b0, b1, b2, b3, b4, b5, b6, b7, b8, bf⟩ := nine_cells H1.out.blk
      go_wp2_with fail
      refine HOb.out.mono ?_
      rintro e w' ⟨rfl, rfl⟩
      go_wp2_with fail
      refine (HBx.out _).mono ?_
      rintro e w' ⟨rfl, rfl⟩
      go_wp2_with fail
      refine (HTg.out _).mono ?_
      rintro e w' ⟨rfl, rfl⟩
      skip
      go_wp2_with (first
          | (at_builtin; refine wpList_append_words rfl (.tmp 106) (.tmp 107) rfl rfl H1.out.ro HB1.out ⟨gF, oF + i, none⟩ x.length (cF - i) x rfl rfl HCx.out (by (have := HXl.out); (have h9 := HSl.out _ (.inr rfl)); omega) ?_; intro v' w3 ha; have HA3 := Lib.hid ha; obtain ⟨p3, n3, c3, rfl⟩ := own_slice ha.own; obtain ⟨d0, d1, d2, d3, d4, d5, d6, d7, d8, df⟩ := nine_cells ((ha.other (Array.getElem?_eq_some_iff.1 H1.out.blk).1 H1.out.dz.2.1).trans H1.out.blk); obtain ⟨h2, s2⟩ := H1.out.stepO ha; have HH2 := Lib.hid h2; have HS2 := Lib.hid s2; obtain ⟨e0, e1, e2, e3, e4, e5, e6, e7, e8, ef⟩ := nine_cells h2.blk; clear ha h2 s2)
          | (at_mapUpdate; refine wpList_mapUpdate_al _ rfl _ _ _ 46 rfl key34 Tryz.underlying46 mp (fwd D I) HH2.out.fw v (.int .u64 (ptrW 2 true (nO : Int))) rfl rfl rfl ?_; intro w4 hm4 ht4 hz4; obtain ⟨h3, s3⟩ := HH2.out.stepM HL.out HN.out hm4 ht4; have HH3 := Lib.hid h3; have HS3 := Lib.hid s3; have HAl := Lib.hid ((Below.refl w4.heap.size w4).alloc (Nat.le_refl _) (.cells #[.int .u64 (ptrW 2 true (nO : Int))] 43)); have HH4 := Lib.hid (h3.below HAl.out); have HS4 := Lib.hid (ColS.below h3 HAl.out); obtain ⟨g0, g1, g2, g3, g4, g5, g6, g7, g8, gf⟩ := nine_cells h3.blk; obtain ⟨k0, k1, k2, k3, k4, k5, k6, k7, k8, kf⟩ := nine_cells HH4.out.blk; clear hm4 ht4 hz4 h3 s3)
          | (at_builtin; refine wpList_append_words rfl (.tmp 120) (.tmp 122) rfl rfl HH4.out.rc (Nat.le_of_lt HH4.out.le) ⟨w4.heap.size, 0, none⟩ 1 1 [ptrW 2 true (nO : Int)] rfl rfl (new_word _ _) (by (have := hsi); (show I.length + 1 ≤ 400000); omega) ?_; intro v'' w5 ha; obtain ⟨p5, n5, c5, rfl⟩ := own_slice ha.own; obtain ⟨n0, n1, n2, n3, n4, n5, n6, n7, n8, nf⟩ := nine_cells ((ha.other (Array.getElem?_eq_some_iff.1 HH4.out.blk).1 HH4.out.dz.2.2).trans HH4.out.blk); obtain ⟨h5, s5⟩ := HH4.out.stepC ha; have HH5 := Lib.hid h5; have HS5 := Lib.hid s5; clear ha h5 s5))
      go_ret
      refine ⟨_, _, _, _, _, _, ?_, HH5.out, ((((ColS.trans HH.out HS1.out (ColS.trans H1.out HS2.out (ColS.trans HH2.out HS3.out (ColS.trans HH3.out HS4.out HS5.out))))))), .inr ⟨HMv.out, HN.out, x, 2, HPx.out, .inr rfl, HT4.out, by rw [HAg.out], rfl, by rw [HAg.out, show (S.s true).flatten.length = nO from HNo.out]⟩⟩
      rw [lk_new HL.out HN.out]
      rfl
  · obtain ⟨a0, a1, a2, a3, a4, a5, a6, a7, a8, af⟩ := nine_cells HH.out.blk
    have htg : v % 4 = 1 ∨ v % 4 = 2 := hrg.1
    by_cases ht : v % 4 = 1
    · have q1 : (v % 4 == 1) = true := by simp [ht]
      have HT4 := Lib.hid ht
      clear ht htg hrg
      go_enter Tryz.func46, Tryz.ntmps46
      go_wp2_with fail
      refine (HPp.out _).mono ?_
      rintro e w' ⟨rfl, rfl⟩
      go_wp2_with fail
      refine (HAr.out _).mono ?_
      rintro e W1 ⟨rfl, hb1⟩
      have H1 := Lib.hid (HH.out.below hb1)
      have HS1 := Lib.hid (ColS.below HH.out hb1)
      have HB1 : Hid (base ≤ W1.heap.size) := Lib.hid (Nat.le_of_lt H1.out.le)
      have HCx := Lib.hid (HCell.out W1 hb1)
      have HOb := Lib.hid (HOb0.out W1 hb1)
      clear hb1 a0 a1 a2 a3 a4 a5 a6 a7 a8 af
      obtain ⟨b0, b1, b2, b3, b4, b5, b6, b7, b8, bf⟩ := nine_cells H1.out.blk
      go_wp2_with fail
      refine HOb.out.mono ?_
      rintro e w' ⟨rfl, rfl⟩
      go_wp2_with fail
      refine (HBx.out _).mono ?_
      rintro e w' ⟨rfl, rfl⟩
      go_wp2_with fail
      refine (HTg.out _).mono ?_
      rintro e w' ⟨rfl, rfl⟩
      go_wp2_with fail
      refine (HLs.out _).mono ?_
      rintro e w' ⟨rfl, rfl⟩
      go_wp2_with (first
          | (at_builtin; refine wpList_append_words rfl (.tmp 106) (.tmp 107) rfl rfl H1.out.ro HB1.out ⟨gF, oF + i, none⟩ x.length (cF - i) x rfl rfl HCx.out (by (have := HXl.out); (have h9 := HSl.out _ (.inr rfl)); omega) ?_; intro v' w3 ha; have HA3 := Lib.hid ha; obtain ⟨p3, n3, c3, rfl⟩ := own_slice ha.own; obtain ⟨d0, d1, d2, d3, d4, d5, d6, d7, d8, df⟩ := nine_cells ((ha.other (Array.getElem?_eq_some_iff.1 H1.out.blk).1 H1.out.dz.2.1).trans H1.out.blk); obtain ⟨h2, s2⟩ := H1.out.stepO ha; have HH2 := Lib.hid h2; have HS2 := Lib.hid s2; obtain ⟨e0, e1, e2, e3, e4, e5, e6, e7, e8, ef⟩ := nine_cells h2.blk; clear ha h2 s2)
          | (at_mapUpdate; refine wpList_mapUpdate_al _ rfl _ _ _ 46 rfl key34 Tryz.underlying46 mp (fwd D I) HH2.out.fw v (.int .u64 (ptrW 1 true (nO : Int))) rfl rfl rfl ?_; intro w4 hm4 ht4 hz4; obtain ⟨h3, s3⟩ := HH2.out.stepM HL.out HN.out hm4 ht4; have HH3 := Lib.hid h3; have HS3 := Lib.hid s3; have HAl := Lib.hid ((Below.refl w4.heap.size w4).alloc (Nat.le_refl _) (.cells #[.int .u64 (ptrW 1 true (nO : Int))] 43)); have HH4 := Lib.hid (h3.below HAl.out); have HS4 := Lib.hid (ColS.below h3 HAl.out); obtain ⟨g0, g1, g2, g3, g4, g5, g6, g7, g8, gf⟩ := nine_cells h3.blk; obtain ⟨k0, k1, k2, k3, k4, k5, k6, k7, k8, kf⟩ := nine_cells HH4.out.blk; clear hm4 ht4 hz4 h3 s3)
          | (at_builtin; refine wpList_append_words rfl (.tmp 120) (.tmp 122) rfl rfl HH4.out.rc (Nat.le_of_lt HH4.out.le) ⟨w4.heap.size, 0, none⟩ 1 1 [ptrW 1 true (nO : Int)] rfl rfl (new_word _ _) (by (have := hsi); (show I.length + 1 ≤ 400000); omega) ?_; intro v'' w5 ha; obtain ⟨p5, n5, c5, rfl⟩ := own_slice ha.own; obtain ⟨n0, n1, n2, n3, n4, n5, n6, n7, n8, nf⟩ := nine_cells ((ha.other (Array.getElem?_eq_some_iff.1 HH4.out.blk).1 HH4.out.dz.2.2).trans HH4.out.blk); obtain ⟨h5, s5⟩ := HH4.out.stepC ha; have HH5 := Lib.hid h5; have HS5 := Lib.hid s5; clear ha h5 s5))
      go_ret
      refine ⟨_, _, _, _, _, _, ?_, HH5.out, ((((ColS.trans HH.out HS1.out (ColS.trans H1.out HS2.out (ColS.trans HH2.out HS3.out (ColS.trans HH3.out HS4.out HS5.out))))))), .inr ⟨HMv.out, HN.out, x, 1, HPx.out, .inl rfl, HT4.out, by rw [HAg.out], rfl, by rw [HAg.out, show (S.s true).flatten.length = nO from HNo.out]⟩⟩
      rw [lk_new HL.out HN.out]
      rfl
    · have q1 : (v % 4 == 1) = false := by simp [ht]
      have HT4 : Hid (v % 4 = 2) := Lib.hid (htg.resolve_left ht)
      clear ht htg hrg
      go_enter Tryz.func46, Tryz.ntmps46
      go_wp2_with fail
      refine (HPp.out _).mono ?_
      rintro e w' ⟨rfl, rfl⟩
      go_wp2_with fail
      refine (HAr.out _).mono ?_
      rintro e W1 ⟨rfl, hb1⟩
      have H1 := Lib.hid (HH.out.below hb1)
      have HS1 := Lib.hid (ColS.below HH.out hb1)
      have HB1 : Hid (base ≤ W1.heap.size) := Lib.hid (Nat.le_of_lt H1.out.le)
      have HCx := Lib.hid (HCell.out W1 hb1)
      have HOb := Lib.hid (HOb0.out W1 hb1)
      clear hb1 a0 a1 a2 a3 a4 a5 a6 a7 a8 af
      obtain ⟨b0, b1, b2, b3, b4, b5, b6, b7, b8, bf⟩ := nine_cells H1.out.blk
      go_wp2_with fail
      refine HOb.out.mono ?_
      rintro e w' ⟨rfl, rfl⟩
      go_wp2_with fail
      refine (HBx.out _).mono ?_
      rintro e w' ⟨rfl, rfl⟩
      go_wp2_with fail
      refine (HTg.out _).mono ?_
      rintro e w' ⟨rfl, rfl⟩
      skip
      go_wp2_with (first
          | (at_builtin; refine wpList_append_words rfl (.tmp 106) (.tmp 107) rfl rfl H1.out.ro HB1.out ⟨gF, oF + i, none⟩ x.length (cF - i) x rfl rfl HCx.out (by (have := HXl.out); (have h9 := HSl.out _ (.inr rfl)); omega) ?_; intro v' w3 ha; have HA3 := Lib.hid ha; obtain ⟨p3, n3, c3, rfl⟩ := own_slice ha.own; obtain ⟨d0, d1, d2, d3, d4, d5, d6, d7, d8, df⟩ := nine_cells ((ha.other (Array.getElem?_eq_some_iff.1 H1.out.blk).1 H1.out.dz.2.1).trans H1.out.blk); obtain ⟨h2, s2⟩ := H1.out.stepO ha; have HH2 := Lib.hid h2; have HS2 := Lib.hid s2; obtain ⟨e0, e1, e2, e3, e4, e5, e6, e7, e8, ef⟩ := nine_cells h2.blk; clear ha h2 s2)
          | (at_mapUpdate; refine wpList_mapUpdate_al _ rfl _ _ _ 46 rfl key34 Tryz.underlying46 mp (fwd D I) HH2.out.fw v (.int .u64 (ptrW 2 true (nO : Int))) rfl rfl rfl ?_; intro w4 hm4 ht4 hz4; obtain ⟨h3, s3⟩ := HH2.out.stepM HL.out HN.out hm4 ht4; have HH3 := Lib.hid h3; have HS3 := Lib.hid s3; have HAl := Lib.hid ((Below.refl w4.heap.size w4).alloc (Nat.le_refl _) (.cells #[.int .u64 (ptrW 2 true (nO : Int))] 43)); have HH4 := Lib.hid (h3.below HAl.out); have HS4 := Lib.hid (ColS.below h3 HAl.out); obtain ⟨g0, g1, g2, g3, g4, g5, g6, g7, g8, gf⟩ := nine_cells h3.blk; obtain ⟨k0, k1, k2, k3, k4, k5, k6, k7, k8, kf⟩ := nine_cells HH4.out.blk; clear hm4 ht4 hz4 h3 s3)
          | (at_builtin; refine wpList_append_words rfl (.tmp 120) (.tmp 122) rfl rfl HH4.out.rc (Nat.le_of_lt HH4.out.le) ⟨w4.heap.size, 0, none⟩ 1 1 [ptrW 2 true (nO : Int)] rfl rfl (new_word _ _) (by (have := hsi); (show I.length + 1 ≤ 400000); omega) ?_; intro v'' w5 ha; obtain ⟨p5, n5, c5, rfl⟩ := own_slice ha.own; obtain ⟨n0, n1, n2, n3, n4, n5, n6, n7, n8, nf⟩ := nine_cells ((ha.other (Array.getElem?_eq_some_iff.1 HH4.out.blk).1 HH4.out.dz.2.2).trans HH4.out.blk); obtain ⟨h5, s5⟩ := HH4.out.stepC ha; have HH5 := Lib.hid h5; have HS5 := Lib.hid s5; clear ha h5 s5))
      go_ret
      refine ⟨_, _, _, _, _, _, ?_, HH5.out, ((((ColS.trans HH.out HS1.out (ColS.trans H1.out HS2.out (ColS.trans HH2.out HS3.out (ColS.trans HH3.out HS4.out HS5.out))))))), .inr ⟨HMv.out, HN.out, x, 2, HPx.out, .inr rfl, HT4.out, by rw [HAg.out], rfl, by rw [HAg.out, show (S.s true).flatten.length = nO from HNo.out]⟩⟩
      rw [lk_new HL.out HN.out]
      rfl
theorem keep_aged {w : World} {z mp base : Nat} {vY vO vC vF1 vF2 : Value} {m : Mm} {mk : Int} {S : Bk} {D I : List Int} (h : ColAt w z mp base vY vO vC vF1 vF2 m mk false S D I I) (hl : D.length = I.length) (hsy : S.y.flatten.length ≤ 200000) (hso : S.o.flatten.length ≤ 200000) (hsi : I.length ≤ 200000)
    (K : Bk) (hy : Objs m.y K.y) (ho : Objs m.o K.o) (w1 : Wds m.y) (w2 : Wds m.o) (l1 : m.y.length ≤ 100000) (l2 : m.o.length ≤ 100000) (v : Int) (v0 : 0 ≤ v) (v1 : v ≤ 18446744073709551615) (hm : mov false v = true) (hn : v ∉ D) (x : List Int) (hx : Pt K v x) (hag : pIx v < m.at_) :
    Calls Tryz.prog 46 #[.pointer (some ⟨z, 0, none⟩), .int .u64 v] w (KeepP w z mp base vY vO vC vF1 vF2 m K mk false S D I v) := by
  obtain ⟨pY, cY, rfl⟩ := h.ry.shape
  obtain ⟨pO, cO, rfl⟩ := h.ro.shape
  obtain ⟨pC, cC, rfl⟩ := h.rc.shape
  obtain ⟨p1, c1, rfl, _⟩ := id h.f1
  obtain ⟨p2, c2, rfl, _⟩ := id h.f2
  rename_i R1 R2
  clear R1 R2
  have hlk := run_lookup_ok key34 Tryz.underlying46 h.fw v (zero34 w)
  rw [fwd_find hl, if_neg hn] at hlk
  have HH := Lib.hid h
  have HL := Lib.hid hl
  have HN := Lib.hid hn
  have HMv := Lib.hid hm
  have HPx := Lib.hid hx
  have hbs : ∀ b, Objs (m.s b) (K.s b) := fun b => by cases b <;> assumption
  have hpw : ∀ b, WAt w base (if b then .slice p2 m.o.length c2 else .slice p1 m.y.length c1) (m.s b) := fun b => by cases b; exact h.f1; exact h.f2
  have hwd : ∀ b, Wds (m.s b) := fun b => by cases b <;> assumption
  have hll : ∀ b, (m.s b).length ≤ 100000 := fun b => by cases b <;> assumption
  have hpk := hx.1
  have hat := hx.2.1
  have hrg := (pOk_iff v).1 hpk
  have hix : pIx v = ((pIx v).toNat : Int) := by rw [pIx_eq hpk]; omega
  have hob := (hbs (pOld v)).2 x hat.mem
  have hbd := hat.bound
  rw [(hbs (pOld v)).1] at hbd
  have hxp := hob.pos
  have HTg := Lib.hid (fun W => Tag v v0 v1 W)
  have HPp := Lib.hid (fun W => Pointer v v0 v1 W)
  rw [hpk] at HPp
  have hbo : pOld v = false := by (unfold mov at hm; simpa [hx.1] using hm)
  have hage : age false m.at_ v = true := by unfold age; simp [hag]
  have HAg := Lib.hid hage
  obtain ⟨pF, cF, eF, hcF⟩ : ∃ pF cF, (if pOld v then Value.slice p2 m.o.length c2 else Value.slice p1 m.y.length c1) = .slice pF (m.s (pOld v)).length cF ∧ (m.s (pOld v)).length ≤ cF := by
    obtain ⟨p, c, e, h1, _⟩ := hpw (pOld v)
    exact ⟨p, c, e, h1⟩
  have hwa := hpw (pOld v)
  rw [eF] at hwa
  obtain ⟨gF, oF, e1, hgF, hcl⟩ := RowAt.nth' hwa (by omega)
  subst e1
  have HAr0 := fun W => area45 W (.slice p1 m.y.length c1) (.slice p2 m.o.length c2) p1 p2 m.y.length c1 m.o.length c2 m.at_ (pOld v) rfl rfl
  rw [eF] at HAr0
  have HAr := Lib.hid HAr0
  have hle := h.le
  have hget : ∀ j y, x[j]? = some y → (m.s (pOld v))[(pIx v).toNat + j]? = some y := fun j y hj => by
    have := hat.get j (List.getElem?_eq_some_iff.1 hj).1
    rw [(hbs (pOld v)).1] at this
    rw [this, hj]
  have HCell := Lib.hid (fun W (hb : Below w.heap.size w W) (j : Nat) (y : Int) (hj : x[j]? = some y) => add_cell ((hb.cell (p := ⟨gF, oF + ((pIx v).toNat + j), none⟩) (show gF < w.heap.size by omega)).trans (hcl _ y (hget j y hj))))
  have hx0 : x[0]? = some (x.headD 0) := headD_get hxp
  have hxr := hwd (pOld v) (x.headD 0) (List.mem_of_getElem? (hget 0 _ hx0))
  have HOb0 := Lib.hid (fun W (hb : Below w.heap.size w W) => object44 W gF oF (m.s (pOld v)).length cF (pIx v).toNat x hob hxr hbd hcF (by have := hll (pOld v); omega) ((hb.cell (p := ⟨gF, oF + (pIx v).toNat, none⟩) (show gF < w.heap.size by omega)).trans (by have := hcl _ _ (hget 0 _ hx0); rwa [Nat.add_zero] at this)))
  have HXl : Hid (x.length ≤ 100000) := Lib.hid (by have := hll (pOld v); omega)
  have HSl : Hid (∀ l, l = S.y.flatten ∨ l = S.o.flatten → l.length ≤ 200000) := Lib.hid (fun l e => by rcases e with rfl | rfl <;> assumption)
  have HBx := Lib.hid (fun W => Box true (S.o.flatten.length : Int) W)
  have HLs := Lib.hid (fun W => words.List true (S.o.flatten.length : Int) W)
  rw [hix] at HPp
  have q9 : decide (((pIx v).toNat : Int) < m.at_) = true := decide_eq_true (by omega)
  have hxn : ¬ x = [] := by intro e; rw [e] at hxp; simp at hxp
  clear h hl hn hm hx hbs hpw hwd hll hpk hat hob hbd hxp eF hwa HAr0 hgF hcl hget hx0 hxr hcF hage hix hle
  clear hsy hso
  generalize hny : S.y.flatten.length = nY at *
  generalize hno : S.o.flatten.length = nO at *
  have HNy := Lib.hid hny
  have HNo := Lib.hid hno
  clear hny hno
  generalize frm x = fx at *
  generalize (pIx v).toNat = i at *
  generalize (m.s (pOld v)).length = nF at *
  rw [hbo] at HPp HAr
  clear hbo
  obtain ⟨a0, a1, a2, a3, a4, a5, a6, a7, a8, af⟩ := nine_cells HH.out.blk
  have htg : v % 4 = 1 ∨ v % 4 = 2 := hrg.1
  by_cases ht : v % 4 = 1
  · have q1 : (v % 4 == 1) = true := by simp [ht]
    have HT4 := Lib.hid ht
    clear ht htg hrg
    go_enter Tryz.func46, Tryz.ntmps46
    go_wp2_with fail
    refine (HPp.out _).mono ?_
    rintro e w' ⟨rfl, rfl⟩
    go_wp2_with fail
    refine (HAr.out _).mono ?_
    rintro e W1 ⟨rfl, hb1⟩
    have H1 := Lib.hid (HH.out.below hb1)
    have HS1 := Lib.hid (ColS.below HH.out hb1)
    have HB1 : Hid (base ≤ W1.heap.size) := Lib.hid (Nat.le_of_lt H1.out.le)
    have HCx := Lib.hid (HCell.out W1 hb1)
    have HOb := Lib.hid (HOb0.out W1 hb1)
    clear hb1 a0 a1 a2 a3 a4 a5 a6 a7 a8 af
    obtain ⟨b0, b1, b2, b3, b4, b5, b6, b7, b8, bf⟩ := nine_cells H1.out.blk
    go_wp2_with fail
    refine HOb.out.mono ?_
    rintro e w' ⟨rfl, rfl⟩
    go_wp2_with fail
    refine (HBx.out _).mono ?_
    rintro e w' ⟨rfl, rfl⟩
    go_wp2_with fail
    refine (HTg.out _).mono ?_
    rintro e w' ⟨rfl, rfl⟩
    go_wp2_with fail
    refine (HLs.out _).mono ?_
    rintro e w' ⟨rfl, rfl⟩
    go_wp2_with (first
        | (at_builtin; refine wpList_append_words rfl (.tmp 106) (.tmp 107) rfl rfl H1.out.ro HB1.out ⟨gF, oF + i, none⟩ x.length (cF - i) x rfl rfl HCx.out (by (have := HXl.out); (have h9 := HSl.out _ (.inr rfl)); omega) ?_; intro v' w3 ha; have HA3 := Lib.hid ha; obtain ⟨p3, n3, c3, rfl⟩ := own_slice ha.own; obtain ⟨d0, d1, d2, d3, d4, d5, d6, d7, d8, df⟩ := nine_cells ((ha.other (Array.getElem?_eq_some_iff.1 H1.out.blk).1 H1.out.dz.2.1).trans H1.out.blk); obtain ⟨h2, s2⟩ := H1.out.stepO ha; have HH2 := Lib.hid h2; have HS2 := Lib.hid s2; obtain ⟨e0, e1, e2, e3, e4, e5, e6, e7, e8, ef⟩ := nine_cells h2.blk; clear ha h2 s2)
        | (at_mapUpdate; refine wpList_mapUpdate_al _ rfl _ _ _ 46 rfl key34 Tryz.underlying46 mp (fwd D I) HH2.out.fw v (.int .u64 (ptrW 1 true (nO : Int))) rfl rfl rfl ?_; intro w4 hm4 ht4 hz4; obtain ⟨h3, s3⟩ := HH2.out.stepM HL.out HN.out hm4 ht4; have HH3 := Lib.hid h3; have HS3 := Lib.hid s3; have HAl := Lib.hid ((Below.refl w4.heap.size w4).alloc (Nat.le_refl _) (.cells #[.int .u64 (ptrW 1 true (nO : Int))] 43)); have HH4 := Lib.hid (h3.below HAl.out); have HS4 := Lib.hid (ColS.below h3 HAl.out); obtain ⟨g0, g1, g2, g3, g4, g5, g6, g7, g8, gf⟩ := nine_cells h3.blk; obtain ⟨k0, k1, k2, k3, k4, k5, k6, k7, k8, kf⟩ := nine_cells HH4.out.blk; clear hm4 ht4 hz4 h3 s3)
        | (at_builtin; refine wpList_append_words rfl (.tmp 120) (.tmp 122) rfl rfl HH4.out.rc (Nat.le_of_lt HH4.out.le) ⟨w4.heap.size, 0, none⟩ 1 1 [ptrW 1 true (nO : Int)] rfl rfl (new_word _ _) (by (have := hsi); (show I.length + 1 ≤ 400000); omega) ?_; intro v'' w5 ha; obtain ⟨p5, n5, c5, rfl⟩ := own_slice ha.own; obtain ⟨n0, n1, n2, n3, n4, n5, n6, n7, n8, nf⟩ := nine_cells ((ha.other (Array.getElem?_eq_some_iff.1 HH4.out.blk).1 HH4.out.dz.2.2).trans HH4.out.blk); obtain ⟨h5, s5⟩ := HH4.out.stepC ha; have HH5 := Lib.hid h5; have HS5 := Lib.hid s5; clear ha h5 s5))
    go_ret
    refine ⟨_, _, _, _, _, _, ?_, HH5.out, ((((ColS.trans HH.out HS1.out (ColS.trans H1.out HS2.out (ColS.trans HH2.out HS3.out (ColS.trans HH3.out HS4.out HS5.out))))))), .inr ⟨HMv.out, HN.out, x, 1, HPx.out, .inl rfl, HT4.out, by rw [HAg.out], rfl, by rw [HAg.out, show (S.s true).flatten.length = nO from HNo.out]⟩⟩
    rw [lk_new HL.out HN.out]
    rfl
  · have q1 : (v % 4 == 1) = false := by simp [ht]
    have HT4 : Hid (v % 4 = 2) := Lib.hid (htg.resolve_left ht)
    clear ht htg hrg
    go_enter Tryz.func46, Tryz.ntmps46
    go_wp2_with fail
    refine (HPp.out _).mono ?_
    rintro e w' ⟨rfl, rfl⟩
    go_wp2_with fail
    refine (HAr.out _).mono ?_
    rintro e W1 ⟨rfl, hb1⟩
    have H1 := Lib.hid (HH.out.below hb1)
    have HS1 := Lib.hid (ColS.below HH.out hb1)
    have HB1 : Hid (base ≤ W1.heap.size) := Lib.hid (Nat.le_of_lt H1.out.le)
    have HCx := Lib.hid (HCell.out W1 hb1)
    have HOb := Lib.hid (HOb0.out W1 hb1)
    clear hb1 a0 a1 a2 a3 a4 a5 a6 a7 a8 af
    obtain ⟨b0, b1, b2, b3, b4, b5, b6, b7, b8, bf⟩ := nine_cells H1.out.blk
    go_wp2_with fail
    refine HOb.out.mono ?_
    rintro e w' ⟨rfl, rfl⟩
    go_wp2_with fail
    refine (HBx.out _).mono ?_
    rintro e w' ⟨rfl, rfl⟩
    go_wp2_with fail
    refine (HTg.out _).mono ?_
    rintro e w' ⟨rfl, rfl⟩
    skip
    go_wp2_with (first
        | (at_builtin; refine wpList_append_words rfl (.tmp 106) (.tmp 107) rfl rfl H1.out.ro HB1.out ⟨gF, oF + i, none⟩ x.length (cF - i) x rfl rfl HCx.out (by (have := HXl.out); (have h9 := HSl.out _ (.inr rfl)); omega) ?_; intro v' w3 ha; have HA3 := Lib.hid ha; obtain ⟨p3, n3, c3, rfl⟩ := own_slice ha.own; obtain ⟨d0, d1, d2, d3, d4, d5, d6, d7, d8, df⟩ := nine_cells ((ha.other (Array.getElem?_eq_some_iff.1 H1.out.blk).1 H1.out.dz.2.1).trans H1.out.blk); obtain ⟨h2, s2⟩ := H1.out.stepO ha; have HH2 := Lib.hid h2; have HS2 := Lib.hid s2; obtain ⟨e0, e1, e2, e3, e4, e5, e6, e7, e8, ef⟩ := nine_cells h2.blk; clear ha h2 s2)
        | (at_mapUpdate; refine wpList_mapUpdate_al _ rfl _ _ _ 46 rfl key34 Tryz.underlying46 mp (fwd D I) HH2.out.fw v (.int .u64 (ptrW 2 true (nO : Int))) rfl rfl rfl ?_; intro w4 hm4 ht4 hz4; obtain ⟨h3, s3⟩ := HH2.out.stepM HL.out HN.out hm4 ht4; have HH3 := Lib.hid h3; have HS3 := Lib.hid s3; have HAl := Lib.hid ((Below.refl w4.heap.size w4).alloc (Nat.le_refl _) (.cells #[.int .u64 (ptrW 2 true (nO : Int))] 43)); have HH4 := Lib.hid (h3.below HAl.out); have HS4 := Lib.hid (ColS.below h3 HAl.out); obtain ⟨g0, g1, g2, g3, g4, g5, g6, g7, g8, gf⟩ := nine_cells h3.blk; obtain ⟨k0, k1, k2, k3, k4, k5, k6, k7, k8, kf⟩ := nine_cells HH4.out.blk; clear hm4 ht4 hz4 h3 s3)
        | (at_builtin; refine wpList_append_words rfl (.tmp 120) (.tmp 122) rfl rfl HH4.out.rc (Nat.le_of_lt HH4.out.le) ⟨w4.heap.size, 0, none⟩ 1 1 [ptrW 2 true (nO : Int)] rfl rfl (new_word _ _) (by (have := hsi); (show I.length + 1 ≤ 400000); omega) ?_; intro v'' w5 ha; obtain ⟨p5, n5, c5, rfl⟩ := own_slice ha.own; obtain ⟨n0, n1, n2, n3, n4, n5, n6, n7, n8, nf⟩ := nine_cells ((ha.other (Array.getElem?_eq_some_iff.1 HH4.out.blk).1 HH4.out.dz.2.2).trans HH4.out.blk); obtain ⟨h5, s5⟩ := HH4.out.stepC ha; have HH5 := Lib.hid h5; have HS5 := Lib.hid s5; clear ha h5 s5))
    go_ret
    refine ⟨_, _, _, _, _, _, ?_, HH5.out, ((((ColS.trans HH.out HS1.out (ColS.trans H1.out HS2.out (ColS.trans HH2.out HS3.out (ColS.trans HH3.out HS4.out HS5.out))))))), .inr ⟨HMv.out, HN.out, x, 2, HPx.out, .inr rfl, HT4.out, by rw [HAg.out], rfl, by rw [HAg.out, show (S.s true).flatten.length = nO from HNo.out]⟩⟩
    rw [lk_new HL.out HN.out]
    rfl
theorem keep_young {w : World} {z mp base : Nat} {vY vO vC vF1 vF2 : Value} {m : Mm} {mk : Int} {S : Bk} {D I : List Int} (h : ColAt w z mp base vY vO vC vF1 vF2 m mk false S D I I) (hl : D.length = I.length) (hsy : S.y.flatten.length ≤ 200000) (hso : S.o.flatten.length ≤ 200000) (hsi : I.length ≤ 200000)
    (K : Bk) (hy : Objs m.y K.y) (ho : Objs m.o K.o) (w1 : Wds m.y) (w2 : Wds m.o) (l1 : m.y.length ≤ 100000) (l2 : m.o.length ≤ 100000) (v : Int) (v0 : 0 ≤ v) (v1 : v ≤ 18446744073709551615) (hm : mov false v = true) (hn : v ∉ D) (x : List Int) (hx : Pt K v x) (hag : ¬ pIx v < m.at_) :
    Calls Tryz.prog 46 #[.pointer (some ⟨z, 0, none⟩), .int .u64 v] w (KeepP w z mp base vY vO vC vF1 vF2 m K mk false S D I v) := by
  obtain ⟨pY, cY, rfl⟩ := h.ry.shape
  obtain ⟨pO, cO, rfl⟩ := h.ro.shape
  obtain ⟨pC, cC, rfl⟩ := h.rc.shape
  obtain ⟨p1, c1, rfl, _⟩ := id h.f1
  obtain ⟨p2, c2, rfl, _⟩ := id h.f2
  rename_i R1 R2
  clear R1 R2
  have hlk := run_lookup_ok key34 Tryz.underlying46 h.fw v (zero34 w)
  rw [fwd_find hl, if_neg hn] at hlk
  have HH := Lib.hid h
  have HL := Lib.hid hl
  have HN := Lib.hid hn
  have HMv := Lib.hid hm
  have HPx := Lib.hid hx
  have hbs : ∀ b, Objs (m.s b) (K.s b) := fun b => by cases b <;> assumption
  have hpw : ∀ b, WAt w base (if b then .slice p2 m.o.length c2 else .slice p1 m.y.length c1) (m.s b) := fun b => by cases b; exact h.f1; exact h.f2
  have hwd : ∀ b, Wds (m.s b) := fun b => by cases b <;> assumption
  have hll : ∀ b, (m.s b).length ≤ 100000 := fun b => by cases b <;> assumption
  have hpk := hx.1
  have hat := hx.2.1
  have hrg := (pOk_iff v).1 hpk
  have hix : pIx v = ((pIx v).toNat : Int) := by rw [pIx_eq hpk]; omega
  have hob := (hbs (pOld v)).2 x hat.mem
  have hbd := hat.bound
  rw [(hbs (pOld v)).1] at hbd
  have hxp := hob.pos
  have HTg := Lib.hid (fun W => Tag v v0 v1 W)
  have HPp := Lib.hid (fun W => Pointer v v0 v1 W)
  rw [hpk] at HPp
  have hbo : pOld v = false := by (unfold mov at hm; simpa [hx.1] using hm)
  have hage : age false m.at_ v = false := by unfold age; simp [hag, hbo]
  have HAg := Lib.hid hage
  obtain ⟨pF, cF, eF, hcF⟩ : ∃ pF cF, (if pOld v then Value.slice p2 m.o.length c2 else Value.slice p1 m.y.length c1) = .slice pF (m.s (pOld v)).length cF ∧ (m.s (pOld v)).length ≤ cF := by
    obtain ⟨p, c, e, h1, _⟩ := hpw (pOld v)
    exact ⟨p, c, e, h1⟩
  have hwa := hpw (pOld v)
  rw [eF] at hwa
  obtain ⟨gF, oF, e1, hgF, hcl⟩ := RowAt.nth' hwa (by omega)
  subst e1
  have HAr0 := fun W => area45 W (.slice p1 m.y.length c1) (.slice p2 m.o.length c2) p1 p2 m.y.length c1 m.o.length c2 m.at_ (pOld v) rfl rfl
  rw [eF] at HAr0
  have HAr := Lib.hid HAr0
  have hle := h.le
  have hget : ∀ j y, x[j]? = some y → (m.s (pOld v))[(pIx v).toNat + j]? = some y := fun j y hj => by
    have := hat.get j (List.getElem?_eq_some_iff.1 hj).1
    rw [(hbs (pOld v)).1] at this
    rw [this, hj]
  have HCell := Lib.hid (fun W (hb : Below w.heap.size w W) (j : Nat) (y : Int) (hj : x[j]? = some y) => add_cell ((hb.cell (p := ⟨gF, oF + ((pIx v).toNat + j), none⟩) (show gF < w.heap.size by omega)).trans (hcl _ y (hget j y hj))))
  have hx0 : x[0]? = some (x.headD 0) := headD_get hxp
  have hxr := hwd (pOld v) (x.headD 0) (List.mem_of_getElem? (hget 0 _ hx0))
  have HOb0 := Lib.hid (fun W (hb : Below w.heap.size w W) => object44 W gF oF (m.s (pOld v)).length cF (pIx v).toNat x hob hxr hbd hcF (by have := hll (pOld v); omega) ((hb.cell (p := ⟨gF, oF + (pIx v).toNat, none⟩) (show gF < w.heap.size by omega)).trans (by have := hcl _ _ (hget 0 _ hx0); rwa [Nat.add_zero] at this)))
  have HXl : Hid (x.length ≤ 100000) := Lib.hid (by have := hll (pOld v); omega)
  have HSl : Hid (∀ l, l = S.y.flatten ∨ l = S.o.flatten → l.length ≤ 200000) := Lib.hid (fun l e => by rcases e with rfl | rfl <;> assumption)
  have HBx := Lib.hid (fun W => Box false (S.y.flatten.length : Int) W)
  have HLs := Lib.hid (fun W => words.List false (S.y.flatten.length : Int) W)
  rw [hix] at HPp
  have q9 : decide (((pIx v).toNat : Int) < m.at_) = false := decide_eq_false (by omega)
  have hxn : ¬ x = [] := by intro e; rw [e] at hxp; simp at hxp
  clear h hl hn hm hx hbs hpw hwd hll hpk hat hob hbd hxp eF hwa HAr0 hgF hcl hget hx0 hxr hcF hage hix hle
  clear hsy hso
  generalize hny : S.y.flatten.length = nY at *
  generalize hno : S.o.flatten.length = nO at *
  have HNy := Lib.hid hny
  have HNo := Lib.hid hno
  clear hny hno
  generalize frm x = fx at *
  generalize (pIx v).toNat = i at *
  generalize (m.s (pOld v)).length = nF at *
  rw [hbo] at HPp HAr
  clear hbo
  obtain ⟨a0, a1, a2, a3, a4, a5, a6, a7, a8, af⟩ := nine_cells HH.out.blk
  have htg : v % 4 = 1 ∨ v % 4 = 2 := hrg.1
  by_cases ht : v % 4 = 1
  · have q1 : (v % 4 == 1) = true := by simp [ht]
    have HT4 := Lib.hid ht
    clear ht htg hrg
    go_enter Tryz.func46, Tryz.ntmps46
    go_wp2_with fail
    refine (HPp.out _).mono ?_
    rintro e w' ⟨rfl, rfl⟩
    go_wp2_with fail
    refine (HAr.out _).mono ?_
    rintro e W1 ⟨rfl, hb1⟩
    have H1 := Lib.hid (HH.out.below hb1)
    have HS1 := Lib.hid (ColS.below HH.out hb1)
    have HB1 : Hid (base ≤ W1.heap.size) := Lib.hid (Nat.le_of_lt H1.out.le)
    have HCx := Lib.hid (HCell.out W1 hb1)
    have HOb := Lib.hid (HOb0.out W1 hb1)
    clear hb1 a0 a1 a2 a3 a4 a5 a6 a7 a8 af
    obtain ⟨b0, b1, b2, b3, b4, b5, b6, b7, b8, bf⟩ := nine_cells H1.out.blk
    go_wp2_with fail
    refine HOb.out.mono ?_
    rintro e w' ⟨rfl, rfl⟩
    go_wp2_with fail
    refine (HBx.out _).mono ?_
    rintro e w' ⟨rfl, rfl⟩
    go_wp2_with fail
    refine (HTg.out _).mono ?_
    rintro e w' ⟨rfl, rfl⟩
    go_wp2_with fail
    refine (HLs.out _).mono ?_
    rintro e w' ⟨rfl, rfl⟩
    go_wp2_with (first
        | (at_builtin; refine wpList_append_words rfl (.tmp 106) (.tmp 107) rfl rfl H1.out.ry HB1.out ⟨gF, oF + i, none⟩ x.length (cF - i) x rfl rfl HCx.out (by (have := HXl.out); (have h9 := HSl.out _ (.inl rfl)); omega) ?_; intro v' w3 ha; have HA3 := Lib.hid ha; obtain ⟨p3, n3, c3, rfl⟩ := own_slice ha.own; obtain ⟨d0, d1, d2, d3, d4, d5, d6, d7, d8, df⟩ := nine_cells ((ha.other (Array.getElem?_eq_some_iff.1 H1.out.blk).1 H1.out.dz.1).trans H1.out.blk); obtain ⟨h2, s2⟩ := H1.out.stepY ha; have HH2 := Lib.hid h2; have HS2 := Lib.hid s2; obtain ⟨e0, e1, e2, e3, e4, e5, e6, e7, e8, ef⟩ := nine_cells h2.blk; clear ha h2 s2)
        | (at_mapUpdate; refine wpList_mapUpdate_al _ rfl _ _ _ 46 rfl key34 Tryz.underlying46 mp (fwd D I) HH2.out.fw v (.int .u64 (ptrW 1 false (nY : Int))) rfl rfl rfl ?_; intro w4 hm4 ht4 hz4; obtain ⟨h3, s3⟩ := HH2.out.stepM HL.out HN.out hm4 ht4; have HH3 := Lib.hid h3; have HS3 := Lib.hid s3; have HAl := Lib.hid ((Below.refl w4.heap.size w4).alloc (Nat.le_refl _) (.cells #[.int .u64 (ptrW 1 false (nY : Int))] 43)); have HH4 := Lib.hid (h3.below HAl.out); have HS4 := Lib.hid (ColS.below h3 HAl.out); obtain ⟨g0, g1, g2, g3, g4, g5, g6, g7, g8, gf⟩ := nine_cells h3.blk; obtain ⟨k0, k1, k2, k3, k4, k5, k6, k7, k8, kf⟩ := nine_cells HH4.out.blk; clear hm4 ht4 hz4 h3 s3)
        | (at_builtin; refine wpList_append_words rfl (.tmp 120) (.tmp 122) rfl rfl HH4.out.rc (Nat.le_of_lt HH4.out.le) ⟨w4.heap.size, 0, none⟩ 1 1 [ptrW 1 false (nY : Int)] rfl rfl (new_word _ _) (by (have := hsi); (show I.length + 1 ≤ 400000); omega) ?_; intro v'' w5 ha; obtain ⟨p5, n5, c5, rfl⟩ := own_slice ha.own; obtain ⟨n0, n1, n2, n3, n4, n5, n6, n7, n8, nf⟩ := nine_cells ((ha.other (Array.getElem?_eq_some_iff.1 HH4.out.blk).1 HH4.out.dz.2.2).trans HH4.out.blk); obtain ⟨h5, s5⟩ := HH4.out.stepC ha; have HH5 := Lib.hid h5; have HS5 := Lib.hid s5; clear ha h5 s5))
    go_ret
    refine ⟨_, _, _, _, _, _, ?_, HH5.out, ((((ColS.trans HH.out HS1.out (ColS.trans H1.out HS2.out (ColS.trans HH2.out HS3.out (ColS.trans HH3.out HS4.out HS5.out))))))), .inr ⟨HMv.out, HN.out, x, 1, HPx.out, .inl rfl, HT4.out, by rw [HAg.out], rfl, by rw [HAg.out, show (S.s false).flatten.length = nY from HNy.out]⟩⟩
    rw [lk_new HL.out HN.out]
    rfl
  · have q1 : (v % 4 == 1) = false := by simp [ht]
    have HT4 : Hid (v % 4 = 2) := Lib.hid (htg.resolve_left ht)
    clear ht htg hrg
    go_enter Tryz.func46, Tryz.ntmps46
    go_wp2_with fail
    refine (HPp.out _).mono ?_
    rintro e w' ⟨rfl, rfl⟩
    go_wp2_with fail
    refine (HAr.out _).mono ?_
    rintro e W1 ⟨rfl, hb1⟩
    have H1 := Lib.hid (HH.out.below hb1)
    have HS1 := Lib.hid (ColS.below HH.out hb1)
    have HB1 : Hid (base ≤ W1.heap.size) := Lib.hid (Nat.le_of_lt H1.out.le)
    have HCx := Lib.hid (HCell.out W1 hb1)
    have HOb := Lib.hid (HOb0.out W1 hb1)
    clear hb1 a0 a1 a2 a3 a4 a5 a6 a7 a8 af
    obtain ⟨b0, b1, b2, b3, b4, b5, b6, b7, b8, bf⟩ := nine_cells H1.out.blk
    go_wp2_with fail
    refine HOb.out.mono ?_
    rintro e w' ⟨rfl, rfl⟩
    go_wp2_with fail
    refine (HBx.out _).mono ?_
    rintro e w' ⟨rfl, rfl⟩
    go_wp2_with fail
    refine (HTg.out _).mono ?_
    rintro e w' ⟨rfl, rfl⟩
    skip
    go_wp2_with (first
        | (at_builtin; refine wpList_append_words rfl (.tmp 106) (.tmp 107) rfl rfl H1.out.ry HB1.out ⟨gF, oF + i, none⟩ x.length (cF - i) x rfl rfl HCx.out (by (have := HXl.out); (have h9 := HSl.out _ (.inl rfl)); omega) ?_; intro v' w3 ha; have HA3 := Lib.hid ha; obtain ⟨p3, n3, c3, rfl⟩ := own_slice ha.own; obtain ⟨d0, d1, d2, d3, d4, d5, d6, d7, d8, df⟩ := nine_cells ((ha.other (Array.getElem?_eq_some_iff.1 H1.out.blk).1 H1.out.dz.1).trans H1.out.blk); obtain ⟨h2, s2⟩ := H1.out.stepY ha; have HH2 := Lib.hid h2; have HS2 := Lib.hid s2; obtain ⟨e0, e1, e2, e3, e4, e5, e6, e7, e8, ef⟩ := nine_cells h2.blk; clear ha h2 s2)
        | (at_mapUpdate; refine wpList_mapUpdate_al _ rfl _ _ _ 46 rfl key34 Tryz.underlying46 mp (fwd D I) HH2.out.fw v (.int .u64 (ptrW 2 false (nY : Int))) rfl rfl rfl ?_; intro w4 hm4 ht4 hz4; obtain ⟨h3, s3⟩ := HH2.out.stepM HL.out HN.out hm4 ht4; have HH3 := Lib.hid h3; have HS3 := Lib.hid s3; have HAl := Lib.hid ((Below.refl w4.heap.size w4).alloc (Nat.le_refl _) (.cells #[.int .u64 (ptrW 2 false (nY : Int))] 43)); have HH4 := Lib.hid (h3.below HAl.out); have HS4 := Lib.hid (ColS.below h3 HAl.out); obtain ⟨g0, g1, g2, g3, g4, g5, g6, g7, g8, gf⟩ := nine_cells h3.blk; obtain ⟨k0, k1, k2, k3, k4, k5, k6, k7, k8, kf⟩ := nine_cells HH4.out.blk; clear hm4 ht4 hz4 h3 s3)
        | (at_builtin; refine wpList_append_words rfl (.tmp 120) (.tmp 122) rfl rfl HH4.out.rc (Nat.le_of_lt HH4.out.le) ⟨w4.heap.size, 0, none⟩ 1 1 [ptrW 2 false (nY : Int)] rfl rfl (new_word _ _) (by (have := hsi); (show I.length + 1 ≤ 400000); omega) ?_; intro v'' w5 ha; obtain ⟨p5, n5, c5, rfl⟩ := own_slice ha.own; obtain ⟨n0, n1, n2, n3, n4, n5, n6, n7, n8, nf⟩ := nine_cells ((ha.other (Array.getElem?_eq_some_iff.1 HH4.out.blk).1 HH4.out.dz.2.2).trans HH4.out.blk); obtain ⟨h5, s5⟩ := HH4.out.stepC ha; have HH5 := Lib.hid h5; have HS5 := Lib.hid s5; clear ha h5 s5))
    go_ret
    refine ⟨_, _, _, _, _, _, ?_, HH5.out, ((((ColS.trans HH.out HS1.out (ColS.trans H1.out HS2.out (ColS.trans HH2.out HS3.out (ColS.trans HH3.out HS4.out HS5.out))))))), .inr ⟨HMv.out, HN.out, x, 2, HPx.out, .inr rfl, HT4.out, by rw [HAg.out], rfl, by rw [HAg.out, show (S.s false).flatten.length = nY from HNy.out]⟩⟩
    rw [lk_new HL.out HN.out]
    rfl
theorem keep_stay {w : World} {z mp base : Nat} {vY vO vC vF1 vF2 : Value} {m : Mm} {mk : Int} {full : Bool} {S : Bk} {D I : List Int} (h : ColAt w z mp base vY vO vC vF1 vF2 m mk full S D I I) (hl : D.length = I.length) (hsy : S.y.flatten.length ≤ 200000) (hso : S.o.flatten.length ≤ 200000) (hsi : I.length ≤ 200000)
    (K : Bk) (hy : Objs m.y K.y) (ho : Objs m.o K.o) (w1 : Wds m.y) (w2 : Wds m.o) (l1 : m.y.length ≤ 100000) (l2 : m.o.length ≤ 100000) (v : Int) (v0 : 0 ≤ v) (v1 : v ≤ 18446744073709551615) (hm : mov full v = false) (hn : v ∉ D) :
    Calls Tryz.prog 46 #[.pointer (some ⟨z, 0, none⟩), .int .u64 v] w (KeepP w z mp base vY vO vC vF1 vF2 m K mk full S D I v) := by
  obtain ⟨pY, cY, rfl⟩ := h.ry.shape
  obtain ⟨pO, cO, rfl⟩ := h.ro.shape
  obtain ⟨pC, cC, rfl⟩ := h.rc.shape
  obtain ⟨p1, c1, rfl, _⟩ := id h.f1
  obtain ⟨p2, c2, rfl, _⟩ := id h.f2
  rename_i R1 R2
  clear R1 R2
  have HE : Hid (KeepP w z mp base (.slice pY S.y.flatten.length cY) (.slice pO S.o.flatten.length cO) (.slice pC I.length cC) (.slice p1 m.y.length c1) (.slice p2 m.o.length c2) m K mk full S D I v (.returned (.int .u64 v)) w) := Lib.hid ⟨_, _, _, S, D, I, by rw [lk_not hn], h, ColS.refl _ _ _ _ _ _ _, .inl ⟨fun e => by rw [hm] at e; exact Bool.noConfusion e, rfl, rfl, rfl⟩⟩
  have HPp := Lib.hid (fun W => Pointer v v0 v1 W)
  obtain ⟨a0, a1, a2, a3, a4, a5, a6, a7, a8, af⟩ := nine_cells h.blk
  unfold mov at hm
  clear h hn hl
  generalize pIx v = ix at *
  cases hpk : pOk v
  · rw [hpk] at HPp
    clear hpk hm
    generalize pOld v = b at *
    go_enter Tryz.func46, Tryz.ntmps46
    go_wp2_with fail
    refine (HPp.out _).mono ?_
    rintro e w' ⟨rfl, rfl⟩
    go_wp2_with fail
    go_ret
    exact HE.out
  · have hf : full = false ∧ pOld v = true := by
      rw [hpk] at hm
      cases full <;> cases hb : pOld v <;> simp [hb] at hm ⊢
    obtain ⟨rfl, hb⟩ := hf
    rw [hpk, hb] at HPp
    clear hpk hm hb
    go_enter Tryz.func46, Tryz.ntmps46
    go_wp2_with fail
    refine (HPp.out _).mono ?_
    rintro e w' ⟨rfl, rfl⟩
    go_wp2_with fail
    go_ret
    exact HE.out
theorem keep_known {w : World} {z mp base : Nat} {vY vO vC vF1 vF2 : Value} {m : Mm} {mk : Int} {full : Bool} {S : Bk} {D I : List Int} (h : ColAt w z mp base vY vO vC vF1 vF2 m mk full S D I I) (hl : D.length = I.length) (hsy : S.y.flatten.length ≤ 200000) (hso : S.o.flatten.length ≤ 200000) (hsi : I.length ≤ 200000)
    (K : Bk) (hy : Objs m.y K.y) (ho : Objs m.o K.o) (w1 : Wds m.y) (w2 : Wds m.o) (l1 : m.y.length ≤ 100000) (l2 : m.o.length ≤ 100000) (v : Int) (v0 : 0 ≤ v) (v1 : v ≤ 18446744073709551615) (hm : mov full v = true) (hn : v ∈ D) :
    Calls Tryz.prog 46 #[.pointer (some ⟨z, 0, none⟩), .int .u64 v] w (KeepP w z mp base vY vO vC vF1 vF2 m K mk full S D I v) := by
  obtain ⟨pY, cY, rfl⟩ := h.ry.shape
  obtain ⟨pO, cO, rfl⟩ := h.ro.shape
  obtain ⟨pC, cC, rfl⟩ := h.rc.shape
  obtain ⟨p1, c1, rfl, _⟩ := id h.f1
  obtain ⟨p2, c2, rfl, _⟩ := id h.f2
  rename_i R1 R2
  clear R1 R2
  have hlk := run_lookup_ok key34 Tryz.underlying46 h.fw v (zero34 w)
  rw [fwd_find hl, if_pos hn] at hlk
  have HE : Hid (KeepP w z mp base (.slice pY S.y.flatten.length cY) (.slice pO S.o.flatten.length cO) (.slice pC I.length cC) (.slice p1 m.y.length c1) (.slice p2 m.o.length c2) m K mk full S D I v (.returned (.int .u64 (lk D I v))) w) := Lib.hid ⟨_, _, _, S, D, I, rfl, h, ColS.refl _ _ _ _ _ _ _, .inl ⟨fun _ => hn, rfl, rfl, rfl⟩⟩
  have HPp := Lib.hid (fun W => Pointer v v0 v1 W)
  obtain ⟨a0, a1, a2, a3, a4, a5, a6, a7, a8, af⟩ := nine_cells h.blk
  unfold mov at hm
  have hpk : pOk v = true := by
    cases hp : pOk v
    · rw [hp] at hm; simp at hm
    · rfl
  have hfo : full = true ∨ (full = false ∧ pOld v = false) := by
    rw [hpk] at hm
    cases full <;> cases hb : pOld v <;> simp [hb] at hm ⊢
  rw [hpk] at HPp
  clear h hn hl hm hpk
  generalize pIx v = ix at *
  generalize lk D I v = r at *
  rcases hfo with rfl | ⟨rfl, hb⟩
  · generalize pOld v = b at *
    cases b
    · go_enter Tryz.func46, Tryz.ntmps46
      go_wp2_with fail
      refine (HPp.out _).mono ?_
      rintro e w' ⟨rfl, rfl⟩
      go_wp2_with fail
      go_ret
      exact HE.out
    · go_enter Tryz.func46, Tryz.ntmps46
      go_wp2_with fail
      refine (HPp.out _).mono ?_
      rintro e w' ⟨rfl, rfl⟩
      go_wp2_with fail
      go_ret
      exact HE.out
  · rw [hb] at HPp
    clear hb
    go_enter Tryz.func46, Tryz.ntmps46
    go_wp2_with fail
    refine (HPp.out _).mono ?_
    rintro e w' ⟨rfl, rfl⟩
    go_wp2_with fail
    go_ret
    exact HE.out
theorem keep56 {w : World} {z mp base : Nat} {vY vO vC vF1 vF2 : Value} {m : Mm} {mk : Int} {full : Bool} {S : Bk} {D I : List Int} (h : ColAt w z mp base vY vO vC vF1 vF2 m mk full S D I I) (hl : D.length = I.length) (hsy : S.y.flatten.length ≤ 200000) (hso : S.o.flatten.length ≤ 200000) (hsi : I.length ≤ 200000)
    (K : Bk) (hy : Objs m.y K.y) (ho : Objs m.o K.o) (w1 : Wds m.y) (w2 : Wds m.o) (l1 : m.y.length ≤ 100000) (l2 : m.o.length ≤ 100000) (v : Int) (v0 : 0 ≤ v) (v1 : v ≤ 18446744073709551615) (hD : ∀ d ∈ D, mov full d = true) (hv : mov full v = true → ∃ x, Pt K v x) :
    Calls Tryz.prog 46 #[.pointer (some ⟨z, 0, none⟩), .int .u64 v] w (KeepP w z mp base vY vO vC vF1 vF2 m K mk full S D I v) := by
  cases hm : mov full v
  · exact keep_stay h hl hsy hso hsi K hy ho w1 w2 l1 l2 v v0 v1 hm (fun hd => by rw [hD v hd] at hm; exact Bool.noConfusion hm)
  · by_cases hn : v ∈ D
    · exact keep_known h hl hsy hso hsi K hy ho w1 w2 l1 l2 v v0 v1 hm hn
    · obtain ⟨x, hx⟩ := hv hm
      cases full
      · by_cases hag : pIx v < m.at_
        · exact keep_aged h hl hsy hso hsi K hy ho w1 w2 l1 l2 v v0 v1 hm hn x hx hag
        · exact keep_young h hl hsy hso hsi K hy ho w1 w2 l1 l2 v v0 v1 hm hn x hx hag
      · exact keep_full h hl hsy hso hsi K hy ho w1 w2 l1 l2 v v0 v1 hm hn x hx
end Go.Proofs.YtegffanlehaloaaGreat.cl
