/- Texts of this seat, one behind the other: TcL, TcM, TcN. No condition beyond theirs. -/
import Derived.Test.YtfbggmbmgohiiaaGreatL37
/- Get and Owner. Conditions: the object and the terms lie in memory. -/
namespace Go.Proofs.YtfbggmbmgohiiaaGreat.tb
open Go.RowKit mem rec tm names
set_option linter.unusedVariables false
set_option linter.unusedSimpArgs false
set_option maxHeartbeats 4000000
set_option maxRecDepth 100000
theorem results_c2 {fn : Func} {p u v : Tmp} {ty : TypeId} (h : fn.results = #[.cell p ty, .tmp u, .tmp v]) (tmps : Array Value) (P : Program) (w : World) :
    (results fn tmps).run P w = ((asAddr (tmps.getD p undef)).run P w).andThen fun a w₁ => ((loadVar ty a).run P w₁).andThen fun x w₂ => .ok (.tuple #[x, tmps.getD u undef, tmps.getD v undef]) w₂ := by
  simp only [results, h]
  simp [Sem.run_bind, Result.andThen]
theorem zoneA : (#[.int .i64 0, .int .i64 0, .int .i64 0, .string ⟨#[]⟩, .string ⟨#[]⟩, .int .i64 0, .slice none 0 0, .string ⟨#[]⟩, .int .i64 0] : Array Value).all (·.oneCell') = true := all_oneCell_toArray (nineL_one (f := zeroF) (u := nilV) rfl)
def GetP {N : Nat} (v : Tm (N + 1)) (w : World) (e : Ending) (w' : World) : Prop := ∃ F1 u, e = .returned (.tuple #[aggV v.f u, .bool true, .int .i64 0]) ∧ Below w.heap.size w w' ∧ NewI w w' F1 N u v.items
section
variable {N : Nat} {w w' : World} {B : Nat} {F : Nat → Prop} {s : TbSt N}
theorem get32e (h : TbAt w B F s) (hlen : s.tabs.length ≤ 1000) {r k : Tm (N + 1)} {ur uk : Value} {B2 : Nat} (hB : B2 ≤ w.heap.size) (hI : ItemsAt w B2 N ur r.items) (hJ : ItemsAt w B2 N uk k.items) (hnk : nodesT k ≤ 100000000) {er : Int} (he : er ≠ 0) (hKR : KeyR s.tabs r k none er) :
    Calls Tryz.prog 32 #[.pointer (some ⟨s.z, 0, none⟩), aggV r.f ur, aggV k.f uk] w fun e w' => e = .returned (.tuple #[.agg #[.int .i64 0, .int .i64 0, .int .i64 0, .string ⟨#[]⟩, .string ⟨#[]⟩, .int .i64 0, .slice none 0 0, .string ⟨#[]⟩, .int .i64 0], .bool false, .int .i64 er]) ∧ Below w.heap.size w w' := by
  have HKy := Lib.hid (fun (W : World) (hW : Below w.heap.size w W) => keyed55 (h.below hW) hlen (Nat.le_trans hB hW.size) (hI.below hW hB) (hJ.below hW hB) (by omega) (po := none) (er := er) hKR)
  obtain ⟨pr, cr, er1, _, _⟩ := hI.shape
  obtain ⟨pk, ck, ek, _, _⟩ := hJ.shape
  rw [er1] at HKy ⊢
  rw [ek] at HKy ⊢
  clear h hlen hB hI hJ hnk hKR er1 ek
  generalize s.z = z at *
  generalize r.items.length = nr at *
  generalize k.items.length = nk at *
  generalize r.f = fr at *
  generalize k.f = fk at *
  obtain ⟨rk, ri, rg, rn, rf, ra, rb, rs⟩ := fr
  obtain ⟨kk, ki, kg, kn, kf, ka, kb, ks⟩ := fk
  unfold aggV at *
  dsimp only at *
  have hsz9 : (Tryz.prog.info? 24).map (·.size) = some 9 := by kernel_rfl
  obtain ⟨hb0, hs1, hz4, hz5, hz6⟩ := three_heap w (.cells #[.int .i64 rk, .int .i64 ri, .int .i64 rg, .string rn, .string rf, .int .i64 ra, .slice pr nr cr, .string rb, .int .i64 rs] 24) (.cells #[.int .i64 kk, .int .i64 ki, .int .i64 kg, .string kn, .string kf, .int .i64 ka, .slice pk nk ck, .string kb, .int .i64 ks] 24) (.cells #[.int .i64 0, .int .i64 0, .int .i64 0, .string ⟨#[]⟩, .string ⟨#[]⟩, .int .i64 0, .slice none 0 0, .string ⟨#[]⟩, .int .i64 0] 24)
  go_enter Tryz.func32, Tryz.ntmps32
  go_upto_region 1 with (fail)
  generalize (((w.alloc (.cells #[.int .i64 rk, .int .i64 ri, .int .i64 rg, .string rn, .string rf, .int .i64 ra, .slice pr nr cr, .string rb, .int .i64 rs] 24)).alloc (.cells #[.int .i64 kk, .int .i64 ki, .int .i64 kg, .string kn, .string kf, .int .i64 ka, .slice pk nk ck, .string kb, .int .i64 ks] 24)).alloc (.cells #[.int .i64 0, .int .i64 0, .int .i64 0, .string ⟨#[]⟩, .string ⟨#[]⟩, .int .i64 0, .slice none 0 0, .string ⟨#[]⟩, .int .i64 0] 24)) = W1 at *
  have HL4 := Lib.hid (row_rng hz4)
  have HL5 := Lib.hid (row_rng hz5)
  have HZ5 := Lib.hid hz5
  have HZ6 := Lib.hid hz6
  have HB0 := Lib.hid hb0
  clear hz4 hz5 hz6 hb0
  go_wp2_with (first
    | (refine wpList_load_mid rfl 24 (.tmp 4) rfl w.heap.size 0 rfl [.int .i64 rk, .int .i64 ri, .int .i64 rg, .string rn, .string rf, .int .i64 ra, .slice pr nr cr, .string rb, .int .i64 rs] _ HL4.out Tryz.underlying24 rfl hsz9 ?_)
    | (refine wpList_load_mid rfl 24 (.tmp 5) rfl (w.heap.size + 1) 0 rfl [.int .i64 kk, .int .i64 ki, .int .i64 kg, .string kn, .string kf, .int .i64 ka, .slice pk nk ck, .string kb, .int .i64 ks] _ HL5.out Tryz.underlying24 rfl hsz9 ?_))
  refine (HKy.out _ HB0.out).mono ?_
  rintro e w2 ⟨rfl, hb2⟩
  have HB2 := Lib.hid (HB0.out.trans (hb2.mono HB0.out.size))
  have HW2 := Lib.hid hb2
  clear HL4 HL5 hb2 HKy HB0
  have hz6 := (HW2.out.block (w.heap.size + 2) (by omega)).trans HZ6.out
  have hq6 := setRow_heap w2 (w.heap.size + 2) _ #[.int .i64 0, .int .i64 0, .int .i64 0, .string ⟨#[]⟩, .string ⟨#[]⟩, .int .i64 0, .slice none 0 0, .string ⟨#[]⟩, .int .i64 0] _ _ hz6
  have hbq := HB2.out.trans ((touch_setRow w2 (w.heap.size + 2) #[.int .i64 0, .int .i64 0, .int .i64 0, .string ⟨#[]⟩, .string ⟨#[]⟩, .int .i64 0, .slice none 0 0, .string ⟨#[]⟩, .int .i64 0]).below (fun q e => by omega) HB2.out.size)
  have HZ := Lib.hid hz6
  have HF := Lib.hid (And.intro (run_loadVar_mid (P := Tryz.prog) _ (w.heap.size + 2) 0 24 [.int .i64 0, .int .i64 0, .int .i64 0, .string ⟨#[]⟩, .string ⟨#[]⟩, .int .i64 0, .slice none 0 0, .string ⟨#[]⟩, .int .i64 0] _ (row_rng hq6) Tryz.underlying24 rfl hsz9) hbq)
  clear hz6 hq6 hbq
  go_wp2_with (first
    | (refine wpList_store_row rfl 24 (.tmp 6) (.tmp 22) rfl (w.heap.size + 2) #[.int .i64 0, .int .i64 0, .int .i64 0, .string ⟨#[]⟩, .string ⟨#[]⟩, .int .i64 0, .slice none 0 0, .string ⟨#[]⟩, .int .i64 0] rfl rfl 24 _ HZ.out hsz9 rfl zoneA ?_))
  (try simp only [Exit.inBlock, Exit.then])
  obtain ⟨hl6, hbp⟩ := HF.out
  refine bodyPost_ret (v := .tuple #[.agg #[.int .i64 0, .int .i64 0, .int .i64 0, .string ⟨#[]⟩, .string ⟨#[]⟩, .int .i64 0, .slice none 0 0, .string ⟨#[]⟩, .int .i64 0], .bool false, .int .i64 er]) ?_ rfl ⟨rfl, hbp⟩
  have hA : ∀ (a : Addr) (w : World), (asAddr (.pointer (some a))).run Tryz.prog w = .ok a w := fun _ _ => rfl
  rw [results_c2 rfl]
  simp [hA, hl6, Result.andThen]
theorem get32n (h : TbAt w B F s) (hlen : s.tabs.length ≤ 1000) {r k : Tm (N + 1)} {ur uk : Value} {B2 : Nat} (hB : B2 ≤ w.heap.size) (hI : ItemsAt w B2 N ur r.items) (hJ : ItemsAt w B2 N uk k.items) (hnk : nodesT k ≤ 100000000) (hvk : validT k = true) {i : Nat} (hi : i < s.tabs.length) (hr : refAt s.tabs r = some i) (hok : FindOK s.tabs[i] k) (hno : hasK s.tabs[i] k = false) :
    Calls Tryz.prog 32 #[.pointer (some ⟨s.z, 0, none⟩), aggV r.f ur, aggV k.f uk] w fun e w' => e = .returned (.tuple #[.agg #[.int .i64 0, .int .i64 0, .int .i64 0, .string ⟨#[]⟩, .string ⟨#[]⟩, .int .i64 0, .slice none 0 0, .string ⟨#[]⟩, .int .i64 0], .bool false, .int .i64 0]) ∧ Below w.heap.size w w' := by
  have ht := h.tabs _ (List.getElem_mem hi)
  have hKR : KeyR s.tabs r k (some ⟨(s.tabs[i]).b, 0, none⟩) 0 := .inr ⟨hvk, .inr ⟨i, hi, hr, rfl, rfl⟩⟩
  have HFi := Lib.hid (fun (W : World) (hW : Below w.heap.size w W) => find56 (ht.below hW h.fl) (fun g hg => Nat.lt_of_lt_of_le (h.fl g hg) hW.size) (Nat.le_trans hB hW.size) (hJ.below hW hB) (by omega) hok)
  have HKy := Lib.hid (fun (W : World) (hW : Below w.heap.size w W) => keyed55 (h.below hW) hlen (Nat.le_trans hB hW.size) (hI.below hW hB) (hJ.below hW hB) (by omega) (po := some ⟨(s.tabs[i]).b, 0, none⟩) (er := 0) hKR)
  obtain ⟨pr, cr, er1, _, _⟩ := hI.shape
  obtain ⟨pk, ck, ek, _, _⟩ := hJ.shape
  rw [er1] at HKy ⊢
  rw [ek] at HKy HFi ⊢
  rw [hno] at HFi
  generalize posK s.tabs[i] k = pos at *
  generalize (s.tabs[i]).b = tb at *
  clear h hlen hB hI hJ hnk hKR er1 ek ht hok hno hr hi hvk
  generalize s.z = z at *
  generalize r.items.length = nr at *
  generalize k.items.length = nk at *
  generalize r.f = fr at *
  generalize k.f = fk at *
  obtain ⟨rk, ri, rg, rn, rf, ra, rb, rs⟩ := fr
  obtain ⟨kk, ki, kg, kn, kf, ka, kb, ks⟩ := fk
  unfold aggV at *
  dsimp only at *
  have hsz9 : (Tryz.prog.info? 24).map (·.size) = some 9 := by kernel_rfl
  obtain ⟨hb0, hs1, hz4, hz5, hz6⟩ := three_heap w (.cells #[.int .i64 rk, .int .i64 ri, .int .i64 rg, .string rn, .string rf, .int .i64 ra, .slice pr nr cr, .string rb, .int .i64 rs] 24) (.cells #[.int .i64 kk, .int .i64 ki, .int .i64 kg, .string kn, .string kf, .int .i64 ka, .slice pk nk ck, .string kb, .int .i64 ks] 24) (.cells #[.int .i64 0, .int .i64 0, .int .i64 0, .string ⟨#[]⟩, .string ⟨#[]⟩, .int .i64 0, .slice none 0 0, .string ⟨#[]⟩, .int .i64 0] 24)
  go_enter Tryz.func32, Tryz.ntmps32
  go_upto_region 1 with (fail)
  generalize (((w.alloc (.cells #[.int .i64 rk, .int .i64 ri, .int .i64 rg, .string rn, .string rf, .int .i64 ra, .slice pr nr cr, .string rb, .int .i64 rs] 24)).alloc (.cells #[.int .i64 kk, .int .i64 ki, .int .i64 kg, .string kn, .string kf, .int .i64 ka, .slice pk nk ck, .string kb, .int .i64 ks] 24)).alloc (.cells #[.int .i64 0, .int .i64 0, .int .i64 0, .string ⟨#[]⟩, .string ⟨#[]⟩, .int .i64 0, .slice none 0 0, .string ⟨#[]⟩, .int .i64 0] 24)) = W1 at *
  have HL4 := Lib.hid (row_rng hz4)
  have HL5 := Lib.hid (row_rng hz5)
  have HZ5 := Lib.hid hz5
  have HZ6 := Lib.hid hz6
  have HB0 := Lib.hid hb0
  clear hz4 hz5 hz6 hb0
  go_wp2_with (first
    | (refine wpList_load_mid rfl 24 (.tmp 4) rfl w.heap.size 0 rfl [.int .i64 rk, .int .i64 ri, .int .i64 rg, .string rn, .string rf, .int .i64 ra, .slice pr nr cr, .string rb, .int .i64 rs] _ HL4.out Tryz.underlying24 rfl hsz9 ?_)
    | (refine wpList_load_mid rfl 24 (.tmp 5) rfl (w.heap.size + 1) 0 rfl [.int .i64 kk, .int .i64 ki, .int .i64 kg, .string kn, .string kf, .int .i64 ka, .slice pk nk ck, .string kb, .int .i64 ks] _ HL5.out Tryz.underlying24 rfl hsz9 ?_))
  refine (HKy.out _ HB0.out).mono ?_
  rintro e w2 ⟨rfl, hb2⟩
  have HB2 := Lib.hid (HB0.out.trans (hb2.mono HB0.out.size))
  have HW2 := Lib.hid hb2
  clear HL4 HL5 hb2 HKy HB0
  have hb5 := HB2.out
  have hz5 := (HW2.out.block (w.heap.size + 1) (by omega)).trans HZ5.out
  have HL5 := Lib.hid (row_rng hz5)
  clear hb5 hz5
  go_wp2_with (first
    | (refine wpList_load_mid rfl 24 (.tmp 5) rfl (w.heap.size + 1) 0 rfl [.int .i64 kk, .int .i64 ki, .int .i64 kg, .string kn, .string kf, .int .i64 ka, .slice pk nk ck, .string kb, .int .i64 ks] _ HL5.out Tryz.underlying24 rfl hsz9 ?_))
  refine (HFi.out _ HB2.out).mono ?_
  rintro e w3 ⟨rfl, hb3⟩
  have HB3 := Lib.hid (HB2.out.trans (hb3.mono HB2.out.size))
  have HW3 := Lib.hid (HW2.out.trans (hb3.mono HW2.out.size))
  clear hb3 HB2 HW2 HL5 HFi
  have hz6 := (HW3.out.block (w.heap.size + 2) (by omega)).trans HZ6.out
  have hq6 := setRow_heap w3 (w.heap.size + 2) _ #[.int .i64 0, .int .i64 0, .int .i64 0, .string ⟨#[]⟩, .string ⟨#[]⟩, .int .i64 0, .slice none 0 0, .string ⟨#[]⟩, .int .i64 0] _ _ hz6
  have hbq := HB3.out.trans ((touch_setRow w3 (w.heap.size + 2) #[.int .i64 0, .int .i64 0, .int .i64 0, .string ⟨#[]⟩, .string ⟨#[]⟩, .int .i64 0, .slice none 0 0, .string ⟨#[]⟩, .int .i64 0]).below (fun q e => by omega) HB3.out.size)
  have HZ := Lib.hid hz6
  have HF := Lib.hid (And.intro (run_loadVar_mid (P := Tryz.prog) _ (w.heap.size + 2) 0 24 [.int .i64 0, .int .i64 0, .int .i64 0, .string ⟨#[]⟩, .string ⟨#[]⟩, .int .i64 0, .slice none 0 0, .string ⟨#[]⟩, .int .i64 0] _ (row_rng hq6) Tryz.underlying24 rfl hsz9) hbq)
  clear hz6 hq6 hbq
  go_wp2_with (first
    | (refine wpList_store_row rfl 24 (.tmp 6) (.tmp 32) rfl (w.heap.size + 2) #[.int .i64 0, .int .i64 0, .int .i64 0, .string ⟨#[]⟩, .string ⟨#[]⟩, .int .i64 0, .slice none 0 0, .string ⟨#[]⟩, .int .i64 0] rfl rfl 24 _ HZ.out hsz9 rfl zoneA ?_))
  (try simp only [Exit.inBlock, Exit.then])
  obtain ⟨hl6, hbp⟩ := HF.out
  refine bodyPost_ret (v := .tuple #[.agg #[.int .i64 0, .int .i64 0, .int .i64 0, .string ⟨#[]⟩, .string ⟨#[]⟩, .int .i64 0, .slice none 0 0, .string ⟨#[]⟩, .int .i64 0], .bool false, .int .i64 0]) ?_ rfl ⟨rfl, hbp⟩
  have hA : ∀ (a : Addr) (w : World), (asAddr (.pointer (some a))).run Tryz.prog w = .ok a w := fun _ _ => rfl
  rw [results_c2 rfl]
  simp [hA, hl6, Result.andThen]
theorem get32y (h : TbAt w B F s) (hlen : s.tabs.length ≤ 1000) {r k : Tm (N + 1)} {ur uk : Value} {B2 : Nat} (hB : B2 ≤ w.heap.size) (hI : ItemsAt w B2 N ur r.items) (hJ : ItemsAt w B2 N uk k.items) (hnk : nodesT k ≤ 100000000) (hvk : validT k = true) {i : Nat} (hi : i < s.tabs.length) (hr : refAt s.tabs r = some i) (hok : FindOK s.tabs[i] k) (hyes : hasK s.tabs[i] k = true) (hp : posK s.tabs[i] k < (s.tabs[i]).rows.length) (hnv : nodesT ((s.tabs[i]).rows[posK s.tabs[i] k]).v ≤ 100000000) :
    Calls Tryz.prog 32 #[.pointer (some ⟨s.z, 0, none⟩), aggV r.f ur, aggV k.f uk] w (GetP ((s.tabs[i]).rows[posK s.tabs[i] k]).v w) := by
  have ht := h.tabs _ (List.getElem_mem hi)
  have hKR : KeyR s.tabs r k (some ⟨(s.tabs[i]).b, 0, none⟩) 0 := .inr ⟨hvk, .inr ⟨i, hi, hr, rfl, rfl⟩⟩
  have HFi := Lib.hid (fun (W : World) (hW : Below w.heap.size w W) => find56 (ht.below hW h.fl) (fun g hg => Nat.lt_of_lt_of_le (h.fl g hg) hW.size) (Nat.le_trans hB hW.size) (hJ.below hW hB) (by omega) hok)
  have HKy := Lib.hid (fun (W : World) (hW : Below w.heap.size w W) => keyed55 (h.below hW) hlen (Nat.le_trans hB hW.size) (hI.below hW hB) (hJ.below hW hB) (by omega) (po := some ⟨(s.tabs[i]).b, 0, none⟩) (er := 0) hKR)
  obtain ⟨pr, cr, er1, _, _⟩ := hI.shape
  obtain ⟨pk, ck, ek, _, _⟩ := hJ.shape
  rw [er1] at HKy ⊢
  rw [ek] at HKy HFi ⊢
  rw [hyes] at HFi
  have hiv := (ht.irow _ (List.getElem_mem hp)).2
  have HC := Lib.hid (fun (W : World) (hW : Below w.heap.size w W) => copyAll N W w.heap.size ((s.tabs[i]).rows[posK s.tabs[i] k]).uv ((s.tabs[i]).rows[posK s.tabs[i] k]).v hW.size ((hiv.toAt h.fl).below hW (Nat.le_refl _)) hnv)
  obtain ⟨g, c, ev, hg, hx3, hcv, hx4⟩ := ht.rowc hp
  have htb := ht.lt
  have HRg : Hid (∀ W, Below w.heap.size w W → W.cell? ⟨(s.tabs[i]).b, 19, none⟩ = some (.slice (some ⟨g, 0, none⟩) (s.tabs[i]).rows.length c) ∧ W.rangeAt g (posK s.tabs[i] k * 19 + 9) (nineL ((s.tabs[i]).rows[posK s.tabs[i] k]).v.f ((s.tabs[i]).rows[posK s.tabs[i] k]).uv)) :=
    Lib.hid (fun W hW => ⟨by rw [← ev]; exact cell_keep hW htb (tab_cells ht.blk).2.2.2.1, rng_same (cells_rng hcv) (hW.block g hg)⟩)
  obtain ⟨pv, cv, e2, hx1, hx2⟩ := ItemsIn.shape hiv
  have hpz : (posK s.tabs[i] k : Int) < ((s.tabs[i]).rows.length : Int) := by omega
  have hlr := hok.len
  rw [e2] at HC HRg
  unfold GetP
  clear hcv e2 hiv hnv ev hok hx1 hx2 hx3 hx4
  generalize hvt : ((s.tabs[i]).rows[posK s.tabs[i] k]).v = vt at *
  clear hvt hp hr hyes hKR
  generalize posK s.tabs[i] k = pos at *
  generalize (s.tabs[i]).rows.length = n at *
  clear ht
  generalize (s.tabs[i]).b = tb at *
  clear h hlen hB hI hJ hnk er1 ek hi hvk
  generalize s.z = z at *
  generalize r.items.length = nr at *
  generalize k.items.length = nk at *
  generalize r.f = fr at *
  generalize k.f = fk at *
  generalize vt.items.length = nv at *
  generalize vt.items = vil at *
  generalize vt.f = fv at *
  obtain ⟨rk, ri, rg, rn, rf, ra, rb, rs⟩ := fr
  obtain ⟨kk, ki, kg, kn, kf, ka, kb, ks⟩ := fk
  obtain ⟨vk, vi, vg, vn, vf, va, vb, vs⟩ := fv
  unfold aggV at *
  unfold nineL at HRg
  dsimp only at *
  have hsz9 : (Tryz.prog.info? 24).map (·.size) = some 9 := by kernel_rfl
  obtain ⟨hb0, hs1, hz4, hz5, hz6⟩ := three_heap w (.cells #[.int .i64 rk, .int .i64 ri, .int .i64 rg, .string rn, .string rf, .int .i64 ra, .slice pr nr cr, .string rb, .int .i64 rs] 24) (.cells #[.int .i64 kk, .int .i64 ki, .int .i64 kg, .string kn, .string kf, .int .i64 ka, .slice pk nk ck, .string kb, .int .i64 ks] 24) (.cells #[.int .i64 0, .int .i64 0, .int .i64 0, .string ⟨#[]⟩, .string ⟨#[]⟩, .int .i64 0, .slice none 0 0, .string ⟨#[]⟩, .int .i64 0] 24)
  go_enter Tryz.func32, Tryz.ntmps32
  go_upto_region 1 with (fail)
  generalize (((w.alloc (.cells #[.int .i64 rk, .int .i64 ri, .int .i64 rg, .string rn, .string rf, .int .i64 ra, .slice pr nr cr, .string rb, .int .i64 rs] 24)).alloc (.cells #[.int .i64 kk, .int .i64 ki, .int .i64 kg, .string kn, .string kf, .int .i64 ka, .slice pk nk ck, .string kb, .int .i64 ks] 24)).alloc (.cells #[.int .i64 0, .int .i64 0, .int .i64 0, .string ⟨#[]⟩, .string ⟨#[]⟩, .int .i64 0, .slice none 0 0, .string ⟨#[]⟩, .int .i64 0] 24)) = W1 at *
  have HL4 := Lib.hid (row_rng hz4)
  have HL5 := Lib.hid (row_rng hz5)
  have HZ5 := Lib.hid hz5
  have HZ6 := Lib.hid hz6
  have HB0 := Lib.hid hb0
  clear hz4 hz5 hz6 hb0
  go_wp2_with (first
    | (refine wpList_load_mid rfl 24 (.tmp 4) rfl w.heap.size 0 rfl [.int .i64 rk, .int .i64 ri, .int .i64 rg, .string rn, .string rf, .int .i64 ra, .slice pr nr cr, .string rb, .int .i64 rs] _ HL4.out Tryz.underlying24 rfl hsz9 ?_)
    | (refine wpList_load_mid rfl 24 (.tmp 5) rfl (w.heap.size + 1) 0 rfl [.int .i64 kk, .int .i64 ki, .int .i64 kg, .string kn, .string kf, .int .i64 ka, .slice pk nk ck, .string kb, .int .i64 ks] _ HL5.out Tryz.underlying24 rfl hsz9 ?_))
  refine (HKy.out _ HB0.out).mono ?_
  rintro e w2 ⟨rfl, hb2⟩
  have HB2 := Lib.hid (HB0.out.trans (hb2.mono HB0.out.size))
  have HW2 := Lib.hid hb2
  clear HL4 HL5 hb2 HKy HB0
  have hb5 := HB2.out
  have hz5 := (HW2.out.block (w.heap.size + 1) (by omega)).trans HZ5.out
  have HL5 := Lib.hid (row_rng hz5)
  clear hb5 hz5
  go_wp2_with (first
    | (refine wpList_load_mid rfl 24 (.tmp 5) rfl (w.heap.size + 1) 0 rfl [.int .i64 kk, .int .i64 ki, .int .i64 kg, .string kn, .string kf, .int .i64 ka, .slice pk nk ck, .string kb, .int .i64 ks] _ HL5.out Tryz.underlying24 rfl hsz9 ?_))
  refine (HFi.out _ HB2.out).mono ?_
  rintro e w3 ⟨rfl, hb3⟩
  have HB3 := Lib.hid (HB2.out.trans (hb3.mono HB2.out.size))
  have HW3 := Lib.hid (HW2.out.trans (hb3.mono HW2.out.size))
  clear hb3 HB2 HW2 HL5 HFi
  obtain ⟨hc19, l7⟩ := HRg.out _ HB3.out
  have HL7 := Lib.hid l7
  clear l7
  go_wp2_with (first
    | (refine wpList_load_mid rfl 24 (.tmp 39) rfl g (pos * 19 + 9) rfl [.int .i64 vk, .int .i64 vi, .int .i64 vg, .string vn, .string vf, .int .i64 va, .slice pv nv cv, .string vb, .int .i64 vs] _ HL7.out Tryz.underlying24 rfl hsz9 ?_))
  refine (HC.out _ HB3.out).mono ?_
  rintro e w4 ⟨F1, g1, rfl, hN, _⟩
  dsimp only [aggV]
  have hN1 := NewI.of (w0 := W1) hN HW3.out.size
  have hbW := HW3.out.trans (hN.below.mono HW3.out.size)
  have hbd := HB3.out.trans (hN.below.mono HB3.out.size)
  have hz6 := (hbW.block (w.heap.size + 2) (by omega)).trans HZ6.out
  have hq6 := setRow_heap w4 (w.heap.size + 2) _ #[.int .i64 vk, .int .i64 vi, .int .i64 vg, .string vn, .string vf, .int .i64 va, .slice (some ⟨g1, 0, none⟩) vil.length vil.length, .string vb, .int .i64 vs] _ _ hz6
  have hbq := hbd.trans ((touch_setRow w4 (w.heap.size + 2) #[.int .i64 vk, .int .i64 vi, .int .i64 vg, .string vn, .string vf, .int .i64 va, .slice (some ⟨g1, 0, none⟩) vil.length vil.length, .string vb, .int .i64 vs]).below (fun q e => by omega) hbd.size)
  have hM1 := (hN1.touch (touch_setRow w4 (w.heap.size + 2) #[.int .i64 vk, .int .i64 vi, .int .i64 vg, .string vn, .string vf, .int .i64 va, .slice (some ⟨g1, 0, none⟩) vil.length vil.length, .string vb, .int .i64 vs]) (fun q e => by subst e; omega)).base (w0 := w) (by omega)
  have ho1 : (#[.int .i64 vk, .int .i64 vi, .int .i64 vg, .string vn, .string vf, .int .i64 va, .slice (some ⟨g1, 0, none⟩) vil.length vil.length, .string vb, .int .i64 vs] : Array Value).all (·.oneCell') = true := all_oneCell_toArray (nineL_one (f := ⟨vk, vi, vg, vn, vf, va, vb, vs⟩) (u := .slice (some ⟨g1, 0, none⟩) vil.length vil.length) rfl)
  have HZ := Lib.hid hz6
  have HF := Lib.hid (And.intro (run_loadVar_mid (P := Tryz.prog) _ (w.heap.size + 2) 0 24 [.int .i64 vk, .int .i64 vi, .int .i64 vg, .string vn, .string vf, .int .i64 va, .slice (some ⟨g1, 0, none⟩) vil.length vil.length, .string vb, .int .i64 vs] _ (row_rng hq6) Tryz.underlying24 rfl hsz9) (And.intro hbq hM1))
  clear hz6 hq6 hbq hM1 hN1 hN hbW hbd
  go_wp2_with (first
    | (refine wpList_store_row rfl 24 (.tmp 6) (.tmp 41) rfl (w.heap.size + 2) #[.int .i64 vk, .int .i64 vi, .int .i64 vg, .string vn, .string vf, .int .i64 va, .slice (some ⟨g1, 0, none⟩) vil.length vil.length, .string vb, .int .i64 vs] rfl rfl 24 _ HZ.out hsz9 rfl ho1 ?_))
  (try simp only [Exit.inBlock, Exit.then])
  obtain ⟨hl6, hbp, hM⟩ := HF.out
  refine bodyPost_ret (v := .tuple #[.agg #[.int .i64 vk, .int .i64 vi, .int .i64 vg, .string vn, .string vf, .int .i64 va, .slice (some ⟨g1, 0, none⟩) vil.length vil.length, .string vb, .int .i64 vs], .bool true, .int .i64 0]) ?_ rfl ⟨F1, _, rfl, hbp, hM⟩
  have hA : ∀ (a : Addr) (w : World), (asAddr (.pointer (some a))).run Tryz.prog w = .ok a w := fun _ _ => rfl
  rw [results_c2 rfl]
  simp [hA, hl6, Result.andThen]
end
end Go.Proofs.YtfbggmbmgohiiaaGreat.tb
/- Owner; row and First where there is none. Conditions: the object and the terms lie in memory. -/
namespace Go.Proofs.YtfbggmbmgohiiaaGreat.tb
open Go.RowKit mem rec tm names
set_option linter.unusedVariables false
set_option linter.unusedSimpArgs false
set_option maxHeartbeats 4000000
set_option maxRecDepth 100000
section
variable {N : Nat} {w w' : World} {B : Nat} {F : Nat → Prop} {s : TbSt N}
end
end Go.Proofs.YtfbggmbmgohiiaaGreat.tb
/- Put and Make, where they fail. Conditions: the object and the terms lie in memory. -/
namespace Go.Proofs.YtfbggmbmgohiiaaGreat.tb
open Go.RowKit mem rec tm names
set_option linter.unusedVariables false
set_option linter.unusedSimpArgs false
set_option maxHeartbeats 4000000
set_option maxRecDepth 100000
section
variable {N : Nat} {w w' : World} {B : Nat} {F : Nat → Prop} {s : TbSt N}
theorem put24v (h : TbAt w B F s) (hlen : s.tabs.length ≤ 1000) {r k v : Tm (N + 1)} {ur uk uv : Value} {B2 : Nat} (hBw : B2 ≤ w.heap.size) (hI : ItemsAt w B2 N ur r.items) (hJ : ItemsAt w B2 N uk k.items) (hV : ItemsAt w B2 N uv v.items) (hnk : nodesT k ≤ 100000000) (hnv : nodesT v ≤ 100000000) (hvv : validT v = false) :
    Calls Tryz.prog 24 #[.pointer (some ⟨s.z, 0, none⟩), aggV r.f ur, aggV k.f uk, aggV v.f uv] w fun e w' => e = .returned (.int .i64 2) ∧ Below w.heap.size w w' := by
  have HV := Lib.hid (fun (W : World) (hW : Below w.heap.size w W) => ValidTm (ofAll N) W B2 uv v (Nat.le_trans hBw hW.size) (hV.below hW hBw) (by omega))
  have HO := Lib.hid (fun (W : World) (hW : Below w.heap.size w W) => two_cells (h.below hW).obj)
  obtain ⟨pr, cr, er1, _, _⟩ := hI.shape
  obtain ⟨pk, ck, ek, _, _⟩ := hJ.shape
  obtain ⟨pv, cv, ev, _, _⟩ := hV.shape
  obtain ⟨pw, cw, ew, _, _⟩ := h.l.shape
  rw [ew] at HO
  clear h hlen hI hJ hV hnk hnv hBw 
  generalize s.z = z at *
  rw [hvv] at HV
  rw [er1] 
  rw [ek] 
  rw [ev] at HV ⊢
  generalize r.items.length = nr at *
  generalize k.items.length = nk at *
  generalize v.items.length = nv at *
  generalize r.f = fr at *
  generalize k.f = fk at *
  generalize v.f = fv at *
  clear er1 ek ev hvv ew
  obtain ⟨rk, ri, rg, rn, rf, ra, rb, rs⟩ := fr
  obtain ⟨kk, ki, kg, kn, kf, ka, kb, ks⟩ := fk
  obtain ⟨vk, vi, vg, vn, vf, va, vb, vs⟩ := fv
  unfold aggV at *
  unfold BPost at HV
  dsimp only at *
  have hsz9 : (Tryz.prog.info? 24).map (·.size) = some 9 := by kernel_rfl
  obtain ⟨hb0, hX0⟩ := three_boxes w (.cells #[.int .i64 rk, .int .i64 ri, .int .i64 rg, .string rn, .string rf, .int .i64 ra, .slice pr nr cr, .string rb, .int .i64 rs] 24) (.cells #[.int .i64 kk, .int .i64 ki, .int .i64 kg, .string kn, .string kf, .int .i64 ka, .slice pk nk ck, .string kb, .int .i64 ks] 24) (.cells #[.int .i64 vk, .int .i64 vi, .int .i64 vg, .string vn, .string vf, .int .i64 va, .slice pv nv cv, .string vb, .int .i64 vs] 24) (x1 := [.int .i64 rk, .int .i64 ri, .int .i64 rg, .string rn, .string rf, .int .i64 ra, .slice pr nr cr, .string rb, .int .i64 rs]) (x2 := [.int .i64 kk, .int .i64 ki, .int .i64 kg, .string kn, .string kf, .int .i64 ka, .slice pk nk ck, .string kb, .int .i64 ks]) (x3 := [.int .i64 vk, .int .i64 vi, .int .i64 vg, .string vn, .string vf, .int .i64 va, .slice pv nv cv, .string vb, .int .i64 vs]) rfl rfl rfl (S := fun q => q < w.heap.size) (fun _ q => q)
  go_enter Tryz.func24, Tryz.ntmps24
  go_upto_region 1 with (fail)
  generalize (((w.alloc (.cells #[.int .i64 rk, .int .i64 ri, .int .i64 rg, .string rn, .string rf, .int .i64 ra, .slice pr nr cr, .string rb, .int .i64 rs] 24)).alloc (.cells #[.int .i64 kk, .int .i64 ki, .int .i64 kg, .string kn, .string kf, .int .i64 ka, .slice pk nk ck, .string kb, .int .i64 ks] 24)).alloc (.cells #[.int .i64 vk, .int .i64 vi, .int .i64 vg, .string vn, .string vf, .int .i64 va, .slice pv nv cv, .string vb, .int .i64 vs] 24)) = W1 at *
  obtain ⟨_, _, l7⟩ := hX0 _ (TouchB.refl _ _)
  have HB0 := Lib.hid hb0
  have HX := Lib.hid hX0
  obtain ⟨o0, o1, of⟩ := HO.out _ hb0
  have y0 := l7 0 _ rfl
  have y1 := l7 1 _ rfl
  have y2 := l7 2 _ rfl
  have y3 := l7 3 _ rfl
  have y4 := l7 4 _ rfl
  have y5 := l7 5 _ rfl
  have y6 := l7 6 _ rfl
  have y7 := l7 7 _ rfl
  have y8 := l7 8 _ rfl
  simp only [Nat.reduceAdd] at y0 y1 y2 y3 y4 y5 y6 y7 y8
  clear hb0 hX0 l7
  go_wp2_with fail
  refine (HV.out _ HB0.out).mono ?_
  rintro e w2 ⟨rfl, hb2⟩
  have HB2 := Lib.hid (HB0.out.trans (hb2.mono HB0.out.size))
  have HT2 := Lib.hid ((TouchB.refl (fun q => q < w.heap.size) W1).ofBelow hb2 (Nat.le_refl _))
  obtain ⟨l5, l6, _⟩ := HX.out _ HT2.out
  clear y0 y1 y2 y3 y4 y5 y6 y7 y8 o0 o1 of hb2
  have HL5 := Lib.hid l5
  have HL6 := Lib.hid l6
  clear l5 l6
  go_wp2_with fail
  go_ret
  exact ⟨rfl, HB2.out⟩
theorem put24e (h : TbAt w B F s) (hlen : s.tabs.length ≤ 1000) {r k v : Tm (N + 1)} {ur uk uv : Value} {B2 : Nat} (hBw : B2 ≤ w.heap.size) (hI : ItemsAt w B2 N ur r.items) (hJ : ItemsAt w B2 N uk k.items) (hV : ItemsAt w B2 N uv v.items) (hnk : nodesT k ≤ 100000000) (hnv : nodesT v ≤ 100000000) (hvv : validT v = true) {er : Int} (he : er ≠ 0) (hKR : KeyR s.tabs r k none er) :
    Calls Tryz.prog 24 #[.pointer (some ⟨s.z, 0, none⟩), aggV r.f ur, aggV k.f uk, aggV v.f uv] w fun e w' => e = .returned (.int .i64 er) ∧ Below w.heap.size w w' := by
  have HV := Lib.hid (fun (W : World) (hW : Below w.heap.size w W) => ValidTm (ofAll N) W B2 uv v (Nat.le_trans hBw hW.size) (hV.below hW hBw) (by omega))
  have HKy := Lib.hid (fun (W : World) (hW : Below w.heap.size w W) => keyed55 (h.below hW) hlen (Nat.le_trans hBw hW.size) (hI.below hW hBw) (hJ.below hW hBw) (by omega) hKR)
  have HO := Lib.hid (fun (W : World) (hW : Below w.heap.size w W) => two_cells (h.below hW).obj)
  obtain ⟨pr, cr, er1, _, _⟩ := hI.shape
  obtain ⟨pk, ck, ek, _, _⟩ := hJ.shape
  obtain ⟨pv, cv, ev, _, _⟩ := hV.shape
  obtain ⟨pw, cw, ew, _, _⟩ := h.l.shape
  rw [ew] at HO
  clear h hlen hI hJ hV hnk hnv hBw hKR
  generalize s.z = z at *
  rw [hvv] at HV
  rw [er1] at HKy ⊢
  rw [ek] at HKy ⊢
  rw [ev] at HV ⊢
  generalize r.items.length = nr at *
  generalize k.items.length = nk at *
  generalize v.items.length = nv at *
  generalize r.f = fr at *
  generalize k.f = fk at *
  generalize v.f = fv at *
  clear er1 ek ev hvv ew
  obtain ⟨rk, ri, rg, rn, rf, ra, rb, rs⟩ := fr
  obtain ⟨kk, ki, kg, kn, kf, ka, kb, ks⟩ := fk
  obtain ⟨vk, vi, vg, vn, vf, va, vb, vs⟩ := fv
  unfold aggV at *
  unfold BPost at HV
  dsimp only at *
  have hsz9 : (Tryz.prog.info? 24).map (·.size) = some 9 := by kernel_rfl
  obtain ⟨hb0, hX0⟩ := three_boxes w (.cells #[.int .i64 rk, .int .i64 ri, .int .i64 rg, .string rn, .string rf, .int .i64 ra, .slice pr nr cr, .string rb, .int .i64 rs] 24) (.cells #[.int .i64 kk, .int .i64 ki, .int .i64 kg, .string kn, .string kf, .int .i64 ka, .slice pk nk ck, .string kb, .int .i64 ks] 24) (.cells #[.int .i64 vk, .int .i64 vi, .int .i64 vg, .string vn, .string vf, .int .i64 va, .slice pv nv cv, .string vb, .int .i64 vs] 24) (x1 := [.int .i64 rk, .int .i64 ri, .int .i64 rg, .string rn, .string rf, .int .i64 ra, .slice pr nr cr, .string rb, .int .i64 rs]) (x2 := [.int .i64 kk, .int .i64 ki, .int .i64 kg, .string kn, .string kf, .int .i64 ka, .slice pk nk ck, .string kb, .int .i64 ks]) (x3 := [.int .i64 vk, .int .i64 vi, .int .i64 vg, .string vn, .string vf, .int .i64 va, .slice pv nv cv, .string vb, .int .i64 vs]) rfl rfl rfl (S := fun q => q < w.heap.size) (fun _ q => q)
  go_enter Tryz.func24, Tryz.ntmps24
  go_upto_region 1 with (fail)
  generalize (((w.alloc (.cells #[.int .i64 rk, .int .i64 ri, .int .i64 rg, .string rn, .string rf, .int .i64 ra, .slice pr nr cr, .string rb, .int .i64 rs] 24)).alloc (.cells #[.int .i64 kk, .int .i64 ki, .int .i64 kg, .string kn, .string kf, .int .i64 ka, .slice pk nk ck, .string kb, .int .i64 ks] 24)).alloc (.cells #[.int .i64 vk, .int .i64 vi, .int .i64 vg, .string vn, .string vf, .int .i64 va, .slice pv nv cv, .string vb, .int .i64 vs] 24)) = W1 at *
  obtain ⟨_, _, l7⟩ := hX0 _ (TouchB.refl _ _)
  have HB0 := Lib.hid hb0
  have HX := Lib.hid hX0
  obtain ⟨o0, o1, of⟩ := HO.out _ hb0
  have y0 := l7 0 _ rfl
  have y1 := l7 1 _ rfl
  have y2 := l7 2 _ rfl
  have y3 := l7 3 _ rfl
  have y4 := l7 4 _ rfl
  have y5 := l7 5 _ rfl
  have y6 := l7 6 _ rfl
  have y7 := l7 7 _ rfl
  have y8 := l7 8 _ rfl
  simp only [Nat.reduceAdd] at y0 y1 y2 y3 y4 y5 y6 y7 y8
  clear hb0 hX0 l7
  go_wp2_with fail
  refine (HV.out _ HB0.out).mono ?_
  rintro e w2 ⟨rfl, hb2⟩
  have HB2 := Lib.hid (HB0.out.trans (hb2.mono HB0.out.size))
  have HT2 := Lib.hid ((TouchB.refl (fun q => q < w.heap.size) W1).ofBelow hb2 (Nat.le_refl _))
  obtain ⟨l5, l6, _⟩ := HX.out _ HT2.out
  clear y0 y1 y2 y3 y4 y5 y6 y7 y8 o0 o1 of hb2
  have HL5 := Lib.hid l5
  have HL6 := Lib.hid l6
  clear l5 l6
  go_wp2_with (first
    | (refine wpList_load_mid rfl 24 (.tmp 5) rfl w.heap.size 0 rfl [.int .i64 rk, .int .i64 ri, .int .i64 rg, .string rn, .string rf, .int .i64 ra, .slice pr nr cr, .string rb, .int .i64 rs] _ HL5.out Tryz.underlying24 rfl hsz9 ?_)
    | (refine wpList_load_mid rfl 24 (.tmp 6) rfl (w.heap.size + 1) 0 rfl [.int .i64 kk, .int .i64 ki, .int .i64 kg, .string kn, .string kf, .int .i64 ka, .slice pk nk ck, .string kb, .int .i64 ks] _ HL6.out Tryz.underlying24 rfl hsz9 ?_))
  refine (HKy.out _ HB2.out).mono ?_
  rintro e w3 ⟨rfl, hb3⟩
  have HB3 := Lib.hid (HB2.out.trans (hb3.mono HB2.out.size))
  clear hb3
  go_wp2_with fail
  go_ret
  exact ⟨rfl, HB3.out⟩
end
end Go.Proofs.YtfbggmbmgohiiaaGreat.tb
