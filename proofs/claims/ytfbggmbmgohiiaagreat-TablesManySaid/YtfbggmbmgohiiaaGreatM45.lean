/- Texts of this seat, one behind the other: TbL, TeC, TeD, TeE. No condition beyond theirs. -/
import Derived.Laws.BytesString
import Derived.Laws.Cells
import Derived.Test.YtfbggmbmgohiiaaGreatM44
import Derived.Test.YtfbggmbmgohiiaaGreatM43
import Derived.Test.YtfbggmbmgohiiaaGreatM21
import Derived.Test.YtfbggmbmgohiiaaGreatM18
set_option linter.unusedSimpArgs false
set_option linter.unusedVariables false
set_option maxHeartbeats 4000000
set_option maxRecDepth 100000
namespace Go.Proofs.YtfbggmbmgohiiaaGreat.tb
open Go.RowKit mem rec tm names
theorem fold_push : ∀ (l : List UInt8) (r : ByteArray), (l.map (fun b => (b.toNat : Int))).foldl (fun (r : ByteArray) (n : Int) => r.push (UInt8.ofNat n.toNat)) r = ⟨r.data ++ l.toArray⟩ := by
  intro l
  induction l with
  | nil => intro r; simp
  | cons a l ih =>
    intro r
    rw [List.map_cons, List.foldl_cons, ih]
    simp [ByteArray.push]
theorem bytes_to {l : List UInt8} {w : World} {B : Nat} {v : Value} (h : RecAt encB 1 w B v l) : (convert 86 9 v).run Tryz.prog w = .ok (.string ⟨l.toArray⟩) w := by
  obtain ⟨p, c, rfl, _, _, h3⟩ := h
  rw [run_convert_bytes_string w 86 9 5 p l.length c Tryz.underlying86 Tryz.underlying5 Tryz.underlying9]
  cases p with
  | none =>
    cases l with
    | nil => rfl
    | cons a l => obtain ⟨g, o, e, _⟩ := h3 (by simp); cases e
  | some a =>
    have h4 : (loadCells a l.length).run Tryz.prog w = .ok ((l.map (fun b => (b.toNat : Int))).map (Value.int .u8)).toArray w := by
      have := run_loadCells_list (P := Tryz.prog) (w := w) a ((l.map (fun b => (b.toNat : Int))).map (Value.int .u8)) (fun j u hj => by
        simp only [List.map_map, List.getElem?_map, Option.map_eq_some_iff] at hj
        obtain ⟨x, hx, rfl⟩ := hj
        obtain ⟨g, o, e, _, hc⟩ := h3 (by intro e; subst e; simp at hx)
        obtain rfl := Option.some.inj e
        have := hc j x hx 0 _ rfl
        rw [Addr.add_lit]
        simpa using this)
      simpa using this
    rw [run_bytesToString w a l.length c _ h4, fold_push]
    simp [ByteArray.empty, ByteArray.emptyWithCapacity]
    rfl
theorem cat131 (l : List UInt8) : (⟨#[131]⟩ : ByteArray) ++ ⟨l.toArray⟩ = ⟨(131 :: l).toArray⟩ := by
  apply ByteArray.ext
  rw [ByteArray.data_append]
  simp
theorem put47y {n : Nat} (w : World) (B : Nat) (v : Value) (t : Tm (n + 1)) (hB : B ≤ w.heap.size) (hI : ItemsAt w B n v t.items) (hv : validT t = true) :
    Calls Tryz.prog 47 #[aggV t.f v] w fun e w' => e = .returned (.tuple #[.string ⟨(131 :: encT t).toArray⟩, .int .i64 0]) ∧ Below w.heap.size w w' := by
  have hnod := nodes_valid hv
  have HV := Lib.hid (fun W (hb : Below w.heap.size w W) => RValid W B v t (Nat.le_trans hB hb.size) (hI.below hb hB) (by omega))
  rw [hv] at HV
  have hlen : (encT t).length ≤ 10000000 := by
    have h1 := encL_len n t.items (formed_items (valid_formed hv))
    have h2 := headB_len (valid_formed hv)
    have h4 : nodesT t = 1 + nodesL n t.items := rfl
    unfold encT
    rw [List.length_append]
    omega
  have HC := Lib.hid (fun W (hb : Below w.heap.size w W) => codeAll n W B v t (Nat.le_trans hB hb.size) (hI.below hb hB) (valid_formed hv) (by omega))
  generalize encT t = l at *
  obtain ⟨p, c, rfl, _, _⟩ := hI.shape
  generalize t.items.length = m at *
  generalize t.f = f at *
  clear hI hv hnod hB
  obtain ⟨fk, fi, fg, fn, ff, fa, fb, fs⟩ := f
  unfold aggV at *
  unfold BPost at HV
  dsimp only at HV HC ⊢
  have hb0 := belowA (Below.refl w.heap.size w) (cells9 ⟨fk, fi, fg, fn, ff, fa, fb, fs⟩ (.slice p m c)) (Nat.le_refl _)
  have HZ := Lib.hid (alloc_new w (cells9 ⟨fk, fi, fg, fn, ff, fa, fb, fs⟩ (.slice p m c)))
  have hz1 := (Array.getElem?_eq_some_iff.1 HZ.out).1
  have HB0 := Lib.hid hb0
  have HX := Lib.hid (fun (W' : World) (hs : W'.heap[w.heap.size]? = (w.alloc (cells9 ⟨fk, fi, fg, fn, ff, fa, fb, fs⟩ (.slice p m c))).heap[w.heap.size]?) => (nine_of (hs.trans HZ.out) : Nine W' w.heap.size ⟨fk, fi, fg, fn, ff, fa, fb, fs⟩ (.slice p m c)))
  have HZ1 := Lib.hid hz1
  unfold cells9 at HX HB0 HZ HZ1
  dsimp only at HX HB0 HZ HZ1
  clear hb0 hz1
  go_enter Tryz.func47, Tryz.ntmps47
  go_upto_region 1 with (fail)
  generalize (w.alloc (.cells #[.int .i64 fk, .int .i64 fi, .int .i64 fg, .string fn, .string ff, .int .i64 fa, .slice p m c, .string fb, .int .i64 fs] 24)) = W1 at *
  obtain ⟨x0, x1, x2, x3, x4, x5, x6, x7, x8, xf⟩ := HX.out W1 rfl
  dsimp only at x0 x1 x2 x3 x4 x5 x6 x7 x8
  go_wp2_with fail
  refine (HV.out _ HB0.out).mono ?_
  rintro e w2 ⟨rfl, hb2⟩
  obtain ⟨x0, x1, x2, x3, x4, x5, x6, x7, x8, xf⟩ := HX.out w2 (hb2.block _ HZ1.out)
  dsimp only at x0 x1 x2 x3 x4 x5 x6 x7 x8
  have HBw2 := Lib.hid (HB0.out.trans (hb2.mono HB0.out.size))
  clear hb2
  go_wp2_with fail
  refine (HC.out _ HBw2.out).mono ?_
  rintro e w3 ⟨v3, rfl, ho, hb⟩
  have hcv := bytes_to (ho.row (encB_ok _))
  obtain ⟨p3, c3, hv, _, _⟩ := ho.shape
  have hs2 : (⟨l.toArray⟩ : ByteArray).size = l.length := by show l.toArray.size = _; simp
  generalize l.length = q at hv hlen hs2
  subst hv
  have HB3 := Lib.hid (HBw2.out.trans (hb.mono HBw2.out.size))
  clear ho hb x0 x1 x2 x3 x4 x5 x6 x7 x8 xf
  go_wp2_with fail
  go_ret2
  exact ⟨by rw [cat131]; rfl, HB3.out⟩
theorem put47n {n : Nat} (w : World) (B : Nat) (v : Value) (t : Tm (n + 1)) (hB : B ≤ w.heap.size) (hI : ItemsAt w B n v t.items) (hss : 300 * (nodesT t : Int) ≤ 1000000000000) (hv : validT t = false) :
    Calls Tryz.prog 47 #[aggV t.f v] w fun e w' => e = .returned (.tuple #[.string ⟨#[]⟩, .int .i64 2]) ∧ Below w.heap.size w w' := by
  have HV := Lib.hid (fun W (hb : Below w.heap.size w W) => RValid W B v t (Nat.le_trans hB hb.size) (hI.below hb hB) hss)
  rw [hv] at HV
  obtain ⟨p, c, rfl, _, _⟩ := hI.shape
  generalize t.items.length = m at *
  generalize t.f = f at *
  clear hI hv hB hss
  obtain ⟨fk, fi, fg, fn, ff, fa, fb, fs⟩ := f
  unfold aggV at *
  unfold BPost at HV
  dsimp only at HV ⊢
  have HB0 := Lib.hid (belowA (Below.refl w.heap.size w) (cells9 ⟨fk, fi, fg, fn, ff, fa, fb, fs⟩ (.slice p m c)) (Nat.le_refl _))
  have hx := nine_of (alloc_new w (cells9 ⟨fk, fi, fg, fn, ff, fa, fb, fs⟩ (.slice p m c)))
  unfold cells9 at hx HB0
  dsimp only at hx HB0
  obtain ⟨x0, x1, x2, x3, x4, x5, x6, x7, x8, xf⟩ := hx
  dsimp only at x0 x1 x2 x3 x4 x5 x6 x7 x8
  go_enter Tryz.func47, Tryz.ntmps47
  go_wp2_with fail
  refine (HV.out _ HB0.out).mono ?_
  rintro e w2 ⟨rfl, hb2⟩
  have HBw2 := Lib.hid (HB0.out.trans (hb2.mono HB0.out.size))
  clear hb2 x0 x1 x2 x3 x4 x5 x6 x7 x8 xf
  go_wp2_with fail
  go_ret2
  exact ⟨rfl, HBw2.out⟩
theorem rhash13y {n : Nat} (w : World) (B : Nat) (v : Value) (t : Tm (n + 1)) (hB : B ≤ w.heap.size) (hI : ItemsAt w B n v t.items) (hv : validT t = true) :
    Calls Tryz.prog 13 #[aggV t.f v] w fun e w' => e = .returned (.int .u32 (hashB (131 :: encT t))) ∧ Below w.heap.size w w' := by
  have HP := Lib.hid (fun W (hb : Below w.heap.size w W) => put47y W B v t (Nat.le_trans hB hb.size) (hI.below hb hB) hv)
  have hlen : (131 :: encT t).length ≤ 10000000 := by
    have h1 := encL_len n t.items (formed_items (valid_formed hv))
    have h2 := headB_len (valid_formed hv)
    have h3 := nodes_valid hv
    have h4 : nodesT t = 1 + nodesL n t.items := rfl
    unfold encT
    simp
    omega
  generalize 131 :: encT t = l at *
  obtain ⟨p, c, rfl, _, _⟩ := hI.shape
  generalize t.items.length = m at *
  generalize t.f = f at *
  clear hI hv hB
  obtain ⟨fk, fi, fg, fn, ff, fa, fb, fs⟩ := f
  unfold aggV at *
  dsimp only at HP ⊢
  have HB0 := Lib.hid (belowA (Below.refl w.heap.size w) (cells9 ⟨fk, fi, fg, fn, ff, fa, fb, fs⟩ (.slice p m c)) (Nat.le_refl _))
  have hx := nine_of (alloc_new w (cells9 ⟨fk, fi, fg, fn, ff, fa, fb, fs⟩ (.slice p m c)))
  unfold cells9 at hx HB0
  dsimp only at hx HB0
  obtain ⟨x0, x1, x2, x3, x4, x5, x6, x7, x8, xf⟩ := hx
  dsimp only at x0 x1 x2 x3 x4 x5 x6 x7 x8
  go_enter Tryz.func13, Tryz.ntmps13
  go_wp2_with fail
  refine (HP.out _ HB0.out).mono ?_
  rintro e w3 ⟨rfl, hb2⟩
  have HB3 := Lib.hid (HB0.out.trans (hb2.mono HB0.out.size))
  clear hb2 x0 x1 x2 x3 x4 x5 x6 x7 x8 xf
  have HLen := Lib.hid hlen
  have hsz : (⟨l.toArray⟩ : ByteArray).size = l.length := by show l.toArray.size = _; simp
  have H00 : Hid (HashI l w3 l.length (.int .u32 4294967295) (.int .i64 0) w3) := Lib.hid ⟨0, rfl, Nat.zero_le _, rfl, rfl, rfl⟩
  go_wp2_with fail
  go_loopg [5, 6] l.length (fun m sv iv wr => Hid (HashI l w3 m sv iv wr))
  case atStart => exact H00
  case round =>
    obtain ⟨i, rfl, hi, hm, rfl, rfl⟩ := hrel.out
    clear hrel H00
    have HM := Lib.hid hm
    clear hm
    by_cases hlt : i < l.length
    · have HTk := Lib.hid (crcL_take l i hlt)
      have hrg := crcL_rng (l.take i)
      generalize crcL (l.take i) = S at *
      have he : ((⟨l.toArray⟩ : ByteArray)[i]'(by rw [hsz]; exact hlt)) = l[i] := rfl
      go_wp2_with fail
      (try rw [he])
      clear he
      generalize l[i] = ch at *
      have hch : (ch.toNat : Int) % 4294967296 = ch.toNat := by have := ch.toNat_lt; omega
      have hxr := xor_rng S ch.toNat
      have H01 : Hid (BitI (bits .xor .u32 S ch.toNat) wr 8 (.int .u32 (bits .xor .u32 S ch.toNat)) (.int .i64 0) wr) := Lib.hid ⟨0, rfl, by decide, rfl, rfl, rfl⟩
      rw [hch]
      obtain ⟨s, hs⟩ : ∃ s, bits .xor .u32 S ch.toNat = s := ⟨_, rfl⟩
      rw [hs] at hxr H01 ⊢
      have HS := Lib.hid hs
      clear hs hch hrg
      go_loopg [5, 7] 8 (fun m sv iv wq => Hid (BitI s wr m sv iv wq))
      case atStart => exact H01
      case round =>
        obtain ⟨j, rfl, hj, hm, rfl, rfl⟩ := hrel.out
        clear hrel H01
        have HMj := Lib.hid hm
        clear hm
        by_cases hlj : j < 8
        · obtain ⟨r0, r1⟩ := crcN_rng j hxr.1 hxr.2
          have HSn := Lib.hid (crcN_snoc j s)
          generalize crcN j s = q at *
          have htm : q.tmod 2 = q % 2 := Int.tmod_eq_emod_of_nonneg r0
          have htd : q.tdiv 2 = q / 2 := Int.tdiv_eq_ediv_of_nonneg r0
          by_cases hq : q % 2 = 1
          · have HO := Lib.hid (crc_odd hq)
            rw [hq] at htm
            go_wp2_with fail
            go_roundg (8 - (j + 1))
            case measure => have := HMj.out; omega
            case rel => exact Lib.hid ⟨j + 1, by go_num, by omega, rfl, by rw [HSn.out, ← HO.out], rfl⟩
          · have hq0 : q % 2 = 0 := by omega
            have HO := Lib.hid (crc_even r0 r1 hq0)
            have HX := Lib.hid (xor_zero (q / 2) (by omega) (by omega))
            rw [hq0] at htm
            go_wp2_with fail
            go_roundg (8 - (j + 1))
            case measure => have := HMj.out; omega
            case rel => exact Lib.hid ⟨j + 1, by go_num, by omega, rfl, by rw [HSn.out, ← HO.out, HX.out], rfl⟩
        · obtain rfl : j = 8 := by omega
          go_wp2_with fail
          go_roundg (l.length - (i + 1))
          case measure => have := HM.out; omega
          case rel => exact Lib.hid ⟨i + 1, by go_num, by omega, rfl, by rw [HTk.out]; unfold crcB; rw [HS.out], rfl⟩
    · obtain rfl : i = l.length := by omega
      rw [List.take_length]
      go_wp2_with fail
      go_ret
      exact ⟨rfl, HB3.out⟩
theorem rhash13n {n : Nat} (w : World) (B : Nat) (v : Value) (t : Tm (n + 1)) (hB : B ≤ w.heap.size) (hI : ItemsAt w B n v t.items) (hss : 300 * (nodesT t : Int) ≤ 1000000000000) (hv : validT t = false) :
    Calls Tryz.prog 13 #[aggV t.f v] w fun e w' => e = .returned (.int .u32 0) ∧ Below w.heap.size w w' := by
  have HP := Lib.hid (fun W (hb : Below w.heap.size w W) => put47n W B v t (Nat.le_trans hB hb.size) (hI.below hb hB) hss hv)
  obtain ⟨p, c, rfl, _, _⟩ := hI.shape
  generalize t.items.length = m at *
  generalize t.f = f at *
  clear hI hv hB hss
  obtain ⟨fk, fi, fg, fn, ff, fa, fb, fs⟩ := f
  unfold aggV at *
  dsimp only at HP ⊢
  have HB0 := Lib.hid (belowA (Below.refl w.heap.size w) (cells9 ⟨fk, fi, fg, fn, ff, fa, fb, fs⟩ (.slice p m c)) (Nat.le_refl _))
  have hx := nine_of (alloc_new w (cells9 ⟨fk, fi, fg, fn, ff, fa, fb, fs⟩ (.slice p m c)))
  unfold cells9 at hx HB0
  dsimp only at hx HB0
  obtain ⟨x0, x1, x2, x3, x4, x5, x6, x7, x8, xf⟩ := hx
  dsimp only at x0 x1 x2 x3 x4 x5 x6 x7 x8
  go_enter Tryz.func13, Tryz.ntmps13
  go_wp2_with fail
  refine (HP.out _ HB0.out).mono ?_
  rintro e w2 ⟨rfl, hb2⟩
  have HBw2 := Lib.hid (HB0.out.trans (hb2.mono HB0.out.size))
  clear hb2 x0 x1 x2 x3 x4 x5 x6 x7 x8 xf
  go_wp2_with fail
  go_ret
  exact ⟨rfl, HBw2.out⟩
theorem RHash13 {n : Nat} (w : World) (B : Nat) (v : Value) (t : Tm (n + 1)) (hB : B ≤ w.heap.size) (hI : ItemsAt w B n v t.items) (hss : 300 * (nodesT t : Int) ≤ 1000000000000) :
    Calls Tryz.prog 13 #[aggV t.f v] w fun e w' => e = .returned (.int .u32 (hashT t)) ∧ Below w.heap.size w w' := by
  cases hv : validT t with
  | false => unfold hashT; rw [hv]; exact rhash13n w B v t hB hI hss hv
  | true => unfold hashT; rw [hv]; exact rhash13y w B v t hB hI hv
theorem cells_row {w : World} {b : Nat} {x : List Value} {t : TypeId} (h : w.heap[b]? = some (.cells x.toArray t)) (k : Nat) (u : Value) (hu : x[k]? = some u) : w.cell? ⟨b, k, none⟩ = some u := by
  have := row_rng h k u hu
  rwa [Nat.zero_add] at this
section
variable {N : Nat} {w w' : World} {B y : Nat} {lv : Value} {T : List (RTb N)} {t : RTb N}
end
def absRR {N : Nat} (rows : List (RRw N)) : List (Tm (N + 1) × Tm (N + 1)) := rows.map (fun r => (r.k, r.v))
section
variable {N : Nat} {w w' : World} {B : Nat}
end
section
variable {N : Nat} {w W : World} {B y : Nat} {lv : Value} {T : List (RTb N)} {t : RTb N}
theorem flat_setR : ∀ (T : List (RTb N)) (i : Nat) (t : RTb N) (v' : Value) (rows' : List (RRw N)), T[i]? = some t → (T.flatMap rtL).set (i * 20 + 19) v' = (T.set i { t with vr := v', rows := rows' }).flatMap rtL
  | [], i, t, v', rows', h => by simp at h
  | a :: T, 0, t, v', rows', h => by
    simp at h
    subst h
    rw [List.set_cons_zero, List.flatMap_cons, List.flatMap_cons, Nat.zero_mul, Nat.zero_add]
    have hl : (rtL a).length = 20 := rfl
    rw [List.set_append_left _ _ (by omega)]
    rfl
  | a :: T, i + 1, t, v', rows', h => by
    rw [List.getElem?_cons_succ] at h
    rw [List.set_cons_succ, List.flatMap_cons, List.flatMap_cons]
    have hl : (rtL a).length = 20 := rfl
    rw [List.set_append_right _ _ (by omega), hl, show (i + 1) * 20 + 19 - 20 = i * 20 + 19 by omega, flat_setR T i t v' rows' h]
theorem RfAt.upd (h : RfAt w B y lv T) {g c : Nat} (hlv : lv = .slice (some ⟨g, 0, none⟩) T.length c) {i : Nat} (hi : T[i]? = some t) (hb : Below w.heap.size w W) {v' : Value} {rows' : List (RRw N)} (hown : RecOwn rrL 55 18 W w.heap.size v' rows') (hr : ∀ r ∈ rows', ItemsAt W B N r.uk r.k.items ∧ ItemsAt W B N r.uv r.v.items) :
    RfAt (W.setCell ⟨g, i * 20 + 19, none⟩ v') B y lv (T.set i { t with vr := v', rows := rows' }) ∧ TT refT3 B w (W.setCell ⟨g, i * 20 + 19, none⟩ v') := by
  have hW := h.below hb
  have hBw := h.blt
  obtain ⟨hlen, hz | ⟨g', cap, cur, hv, hbg, hg, hnc, hcm, hcs, htk⟩⟩ := hW.l
  · rw [hlv] at hz; simp at hz
  rw [hlv] at hv
  simp only [Value.slice.injEq, Option.some.injEq, Addr.mk.injEq, and_true, true_and] at hv
  obtain ⟨rfl, rfl⟩ := hv
  have hil : i < T.length := (List.getElem?_eq_some_iff.1 hi).1
  have hgw : g < w.heap.size := (h.l.lt (k := g) (by rw [hlv]; rfl)).2
  have htyg : tyOf w g = some 53 := ownTy h.l (by rw [hlv]; rfl)
  have hset : ∀ q, q ≠ g → (W.setCell ⟨g, i * 20 + 19, none⟩ v').heap[q]? = W.heap[q]? := fun q hq => Below.heap_setCell _ _ _ _ hq
  have hyg : y ≠ g := ty_ne (tyOf_of h.obj) htyg (by decide)
  have hlow : ∀ q, q < B → (W.setCell ⟨g, i * 20 + 19, none⟩ v').heap[q]? = W.heap[q]? := fun q hq => hset q (by omega)
  have hT : TT refT3 B w (W.setCell ⟨g, i * 20 + 19, none⟩ v') := TouchB.setCell ((TouchB.refl _ _).ofBelow hb (Nat.le_refl _)) _ _ (fun _ => ⟨hbg, 53, htyg, .inr (.inl rfl)⟩)
  have hflat := flat_setR T i t v' rows' hi
  refine ⟨⟨(hset y hyg).trans hW.obj, ?_, fun u hu => ?_, h.low⟩, hT⟩
  · have hls : (T.set i { t with vr := v', rows := rows' }).length = T.length := List.length_set
    unfold RecOwn
    refine ⟨?_, .inr ⟨g, c, cur.setIfInBounds (i * 20 + 19) v', ?_, hbg, set_block hg v', by rw [hls]; exact hnc, hcm, by rw [Array.size_setIfInBounds]; exact hcs, ?_⟩⟩
    · rw [← hflat, List.length_set, hls]; exact hlen
    · rw [hls]; exact hlv
    · rw [hls, Array.toList_setIfInBounds, List.take_set, htk, hflat]
  · rcases List.mem_or_eq_of_mem_set hu with hu | rfl
    · exact (hW.tabs u hu).keep hlow (fun q hq => hset q (ty_ne (ownTy (h.tabs u hu).rows hq) htyg (by decide)))
    · have ht := hW.tabs t (List.mem_of_getElem? hi)
      exact ⟨(hown.base (base' := B) (fun k hk => Nat.le_trans hBw (hown.lt hk).1)).same (fun q hq => hset q (by have := (hown.lt hq).1; omega)), ht.iref.same hlow, ht.iown.same hlow, fun r hr' => ⟨(hr r hr').1.same hlow, (hr r hr').2.same hlow⟩⟩
end
end Go.Proofs.YtfbggmbmgohiiaaGreat.tb
