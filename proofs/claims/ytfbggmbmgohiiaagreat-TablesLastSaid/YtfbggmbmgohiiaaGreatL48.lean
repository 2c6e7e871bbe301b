/- Texts of this seat, one behind the other: TbL. No condition beyond theirs. -/
import Derived.Laws.BytesString
import Derived.Laws.Cells
import Derived.Test.YtfbggmbmgohiiaaGreatL47
/- The reference's Put and Hash. Conditions: the term lies in memory. -/
namespace Go.Proofs.YtfbggmbmgohiiaaGreat.tb
open Go.RowKit mem rec tm names
set_option linter.unusedVariables false
set_option linter.unusedSimpArgs false
set_option maxHeartbeats 4000000
set_option maxRecDepth 100000
theorem fold_push : ∀ (l : List UInt8) (r : ByteArray), (l.map (fun b => (b.toNat : Int))).foldl (fun (r : ByteArray) (n : Int) => r.push (UInt8.ofNat n.toNat)) r = ⟨r.data ++ l.toArray⟩ := by
  intro l
  induction l with
  | nil => intro r; simp
  | cons a l ih =>
    intro r
    rw [List.map_cons, List.foldl_cons, ih]
    simp [ByteArray.push]
theorem bytes_to {l : List UInt8} {w : World} {B : Nat} {v : Value} (h : RecAt encB 1 w B v l) : (convert 86 9 v).run Tryz.prog w = .ok (.string ⟨l.toArray⟩) w := by
  obtain ⟨p, c, rfl, _, _, h3⟩ := h
  rw [run_convert_bytes_string w 86 9 5 p l.length c Tryz.underlying86 Tryz.underlying5 Tryz.underlying9]
  cases p with
  | none =>
    cases l with
    | nil => rfl
    | cons a l => obtain ⟨g, o, e, _⟩ := h3 (by simp); cases e
  | some a =>
    have h4 : (loadCells a l.length).run Tryz.prog w = .ok ((l.map (fun b => (b.toNat : Int))).map (Value.int .u8)).toArray w := by
      have := run_loadCells_list (P := Tryz.prog) (w := w) a ((l.map (fun b => (b.toNat : Int))).map (Value.int .u8)) (fun j u hj => by
        simp only [List.map_map, List.getElem?_map, Option.map_eq_some_iff] at hj
        obtain ⟨x, hx, rfl⟩ := hj
        obtain ⟨g, o, e, _, hc⟩ := h3 (by intro e; subst e; simp at hx)
        obtain rfl := Option.some.inj e
        have := hc j x hx 0 _ rfl
        rw [Addr.add_lit]
        simpa using this)
      simpa using this
    rw [run_bytesToString w a l.length c _ h4, fold_push]
    simp [ByteArray.empty, ByteArray.emptyWithCapacity]
    rfl
theorem cat131 (l : List UInt8) : (⟨#[131]⟩ : ByteArray) ++ ⟨l.toArray⟩ = ⟨(131 :: l).toArray⟩ := by
  apply ByteArray.ext
  rw [ByteArray.data_append]
  simp
theorem put47y {n : Nat} (w : World) (B : Nat) (v : Value) (t : Tm (n + 1)) (hB : B ≤ w.heap.size) (hI : ItemsAt w B n v t.items) (hv : validT t = true) :
    Calls Tryz.prog 47 #[aggV t.f v] w fun e w' => e = .returned (.tuple #[.string ⟨(131 :: encT t).toArray⟩, .int .i64 0]) ∧ Below w.heap.size w w' := by
  have hnod := nodes_valid hv
  have HV := Lib.hid (fun W (hb : Below w.heap.size w W) => RValid W B v t (Nat.le_trans hB hb.size) (hI.below hb hB) (by omega))
  rw [hv] at HV
  have hlen : (encT t).length ≤ 10000000 := by
    have h1 := encL_len n t.items (formed_items (valid_formed hv))
    have h2 := headB_len (valid_formed hv)
    have h4 : nodesT t = 1 + nodesL n t.items := rfl
    unfold encT
    rw [List.length_append]
    omega
  have HC := Lib.hid (fun W (hb : Below w.heap.size w W) => codeAll n W B v t (Nat.le_trans hB hb.size) (hI.below hb hB) (valid_formed hv) (by omega))
  generalize encT t = l at *
  obtain ⟨p, c, rfl, _, _⟩ := hI.shape
  generalize t.items.length = m at *
  generalize t.f = f at *
  clear hI hv hnod hB
  obtain ⟨fk, fi, fg, fn, ff, fa, fb, fs⟩ := f
  unfold aggV at *
  unfold BPost at HV
  dsimp only at HV HC ⊢
  have hb0 := belowA (Below.refl w.heap.size w) (cells9 ⟨fk, fi, fg, fn, ff, fa, fb, fs⟩ (.slice p m c)) (Nat.le_refl _)
  have HZ := Lib.hid (alloc_new w (cells9 ⟨fk, fi, fg, fn, ff, fa, fb, fs⟩ (.slice p m c)))
  have hz1 := (Array.getElem?_eq_some_iff.1 HZ.out).1
  have HB0 := Lib.hid hb0
  have HX := Lib.hid (fun (W' : World) (hs : W'.heap[w.heap.size]? = (w.alloc (cells9 ⟨fk, fi, fg, fn, ff, fa, fb, fs⟩ (.slice p m c))).heap[w.heap.size]?) => (nine_of (hs.trans HZ.out) : Nine W' w.heap.size ⟨fk, fi, fg, fn, ff, fa, fb, fs⟩ (.slice p m c)))
  have HZ1 := Lib.hid hz1
  unfold cells9 at HX HB0 HZ HZ1
  dsimp only at HX HB0 HZ HZ1
  clear hb0 hz1
  go_enter Tryz.func47, Tryz.ntmps47
  go_upto_region 1 with (fail)
  generalize (w.alloc (.cells #[.int .i64 fk, .int .i64 fi, .int .i64 fg, .string fn, .string ff, .int .i64 fa, .slice p m c, .string fb, .int .i64 fs] 24)) = W1 at *
  obtain ⟨x0, x1, x2, x3, x4, x5, x6, x7, x8, xf⟩ := HX.out W1 rfl
  dsimp only at x0 x1 x2 x3 x4 x5 x6 x7 x8
  go_wp2_with fail
  refine (HV.out _ HB0.out).mono ?_
  rintro e w2 ⟨rfl, hb2⟩
  obtain ⟨x0, x1, x2, x3, x4, x5, x6, x7, x8, xf⟩ := HX.out w2 (hb2.block _ HZ1.out)
  dsimp only at x0 x1 x2 x3 x4 x5 x6 x7 x8
  have HBw2 := Lib.hid (HB0.out.trans (hb2.mono HB0.out.size))
  clear hb2
  go_wp2_with fail
  refine (HC.out _ HBw2.out).mono ?_
  rintro e w3 ⟨v3, rfl, ho, hb⟩
  have hcv := bytes_to (ho.row (encB_ok _))
  obtain ⟨p3, c3, hv, _, _⟩ := ho.shape
  have hs2 : (⟨l.toArray⟩ : ByteArray).size = l.length := by show l.toArray.size = _; simp
  generalize l.length = q at hv hlen hs2
  subst hv
  have HB3 := Lib.hid (HBw2.out.trans (hb.mono HBw2.out.size))
  clear ho hb x0 x1 x2 x3 x4 x5 x6 x7 x8 xf
  go_wp2_with fail
  go_ret2
  exact ⟨by rw [cat131]; rfl, HB3.out⟩
theorem put47n {n : Nat} (w : World) (B : Nat) (v : Value) (t : Tm (n + 1)) (hB : B ≤ w.heap.size) (hI : ItemsAt w B n v t.items) (hss : 300 * (nodesT t : Int) ≤ 1000000000000) (hv : validT t = false) :
    Calls Tryz.prog 47 #[aggV t.f v] w fun e w' => e = .returned (.tuple #[.string ⟨#[]⟩, .int .i64 2]) ∧ Below w.heap.size w w' := by
  have HV := Lib.hid (fun W (hb : Below w.heap.size w W) => RValid W B v t (Nat.le_trans hB hb.size) (hI.below hb hB) hss)
  rw [hv] at HV
  obtain ⟨p, c, rfl, _, _⟩ := hI.shape
  generalize t.items.length = m at *
  generalize t.f = f at *
  clear hI hv hB hss
  obtain ⟨fk, fi, fg, fn, ff, fa, fb, fs⟩ := f
  unfold aggV at *
  unfold BPost at HV
  dsimp only at HV ⊢
  have HB0 := Lib.hid (belowA (Below.refl w.heap.size w) (cells9 ⟨fk, fi, fg, fn, ff, fa, fb, fs⟩ (.slice p m c)) (Nat.le_refl _))
  have hx := nine_of (alloc_new w (cells9 ⟨fk, fi, fg, fn, ff, fa, fb, fs⟩ (.slice p m c)))
  unfold cells9 at hx HB0
  dsimp only at hx HB0
  obtain ⟨x0, x1, x2, x3, x4, x5, x6, x7, x8, xf⟩ := hx
  dsimp only at x0 x1 x2 x3 x4 x5 x6 x7 x8
  go_enter Tryz.func47, Tryz.ntmps47
  go_wp2_with fail
  refine (HV.out _ HB0.out).mono ?_
  rintro e w2 ⟨rfl, hb2⟩
  have HBw2 := Lib.hid (HB0.out.trans (hb2.mono HB0.out.size))
  clear hb2 x0 x1 x2 x3 x4 x5 x6 x7 x8 xf
  go_wp2_with fail
  go_ret2
  exact ⟨rfl, HBw2.out⟩
theorem rhash13y {n : Nat} (w : World) (B : Nat) (v : Value) (t : Tm (n + 1)) (hB : B ≤ w.heap.size) (hI : ItemsAt w B n v t.items) (hv : validT t = true) :
    Calls Tryz.prog 13 #[aggV t.f v] w fun e w' => e = .returned (.int .u32 (hashB (131 :: encT t))) ∧ Below w.heap.size w w' := by
  have HP := Lib.hid (fun W (hb : Below w.heap.size w W) => put47y W B v t (Nat.le_trans hB hb.size) (hI.below hb hB) hv)
  have hlen : (131 :: encT t).length ≤ 10000000 := by
    have h1 := encL_len n t.items (formed_items (valid_formed hv))
    have h2 := headB_len (valid_formed hv)
    have h3 := nodes_valid hv
    have h4 : nodesT t = 1 + nodesL n t.items := rfl
    unfold encT
    simp
    omega
  generalize 131 :: encT t = l at *
  obtain ⟨p, c, rfl, _, _⟩ := hI.shape
  generalize t.items.length = m at *
  generalize t.f = f at *
  clear hI hv hB
  obtain ⟨fk, fi, fg, fn, ff, fa, fb, fs⟩ := f
  unfold aggV at *
  dsimp only at HP ⊢
  have HB0 := Lib.hid (belowA (Below.refl w.heap.size w) (cells9 ⟨fk, fi, fg, fn, ff, fa, fb, fs⟩ (.slice p m c)) (Nat.le_refl _))
  have hx := nine_of (alloc_new w (cells9 ⟨fk, fi, fg, fn, ff, fa, fb, fs⟩ (.slice p m c)))
  unfold cells9 at hx HB0
  dsimp only at hx HB0
  obtain ⟨x0, x1, x2, x3, x4, x5, x6, x7, x8, xf⟩ := hx
  dsimp only at x0 x1 x2 x3 x4 x5 x6 x7 x8
  go_enter Tryz.func13, Tryz.ntmps13
  go_wp2_with fail
  refine (HP.out _ HB0.out).mono ?_
  rintro e w3 ⟨rfl, hb2⟩
  have HB3 := Lib.hid (HB0.out.trans (hb2.mono HB0.out.size))
  clear hb2 x0 x1 x2 x3 x4 x5 x6 x7 x8 xf
  have HLen := Lib.hid hlen
  have hsz : (⟨l.toArray⟩ : ByteArray).size = l.length := by show l.toArray.size = _; simp
  have H00 : Hid (HashI l w3 l.length (.int .u32 4294967295) (.int .i64 0) w3) := Lib.hid ⟨0, rfl, Nat.zero_le _, rfl, rfl, rfl⟩
  go_wp2_with fail
  go_loopg [5, 6] l.length (fun m sv iv wr => Hid (HashI l w3 m sv iv wr))
  case atStart => exact H00
  case round =>
    obtain ⟨i, rfl, hi, hm, rfl, rfl⟩ := hrel.out
    clear hrel H00
    have HM := Lib.hid hm
    clear hm
    by_cases hlt : i < l.length
    · have HTk := Lib.hid (crcL_take l i hlt)
      have hrg := crcL_rng (l.take i)
      generalize crcL (l.take i) = S at *
      have he : ((⟨l.toArray⟩ : ByteArray)[i]'(by rw [hsz]; exact hlt)) = l[i] := rfl
      go_wp2_with fail
      (try rw [he])
      clear he
      generalize l[i] = ch at *
      have hch : (ch.toNat : Int) % 4294967296 = ch.toNat := by have := ch.toNat_lt; omega
      have hxr := xor_rng S ch.toNat
      have H01 : Hid (BitI (bits .xor .u32 S ch.toNat) wr 8 (.int .u32 (bits .xor .u32 S ch.toNat)) (.int .i64 0) wr) := Lib.hid ⟨0, rfl, by decide, rfl, rfl, rfl⟩
      rw [hch]
      obtain ⟨s, hs⟩ : ∃ s, bits .xor .u32 S ch.toNat = s := ⟨_, rfl⟩
      rw [hs] at hxr H01 ⊢
      have HS := Lib.hid hs
      clear hs hch hrg
      go_loopg [5, 7] 8 (fun m sv iv wq => Hid (BitI s wr m sv iv wq))
      case atStart => exact H01
      case round =>
        obtain ⟨j, rfl, hj, hm, rfl, rfl⟩ := hrel.out
        clear hrel H01
        have HMj := Lib.hid hm
        clear hm
        by_cases hlj : j < 8
        · obtain ⟨r0, r1⟩ := crcN_rng j hxr.1 hxr.2
          have HSn := Lib.hid (crcN_snoc j s)
          generalize crcN j s = q at *
          have htm : q.tmod 2 = q % 2 := Int.tmod_eq_emod_of_nonneg r0
          have htd : q.tdiv 2 = q / 2 := Int.tdiv_eq_ediv_of_nonneg r0
          by_cases hq : q % 2 = 1
          · have HO := Lib.hid (crc_odd hq)
            rw [hq] at htm
            go_wp2_with fail
            go_roundg (8 - (j + 1))
            case measure => have := HMj.out; omega
            case rel => exact Lib.hid ⟨j + 1, by go_num, by omega, rfl, by rw [HSn.out, ← HO.out], rfl⟩
          · have hq0 : q % 2 = 0 := by omega
            have HO := Lib.hid (crc_even r0 r1 hq0)
            have HX := Lib.hid (xor_zero (q / 2) (by omega) (by omega))
            rw [hq0] at htm
            go_wp2_with fail
            go_roundg (8 - (j + 1))
            case measure => have := HMj.out; omega
            case rel => exact Lib.hid ⟨j + 1, by go_num, by omega, rfl, by rw [HSn.out, ← HO.out, HX.out], rfl⟩
        · obtain rfl : j = 8 := by omega
          go_wp2_with fail
          go_roundg (l.length - (i + 1))
          case measure => have := HM.out; omega
          case rel => exact Lib.hid ⟨i + 1, by go_num, by omega, rfl, by rw [HTk.out]; unfold crcB; rw [HS.out], rfl⟩
    · obtain rfl : i = l.length := by omega
      rw [List.take_length]
      go_wp2_with fail
      go_ret
      exact ⟨rfl, HB3.out⟩
theorem rhash13n {n : Nat} (w : World) (B : Nat) (v : Value) (t : Tm (n + 1)) (hB : B ≤ w.heap.size) (hI : ItemsAt w B n v t.items) (hss : 300 * (nodesT t : Int) ≤ 1000000000000) (hv : validT t = false) :
    Calls Tryz.prog 13 #[aggV t.f v] w fun e w' => e = .returned (.int .u32 0) ∧ Below w.heap.size w w' := by
  have HP := Lib.hid (fun W (hb : Below w.heap.size w W) => put47n W B v t (Nat.le_trans hB hb.size) (hI.below hb hB) hss hv)
  obtain ⟨p, c, rfl, _, _⟩ := hI.shape
  generalize t.items.length = m at *
  generalize t.f = f at *
  clear hI hv hB hss
  obtain ⟨fk, fi, fg, fn, ff, fa, fb, fs⟩ := f
  unfold aggV at *
  dsimp only at HP ⊢
  have HB0 := Lib.hid (belowA (Below.refl w.heap.size w) (cells9 ⟨fk, fi, fg, fn, ff, fa, fb, fs⟩ (.slice p m c)) (Nat.le_refl _))
  have hx := nine_of (alloc_new w (cells9 ⟨fk, fi, fg, fn, ff, fa, fb, fs⟩ (.slice p m c)))
  unfold cells9 at hx HB0
  dsimp only at hx HB0
  obtain ⟨x0, x1, x2, x3, x4, x5, x6, x7, x8, xf⟩ := hx
  dsimp only at x0 x1 x2 x3 x4 x5 x6 x7 x8
  go_enter Tryz.func13, Tryz.ntmps13
  go_wp2_with fail
  refine (HP.out _ HB0.out).mono ?_
  rintro e w2 ⟨rfl, hb2⟩
  have HBw2 := Lib.hid (HB0.out.trans (hb2.mono HB0.out.size))
  clear hb2 x0 x1 x2 x3 x4 x5 x6 x7 x8 xf
  go_wp2_with fail
  go_ret
  exact ⟨rfl, HBw2.out⟩
theorem RHash13 {n : Nat} (w : World) (B : Nat) (v : Value) (t : Tm (n + 1)) (hB : B ≤ w.heap.size) (hI : ItemsAt w B n v t.items) (hss : 300 * (nodesT t : Int) ≤ 1000000000000) :
    Calls Tryz.prog 13 #[aggV t.f v] w fun e w' => e = .returned (.int .u32 (hashT t)) ∧ Below w.heap.size w w' := by
  cases hv : validT t with
  | false => unfold hashT; rw [hv]; exact rhash13n w B v t hB hI hss hv
  | true => unfold hashT; rw [hv]; exact rhash13y w B v t hB hI hv
end Go.Proofs.YtfbggmbmgohiiaaGreat.tb
