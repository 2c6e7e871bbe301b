/- Several texts in one, one behind the other: LkLe. No condition beyond theirs. -/
import Derived.Test.YtnakbepcalciiaaGreatHl
import Derived.Test.YtnakbepcalciiaaGreatHm
import Derived.Test.YtnakbepcalciiaaGreatHn
import Derived.Test.YtnakbepcalciiaaGreatGx
import Derived.Test.YtnakbepcalciiaaGreatHo
/- LinksLost. Conditions: the script lies in memory, and is not too long for the platform. -/
namespace Go.Proofs.YtnakbepcalciiaaGreat.lk
open Go.RowKit mem rec tm names pm
set_option linter.unusedVariables false
set_option linter.unusedSimpArgs false
set_option maxHeartbeats 4000000
set_option maxRecDepth 100000
def LoI {n : Nat} (W : World) (base z mh mm : Nat) (l : List (OpE n)) (m : Nat) (ov iv : Value) (wr : World) : Prop := ∃ (i : Nat) (S : LkSt) (Ow : List (Tm (n + 1) × Value)), iv = .int .i64 (i : Int) ∧ i ≤ l.length ∧ m = l.length - i ∧ LkAt wr z mh mm S ∧ Los S (Ow.map (fun y => idOf y.1.f)) (2 * i) ∧ OwnOK W Ow ∧ Ow.length ≤ i ∧ RecOwn tE 30 9 wr base ov Ow ∧ base ≤ wr.heap.size ∧ Below W.heap.size W wr
def WaI {n : Nat} (S : LkSt) (node : ByteArray) (so : List (Tm (n + 1))) (w6 : World) (m : Nat) (wv iv : Value) (wr : World) : Prop := ∃ (i : Nat) (Wl : List (Tm (n + 1) × Value × Id)), iv = .int .i64 (i : Int) ∧ i ≤ so.length ∧ m = so.length - i ∧ RecOwn wE 60 18 wr w6.heap.size wv Wl ∧ Wl.map wp = wantI S node (so.take i) ∧ (∀ x ∈ Wl, FlatW x ∧ ItemsAt w6 w6.heap.size n x.2.1 x.1.items) ∧ Wl.length ≤ i * 1000 ∧ Below w6.heap.size w6 wr
def WbI {n : Nat} (va : Value) (t : Tm (n + 1)) (A : List Id) (node : ByteArray) (K : List Pr) (k0 : Nat) (w6 : World) (m : Nat) (wv iv : Value) (wr : World) : Prop := ∃ (k : Nat) (Wl : List (Tm (n + 1) × Value × Id)), iv = .int .i64 (k : Int) ∧ k ≤ A.length ∧ m = A.length - k ∧ RecOwn wE 60 18 wr w6.heap.size wv Wl ∧ Wl.map wp = K ++ ((A.take k).filter (farI node)).map (fun b => (idOf t.f, b)) ∧ (∀ x ∈ Wl, FlatW x ∧ ItemsAt w6 w6.heap.size n x.2.1 x.1.items) ∧ Wl.length ≤ k0 + k ∧ (∀ q, va.ownBlock = some q → wv.ownBlock ≠ some q) ∧ RecAt idTL 9 wr wr.heap.size va A ∧ Below w6.heap.size w6 wr
theorem cells_range {w : World} {g o : Nat} {f : TF} {u : Value} (h : Cells w g o f u) : w.rangeAt g o (nineL f u) := fun j v hv => by
  obtain ⟨h0, h1, h2, h3, h4, h5, h6, h7, h8⟩ := h
  unfold nineL at hv
  match j, hv with
  | 0, hv => exact h0.trans hv
  | 1, hv => exact h1.trans hv
  | 2, hv => exact h2.trans hv
  | 3, hv => exact h3.trans hv
  | 4, hv => exact h4.trans hv
  | 5, hv => exact h5.trans hv
  | 6, hv => exact h6.trans hv
  | 7, hv => exact h7.trans hv
  | 8, hv => exact h8.trans hv
  | k + 9, hv => simp at hv
theorem items_nth {n : Nat} {w : World} {B k c : Nat} {p : Option Addr} {l : List (Tm (n + 1))} (h : ItemsAt w B (n + 1) (.slice p k c) l) {j : Nat} (hj : j < l.length) : ∃ g o, p = some ⟨g, o, none⟩ ∧ g < B ∧ ∃ u, Cells w g (o + j * 9) l[j].f u ∧ ItemsAt w B n u l[j].items := by
  obtain ⟨p', c', e, _, _, h3⟩ := h
  simp only [Value.slice.injEq] at e
  obtain ⟨rfl, _, _⟩ := e
  obtain ⟨g, o, e, hg, hc⟩ := h3 (by intro e; subst e; simp at hj)
  exact ⟨g, o, e, hg, hc j hj⟩
def RuI (W : World) (n m : Nat) (iv : Value) (wr : World) : Prop := ∃ k : Nat, iv = .int .i64 (k : Int) ∧ k ≤ n ∧ m = n - k ∧ Below W.heap.size W wr
theorem flat_items {n : Nat} {w w' : World} {B B' : Nat} {x : Tm (n + 1) × Value × Id} (hf : FlatW x) (h : ItemsAt w B n x.2.1 x.1.items) : ItemsAt w' B' n x.2.1 x.1.items := by
  obtain ⟨t, u, b⟩ := x
  have h2 : t.items = [] := hf.2
  obtain ⟨p, c, e, _, hc⟩ := h.shape
  dsimp only at e ⊢
  rw [h2] at e ⊢
  rw [e]
  exact ItemsAt.nil_any hc
theorem delA_len : ∀ (L : List Pr) (H : List (Pr × Int)), (delA H L).length ≤ H.length
  | [], H => Nat.le_refl _
  | p :: L, H => Nat.le_trans (delA_len L (pDel H p)) (len_del H p)
theorem lost_len {S : LkSt} {O : List Id} {i : Nat} {node : ByteArray} {L : List Pr} (h : Los S O i) (hp : L.Perm ((keys S.H).filter (fun p => farB S node p.2))) : (lostS S L).H.length ≤ S.H.length := by
  have e : (lostS S L).H = delA S.H L := by unfold lostS; rw [lost_is h.nd (h.nodup hp)]
  rw [e]
  exact delA_len L S.H
theorem cutM_len : ∀ (L : List Mn) (M : List (Id × Mn)), (cutM M L).length ≤ M.length
  | [], M => Nat.le_refl _
  | m :: L, M => Nat.le_trans (cutM_len L (pDel M m.1)) (len_del M m.1)
theorem mem_of_act {S : LkSt} {L : List Pr} (h : actL S L ≠ []) : ∃ b, b ∈ actL S L := List.exists_mem_of_ne_nil _ h
theorem elB60 : ElTyB 59 60 18 224 := eltyB_of Tryz.underlying59 info60 rfl (by decide)
theorem wantI_take {n : Nat} {S : LkSt} {node : ByteArray} {so : List (Tm (n + 1))} {i : Nat} {t : Tm (n + 1)} (h : so[i]? = some t) : wantI S node (so.take (i + 1)) = wantI S node (so.take i) ++ (adds S node t).map (fun b => (idOf t.f, b)) := by
  unfold wantI
  rw [List.take_add_one, h, List.flatMap_append]
  simp
theorem filt_take {A : List Id} {k : Nat} {b : Id} {T : Id → Bool} (h : A[k]? = some b) : (A.take (k + 1)).filter T = (A.take k).filter T ++ (if T b then [b] else []) := by
  rw [List.take_add_one, h, List.filter_append]
  simp only [Option.toList_some, List.filter_cons, List.filter_nil]
theorem lawLost (W : World) {n : Nat} (v : Value) (node : ByteArray) (l : List (OpE n)) (hr : RecAt opL 30 W W.heap.size v l) (hin : ∀ e ∈ l, OpIn W W.heap.size e) (hsz : l.length * 368 ≤ 140737488355328) : Calls Tryz.prog 5 #[v, .string node] W (fun e w' => e = .returned (.bool true) ∧ Below W.heap.size W w') := by
  have HSh := Lib.hid (fun w => shown14 w)
  obtain ⟨pv, cv, rfl, _, _⟩ := hr.shape
  have HR := Lib.hid (fun w' (h : Below W.heap.size W w') => hr.below h (Nat.le_refl _))
  have HIn := Lib.hid hin
  have HGr := Lib.hid (fun w' (h : Below W.heap.size W w') => great33 w' h.size _ l (hr.below h (Nat.le_refl _)) (fun e he => (hin e he).below h (Nat.le_refl _)) hsz)
  clear hr hin hsz
  go_enter Tryz.func5, Tryz.ntmps5
  go_wp2_with fail
  refine (HSh.out _).mono ?_
  rintro e w1 ⟨rfl, hb1⟩
  have HB1 := Lib.hid hb1
  clear hb1 HSh
  go_wp2_with fail
  refine (HGr.out _ HB1.out).mono ?_
  rintro e w2 ⟨gb, rfl, hgs, hb2⟩
  have HB2 := Lib.hid (HB1.out.trans (hb2.mono HB1.out.size))
  cases gb
  rotate_left
  · go_wp2_with fail
    go_ret
    exact ⟨rfl, HB2.out⟩
  have HSmall := Lib.hid (hgs rfl)
  clear hgs hb2 HGr
  by_cases hno : (1000 : Int) < (node.size : Int)
  · go_wp2_with fail
    go_ret
    exact ⟨rfl, HB2.out⟩
  have HNw := Lib.hid (new15 nmN 1 w2)
  unfold nmN at HNw
  go_wp2_with fail
  refine HNw.out.mono ?_
  rintro e w5 ⟨hb5, ⟨hn, _⟩ | ⟨_, z, mh, mm, rfl, hS0, hz1, hz2, hz3⟩⟩
  · exact absurd hn (by rw [show newB ⟨#[110]⟩ 1 = newB nmN 1 from rfl, new_n]; decide)
  have HB5 := Lib.hid (HB2.out.trans (hb5.mono HB2.out.size))
  have HZ : Hid (W.heap.size ≤ z ∧ W.heap.size ≤ mh ∧ W.heap.size ≤ mm) := Lib.hid (by have := HB2.out.size; omega)
  have HZ5 : Hid (z < w5.heap.size ∧ mh < w5.heap.size ∧ mm < w5.heap.size) := Lib.hid ⟨hS0.zlt, hS0.hlt, hS0.mlt⟩
  have hlb : l.length ≤ 150 := HSmall.out.1
  have H10 : Hid (LoI W w5.heap.size z mh mm l l.length (.slice none 0 0) (.int .i64 0) w5) := Lib.hid ⟨0, ⟨nmN, 1, 0, [], []⟩, [], rfl, Nat.zero_le _, rfl, hS0, Los.start, OwnOK.nil W, Nat.le_refl _, RecOwn.nil _ _ _, Nat.le_refl _, HB5.out⟩
  clear hS0 hb5 hz1 hz2 hz3 HNw HB1 HB2
  have hsz9 : (Tryz.prog.info? 30).map (·.size) = some 9 := by kernel_rfl
  have hsz30 : (Tryz.prog.info? 34).map (·.size) = some 30 := by kernel_rfl
  go_wp2_with fail
  go_loopg [7, 8] l.length (fun m ov iv wr => Hid (LoI W w5.heap.size z mh mm l m ov iv wr))
  case atStart => exact H10
  case round =>
    obtain ⟨i, S, Ow, rfl, hi, hn, hS, hL, hO, hol, hown, hbz, hbw⟩ := hrel.out
    clear hrel H10
    obtain ⟨po, co, rfl, _, _⟩ := hown.shape
    by_cases hlt : i < l.length
    · have r1 : (i : Int) < (l.length : Int) := by omega
      have hat := List.getElem?_eq_getElem hlt
      obtain ⟨g, o, e1, hn0, hg, _⟩ := (HR.out _ hbw).nth (by omega)
      subst e1
      have HRg := Lib.hid (RecAt_range (HR.out _ hbw) hat)
      have hme := HIn.out _ (List.getElem_mem hlt)
      have hnd := HSmall.out.2.2 _ (List.getElem_mem hlt)
      clear hat hg hn0
      generalize l[i] = e at *
      obtain ⟨okd, ta, tb, tr, onum, onode, ua, ub, ur⟩ := e
      have hone := opL_one hme
      obtain ⟨m1, m2, m3⟩ := hme
      obtain ⟨pa, ca, ea, _, _⟩ := m1.shape
      obtain ⟨pb, cb, eb, _, _⟩ := m2.shape
      obtain ⟨pr, cr, er, _, _⟩ := m3.shape
      dsimp only at ea eb er hnd m1 m2 m3
      subst ea; subst eb; subst er
      obtain ⟨nd1, nd2, nd3⟩ := hnd
      have hz := HZ.out
      have hz5 := HZ5.out
      have HBT : Hid (∀ W', TouchB (LkS z mh mm) wr W' → Below W.heap.size W W') := Lib.hid (fun W' hT => hbw.trans (below_of_touch hT hz.1 hz.2.1 hz.2.2 hbw.size))
      have HZT : Hid (∀ W', TouchB (LkS z mh mm) wr W' → w5.heap.size ≤ W'.heap.size) := Lib.hid (fun W' hT => Nat.le_trans hbz hT.size)
      have HOT : Hid (∀ W', TouchB (LkS z mh mm) wr W' → RecOwn tE 30 9 W' w5.heap.size (.slice po Ow.length co) Ow) := Lib.hid (fun W' hT => hown.same (fun q hq => hT.block q (hown.lt hq).2 (fun e => by have := (hown.lt hq).1; rcases e with e | e | e <;> omega)))
      have HPart : Hid (∀ W', LkAt W' z mh mm S → Below W.heap.size W W' → Calls Tryz.prog 18 #[.pointer (some ⟨z, 0, none⟩), aggV ta.f (.slice pa ta.items.length ca), aggV tb.f (.slice pb tb.items.length cb)] W' (fun e w' => (∃ k b c, e = .returned (.tuple #[.int .i64 k, .bool b, .int .i64 c])) ∧ LosQ z mh mm (Ow.map (fun y => idOf y.1.f)) ta (2 * i + 1) W' w')) := Lib.hid (fun W' h hW => partL h hL (by omega) hW.size (m1.below hW (Nat.le_refl _)) (m2.below hW (Nat.le_refl _)) nd1 nd2)
      have HJoin : Hid (∀ W', LkAt W' z mh mm S → Below W.heap.size W W' → Calls Tryz.prog 20 #[.pointer (some ⟨z, 0, none⟩), aggV ta.f (.slice pa ta.items.length ca), aggV tb.f (.slice pb tb.items.length cb)] W' (fun e w' => (∃ b c, e = .returned (.tuple #[.bool b, .int .i64 c])) ∧ LosQ z mh mm (Ow.map (fun y => idOf y.1.f)) ta (2 * i + 1) W' w')) := Lib.hid (fun W' h hW => joinL h hL hW.size (m1.below hW (Nat.le_refl _)) (m2.below hW (Nat.le_refl _)) nd1 nd2)
      have HWat : Hid (∀ W' S1, LkAt W' z mh mm S1 → LosT S1 (Ow.map (fun y => idOf y.1.f)) ta (2 * i + 1) → Below W.heap.size W W' → Calls Tryz.prog 27 #[.pointer (some ⟨z, 0, none⟩), monV tr.f ta.f tb.f (.slice pr tr.items.length cr) (.slice pa ta.items.length ca) (.slice pb tb.items.length cb)] W' (fun e w' => (∃ c, e = .returned (.int .i64 c)) ∧ LosQ z mh mm (Ow.map (fun y => idOf y.1.f)) ta (2 * i + 2) W' w')) := Lib.hid (fun W' S1 h hT hW => watchL h hT hW.size (m3.below hW (Nat.le_refl _)) (m1.below hW (Nat.le_refl _)) (m2.below hW (Nat.le_refl _)) nd3 nd1 nd2)
      have HVal : Hid (∀ W', Below W.heap.size W W' → Calls Tryz.prog 34 #[aggV ta.f (.slice pa ta.items.length ca)] W' (BPost (validT ta) W')) := Lib.hid (fun W' hW => RValid W' W.heap.size _ ta hW.size (m1.below hW (Nat.le_refl _)) (by omega))
      have HHo : Hid (∀ W', TouchB (LkS z mh mm) wr W' → Calls Tryz.prog 23 #[.slice po Ow.length co, aggV ta.f (.slice pa ta.items.length ca)] W' (fun e w' => e = .returned (.bool (memT ta Ow)) ∧ Below W'.heap.size W' w')) := Lib.hid (fun W' hT => by
        have hB := HBT.out W' hT
        have hk : ∀ y ∈ Ow, tEok W' W'.heap.size y := fun y hy => ((show ItemsAt W W.heap.size n y.2 y.1.items from hO.at_ y hy).below hB (Nat.le_refl _)).more hB.size
        exact holdsT (Nat.le_refl _) ((HOT.out W' hT).row (fun r hr => ⟨tE_len r, tE_one (hk r hr)⟩)) hk ((m1.below hB (Nat.le_refl _)).more hB.size) (by omega))
      have HIn1 := Lib.hid m1
      have HNd1 := Lib.hid nd1
      have HOk := Lib.hid hO
      have HN := Lib.hid hn
      have HOl := Lib.hid hol
      have HS := Lib.hid hS
      have HL := Lib.hid hL
      have HOw := Lib.hid hown
      have HBz := Lib.hid hbz
      have HE : Hid (EncOK tE 9 [(ta, .slice pa ta.items.length ca)]) := Lib.hid (fun r hr => by rw [List.mem_singleton.1 hr]; exact ⟨tE_len _, tE_one (r := (ta, .slice pa ta.items.length ca)) m1⟩)
      have HRf : Hid (∀ W' : World, RecAt tE 9 (W'.alloc (.cells (tE (ta, .slice pa ta.items.length ca)).toArray 30)) (W'.heap.size + 1) (.slice (some ⟨W'.heap.size, 0, none⟩) 1 1) [(ta, .slice pa ta.items.length ca)]) := Lib.hid (fun W' => by
        have h1 := alloc_new W' (Obj.cells ([(ta, .slice pa ta.items.length ca)].flatMap tE).toArray 30)
        have h2 := RecAt.fresh (enc := tE) (l := [(ta, .slice pa ta.items.length ca)]) (c := 1) HE.out (by decide) h1 (Nat.le_refl _) (by decide)
        have e : ([(ta, .slice pa ta.items.length ca)] : List (Tm (n + 1) × Value)).flatMap tE = tE (ta, .slice pa ta.items.length ca) := by simp
        rw [e] at h2
        exact h2)
      have HOne := Lib.hid (all_oneCell_toArray hone)
      clear hone m1 m2 m3 nd1 nd2 nd3 hO hn hol hS hL hown hbz hz hz5
      have HTa : Hid (∀ u : Value, (ta, u).1 = ta) := Lib.hid (fun _ => rfl)
      clear HTa
      obtain ⟨fa, hfa⟩ : ∃ f, ta.f = f := ⟨_, rfl⟩
      obtain ⟨fb, hfb⟩ : ∃ f, tb.f = f := ⟨_, rfl⟩
      obtain ⟨fr, hfr⟩ : ∃ f, tr.f = f := ⟨_, rfl⟩
      obtain ⟨na, hna⟩ : ∃ k, ta.items.length = k := ⟨_, rfl⟩
      obtain ⟨nb, hnb⟩ : ∃ k, tb.items.length = k := ⟨_, rfl⟩
      obtain ⟨nr, hnr⟩ : ∃ k, tr.items.length = k := ⟨_, rfl⟩
      unfold opL nineL at HRg HOne
      unfold tE nineL at HRf
      unfold monV at HWat
      unfold aggV at HPart HJoin HVal HHo
      dsimp only at HRg HOne HRf HPart HJoin HWat HVal HHo
      rw [hfa, hfb, hfr] at HRg HOne
      rw [hna, hnb, hnr] at HRg HOne
      rw [hfa] at HRf HPart HJoin HWat HVal HHo
      rw [hna] at HRf HPart HJoin HWat HVal HHo
      rw [hna] at HIn1 HE
      rw [hfb] at HPart HJoin HWat
      rw [hnb] at HPart HJoin HWat
      rw [hfr, hnr] at HWat
      clear hfa hfb hfr hna hnb hnr
      obtain ⟨a_k, a_i, a_g, a_n, a_f, a_a, a_b, a_z⟩ := fa
      obtain ⟨b_k, b_i, b_g, b_n, b_f, b_a, b_b, b_z⟩ := fb
      obtain ⟨r_k, r_i, r_g, r_n, r_f, r_a, r_b, r_z⟩ := fr
      dsimp only at HRg HOne HRf HPart HJoin HWat HVal HHo
      simp only [List.cons_append, List.nil_append] at HRg HOne
      have HBw := Lib.hid hbw
      clear hbw
      go_upto_region 13 with (first
        | (refine wpList_load_mid rfl 34 (.tmp 39) rfl g (o + i * 30) rfl [.int .i64 okd, .int .i64 a_k, .int .i64 a_i, .int .i64 a_g, .string a_n, .string a_f, .int .i64 a_a, .slice pa na ca, .string a_b, .int .i64 a_z, .int .i64 b_k, .int .i64 b_i, .int .i64 b_g, .string b_n, .string b_f, .int .i64 b_a, .slice pb nb cb, .string b_b, .int .i64 b_z, .int .i64 r_k, .int .i64 r_i, .int .i64 r_g, .string r_n, .string r_f, .int .i64 r_a, .slice pr nr cr, .string r_b, .int .i64 r_z, .int .i64 onum, .string onode] _ HRg.out Tryz.underlying34 rfl hsz30 ?_)
        | (refine wpList_store_row rfl 34 (.tmp 9) (.tmp 40) rfl wr.heap.size #[.int .i64 okd, .int .i64 a_k, .int .i64 a_i, .int .i64 a_g, .string a_n, .string a_f, .int .i64 a_a, .slice pa na ca, .string a_b, .int .i64 a_z, .int .i64 b_k, .int .i64 b_i, .int .i64 b_g, .string b_n, .string b_f, .int .i64 b_a, .slice pb nb cb, .string b_b, .int .i64 b_z, .int .i64 r_k, .int .i64 r_i, .int .i64 r_g, .string r_n, .string r_f, .int .i64 r_a, .slice pr nr cr, .string r_b, .int .i64 r_z, .int .i64 onum, .string onode] rfl rfl 34 _ (alloc_new wr (.cells #[.int .i64 0, .int .i64 0, .int .i64 0, .int .i64 0, .string ⟨#[]⟩, .string ⟨#[]⟩, .int .i64 0, .slice none 0 0, .string ⟨#[]⟩, .int .i64 0, .int .i64 0, .int .i64 0, .int .i64 0, .string ⟨#[]⟩, .string ⟨#[]⟩, .int .i64 0, .slice none 0 0, .string ⟨#[]⟩, .int .i64 0, .int .i64 0, .int .i64 0, .int .i64 0, .string ⟨#[]⟩, .string ⟨#[]⟩, .int .i64 0, .slice none 0 0, .string ⟨#[]⟩, .int .i64 0, .int .i64 0, .string ⟨#[]⟩] 34)) hsz30 rfl HOne.out ?_))
      have hr4 := setRow_heap (wr.alloc (.cells #[.int .i64 0, .int .i64 0, .int .i64 0, .int .i64 0, .string ⟨#[]⟩, .string ⟨#[]⟩, .int .i64 0, .slice none 0 0, .string ⟨#[]⟩, .int .i64 0, .int .i64 0, .int .i64 0, .int .i64 0, .string ⟨#[]⟩, .string ⟨#[]⟩, .int .i64 0, .slice none 0 0, .string ⟨#[]⟩, .int .i64 0, .int .i64 0, .int .i64 0, .int .i64 0, .string ⟨#[]⟩, .string ⟨#[]⟩, .int .i64 0, .slice none 0 0, .string ⟨#[]⟩, .int .i64 0, .int .i64 0, .string ⟨#[]⟩] 34)) wr.heap.size _ #[.int .i64 okd, .int .i64 a_k, .int .i64 a_i, .int .i64 a_g, .string a_n, .string a_f, .int .i64 a_a, .slice pa na ca, .string a_b, .int .i64 a_z, .int .i64 b_k, .int .i64 b_i, .int .i64 b_g, .string b_n, .string b_f, .int .i64 b_a, .slice pb nb cb, .string b_b, .int .i64 b_z, .int .i64 r_k, .int .i64 r_i, .int .i64 r_g, .string r_n, .string r_f, .int .i64 r_a, .slice pr nr cr, .string r_b, .int .i64 r_z, .int .i64 onum, .string onode] 34 (0, 0) (alloc_new wr (.cells #[.int .i64 0, .int .i64 0, .int .i64 0, .int .i64 0, .string ⟨#[]⟩, .string ⟨#[]⟩, .int .i64 0, .slice none 0 0, .string ⟨#[]⟩, .int .i64 0, .int .i64 0, .int .i64 0, .int .i64 0, .string ⟨#[]⟩, .string ⟨#[]⟩, .int .i64 0, .slice none 0 0, .string ⟨#[]⟩, .int .i64 0, .int .i64 0, .int .i64 0, .int .i64 0, .string ⟨#[]⟩, .string ⟨#[]⟩, .int .i64 0, .slice none 0 0, .string ⟨#[]⟩, .int .i64 0, .int .i64 0, .string ⟨#[]⟩] 34))
      have ht4 : TouchB (fun i => i = wr.heap.size) (wr.alloc (.cells #[.int .i64 0, .int .i64 0, .int .i64 0, .int .i64 0, .string ⟨#[]⟩, .string ⟨#[]⟩, .int .i64 0, .slice none 0 0, .string ⟨#[]⟩, .int .i64 0, .int .i64 0, .int .i64 0, .int .i64 0, .string ⟨#[]⟩, .string ⟨#[]⟩, .int .i64 0, .slice none 0 0, .string ⟨#[]⟩, .int .i64 0, .int .i64 0, .int .i64 0, .int .i64 0, .string ⟨#[]⟩, .string ⟨#[]⟩, .int .i64 0, .slice none 0 0, .string ⟨#[]⟩, .int .i64 0, .int .i64 0, .string ⟨#[]⟩] 34)) ((wr.alloc (.cells #[.int .i64 0, .int .i64 0, .int .i64 0, .int .i64 0, .string ⟨#[]⟩, .string ⟨#[]⟩, .int .i64 0, .slice none 0 0, .string ⟨#[]⟩, .int .i64 0, .int .i64 0, .int .i64 0, .int .i64 0, .string ⟨#[]⟩, .string ⟨#[]⟩, .int .i64 0, .slice none 0 0, .string ⟨#[]⟩, .int .i64 0, .int .i64 0, .int .i64 0, .int .i64 0, .string ⟨#[]⟩, .string ⟨#[]⟩, .int .i64 0, .slice none 0 0, .string ⟨#[]⟩, .int .i64 0, .int .i64 0, .string ⟨#[]⟩] 34)).setRow wr.heap.size #[.int .i64 okd, .int .i64 a_k, .int .i64 a_i, .int .i64 a_g, .string a_n, .string a_f, .int .i64 a_a, .slice pa na ca, .string a_b, .int .i64 a_z, .int .i64 b_k, .int .i64 b_i, .int .i64 b_g, .string b_n, .string b_f, .int .i64 b_a, .slice pb nb cb, .string b_b, .int .i64 b_z, .int .i64 r_k, .int .i64 r_i, .int .i64 r_g, .string r_n, .string r_f, .int .i64 r_a, .slice pr nr cr, .string r_b, .int .i64 r_z, .int .i64 onum, .string onode]) := ⟨rfl, rfl, rfl, by simp, fun k hk hn => by simp [World.setRow, Array.getElem?_modify, show ¬ wr.heap.size = k from fun e => hn e.symm]⟩
      have hbA : Below wr.heap.size wr ((wr.alloc (.cells #[.int .i64 0, .int .i64 0, .int .i64 0, .int .i64 0, .string ⟨#[]⟩, .string ⟨#[]⟩, .int .i64 0, .slice none 0 0, .string ⟨#[]⟩, .int .i64 0, .int .i64 0, .int .i64 0, .int .i64 0, .string ⟨#[]⟩, .string ⟨#[]⟩, .int .i64 0, .slice none 0 0, .string ⟨#[]⟩, .int .i64 0, .int .i64 0, .int .i64 0, .int .i64 0, .string ⟨#[]⟩, .string ⟨#[]⟩, .int .i64 0, .slice none 0 0, .string ⟨#[]⟩, .int .i64 0, .int .i64 0, .string ⟨#[]⟩] 34)).setRow wr.heap.size #[.int .i64 okd, .int .i64 a_k, .int .i64 a_i, .int .i64 a_g, .string a_n, .string a_f, .int .i64 a_a, .slice pa na ca, .string a_b, .int .i64 a_z, .int .i64 b_k, .int .i64 b_i, .int .i64 b_g, .string b_n, .string b_f, .int .i64 b_a, .slice pb nb cb, .string b_b, .int .i64 b_z, .int .i64 r_k, .int .i64 r_i, .int .i64 r_g, .string r_n, .string r_f, .int .i64 r_a, .slice pr nr cr, .string r_b, .int .i64 r_z, .int .i64 onum, .string onode]) := (belowA (Below.refl wr.heap.size wr) (.cells #[.int .i64 0, .int .i64 0, .int .i64 0, .int .i64 0, .string ⟨#[]⟩, .string ⟨#[]⟩, .int .i64 0, .slice none 0 0, .string ⟨#[]⟩, .int .i64 0, .int .i64 0, .int .i64 0, .int .i64 0, .string ⟨#[]⟩, .string ⟨#[]⟩, .int .i64 0, .slice none 0 0, .string ⟨#[]⟩, .int .i64 0, .int .i64 0, .int .i64 0, .int .i64 0, .string ⟨#[]⟩, .string ⟨#[]⟩, .int .i64 0, .slice none 0 0, .string ⟨#[]⟩, .int .i64 0, .int .i64 0, .string ⟨#[]⟩] 34) (Nat.le_refl _)).trans (ht4.below (fun k hk => by rw [hk]; exact Nat.le_refl _) (by rw [World.size_alloc]; omega))
      generalize ((wr.alloc (.cells #[.int .i64 0, .int .i64 0, .int .i64 0, .int .i64 0, .string ⟨#[]⟩, .string ⟨#[]⟩, .int .i64 0, .slice none 0 0, .string ⟨#[]⟩, .int .i64 0, .int .i64 0, .int .i64 0, .int .i64 0, .string ⟨#[]⟩, .string ⟨#[]⟩, .int .i64 0, .slice none 0 0, .string ⟨#[]⟩, .int .i64 0, .int .i64 0, .int .i64 0, .int .i64 0, .string ⟨#[]⟩, .string ⟨#[]⟩, .int .i64 0, .slice none 0 0, .string ⟨#[]⟩, .int .i64 0, .int .i64 0, .string ⟨#[]⟩] 34)).setRow wr.heap.size #[.int .i64 okd, .int .i64 a_k, .int .i64 a_i, .int .i64 a_g, .string a_n, .string a_f, .int .i64 a_a, .slice pa na ca, .string a_b, .int .i64 a_z, .int .i64 b_k, .int .i64 b_i, .int .i64 b_g, .string b_n, .string b_f, .int .i64 b_a, .slice pb nb cb, .string b_b, .int .i64 b_z, .int .i64 r_k, .int .i64 r_i, .int .i64 r_g, .string r_n, .string r_f, .int .i64 r_a, .slice pr nr cr, .string r_b, .int .i64 r_z, .int .i64 onum, .string onode]) = wA at *
      have hbx : wr.heap.size < wA.heap.size := (Array.getElem?_eq_some_iff.1 hr4).1
      have hnl : ¬ LkS z mh mm wr.heap.size := fun e => by have := HZ5.out; have := HBz.out; rcases e with e | e | e <;> omega
      have HXT : Hid (∀ W', TouchB (LkS z mh mm) wA W' → W'.rangeAt wr.heap.size 1 [.int .i64 a_k, .int .i64 a_i, .int .i64 a_g, .string a_n, .string a_f, .int .i64 a_a, .slice pa na ca, .string a_b, .int .i64 a_z] ∧ W'.rangeAt wr.heap.size 10 [.int .i64 b_k, .int .i64 b_i, .int .i64 b_g, .string b_n, .string b_f, .int .i64 b_a, .slice pb nb cb, .string b_b, .int .i64 b_z] ∧ W'.rangeAt wr.heap.size 19 [.int .i64 r_k, .int .i64 r_i, .int .i64 r_g, .string r_n, .string r_f, .int .i64 r_a, .slice pr nr cr, .string r_b, .int .i64 r_z]) := Lib.hid (fun W' hT => by
        have h0 := range_row ((hT.block _ hbx hnl).trans hr4)
        have h1 := range_part (x := [.int .i64 okd]) (y := [.int .i64 a_k, .int .i64 a_i, .int .i64 a_g, .string a_n, .string a_f, .int .i64 a_a, .slice pa na ca, .string a_b, .int .i64 a_z]) (v := [.int .i64 b_k, .int .i64 b_i, .int .i64 b_g, .string b_n, .string b_f, .int .i64 b_a, .slice pb nb cb, .string b_b, .int .i64 b_z, .int .i64 r_k, .int .i64 r_i, .int .i64 r_g, .string r_n, .string r_f, .int .i64 r_a, .slice pr nr cr, .string r_b, .int .i64 r_z, .int .i64 onum, .string onode]) (k := 1) h0 rfl
        have h2 := range_part (x := [.int .i64 okd, .int .i64 a_k, .int .i64 a_i, .int .i64 a_g, .string a_n, .string a_f, .int .i64 a_a, .slice pa na ca, .string a_b, .int .i64 a_z]) (y := [.int .i64 b_k, .int .i64 b_i, .int .i64 b_g, .string b_n, .string b_f, .int .i64 b_a, .slice pb nb cb, .string b_b, .int .i64 b_z]) (v := [.int .i64 r_k, .int .i64 r_i, .int .i64 r_g, .string r_n, .string r_f, .int .i64 r_a, .slice pr nr cr, .string r_b, .int .i64 r_z, .int .i64 onum, .string onode]) (k := 10) h0 rfl
        have h3 := range_part (x := [.int .i64 okd, .int .i64 a_k, .int .i64 a_i, .int .i64 a_g, .string a_n, .string a_f, .int .i64 a_a, .slice pa na ca, .string a_b, .int .i64 a_z, .int .i64 b_k, .int .i64 b_i, .int .i64 b_g, .string b_n, .string b_f, .int .i64 b_a, .slice pb nb cb, .string b_b, .int .i64 b_z]) (y := [.int .i64 r_k, .int .i64 r_i, .int .i64 r_g, .string r_n, .string r_f, .int .i64 r_a, .slice pr nr cr, .string r_b, .int .i64 r_z]) (v := [.int .i64 onum, .string onode]) (k := 19) h0 rfl
        rw [Nat.zero_add] at h1 h2 h3
        exact ⟨h1, h2, h3⟩)
      have e0 : wA.cell? ⟨wr.heap.size, 0, none⟩ = some (.int .i64 okd) := range_row hr4 0 _ rfl
      have HTA := Lib.hid (touch_of (S := LkS z mh mm) hbA)
      have HSA := Lib.hid (HS.out.below hbA)
      have hbge : Hid (w5.heap.size ≤ wr.heap.size) := Lib.hid HBz.out
      clear hr4 ht4 hbA hbx hnl HOw HBz
      generalize wr.heap.size = bx at *
      have HPk := Lib.hid (pickL okd 3 (by decide) (by decide) wA)
      go_wp2_with fail
      refine (HPk.out).mono ?_
      rintro e w' ⟨kc, rfl, hkc, rfl⟩
      clear e0 HPk
      go_upto_if 44 with (fail)
      go_cut [] from 43 to 56 (fun wx => LosQ z mh mm (Ow.map (fun y => idOf y.1.f)) ta (2 * i + 1) wA wx)
      case first =>
        have hk4 : ∃ x : Int, (kc : Int) = x ∧ (x = 0 ∨ x = 1 ∨ x = 2) := ⟨kc, rfl, by omega⟩
        obtain ⟨x, hx, hk4⟩ := hk4
        rw [hx]
        clear hx hkc
        obtain ⟨x1, x2, x3⟩ := HXT.out _ (TouchB.refl _ _)
        have HX1 := Lib.hid x1
        have HX2 := Lib.hid x2
        clear x1 x2 x3
        rcases hk4 with rfl | rfl | rfl
        · go_wp2_with (first
            | (refine wpList_load_mid rfl 30 (.tmp 46) rfl bx 1 rfl [.int .i64 a_k, .int .i64 a_i, .int .i64 a_g, .string a_n, .string a_f, .int .i64 a_a, .slice pa na ca, .string a_b, .int .i64 a_z] _ HX1.out Tryz.underlying30 rfl hsz9 ?_)
            | (refine wpList_load_mid rfl 30 (.tmp 48) rfl bx 10 rfl [.int .i64 b_k, .int .i64 b_i, .int .i64 b_g, .string b_n, .string b_f, .int .i64 b_a, .slice pb nb cb, .string b_b, .int .i64 b_z] _ HX2.out Tryz.underlying30 rfl hsz9 ?_))
          refine (HPart.out _ HSA.out (HBT.out _ HTA.out)).mono ?_
          rintro e w3 ⟨⟨k1, b1, c1, rfl⟩, hq⟩
          go_wp2_with fail
          go_meet
          exact hq
        all_goals
          go_wp2_with (first
            | (refine wpList_load_mid rfl 30 (.tmp 52) rfl bx 1 rfl [.int .i64 a_k, .int .i64 a_i, .int .i64 a_g, .string a_n, .string a_f, .int .i64 a_a, .slice pa na ca, .string a_b, .int .i64 a_z] _ HX1.out Tryz.underlying30 rfl hsz9 ?_)
            | (refine wpList_load_mid rfl 30 (.tmp 54) rfl bx 10 rfl [.int .i64 b_k, .int .i64 b_i, .int .i64 b_g, .string b_n, .string b_f, .int .i64 b_a, .slice pb nb cb, .string b_b, .int .i64 b_z] _ HX2.out Tryz.underlying30 rfl hsz9 ?_))
          refine (HJoin.out _ HSA.out (HBT.out _ HTA.out)).mono ?_
          rintro e w3 ⟨⟨b1, c1, rfl⟩, hq⟩
          go_wp2_with fail
          go_meet
          exact hq
      case rest =>
        obtain ⟨S1, hS1, hT1, ht1⟩ := hcut
        have HT1 := Lib.hid (touch_trans HTA.out ht1)
        have HA1 := Lib.hid ht1
        have HW1 := Lib.hid (HWat.out _ S1 hS1 hT1 (HBT.out _ HT1.out))
        clear hS1 hT1 ht1 hkc
        obtain ⟨x1, x2, x3⟩ := HXT.out _ HA1.out
        have HX1 := Lib.hid x1
        have HX2 := Lib.hid x2
        have HX3 := Lib.hid x3
        clear x1 x2 x3
        go_wp2_with (first
          | (refine wpList_load_mid rfl 30 (.tmp 58) rfl bx 19 rfl [.int .i64 r_k, .int .i64 r_i, .int .i64 r_g, .string r_n, .string r_f, .int .i64 r_a, .slice pr nr cr, .string r_b, .int .i64 r_z] _ HX3.out Tryz.underlying30 rfl hsz9 ?_)
          | (refine wpList_load_mid rfl 30 (.tmp 60) rfl bx 1 rfl [.int .i64 a_k, .int .i64 a_i, .int .i64 a_g, .string a_n, .string a_f, .int .i64 a_a, .slice pa na ca, .string a_b, .int .i64 a_z] _ HX1.out Tryz.underlying30 rfl hsz9 ?_)
          | (refine wpList_load_mid rfl 30 (.tmp 62) rfl bx 10 rfl [.int .i64 b_k, .int .i64 b_i, .int .i64 b_g, .string b_n, .string b_f, .int .i64 b_a, .slice pb nb cb, .string b_b, .int .i64 b_z] _ HX2.out Tryz.underlying30 rfl hsz9 ?_))
        refine HW1.out.mono ?_
        rintro e w4 ⟨⟨c4, rfl⟩, S2, hS2, hT2, ht2⟩
        have HA2 := Lib.hid (touch_trans HA1.out ht2)
        have HT2 := Lib.hid (touch_trans HT1.out ht2)
        have HS2 := Lib.hid hS2
        have HLT := Lib.hid hT2
        clear hS2 hT2 ht2 HX1 HX2 HX3 HW1
        obtain ⟨x1, x2, x3⟩ := HXT.out _ HA2.out
        have HX1 := Lib.hid x1
        clear x1 x2 x3
        go_wp2_with (refine wpList_load_mid rfl 30 (.tmp 66) rfl bx 1 rfl [.int .i64 a_k, .int .i64 a_i, .int .i64 a_g, .string a_n, .string a_f, .int .i64 a_a, .slice pa na ca, .string a_b, .int .i64 a_z] _ HX1.out Tryz.underlying30 rfl hsz9 ?_)
        refine (HVal.out _ (HBT.out _ HT2.out)).mono ?_
        unfold BPost
        rintro e w6 ⟨rfl, hb6⟩
        have HA6 := Lib.hid (touch_trans HA2.out (touch_of hb6))
        have HT6 := Lib.hid (touch_trans HT2.out (touch_of hb6))
        have HS6 := Lib.hid (HS2.out.below hb6)
        clear hb6 HX1
        have HVv : Hid (∀ b, validT ta = b → validT ta = b) := Lib.hid (fun _ h => h)
        obtain ⟨va, hva⟩ : ∃ b, validT ta = b := ⟨_, rfl⟩
        rw [hva]
        have HVa := Lib.hid hva
        clear hva HVv
        cases va
        · have HLs : Hid (Los S2 (Ow.map (fun y => idOf y.1.f)) (2 * (i + 1))) := Lib.hid (HLT.out _ (fun _ h => h) (fun h => by rw [HVa.out] at h; cases h))
          have HOe := Lib.hid (HOT.out _ HT6.out)
          have HBe := Lib.hid (HBT.out _ HT6.out)
          have HZe := Lib.hid (HZT.out _ HT6.out)
          clear HRf
          go_wp2_with fail
          go_roundg (l.length - (i + 1))
          case measure => have := HN.out; omega
          case rel => exact Lib.hid ⟨i + 1, S2, Ow, by go_num, by omega, rfl, HS6.out, HLs.out, HOk.out, by have := HOl.out; omega, HOe.out, HZe.out, HBe.out⟩
        · obtain ⟨x1, x2, x3⟩ := HXT.out _ HA6.out
          have k0 : w6.cell? ⟨bx, 1, none⟩ = some (.int .i64 a_k) := x1 0 _ rfl
          have k1 : w6.cell? ⟨bx, 2, none⟩ = some (.int .i64 a_i) := x1 1 _ rfl
          have k2 : w6.cell? ⟨bx, 3, none⟩ = some (.int .i64 a_g) := x1 2 _ rfl
          have k3 : w6.cell? ⟨bx, 4, none⟩ = some (.string a_n) := x1 3 _ rfl
          have k4 : w6.cell? ⟨bx, 5, none⟩ = some (.string a_f) := x1 4 _ rfl
          have k5 : w6.cell? ⟨bx, 6, none⟩ = some (.int .i64 a_a) := x1 5 _ rfl
          have k6 : w6.cell? ⟨bx, 7, none⟩ = some (.slice pa na ca) := x1 6 _ rfl
          have k7 : w6.cell? ⟨bx, 8, none⟩ = some (.string a_b) := x1 7 _ rfl
          have k8 : w6.cell? ⟨bx, 9, none⟩ = some (.int .i64 a_z) := x1 8 _ rfl
          clear x1 x2 x3
          go_wp2_with fail
          refine (HHo.out _ HT6.out).mono ?_
          rintro e w7 ⟨rfl, hb7⟩
          clear k0 k1 k2 k3 k4 k5 k6 k7 k8
          have HA7 := Lib.hid (touch_trans HA6.out (touch_of hb7))
          have HT7 := Lib.hid (touch_trans HT6.out (touch_of hb7))
          have HS7 := Lib.hid (HS6.out.below hb7)
          have HZ7 := Lib.hid (HZT.out _ HT7.out)
          have HO7 := Lib.hid (HOT.out _ HT7.out)
          have HB7 := Lib.hid (HBT.out _ HT7.out)
          clear hb7
          obtain ⟨q, hq⟩ : ∃ b, memT ta Ow = b := ⟨_, rfl⟩
          rw [hq]
          have HQ := Lib.hid hq
          clear hq
          cases q
          · have HLs : Hid (Los S2 ((Ow ++ [((ta, Value.slice pa na ca) : Tm (n + 1) × Value)]).map (fun y : Tm (n + 1) × Value => idOf y.1.f)) (2 * (i + 1))) := Lib.hid (HLT.out _ (fun x hx => by rw [List.map_append]; exact List.mem_append_left _ hx) (fun _ => by rw [List.map_append]; exact List.mem_append_right _ (by simp)))
            have HOn : Hid (OwnOK W (Ow ++ [(ta, .slice pa na ca)])) := Lib.hid (HOk.out.add HVa.out HIn1.out HNd1.out (fun h => by have := memT_iff.2 h; rw [HQ.out] at this; cases this))
            obtain ⟨x1, x2, x3⟩ := HXT.out _ HA7.out
            have HX1 := Lib.hid x1
            have HSz6 : Hid ((Ow.length + 1) * 112 ≤ 140737488355328) := Lib.hid (by have := HOl.out; omega)
            have hz56 : w5.heap.size ≤ (w7.alloc (.cells #[.int .i64 a_k, .int .i64 a_i, .int .i64 a_g, .string a_n, .string a_f, .int .i64 a_a, .slice pa na ca, .string a_b, .int .i64 a_z] 30)).heap.size := by rw [World.size_alloc]; have := HZ7.out; omega
            clear x1 x2 x3
            go_wp2_with (first
              | (refine wpList_load_mid rfl 30 (.tmp 77) rfl bx 1 rfl [.int .i64 a_k, .int .i64 a_i, .int .i64 a_g, .string a_n, .string a_f, .int .i64 a_a, .slice pa na ca, .string a_b, .int .i64 a_z] _ HX1.out Tryz.underlying30 rfl hsz9 ?_)
              | (refine wpList_append_recB elB30 rfl (.tmp 76) (.tmp 79) rfl rfl (HO7.out.below (belowA (Below.refl w7.heap.size w7) (.cells #[.int .i64 a_k, .int .i64 a_i, .int .i64 a_g, .string a_n, .string a_f, .int .i64 a_a, .slice pa na ca, .string a_b, .int .i64 a_z] 30) (Nat.le_refl _))) hz56 rfl (HRf.out w7) HE.out HSz6.out (by decide) (by decide) ?_; intro v' W8 hA; obtain ⟨ao', cap', rfl, _, _⟩ := hA.own.shape))
            have hz := HZ.out
            have hz5 := HZ5.out
            have hz7 := HZ7.out
            have hal : (w7.alloc (.cells #[.int .i64 a_k, .int .i64 a_i, .int .i64 a_g, .string a_n, .string a_f, .int .i64 a_a, .slice pa na ca, .string a_b, .int .i64 a_z] 30)).heap.size = w7.heap.size + 1 := by rw [World.size_alloc]
            have hS8 := HS7.out.below (belowA (Below.refl w7.heap.size w7) (.cells #[.int .i64 a_k, .int .i64 a_i, .int .i64 a_g, .string a_n, .string a_f, .int .i64 a_a, .slice pa na ca, .string a_b, .int .i64 a_z] 30) (Nat.le_refl _))
            have HS8 := Lib.hid (hS8.same (hA.other (k := z) (by omega) (fun e => by have := (HO7.out.lt e).1; omega)) (hA.other (k := mh) (by omega) (fun e => by have := (HO7.out.lt e).1; omega)) (hA.other (k := mm) (by omega) (fun e => by have := (HO7.out.lt e).1; omega)))
            have HB8 := Lib.hid (hA.belowB (belowA HB7.out (.cells #[.int .i64 a_k, .int .i64 a_i, .int .i64 a_g, .string a_n, .string a_f, .int .i64 a_a, .slice pa na ca, .string a_b, .int .i64 a_z] 30) HB7.out.size) (by have := HB7.out.size; omega) (fun k hk => by have := (HO7.out.lt hk).1; have := HB5.out.size; omega))
            have HO8 : Hid (RecOwn tE 30 9 W8 w5.heap.size (.slice ao' (Ow.length + 1) cap') (Ow ++ [(ta, .slice pa na ca)])) := Lib.hid (by have h8 := hA.own; rw [List.length_append] at h8; exact h8)
            have HZ8 : Hid (w5.heap.size ≤ W8.heap.size) := Lib.hid (Nat.le_trans hz56 hA.grown.size)
            clear hA hal hS8 hz hz5 hz7 hz56 HRf HE
            go_wp2_with fail
            go_roundg (l.length - (i + 1))
            case measure => have := HN.out; omega
            case rel => exact Lib.hid ⟨i + 1, S2, _, by go_num, by omega, rfl, HS8.out, HLs.out, HOn.out, by have := HOl.out; simp; omega, HO8.out, HZ8.out, HB8.out⟩
          · have HLs : Hid (Los S2 (Ow.map (fun y => idOf y.1.f)) (2 * (i + 1))) := Lib.hid (HLT.out _ (fun _ h => h) (fun _ => by
              obtain ⟨y, hy, he⟩ := memT_iff.1 HQ.out
              rw [← he]
              exact List.mem_map_of_mem (f := fun y : Tm (n + 1) × Value => idOf y.1.f) hy))
            clear HRf
            go_wp2_with fail
            go_roundg (l.length - (i + 1))
            case measure => have := HN.out; omega
            case rel => exact Lib.hid ⟨i + 1, S2, Ow, by go_num, by omega, rfl, HS7.out, HLs.out, HOk.out, by have := HOl.out; omega, HO7.out, HZ7.out, HB7.out⟩
    · obtain rfl : i = l.length := by omega
      have hk : ∀ y ∈ Ow, tEok wr wr.heap.size y := fun y hy => ((show ItemsAt W W.heap.size n y.2 y.1.items from hO.at_ y hy).below hbw (Nat.le_refl _)).more hbw.size
      have hIt := row_terms (hown.row (fun r hr => ⟨tE_len r, tE_one (hk r hr)⟩)) hk
      have hn6 : ∀ t ∈ Ow.map (·.1), nodesT t ≤ 6000 := fun t ht => by
        obtain ⟨y, hy, rfl⟩ := List.mem_map.1 ht
        exact hO.nodes y hy
      have hnod : nodesL (n + 1) (Ow.map (·.1)) ≤ 100000000 := by
        have := nodes_le hn6
        rw [List.length_map] at this
        omega
      have HSo := Lib.hid (rsortW wr wr.heap.size _ _ (Nat.le_refl _) hIt hnod)
      have hvv : ∀ t ∈ Ow.map (·.1), validT t = true := fun t ht => by
        obtain ⟨y, hy, rfl⟩ := List.mem_map.1 ht
        exact hO.val y hy
      obtain ⟨so, hso⟩ : ∃ so, sortL (Ow.map (·.1)) = so := ⟨_, rfl⟩
      rw [hso] at HSo
      have HsS : Hid (so.Pairwise (fun x y => cmpV x y < 0)) := Lib.hid (by rw [← hso]; exact sortL_strict hvv hO.nd)
      have HsV : Hid (∀ t ∈ so, validT t = true) := Lib.hid (fun t ht => hvv t (sortL_mem.1 (by rw [hso]; exact ht)))
      have HsN : Hid (∀ t ∈ so, nodesT t ≤ 6000) := Lib.hid (fun t ht => hn6 t (sortL_mem.1 (by rw [hso]; exact ht)))
      have HsO : Hid (∀ x ∈ Ow.map (fun y => idOf y.1.f), ∃ t ∈ so, idOf t.f = x) := Lib.hid (fun x hx => by
        obtain ⟨y, hy, rfl⟩ := List.mem_map.1 hx
        exact ⟨y.1, by rw [← hso]; exact sortL_mem.2 (List.mem_map_of_mem (f := (·.1)) hy), rfl⟩)
      have hsl : so.length ≤ 1000 := by rw [← hso, sortL_len, List.length_map]; omega
      have HL := Lib.hid hL
      have HS := Lib.hid hS
      have HB := Lib.hid hbw
      have HZr := Lib.hid hbz
      have HI300 : Hid (2 * l.length ≤ 300) := Lib.hid (by omega)
      unfold RPost at HSo
      clear hk hIt hn6 hnod hvv hso hL hS hbw hbz hO hown hn hi hol HSmall HIn HR
      go_wp2_with fail
      refine HSo.out.mono ?_
      rintro e w6 ⟨p6, c6, rfl, hI6, hb6⟩
      have HI6 := Lib.hid hI6
      have HS6 := Lib.hid (HS.out.below hb6)
      have HB6 := Lib.hid (belowCC HB.out hb6)
      have HZ6 : Hid (w5.heap.size ≤ w6.heap.size) := Lib.hid (Nat.le_trans HZr.out hb6.size)
      have H20 : Hid (WaI S node so w6 so.length (.slice none 0 0) (.int .i64 0) w6) := Lib.hid ⟨0, [], rfl, Nat.zero_le _, rfl, RecOwn.nil _ _ _, rfl, by simp, Nat.zero_le _, Below.refl _ _⟩
      clear hI6 hb6 HSo HB HS HZr
      go_wp2_with fail
      go_loopg [10, 11] so.length (fun m wv iv wr => Hid (WaI S node so w6 m wv iv wr))
      case atStart => exact H20
      case round =>
        obtain ⟨i, Wl, rfl, hi, hn, hown, hmap, hWl, hwl, hbk⟩ := hrel.out
        clear hrel H20
        obtain ⟨pw, cw, rfl, _, _⟩ := hown.shape
        by_cases hlt2 : i < so.length
        · have r2 : (i : Int) < (so.length : Int) := by omega
          obtain ⟨g, o, e1, hg, u, hcl, hiu⟩ := items_nth HI6.out hlt2
          obtain ⟨pt, ct, eu, _, _⟩ := hiu.shape
          subst eu
          subst e1
          have hr6 := cells_range hcl
          have HT6 := Lib.hid (fun W' (hW : Below w6.heap.size w6 W') => range_same hr6 (hW.block g hg))
          have hlen : S.H.length ≤ 600 := by have := HL.out.len; have := HI300.out; omega
          have hnt := HsN.out _ (List.getElem_mem hlt2)
          have HOf := Lib.hid (of22 (HS6.out.below hbk) (by omega) w6.heap.size _ so[i] hbk.size (hiu.below hbk (Nat.le_refl _)) (by omega))
          have HWt := Lib.hid (wantI_take (S := S) (node := node) (List.getElem?_eq_getElem hlt2))
          have HOL := Lib.hid (fun (L : List Pr) (h : IsOf S so[i] L) => HL.out.ofL h)
          have HIu := Lib.hid hiu
          have HN := Lib.hid hn
          have HOw := Lib.hid hown
          have HMp := Lib.hid hmap
          have HWl := Lib.hid hWl
          have HWn := Lib.hid hwl
          have HBk := Lib.hid hbk
          have HG := Lib.hid hg
          have HLn := Lib.hid hlen
          clear hcl hiu hr6 hlen hnt hn hown hmap hWl hwl hbk hg
          generalize so[i] = t at *
          obtain ⟨ft, hft⟩ : ∃ f, t.f = f := ⟨_, rfl⟩
          obtain ⟨nt, hnt⟩ : ∃ k, t.items.length = k := ⟨_, rfl⟩
          have HFt : Hid (t.f = ft) := Lib.hid hft
          unfold aggV at HOf
          unfold nineL at HT6
          (try dsimp only at HOf)
          (try dsimp only at HT6)
          rw [hft, hnt] at HOf HT6
          rw [hnt] at HIu
          clear hft hnt
          obtain ⟨t_k, t_i, t_g, t_n, t_f, t_a, t_b, t_z⟩ := ft
          dsimp only at HOf HT6
          have HTr := Lib.hid (HT6.out _ HBk.out)
          go_wp2_with (refine wpList_load_mid rfl 30 (.tmp 92) rfl g (o + i * 9) rfl [.int .i64 t_k, .int .i64 t_i, .int .i64 t_g, .string t_n, .string t_f, .int .i64 t_a, .slice pt nt ct, .string t_b, .int .i64 t_z] _ HTr.out Tryz.underlying30 rfl hsz9 ?_)
          refine HOf.out.mono ?_
          rintro e w7 ⟨v7, L, rfl, hp7, hs7, ho7, hb7⟩
          have hL7 := HOL.out L ⟨by unfold okO; rw [HFt.out]; exact hp7, hs7⟩
          obtain ⟨pa, ca, rfl, _, _⟩ := ho7.shape
          have hLl : L.length ≤ 600 := by
            have h1 := hp7.length_eq
            split at h1
            · have h2 : ((keys S.H).filter (fun p => decide (p.1 = idOf ⟨t_k, t_i, t_g, t_n, t_f, t_a, t_b, t_z⟩))).length ≤ (keys S.H).length := List.length_filter_le _ _
              have h3 : (keys S.H).length = S.H.length := by simp [pm.keys]
              have := HLn.out
              omega
            · rw [h1]; exact Nat.zero_le _
          have hAl : (actL S L).length ≤ 600 := Nat.le_trans (actL_le S L) hLl
          have HFl : Hid (actL S L ≠ [] → FlatW ((t, .slice pt nt ct, (0, ⟨#[]⟩, 0, 0)) : Tm (n + 1) × Value × Id)) := Lib.hid (fun hne => by
            have hm := mem_of_act hne
            obtain ⟨b, hb⟩ := hm
            rw [hL7] at hb
            have hx : okO S t = true := by
              cases hok : okO S t
              · have hq := (ofL_is S t).1
                rw [hok] at hq
                have : ofL S t = [] := hq.eq_nil
                rw [this] at hb
                simp [actL] at hb
              · rfl
            have := okO_flat hx
            exact ⟨this.2.1, this.2.2⟩)
          have HAd : Hid ((actL S L).filter (farI node) = adds S node t) := Lib.hid (by rw [hL7]; rfl)
          have hpl : ∀ q, (Value.slice pa (actL S L).length ca).ownBlock = some q → (Value.slice pw Wl.length cw).ownBlock ≠ some q := fun q hq e => by
            have h1 := (ho7.lt hq).1
            have h2 := (HOw.out.lt e).2
            omega
          obtain ⟨A, hA⟩ : ∃ A, actL S L = A := ⟨_, rfl⟩
          rw [hA] at HFl HAd ho7 hAl hpl
          rw [hA]
          have H30 : Hid (WbI (.slice pa A.length ca) t A node (wantI S node (so.take i)) (i * 1000) w6 A.length (.slice pw Wl.length cw) (.int .i64 0) w7) := Lib.hid ⟨0, Wl, rfl, Nat.zero_le _, rfl, HOw.out.below hb7, by rw [HMp.out]; simp, HWl.out, HWn.out, hpl, ho7.row (fun a _ => ⟨idTL_len a, idTL_one a⟩), belowCC HBk.out hb7⟩
          have HAl := Lib.hid hAl
          clear hp7 hs7 ho7 hb7 hL7 hLl hA hpl hAl HOL HOf HTr HOw HMp HWl HBk
          go_wp2_with fail
          go_loopg [10, 13] A.length (fun m wv iv wr => Hid (WbI (.slice pa A.length ca) t A node (wantI S node (so.take i)) (i * 1000) w6 m wv iv wr))
          case atStart => exact H30
          case round =>
            obtain ⟨k, Wm, rfl, hk, hm, hown, hmap, hWl, hwl, hpl, hA8, hb8⟩ := hrel.out
            clear hrel H30
            obtain ⟨pw', cw', rfl, _, _⟩ := hown.shape
            have hA600 : A.length ≤ 1000 := by have := HAl.out; omega
            by_cases hlt3 : k < A.length
            · have r3 : (k : Int) < (A.length : Int) := by omega
              obtain ⟨ga, oa, e1, hn0, hga, _⟩ := hA8.nth (by omega)
              have hat := List.getElem?_eq_getElem hlt3
              subst e1
              have hrb := RecAt_range hA8 hat
              have HBr := Lib.hid (fun (W' : World) (hW : W'.heap[ga]? = wr.heap[ga]?) => range_same hrb hW)
              have htr := HT6.out _ hb8
              have HTr := Lib.hid (fun (W' : World) (hW : W'.heap[g]? = wr.heap[g]?) => range_same htr hW)
              have HA8 := Lib.hid hA8
              have HFk := Lib.hid (filt_take (T := farI node) hat)
              have HFw := Lib.hid (HFl.out (by intro e; rw [e] at hlt3; simp at hlt3))
              have HM := Lib.hid hm
              have HOw := Lib.hid hown
              have HMp := Lib.hid hmap
              have HWl := Lib.hid hWl
              have HWn := Lib.hid hwl
              have HPn := Lib.hid hpl
              have HB8 := Lib.hid hb8
              have HGa := Lib.hid hga
              clear hat hn0 hga hm hown hmap hWl hwl hpl hb8 hrb htr hA8
              generalize A[k] = b at *
              obtain ⟨b1, b2, b3, b4⟩ := b
              unfold idTL at HBr
              dsimp only at HBr
              have f2 : wr.cell? ⟨ga, oa + k * 9 + 2, none⟩ = some (.int .i64 b3) := HBr.out _ rfl 2 _ rfl
              have f3 : wr.cell? ⟨ga, oa + k * 9 + 3, none⟩ = some (.string b2) := HBr.out _ rfl 3 _ rfl
              obtain ⟨q, hq⟩ : ∃ q, farI node (b1, b2, b3, b4) = q := ⟨_, rfl⟩
              have HQ := Lib.hid hq
              clear hq
              go_upto_region 28 with (fail)
              go_cut [119] from 101 to 119 (fun vq wc => vq = .bool q ∧ wc = wr)
              case first =>
                have hfar : q = (decide (b2 = node) && (!decide (node = ⟨#[110]⟩) || !decide (b3 = 1))) := by rw [← HQ.out]; unfold farI nmN; simp
                have q1 := str_dec b2 node
                have q2 : (⟨#[110]⟩ : ByteArray).toList = [110] := by simp
                by_cases h1 : b2 = node
                · rw [decide_eq_true h1] at q1 hfar
                  by_cases h2 : node = ⟨#[110]⟩
                  · rw [decide_eq_true h2] at hfar
                    have t2 : node.toList = [110] := by rw [h2]; exact q2
                    have t3 : b2.toList = [110] := by rw [h1]; exact t2
                    by_cases h3 : b3 = 1
                    · subst h3
                      have hf := Lib.hid hfar
                      clear hfar h1 h2
                      go_wp2_with fail
                      go_meet
                      exact ⟨by rw [hf.out]; rfl, rfl⟩
                    · rw [decide_eq_false h3] at hfar
                      have h3b : (b3 == 1) = false := by simpa using h3
                      have h3c : (b3 != 1) = true := by simpa using h3
                      have hf := Lib.hid hfar
                      clear hfar h1 h2
                      go_wp2_with fail
                      go_meet
                      exact ⟨by rw [hf.out]; (first | rfl | (rw [h3c]; rfl)), rfl⟩
                  · rw [decide_eq_false h2] at hfar
                    have t2 : ¬ node.toList = [110] := fun e => str_ne' h2 (e.trans q2.symm)
                    have hf := Lib.hid hfar
                    clear hfar h1 h2
                    go_wp2_with fail
                    go_meet
                    exact ⟨by rw [hf.out]; rfl, rfl⟩
                · rw [decide_eq_false h1] at q1 hfar
                  have hf := Lib.hid hfar
                  clear hfar h1
                  go_wp2_with fail
                  go_meet
                  exact ⟨by rw [hf.out]; rfl, rfl⟩
              case rest =>
                obtain ⟨rfl, rfl⟩ := hcut
                clear f2 f3
                cases q
                · have HMe : Hid (Wm.map wp = wantI S node (so.take i) ++ ((A.take (k + 1)).filter (farI node)).map (fun b => (idOf t.f, b))) := Lib.hid (by rw [HMp.out, HFk.out, HQ.out]; simp)
                  clear HBr HTr
                  go_wp2_with fail
                  go_roundg (A.length - (k + 1))
                  case measure => have := HM.out; omega
                  case rel => exact Lib.hid ⟨k + 1, Wm, by go_num, by omega, rfl, HOw.out, HMe.out, HWl.out, by have := HWn.out; omega, HPn.out, HA8.out, HB8.out⟩
                · have HFk1 : Hid (((Wm ++ [((t, Value.slice pt nt ct, (b1, b2, b3, b4)) : Tm (n + 1) × Value × Id)])).map wp = wantI S node (so.take i) ++ ((A.take (k + 1)).filter (farI node)).map (fun b => (idOf t.f, b))) := Lib.hid (by rw [List.map_append, HMp.out, HFk.out, HQ.out]; simp [wp])
                  have HX : Hid (FlatW ((t, Value.slice pt nt ct, (b1, b2, b3, b4)) : Tm (n + 1) × Value × Id)) := Lib.hid HFw.out
                  have HWn1 : Hid (∀ x ∈ Wm ++ [((t, Value.slice pt nt ct, (b1, b2, b3, b4)) : Tm (n + 1) × Value × Id)], FlatW x ∧ ItemsAt w6 w6.heap.size n x.2.1 x.1.items) := Lib.hid (fun x hx => by
                    rcases List.mem_append.1 hx with hx | hx
                    · exact HWl.out x hx
                    · rw [List.mem_singleton.1 hx]; exact ⟨HX.out, HIu.out⟩)
                  have HE : Hid (EncOK wE 18 [((t, Value.slice pt nt ct, (b1, b2, b3, b4)) : Tm (n + 1) × Value × Id)]) := Lib.hid (fun r hr => by rw [List.mem_singleton.1 hr]; exact ⟨wE_len _, wE_one HIu.out⟩)
                  have hO : (Obj.cells ([((t, Value.slice pt nt ct, (b1, b2, b3, b4)) : Tm (n + 1) × Value × Id)].flatMap wE).toArray 60) = (.cells #[.int .i64 t_k, .int .i64 t_i, .int .i64 t_g, .string t_n, .string t_f, .int .i64 t_a, .slice pt nt ct, .string t_b, .int .i64 t_z, .int .i64 b1, .int .i64 b4, .int .i64 b3, .string b2, .string ⟨#[]⟩, .int .i64 0, .slice none 0 0, .string ⟨#[]⟩, .int .i64 0] 60) := by
                    simp [wE, nineL, idTL, HFt.out]
                  have HRf : Hid (∀ W' : World, RecAt wE 18 (W'.alloc (.cells #[.int .i64 t_k, .int .i64 t_i, .int .i64 t_g, .string t_n, .string t_f, .int .i64 t_a, .slice pt nt ct, .string t_b, .int .i64 t_z, .int .i64 b1, .int .i64 b4, .int .i64 b3, .string b2, .string ⟨#[]⟩, .int .i64 0, .slice none 0 0, .string ⟨#[]⟩, .int .i64 0] 60)) (W'.heap.size + 1) (.slice (some ⟨W'.heap.size, 0, none⟩) 1 1) [((t, Value.slice pt nt ct, (b1, b2, b3, b4)) : Tm (n + 1) × Value × Id)]) := Lib.hid (fun W' => by
                    have h1 := alloc_new W' (Obj.cells ([((t, Value.slice pt nt ct, (b1, b2, b3, b4)) : Tm (n + 1) × Value × Id)].flatMap wE).toArray 60)
                    have h2 := RecAt.fresh (enc := wE) (l := [((t, Value.slice pt nt ct, (b1, b2, b3, b4)) : Tm (n + 1) × Value × Id)]) (c := 1) HE.out (by decide) h1 (Nat.le_refl _) (by decide)
                    rw [hO] at h2
                    exact h2)
                  have HSz : Hid ((Wm.length + 1) * 224 ≤ 140737488355328) := Lib.hid (by have := HWn.out; omega)
                  have HOa := Lib.hid (fun W' (hW : Below wc.heap.size wc W') => HOw.out.below hW)
                  have HGB : Hid (w6.heap.size ≤ wc.heap.size) := Lib.hid HB8.out.size
                  have HGn : Hid (g < wc.heap.size ∧ g < w6.heap.size ∧ ga < wc.heap.size) := Lib.hid ⟨by have := HB8.out.size; have := HG.out; omega, HG.out, HGa.out⟩
                  have HCe : Hid (∀ W' : World, W'.heap[g]? = wc.heap[g]? → W'.heap[ga]? = wc.heap[ga]? → W'.cell? ⟨g, o + i * 9, none⟩ = some (.int .i64 t_k) ∧ W'.cell? ⟨g, o + i * 9 + 1, none⟩ = some (.int .i64 t_i) ∧ W'.cell? ⟨g, o + i * 9 + 2, none⟩ = some (.int .i64 t_g) ∧ W'.cell? ⟨g, o + i * 9 + 3, none⟩ = some (.string t_n) ∧ W'.cell? ⟨g, o + i * 9 + 4, none⟩ = some (.string t_f) ∧ W'.cell? ⟨g, o + i * 9 + 5, none⟩ = some (.int .i64 t_a) ∧ W'.cell? ⟨g, o + i * 9 + 6, none⟩ = some (.slice pt nt ct) ∧ W'.cell? ⟨g, o + i * 9 + 7, none⟩ = some (.string t_b) ∧ W'.cell? ⟨g, o + i * 9 + 8, none⟩ = some (.int .i64 t_z) ∧ W'.cell? ⟨ga, oa + k * 9, none⟩ = some (.int .i64 b1) ∧ W'.cell? ⟨ga, oa + k * 9 + 1, none⟩ = some (.int .i64 b4) ∧ W'.cell? ⟨ga, oa + k * 9 + 2, none⟩ = some (.int .i64 b3) ∧ W'.cell? ⟨ga, oa + k * 9 + 3, none⟩ = some (.string b2) ∧ W'.cell? ⟨ga, oa + k * 9 + 4, none⟩ = some (.string ⟨#[]⟩) ∧ W'.cell? ⟨ga, oa + k * 9 + 5, none⟩ = some (.int .i64 0) ∧ W'.cell? ⟨ga, oa + k * 9 + 6, none⟩ = some (.slice none 0 0) ∧ W'.cell? ⟨ga, oa + k * 9 + 7, none⟩ = some (.string ⟨#[]⟩) ∧ W'.cell? ⟨ga, oa + k * 9 + 8, none⟩ = some (.int .i64 0)) := Lib.hid (fun W' h1 h2 => by
                    have x1 := HTr.out W' h1
                    have x2 := HBr.out W' h2
                    exact ⟨x1 0 _ rfl, x1 1 _ rfl, x1 2 _ rfl, x1 3 _ rfl, x1 4 _ rfl, x1 5 _ rfl, x1 6 _ rfl, x1 7 _ rfl, x1 8 _ rfl, x2 0 _ rfl, x2 1 _ rfl, x2 2 _ rfl, x2 3 _ rfl, x2 4 _ rfl, x2 5 _ rfl, x2 6 _ rfl, x2 7 _ rfl, x2 8 _ rfl⟩)
                  clear HBr HTr hO HFk
                  have hbd : Below wc.heap.size wc wc.drew := belowD (Below.refl _ _)
                  obtain ⟨de0, de1, de2, de3, de4, de5, de6, de7, de8, df0, df1, df2, df3, df4, df5, df6, df7, df8⟩ := HCe.out wc.drew rfl rfl
                  obtain ⟨ae0, ae1, ae2, ae3, ae4, ae5, ae6, ae7, ae8, af0, af1, af2, af3, af4, af5, af6, af7, af8⟩ := HCe.out (wc.alloc (.cells #[.int .i64 t_k, .int .i64 t_i, .int .i64 t_g, .string t_n, .string t_f, .int .i64 t_a, .slice pt nt ct, .string t_b, .int .i64 t_z, .int .i64 b1, .int .i64 b4, .int .i64 b3, .string b2, .string ⟨#[]⟩, .int .i64 0, .slice none 0 0, .string ⟨#[]⟩, .int .i64 0] 60)).drew ((belowDA (w := wc) (.cells #[.int .i64 t_k, .int .i64 t_i, .int .i64 t_g, .string t_n, .string t_f, .int .i64 t_a, .slice pt nt ct, .string t_b, .int .i64 t_z, .int .i64 b1, .int .i64 b4, .int .i64 b3, .string b2, .string ⟨#[]⟩, .int .i64 0, .slice none 0 0, .string ⟨#[]⟩, .int .i64 0] 60)).block g HGn.out.1) ((belowDA (w := wc) (.cells #[.int .i64 t_k, .int .i64 t_i, .int .i64 t_g, .string t_n, .string t_f, .int .i64 t_a, .slice pt nt ct, .string t_b, .int .i64 t_z, .int .i64 b1, .int .i64 b4, .int .i64 b3, .string b2, .string ⟨#[]⟩, .int .i64 0, .slice none 0 0, .string ⟨#[]⟩, .int .i64 0] 60)).block ga HGn.out.2.2)
                  go_upto_region 29 with (fail)
                  go_region_held3 (fun w' => w'.cell? ⟨g, o + i * 9, none⟩ = some (.int .i64 t_k) ∧ w'.cell? ⟨g, o + i * 9 + 1, none⟩ = some (.int .i64 t_i) ∧ w'.cell? ⟨g, o + i * 9 + 2, none⟩ = some (.int .i64 t_g) ∧ w'.cell? ⟨g, o + i * 9 + 3, none⟩ = some (.string t_n) ∧ w'.cell? ⟨g, o + i * 9 + 4, none⟩ = some (.string t_f) ∧ w'.cell? ⟨g, o + i * 9 + 5, none⟩ = some (.int .i64 t_a) ∧ w'.cell? ⟨g, o + i * 9 + 6, none⟩ = some (.slice pt nt ct) ∧ w'.cell? ⟨g, o + i * 9 + 7, none⟩ = some (.string t_b) ∧ w'.cell? ⟨g, o + i * 9 + 8, none⟩ = some (.int .i64 t_z) ∧ w'.cell? ⟨ga, oa + k * 9, none⟩ = some (.int .i64 b1) ∧ w'.cell? ⟨ga, oa + k * 9 + 1, none⟩ = some (.int .i64 b4) ∧ w'.cell? ⟨ga, oa + k * 9 + 2, none⟩ = some (.int .i64 b3) ∧ w'.cell? ⟨ga, oa + k * 9 + 3, none⟩ = some (.string b2) ∧ w'.cell? ⟨ga, oa + k * 9 + 4, none⟩ = some (.string ⟨#[]⟩) ∧ w'.cell? ⟨ga, oa + k * 9 + 5, none⟩ = some (.int .i64 0) ∧ w'.cell? ⟨ga, oa + k * 9 + 6, none⟩ = some (.slice none 0 0) ∧ w'.cell? ⟨ga, oa + k * 9 + 7, none⟩ = some (.string ⟨#[]⟩) ∧ w'.cell? ⟨ga, oa + k * 9 + 8, none⟩ = some (.int .i64 0)) (go_keep)
                    (first
                      | (refine step_append_recB elB60 rfl (.tmp 120) (.tmp 130) rfl rfl (HOa.out _ (belowDA (.cells #[.int .i64 t_k, .int .i64 t_i, .int .i64 t_g, .string t_n, .string t_f, .int .i64 t_a, .slice pt nt ct, .string t_b, .int .i64 t_z, .int .i64 b1, .int .i64 b4, .int .i64 b3, .string b2, .string ⟨#[]⟩, .int .i64 0, .slice none 0 0, .string ⟨#[]⟩, .int .i64 0] 60))) (Nat.le_trans HGB.out (belowDA (.cells #[.int .i64 t_k, .int .i64 t_i, .int .i64 t_g, .string t_n, .string t_f, .int .i64 t_a, .slice pt nt ct, .string t_b, .int .i64 t_z, .int .i64 b1, .int .i64 b4, .int .i64 b3, .string b2, .string ⟨#[]⟩, .int .i64 0, .slice none 0 0, .string ⟨#[]⟩, .int .i64 0] 60)).size) rfl ((HRf.out wc).drewN 1) HE.out HSz.out (by decide) (by decide) ?_; intro v' W8 hA; have hz8 := HGn.out; have hgb := (hA.other (k := g) (Nat.lt_of_lt_of_le hz8.1 (belowDA (w := wc) (.cells #[.int .i64 t_k, .int .i64 t_i, .int .i64 t_g, .string t_n, .string t_f, .int .i64 t_a, .slice pt nt ct, .string t_b, .int .i64 t_z, .int .i64 b1, .int .i64 b4, .int .i64 b3, .string b2, .string ⟨#[]⟩, .int .i64 0, .slice none 0 0, .string ⟨#[]⟩, .int .i64 0] 60)).size) (fun e => by have := (HOw.out.lt e).1; omega)).trans ((belowDA (w := wc) (.cells #[.int .i64 t_k, .int .i64 t_i, .int .i64 t_g, .string t_n, .string t_f, .int .i64 t_a, .slice pt nt ct, .string t_b, .int .i64 t_z, .int .i64 b1, .int .i64 b4, .int .i64 b3, .string b2, .string ⟨#[]⟩, .int .i64 0, .slice none 0 0, .string ⟨#[]⟩, .int .i64 0] 60)).block g hz8.1); have hgc := (hA.other (k := ga) (Nat.lt_of_lt_of_le hz8.2.2 (belowDA (w := wc) (.cells #[.int .i64 t_k, .int .i64 t_i, .int .i64 t_g, .string t_n, .string t_f, .int .i64 t_a, .slice pt nt ct, .string t_b, .int .i64 t_z, .int .i64 b1, .int .i64 b4, .int .i64 b3, .string b2, .string ⟨#[]⟩, .int .i64 0, .slice none 0 0, .string ⟨#[]⟩, .int .i64 0] 60)).size) (HPn.out ga rfl)).trans ((belowDA (w := wc) (.cells #[.int .i64 t_k, .int .i64 t_i, .int .i64 t_g, .string t_n, .string t_f, .int .i64 t_a, .slice pt nt ct, .string t_b, .int .i64 t_z, .int .i64 b1, .int .i64 b4, .int .i64 b3, .string b2, .string ⟨#[]⟩, .int .i64 0, .slice none 0 0, .string ⟨#[]⟩, .int .i64 0] 60)).block ga hz8.2.2); obtain ⟨e0, e1, e2, e3, e4, e5, e6, e7, e8, f0, f1, f2, f3, f4, f5, f6, f7, f8⟩ := HCe.out _ hgb hgc; obtain ⟨ao', cap', rfl, _, _⟩ := hA.own.shape)
                      | fail)
                  all_goals
                    have HO8 : Hid (RecOwn wE 60 18 W8 w6.heap.size (.slice ao' (Wm.length + 1) cap') (Wm ++ [((t, Value.slice pt nt ct, (b1, b2, b3, b4)) : Tm (n + 1) × Value × Id)])) := Lib.hid (by have h8 := hA.own; rw [List.length_append] at h8; exact h8)
                    have HBn := Lib.hid (hA.belowB (belowCC HB8.out (belowDA (w := wc) (.cells #[.int .i64 t_k, .int .i64 t_i, .int .i64 t_g, .string t_n, .string t_f, .int .i64 t_a, .slice pt nt ct, .string t_b, .int .i64 t_z, .int .i64 b1, .int .i64 b4, .int .i64 b3, .string b2, .string ⟨#[]⟩, .int .i64 0, .slice none 0 0, .string ⟨#[]⟩, .int .i64 0] 60))) (Nat.le_trans HGB.out (belowDA (w := wc) (.cells #[.int .i64 t_k, .int .i64 t_i, .int .i64 t_g, .string t_n, .string t_f, .int .i64 t_a, .slice pt nt ct, .string t_b, .int .i64 t_z, .int .i64 b1, .int .i64 b4, .int .i64 b3, .string b2, .string ⟨#[]⟩, .int .i64 0, .slice none 0 0, .string ⟨#[]⟩, .int .i64 0] 60)).size) (fun k hk => (HOw.out.lt hk).1))
                    have hAn : RecAt idTL 9 W8 wc.heap.size (.slice (some ⟨ga, oa, none⟩) A.length ca) A := HA8.out.block (fun q hq => by
                      have e : ga = q := Option.some.inj hq
                      rw [← e]; exact hgc)
                    have HAn := Lib.hid (hAn.more (show wc.heap.size ≤ W8.heap.size from Nat.le_trans (belowDA (w := wc) (.cells #[.int .i64 t_k, .int .i64 t_i, .int .i64 t_g, .string t_n, .string t_f, .int .i64 t_a, .slice pt nt ct, .string t_b, .int .i64 t_z, .int .i64 b1, .int .i64 b4, .int .i64 b3, .string b2, .string ⟨#[]⟩, .int .i64 0, .slice none 0 0, .string ⟨#[]⟩, .int .i64 0] 60)).size hA.grown.size))
                    have HPm : Hid (∀ q, (Value.slice (some ⟨ga, oa, none⟩) A.length ca).ownBlock = some q → (Value.slice ao' (Wm.length + 1) cap').ownBlock ≠ some q) := Lib.hid (fun q hq => by
                      have e : ga = q := Option.some.inj hq
                      rw [← e]
                      have hpq := hA.place (Nat.lt_of_lt_of_le hz8.2.2 (belowDA (w := wc) (.cells #[.int .i64 t_k, .int .i64 t_i, .int .i64 t_g, .string t_n, .string t_f, .int .i64 t_a, .slice pt nt ct, .string t_b, .int .i64 t_z, .int .i64 b1, .int .i64 b4, .int .i64 b3, .string b2, .string ⟨#[]⟩, .int .i64 0, .slice none 0 0, .string ⟨#[]⟩, .int .i64 0] 60)).size) (HPn.out ga rfl)
                      rw [List.length_append] at hpq
                      exact hpq)
                    clear hA e0 e1 e2 e3 e4 e5 e6 e7 e8 f0 f1 f2 f3 f4 f5 f6 f7 f8 de0 de1 de2 de3 de4 de5 de6 de7 de8 df0 df1 df2 df3 df4 df5 df6 df7 df8 ae0 ae1 ae2 ae3 ae4 ae5 ae6 ae7 ae8 af0 af1 af2 af3 af4 af5 af6 af7 af8 HCe HOa HRf HOw hgb hgc hz8 hAn HE
                    go_wp2_with fail
                    go_roundg (A.length - (k + 1))
                    case measure => have := HM.out; omega
                    case rel => exact Lib.hid ⟨k + 1, _, by go_num, by omega, rfl, HO8.out, HFk1.out, HWn1.out, by have := HWn.out; rw [List.length_append]; simp; omega, HPm.out, HAn.out, HBn.out⟩
            · obtain rfl : k = A.length := by omega
              have HOe := Lib.hid hown
              have HMe : Hid (Wm.map wp = wantI S node (so.take (i + 1))) := Lib.hid (by rw [hmap, HWt.out, List.take_length, HAd.out])
              have HWe := Lib.hid hWl
              have HNe : Hid (Wm.length ≤ (i + 1) * 1000) := Lib.hid (by omega)
              have HBe := Lib.hid hb8
              clear hown hmap hWl hwl hpl hA8 hb8 hm hk
              go_wp2_with fail
              go_roundg (so.length - (i + 1))
              case measure => have := HN.out; omega
              case rel => exact Lib.hid ⟨i + 1, Wm, by go_num, by omega, rfl, HOe.out, HMe.out, HWe.out, HNe.out, HBe.out⟩
        · obtain rfl : i = so.length := by omega
          have HWant : Hid (Wl.map wp = wantI S node so) := Lib.hid (by rw [hmap, List.take_length])
          have HWl := Lib.hid hWl
          have HWn : Hid (Wl.length ≤ 1000000) := Lib.hid (by omega)
          have HOw := Lib.hid hown
          have hlen : S.H.length ≤ 600 := by have := HL.out.len; have := HI300.out; omega
          have hlenM : S.M.length ≤ 300 := by have := HL.out.lenM; have := HI300.out; omega
          have HLn := Lib.hid hlen
          have HMn := Lib.hid hlenM
          have HBr := Lib.hid (belowCC HB6.out hbk)
          have HLo := Lib.hid (lost37 (HS6.out.below hbk) (by omega) node)
          have HZ := Lib.hid HZ.out
          have HZw : Hid (w5.heap.size ≤ w6.heap.size ∧ w6.heap.size ≤ wr.heap.size) := Lib.hid ⟨HZ6.out, hbk.size⟩
          clear hown hmap hWl hwl hbk hn hi hlen hlenM HsN
          go_wp2_with fail
          refine HLo.out.mono ?_
          rintro e w10 ⟨v10, L, rfl, hp, hs, ho, hS10, ht10⟩
          obtain ⟨p10, c10, rfl, _, _⟩ := ho.shape
          have hWm : Wl.map wp = (lostL S.H L).1 := HWant.out.trans (want_is HL.out HsS.out HsV.out HsO.out hp hs)
          have hz := HZ.out
          have hz5 := HZ5.out
          have hzw := HZw.out
          have hrv : RecAt prTL 18 w10 w10.heap.size (.slice p10 (lostL S.H L).1.length c10) (Wl.map wp) := by rw [hWm]; exact ho.row (fun a _ => ⟨prTL_len a, prTL_one a⟩)
          have hru : RecAt wE 18 w10 w10.heap.size (.slice pw Wl.length cw) Wl := RecOwn.row (fun x hx => ⟨wE_len _, wE_one (HWl.out x hx).2⟩) (HOw.out.same (fun q hq => ht10.block q (HOw.out.lt hq).2 (fun e => by have := (HOw.out.lt hq).1; rcases e with e | e | e <;> omega)))
          have hB10 := HBr.out.trans (below_of_touch ht10 hz.1 hz.2.1 hz.2.2 HBr.out.size)
          have HPr := Lib.hid (pairs36 w10 (Nat.le_refl _) hrv hru (fun x hx => ⟨(HWl.out x hx).1, flat_items (HWl.out x hx).1 (HWl.out x hx).2⟩) (by have := HWn.out; omega))
          have HS10 := Lib.hid hS10
          have HB10 := Lib.hid hB10
          have HPm := Lib.hid hp
          clear hp hs ho hS10 ht10 hWm hz hz5 hzw hrv hru hB10 HLo HOw HWl HWant HsS HsV HsO
          go_wp2_with fail
          refine HPr.out.mono ?_
          rintro e w11 ⟨rfl, hb11⟩
          have hl2 : (lostS S L).H.length ≤ 600 := Nat.le_trans (lost_len HL.out HPm.out) HLn.out
          have HLo2 := Lib.hid (lost37 (HS10.out.below hb11) (by omega) node)
          have HB11 := Lib.hid (belowCC HB10.out hb11)
          clear hb11 hl2 HPr
          go_wp2_with fail
          refine HLo2.out.mono ?_
          rintro e w12 ⟨v12, L2, rfl, hp2, hs2, ho2, hS12, ht12⟩
          have hL2 : L2 = [] := HL.out.after HPm.out hp2
          subst hL2
          obtain ⟨p12, c12, rfl, _, _⟩ := ho2.shape
          have h0 : (lostL (lostS S L).H []).1.length = 0 := rfl
          rw [h0]
          have hz := HZ.out
          have hB12 := HB11.out.trans (below_of_touch ht12 hz.1 hz.2.1 hz.2.2 HB11.out.size)
          have HB12 := Lib.hid hB12
          have hS12' : LkAt w12 z mh mm (lostS S L) := hS12
          have HCu := Lib.hid (cut38 hS12' (show S.M.length ≤ 100000000 by have := HMn.out; omega) node)
          clear hp2 hs2 ho2 hS12 ht12 h0 hz hB12 hS12' HLo2
          go_wp2_with fail
          refine HCu.out.mono ?_
          rintro e w13 ⟨v13, Lc, rfl, hpc, hsc, hoc, hS13, ht13⟩
          obtain ⟨p13, c13, rfl, _, _⟩ := hoc.shape
          have hz := HZ.out
          have HB13 := Lib.hid (HB12.out.trans (below_of_touch ht13 hz.1 hz.2.1 hz.2.2 HB12.out.size))
          have hlc : Lc.length ≤ 300 := by
            have h1 := hpc.length_eq
            have h2 : ((S.M.map (·.2)).filter (cutT (lostS S L) node)).length ≤ (S.M.map (·.2)).length := List.length_filter_le _ _
            have h3 : Lc.length = ((S.M.map (·.2)).filter (cutT (lostS S L) node)).length := h1
            rw [List.length_map] at h2
            have := HMn.out
            omega
          have HCt : Hid (∀ m ∈ Lc, m.2.1.2.1 = node ∨ m.2.2.2.1 = node) := Lib.hid (fun m hm => by
            have h1 := (List.mem_filter.1 (hpc.mem_iff.1 hm)).2
            unfold cutT farB at h1
            by_cases h2 : m.2.1.2.1 = node
            · exact .inl h2
            · rw [decide_eq_false h2] at h1
              by_cases h3 : m.2.2.2.1 = node
              · exact .inr h3
              · rw [decide_eq_false h3] at h1
                simp at h1)
          have HRc := Lib.hid (fun W' (hW : Below w13.heap.size w13 W') => (hoc.row (fun a _ => ⟨mnTL_len a, mnTL_one a⟩)).below hW (Nat.le_refl _))
          have HS13 := Lib.hid hS13
          have HPc : Hid (Lc.Perm ((S.M.map (·.2)).filter (cutT (lostS S L) node))) := Lib.hid hpc
          have H60 : Hid (RuI w13 Lc.length Lc.length (.int .i64 0) w13) := Lib.hid ⟨0, rfl, Nat.zero_le _, rfl, Below.refl _ _⟩
          clear hpc hsc hoc hS13 ht13 hz HCu
          go_wp2_with fail
          go_loopg [15] Lc.length (fun m iv wr => Hid (RuI w13 Lc.length m iv wr))
          case atStart => exact H60
          case round =>
            obtain ⟨k, rfl, hk, hm, hbk⟩ := hrel.out
            clear hrel H60
            by_cases hlt4 : k < Lc.length
            · have r4 : (k : Int) < (Lc.length : Int) := by omega
              have hat := List.getElem?_eq_getElem hlt4
              obtain ⟨g, o, e1, hn0, _, _⟩ := (HRc.out _ hbk).nth (by omega)
              clear hn0
              subst e1
              have hrg := RecAt_range (HRc.out _ hbk) hat
              have hct := HCt.out _ (List.getElem_mem hlt4)
              clear hat
              generalize Lc[k] = m at *
              obtain ⟨m1, ⟨y1, y2, y3, y4⟩, ⟨v1, v2, v3, v4⟩⟩ := m
              dsimp only at hct
              have f1 : wr.cell? ⟨g, o + k * 27 + 12, none⟩ = some (.string y2) := hrg 12 _ rfl
              have f2 : wr.cell? ⟨g, o + k * 27 + 21, none⟩ = some (.string v2) := hrg 21 _ rfl
              have g1 : wr.cell? ⟨g, o + k * 27 + 9 + 3, none⟩ = some (.string y2) := f1
              have g2 : wr.cell? ⟨g, o + k * 27 + 18 + 3, none⟩ = some (.string v2) := f2
              have q1 := str_dec y2 node
              have q2 := str_dec v2 node
              have HN := Lib.hid hm
              have HBk := Lib.hid hbk
              clear hrg hm hbk
              by_cases h1 : y2 = node
              · rw [decide_eq_true h1] at q1
                clear hct h1 q2
                go_wp2_with fail
                go_roundg (Lc.length - (k + 1))
                case measure => have := HN.out; omega
                case rel => exact Lib.hid ⟨k + 1, by go_num, by omega, rfl, HBk.out⟩
              · have h2 : v2 = node := hct.resolve_left h1
                rw [decide_eq_false h1] at q1
                rw [decide_eq_true h2] at q2
                clear hct h1 h2
                go_wp2_with fail
                go_roundg (Lc.length - (k + 1))
                case measure => have := HN.out; omega
                case rel => exact Lib.hid ⟨k + 1, by go_num, by omega, rfl, HBk.out⟩
            · obtain rfl : k = Lc.length := by omega
              have hlm : (cutS (lostS S L) Lc).M.length ≤ 300 := Nat.le_trans (cutM_len Lc S.M) HMn.out
              have HCu2 := Lib.hid (cut38 (HS13.out.below hbk) (by omega) node)
              have HBe := Lib.hid (belowCC HB13.out hbk)
              clear hlm hbk hm hk HRc
              go_wp2_with fail
              refine HCu2.out.mono ?_
              rintro e w14 ⟨v14, L3, rfl, hp3, hs3, ho3, hS14, ht14⟩
              have hL3 : L3 = [] := cut_after HL.out.ndM HL.out.own HPc.out hp3
              subst hL3
              obtain ⟨p14, c14, rfl, _, _⟩ := ho3.shape
              have hz := HZ.out
              have hBf := HBe.out.trans (below_of_touch ht14 hz.1 hz.2.1 hz.2.2 HBe.out.size)
              have HBf := Lib.hid hBf
              clear hp3 hs3 ho3 hS14 ht14 hz hBf
              go_wp2_with fail
              go_ret
              exact ⟨rfl, HBf.out⟩
end Go.Proofs.YtnakbepcalciiaaGreat.lk
