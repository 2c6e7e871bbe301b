/- Texts of this seat, one behind the other: TnS, ToF. No condition beyond theirs. -/
import Derived.Test.YtfbggmbmgohiiaaGreatM31
import Derived.Test.YtfbggmbmgohiiaaGreatM24
import Derived.Maps.AppendAt
set_option linter.unusedSimpArgs false
set_option linter.unusedVariables false
set_option maxHeartbeats 1000000
set_option maxRecDepth 100000
namespace Go.Proofs.YtfbggmbmgohiiaaGreat.tm
open Go.RowKit mem names
def StableS (N : Nat) : Prop := ∀ (α : Type) (enc : α → TF × Value) (w0 w : World) (b n cap : Nat) (S : α → Prop) (c : α → α → Int) (tg : α → Nat) (M : List α), CmpW enc w0 b 96 S c → TP S c → (∀ x ∈ M, S x) → M.Pairwise (fun x y => tg x < tg y) → RowW enc w0 w b n cap M → n ≤ N →
  Calls Tryz.prog 95 #[.slice (some ⟨b, 0, none⟩) n cap, .func (.func 96) #[] #[]] w (SortPost c tg enc w0 b n cap [] M [])
noncomputable def sortL {n : Nat} (l : List (Tm (n + 1))) : List (Tm (n + 1)) := l.mergeSort (leB cmpV)
abbrev Tag (n : Nat) := Nat × Tm (n + 1) × Value
def encT {n : Nat} (x : Tag n) : TF × Value := (x.2.1.f, x.2.2)
noncomputable def cmpT {n : Nat} (x y : Tag n) : Int := cmpV x.2.1 y.2.1
def TagOK (w : World) (F : Nat → Prop) (g : Nat) {n : Nat} (x : Tag n) : Prop := ItemsIn w F n x.2.2 x.2.1.items ∧ PtrOK w F g x.2.2 ∧ 300 * (nodesT x.2.1 : Int) ≤ 1000000000000
theorem tagged {n : Nat} {w : World} {F : Nat → Prop} {g : Nat} : ∀ (l : List (Tm (n + 1))) (rs : List (TF × Value)) (k : Nat), rs.length = l.length → (∀ j, (h : j < l.length) → (h' : j < rs.length) → EltIn w F (n + 1) l[j] rs[j].1 rs[j].2 ∧ PtrOK w F g rs[j].2 ∧ 300 * (nodesT l[j] : Int) ≤ 1000000000000) →
    ∃ e : List (Tag n), e.map encT = rs ∧ e.map (fun x => x.2.1) = l ∧ e.map (fun x => x.1) = List.range' k l.length ∧ ∀ x ∈ e, TagOK w F g x
  | [], [], k, _, _ => ⟨[], rfl, rfl, rfl, by simp⟩
  | t :: l, (f, u) :: rs, k, hl, h => by
    obtain ⟨e, h1, h2, h3, h4⟩ := tagged l rs (k + 1) (by simpa using hl) (fun j a b => h (j + 1) (by simpa using a) (by simpa using b))
    obtain ⟨⟨a1, a2⟩, a3, a4⟩ := h 0 (by simp) (by simp)
    refine ⟨(k, t, u) :: e, ?_, by simp [h2], by simp [h3, List.range'_succ], fun x hx => ?_⟩
    · rw [List.map_cons, h1]
      show (t.f, u) :: rs = (f, u) :: rs
      rw [show t.f = f from a1]
    · rcases List.mem_cons.1 hx with rfl | hx
      · exact ⟨a2, a3, a4⟩
      · exact h4 x hx
theorem zip_tags {n : Nat} : ∀ (e : List (Tag n)) (k : Nat), e.map (fun x => x.1) = List.range' k e.length → e.map (fun x => (x.2.1, x.1)) = (e.map (fun x => x.2.1)).zipIdx k
  | [], _, _ => rfl
  | x :: e, k, h => by
    rw [List.map_cons, List.length_cons, List.range'_succ] at h
    simp only [List.cons.injEq] at h
    rw [List.map_cons, List.map_cons, List.zipIdx_cons, ← zip_tags e (k + 1) h.2, h.1]
theorem tagged_sorted {n : Nat} (e M : List (Tag n)) (he : e.map (fun x => x.1) = List.range' 0 e.length) (hp : M.Perm e) (hs : M.Pairwise (tlt cmpT (fun x => x.1))) : M.map (fun x => x.2.1) = sortL (e.map (fun x => x.2.1)) := by
  have h := sort_unique (tpV (n := n)) (e.map (fun x => x.2.1)) (M.map (fun x => (x.1, x.2.1))) ?_ ?_
  · rw [List.map_map] at h
    exact h
  · rw [List.map_map, ← zip_tags e 0 he]
    exact hp.map _
  · rw [List.pairwise_map]
    exact hs
theorem tag_pairwise {n : Nat} (e : List (Tag n)) (he : e.map (fun x => x.1) = List.range' 0 e.length) : e.Pairwise (fun x y => x.1 < y.1) := by
  rw [← List.pairwise_map (f := fun x : Tag n => x.1) (R := (· < ·)), he]
  exact List.pairwise_lt_range'
theorem tagCmp {n : Nat} (w0 : World) (F : Nat → Prop) (b : Nat) (hF : ∀ g, F g → b < g ∧ g < w0.heap.size) : CmpW (encT (n := n)) w0 b 96 (TagOK w0 F b) cmpT := by
  refine ⟨fun x hx => ?_, fun W x y ht hx hy => ?_⟩
  · obtain ⟨p, c, e, _⟩ := (hx.1.toAt (B := w0.heap.size) (fun g hg => (hF g hg).2)).shape
    exact ⟨p, _, c, e⟩
  · have hs : ∀ g, F g → W.heap[g]? = w0.heap[g]? := fun g hg => ht.block g (hF g hg).2 (by have := (hF g hg).1; omega)
    exact Compare W w0.heap.size _ _ x.2.1 y.2.1 ht.size ((hx.1.mono hs (fun _ h => h)).toAt (fun g hg => (hF g hg).2)) ((hy.1.mono hs (fun _ h => h)).toAt (fun g hg => (hF g hg).2)) hx.2.2 hy.2.2
theorem sorted_new {n : Nat} {w w0 w1 : World} {F : Nat → Prop} {l : List (Tm (n + 1))} (e M : List (Tag n)) (hw : w.heap.size < w0.heap.size) (hb : Below w.heap.size w w0) (hF : ∀ g, F g → w.heap.size < g ∧ g < w0.heap.size) (hty : Typed w0 F) (hok : ∀ x ∈ e, TagOK w0 F w.heap.size x) (hl : e.map (fun x => x.2.1) = l) (htag : e.map (fun x => x.1) = List.range' 0 l.length)
    (hp : M.Perm e) (hs : M.Pairwise (tlt cmpT (fun x => x.1))) (hr : RowW encT w0 w1 w.heap.size l.length l.length M) : NewAt w w1 (fun g => F g ∨ g = w.heap.size) (n + 1) (.slice (some ⟨w.heap.size, 0, none⟩) (sortL l).length (sortL l).length) (sortL l) := by
  have hle : e.length = l.length := by rw [← hl]; simp
  have hsl : (sortL l).length = l.length := by unfold sortL; exact List.length_mergeSort l
  have hM := tagged_sorted e M (by rw [hle]; exact htag) hp hs
  rw [hl] at hM
  have hml : M.length = l.length := by rw [hp.length_eq, hle]
  have hsame : ∀ g, F g → w1.heap[g]? = w0.heap[g]? := fun g hg => hr.touch.block g (hF g hg).2 (by have := (hF g hg).1; omega)
  have hroom := hr.room
  have hcells := fun j hj => hr.cells j hj
  refine ⟨?_, fun g hg => ?_, ?_, fun g hg => ?_, ?_⟩
  · refine ⟨_, _, rfl, Nat.le_refl _, by rw [hsl]; exact hroom.2, fun _ => ⟨_, 0, rfl, .inr rfl, fun j hj => ?_⟩⟩
    have hj' : j < M.length := by omega
    have ej : (sortL l)[j] = M[j].2.1 := by simp only [← hM, List.getElem_map]
    refine ⟨M[j].2.2, ?_, ?_⟩
    · rw [ej, Nat.zero_add]; exact hcells j hj'
    · rw [ej]
      exact (hok M[j] (hp.mem_iff.1 (List.getElem_mem hj'))).1.mono hsame (fun _ h => .inl h)
  · have := hr.touch.size
    rcases hg with hg | rfl
    · have := hF g hg; omega
    · omega
  · rcases hr.own.2 with ⟨h', _⟩ | ⟨g', cap', cur, h', hbg, hg, hnc, hcm, hcs, htake⟩
    · simp at h'
    · simp only [Value.slice.injEq, Option.some.injEq, Addr.mk.injEq, and_true, true_and] at h'
      obtain ⟨rfl, rfl⟩ := h'
      refine (hty.same hsame).add hg hcs fun j hj => ?_
      have hj' : j < M.length := by omega
      exact ⟨_, _, hcells j hj', (hok M[j] (hp.mem_iff.1 (List.getElem_mem hj'))).2.1.mono hsame (fun _ h => h)⟩
  · rw [hsl]
    rcases hr.own.2 with ⟨h', _⟩ | ⟨g', cap', cur, h', hbg, hg', hnc, hcm, hcs, htake⟩
    · simp at h'
    · simp only [Value.slice.injEq, Option.some.injEq, Addr.mk.injEq, and_true, true_and] at h'
      obtain ⟨rfl, rfl⟩ := h'
      exact ⟨_, _, _, rfl, .inr ⟨_, 0, cur, _, by rw [Nat.zero_mul], .inr rfl, hg, hg', by rw [Nat.zero_add, hcs]; omega, by omega⟩⟩
  · exact (hr.touch.trans (S := fun k => k = w.heap.size) (TouchB.refl (fun _ => False) _) (fun _ _ f => f.elim)) |> (fun ht => ⟨ht.os.trans hb.os, ht.tape.trans hb.tape, ht.output.trans hb.output, Nat.le_trans hb.size ht.size, fun k hk => (ht.block k (by omega) (by omega)).trans (hb.block k hk)⟩)
set_option maxHeartbeats 4000000 in
theorem sortW {n N : Nat} (hst : StableS N) (w : World) (B : Nat) (v : Value) (l : List (Tm (n + 1))) (hB : B ≤ w.heap.size) (h1 : ItemsAt w B (n + 1) v l) (hs : nodesL (n + 1) l ≤ 100000000) (hN : l.length ≤ N) (hN2 : N ≤ 1000000) :
    Calls Tryz.prog 67 #[v] w (LPost (sortL l) w) := by
  have ih : ∀ m, n + 1 = m + 1 → CopyS m := fun m _ => copyAll m
  have HSt := Lib.hid hst
  clear hst
  have hlen := nodes_len (n + 1) l
  obtain ⟨p, c, rfl, hc, hm⟩ := h1.shape
  have HP := Lib.hid (copyEl ih w B p l.length c l hB h1 hs)
  have hle : l.length ≤ 100000000 := by omega
  have hle2 : (l.length : Int) ≤ 100000000 := by omega
  have hmk := fun W => make24 W (l.length : Int) l.length rfl (by omega)
  have HS0 := Lib.hid hs
  have HN := Lib.hid hN
  clear ih h1 hs hlen hc hm hN
  obtain ⟨i0, hi0, hz0, hz1, hz2⟩ := info_parts info24
  go_enter Tryz.func67, Tryz.ntmps67
  go_wp2_with fail
  have HI : RowInv (EltL l) w (w.alloc (.cells (madeCells #[.int .i64 0, .int .i64 0, .int .i64 0, .string ⟨#[]⟩, .string ⟨#[]⟩, .int .i64 0, .slice none 0 0, .string ⟨#[]⟩, .int .i64 0] (l.length * 9)) 24)) l.length 0 [] (fun _ => False) := RowInv.start _ (by unfold maxLen; omega) (size_madeCells _ _)
  generalize (w.alloc (.cells (madeCells #[.int .i64 0, .int .i64 0, .int .i64 0, .string ⟨#[]⟩, .string ⟨#[]⟩, .int .i64 0, .slice none 0 0, .string ⟨#[]⟩, .int .i64 0] (l.length * 9)) 24)) = w0 at *
  go_loopw [3, 11] (fun s t wr => ∃ (k : Nat) (rs : List (TF × Value)) (F : Nat → Prop), s = .slice (some ⟨w.heap.size, 0, none⟩) k l.length ∧ t = .int .i64 k ∧ k ≤ l.length ∧ Hid (RowInv (EltL l) w wr l.length k rs F)) (fun _ t _ => l.length - (intOf t).toNat)
  case atStart => exact ⟨0, [], fun _ => False, rfl, rfl, by omega, Lib.hid HI⟩
  case round =>
    obtain ⟨k, rs, F, rfl, rfl, hk, HR⟩ := hrel
    by_cases hlt : k < l.length
    · obtain ⟨g, o, x, q, m, d, rfl, hg, hC, hCall⟩ := HP.out k hlt
      have HCall := Lib.hid hCall
      clear hCall
      have hC := hC.same (HR.out.below.block g hg)
      have hgr : g < wr.heap.size := Nat.lt_of_lt_of_le hg HR.out.below.size
      obtain ⟨x0, x1, x2, x3, x4, x5, x6, x7, x8⟩ := hC
      obtain ⟨kk, ii, gg, nm, fn, ar, by_, bt⟩ := x
      dsimp only at x0 x1 x2 x3 x4 x5 x6 x7 x8
      unfold EPost aggV at HCall
      dsimp only at HCall
      go_wp2_with fail
      have hb1 : Below wr.heap.size wr (wr.alloc (cells9 ⟨kk, ii, gg, nm, fn, ar, by_, bt⟩ (.slice q m d))) := (Below.refl _ _).alloc (Nat.le_refl _) _
      refine (HCall.out _ (HR.out.below.trans (hb1.mono HR.out.below.size))).mono ?_
      rintro e w2 ⟨F', g', rfl, hE, hin, hty, hpt, hb2⟩
      have hb2' : Below wr.heap.size wr w2 := hb1.trans (hb2.mono (by simp))
      have hb3 : Below w2.heap.size w2 (w2.alloc (cells9 ⟨kk, ii, gg, nm, fn, ar, by_, bt⟩ (.slice (some ⟨g', 0, none⟩) m m))) := (Below.refl _ _).alloc (Nat.le_refl _) _
      have hbw3 : Below wr.heap.size wr (w2.alloc (cells9 ⟨kk, ii, gg, nm, fn, ar, by_, bt⟩ (.slice (some ⟨g', 0, none⟩) m m))) := hb2'.trans (hb3.mono hb2'.size)
      have HS : ∀ g, F' g → (w2.alloc (cells9 ⟨kk, ii, gg, nm, fn, ar, by_, bt⟩ (.slice (some ⟨g', 0, none⟩) m m))).heap[g]? = w2.heap[g]? := fun g hg => hb3.block g (hin g hg).2
      have HE := Lib.hid (eltL_mono l w.heap.size _ _ _ _ _ _ _ HS (fun g hg => hb3.block g (Nat.lt_of_lt_of_le hg (Nat.le_trans HR.out.below.size hb2'.size))) (fun _ h => h) hE)
      have HPt := Lib.hid ((hpt w.heap.size (by have := HR.out.lt; simp; omega)).mono HS (fun _ h => h))
      have HTy := Lib.hid (hty.same HS)
      have HIn : Hid (∀ g, F' g → wr.heap.size ≤ g ∧ g < (w2.alloc (cells9 ⟨kk, ii, gg, nm, fn, ar, by_, bt⟩ (.slice (some ⟨g', 0, none⟩) m m))).heap.size) := Lib.hid (fun g hg => by have := hin g hg; simp at this ⊢; omega)
      have HOwn := Lib.hid (HR.out.ownAt hbw3)
      have HNC := Lib.hid (nine_cell w2 ⟨kk, ii, gg, nm, fn, ar, by_, bt⟩ (.slice (some ⟨g', 0, none⟩) m m))
      have HNO := Lib.hid (nine_one ⟨kk, ii, gg, nm, fn, ar, by_, bt⟩ (some ⟨g', 0, none⟩) m m)
      have HBW := Lib.hid hbw3
      clear hE hin hty hpt hb2 hb1 hb2' hb3 hbw3 HS
      unfold cells9 at HE HPt HTy HIn HOwn HNC HBW
      dsimp only at HE HPt HTy HIn HOwn HNC HBW
      go_wp2_with (at_builtin; refine wpList_append_fits rfl (.tmp 15) (.tmp 18) 22 rfl w.heap.size 24 i0 9 Tryz.underlying22 hi0 hz1 w.heap.size k l.length (flatR rs) rfl HOwn.out ⟨w2.heap.size, 0, none⟩ 1 1 (nineL ⟨kk, ii, gg, nm, fn, ar, by_, bt⟩ (.slice (some ⟨g', 0, none⟩) m m)) rfl rfl HNC.out HNO.out (by omega) ?_; intro w4 hown4 hg4)
      have HNext := Lib.hid (HR.out.next (eltL_mono l w.heap.size) HBW.out HE.out HPt.out HTy.out HIn.out hg4 hown4)
      go_roundw
      case rel => exact ⟨k + 1, _, _, rfl, by go_num, by omega, HNext⟩
      case measure => simp [intOf]; omega
    · obtain rfl : k = l.length := by omega
      have hr := HR.out
      have hns := fun j (h : j < l.length) => nodes_mem h
      obtain ⟨e, k1, k2, k3, k4⟩ := tagged (w := wr) (F := F) (g := w.heap.size) l rs 0 hr.len (fun j h h' => ⟨(hr.elt j h').1.2, (hr.elt j h').2, by have := hns j h; have := HS0.out; omega⟩)
      have hel : e.length = l.length := by rw [← k2]; simp
      have hrow : RowW encT wr wr w.heap.size l.length l.length e := ⟨by rw [k1]; exact row_base hr.own (fun k _ => Nat.zero_le _), hel, TouchB.refl _ _⟩
      have HC := Lib.hid (HSt.out _ encT wr wr w.heap.size l.length l.length (TagOK wr F w.heap.size) cmpT (fun x => x.1) e (tagCmp wr F w.heap.size hr.inr) (TP.mono (TP.comap (tpV (n := n)) (fun x : Tag n => x.2.1)) (fun _ _ => trivial)) k4 (tag_pairwise e (by rw [hel]; exact k3)) hrow HN.out)
      have HFin := Lib.hid (fun w1 M hp hs (hr1 : RowW encT wr w1 w.heap.size l.length l.length M) => sorted_new (l := l) e M hr.lt hr.below hr.inr hr.typed k4 k2 k3 hp hs hr1)
      have HSL : Hid ((sortL l).length = l.length) := Lib.hid (List.length_mergeSort l)
      clear hr hns k1 k2 k3 k4 hrow
      go_wp2_with fail
      refine HC.out.mono ?_
      rintro e1 w1 ⟨rfl, M, hp, hs1, hr1⟩
      have HF := Lib.hid (HFin.out w1 M hp hs1 (by simpa using hr1))
      clear hp hs1 hr1
      go_wp2_with fail
      go_ret
      exact ⟨fun g => F g ∨ g = w.heap.size, w.heap.size, by rw [HSL.out]; rfl, HF.out, .inr rfl⟩
variable {n : Nat} {w w' : World} {B : Nat}
theorem ItemsAt.rows {l : List (Tm (n + 1))} {g o c : Nat} (h : ItemsAt w B (n + 1) (.slice (some ⟨g, o, none⟩) l.length c) l) : ∃ rs : List (TF × Value), rs.length = l.length ∧ (∀ j, (h1 : j < rs.length) → (h2 : j < l.length) → rs[j].1 = l[j].f ∧ ItemsAt w B n rs[j].2 l[j].items) ∧
    (∀ j u, (flatR rs)[j]? = some u → w.cell? ((⟨g, o, none⟩ : Addr).add j) = some u) ∧ ∀ u ∈ flatR rs, u.oneCell' = true := by
  obtain ⟨p, c', e, h1, h2, h3⟩ := h
  simp only [Value.slice.injEq, true_and] at e
  obtain ⟨rfl, rfl⟩ := e
  have key : ∀ k, k ≤ l.length → ∃ rs : List (TF × Value), rs.length = k ∧ ∀ j, (h1 : j < rs.length) → (h2 : j < l.length) → rs[j].1 = l[j].f ∧ ItemsAt w B n rs[j].2 l[j].items ∧ Cells w g (o + j * 9) rs[j].1 rs[j].2 := by
    intro k
    induction k with
    | zero => intro _; exact ⟨[], rfl, fun j h => by simp at h⟩
    | succ k ih =>
      intro hk
      obtain ⟨rs, hl, hr⟩ := ih (by omega)
      obtain ⟨g', o', e, hg, hc⟩ := h3 (by intro e; subst e; simp at hk)
      simp only [Option.some.injEq, Addr.mk.injEq, and_true] at e
      obtain ⟨rfl, rfl⟩ := e
      obtain ⟨u, hu1, hu2⟩ := hc k (by omega)
      refine ⟨rs ++ [((l[k]'(by omega)).f, u)], by simp [hl], fun j h1 h2 => ?_⟩
      by_cases hj : j < rs.length
      · rw [List.getElem_append_left hj]; exact hr j hj h2
      · have : j = k := by simp at h1; omega
        subst this
        rw [List.getElem_append_right (by omega)]
        simp only [hl, Nat.sub_self, List.getElem_cons_zero]
        first | exact ⟨rfl, hu2, hu1⟩ | exact ⟨trivial, hu2, hu1⟩
  obtain ⟨rs, hl, hr⟩ := key l.length (Nat.le_refl _)
  refine ⟨rs, hl, fun j h1 h2 => ⟨(hr j h1 h2).1, (hr j h1 h2).2.1⟩, fun j u hj => ?_, fun u hu => ?_⟩
  · rw [Addr.add_lit]
    have hjl : j < (flatR rs).length := (List.getElem?_eq_some_iff.1 hj).1
    rw [flatR_len] at hjl
    have hq : j / 9 < rs.length := by omega
    have := (hr (j / 9) hq (by omega)).2.2.all (j % 9) (Nat.mod_lt _ (by omega))
    rw [← flatR_get rs (j / 9) hq (j % 9) (Nat.mod_lt _ (by omega))] at this
    rw [show j / 9 * 9 + j % 9 = j by omega, show o + j / 9 * 9 + j % 9 = o + j by omega] at this
    rw [this, hj]
  · unfold flatR at hu
    rw [List.mem_flatMap] at hu
    obtain ⟨r, hr1, hr2⟩ := hu
    obtain ⟨j, hj, rfl⟩ := List.getElem_of_mem hr1
    obtain ⟨_, hi, _⟩ := hr j hj (by omega)
    obtain ⟨q, c2, e, _⟩ := hi.shape
    rw [e] at hr2
    exact nine_one _ _ _ _ u hr2
def RRow (wr : World) (B base : Nat) (v : Value) (rs : List (TF × Value)) (O : List (Tm (n + 1))) : Prop :=
  wr.ownsRow base 24 9 v O.length (flatR rs) ∧ rs.length = O.length ∧ ∀ j, (h1 : j < rs.length) → (h2 : j < O.length) → rs[j].1 = O[j].f ∧ ItemsAt wr B n rs[j].2 O[j].items
theorem RRow.nil (wr : World) (B base : Nat) : RRow (n := n) wr B base (.slice none 0 0) [] [] := ⟨World.ownsRow_nil _ _ _ _, rfl, fun j h => by simp at h⟩
theorem RRow.items {wr : World} {B base : Nat} {v : Value} {rs : List (TF × Value)} {O : List (Tm (n + 1))} (h : RRow wr B base v rs O) (hB : B ≤ wr.heap.size) : ItemsAt wr wr.heap.size (n + 1) v O := by
  obtain ⟨h1, h2, h3⟩ := h
  rcases h1.2 with ⟨rfl, h0⟩ | ⟨g, cap, cur, rfl, hbg, hg, hc, hm, hs, ht⟩
  · have : O = [] := List.eq_nil_of_length_eq_zero h0
    subst this
    exact ItemsAt.nil_any (by unfold maxLen; omega)
  · refine ⟨_, _, rfl, hc, hm, fun _ => ⟨g, 0, rfl, (Array.getElem?_eq_some_iff.1 hg).1, fun j hj => ?_⟩⟩
    have hj' : j < rs.length := by omega
    have := row_cells h1 (by omega) j hj'
    refine ⟨rs[j].2, ?_, (h3 j hj' hj).2.more hB⟩
    rw [Nat.zero_add, ← (h3 j hj' hj).1]
    exact this
theorem RRow.below {wr w' : World} {B base : Nat} {v : Value} {rs : List (TF × Value)} {O : List (Tm (n + 1))} (h : RRow wr B base v rs O) (hb : Below wr.heap.size wr w') (hB : B ≤ wr.heap.size) : RRow w' B base v rs O := by
  obtain ⟨h1, h2, h3⟩ := h
  refine ⟨row_same h1 (fun k hk => hb.block k ?_), h2, fun j a b => ⟨(h3 j a b).1, (h3 j a b).2.below hb hB⟩⟩
  rcases h1.2 with ⟨rfl, h0⟩ | ⟨g, cap, cur, rfl, hbg, hg, _⟩
  · simp [Value.ownBlock] at hk
  · simp [Value.ownBlock] at hk
    subst hk
    exact (Array.getElem?_eq_some_iff.1 hg).1
theorem RRow.push {wr w' : World} {B base : Nat} {v v' : Value} {rs rs' : List (TF × Value)} {O O' : List (Tm (n + 1))} (h : RRow wr B base v rs O) (hl : rs'.length = O'.length) (h' : ∀ j, (h1 : j < rs'.length) → (h2 : j < O'.length) → rs'[j].1 = O'[j].f ∧ ItemsAt wr B n rs'[j].2 O'[j].items)
    (hown : w'.ownsRow base 24 9 v' (O.length + O'.length) (flatR rs ++ flatR rs')) (hg : wr.grownBy w' v.ownBlock) (hv : ∀ k, v.ownBlock = some k → B ≤ k) (hB : B ≤ wr.heap.size) : RRow w' B base v' (rs ++ rs') (O ++ O') := by
  obtain ⟨h1, h2, h3⟩ := h
  have hs : ∀ g, g < B → w'.heap[g]? = wr.heap[g]? := fun g hg' => hg.block g (by omega) (fun e => by have := hv g e.symm; omega)
  refine ⟨by rw [List.length_append, flatR_append]; exact hown, by simp [h2, hl], fun j a b => ?_⟩
  by_cases hj : j < rs.length
  · rw [List.getElem_append_left hj, List.getElem_append_left (by omega)]
    exact ⟨(h3 j hj (by omega)).1, (h3 j hj (by omega)).2.same hs⟩
  · rw [List.getElem_append_right (by omega), List.getElem_append_right (by omega)]
    have e : j - rs.length = j - O.length := by omega
    have := h' (j - O.length) (by simp at a b; omega) (by simp at a b; omega)
    simp only [e]
    exact ⟨this.1, this.2.same hs⟩
theorem RRow.shape {wr : World} {B base : Nat} {v : Value} {rs : List (TF × Value)} {O : List (Tm (n + 1))} (h : RRow wr B base v rs O) : ∃ p c, v = .slice p O.length c := by
  rcases h.1.2 with ⟨rfl, h0⟩ | ⟨g, cap, cur, rfl, _⟩
  · exact ⟨_, _, by rw [h0]⟩
  · exact ⟨_, _, rfl⟩
end Go.Proofs.YtfbggmbmgohiiaaGreat.tm
