/- Several texts in one, one behind the other: TnK, TnS, TnT, TnU, TnV, TnW, TnX, TnL, TnM. No condition beyond theirs. -/
import Derived.Test.YtnakbepcalciiaaGreatGm
import Derived.WalkSpells

/- terms.copies, terms.Copy. Conditions: the terms lie in memory; they are few enough. -/
namespace Go.Proofs.YtnakbepcalciiaaGreat.tm
open Go.RowKit mem names
set_option linter.unusedVariables false
set_option linter.unusedSimpArgs false
set_option maxHeartbeats 4000000
set_option maxRecDepth 100000

def CopyS (n : Nat) : Prop := ∀ (w : World) (B : Nat) (v : Value) (t : Tm (n + 1)), B ≤ w.heap.size → ItemsAt w B n v t.items → nodesT t ≤ 100000000 → Calls Tryz.prog 169 #[aggV t.f v] w (TPost t.f t.items w)
def CopiesS (n : Nat) : Prop := ∀ (w : World) (B : Nat) (v : Value) (l : List (Tm n)), B ≤ w.heap.size → ItemsAt w B n v l → nodesL n l ≤ 100000000 → Calls Tryz.prog 200 #[v] w (LPost l w)
/-- what a copied element gives -/
def EPost {n : Nat} (l : List (Tm n)) (j : Nat) (x : TF) (m : Nat) (w : World) (e : Ending) (w' : World) : Prop :=
  ∃ F g, e = .returned (aggV x (.slice (some ⟨g, 0, none⟩) m m)) ∧ EltL l w' F j x (.slice (some ⟨g, 0, none⟩) m m) ∧ (∀ q, F q → w.heap.size ≤ q ∧ q < w'.heap.size) ∧ Typed w' F ∧ (∀ q, q < w.heap.size → PtrOK w' F q (.slice (some ⟨g, 0, none⟩) m m)) ∧ Below w.heap.size w w'
theorem copyEl {n : Nat} (ih : ∀ m, n = m + 1 → CopyS m) (w : World) (B : Nat) (p : Option Addr) (len c : Nat) (l : List (Tm n)) (hB : B ≤ w.heap.size) (h1 : ItemsAt w B n (.slice p len c) l) (hs : nodesL n l ≤ 100000000) :
    ∀ j, (hj : j < l.length) → ∃ g o x q m d, p = some ⟨g, o, none⟩ ∧ g < w.heap.size ∧ Cells w g (o + j * 9) x (.slice q m d) ∧ ∀ W, Below w.heap.size w W → Calls Tryz.prog 169 #[aggV x (.slice q m d)] W (EPost l j x m W) := by
  cases n with
  | zero => intro j hj; rw [Tm.nil0 l] at hj; exact absurd hj (by simp)
  | succ n =>
    intro j hj
    obtain ⟨g, o, d, e, _, _, hg, hx⟩ := h1.at_ (by intro e; subst e; simp at hj)
    obtain ⟨u, hC, hI⟩ := hx j hj
    simp only [Value.slice.injEq] at e
    obtain ⟨q, c', rfl, _, _⟩ := hI.shape
    have hn := nodes_mem hj
    refine ⟨g, o, l[j].f, q, _, c', e.1, by omega, hC, fun W hb => ?_⟩
    refine (ih n rfl W B _ l[j] (Nat.le_trans hB hb.size) (hI.below hb hB) (by omega)).mono ?_
    rintro e w' ⟨F, g', rfl, hn, hF⟩
    exact ⟨F, g', rfl, ⟨hj, rfl, hn.items⟩, hn.inr, hn.typed, hn.ptr, hn.below⟩
set_option maxHeartbeats 400000 in
theorem copiesStep {n : Nat} (ih : ∀ m, n = m + 1 → CopyS m) : CopiesS n := by
  intro w B v l hB h1 hs
  have hlen := nodes_len n l
  obtain ⟨p, c, rfl, hc, hm⟩ := h1.shape
  have HP := Lib.hid (copyEl ih w B p l.length c l hB h1 hs)
  have hle : l.length ≤ 100000000 := by omega
  have hle2 : (l.length : Int) ≤ 100000000 := by omega
  have hmk := fun W => make24 W (l.length : Int) l.length rfl (by omega)
  clear ih h1 hs hlen hc hm
  obtain ⟨i0, hi0, hz0, hz1, hz2⟩ := info_parts info24
  go_enter Tryz.func200, Tryz.ntmps200
  go_wp2_with fail
  have HI : RowInv (EltL l) w (w.alloc (.cells (madeCells #[.int .i64 0, .int .i64 0, .int .i64 0, .string ⟨#[]⟩, .string ⟨#[]⟩, .int .i64 0, .slice none 0 0, .string ⟨#[]⟩, .int .i64 0] (l.length * 9)) 30)) l.length 0 [] (fun _ => False) := RowInv.start _ (by unfold maxLen; omega) (size_madeCells _ _)
  generalize (w.alloc (.cells (madeCells #[.int .i64 0, .int .i64 0, .int .i64 0, .string ⟨#[]⟩, .string ⟨#[]⟩, .int .i64 0, .slice none 0 0, .string ⟨#[]⟩, .int .i64 0] (l.length * 9)) 30)) = w0 at *
  go_loopw [3, 11] (fun s t wr => ∃ (k : Nat) (rs : List (TF × Value)) (F : Nat → Prop), s = .slice (some ⟨w.heap.size, 0, none⟩) k l.length ∧ t = .int .i64 k ∧ k ≤ l.length ∧ Hid (RowInv (EltL l) w wr l.length k rs F)) (fun _ t _ => l.length - (intOf t).toNat)
  case atStart => exact ⟨0, [], fun _ => False, rfl, rfl, by omega, Lib.hid HI⟩
  case round =>
    obtain ⟨k, rs, F, rfl, rfl, hk, HR⟩ := hrel
    by_cases hlt : k < l.length
    · obtain ⟨g, o, x, q, m, d, rfl, hg, hC, hCall⟩ := HP.out k hlt
      have HCall := Lib.hid hCall
      clear hCall
      have hC := hC.same (HR.out.below.block g hg)
      have hgr : g < wr.heap.size := Nat.lt_of_lt_of_le hg HR.out.below.size
      obtain ⟨x0, x1, x2, x3, x4, x5, x6, x7, x8⟩ := hC
      obtain ⟨kk, ii, gg, nm, fn, ar, by_, bt⟩ := x
      dsimp only at x0 x1 x2 x3 x4 x5 x6 x7 x8
      unfold EPost aggV at HCall
      dsimp only at HCall
      go_wp2_with fail
      have hb1 : Below wr.heap.size wr (wr.alloc (cells9 ⟨kk, ii, gg, nm, fn, ar, by_, bt⟩ (.slice q m d))) := (Below.refl _ _).alloc (Nat.le_refl _) _
      refine (HCall.out _ (HR.out.below.trans (hb1.mono HR.out.below.size))).mono ?_
      rintro e w2 ⟨F', g', rfl, hE, hin, hty, hpt, hb2⟩
      have hb2' : Below wr.heap.size wr w2 := hb1.trans (hb2.mono (by simp))
      have hb3 : Below w2.heap.size w2 (w2.alloc (cells9 ⟨kk, ii, gg, nm, fn, ar, by_, bt⟩ (.slice (some ⟨g', 0, none⟩) m m))) := (Below.refl _ _).alloc (Nat.le_refl _) _
      have hbw3 : Below wr.heap.size wr (w2.alloc (cells9 ⟨kk, ii, gg, nm, fn, ar, by_, bt⟩ (.slice (some ⟨g', 0, none⟩) m m))) := hb2'.trans (hb3.mono hb2'.size)
      have HS : ∀ g, F' g → (w2.alloc (cells9 ⟨kk, ii, gg, nm, fn, ar, by_, bt⟩ (.slice (some ⟨g', 0, none⟩) m m))).heap[g]? = w2.heap[g]? := fun g hg => hb3.block g (hin g hg).2
      have HE := Lib.hid (eltL_mono l w.heap.size _ _ _ _ _ _ _ HS (fun g hg => hb3.block g (Nat.lt_of_lt_of_le hg (Nat.le_trans HR.out.below.size hb2'.size))) (fun _ h => h) hE)
      have HPt := Lib.hid ((hpt w.heap.size (by have := HR.out.lt; simp; omega)).mono HS (fun _ h => h))
      have HTy := Lib.hid (hty.same HS)
      have HIn : Hid (∀ g, F' g → wr.heap.size ≤ g ∧ g < (w2.alloc (cells9 ⟨kk, ii, gg, nm, fn, ar, by_, bt⟩ (.slice (some ⟨g', 0, none⟩) m m))).heap.size) := Lib.hid (fun g hg => by have := hin g hg; simp at this ⊢; omega)
      have HOwn := Lib.hid (HR.out.ownAt hbw3)
      have HNC := Lib.hid (nine_cell w2 ⟨kk, ii, gg, nm, fn, ar, by_, bt⟩ (.slice (some ⟨g', 0, none⟩) m m))
      have HNO := Lib.hid (nine_one ⟨kk, ii, gg, nm, fn, ar, by_, bt⟩ (some ⟨g', 0, none⟩) m m)
      have HBW := Lib.hid hbw3
      clear hE hin hty hpt hb2 hb1 hb2' hb3 hbw3 HS
      unfold cells9 at HE HPt HTy HIn HOwn HNC HBW
      dsimp only at HE HPt HTy HIn HOwn HNC HBW
      go_wp2_with (at_builtin; refine wpList_append_fits rfl (.tmp 15) (.tmp 18) 28 rfl w.heap.size 30 i0 9 Tryz.underlying28 hi0 hz1 w.heap.size k l.length (flatR rs) rfl HOwn.out ⟨w2.heap.size, 0, none⟩ 1 1 (nineL ⟨kk, ii, gg, nm, fn, ar, by_, bt⟩ (.slice (some ⟨g', 0, none⟩) m m)) rfl rfl HNC.out HNO.out (by omega) ?_; intro w4 hown4 hg4)
      have HNext := Lib.hid (HR.out.next (eltL_mono l w.heap.size) HBW.out HE.out HPt.out HTy.out HIn.out hg4 hown4)
      go_roundw
      case rel => exact ⟨k + 1, _, _, rfl, by go_num, by omega, HNext⟩
      case measure => simp [intOf]; omega
    · obtain rfl : k = l.length := by omega
      have HT := Lib.hid (HR.out.full rfl)
      have HRt := Lib.hid (fun q hq => HR.out.root l.length (Nat.le_refl _) q hq)
      have hr := HR.out
      go_wp2_with fail
      go_ret
      refine ⟨fun g => F g ∨ g = w.heap.size, w.heap.size, rfl, ⟨?_, fun q hq => ?_, HT.out, HRt.out, hr.below⟩, .inr rfl⟩
      · exact ItemsIn.mk l rs hr.len (Nat.le_refl _) (by unfold maxLen; omega) (.inr rfl) (fun j hj => ⟨hr.cells j hj, eltL_mono l w.heap.size wr wr F _ _ _ _ (fun _ _ => rfl) (fun _ _ => rfl) (fun _ h => .inl h) (hr.elt j hj).1⟩)
      · rcases hq with hq | rfl
        · have := hr.inr q hq; omega
        · exact ⟨Nat.le_refl _, hr.lt⟩
theorem copyStep {n : Nat} (hC : CopiesS n) : CopyS n := by
  intro w B v t hB h1 hs
  obtain ⟨p, c, rfl, hc, hm⟩ := h1.shape
  refine copyT t.f p t.items.length c t.items w (fun W hb => hC W B _ t.items (Nat.le_trans hB hb.size) (h1.below hb hB) (by unfold nodesT at hs; omega))
theorem copiesAll : ∀ n, CopiesS n
  | 0 => copiesStep (fun m h => by omega)
  | n + 1 => copiesStep (fun m h => by obtain rfl : n = m := by omega
                                       exact copyStep (copiesAll n))
theorem copyAll (n : Nat) : CopyS n := copyStep (copiesAll n)
end Go.Proofs.YtnakbepcalciiaaGreat.tm

/- order.Sort. Conditions: the terms lie in memory; they are few enough. -/
namespace Go.Proofs.YtnakbepcalciiaaGreat.tm
open Go.RowKit mem names
set_option linter.unusedVariables false
set_option linter.unusedSimpArgs false
set_option maxHeartbeats 1000000
set_option maxRecDepth 100000

/-- what slices.SortStableFunc does with at most N terms -/
def StableS (N : Nat) : Prop := ∀ (α : Type) (enc : α → TF × Value) (w0 w : World) (b n cap : Nat) (S : α → Prop) (c : α → α → Int) (tg : α → Nat) (M : List α), CmpW enc w0 b 179 S c → TP S c → (∀ x ∈ M, S x) → M.Pairwise (fun x y => tg x < tg y) → RowW enc w0 w b n cap M → n ≤ N →
  Calls Tryz.prog 178 #[.slice (some ⟨b, 0, none⟩) n cap, .func (.func 179) #[] #[]] w (SortPost c tg enc w0 b n cap [] M [])
theorem stable19 : StableS 19 := by
  intro α enc w0 w b n cap S c tg M hC htp hS hT h hn
  have hI := fun (w : World) (h : RowW enc w0 w b n cap M) => insSort (w := w) (cap := cap) hC htp [] M [] hS hT (by simpa using h) 0 n rfl (by have := h.len; omega) (by omega)
  have HI := Lib.hid hI
  have HR := Lib.hid h
  have hS67 : ∀ w, RowW enc w0 w b n cap M → Calls Tryz.prog 202 #[.slice (some ⟨b, 0, none⟩) n cap, .int .i64 n, .func (.func 179) #[] #[]] w (SortPost c tg enc w0 b n cap [] M []) := by
    intro w hw
    have HW := Lib.hid (HI.out w hw)
    clear hw hI HI h hS hT htp hC HR
    have q1 : ¬ (20 : Int) ≤ (n : Int) := by omega
    have q2 : decide ((20 : Int) ≤ (n : Int)) = false := decide_eq_false q1
    have q3 : ¬ (20 : Int) < (n : Int) := by omega
    have q4 : decide ((20 : Int) < (n : Int)) = false := decide_eq_false q3
    go_enter Tryz.func202, Tryz.ntmps202
    go_wp2_with fail
    refine wp_loop_rounds 1 ?_
    rw [rounds_succ]
    go_wp2_with fail
    refine HW.out.mono ?_
    rintro e w1 ⟨rfl, hp⟩
    go_wp2_with fail
    refine wp_loop_rounds 1 ?_
    rw [rounds_succ]
    go_wp2_with fail
    go_end0
    exact ⟨rfl, hp⟩
  have H67 := Lib.hid (hS67 w h)
  clear hI HI h hS hT htp hC HR hS67
  go_enter Tryz.func178, Tryz.ntmps178
  go_wp2_with fail
  refine H67.out.mono ?_
  rintro e w1 ⟨rfl, hp⟩
  go_wp2_with fail
  go_end0
  exact ⟨rfl, hp⟩
noncomputable def sortL {n : Nat} (l : List (Tm (n + 1))) : List (Tm (n + 1)) := l.mergeSort (leB cmpV)
/-- a term with a tag and with the value of its elements -/
abbrev Tag (n : Nat) := Nat × Tm (n + 1) × Value
def encT {n : Nat} (x : Tag n) : TF × Value := (x.2.1.f, x.2.2)
noncomputable def cmpT {n : Nat} (x y : Tag n) : Int := cmpV x.2.1 y.2.1
def TagOK (w : World) (F : Nat → Prop) (g : Nat) {n : Nat} (x : Tag n) : Prop := ItemsIn w F n x.2.2 x.2.1.items ∧ PtrOK w F g x.2.2 ∧ 300 * (nodesT x.2.1 : Int) ≤ 1000000000000
theorem tagged {n : Nat} {w : World} {F : Nat → Prop} {g : Nat} : ∀ (l : List (Tm (n + 1))) (rs : List (TF × Value)) (k : Nat), rs.length = l.length → (∀ j, (h : j < l.length) → (h' : j < rs.length) → EltIn w F (n + 1) l[j] rs[j].1 rs[j].2 ∧ PtrOK w F g rs[j].2 ∧ 300 * (nodesT l[j] : Int) ≤ 1000000000000) →
    ∃ e : List (Tag n), e.map encT = rs ∧ e.map (fun x => x.2.1) = l ∧ e.map (fun x => x.1) = List.range' k l.length ∧ ∀ x ∈ e, TagOK w F g x
  | [], [], k, _, _ => ⟨[], rfl, rfl, rfl, by simp⟩
  | t :: l, (f, u) :: rs, k, hl, h => by
    obtain ⟨e, h1, h2, h3, h4⟩ := tagged l rs (k + 1) (by simpa using hl) (fun j a b => h (j + 1) (by simpa using a) (by simpa using b))
    obtain ⟨⟨a1, a2⟩, a3, a4⟩ := h 0 (by simp) (by simp)
    refine ⟨(k, t, u) :: e, ?_, by simp [h2], by simp [h3, List.range'_succ], fun x hx => ?_⟩
    · rw [List.map_cons, h1]
      show (t.f, u) :: rs = (f, u) :: rs
      rw [show t.f = f from a1]
    · rcases List.mem_cons.1 hx with rfl | hx
      · exact ⟨a2, a3, a4⟩
      · exact h4 x hx
theorem zip_tags {n : Nat} : ∀ (e : List (Tag n)) (k : Nat), e.map (fun x => x.1) = List.range' k e.length → e.map (fun x => (x.2.1, x.1)) = (e.map (fun x => x.2.1)).zipIdx k
  | [], _, _ => rfl
  | x :: e, k, h => by
    rw [List.map_cons, List.length_cons, List.range'_succ] at h
    simp only [List.cons.injEq] at h
    rw [List.map_cons, List.map_cons, List.zipIdx_cons, ← zip_tags e (k + 1) h.2, h.1]
theorem tagged_sorted {n : Nat} (e M : List (Tag n)) (he : e.map (fun x => x.1) = List.range' 0 e.length) (hp : M.Perm e) (hs : M.Pairwise (tlt cmpT (fun x => x.1))) : M.map (fun x => x.2.1) = sortL (e.map (fun x => x.2.1)) := by
  have h := sort_unique (tpV (n := n)) (e.map (fun x => x.2.1)) (M.map (fun x => (x.1, x.2.1))) ?_ ?_
  · rw [List.map_map] at h
    exact h
  · rw [List.map_map, ← zip_tags e 0 he]
    exact hp.map _
  · rw [List.pairwise_map]
    exact hs
theorem tag_pairwise {n : Nat} (e : List (Tag n)) (he : e.map (fun x => x.1) = List.range' 0 e.length) : e.Pairwise (fun x y => x.1 < y.1) := by
  rw [← List.pairwise_map (f := fun x : Tag n => x.1) (R := (· < ·)), he]
  exact List.pairwise_lt_range'
theorem tagCmp {n : Nat} (w0 : World) (F : Nat → Prop) (b : Nat) (hF : ∀ g, F g → b < g ∧ g < w0.heap.size) : CmpW (encT (n := n)) w0 b 179 (TagOK w0 F b) cmpT := by
  refine ⟨fun x hx => ?_, fun W x y ht hx hy => ?_⟩
  · obtain ⟨p, c, e, _⟩ := (hx.1.toAt (B := w0.heap.size) (fun g hg => (hF g hg).2)).shape
    exact ⟨p, _, c, e⟩
  · have hs : ∀ g, F g → W.heap[g]? = w0.heap[g]? := fun g hg => ht.block g (hF g hg).2 (by have := (hF g hg).1; omega)
    exact Compare W w0.heap.size _ _ x.2.1 y.2.1 ht.size ((hx.1.mono hs (fun _ h => h)).toAt (fun g hg => (hF g hg).2)) ((hy.1.mono hs (fun _ h => h)).toAt (fun g hg => (hF g hg).2)) hx.2.2 hy.2.2
/-- what is made of a row that was sorted -/
theorem sorted_new {n : Nat} {w w0 w1 : World} {F : Nat → Prop} {l : List (Tm (n + 1))} (e M : List (Tag n)) (hw : w.heap.size < w0.heap.size) (hb : Below w.heap.size w w0) (hF : ∀ g, F g → w.heap.size < g ∧ g < w0.heap.size) (hty : Typed w0 F) (hok : ∀ x ∈ e, TagOK w0 F w.heap.size x) (hl : e.map (fun x => x.2.1) = l) (htag : e.map (fun x => x.1) = List.range' 0 l.length)
    (hp : M.Perm e) (hs : M.Pairwise (tlt cmpT (fun x => x.1))) (hr : RowW encT w0 w1 w.heap.size l.length l.length M) : NewAt w w1 (fun g => F g ∨ g = w.heap.size) (n + 1) (.slice (some ⟨w.heap.size, 0, none⟩) (sortL l).length (sortL l).length) (sortL l) := by
  have hle : e.length = l.length := by rw [← hl]; simp
  have hsl : (sortL l).length = l.length := by unfold sortL; exact List.length_mergeSort l
  have hM := tagged_sorted e M (by rw [hle]; exact htag) hp hs
  rw [hl] at hM
  have hml : M.length = l.length := by rw [hp.length_eq, hle]
  have hsame : ∀ g, F g → w1.heap[g]? = w0.heap[g]? := fun g hg => hr.touch.block g (hF g hg).2 (by have := (hF g hg).1; omega)
  have hroom := hr.room
  have hcells := fun j hj => hr.cells j hj
  refine ⟨?_, fun g hg => ?_, ?_, fun g hg => ?_, ?_⟩
  · refine ⟨_, _, rfl, Nat.le_refl _, by rw [hsl]; exact hroom.2, fun _ => ⟨_, 0, rfl, .inr rfl, fun j hj => ?_⟩⟩
    have hj' : j < M.length := by omega
    have ej : (sortL l)[j] = M[j].2.1 := by simp only [← hM, List.getElem_map]
    refine ⟨M[j].2.2, ?_, ?_⟩
    · rw [ej, Nat.zero_add]; exact hcells j hj'
    · rw [ej]
      exact (hok M[j] (hp.mem_iff.1 (List.getElem_mem hj'))).1.mono hsame (fun _ h => .inl h)
  · have := hr.touch.size
    rcases hg with hg | rfl
    · have := hF g hg; omega
    · omega
  · rcases hr.own.2 with ⟨h', _⟩ | ⟨g', cap', cur, h', hbg, hg, hnc, hcm, hcs, htake⟩
    · simp at h'
    · simp only [Value.slice.injEq, Option.some.injEq, Addr.mk.injEq, and_true, true_and] at h'
      obtain ⟨rfl, rfl⟩ := h'
      refine (hty.same hsame).add hg hcs fun j hj => ?_
      have hj' : j < M.length := by omega
      exact ⟨_, _, hcells j hj', (hok M[j] (hp.mem_iff.1 (List.getElem_mem hj'))).2.1.mono hsame (fun _ h => h)⟩
  · rw [hsl]
    rcases hr.own.2 with ⟨h', _⟩ | ⟨g', cap', cur, h', hbg, hg', hnc, hcm, hcs, htake⟩
    · simp at h'
    · simp only [Value.slice.injEq, Option.some.injEq, Addr.mk.injEq, and_true, true_and] at h'
      obtain ⟨rfl, rfl⟩ := h'
      exact ⟨_, _, _, rfl, .inr ⟨_, 0, cur, _, by rw [Nat.zero_mul], .inr rfl, hg, hg', by rw [Nat.zero_add, hcs]; omega, by omega⟩⟩
  · exact (hr.touch.trans (S := fun k => k = w.heap.size) (TouchB.refl (fun _ => False) _) (fun _ _ f => f.elim)) |> (fun ht => ⟨ht.os.trans hb.os, ht.tape.trans hb.tape, ht.output.trans hb.output, Nat.le_trans hb.size ht.size, fun k hk => (ht.block k (by omega) (by omega)).trans (hb.block k hk)⟩)
set_option maxHeartbeats 4000000 in
theorem sortW {n N : Nat} (hst : StableS N) (w : World) (B : Nat) (v : Value) (l : List (Tm (n + 1))) (hB : B ≤ w.heap.size) (h1 : ItemsAt w B (n + 1) v l) (hs : nodesL (n + 1) l ≤ 100000000) (hN : l.length ≤ N) (hN2 : N ≤ 1000000) :
    Calls Tryz.prog 143 #[v] w (LPost (sortL l) w) := by
  have ih : ∀ m, n + 1 = m + 1 → CopyS m := fun m _ => copyAll m
  have HSt := Lib.hid hst
  clear hst
  have hlen := nodes_len (n + 1) l
  obtain ⟨p, c, rfl, hc, hm⟩ := h1.shape
  have HP := Lib.hid (copyEl ih w B p l.length c l hB h1 hs)
  have hle : l.length ≤ 100000000 := by omega
  have hle2 : (l.length : Int) ≤ 100000000 := by omega
  have hmk := fun W => make24 W (l.length : Int) l.length rfl (by omega)
  have HS0 := Lib.hid hs
  have HN := Lib.hid hN
  clear ih h1 hs hlen hc hm hN
  obtain ⟨i0, hi0, hz0, hz1, hz2⟩ := info_parts info24
  go_enter Tryz.func143, Tryz.ntmps143
  go_wp2_with fail
  have HI : RowInv (EltL l) w (w.alloc (.cells (madeCells #[.int .i64 0, .int .i64 0, .int .i64 0, .string ⟨#[]⟩, .string ⟨#[]⟩, .int .i64 0, .slice none 0 0, .string ⟨#[]⟩, .int .i64 0] (l.length * 9)) 30)) l.length 0 [] (fun _ => False) := RowInv.start _ (by unfold maxLen; omega) (size_madeCells _ _)
  generalize (w.alloc (.cells (madeCells #[.int .i64 0, .int .i64 0, .int .i64 0, .string ⟨#[]⟩, .string ⟨#[]⟩, .int .i64 0, .slice none 0 0, .string ⟨#[]⟩, .int .i64 0] (l.length * 9)) 30)) = w0 at *
  go_loopw [3, 11] (fun s t wr => ∃ (k : Nat) (rs : List (TF × Value)) (F : Nat → Prop), s = .slice (some ⟨w.heap.size, 0, none⟩) k l.length ∧ t = .int .i64 k ∧ k ≤ l.length ∧ Hid (RowInv (EltL l) w wr l.length k rs F)) (fun _ t _ => l.length - (intOf t).toNat)
  case atStart => exact ⟨0, [], fun _ => False, rfl, rfl, by omega, Lib.hid HI⟩
  case round =>
    obtain ⟨k, rs, F, rfl, rfl, hk, HR⟩ := hrel
    by_cases hlt : k < l.length
    · obtain ⟨g, o, x, q, m, d, rfl, hg, hC, hCall⟩ := HP.out k hlt
      have HCall := Lib.hid hCall
      clear hCall
      have hC := hC.same (HR.out.below.block g hg)
      have hgr : g < wr.heap.size := Nat.lt_of_lt_of_le hg HR.out.below.size
      obtain ⟨x0, x1, x2, x3, x4, x5, x6, x7, x8⟩ := hC
      obtain ⟨kk, ii, gg, nm, fn, ar, by_, bt⟩ := x
      dsimp only at x0 x1 x2 x3 x4 x5 x6 x7 x8
      unfold EPost aggV at HCall
      dsimp only at HCall
      go_wp2_with fail
      have hb1 : Below wr.heap.size wr (wr.alloc (cells9 ⟨kk, ii, gg, nm, fn, ar, by_, bt⟩ (.slice q m d))) := (Below.refl _ _).alloc (Nat.le_refl _) _
      refine (HCall.out _ (HR.out.below.trans (hb1.mono HR.out.below.size))).mono ?_
      rintro e w2 ⟨F', g', rfl, hE, hin, hty, hpt, hb2⟩
      have hb2' : Below wr.heap.size wr w2 := hb1.trans (hb2.mono (by simp))
      have hb3 : Below w2.heap.size w2 (w2.alloc (cells9 ⟨kk, ii, gg, nm, fn, ar, by_, bt⟩ (.slice (some ⟨g', 0, none⟩) m m))) := (Below.refl _ _).alloc (Nat.le_refl _) _
      have hbw3 : Below wr.heap.size wr (w2.alloc (cells9 ⟨kk, ii, gg, nm, fn, ar, by_, bt⟩ (.slice (some ⟨g', 0, none⟩) m m))) := hb2'.trans (hb3.mono hb2'.size)
      have HS : ∀ g, F' g → (w2.alloc (cells9 ⟨kk, ii, gg, nm, fn, ar, by_, bt⟩ (.slice (some ⟨g', 0, none⟩) m m))).heap[g]? = w2.heap[g]? := fun g hg => hb3.block g (hin g hg).2
      have HE := Lib.hid (eltL_mono l w.heap.size _ _ _ _ _ _ _ HS (fun g hg => hb3.block g (Nat.lt_of_lt_of_le hg (Nat.le_trans HR.out.below.size hb2'.size))) (fun _ h => h) hE)
      have HPt := Lib.hid ((hpt w.heap.size (by have := HR.out.lt; simp; omega)).mono HS (fun _ h => h))
      have HTy := Lib.hid (hty.same HS)
      have HIn : Hid (∀ g, F' g → wr.heap.size ≤ g ∧ g < (w2.alloc (cells9 ⟨kk, ii, gg, nm, fn, ar, by_, bt⟩ (.slice (some ⟨g', 0, none⟩) m m))).heap.size) := Lib.hid (fun g hg => by have := hin g hg; simp at this ⊢; omega)
      have HOwn := Lib.hid (HR.out.ownAt hbw3)
      have HNC := Lib.hid (nine_cell w2 ⟨kk, ii, gg, nm, fn, ar, by_, bt⟩ (.slice (some ⟨g', 0, none⟩) m m))
      have HNO := Lib.hid (nine_one ⟨kk, ii, gg, nm, fn, ar, by_, bt⟩ (some ⟨g', 0, none⟩) m m)
      have HBW := Lib.hid hbw3
      clear hE hin hty hpt hb2 hb1 hb2' hb3 hbw3 HS
      unfold cells9 at HE HPt HTy HIn HOwn HNC HBW
      dsimp only at HE HPt HTy HIn HOwn HNC HBW
      go_wp2_with (at_builtin; refine wpList_append_fits rfl (.tmp 15) (.tmp 18) 28 rfl w.heap.size 30 i0 9 Tryz.underlying28 hi0 hz1 w.heap.size k l.length (flatR rs) rfl HOwn.out ⟨w2.heap.size, 0, none⟩ 1 1 (nineL ⟨kk, ii, gg, nm, fn, ar, by_, bt⟩ (.slice (some ⟨g', 0, none⟩) m m)) rfl rfl HNC.out HNO.out (by omega) ?_; intro w4 hown4 hg4)
      have HNext := Lib.hid (HR.out.next (eltL_mono l w.heap.size) HBW.out HE.out HPt.out HTy.out HIn.out hg4 hown4)
      go_roundw
      case rel => exact ⟨k + 1, _, _, rfl, by go_num, by omega, HNext⟩
      case measure => simp [intOf]; omega
    · obtain rfl : k = l.length := by omega
      have hr := HR.out
      have hns := fun j (h : j < l.length) => nodes_mem h
      obtain ⟨e, k1, k2, k3, k4⟩ := tagged (w := wr) (F := F) (g := w.heap.size) l rs 0 hr.len (fun j h h' => ⟨(hr.elt j h').1.2, (hr.elt j h').2, by have := hns j h; have := HS0.out; omega⟩)
      have hel : e.length = l.length := by rw [← k2]; simp
      have hrow : RowW encT wr wr w.heap.size l.length l.length e := ⟨by rw [k1]; exact row_base hr.own (fun k _ => Nat.zero_le _), hel, TouchB.refl _ _⟩
      have HC := Lib.hid (HSt.out _ encT wr wr w.heap.size l.length l.length (TagOK wr F w.heap.size) cmpT (fun x => x.1) e (tagCmp wr F w.heap.size hr.inr) (TP.mono (TP.comap (tpV (n := n)) (fun x : Tag n => x.2.1)) (fun _ _ => trivial)) k4 (tag_pairwise e (by rw [hel]; exact k3)) hrow HN.out)
      have HFin := Lib.hid (fun w1 M hp hs (hr1 : RowW encT wr w1 w.heap.size l.length l.length M) => sorted_new (l := l) e M hr.lt hr.below hr.inr hr.typed k4 k2 k3 hp hs hr1)
      have HSL : Hid ((sortL l).length = l.length) := Lib.hid (List.length_mergeSort l)
      clear hr hns k1 k2 k3 k4 hrow
      go_wp2_with fail
      refine HC.out.mono ?_
      rintro e1 w1 ⟨rfl, M, hp, hs1, hr1⟩
      have HF := Lib.hid (HFin.out w1 M hp hs1 (by simpa using hr1))
      clear hp hs1 hr1
      go_wp2_with fail
      go_ret
      exact ⟨fun g => F g ∨ g = w.heap.size, w.heap.size, by rw [HSL.out]; rfl, HF.out, .inr rfl⟩
end Go.Proofs.YtnakbepcalciiaaGreat.tm

/- slices.IsSortedFunc, order.Ordered. Conditions: the terms lie in memory; they are few enough. -/
namespace Go.Proofs.YtnakbepcalciiaaGreat.tm
open Go.RowKit mem names
set_option linter.unusedVariables false
set_option linter.unusedSimpArgs false
set_option maxHeartbeats 1000000
set_option maxRecDepth 100000

/-- an element, beside another term -/
theorem cmpEl {n : Nat} (w : World) (B : Nat) (v1 v2 : Value) (l1 l2 : List (Tm (n + 1))) (hB : B ≤ w.heap.size) (h1 : ItemsAt w B (n + 1) v1 l1) (h2 : ItemsAt w B (n + 1) v2 l2) (s1 : nodesL (n + 1) l1 ≤ 100000000) (s2 : nodesL (n + 1) l2 ≤ 100000000) (i j : Nat) (hi : i < l1.length) (hj : j < l2.length) :
    ∃ g1 o1 x1 q1 m1 d1 c1 g2 o2 x2 q2 m2 d2 c2, v1 = .slice (some ⟨g1, o1, none⟩) l1.length c1 ∧ g1 < w.heap.size ∧ Cells w g1 (o1 + i * 9) x1 (.slice q1 m1 d1) ∧ v2 = .slice (some ⟨g2, o2, none⟩) l2.length c2 ∧ g2 < w.heap.size ∧ Cells w g2 (o2 + j * 9) x2 (.slice q2 m2 d2) ∧
      ∀ W, Below w.heap.size w W → Calls Tryz.prog 179 #[aggV x1 (.slice q1 m1 d1), aggV x2 (.slice q2 m2 d2)] W (IPostC (cmpV l1[i] l2[j]) W) := by
  obtain ⟨g1, o1, d1, e1, _, _, hg1, hx1⟩ := h1.at_ (by intro e; subst e; simp at hi)
  obtain ⟨u1, hC1, hI1⟩ := hx1 i hi
  obtain ⟨g2, o2, d2, e2, _, _, hg2, hx2⟩ := h2.at_ (by intro e; subst e; simp at hj)
  obtain ⟨u2, hC2, hI2⟩ := hx2 j hj
  obtain ⟨q1, c1', rfl, _, _⟩ := hI1.shape
  obtain ⟨q2, c2', rfl, _, _⟩ := hI2.shape
  have k1 := nodes_mem hi
  have k2 := nodes_mem hj
  exact ⟨g1, o1, l1[i].f, q1, _, c1', d1, g2, o2, l2[j].f, q2, _, c2', d2, e1, by omega, hC1, e2, by omega, hC2, fun W hb => Compare W B _ _ l1[i] l2[j] (Nat.le_trans hB hb.size) (hI1.below hb hB) (hI2.below hb hB) (by omega) (by omega)⟩
noncomputable def ordB {n : Nat} (l : List (Tm (n + 1))) : Bool := @decide (∀ j, (h : j + 1 < l.length) → 0 ≤ cmpV l[j + 1] l[j]) (Classical.propDecidable _)
theorem ordB_t {n : Nat} {l : List (Tm (n + 1))} (h : ∀ j, (h : j + 1 < l.length) → 0 ≤ cmpV l[j + 1] l[j]) : ordB l = true := @decide_eq_true _ (Classical.propDecidable _) h
theorem ordB_f {n : Nat} {l : List (Tm (n + 1))} {j : Nat} (hj : j + 1 < l.length) (h : cmpV l[j + 1] l[j] < 0) : ordB l = false := @decide_eq_false _ (Classical.propDecidable _) (fun hh => by have := hh j hj; omega)
theorem of_ordB {n : Nat} {l : List (Tm (n + 1))} (h : ordB l = true) : ∀ j, (h : j + 1 < l.length) → 0 ≤ cmpV l[j + 1] l[j] := @of_decide_eq_true _ (Classical.propDecidable _) h
end Go.Proofs.YtnakbepcalciiaaGreat.tm

/- slices.BinarySearchFunc, order.Search. Conditions: the terms lie in memory; they are few enough. -/
namespace Go.Proofs.YtnakbepcalciiaaGreat.tm
open Go.RowKit mem names
set_option linter.unusedVariables false
set_option linter.unusedSimpArgs false
set_option maxHeartbeats 1000000
set_option maxRecDepth 100000

/-- an element, beside a term in a box -/
theorem cmpOne {n : Nat} (w : World) (B : Nat) (v1 v2 : Value) (l1 : List (Tm (n + 1))) (t : Tm (n + 1)) (hB : B ≤ w.heap.size) (h1 : ItemsAt w B (n + 1) v1 l1) (h2 : ItemsAt w B n v2 t.items) (s1 : nodesL (n + 1) l1 ≤ 100000000) (s2 : nodesT t ≤ 100000000) (i : Nat) (hi : i < l1.length) :
    ∃ g1 o1 x1 q1 m1 d1 c1, v1 = .slice (some ⟨g1, o1, none⟩) l1.length c1 ∧ g1 < w.heap.size ∧ Cells w g1 (o1 + i * 9) x1 (.slice q1 m1 d1) ∧
      ∀ W, Below w.heap.size w W → Calls Tryz.prog 179 #[aggV x1 (.slice q1 m1 d1), aggV t.f v2] W (IPostC (cmpV l1[i] t) W) := by
  obtain ⟨g1, o1, d1, e1, _, _, hg1, hx1⟩ := h1.at_ (by intro e; subst e; simp at hi)
  obtain ⟨u1, hC1, hI1⟩ := hx1 i hi
  obtain ⟨q1, c1', rfl, _, _⟩ := hI1.shape
  have k1 := nodes_mem hi
  exact ⟨g1, o1, l1[i].f, q1, _, c1', d1, e1, by omega, hC1, fun W hb => Compare W B _ _ l1[i] t (Nat.le_trans hB hb.size) (hI1.below hb hB) (h2.below hb hB) (by omega) (by omega)⟩
noncomputable def searchK {n : Nat} (l : List (Tm (n + 1))) (t : Tm (n + 1)) : Nat := l.findIdx (fun x => decide (0 ≤ cmpV x t))
noncomputable def foundB {n : Nat} (l : List (Tm (n + 1))) (t : Tm (n + 1)) : Bool := ((l[searchK l t]?).map (fun x => decide (cmpV x t = 0))).getD false
theorem search_is {n : Nat} (l : List (Tm (n + 1))) (t : Tm (n + 1)) (k : Nat) (hk : k ≤ l.length) (h1 : ∀ j, (h : j < l.length) → j < k → cmpV l[j] t < 0) (h2 : (h : k < l.length) → 0 ≤ cmpV l[k] t) : searchK l t = k := by
  unfold searchK
  by_cases e : k < l.length
  · rw [List.findIdx_eq e]
    exact ⟨decide_eq_true (h2 e), fun j hj => decide_eq_false (by have := h1 j (by omega) hj; omega)⟩
  · obtain rfl : k = l.length := by omega
    rw [List.findIdx_eq_length]
    intro x hx
    obtain ⟨j, hj, rfl⟩ := List.mem_iff_getElem.1 hx
    exact decide_eq_false (by have := h1 j hj hj; omega)
def SPost2 (k : Nat) (f : Bool) (w : World) (e : Ending) (w' : World) : Prop := e = .returned (.tuple #[.int .i64 k, .bool f]) ∧ Below w.heap.size w w'
theorem box1 (w : World) (f : TF) (v : Value) : Nine (w.alloc (cells9 f v)) w.heap.size f v ∧ Below w.heap.size w (w.alloc (cells9 f v)) ∧ (w.alloc (cells9 f v)).heap.size = w.heap.size + 1 :=
  ⟨nine_of (MapKept.heap_alloc w (cells9 f v)).1, (Below.refl _ _).alloc (Nat.le_refl _) _, by simp⟩
end Go.Proofs.YtnakbepcalciiaaGreat.tm

/- order.Search; Unique's closure; two equal terms are made one. Conditions: as said. -/
namespace Go.Proofs.YtnakbepcalciiaaGreat.tm
open Go.RowKit mem names
set_option linter.unusedVariables false
set_option linter.unusedSimpArgs false
set_option maxHeartbeats 1000000
set_option maxRecDepth 100000

theorem ord_le {n : Nat} {l : List (Tm (n + 1))} (h : ordB l = true) : ∀ (k a : Nat), (hb : a + k < l.length) → cmpV l[a] l[a + k] ≤ 0
  | 0, a, hb => by have := (tpV (n := n)).refl l[a]; simp only [Nat.add_zero]; omega
  | k + 1, a, hb => by
    have h1 := ord_le h k a (by omega)
    have h2 := of_ordB h (a + k) (by omega)
    have e := (tpV (n := n)).anti l[a + k] l[a + k + 1]
    show cmpV l[a] l[a + k + 1] ≤ 0
    have h2' : 0 ≤ cmpV l[a + k + 1] l[a + k] := h2
    exact (tpV (n := n)).trans _ _ _ trivial trivial trivial h1 (by omega)
theorem ord_mono {n : Nat} {l : List (Tm (n + 1))} (h : ordB l = true) (t : Tm (n + 1)) : ∀ a b, (ha : a ≤ b) → (hb : b < l.length) → cmpV l[b] t < 0 → cmpV (l[a]'(by omega)) t < 0 := by
  intro a b ha hb h1
  have h2 := ord_le h (b - a) a (by omega)
  have e : a + (b - a) = b := by omega
  simp only [e] at h2
  have h3 := (tpV (n := n)).trans _ _ _ trivial trivial trivial h2 (Int.le_of_lt h1)
  by_cases hz : cmpV (l[a]'(by omega)) t = 0
  · have := (tpV (n := n)).zero trivial trivial trivial h2 (Int.le_of_lt h1) hz
    omega
  · omega
theorem zeroCells24 (n : Nat) : (Builtin.zeroCells #[.int .i64 0, .int .i64 0, .int .i64 0, .string ⟨#[]⟩, .string ⟨#[]⟩, .int .i64 0, .slice none 0 0, .string ⟨#[]⟩, .int .i64 0] n).toList = flatR (List.replicate n (zeroF, nilV)) := by
  apply List.ext_getElem?
  intro i
  have hl := flatR_len (List.replicate n (zeroF, nilV))
  by_cases h : i < n * 9
  · obtain ⟨j, r, hr, rfl⟩ : ∃ j r, r < 9 ∧ i = j * 9 + r := ⟨i / 9, i % 9, by omega, by omega⟩
    rw [flatR_get _ j (by simp; omega) r hr, List.getElem_replicate]
    have e : (j * 9 + r) % 9 = r := by omega
    simp only [Builtin.zeroCells, Array.toList_map, Array.toList_range, List.getElem?_map]
    rw [List.getElem?_range (by simpa using h)]
    show some (#[_, _, _, _, _, _, _, _, _][(j * 9 + r) % 9]!) = _
    rw [e]
    unfold nineL zeroF nilV
    rcases (show r = 0 ∨ r = 1 ∨ r = 2 ∨ r = 3 ∨ r = 4 ∨ r = 5 ∨ r = 6 ∨ r = 7 ∨ r = 8 by omega) with rfl | rfl | rfl | rfl | rfl | rfl | rfl | rfl | rfl <;> rfl
  · rw [List.getElem?_eq_none (by simp [Builtin.zeroCells]; omega), List.getElem?_eq_none (by rw [hl]; simp; omega)]
theorem clear24 (W : World) (g : Nat) (cur : Array Value) (h : W.heap[g]? = some (.cells cur 30 (0, 0))) (o n c ty : Nat) (hn : 0 < n) (ho : o + n * 9 ≤ cur.size) :
    (Builtin.clear_ #[28] ty #[.slice (some ⟨g, o, none⟩) n c]).run Tryz.prog W = .ok (.tuple #[]) (W.setRow g (cur.toList.take o ++ flatR (List.replicate n (zeroF, nilV)) ++ cur.toList.drop (o + n * 9)).toArray) := by
  have hl := flatR_len (List.replicate n (zeroF, nilV))
  simp only [List.length_replicate] at hl
  have h1 : ∀ v ∈ flatR (List.replicate n (zeroF, nilV)), v.oneCell' = true := by
    intro v hv
    unfold flatR at hv
    rw [List.mem_flatMap] at hv
    obtain ⟨r, hr, hv⟩ := hv
    rw [List.mem_replicate] at hr
    obtain ⟨_, rfl⟩ := hr
    exact nine_one _ _ _ _ v hv
  have hst := run_storeCells_at (P := Tryz.prog) g o 30 (flatR (List.replicate n (zeroF, nilV))) 0 cur W h (by rw [hl]; simpa using ho) h1
  rw [Nat.add_zero, hl] at hst
  obtain ⟨m, rfl⟩ : ∃ m, n = m + 1 := ⟨n - 1, by omega⟩
  have hz := zeroCells24 (m + 1)
  have hzv : (zeroValue 30).run Tryz.prog W = .ok (.agg #[.int .i64 0, .int .i64 0, .int .i64 0, .string ⟨#[]⟩, .string ⟨#[]⟩, .int .i64 0, .slice none 0 0, .string ⟨#[]⟩, .int .i64 0]) W := Tryz.zeroValue30 W
  simp [Builtin.clear_, run_underlying Tryz.underlying28, hzv, Value.cells, hz, hst]
theorem setRow_touch (W : World) (g : Nat) (cs : Array Value) : TouchB (fun k => k = g) W (W.setRow g cs) := ⟨rfl, rfl, rfl, by simp, fun k _ hk => setRow_other W g k cs hk⟩
end Go.Proofs.YtnakbepcalciiaaGreat.tm

/- The examples that every statement of the chapter asks for: shown. No condition. -/
namespace Go.Proofs.YtnakbepcalciiaaGreat.tm
open Go.RowKit mem names
set_option linter.unusedVariables false
set_option linter.unusedSimpArgs false
set_option maxHeartbeats 1000000
set_option maxRecDepth 100000

def oneF : TF := ⟨1, 1, 0, ⟨#[]⟩, ⟨#[]⟩, 0, ⟨#[]⟩, 0⟩
def aF : TF := ⟨2, 0, 0, ⟨#[97]⟩, ⟨#[]⟩, 0, ⟨#[]⟩, 0⟩
def oneT : Tm 1 := Tm.mk oneF []
def aT : Tm 1 := Tm.mk aF []
theorem validT_leaf (f : TF) (h1 : inB f.kind 0 10 = true) (h2 : okF f 0 0 = true) (h3 : ({ bareF f with kind := 0 } : TF) = zeroF) (h4 : sizeF f 0 ≤ 2000) : validT (Tm.mk f [] : Tm 1) = true := by
  have hb : bareOK f 0 = true := by
    unfold bareOK
    rw [eqB_t h3]
    simp
  have ho : okT (Tm.mk f [] : Tm 1) = true := by
    unfold okT
    simp only [Bool.and_eq_true]
    exact ⟨h1, h2, hb⟩
  have hf : formedT (Tm.mk f [] : Tm 1) = true := by
    unfold formedT
    rw [ho]; rfl
  unfold validT
  rw [hf]
  have e : wholeT (Tm.mk f [] : Tm 1) = sizeF f 0 := by show sizeF f 0 + 0 = _; omega
  rw [e]
  simp [h4]
theorem valid_one : validT oneT = true := validT_leaf oneF (by decide) (by decide) (by simp [bareF, oneF, zeroF]) (by decide)
theorem valid_a : validT aT = true := validT_leaf aF (by decide) (by rw [show okF aF 0 0 = vName aF.name from rfl]; decide) (by simp [bareF, aF, zeroF]) (by decide)
theorem cmp_1a : cmpV oneT aT = -1 := by
  unfold cmpV
  rw [valid_one, valid_a, if_pos rfl, if_pos rfl, cmp_body]
  rfl
theorem cmp_a1 : cmpV aT oneT = 1 := by
  have := (tpV (n := 0)).anti oneT aT
  rw [cmp_1a] at this
  omega
theorem cmp_aa : cmpV aT aT = 0 := (tpV (n := 0)).refl aT
theorem sort_a1 : sortL [aT, oneT] = [oneT, aT] := by
  have h := sort_unique (tpV (n := 0)) [aT, oneT] [(1, oneT), (0, aT)] (List.Perm.swap _ _ _) (by
    simp only [List.pairwise_cons, List.mem_cons, List.mem_nil_iff, or_false, forall_eq, List.Pairwise.nil, and_true]
    refine ⟨.inl ?_, fun x h => h.elim⟩
    show cmpV oneT aT < 0
    rw [cmp_1a]; omega)
  exact h.symm
theorem ord_1a : ordB [oneT, aT] = true := ordB_t (fun j h => by
  obtain rfl : j = 0 := by simp at h; omega
  show 0 ≤ cmpV aT oneT
  rw [cmp_a1]; omega)
theorem ord_a1 : ordB [aT, oneT] = false := ordB_f (j := 0) (by simp) (by show cmpV oneT aT < 0; rw [cmp_1a]; omega)
theorem search_1a : searchK [oneT, aT] aT = 1 := search_is _ _ 1 (by simp) (fun j h hj => by
  obtain rfl : j = 0 := by omega
  show cmpV oneT aT < 0
  rw [cmp_1a]; omega) (fun _ => by show 0 ≤ cmpV aT aT; rw [cmp_aa]; omega)
theorem found_1a : foundB [oneT, aT] aT = true := by
  unfold foundB
  rw [search_1a]
  show decide (cmpV aT aT = 0) = true
  rw [cmp_aa]; rfl
/-- two terms in a new block -/
theorem two_items (w : World) (f1 f2 : TF) : ItemsAt (w.alloc (.cells #[.int .i64 f1.kind, .int .i64 f1.int, .int .i64 f1.gen, .string f1.name, .string f1.func, .int .i64 f1.arity, .slice none 0 0, .string f1.bytes, .int .i64 f1.bits, .int .i64 f2.kind, .int .i64 f2.int, .int .i64 f2.gen, .string f2.name, .string f2.func, .int .i64 f2.arity, .slice none 0 0, .string f2.bytes, .int .i64 f2.bits] 30)) (w.heap.size + 1) 1 (.slice (some ⟨w.heap.size, 0, none⟩) 2 2) [(Tm.mk f1 [] : Tm 1), Tm.mk f2 []] := by
  have hA := (MapKept.heap_alloc w (.cells #[.int .i64 f1.kind, .int .i64 f1.int, .int .i64 f1.gen, .string f1.name, .string f1.func, .int .i64 f1.arity, .slice none 0 0, .string f1.bytes, .int .i64 f1.bits, .int .i64 f2.kind, .int .i64 f2.int, .int .i64 f2.gen, .string f2.name, .string f2.func, .int .i64 f2.arity, .slice none 0 0, .string f2.bytes, .int .i64 f2.bits] 30)).1
  refine ⟨_, _, rfl, Nat.le_refl _, by unfold maxLen; simp, fun _ => ⟨_, 0, rfl, by omega, fun j hj => ⟨.slice none 0 0, ?_, none, 0, rfl, Nat.zero_le _⟩⟩⟩
  rcases (show j = 0 ∨ j = 1 by simp at hj; omega) with rfl | rfl
  · refine Cells.of fun i hi => ?_
    rw [cell_of_row _ _ _ _ _ _ hA]
    show _ = (nineL f1 (.slice none 0 0))[i]?
    rcases (show i = 0 ∨ i = 1 ∨ i = 2 ∨ i = 3 ∨ i = 4 ∨ i = 5 ∨ i = 6 ∨ i = 7 ∨ i = 8 by omega) with rfl | rfl | rfl | rfl | rfl | rfl | rfl | rfl | rfl <;> rfl
  · refine Cells.of fun i hi => ?_
    rw [cell_of_row _ _ _ _ _ _ hA]
    show _ = (nineL f2 (.slice none 0 0))[i]?
    rcases (show i = 0 ∨ i = 1 ∨ i = 2 ∨ i = 3 ∨ i = 4 ∨ i = 5 ∨ i = 6 ∨ i = 7 ∨ i = 8 by omega) with rfl | rfl | rfl | rfl | rfl | rfl | rfl | rfl | rfl <;> rfl
end Go.Proofs.YtnakbepcalciiaaGreat.tm

/- shown: the walk. No condition. -/
namespace Go.Proofs.YtnakbepcalciiaaGreat.tm
open Go.RowKit mem names
set_option linter.unusedVariables false
set_option linter.unusedSimpArgs false
set_option maxHeartbeats 1000000
set_option maxRecDepth 100000

theorem Atom36 (s : ByteArray) (w : World) : Calls Tryz.prog 53 #[.string s] w (VPost (.agg #[.int .i64 2, .int .i64 0, .int .i64 0, .string s, .string ⟨#[]⟩, .int .i64 0, .slice none 0 0, .string ⟨#[]⟩, .int .i64 0]) w) := by
  unfold VPost
  go_enter Tryz.func53, Tryz.ntmps53
  go_wp2_with fail
  exact bodyPost_ret (v := .agg #[.int .i64 2, .int .i64 0, .int .i64 0, .string s, .string ⟨#[]⟩, .int .i64 0, .slice none 0 0, .string ⟨#[]⟩, .int .i64 0]) (by simp [results, Tryz.results53, go_sem, *]) rfl ⟨rfl, by (repeat' (first | with_reducible exact Below.refl _ _ | with_reducible refine Below.alloc ?_ ?_ _ | with_reducible exact Nat.le_refl _ | with_reducible refine Below.setCell ?_ ?_ _))⟩
theorem cmp1A (w : World) : Calls Tryz.prog 179 #[.agg #[.int .i64 1, .int .i64 1, .int .i64 0, .string ⟨#[]⟩, .string ⟨#[]⟩, .int .i64 0, .slice none 0 0, .string ⟨#[]⟩, .int .i64 0], .agg #[.int .i64 2, .int .i64 0, .int .i64 0, .string ⟨#[97]⟩, .string ⟨#[]⟩, .int .i64 0, .slice none 0 0, .string ⟨#[]⟩, .int .i64 0]] w fun e w' => e = .returned (.int .i64 (-1)) ∧ Below w.heap.size w w' := by
  have := Compare w 0 (.slice none 0 0) (.slice none 0 0) oneT aT (Nat.zero_le _) ⟨none, 0, rfl, Nat.zero_le _⟩ ⟨none, 0, rfl, Nat.zero_le _⟩ (by decide) (by decide)
  rw [cmp_1a] at this
  exact this
theorem cmpA1 (w : World) : Calls Tryz.prog 179 #[.agg #[.int .i64 2, .int .i64 0, .int .i64 0, .string ⟨#[97]⟩, .string ⟨#[]⟩, .int .i64 0, .slice none 0 0, .string ⟨#[]⟩, .int .i64 0], .agg #[.int .i64 1, .int .i64 1, .int .i64 0, .string ⟨#[]⟩, .string ⟨#[]⟩, .int .i64 0, .slice none 0 0, .string ⟨#[]⟩, .int .i64 0]] w fun e w' => e = .returned (.int .i64 1) ∧ Below w.heap.size w w' := by
  have := Compare w 0 (.slice none 0 0) (.slice none 0 0) aT oneT (Nat.zero_le _) ⟨none, 0, rfl, Nat.zero_le _⟩ ⟨none, 0, rfl, Nat.zero_le _⟩ (by decide) (by decide)
  rw [cmp_a1] at this
  exact this
end Go.Proofs.YtnakbepcalciiaaGreat.tm

/- stagehandkit's Lend, LendList. Conditions: the terms lie in memory; they are few enough. -/
namespace Go.Proofs.YtnakbepcalciiaaGreat.tm
open Go.RowKit mem names
set_option linter.unusedVariables false
set_option linter.unusedSimpArgs false
set_option maxHeartbeats 4000000
set_option maxRecDepth 100000

def markF : TF := ⟨-7, 4711, 0, ⟨#[115, 112, 97, 114, 101]⟩, ⟨#[]⟩, 0, ⟨#[]⟩, 0⟩
/-- the two marks behind a lent list -/
def Spare (w : World) (g o : Nat) : Prop := Cells w g o markF nilV ∧ Cells w g (o + 9) markF nilV
/-- v is the lent copy of v0 -/
def LentIn (w : World) (B : Nat) (F : Nat → Prop) : (n : Nat) → Value → Value → List (Tm n) → Prop
  | 0, v0, v, _ => ∃ p0 c0, v0 = .slice p0 0 c0 ∧ c0 ≤ maxLen ∧ ((p0 = none ∧ v = nilV) ∨ (p0 ≠ none ∧ ∃ g o c, v = .slice (some ⟨g, o, none⟩) 0 c ∧ 2 ≤ c ∧ c ≤ maxLen ∧ F g ∧ Spare w g o))
  | n + 1, v0, v, l => ∃ p0 c0, v0 = .slice p0 l.length c0 ∧ l.length ≤ c0 ∧ c0 ≤ maxLen ∧ ((p0 = none ∧ v = nilV ∧ l = []) ∨ (p0 ≠ none ∧ ∃ g o c, v = .slice (some ⟨g, o, none⟩) l.length c ∧ l.length + 2 ≤ c ∧ c ≤ maxLen ∧ F g ∧ Spare w g (o + l.length * 9) ∧
      ∀ j, (h : j < l.length) → ∃ g0 o0 u0 u, p0 = some ⟨g0, o0, none⟩ ∧ g0 < B ∧ Cells w g0 (o0 + j * 9) (l[j]).f u0 ∧ Cells w g (o + j * 9) (l[j]).f u ∧ LentIn w B F n u0 u (l[j]).items))
theorem LentIn.mono {w w' : World} {B : Nat} {F F' : Nat → Prop} (hs : ∀ g, F g → w'.heap[g]? = w.heap[g]?) (hB : ∀ g, g < B → w'.heap[g]? = w.heap[g]?) (hF : ∀ g, F g → F' g) : ∀ {n : Nat} {v0 v : Value} {l : List (Tm n)}, LentIn w B F n v0 v l → LentIn w' B F' n v0 v l := by
  intro n
  induction n with
  | zero =>
    intro v0 v l h
    obtain ⟨p0, c0, e, h1, h2⟩ := h
    refine ⟨p0, c0, e, h1, ?_⟩
    rcases h2 with h2 | ⟨hp, g, o, c, e, h3, h4, h5, h6⟩
    · exact .inl h2
    · exact .inr ⟨hp, g, o, c, e, h3, h4, hF g h5, h6.1.same (hs g h5), h6.2.same (hs g h5)⟩
  | succ n ih =>
    intro v0 v l h
    obtain ⟨p0, c0, e, h1, h1', h2⟩ := h
    refine ⟨p0, c0, e, h1, h1', ?_⟩
    rcases h2 with h2 | ⟨hp, g, o, c, e, h3, h4, h5, h6, h7⟩
    · exact .inl h2
    · refine .inr ⟨hp, g, o, c, e, h3, h4, hF g h5, ⟨h6.1.same (hs g h5), h6.2.same (hs g h5)⟩, fun j hj => ?_⟩
      obtain ⟨g0, o0, u0, u, e0, hg0, c1, c2, c3⟩ := h7 j hj
      exact ⟨g0, o0, u0, u, e0, hg0, c1.same (hB g0 hg0), c2.same (hs g h5), ih c3⟩
theorem LentIn.toIn {w : World} {B : Nat} {F : Nat → Prop} : ∀ {n : Nat} {v0 v : Value} {l : List (Tm n)}, LentIn w B F n v0 v l → ItemsIn w F n v l := by
  intro n
  induction n with
  | zero =>
    intro v0 v l h
    obtain ⟨p0, c0, e, h1, h2⟩ := h
    rcases h2 with ⟨_, e⟩ | ⟨hp, g, o, c, e, h3, h4, h5, h6⟩
    · exact ⟨none, 0, e, Nat.zero_le _⟩
    · exact ⟨_, c, e, h4⟩
  | succ n ih =>
    intro v0 v l h
    obtain ⟨p0, c0, e, h1, h1', h2⟩ := h
    rcases h2 with ⟨_, ev, rfl⟩ | ⟨hp, g, o, c, e, h3, h4, h5, h6, h7⟩
    · exact ⟨none, 0, ev, Nat.zero_le _, Nat.zero_le _, fun h => absurd rfl h⟩
    · refine ⟨_, c, e, by omega, h4, fun _ => ⟨g, o, rfl, h5, fun j hj => ?_⟩⟩
      obtain ⟨g0, o0, u0, u, e0, hg0, c1, c2, c3⟩ := h7 j hj
      exact ⟨u, c2, ih c3⟩
structure LentNew (w w' : World) (B : Nat) (F : Nat → Prop) (n : Nat) (v0 v : Value) (l : List (Tm n)) : Prop where
  items : LentIn w' B F n v0 v l
  inr : ∀ g, F g → w.heap.size ≤ g ∧ g < w'.heap.size
  typed : Typed w' F
  ptr : ∀ g, g < w.heap.size → PtrOK w' F g v
  below : Below w.heap.size w w'
theorem LentNew.touch {w W0 w1 w' : World} {B : Nat} {F S : Nat → Prop} {n : Nat} {v0 u : Value} {l : List (Tm n)} (h : LentNew W0 w1 B F n v0 u l) (ht : TouchB S w1 w') (hS : ∀ g, F g → ¬ S g) (hb : Below w.heap.size w w') (hw : w.heap.size ≤ W0.heap.size) (hlow : B ≤ w.heap.size) (hw1 : Below w.heap.size w w1) : LentNew w w' B F n v0 u l := by
  have hs : ∀ g, F g → w'.heap[g]? = w1.heap[g]? := fun g hg => ht.block g (h.inr g hg).2 (hS g hg)
  refine ⟨h.items.mono hs (fun g hg => (hb.block g (by omega)).trans (hw1.block g (by omega)).symm) (fun _ h => h), fun g hg => ?_, h.typed.same hs, fun g hg => ?_, hb⟩
  · have := h.inr g hg
    have := ht.size
    omega
  · exact (h.ptr g (by omega)).mono hs (fun _ h => h)
/-- a list has been lent -/
def LLPost {n : Nat} (B : Nat) (v0 : Value) (l : List (Tm n)) (w : World) (e : Ending) (w' : World) : Prop := ∃ F p' c', e = .returned (.slice p' l.length c') ∧ LentNew w w' B F n v0 (.slice p' l.length c') l
/-- a term has been lent -/
def LTPost {n : Nat} (B : Nat) (f : TF) (v0 : Value) (l : List (Tm n)) (w : World) (e : Ending) (w' : World) : Prop := ∃ F p' c', e = .returned (aggV f (.slice p' l.length c')) ∧ LentNew w w' B F n v0 (.slice p' l.length c') l
end Go.Proofs.YtnakbepcalciiaaGreat.tm

/- stagehandkit's LendList at every depth. Conditions: the terms lie in memory; they are few enough. -/
namespace Go.Proofs.YtnakbepcalciiaaGreat.tm
open Go.RowKit mem names
set_option linter.unusedVariables false
set_option linter.unusedSimpArgs false
set_option maxHeartbeats 4000000
set_option maxRecDepth 100000

def LentElt (w : World) (B : Nat) (F : Nat → Prop) (p0 : Option Addr) (j : Nat) : (n : Nat) → Tm n → TF → Value → Prop
  | 0, _, _, _ => False
  | n + 1, t, f, u => ∃ g0 o0 u0, p0 = some ⟨g0, o0, none⟩ ∧ g0 < B ∧ Cells w g0 (o0 + j * 9) t.f u0 ∧ t.f = f ∧ LentIn w B F n u0 u t.items
def LentEl {n : Nat} (B : Nat) (p0 : Option Addr) (l : List (Tm n)) (w : World) (F : Nat → Prop) (j : Nat) (f : TF) (u : Value) : Prop := (∃ h : j < l.length, LentElt w B F p0 j n l[j] f u) ∨ (l.length ≤ j ∧ f = markF ∧ u = nilV)
theorem lentEl_mono {n : Nat} (B B' : Nat) (hB : B ≤ B') (p0 : Option Addr) (l : List (Tm n)) : EMono B' (LentEl B p0 l) := by
  intro w w' F F' j f u h1 h2 h3 h
  rcases h with ⟨h, he⟩ | h
  · refine .inl ⟨h, ?_⟩
    cases n with
    | zero => exact he
    | succ n =>
      obtain ⟨g0, o0, u0, e, hg, hc, hf, hl⟩ := he
      exact ⟨g0, o0, u0, e, hg, hc.same (h2 g0 (by omega)), hf, hl.mono h1 (fun g hg => h2 g (by omega)) h3⟩
  · exact .inr h
def LEPost {n : Nat} (B : Nat) (p0 : Option Addr) (l : List (Tm n)) (j : Nat) (x : TF) (m : Nat) (w : World) (e : Ending) (w' : World) : Prop :=
  ∃ F p' c', e = .returned (aggV x (.slice p' m c')) ∧ LentEl B p0 l w' F j x (.slice p' m c') ∧ (∀ q, F q → w.heap.size ≤ q ∧ q < w'.heap.size) ∧ Typed w' F ∧ (∀ q, q < w.heap.size → PtrOK w' F q (.slice p' m c')) ∧ Below w.heap.size w w'
theorem LentIn.nil {w : World} {B : Nat} {F : Nat → Prop} {n c0 : Nat} (hc : c0 ≤ maxLen) : LentIn w B F n (.slice none 0 c0) nilV ([] : List (Tm n)) := by
  cases n with
  | zero => exact ⟨none, c0, rfl, hc, .inl ⟨rfl, rfl⟩⟩
  | succ n => exact ⟨none, c0, rfl, Nat.zero_le _, hc, .inl ⟨rfl, rfl, rfl⟩⟩
theorem ItemsAt.none_nil {w : World} {B n m c : Nat} {l : List (Tm n)} (h : ItemsAt w B n (.slice none m c) l) : l = [] := by
  cases n with
  | zero => exact Tm.nil0 l
  | succ n =>
    obtain ⟨p, c', e, _, _, h3⟩ := h
    simp only [Value.slice.injEq] at e
    by_cases hl : l = []
    · exact hl
    · obtain ⟨g, o, e2, _⟩ := h3 hl
      rw [← e.1] at e2; cases e2
theorem RowInv.marks {E : World → (Nat → Prop) → Nat → TF → Value → Prop} {w wr : World} {cap k : Nat} {rs : List (TF × Value)} {F : Nat → Prop} (hE : EMono w.heap.size E) (h : RowInv E w wr cap k rs F) {w3 w4 : World} (hb : Below wr.heap.size wr w3) (h1 : ∀ j F w, k ≤ j → E w F j markF nilV)
    (hg : w3.grownBy w4 (some w.heap.size)) (hown : w4.ownsRow w.heap.size 30 9 (.slice (some ⟨w.heap.size, 0, none⟩) (k + 2) cap) (k + 2) (flatR rs ++ (nineL markF nilV ++ nineL markF nilV))) : RowInv E w w4 cap (k + 2) (rs ++ [(markF, nilV), (markF, nilV)]) F := by
  have hlt := h.lt
  have hsz := hb.size
  have hs3 : ∀ g, F g → w3.heap[g]? = wr.heap[g]? := fun g hg => hb.block g (h.inr g hg).2
  have hs4 : ∀ g, F g → w4.heap[g]? = wr.heap[g]? := fun g hF => (hg.block g (by have := (h.inr g hF).2; omega) (by have := (h.inr g hF).1; simp; omega)).trans (hs3 g hF)
  have hl := h.len
  have hg4 := hg.size
  refine ⟨?_, by simp [hl], fun j hj => ?_, h.typed.same hs4, fun g hF => ?_, ?_, by omega⟩
  · rw [flatR_append]
    have e : flatR [(markF, nilV), (markF, nilV)] = nineL markF nilV ++ nineL markF nilV := by simp [flatR]
    rw [e]; exact hown
  · by_cases e : j < rs.length
    · rw [List.getElem_append_left e]
      obtain ⟨a1, a2⟩ := h.elt j e
      exact ⟨hE _ _ _ _ _ _ _ hs4 (fun g hg' => (hg.block g (by omega) (by simp; omega)).trans (hb.block g (by omega))) (fun _ h => h) a1, a2.mono hs4 (fun _ h => h)⟩
    · have e2 : (rs ++ [(markF, nilV), (markF, nilV)])[j] = (markF, nilV) := by
        rw [List.getElem_append_right (by omega)]
        rcases (show j = rs.length ∨ j = rs.length + 1 by simp at hj; omega) with rfl | rfl <;> simp
      rw [e2]
      exact ⟨h1 j _ _ (by omega), PtrOK.nil⟩
  · have := h.inr g hF; omega
  · have hb1 := h.below.trans (hb.mono (by omega))
    exact ⟨hg.os.trans hb1.os, hg.tape.trans hb1.tape, hg.output.trans hb1.output, Nat.le_trans hb1.size hg.size, fun q hq => (hg.block q (by omega) (by simp; omega)).trans (hb1.block q hq)⟩
theorem LentIn.mk {n : Nat} {w : World} {F : Nat → Prop} {B g cap c0 : Nat} {a0 : Addr} (l : List (Tm n)) (rs : List (TF × Value)) (hl : rs.length = l.length + 2) (hc : l.length + 2 ≤ cap) (hm : cap ≤ maxLen) (hF : F g) (h0 : l.length ≤ c0) (h0' : c0 ≤ maxLen)
    (h : ∀ j, (hj : j < rs.length) → Cells w g (j * 9) rs[j].1 rs[j].2 ∧ LentEl B (some a0) l w F j rs[j].1 rs[j].2) : LentIn w B F n (.slice (some a0) l.length c0) (.slice (some ⟨g, 0, none⟩) l.length cap) l := by
  have hsp : Spare w g (l.length * 9) := by
    obtain ⟨a1, a2⟩ := h l.length (by omega)
    obtain ⟨b1, b2⟩ := h (l.length + 1) (by omega)
    rcases a2 with ⟨h, _⟩ | ⟨_, e1, e2⟩
    · omega
    rcases b2 with ⟨h, _⟩ | ⟨_, e3, e4⟩
    · omega
    rw [e1, e2] at a1
    rw [e3, e4, Nat.add_mul, Nat.one_mul] at b1
    exact ⟨a1, b1⟩
  cases n with
  | zero =>
    have := Tm.nil0 l
    subst this
    exact ⟨_, _, rfl, h0', .inr ⟨by simp, g, 0, cap, rfl, by simpa using hc, hm, hF, by simpa using hsp⟩⟩
  | succ n =>
    refine ⟨_, _, rfl, h0, h0', .inr ⟨by simp, g, 0, cap, rfl, hc, hm, hF, by simpa using hsp, fun j hj => ?_⟩⟩
    obtain ⟨h1, h2⟩ := h j (by omega)
    rcases h2 with ⟨_, g0, o0, u0, e0, hg0, hc0, hf, hli⟩ | ⟨h, _⟩
    · refine ⟨g0, o0, u0, _, e0, hg0, hc0, ?_, hli⟩
      rw [Nat.zero_add, hf]; exact h1
    · omega
theorem mark2_cell (w : World) : ∀ j u, (nineL markF nilV ++ nineL markF nilV)[j]? = some u → (w.alloc (.cells #[.int .i64 (-7), .int .i64 4711, .int .i64 0, .string ⟨#[115, 112, 97, 114, 101]⟩, .string ⟨#[]⟩, .int .i64 0, .slice none 0 0, .string ⟨#[]⟩, .int .i64 0, .int .i64 (-7), .int .i64 4711, .int .i64 0, .string ⟨#[115, 112, 97, 114, 101]⟩, .string ⟨#[]⟩, .int .i64 0, .slice none 0 0, .string ⟨#[]⟩, .int .i64 0] 30)).cell? ((⟨w.heap.size, 0, none⟩ : Addr).add j) = some u :=
  fun j u hj => by
    have hA := (MapKept.heap_alloc w (.cells #[.int .i64 (-7), .int .i64 4711, .int .i64 0, .string ⟨#[115, 112, 97, 114, 101]⟩, .string ⟨#[]⟩, .int .i64 0, .slice none 0 0, .string ⟨#[]⟩, .int .i64 0, .int .i64 (-7), .int .i64 4711, .int .i64 0, .string ⟨#[115, 112, 97, 114, 101]⟩, .string ⟨#[]⟩, .int .i64 0, .slice none 0 0, .string ⟨#[]⟩, .int .i64 0] 30)).1
    rw [Addr.add_lit, Nat.zero_add, cell_of_row _ _ _ _ _ _ hA, ← hj]
    unfold nineL markF nilV
    simp
theorem mark2_one : ∀ u ∈ nineL markF nilV ++ nineL markF nilV, u.oneCell' = true := by
  intro u hu
  rcases List.mem_append.1 hu with hu | hu
  · exact nine_one _ _ _ _ u hu
  · exact nine_one _ _ _ _ u hu
end Go.Proofs.YtnakbepcalciiaaGreat.tm
