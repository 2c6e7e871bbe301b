/- Several texts in one, one behind the other: LkSc. No condition beyond theirs. -/
import Derived.Test.YtnakbepcalciiaaGreatGz
import Derived.Deep.RegionHeld3
/- Lost and Cut. Conditions: the object was made by New. -/
namespace Go.Proofs.YtnakbepcalciiaaGreat.lk
open Go.RowKit mem rec tm names pm
set_option linter.unusedVariables false
set_option linter.unusedSimpArgs false
set_option maxHeartbeats 4000000
set_option maxRecDepth 100000
theorem rec_touchL {α : Type} {enc : α → List Value} {k : Nat} {w w' : World} {B : Nat} {v : Value} {l : List α} {S : Nat → Prop} (h : RecAt enc k w B v l) (ht : TouchB S w w') (hB : B ≤ w.heap.size) (hs : ∀ g, v.ownBlock = some g → ¬ S g) : RecAt enc k w' B v l := by
  obtain ⟨p, c, e, h1, h2, h3⟩ := h
  refine ⟨p, c, e, h1, h2, fun hn => ?_⟩
  obtain ⟨g, o, e', hg, hc⟩ := h3 hn
  exact ⟨g, o, e', hg, fun j a hj q u hu => (World.cell?_of_block (w := w) (w' := w') (a := ⟨g, o + (j * k + q), none⟩) (ht.block g (Nat.lt_of_lt_of_le hg hB) (hs g (by rw [e, e']; rfl)))).trans (hc j a hj q u hu)⟩
theorem step_append_rec {α : Type} {enc : α → List Value} {sl e k : Nat} (T : ElTy sl e k) {w : World} {ops : Array Oper} {o : Oper} {a : Act} {K : Act → World → Prop} {Q : Exit → Act → World → Prop} {E : Prop} (hgd : o.guard = none) (x y : Operand)
    (ho : o.op = .call { callee := .builtin .append, args := #[x, y], argTypes := #[sl, sl] }) {base : Nat} {v : Value} {l : List α} (hs : a.eval x = v) (hown : RecOwn enc e k w base v l) (hb : base ≤ w.heap.size)
    {B : Nat} {vx : Value} {xs : List α} (hx : a.eval y = vx) (hrow : RecAt enc k w B vx xs) (hE : EncOK enc k xs) (hn : l.length + xs.length ≤ 1000000000)
    (hK : ∀ v' w', AppR enc e k w base v l xs v' w' → K (a.put o.dst v') w') : if Region.wanted o (yielded ops a.tmps) = true then Oper.wp Tryz.prog o a w K Q else E := by
  have hw : Region.wanted o (yielded ops a.tmps) = true := by simp [Region.wanted, hgd]
  rw [if_pos hw]
  obtain ⟨v', w', hr, h2⟩ := run_append_rec T hown hb o.type hrow hE hn
  unfold Oper.wp execOp
  simp only [ho, resolve, invoke, builtin, Sem.run_bind, Sem.run_pure, Result.andThen_ok, List.map_toArray, List.map_cons, List.map_nil, hs, hx, hr]
  exact hK _ _ h2
theorem LkAt.grown {w w' : World} {z mh mm : Nat} {s : LkSt} {row : Option Nat} (h : LkAt w z mh mm s) (hg : w.grownBy w' row) (h1 : row ≠ some z) (h2 : row ≠ some mh) (h3 : row ≠ some mm) : LkAt w' z mh mm s :=
  h.same (hg.block _ h.zlt (fun e => h1 e.symm)) (hg.block _ h.hlt (fun e => h2 e.symm)) (hg.block _ h.mlt (fun e => h3 e.symm))
def farB (s : LkSt) (node : ByteArray) (x : Id) : Bool := decide (x.2.1 = node) && !locB s.node s.gen x
theorem lost95 {w : World} {z mh mm : Nat} {s : LkSt} (h : LkAt w z mh mm s) {bl bn : Nat} (node : ByteArray) (hl : w.heap[bl]? = some (.cells #[.pointer (some ⟨z, 0, none⟩)] 24)) (hn : w.heap[bn]? = some (.cells #[.string node] 9)) (p : Pr) : Calls Tryz.prog 95 #[prV p, .pointer (some ⟨bl, 0, none⟩), .pointer (some ⟨bn, 0, none⟩)] w fun e w' => e = .returned (.bool (farB s node p.2)) ∧ Below w.heap.size w w' := by
  have HF := Lib.hid (fun W (hW : Below w.heap.size w W) => far96 (h.below hW) p.2 node)
  have hltl : bl < w.heap.size := (Array.getElem?_eq_some_iff.1 hl).1
  have hltn : bn < w.heap.size := (Array.getElem?_eq_some_iff.1 hn).1
  obtain ⟨⟨u1, u2, u3, u4⟩, ⟨v1, v2, v3, v4⟩⟩ := p
  have hb := belowA (Below.refl w.heap.size w) (.cells #[.int .i64 u1, .string u2, .int .i64 u3, .int .i64 u4, .int .i64 v1, .string v2, .int .i64 v3, .int .i64 v4] 149) (Nat.le_refl _)
  have hp := alloc_new w (.cells #[.int .i64 u1, .string u2, .int .i64 u3, .int .i64 u4, .int .i64 v1, .string v2, .int .i64 v3, .int .i64 v4] 149)
  have hl' := (hb.block _ hltl).trans hl
  have hn' := (hb.block _ hltn).trans hn
  unfold farB
  unfold idV at HF
  unfold prV
  dsimp only at *
  generalize (decide (v2 = node) && !locB s.node s.gen (v1, v2, v3, v4)) = q at *
  have HB := Lib.hid hb
  clear hb h hl hn hltl hltn
  go_enter Tryz.func95, Tryz.ntmps95
  go_upto_region 1 with (fail)
  generalize (w.alloc (.cells #[.int .i64 u1, .string u2, .int .i64 u3, .int .i64 u4, .int .i64 v1, .string v2, .int .i64 v3, .int .i64 v4] 149)) = W1 at *
  obtain ⟨r0, r1, r2, r3, r4, r5, r6, r7, rf⟩ := eight_cells hp
  have k0 : W1.cell? ⟨bl, 0, none⟩ = some (.pointer (some ⟨z, 0, none⟩)) := by simp only [World.cell?, hl']; rfl
  have k1 : W1.cell? ⟨bn, 0, none⟩ = some (.string node) := by simp only [World.cell?, hn']; rfl
  go_wp2_with fail
  refine (HF.out _ HB.out).mono ?_
  rintro e W2 ⟨rfl, hb2⟩
  go_wp2_with fail
  go_ret
  exact ⟨rfl, HB.out.trans (hb2.mono HB.out.size)⟩
def cutT (s : LkSt) (node : ByteArray) (m : Mn) : Bool := farB s node m.2.1 || farB s node m.2.2
theorem cut97 {w : World} {z mh mm : Nat} {s : LkSt} (h : LkAt w z mh mm s) {bl bn : Nat} (node : ByteArray) (hl : w.heap[bl]? = some (.cells #[.pointer (some ⟨z, 0, none⟩)] 24)) (hn : w.heap[bn]? = some (.cells #[.string node] 9)) (m : Mn) : Calls Tryz.prog 97 #[mnV m, .pointer (some ⟨bl, 0, none⟩), .pointer (some ⟨bn, 0, none⟩)] w fun e w' => e = .returned (.bool (cutT s node m)) ∧ Below w.heap.size w w' := by
  have HF1 := Lib.hid (fun W (hW : Below w.heap.size w W) => far96 (h.below hW) m.2.1 node)
  have HF2 := Lib.hid (fun W (hW : Below w.heap.size w W) => far96 (h.below hW) m.2.2 node)
  have hltl : bl < w.heap.size := (Array.getElem?_eq_some_iff.1 hl).1
  have hltn : bn < w.heap.size := (Array.getElem?_eq_some_iff.1 hn).1
  obtain ⟨⟨x1, x2, x3, x4⟩, ⟨y1, y2, y3, y4⟩, ⟨v1, v2, v3, v4⟩⟩ := m
  have hb := belowA (Below.refl w.heap.size w) (.cells #[.int .i64 x1, .string x2, .int .i64 x3, .int .i64 x4, .int .i64 y1, .string y2, .int .i64 y3, .int .i64 y4, .int .i64 v1, .string v2, .int .i64 v3, .int .i64 v4] 162) (Nat.le_refl _)
  have hp := alloc_new w (.cells #[.int .i64 x1, .string x2, .int .i64 x3, .int .i64 x4, .int .i64 y1, .string y2, .int .i64 y3, .int .i64 y4, .int .i64 v1, .string v2, .int .i64 v3, .int .i64 v4] 162)
  have hlp : w.heap.size < (w.alloc (.cells #[.int .i64 x1, .string x2, .int .i64 x3, .int .i64 x4, .int .i64 y1, .string y2, .int .i64 y3, .int .i64 y4, .int .i64 v1, .string v2, .int .i64 v3, .int .i64 v4] 162)).heap.size := by rw [World.size_alloc]; omega
  have hl' := (hb.block _ hltl).trans hl
  have hn' := (hb.block _ hltn).trans hn
  have hltl' := Nat.lt_of_lt_of_le hltl hb.size
  have hltn' := Nat.lt_of_lt_of_le hltn hb.size
  unfold cutT farB
  unfold idV at HF1 HF2
  unfold mnV
  dsimp only at *
  generalize (decide (y2 = node) && !locB s.node s.gen (y1, y2, y3, y4)) = q at *
  generalize (decide (v2 = node) && !locB s.node s.gen (v1, v2, v3, v4)) = t at *
  have HB := Lib.hid hb
  clear hb h hl hn hltl hltn
  go_enter Tryz.func97, Tryz.ntmps97
  go_upto_region 1 with (fail)
  generalize (w.alloc (.cells #[.int .i64 x1, .string x2, .int .i64 x3, .int .i64 x4, .int .i64 y1, .string y2, .int .i64 y3, .int .i64 y4, .int .i64 v1, .string v2, .int .i64 v3, .int .i64 v4] 162)) = W1 at *
  have HPa := Lib.hid (fun W (hW : Below W1.heap.size W1 W) => cells12 ((hW.block _ hlp).trans hp))
  have HKa : Hid (∀ W, Below W1.heap.size W1 W → W.cell? ⟨bl, 0, none⟩ = some (.pointer (some ⟨z, 0, none⟩)) ∧ W.cell? ⟨bn, 0, none⟩ = some (.string node)) := Lib.hid (fun W hW => by
    have h1 := (hW.block _ hltl').trans hl'
    have h2 := (hW.block _ hltn').trans hn'
    exact ⟨by simp only [World.cell?, h1]; rfl, by simp only [World.cell?, h2]; rfl⟩)
  clear hp hl' hn' hlp hltl' hltn'
  obtain ⟨p0, p1, p2, p3, p4, p5, p6, p7, p8, p9, p10, p11, pf⟩ := HPa.out _ (Below.refl _ _)
  obtain ⟨k0, k1⟩ := HKa.out _ (Below.refl _ _)
  go_wp2_with fail
  refine (HF1.out _ HB.out).mono ?_
  rintro e W2 ⟨rfl, hb2⟩
  have HB2 := Lib.hid (HB.out.trans (hb2.mono HB.out.size))
  clear p0 p1 p2 p3 p4 p5 p6 p7 p8 p9 p10 p11 pf k0 k1
  cases q
  · obtain ⟨p0, p1, p2, p3, p4, p5, p6, p7, p8, p9, p10, p11, pf⟩ := HPa.out _ hb2
    obtain ⟨k0, k1⟩ := HKa.out _ hb2
    go_wp2_with fail
    refine (HF2.out _ HB2.out).mono ?_
    rintro e W3 ⟨rfl, hb3⟩
    have HB3 := Lib.hid (HB2.out.trans (hb3.mono HB2.out.size))
    go_wp2_with fail
    go_ret
    exact ⟨rfl, HB3.out⟩
  · go_wp2_with fail
    go_ret
    exact ⟨rfl, HB2.out⟩
/-- two processes as the terms that Lost returns -/
def prTL (p : Pr) : List Value := idTL p.1 ++ idTL p.2
theorem prTL_len (p : Pr) : (prTL p).length = 18 := rfl
theorem prTL_one (p : Pr) : ∀ u ∈ prTL p, u.oneCell' = true := fun u hu => by
  rcases List.mem_append.1 hu with h | h
  · exact idTL_one _ u h
  · exact idTL_one _ u h
theorem info60 : (Tryz.prog.info? 60).map (fun i => (i.zero, i.size, i.bytes)) = some (some (.agg #[.int .i64 0, .int .i64 0, .int .i64 0, .string ⟨#[]⟩, .string ⟨#[]⟩, .int .i64 0, .slice none 0 0, .string ⟨#[]⟩, .int .i64 0, .int .i64 0, .int .i64 0, .int .i64 0, .string ⟨#[]⟩, .string ⟨#[]⟩, .int .i64 0, .slice none 0 0, .string ⟨#[]⟩, .int .i64 0]), 18, 224) := by kernel_rfl
theorem el60 : ElTy 59 60 18 := elty_of Tryz.underlying59 info60 rfl (by decide) (by decide)
/-- what Lost returns and leaves, walking a list of links -/
def lostStep (o : List Pr × List (Pr × Int)) (p : Pr) : List Pr × List (Pr × Int) := (if decide (pFind o.2 p = some 0) then o.1 ++ [p] else o.1, pDel o.2 p)
def lostL (H : List (Pr × Int)) (L : List Pr) : List Pr × List (Pr × Int) := L.foldl lostStep ([], H)
theorem lostL_take {H : List (Pr × Int)} {L : List Pr} {i : Nat} {p : Pr} (h : L[i]? = some p) : lostL H (L.take (i + 1)) = lostStep (lostL H (L.take i)) p := by
  unfold lostL
  rw [List.take_add_one, h, List.foldl_append]
  rfl
theorem lostL_le (H : List (Pr × Int)) (L : List Pr) : (lostL H L).1.length ≤ L.length := by
  have : ∀ (L : List Pr) (o : List Pr × List (Pr × Int)), (L.foldl lostStep o).1.length ≤ o.1.length + L.length := by
    intro L
    induction L with
    | nil => intro o; exact Nat.le_refl _
    | cons p L ih =>
      intro o
      have h := ih (lostStep o p)
      have h2 : (lostStep o p).1.length ≤ o.1.length + 1 := by
        unfold lostStep
        dsimp only
        split
        · simp
        · exact Nat.le_succ _
      rw [List.foldl_cons, List.length_cons]
      omega
  have h := this L ([], H)
  rw [List.length_nil, Nat.zero_add] at h
  exact h
def lostS (s : LkSt) (L : List Pr) : LkSt := { s with H := (lostL s.H L).2 }
def LostP (node : ByteArray) (s : LkSt) (z mh mm : Nat) (w : World) (e : Ending) (w' : World) : Prop :=
  ∃ v L, e = .returned v ∧ L.Perm ((keys s.H).filter (fun p => farB s node p.2)) ∧ L.Pairwise (fun x y => cmP x y ≤ 0) ∧ RecOwn prTL 60 18 w' w.heap.size v (lostL s.H L).1 ∧ LkAt w' z mh mm (lostS s L) ∧ TouchB (LkS z mh mm) w w'
def LostI (s : LkSt) (L : List Pr) (z mh mm : Nat) (W : World) (base : Nat) (n : Nat) (out iv : Value) (wr : World) : Prop :=
  ∃ i : Nat, iv = .int .i64 i ∧ i ≤ L.length ∧ n = L.length - i ∧ LkAt wr z mh mm (lostS s (L.take i)) ∧ RecOwn prTL 60 18 wr base out (lostL s.H (L.take i)).1 ∧ TouchB (LkS z mh mm) W wr
theorem lost37 {w : World} {z mh mm : Nat} {s : LkSt} (h : LkAt w z mh mm s) (hlen : s.H.length ≤ 100000000) (node : ByteArray) : Calls Tryz.prog 37 #[.pointer (some ⟨z, 0, none⟩), .string node] w (LostP node s z mh mm w) := by
  have HN := Lib.hid (fun W (hW : Below w.heap.size w W) => none85 (h.below hW).obj)
  have H0 := Lib.hid h
  have HLn := Lib.hid hlen
  have hb := two_boxes w (.cells #[.pointer (some ⟨z, 0, none⟩)] 24) (.cells #[.string node] 9)
  have hx0 := alloc_new w (.cells #[.pointer (some ⟨z, 0, none⟩)] 24)
  have hx := ((belowA (Below.refl (w.alloc (.cells #[.pointer (some ⟨z, 0, none⟩)] 24)).heap.size _) (.cells #[.string node] 9) (Nat.le_refl _)).block w.heap.size (by rw [World.size_alloc]; omega)).trans hx0
  have hy := alloc_new (w.alloc (.cells #[.pointer (some ⟨z, 0, none⟩)] 24)) (.cells #[.string node] 9)
  rw [World.size_alloc] at hy
  have hs2 : ((w.alloc (.cells #[.pointer (some ⟨z, 0, none⟩)] 24)).alloc (.cells #[.string node] 9)).heap.size = w.heap.size + 2 := by rw [World.size_alloc, World.size_alloc]
  have HB := Lib.hid hb
  have HX := Lib.hid hx
  have HY := Lib.hid hy
  have HS2 := Lib.hid hs2
  clear h hlen hb hx0 hx hy hs2
  have hmf : ∀ (fn : Fn) (first cap : Array Value) (w : World), (Instr.makeFunc fn first cap).run Tryz.prog w = .ok (.func fn first cap) w := fun _ _ _ _ => rfl
  go_enter Tryz.func37, Tryz.ntmps37
  go_wp2_with fail
  refine (HN.out _ HB.out).mono ?_
  rintro e w1 ⟨rfl, hw1⟩
  subst hw1
  clear HN
  go_upto_region 4 with (fail)
  generalize ((w.alloc (.cells #[.pointer (some ⟨z, 0, none⟩)] 24)).alloc (.cells #[.string node] 9)) = W1 at *
  have HK : Hid (∀ W : World, W.heap[w.heap.size]? = W1.heap[w.heap.size]? → W.cell? ⟨w.heap.size, 0, none⟩ = some (.pointer (some ⟨z, 0, none⟩)) ∧ ∀ o, W.frozen? ⟨w.heap.size, o, none⟩ = false) := Lib.hid (fun W hW => by
    have h1 := hW.trans HX.out
    exact ⟨by simp only [World.cell?, h1]; rfl, fun o => by simp [World.frozen?, h1]⟩)
  obtain ⟨k0, kf⟩ := HK.out W1 rfl
  have hbl : w.heap.size < W1.heap.size := by have := HS2.out; omega
  have hbn : w.heap.size + 1 < W1.heap.size := by have := HS2.out; omega
  have HS1 := Lib.hid (H0.out.below HB.out)
  have HSo := Lib.hid (sorted94 HS1.out HLn.out (g := 95) (cb := #[.pointer (some ⟨w.heap.size, 0, none⟩), .pointer (some ⟨w.heap.size + 1, 0, none⟩)]) (T := fun p => farB s node p.2) (fun _ _ => rfl) (fun W p hW => lost95 (HS1.out.below hW) node ((hW.block _ hbl).trans HX.out) ((hW.block _ hbn).trans HY.out) p))
  go_wp2_with fail
  refine HSo.out.mono ?_
  rintro e W2 ⟨v, L, rfl, hp, hs, hr, ho, hb2⟩
  clear HSo k0 kf
  obtain ⟨pv, cv, rfl, _, _⟩ := hr.shape
  have hLl : L.length ≤ 100000000 := by rw [hp.length_eq]; exact Nat.le_trans (List.length_filter_le _ _) (by have := HLn.out; simpa [keys] using this)
  have HPp := Lib.hid hp
  have HPs := Lib.hid hs
  have HR2 := Lib.hid hr
  have HOw := Lib.hid (fun k hk => Nat.le_trans HB.out.size (ho k hk))
  have HB2 := Lib.hid (HB.out.trans (hb2.mono HB.out.size))
  have HX2 := Lib.hid (hb2.block _ hbl)
  have hbl2 := Nat.lt_of_lt_of_le hbl hb2.size
  have hS2 := HS1.out.below hb2
  have HZ : Hid (z < w.heap.size ∧ mh < w.heap.size ∧ mm < w.heap.size) := Lib.hid ⟨H0.out.zlt, H0.out.hlt, H0.out.mlt⟩
  have HNo : Hid (∀ k, w.heap.size ≤ k → ¬ LkS z mh mm k) := Lib.hid (fun k hk hS => by have := HZ.out; rcases hS with h | h | h <;> omega)
  have H00 : Hid (LostI s L z mh mm W2 W2.heap.size L.length (.slice none 0 0) (.int .i64 0) W2) := Lib.hid ⟨0, rfl, Nat.zero_le _, rfl, hS2, RecOwn.nil _ _ _, TouchB.refl _ _⟩
  have HR := Lib.hid (fun wr (hT : TouchB (LkS z mh mm) W2 wr) => rec_touchL HR2.out hT (Nat.le_refl _) (fun g hg => HNo.out g (HOw.out g hg)))
  have HKb := Lib.hid (fun wr (hT : TouchB (LkS z mh mm) W2 wr) => HK.out wr ((hT.block _ hbl2 (HNo.out _ (Nat.le_refl _))).trans HX2.out))
  have HZ2 : Hid (w.heap.size ≤ W2.heap.size ∧ w.heap.size < W2.heap.size) := Lib.hid ⟨HB2.out.size, hbl2⟩
  clear hp hs hr ho hb2 hS2 hbl hbn HLn hbl2 HX HY HX2 HB HS2 HS1 HR2 HOw H0 HK
  generalize hbw : w.heap.size = bl at *
  have HBw := Lib.hid hbw
  clear hbw
  go_wp2_with fail
  go_loopg [5, 14] L.length (fun n out iv wr => Hid (LostI s L z mh mm W2 W2.heap.size n out iv wr))
  case atStart => exact H00
  case round =>
    obtain ⟨i, rfl, hi, hn, hS, hown, hT⟩ := hrel.out
    clear hrel H00
    obtain ⟨po, co, rfl, _, _⟩ := hown.shape
    by_cases hlt : i < L.length
    · have hat := List.getElem?_eq_getElem hlt
      obtain ⟨g, o, e1, hn0, hg, hc⟩ := (HR.out _ hT).nth (by omega)
      have hc := hc i _ hat
      have HTk := Lib.hid (lostL_take (H := s.H) hat)
      subst e1
      generalize L[i] = p at *
      obtain ⟨⟨x1, x2, x3, x4⟩, ⟨y1, y2, y3, y4⟩⟩ := p
      have e0 : wr.cell? ⟨g, o + i * 8, none⟩ = some (.int .i64 x1) := hc 0 _ rfl
      have e1 : wr.cell? ⟨g, o + i * 8 + 1, none⟩ = some (.string x2) := hc 1 _ rfl
      have e2 : wr.cell? ⟨g, o + i * 8 + 2, none⟩ = some (.int .i64 x3) := hc 2 _ rfl
      have e3 : wr.cell? ⟨g, o + i * 8 + 3, none⟩ = some (.int .i64 x4) := hc 3 _ rfl
      have e4 : wr.cell? ⟨g, o + i * 8 + 4, none⟩ = some (.int .i64 y1) := hc 4 _ rfl
      have e5 : wr.cell? ⟨g, o + i * 8 + 5, none⟩ = some (.string y2) := hc 5 _ rfl
      have e6 : wr.cell? ⟨g, o + i * 8 + 6, none⟩ = some (.int .i64 y3) := hc 6 _ rfl
      have e7 : wr.cell? ⟨g, o + i * 8 + 7, none⟩ = some (.int .i64 y4) := hc 7 _ rfl
      have HN := Lib.hid hn
      have HS := Lib.hid hS
      have HO := Lib.hid hown
      have HT := Lib.hid hT
      have HLe : Hid ((lostL s.H (L.take i)).1.length + 1 ≤ 1000000000) := Lib.hid (by have := lostL_le s.H (L.take i); have := List.length_take_le i L; omega)
      have r1 : (i : Int) < (L.length : Int) := by omega
      clear hc hn hS hT hn0 hat hown
      go_upto_region 7 with (fail)
      have hX := alloc_new wr (.cells #[.int .i64 x1, .string x2, .int .i64 x3, .int .i64 x4, .int .i64 y1, .string y2, .int .i64 y3, .int .i64 y4] 149)
      have hb4 := belowA (Below.refl wr.heap.size wr) (.cells #[.int .i64 x1, .string x2, .int .i64 x3, .int .i64 x4, .int .i64 y1, .string y2, .int .i64 y3, .int .i64 y4] 149) (Nat.le_refl _)
      have hl4 : wr.heap.size < (wr.alloc (.cells #[.int .i64 x1, .string x2, .int .i64 x3, .int .i64 x4, .int .i64 y1, .string y2, .int .i64 y3, .int .i64 y4] 149)).heap.size := by rw [World.size_alloc]; omega
      have hne := mh_ne HS.out (Nat.le_refl wr.heap.size)
      have HS4 := Lib.hid (HS.out.below hb4)
      have HO4 := Lib.hid (HO.out.below hb4)
      have HT4 := Lib.hid (touch_trans HT.out (touch_of hb4))
      have HNz : Hid (∀ k, (Value.slice po (lostL s.H (L.take i)).1.length co).ownBlock = some k → k ≠ wr.heap.size ∧ W2.heap.size ≤ k) := Lib.hid (fun k hk => ⟨by have := (HO.out.lt hk).2; omega, (HO.out.lt hk).1⟩)
      have hzz : W2.heap.size ≤ wr.heap.size := HT.out.size
      clear e0 e1 e2 e3 e4 e5 e6 e7 HS HT HO hb4 hg
      generalize (wr.alloc (.cells #[.int .i64 x1, .string x2, .int .i64 x3, .int .i64 x4, .int .i64 y1, .string y2, .int .i64 y3, .int .i64 y4] 149)) = W4 at *
      generalize wr.heap.size = zp at *
      have HP4 := Lib.hid hX
      have HXa := Lib.hid (fun W (hW : Below W4.heap.size W4 W) => eight_cells ((hW.block _ hl4).trans HP4.out))
      have HAx := Lib.hid (active81 HS4.out ((x1, x2, x3, x4), (y1, y2, y3, y4)))
      unfold prV at HAx
      dsimp only at HAx
      have HAe : Hid (actB (lostS s (L.take i)) ((x1, x2, x3, x4), (y1, y2, y3, y4)) = decide (pFind (lostL s.H (L.take i)).2 ((x1, x2, x3, x4), (y1, y2, y3, y4)) = some 0)) := Lib.hid rfl
      generalize actB (lostS s (L.take i)) ((x1, x2, x3, x4), (y1, y2, y3, y4)) = act at *
      clear hX
      obtain ⟨r0, r1', r2, r3, r4, r5, r6, r7, rf⟩ := HXa.out _ (Below.refl _ _)
      obtain ⟨k0, kf⟩ := HKb.out _ HT4.out
      go_wp2_with fail
      refine HAx.out.mono ?_
      rintro e W5 ⟨rfl, hb5⟩
      clear r0 r1' r2 r3 r4 r5 r6 r7 rf HAx k0 kf
      have HS5 := Lib.hid (HS4.out.below hb5)
      have HO5 := Lib.hid (HO4.out.below hb5)
      have HT5 := Lib.hid (touch_trans HT4.out (touch_of hb5))
      have HP5 := Lib.hid ((hb5.block _ hl4).trans HP4.out)
      have hl5 := Nat.lt_of_lt_of_le hl4 hb5.size
      clear HXa HS4 HO4 HT4 HP4 hb5 hl4
      have HFin : Hid (∀ (a : Bool) (out' : Value) (W9 : World), a = act → LkAt W9 z mh mm (lostS s (L.take i)) → RecOwn prTL 60 18 W9 W2.heap.size out' (if a then (lostL s.H (L.take i)).1 ++ [((x1, x2, x3, x4), (y1, y2, y3, y4))] else (lostL s.H (L.take i)).1) → TouchB (LkS z mh mm) W2 W9 → ∀ W10, LkAt W10 z mh mm { lostS s (L.take i) with H := pDel (lostS s (L.take i)).H ((x1, x2, x3, x4), (y1, y2, y3, y4)) } → TouchB (fun j => j = mh) W9.drew W10 → LostI s L z mh mm W2 W2.heap.size (L.length - (i + 1)) out' (.int .i64 ((i + 1 : Nat) : Int)) W10) := Lib.hid (fun a out' W9 ha h9 ho9 ht9 W10 h10 ht10 => by
        subst ha
        refine ⟨i + 1, rfl, by omega, rfl, ?_, ?_, touch_trans ht9 (touch_trans (touch_of (belowD (Below.refl _ _))) (touch_mh ht10))⟩
        · unfold lostS
          rw [HTk.out]
          exact h10
        · rw [HTk.out]
          unfold lostStep
          rw [← HAe.out]
          have hz := HZ.out
          have hz2 := HZ2.out
          exact RecOwn.same (w := W9) ho9 (fun k hk => ht10.block k (ho9.lt hk).2 (fun e => by have := (ho9.lt hk).1; omega)))
      cases act
      · go_upto_region 9 with (fail)
        have HS5d := Lib.hid (HS5.out.below (belowD (Below.refl _ _)))
        obtain ⟨W6, hrun6, h6, ht6, hs6⟩ := delH_run HS5d.out ((x1, x2, x3, x4), (y1, y2, y3, y4))
        obtain ⟨c0, c1, c2, c3, c4, cf⟩ := five_cells HS5.out.obj
        obtain ⟨r0, r1', r2, r3, r4, r5, r6, r7, rf⟩ := eight_cells HP5.out
        obtain ⟨k0, kf⟩ := HKb.out _ HT5.out
        unfold prV at hrun6
        dsimp only at hrun6
        have HI := Lib.hid (HFin.out false _ W5 rfl HS5.out HO5.out HT5.out W6 h6 ht6)
        clear h6 ht6 hs6
        go_still_tail 5, (by kernel_rfl)
        go_wp2_with fail
        go_roundg (L.length - (i + 1))
        case measure => have := HN.out; omega
        case rel => exact Lib.hid HI.out
      · go_upto_region 8 with (fail)
        have HPa := Lib.hid (fun W (hW : Below W5.heap.size W5 W) => eight_cells ((hW.block _ hl5).trans HP5.out))
        have HOa := Lib.hid (fun W (hW : Below W5.heap.size W5 W) => HO5.out.below hW)
        have hbd : Below W5.heap.size W5 W5.drew := belowD (Below.refl _ _)
        have HTx := Lib.hid (fun W => term83 (x1, x2, x3, x4) W)
        have HTy := Lib.hid (fun W => term83 (y1, y2, y3, y4) W)
        unfold aggV idT idV nilV at HTx HTy
        dsimp only at HTx HTy
        have hE : Hid (EncOK prTL 18 [(((x1, x2, x3, x4), (y1, y2, y3, y4)) : Pr)]) := Lib.hid (fun a _ => ⟨prTL_len a, prTL_one a⟩)
        have HRf : Hid (∀ W : World, RecAt prTL 18 (W.alloc (.cells #[.int .i64 x1, .int .i64 x4, .int .i64 x3, .string x2, .string ⟨#[]⟩, .int .i64 0, .slice none 0 0, .string ⟨#[]⟩, .int .i64 0, .int .i64 y1, .int .i64 y4, .int .i64 y3, .string y2, .string ⟨#[]⟩, .int .i64 0, .slice none 0 0, .string ⟨#[]⟩, .int .i64 0] 60)) (W.heap.size + 1) (.slice (some ⟨W.heap.size, 0, none⟩) 1 1) [(((x1, x2, x3, x4), (y1, y2, y3, y4)) : Pr)]) := Lib.hid (fun W => RecAt.fresh (enc := prTL) (l := [(((x1, x2, x3, x4), (y1, y2, y3, y4)) : Pr)]) (c := 1) hE.out (by decide) (alloc_new W (.cells #[.int .i64 x1, .int .i64 x4, .int .i64 x3, .string x2, .string ⟨#[]⟩, .int .i64 0, .slice none 0 0, .string ⟨#[]⟩, .int .i64 0, .int .i64 y1, .int .i64 y4, .int .i64 y3, .string y2, .string ⟨#[]⟩, .int .i64 0, .slice none 0 0, .string ⟨#[]⟩, .int .i64 0] 60)) (Nat.le_refl _) (by decide))
        have HSz : Hid (W2.heap.size ≤ W5.heap.size) := Lib.hid HT5.out.size
        obtain ⟨r0, r1', r2, r3, r4, r5, r6, r7, rf⟩ := HPa.out _ hbd
        go_region_held3 (fun w' => w'.cell? ⟨zp, 0, none⟩ = some (.int .i64 x1) ∧ w'.cell? ⟨zp, 1, none⟩ = some (.string x2) ∧ w'.cell? ⟨zp, 2, none⟩ = some (.int .i64 x3) ∧ w'.cell? ⟨zp, 3, none⟩ = some (.int .i64 x4) ∧ w'.cell? ⟨zp, 4, none⟩ = some (.int .i64 y1) ∧ w'.cell? ⟨zp, 5, none⟩ = some (.string y2) ∧ w'.cell? ⟨zp, 6, none⟩ = some (.int .i64 y3) ∧ w'.cell? ⟨zp, 7, none⟩ = some (.int .i64 y4)) (go_keep)
          (first
            | (go_at_call 83; (with_reducible refine (HTx.out _).mono ?_); rintro e wa ⟨rfl, hb⟩; replace hbd := hbd.trans (hb.mono hbd.size); obtain ⟨r0, r1', r2, r3, r4, r5, r6, r7, rf⟩ := HPa.out _ hbd)
            | (go_at_call 83; (with_reducible refine (HTy.out _).mono ?_); rintro e wb ⟨rfl, hb⟩; replace hbd := hbd.trans (hb.mono hbd.size); obtain ⟨r0, r1', r2, r3, r4, r5, r6, r7, rf⟩ := HPa.out _ hbd)
            | (replace hbd := belowA hbd (.cells #[.int .i64 x1, .int .i64 x4, .int .i64 x3, .string x2, .string ⟨#[]⟩, .int .i64 0, .slice none 0 0, .string ⟨#[]⟩, .int .i64 0, .int .i64 y1, .int .i64 y4, .int .i64 y3, .string y2, .string ⟨#[]⟩, .int .i64 0, .slice none 0 0, .string ⟨#[]⟩, .int .i64 0] 60) hbd.size; refine step_append_rec el60 rfl (.tmp 21) (.tmp 29) rfl rfl (HOa.out _ hbd) (Nat.le_trans HSz.out hbd.size) rfl (HRf.out _) hE.out HLe.out ?_; intro v' W8 hA; have hzb := (hA.other (Nat.lt_of_lt_of_le hl5 hbd.size) (fun e => (HNz.out _ e).1 rfl)).trans ((hbd.block _ hl5).trans HP5.out); obtain ⟨r0, r1', r2, r3, r4, r5, r6, r7, rf⟩ := eight_cells hzb; obtain ⟨ao', cap', rfl, _, _⟩ := hA.own.shape))
        have hz := HZ.out
        have hz2 := HZ2.out
        have HS8 := Lib.hid ((HS5.out.below hbd).grown hA.grown (fun e => by have := (HNz.out _ e).2; omega) (fun e => by have := (HNz.out _ e).2; omega) (fun e => by have := (HNz.out _ e).2; omega))
        have HT8 : Hid (TouchB (LkS z mh mm) W2 W8) := Lib.hid (hA.touch (touch_trans HT5.out (touch_of hbd)) (fun k hk hlk => by have := (HNz.out _ hk).2; omega))
        have HO8 := Lib.hid hA.own
        have HP8 := Lib.hid hzb
        clear hA hzb hbd r0 r1' r2 r3 r4 r5 r6 r7 rf HPa HOa HTx HTy hE HRf HS5 HO5 HT5 HP5 hb hz hz2
        rw [List.length_append] at HO8
        go_upto_region 9 with (fail)
        have HS8d := Lib.hid (HS8.out.below (belowD (Below.refl _ _)))
        obtain ⟨W6, hrun6, h6, ht6, hs6⟩ := delH_run HS8d.out ((x1, x2, x3, x4), (y1, y2, y3, y4))
        obtain ⟨c0, c1, c2, c3, c4, cf⟩ := five_cells HS8.out.obj
        obtain ⟨r0, r1', r2, r3, r4, r5, r6, r7, rf⟩ := eight_cells HP8.out
        obtain ⟨k0, kf⟩ := HKb.out _ HT8.out
        unfold prV at hrun6
        dsimp only at hrun6
        have HI := Lib.hid (HFin.out true _ W8 rfl HS8.out HO8.out HT8.out W6 h6 ht6)
        clear h6 ht6 hs6
        go_still_tail 5, (by kernel_rfl)
        go_wp2_with fail
        go_roundg (L.length - (i + 1))
        case measure => have := HN.out; omega
        case rel => exact Lib.hid HI.out
    · obtain rfl : i = L.length := by omega
      have HS := Lib.hid hS
      have HO := Lib.hid hown
      have HT := Lib.hid hT
      clear hS hT hn hown
      go_wp2_with fail
      go_ret
      have h1 := HS.out
      have h2 : RecOwn prTL 60 18 wr W2.heap.size (.slice po (lostL s.H (L.take L.length)).1.length co) (lostL s.H L).1 := by have := HO.out; rw [List.take_length] at this ⊢; exact this
      rw [List.take_length] at h1
      exact ⟨_, L, rfl, HPp.out, HPs.out, h2.base (fun k hk => Nat.le_trans HB2.out.size (h2.lt hk).1), h1, touch_trans (touch_of (by have := HB2.out; rw [← HBw.out] at this; exact this)) HT.out⟩
end Go.Proofs.YtnakbepcalciiaaGreat.lk
