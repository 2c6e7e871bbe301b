/- Several texts in one, one behind the other: LkSa, LkSb, TnK, ToI, LkSe. No condition beyond theirs. -/
import Derived.Test.YtnakbepcalciiaaGreatHa
import Derived.Test.YtnakbepcalciiaaGreatGm
/- Links among the processes of one node are symmetric. Plain Lean. No condition. -/
namespace Go.Proofs.YtnakbepcalciiaaGreat.lk
open Go.RowKit mem rec tm names pm
set_option linter.unusedVariables false
set_option linter.unusedSimpArgs false
set_option maxHeartbeats 1000000
def P4 (x : Id) : Prop := ∃ n : Int, x = pidI nmN n ∧ 1 ≤ n ∧ n ≤ 4
theorem P4.ok {x : Id} (h : P4 x) : okI 6 x = true := by
  obtain ⟨n, rfl, h1, h2⟩ := h
  exact ok_pid v_n h1 (by omega)
theorem P4.loc {x : Id} (h : P4 x) : locB nmN 1 x = true := by
  obtain ⟨n, rfl, h1, h2⟩ := h
  unfold locB pidI
  simp
structure Sym (S : LkSt) (n : Nat) : Prop where
  node : S.node = nmN
  gen : S.gen = 1
  last : S.last = 0
  nd : (keys S.H).Nodup
  len : S.H.length ≤ n
  mem : ∀ x y, (x, y) ∈ keys S.H → P4 x ∧ P4 y ∧ x ≠ y
  zero : ∀ k, pFind S.H k = none ∨ pFind S.H k = some 0
  sym : ∀ x y, pFind S.H (x, y) = pFind S.H (y, x)
theorem Sym.start : Sym ⟨nmN, 1, 0, [], []⟩ 0 := ⟨rfl, rfl, rfl, List.nodup_nil, Nat.le_refl _, fun x y h => by simp [keys] at h, fun k => .inl rfl, fun x y => rfl⟩
theorem Sym.mono {S : LkSt} {n m : Nat} (h : Sym S n) (hn : n ≤ m) : Sym S m := ⟨h.node, h.gen, h.last, h.nd, Nat.le_trans h.len hn, h.mem, h.zero, h.sym⟩
theorem pair_swap {x y a b : Id} : ((a, b) = (x, y)) ↔ ((b, a) = (y, x)) := by
  constructor <;> · intro h; cases h; rfl
theorem Sym.join {S : LkSt} {n : Nat} {x y : Id} (h : Sym S n) (hx : P4 x) (hy : P4 y) (hne : x ≠ y) : Sym (joinS S x y) (n + 2) := by
  have hl : locB S.node S.gen y = true := by rw [h.node, h.gen]; exact hy.loc
  unfold joinS
  rw [if_pos hl]
  have hf : ∀ k, pFind (pPut (pPut S.H (x, y) 0) (y, x) 0) k = if k = (y, x) then some 0 else if k = (x, y) then some 0 else pFind S.H k := fun k => by rw [find_put, find_put]
  refine ⟨h.node, h.gen, h.last, nodup_put (nodup_put h.nd _ _) _ _, ?_, ?_, ?_, ?_⟩
  · have h1 := len_put (pPut S.H (x, y) 0) (y, x) (0 : Int)
    have h2 := len_put S.H (x, y) (0 : Int)
    have h3 := h.len
    show (pPut (pPut S.H (x, y) 0) (y, x) 0).length ≤ n + 2
    omega
  · intro a b hm
    have hm : (a, b) ∈ keys (pPut (pPut S.H (x, y) 0) (y, x) 0) := hm
    rw [mem_keys_put, mem_keys_put] at hm
    rcases hm with hm | hm | hm
    · cases hm; exact ⟨hy, hx, fun e => hne e.symm⟩
    · cases hm; exact ⟨hx, hy, hne⟩
    · exact h.mem a b hm
  · intro k
    show pFind (pPut (pPut S.H (x, y) 0) (y, x) 0) k = none ∨ pFind (pPut (pPut S.H (x, y) 0) (y, x) 0) k = some 0
    rw [hf]
    split
    · exact .inr rfl
    · split
      · exact .inr rfl
      · exact h.zero k
  · intro a b
    show pFind (pPut (pPut S.H (x, y) 0) (y, x) 0) (a, b) = pFind (pPut (pPut S.H (x, y) 0) (y, x) 0) (b, a)
    rw [hf, hf]
    by_cases h1 : (a, b) = (x, y)
    · have h2 := pair_swap.1 h1
      rw [if_pos h2, if_pos h1]
      split <;> rfl
    · have h1' : ¬ (b, a) = (y, x) := fun e => h1 (pair_swap.2 e)
      rw [if_neg h1, if_neg h1']
      by_cases h2 : (a, b) = (y, x)
      · have h3 := pair_swap.1 h2
        rw [if_pos h2, if_pos h3]
      · have h3 : ¬ (b, a) = (x, y) := fun e => h2 (pair_swap.2 e)
        rw [if_neg h2, if_neg h3]
        exact h.sym a b
def delTwo (H : List (Pr × Int)) (p : Pr) : List (Pr × Int) := pDel (pDel H p) (p.2, p.1)
theorem Sym.two {S : LkSt} {n : Nat} (h : Sym S n) (p : Pr) : Sym { S with H := delTwo S.H p } n := by
  obtain ⟨x, y⟩ := p
  have hn1 : (keys (pDel S.H (x, y))).Nodup := nodup_del h.nd _
  have hf : ∀ k, pFind (delTwo S.H (x, y)) k = if k = (y, x) then none else if k = (x, y) then none else pFind S.H k := fun k => by
    unfold delTwo
    rw [find_del hn1, find_del h.nd]
  refine ⟨h.node, h.gen, h.last, nodup_del hn1 _, ?_, ?_, ?_, ?_⟩
  · have h1 := len_del (pDel S.H (x, y)) (y, x)
    have h2 := len_del S.H (x, y)
    have h3 := h.len
    show (pDel (pDel S.H (x, y)) (y, x)).length ≤ n
    omega
  · intro a b hm
    have hm : (a, b) ∈ keys (pDel (pDel S.H (x, y)) (y, x)) := hm
    rw [mem_keys_del hn1, mem_keys_del h.nd] at hm
    exact h.mem a b hm.2.2
  · intro k
    show pFind (delTwo S.H (x, y)) k = none ∨ pFind (delTwo S.H (x, y)) k = some 0
    rw [hf]
    split
    · exact .inl rfl
    · split
      · exact .inl rfl
      · exact h.zero k
  · intro a b
    show pFind (delTwo S.H (x, y)) (a, b) = pFind (delTwo S.H (x, y)) (b, a)
    rw [hf, hf]
    by_cases h1 : (a, b) = (x, y)
    · have h2 := pair_swap.1 h1
      rw [if_pos h2, if_pos h1]
      split <;> rfl
    · have h1' : ¬ (b, a) = (y, x) := fun e => h1 (pair_swap.2 e)
      rw [if_neg h1, if_neg h1']
      by_cases h2 : (a, b) = (y, x)
      · have h3 := pair_swap.1 h2
        rw [if_pos h2, if_pos h3]
      · have h3 : ¬ (b, a) = (x, y) := fun e => h2 (pair_swap.2 e)
        rw [if_neg h2, if_neg h3]
        exact h.sym a b
theorem Sym.part {S : LkSt} {n : Nat} {x y : Id} (h : Sym S n) (hy : P4 y) : Sym (partS S x y) n := by
  have hl : locB S.node S.gen y = true := by rw [h.node, h.gen]; exact hy.loc
  unfold partS
  rw [if_pos hl]
  exact h.two (x, y)
/-- the state behind End: the links of a list are gone, both ways -/
def delL (H : List (Pr × Int)) (L : List Pr) : List (Pr × Int) := L.foldl delTwo H
def endS (S : LkSt) (L : List Pr) : LkSt := { S with H := delL S.H L }
theorem delL_take {H : List (Pr × Int)} {L : List Pr} {i : Nat} {p : Pr} (h : L[i]? = some p) : delL H (L.take (i + 1)) = delTwo (delL H (L.take i)) p := by
  unfold delL
  rw [List.take_add_one, h, List.foldl_append]
  rfl
theorem Sym.ends {n : Nat} : ∀ (L : List Pr) {S : LkSt}, Sym S n → Sym (endS S L) n
  | [], S, h => h
  | p :: L, S, h => Sym.ends L (h.two p)
theorem memI_of {S : LkSt} {L : List Pr} {x : Id} (hL : L.Perm ((keys S.H).filter (fun p => decide (p.1 = x)))) (y : Id) : memI y (actL S L) = actB S (x, y) := by
  rw [Bool.eq_iff_iff, mem_memI, act_iff]
  unfold actL
  rw [List.mem_map]
  constructor
  · rintro ⟨⟨a, b⟩, hp, rfl⟩
    obtain ⟨h1, h2⟩ := List.mem_filter.1 hp
    have h3 := List.mem_filter.1 (hL.mem_iff.1 h1)
    have h4 : a = x := of_decide_eq_true h3.2
    subst h4
    exact (act_iff _ _).1 h2
  · intro hf
    refine ⟨(x, y), List.mem_filter.2 ⟨hL.mem_iff.2 (List.mem_filter.2 ⟨?_, decide_eq_true rfl⟩), (act_iff _ _).2 hf⟩, rfl⟩
    by_cases hk : (x, y) ∈ keys S.H
    · exact hk
    · rw [find_none.2 hk] at hf; cases hf
theorem Sym.act {S : LkSt} {n : Nat} (h : Sym S n) (x y : Id) : actB S (x, y) = actB S (y, x) := by
  unfold actB
  rw [h.sym x y]
theorem Sym.self {S : LkSt} {n : Nat} (h : Sym S n) (x : Id) : actB S (x, x) = false := by
  cases hr : actB S (x, x)
  · rfl
  · have hf := (act_iff _ _).1 hr
    by_cases hk : (x, x) ∈ keys S.H
    · exact absurd rfl (h.mem x x hk).2.2
    · rw [find_none.2 hk] at hf; cases hf
theorem Sym.once {S : LkSt} {n : Nat} (h : Sym S n) {T : Pr → Bool} {L L' : List Pr} (h1 : L.Perm ((keys S.H).filter T)) (h2 : L.Pairwise (fun x y => cmP x y ≤ 0)) (h3 : L'.Perm ((keys S.H).filter T)) (h4 : L'.Pairwise (fun x y => cmP x y ≤ 0)) : L = L' :=
  sorted_is (h1.trans h3.symm) h2 h4 (fun p hp => by
    obtain ⟨x, y⟩ := p
    have := h.mem x y (List.mem_filter.1 (h3.mem_iff.1 hp)).1
    exact ⟨this.1.ok, this.2.1.ok⟩)
theorem pair_ok {S : LkSt} {n : Nat} {x y : Id} (h : Sym S n) (hx : P4 x) (hy : P4 y) : pairB S.node S.gen false (okI 6 x) (okI 6 y) x y = decide (x ≠ y) := by
  rw [h.node, h.gen]
  unfold pairB
  rw [hx.ok, hy.ok, hx.loc]
  simp
end Go.Proofs.YtnakbepcalciiaaGreat.lk
/- End: the links of a process go, both ways. Conditions: the object was made by New; the term lies in memory. -/
namespace Go.Proofs.YtnakbepcalciiaaGreat.lk
open Go.RowKit mem rec tm names pm
set_option linter.unusedVariables false
set_option linter.unusedSimpArgs false
set_option maxHeartbeats 4000000
set_option maxRecDepth 100000
def mineF (ok : Bool) (x : Id) (s : LkSt) : List Pr := if ok then (keys s.H).filter (fun p => decide (p.1 = x)) else []
theorem mineF_le (ok : Bool) (x : Id) (s : LkSt) : (mineF ok x s).length ≤ s.H.length := by
  unfold mineF
  split
  · exact Nat.le_trans (List.length_filter_le _ _) (by simp [keys])
  · exact Nat.zero_le _
def EndP (ok : Bool) (x : Id) (s : LkSt) (z mh mm : Nat) (w : World) (e : Ending) (w' : World) : Prop :=
  ∃ v L L', e = .returned v ∧ L.Perm (mineF ok x s) ∧ L.Pairwise (fun x y => cmP x y ≤ 0) ∧ L'.Perm (mineF ok x s) ∧ L'.Pairwise (fun x y => cmP x y ≤ 0) ∧ RecOwn idTL 30 9 w' w.heap.size v (actL s L) ∧ LkAt w' z mh mm (endS s L') ∧ TouchB (LkS z mh mm) w w'
def EndI (s : LkSt) (L : List Pr) (z mh mm : Nat) (W : World) (n : Nat) (iv : Value) (wr : World) : Prop :=
  ∃ i : Nat, iv = .int .i64 i ∧ i ≤ L.length ∧ n = L.length - i ∧ LkAt wr z mh mm (endS s (L.take i)) ∧ TouchB (LkS z mh mm) W wr
theorem endS_take {s : LkSt} {L : List Pr} {i : Nat} {p : Pr} (h : L[i]? = some p) : endS s (L.take (i + 1)) = { s with H := pDel (pDel (delL s.H (L.take i)) p) (p.2, p.1) } := by
  unfold endS
  rw [delL_take h]
  rfl
theorem rec_touch {α : Type} {enc : α → List Value} {k : Nat} {w w' : World} {B : Nat} {v : Value} {l : List α} {S : Nat → Prop} (h : RecAt enc k w B v l) (ht : TouchB S w w') (hB : B ≤ w.heap.size) (hs : ∀ g, v.ownBlock = some g → ¬ S g) : RecAt enc k w' B v l := by
  obtain ⟨p, c, e, h1, h2, h3⟩ := h
  refine ⟨p, c, e, h1, h2, fun hn => ?_⟩
  obtain ⟨g, o, e', hg, hc⟩ := h3 hn
  exact ⟨g, o, e', hg, fun j a hj q u hu => (World.cell?_of_block (w := w) (w' := w') (a := ⟨g, o + (j * k + q), none⟩) (ht.block g (Nat.lt_of_lt_of_le hg hB) (hs g (by rw [e, e']; rfl)))).trans (hc j a hj q u hu)⟩
theorem end19 {n : Nat} {w : World} {z mh mm : Nat} {s : LkSt} (h : LkAt w z mh mm s) (hlen : s.H.length ≤ 100000000) (B : Nat) (va : Value) (ta : Tm (n + 1)) (hB : B ≤ w.heap.size) (ha : ItemsAt w B n va ta.items) (sa : 300 * (nodesT ta : Int) ≤ 1000000000000) :
    Calls Tryz.prog 19 #[.pointer (some ⟨z, 0, none⟩), aggV ta.f va] w (EndP ((decide (ta.f.kind = 6) && validT ta) && locB s.node s.gen (idOf ta.f)) (idOf ta.f) s z mh mm w) := by
  have HO := Lib.hid (fun W (hW : Below w.heap.size w W) => of22 (h.below hW) hlen B va ta (Nat.le_trans hB hW.size) (ha.below hW hB) sa)
  have HP := Lib.hid (fun W (hW : Below w.heap.size w W) => mine82 (h.below hW) hlen B va ta (Nat.le_trans hB hW.size) (ha.below hW hB) sa)
  have H0 := Lib.hid h
  have HLn := Lib.hid hlen
  obtain ⟨pa, ca, rfl, _, _⟩ := ha.shape
  clear ha sa hB h hlen
  generalize ((decide (ta.f.kind = 6) && validT ta) && locB s.node s.gen (idOf ta.f)) = ok at *
  generalize hx : idOf ta.f = x at *
  clear hx
  generalize ta.items.length = na at *
  generalize ta.f = fa at *
  have hA := nine_of (alloc_new w (cells9 fa (.slice pa na ca)))
  have hb1 := belowA (Below.refl w.heap.size w) (cells9 fa (.slice pa na ca)) (Nat.le_refl _)
  have hlA : w.heap.size < (w.alloc (cells9 fa (.slice pa na ca))).heap.size := by rw [World.size_alloc]; omega
  obtain ⟨ak, ai, ag, an, af, aa, ab, az⟩ := fa
  unfold aggV at *
  unfold cells9 at *
  dsimp only at *
  have HA := Lib.hid hA
  have HB1 := Lib.hid hb1
  clear hA hb1
  go_enter Tryz.func19, Tryz.ntmps19
  go_upto_region 1 with (fail)
  generalize (w.alloc (.cells #[.int .i64 ak, .int .i64 ai, .int .i64 ag, .string an, .string af, .int .i64 aa, .slice pa na ca, .string ab, .int .i64 az] 30)) = W1 at *
  obtain ⟨x0, x1', x2', x3', x4', x5', x6', x7', x8', xf⟩ := HA.out
  dsimp only at x0 x1' x2' x3' x4' x5' x6' x7' x8'
  go_wp2_with fail
  refine (HO.out _ HB1.out).mono ?_
  rintro e Wo ⟨vo, Lo, rfl, hpo, hso, hro, hbo⟩
  clear x0 x1' x2' x3' x4' x5' x6' x7' x8' xf HO
  obtain ⟨po, co, rfl, _, _⟩ := hro.shape
  have HPo := Lib.hid (show Lo.Perm (mineF ok x s) from hpo)
  have HSo := Lib.hid hso
  have HBo := Lib.hid (HB1.out.trans (hbo.mono HB1.out.size))
  have HRo := Lib.hid (hro.base (fun k hk => Nat.le_trans HB1.out.size (hro.lt hk).1))
  have HAo := Lib.hid (HA.out.below hbo hlA)
  clear hpo hso hro hbo HA
  obtain ⟨x0, x1', x2', x3', x4', x5', x6', x7', x8', xf⟩ := HAo.out
  dsimp only at x0 x1' x2' x3' x4' x5' x6' x7' x8'
  go_wp2_with fail
  refine (HP.out _ HBo.out).mono ?_
  rintro e W2 ⟨v, L, rfl, hp, hs, hr, ho, hb2⟩
  clear x0 x1' x2' x3' x4' x5' x6' x7' x8' xf HP HAo
  obtain ⟨pv, cv, rfl, _, hcm⟩ := hr.shape
  have hp : L.Perm (mineF ok x s) := hp
  have HLL : Hid (L.length ≤ 100000000) := Lib.hid (by rw [hp.length_eq]; exact Nat.le_trans (mineF_le ok x s) HLn.out)
  have hLL := HLL.out
  obtain ⟨⟨q1, q2, q3, q4⟩, hq⟩ : ∃ q : Id, (if ok then x else zId) = q := ⟨_, rfl⟩
  rw [hq]
  unfold idV
  dsimp only
  clear hq hcm
  have HPp := Lib.hid hp
  have HPs := Lib.hid hs
  have HRo2 := Lib.hid (HRo.out.below hb2)
  have hbw := HBo.out.trans (hb2.mono HBo.out.size)
  have HOw := Lib.hid (fun k hk => Nat.le_trans HBo.out.size (ho k hk))
  clear hp hs hb2 HRo HBo ho
  go_upto_region 3 with (fail)
  have hb3 := belowA hbw (.cells #[.int .i64 q1, .string q2, .int .i64 q3, .int .i64 q4] 147) hbw.size
  have hr3 := hr.below (belowA (Below.refl W2.heap.size W2) (.cells #[.int .i64 q1, .string q2, .int .i64 q3, .int .i64 q4] 147) (Nat.le_refl _)) (Nat.le_refl _)
  have hro3 := HRo2.out.below (belowA (Below.refl W2.heap.size W2) (.cells #[.int .i64 q1, .string q2, .int .i64 q3, .int .i64 q4] 147) (Nat.le_refl _))
  have hsz : W2.heap.size ≤ (W2.alloc (.cells #[.int .i64 q1, .string q2, .int .i64 q3, .int .i64 q4] 147)).heap.size := by rw [World.size_alloc]; omega
  clear hr hbw HRo2
  generalize (W2.alloc (.cells #[.int .i64 q1, .string q2, .int .i64 q3, .int .i64 q4] 147)) = W3 at *
  have HR3 := Lib.hid (hr3.more hsz)
  have HRo3 := Lib.hid hro3
  clear hr3 hro3 hsz
  generalize W2.heap.size = zq at *
  have hS3 := H0.out.below hb3
  have HZ : Hid (z < w.heap.size ∧ mh < w.heap.size ∧ mm < w.heap.size) := Lib.hid ⟨H0.out.zlt, H0.out.hlt, H0.out.mlt⟩
  have HB3 := Lib.hid hb3
  have H00 : Hid (EndI s L z mh mm W3 L.length (.int .i64 0) W3) := Lib.hid ⟨0, rfl, Nat.zero_le _, rfl, hS3, TouchB.refl _ _⟩
  have HNo : Hid (∀ k, w.heap.size ≤ k → ¬ LkS z mh mm k) := Lib.hid (fun k hk hS => by have := HZ.out; rcases hS with h | h | h <;> omega)
  have HR := Lib.hid (fun wr (hT : TouchB (LkS z mh mm) W3 wr) => rec_touch HR3.out hT (Nat.le_refl _) (fun g hg => HNo.out g (HOw.out g hg)))
  clear hb3 hS3 H0 HLn
  go_wp2_with fail
  go_loopg [23] L.length (fun n iv wr => Hid (EndI s L z mh mm W3 n iv wr))
  case atStart => exact H00
  case round =>
    obtain ⟨i, rfl, hi, hn, hS, hT⟩ := hrel.out
    clear hrel H00
    by_cases hlt : i < L.length
    · have hat := List.getElem?_eq_getElem hlt
      obtain ⟨g, o, e1, hn0, hg, hc⟩ := (HR.out _ hT).nth (by omega)
      have hc := hc i _ hat
      have HTk := Lib.hid (endS_take (s := s) hat)
      subst e1
      generalize L[i] = p at *
      obtain ⟨⟨x1, x2, x3, x4⟩, ⟨y1, y2, y3, y4⟩⟩ := p
      have e0 : wr.cell? ⟨g, o + i * 8, none⟩ = some (.int .i64 x1) := hc 0 _ rfl
      have e1 : wr.cell? ⟨g, o + i * 8 + 1, none⟩ = some (.string x2) := hc 1 _ rfl
      have e2 : wr.cell? ⟨g, o + i * 8 + 2, none⟩ = some (.int .i64 x3) := hc 2 _ rfl
      have e3 : wr.cell? ⟨g, o + i * 8 + 3, none⟩ = some (.int .i64 x4) := hc 3 _ rfl
      have e4 : wr.cell? ⟨g, o + i * 8 + 4, none⟩ = some (.int .i64 y1) := hc 4 _ rfl
      have e5 : wr.cell? ⟨g, o + i * 8 + 5, none⟩ = some (.string y2) := hc 5 _ rfl
      have e6 : wr.cell? ⟨g, o + i * 8 + 6, none⟩ = some (.int .i64 y3) := hc 6 _ rfl
      have e7 : wr.cell? ⟨g, o + i * 8 + 7, none⟩ = some (.int .i64 y4) := hc 7 _ rfl
      have HN := Lib.hid hn
      have HS := Lib.hid hS
      have HT := Lib.hid hT
      have r1 : (i : Int) < (L.length : Int) := by omega
      clear hc hn hS hT hn0 hat
      go_upto_region 6 with (fail)
      have hX := alloc_new wr (.cells #[.int .i64 x1, .string x2, .int .i64 x3, .int .i64 x4, .int .i64 y1, .string y2, .int .i64 y3, .int .i64 y4] 149)
      have hb4 := belowA (Below.refl wr.heap.size wr) (.cells #[.int .i64 x1, .string x2, .int .i64 x3, .int .i64 x4, .int .i64 y1, .string y2, .int .i64 y3, .int .i64 y4] 149) (Nat.le_refl _)
      have hl4 : wr.heap.size < (wr.alloc (.cells #[.int .i64 x1, .string x2, .int .i64 x3, .int .i64 x4, .int .i64 y1, .string y2, .int .i64 y3, .int .i64 y4] 149)).heap.size := by rw [World.size_alloc]; omega
      have hne := mh_ne HS.out (Nat.le_refl wr.heap.size)
      have HP4 := Lib.hid hX
      have HS4 := Lib.hid (HS.out.below hb4)
      have HT4 := Lib.hid (touch_trans HT.out (touch_of hb4))
      clear e0 e1 e2 e3 e4 e5 e6 e7 HS HT hX hb4 hg
      generalize (wr.alloc (.cells #[.int .i64 x1, .string x2, .int .i64 x3, .int .i64 x4, .int .i64 y1, .string y2, .int .i64 y3, .int .i64 y4] 149)) = W4 at *
      generalize wr.heap.size = zp at *
      have HS5 := Lib.hid (HS4.out.below (belowD (Below.refl _ _)))
      obtain ⟨W6, hrun6, h6, ht6, hs6⟩ := delH_run HS5.out ((x1, x2, x3, x4), (y1, y2, y3, y4))
      obtain ⟨c0, c1, c2, c3, c4, cf⟩ := five_cells HS4.out.obj
      obtain ⟨r0, r1, r2, r3, r4, r5, r6, r7, rf⟩ := eight_cells HP4.out
      unfold prV at hrun6
      dsimp only at hrun6
      have HP6 := Lib.hid ((ht6.block zp hl4 hne).trans HP4.out)
      have HS6 := Lib.hid h6
      have HT6 : Hid (TouchB (LkS z mh mm) W3 W6) := Lib.hid (touch_trans HT4.out (touch_trans (touch_of (belowD (Below.refl _ _))) (touch_mh ht6)))
      clear h6 ht6 hs6
      go_still_tail 5, (by kernel_rfl)
      go_upto_region 7 with (fail)
      clear hrun6 c0 c1 c2 c3 c4 cf r0 r1 r2 r3 r4 r5 r6 r7 rf HS4 HS5 HP4
      have HS7 := Lib.hid (HS6.out.below (belowD (Below.refl _ _)))
      obtain ⟨W8, hrun8, h8, ht8, hs8⟩ := delH_run HS7.out ((y1, y2, y3, y4), (x1, x2, x3, x4))
      obtain ⟨c0, c1, c2, c3, c4, cf⟩ := five_cells HS6.out.obj
      obtain ⟨r0, r1, r2, r3, r4, r5, r6, r7, rf⟩ := eight_cells HP6.out
      unfold prV at hrun8
      dsimp only at hrun8
      have HS8 := Lib.hid h8
      have HT8 : Hid (TouchB (LkS z mh mm) W3 W8) := Lib.hid (touch_trans HT6.out (touch_trans (touch_of (belowD (Below.refl _ _))) (touch_mh ht8)))
      clear h8 ht8 hs8
      go_still_tail 9, (by kernel_rfl)
      go_wp2_with fail
      go_roundg (L.length - (i + 1))
      case measure => have := HN.out; omega
      case rel => exact Lib.hid ⟨i + 1, by go_num, by omega, rfl, by rw [HTk.out]; exact HS8.out, HT8.out⟩
    · obtain rfl : i = L.length := by omega
      have HS := Lib.hid hS
      have HT := Lib.hid hT
      clear hS hT hn
      go_wp2_with fail
      go_ret
      exact ⟨_, Lo, L, rfl, HPo.out, HSo.out, HPp.out, HPs.out, HRo3.out.same (fun k hk => HT.out.block k (HRo3.out.lt hk).2 (HNo.out k (HRo3.out.lt hk).1)), by have := HS.out; rw [List.take_length] at this; exact this, touch_trans (touch_of HB3.out) HT.out⟩
end Go.Proofs.YtnakbepcalciiaaGreat.lk

/- terms.copies, terms.Copy. Conditions: the terms lie in memory; they are few enough. -/
namespace Go.Proofs.YtnakbepcalciiaaGreat.tm
open Go.RowKit mem names
set_option linter.unusedVariables false
set_option linter.unusedSimpArgs false
set_option maxHeartbeats 4000000
set_option maxRecDepth 100000

def CopyS (n : Nat) : Prop := ∀ (w : World) (B : Nat) (v : Value) (t : Tm (n + 1)), B ≤ w.heap.size → ItemsAt w B n v t.items → nodesT t ≤ 100000000 → Calls Tryz.prog 169 #[aggV t.f v] w (TPost t.f t.items w)
def CopiesS (n : Nat) : Prop := ∀ (w : World) (B : Nat) (v : Value) (l : List (Tm n)), B ≤ w.heap.size → ItemsAt w B n v l → nodesL n l ≤ 100000000 → Calls Tryz.prog 200 #[v] w (LPost l w)
/-- what a copied element gives -/
def EPost {n : Nat} (l : List (Tm n)) (j : Nat) (x : TF) (m : Nat) (w : World) (e : Ending) (w' : World) : Prop :=
  ∃ F g, e = .returned (aggV x (.slice (some ⟨g, 0, none⟩) m m)) ∧ EltL l w' F j x (.slice (some ⟨g, 0, none⟩) m m) ∧ (∀ q, F q → w.heap.size ≤ q ∧ q < w'.heap.size) ∧ Typed w' F ∧ (∀ q, q < w.heap.size → PtrOK w' F q (.slice (some ⟨g, 0, none⟩) m m)) ∧ Below w.heap.size w w'
theorem copyEl {n : Nat} (ih : ∀ m, n = m + 1 → CopyS m) (w : World) (B : Nat) (p : Option Addr) (len c : Nat) (l : List (Tm n)) (hB : B ≤ w.heap.size) (h1 : ItemsAt w B n (.slice p len c) l) (hs : nodesL n l ≤ 100000000) :
    ∀ j, (hj : j < l.length) → ∃ g o x q m d, p = some ⟨g, o, none⟩ ∧ g < w.heap.size ∧ Cells w g (o + j * 9) x (.slice q m d) ∧ ∀ W, Below w.heap.size w W → Calls Tryz.prog 169 #[aggV x (.slice q m d)] W (EPost l j x m W) := by
  cases n with
  | zero => intro j hj; rw [Tm.nil0 l] at hj; exact absurd hj (by simp)
  | succ n =>
    intro j hj
    obtain ⟨g, o, d, e, _, _, hg, hx⟩ := h1.at_ (by intro e; subst e; simp at hj)
    obtain ⟨u, hC, hI⟩ := hx j hj
    simp only [Value.slice.injEq] at e
    obtain ⟨q, c', rfl, _, _⟩ := hI.shape
    have hn := nodes_mem hj
    refine ⟨g, o, l[j].f, q, _, c', e.1, by omega, hC, fun W hb => ?_⟩
    refine (ih n rfl W B _ l[j] (Nat.le_trans hB hb.size) (hI.below hb hB) (by omega)).mono ?_
    rintro e w' ⟨F, g', rfl, hn, hF⟩
    exact ⟨F, g', rfl, ⟨hj, rfl, hn.items⟩, hn.inr, hn.typed, hn.ptr, hn.below⟩
set_option maxHeartbeats 400000 in
theorem copiesStep {n : Nat} (ih : ∀ m, n = m + 1 → CopyS m) : CopiesS n := by
  intro w B v l hB h1 hs
  have hlen := nodes_len n l
  obtain ⟨p, c, rfl, hc, hm⟩ := h1.shape
  have HP := Lib.hid (copyEl ih w B p l.length c l hB h1 hs)
  have hle : l.length ≤ 100000000 := by omega
  have hle2 : (l.length : Int) ≤ 100000000 := by omega
  have hmk := fun W => make24 W (l.length : Int) l.length rfl (by omega)
  clear ih h1 hs hlen hc hm
  obtain ⟨i0, hi0, hz0, hz1, hz2⟩ := info_parts info24
  go_enter Tryz.func200, Tryz.ntmps200
  go_wp2_with fail
  have HI : RowInv (EltL l) w (w.alloc (.cells (madeCells #[.int .i64 0, .int .i64 0, .int .i64 0, .string ⟨#[]⟩, .string ⟨#[]⟩, .int .i64 0, .slice none 0 0, .string ⟨#[]⟩, .int .i64 0] (l.length * 9)) 30)) l.length 0 [] (fun _ => False) := RowInv.start _ (by unfold maxLen; omega) (size_madeCells _ _)
  generalize (w.alloc (.cells (madeCells #[.int .i64 0, .int .i64 0, .int .i64 0, .string ⟨#[]⟩, .string ⟨#[]⟩, .int .i64 0, .slice none 0 0, .string ⟨#[]⟩, .int .i64 0] (l.length * 9)) 30)) = w0 at *
  go_loopw [3, 11] (fun s t wr => ∃ (k : Nat) (rs : List (TF × Value)) (F : Nat → Prop), s = .slice (some ⟨w.heap.size, 0, none⟩) k l.length ∧ t = .int .i64 k ∧ k ≤ l.length ∧ Hid (RowInv (EltL l) w wr l.length k rs F)) (fun _ t _ => l.length - (intOf t).toNat)
  case atStart => exact ⟨0, [], fun _ => False, rfl, rfl, by omega, Lib.hid HI⟩
  case round =>
    obtain ⟨k, rs, F, rfl, rfl, hk, HR⟩ := hrel
    by_cases hlt : k < l.length
    · obtain ⟨g, o, x, q, m, d, rfl, hg, hC, hCall⟩ := HP.out k hlt
      have HCall := Lib.hid hCall
      clear hCall
      have hC := hC.same (HR.out.below.block g hg)
      have hgr : g < wr.heap.size := Nat.lt_of_lt_of_le hg HR.out.below.size
      obtain ⟨x0, x1, x2, x3, x4, x5, x6, x7, x8⟩ := hC
      obtain ⟨kk, ii, gg, nm, fn, ar, by_, bt⟩ := x
      dsimp only at x0 x1 x2 x3 x4 x5 x6 x7 x8
      unfold EPost aggV at HCall
      dsimp only at HCall
      go_wp2_with fail
      have hb1 : Below wr.heap.size wr (wr.alloc (cells9 ⟨kk, ii, gg, nm, fn, ar, by_, bt⟩ (.slice q m d))) := (Below.refl _ _).alloc (Nat.le_refl _) _
      refine (HCall.out _ (HR.out.below.trans (hb1.mono HR.out.below.size))).mono ?_
      rintro e w2 ⟨F', g', rfl, hE, hin, hty, hpt, hb2⟩
      have hb2' : Below wr.heap.size wr w2 := hb1.trans (hb2.mono (by simp))
      have hb3 : Below w2.heap.size w2 (w2.alloc (cells9 ⟨kk, ii, gg, nm, fn, ar, by_, bt⟩ (.slice (some ⟨g', 0, none⟩) m m))) := (Below.refl _ _).alloc (Nat.le_refl _) _
      have hbw3 : Below wr.heap.size wr (w2.alloc (cells9 ⟨kk, ii, gg, nm, fn, ar, by_, bt⟩ (.slice (some ⟨g', 0, none⟩) m m))) := hb2'.trans (hb3.mono hb2'.size)
      have HS : ∀ g, F' g → (w2.alloc (cells9 ⟨kk, ii, gg, nm, fn, ar, by_, bt⟩ (.slice (some ⟨g', 0, none⟩) m m))).heap[g]? = w2.heap[g]? := fun g hg => hb3.block g (hin g hg).2
      have HE := Lib.hid (eltL_mono l w.heap.size _ _ _ _ _ _ _ HS (fun g hg => hb3.block g (Nat.lt_of_lt_of_le hg (Nat.le_trans HR.out.below.size hb2'.size))) (fun _ h => h) hE)
      have HPt := Lib.hid ((hpt w.heap.size (by have := HR.out.lt; simp; omega)).mono HS (fun _ h => h))
      have HTy := Lib.hid (hty.same HS)
      have HIn : Hid (∀ g, F' g → wr.heap.size ≤ g ∧ g < (w2.alloc (cells9 ⟨kk, ii, gg, nm, fn, ar, by_, bt⟩ (.slice (some ⟨g', 0, none⟩) m m))).heap.size) := Lib.hid (fun g hg => by have := hin g hg; simp at this ⊢; omega)
      have HOwn := Lib.hid (HR.out.ownAt hbw3)
      have HNC := Lib.hid (nine_cell w2 ⟨kk, ii, gg, nm, fn, ar, by_, bt⟩ (.slice (some ⟨g', 0, none⟩) m m))
      have HNO := Lib.hid (nine_one ⟨kk, ii, gg, nm, fn, ar, by_, bt⟩ (some ⟨g', 0, none⟩) m m)
      have HBW := Lib.hid hbw3
      clear hE hin hty hpt hb2 hb1 hb2' hb3 hbw3 HS
      unfold cells9 at HE HPt HTy HIn HOwn HNC HBW
      dsimp only at HE HPt HTy HIn HOwn HNC HBW
      go_wp2_with (at_builtin; refine wpList_append_fits rfl (.tmp 15) (.tmp 18) 28 rfl w.heap.size 30 i0 9 Tryz.underlying28 hi0 hz1 w.heap.size k l.length (flatR rs) rfl HOwn.out ⟨w2.heap.size, 0, none⟩ 1 1 (nineL ⟨kk, ii, gg, nm, fn, ar, by_, bt⟩ (.slice (some ⟨g', 0, none⟩) m m)) rfl rfl HNC.out HNO.out (by omega) ?_; intro w4 hown4 hg4)
      have HNext := Lib.hid (HR.out.next (eltL_mono l w.heap.size) HBW.out HE.out HPt.out HTy.out HIn.out hg4 hown4)
      go_roundw
      case rel => exact ⟨k + 1, _, _, rfl, by go_num, by omega, HNext⟩
      case measure => simp [intOf]; omega
    · obtain rfl : k = l.length := by omega
      have HT := Lib.hid (HR.out.full rfl)
      have HRt := Lib.hid (fun q hq => HR.out.root l.length (Nat.le_refl _) q hq)
      have hr := HR.out
      go_wp2_with fail
      go_ret
      refine ⟨fun g => F g ∨ g = w.heap.size, w.heap.size, rfl, ⟨?_, fun q hq => ?_, HT.out, HRt.out, hr.below⟩, .inr rfl⟩
      · exact ItemsIn.mk l rs hr.len (Nat.le_refl _) (by unfold maxLen; omega) (.inr rfl) (fun j hj => ⟨hr.cells j hj, eltL_mono l w.heap.size wr wr F _ _ _ _ (fun _ _ => rfl) (fun _ _ => rfl) (fun _ h => .inl h) (hr.elt j hj).1⟩)
      · rcases hq with hq | rfl
        · have := hr.inr q hq; omega
        · exact ⟨Nat.le_refl _, hr.lt⟩
theorem copyStep {n : Nat} (hC : CopiesS n) : CopyS n := by
  intro w B v t hB h1 hs
  obtain ⟨p, c, rfl, hc, hm⟩ := h1.shape
  refine copyT t.f p t.items.length c t.items w (fun W hb => hC W B _ t.items (Nat.le_trans hB hb.size) (h1.below hb hB) (by unfold nodesT at hs; omega))
theorem copiesAll : ∀ n, CopiesS n
  | 0 => copiesStep (fun m h => by omega)
  | n + 1 => copiesStep (fun m h => by obtain rfl : n = m := by omega
                                       exact copyStep (copiesAll n))
theorem copyAll (n : Nat) : CopyS n := copyStep (copiesAll n)
end Go.Proofs.YtnakbepcalciiaaGreat.tm

/- stagehandkit.SpoilList. Conditions: the blocks hold terms alone; elements lie in later blocks. -/
namespace Go.Proofs.YtnakbepcalciiaaGreat.tm
open Go.RowKit mem names
set_option linter.unusedVariables false
set_option linter.unusedSimpArgs false
set_option maxHeartbeats 1000000
set_option maxRecDepth 100000

def SizeSame (w w' : World) (F : Nat → Prop) : Prop := ∀ g, F g → ∀ cur fz, w.heap[g]? = some (.cells cur 30 fz) → ∃ cur', w'.heap[g]? = some (.cells cur' 30 fz) ∧ cur'.size = cur.size
theorem SizeSame.refl (w : World) (F : Nat → Prop) : SizeSame w w F := fun g hg cur fz h => ⟨cur, h, rfl⟩
theorem SizeSame.trans {a b c : World} {F : Nat → Prop} (h : SizeSame a b F) (k : SizeSame b c F) : SizeSame a c F := fun g hg cur fz h0 => by
  obtain ⟨c1, h1, h2⟩ := h g hg cur fz h0
  obtain ⟨c2, h3, h4⟩ := k g hg c1 fz h1
  exact ⟨c2, h3, h4.trans h2⟩
def sets9 (cur : Array Value) (o : Nat) (f : TF) (v : Value) : Array Value :=
  ((((((((cur.setIfInBounds o (.int .i64 f.kind)).setIfInBounds (o + 1) (.int .i64 f.int)).setIfInBounds (o + 2) (.int .i64 f.gen)).setIfInBounds (o + 3) (.string f.name)).setIfInBounds (o + 4) (.string f.func)).setIfInBounds (o + 5) (.int .i64 f.arity)).setIfInBounds (o + 6) v).setIfInBounds (o + 7) (.string f.bytes)).setIfInBounds (o + 8) (.int .i64 f.bits)
theorem set9_blk {w : World} {g o : Nat} {cur : Array Value} {e : TypeId} {fz : Nat × Nat} (f : TF) (v : Value) (h : w.heap[g]? = some (.cells cur e fz)) : (set9 w g o f v).heap[g]? = some (.cells (sets9 cur o f v) e fz) := by
  unfold set9 sets9
  exact set_blk (set_blk (set_blk (set_blk (set_blk (set_blk (set_blk (set_blk (set_blk h))))))))
theorem sets9_size (cur : Array Value) (o : Nat) (f : TF) (v : Value) : (sets9 cur o f v).size = cur.size := by unfold sets9; simp
theorem sets9_get (cur : Array Value) (o : Nat) (f : TF) (v : Value) (h : o + 9 ≤ cur.size) (i : Nat) (hi : i < 9) : (sets9 cur o f v)[o + i]? = (nineL f v)[i]? := by
  have : i = 0 ∨ i = 1 ∨ i = 2 ∨ i = 3 ∨ i = 4 ∨ i = 5 ∨ i = 6 ∨ i = 7 ∨ i = 8 := by omega
  unfold sets9 nineL
  rcases this with rfl | rfl | rfl | rfl | rfl | rfl | rfl | rfl | rfl <;> simp [Array.getElem?_setIfInBounds] <;> omega
theorem sets9_other (cur : Array Value) (o : Nat) (f : TF) (v : Value) (x : Nat) (h : x < o ∨ o + 9 ≤ x) : (sets9 cur o f v)[x]? = cur[x]? := by
  unfold sets9
  repeat rw [Array.getElem?_setIfInBounds_ne (by omega)]
theorem cell_of_blk {w : World} {g x : Nat} {cur : Array Value} {e : TypeId} {fz : Nat × Nat} (h : w.heap[g]? = some (.cells cur e fz)) : w.cell? ⟨g, x, none⟩ = cur[x]? := by
  unfold World.cell?
  rw [h]
  rfl
theorem Cells.blk {w : World} {g o : Nat} {cur : Array Value} {e : TypeId} {fz : Nat × Nat} {f : TF} {v : Value} (h : w.heap[g]? = some (.cells cur e fz)) (hc : ∀ i, i < 9 → cur[o + i]? = (nineL f v)[i]?) : Cells w g o f v :=
  Cells.of fun i hi => (cell_of_blk h).trans (hc i hi)
theorem spoil_set {w : World} {F : Nat → Prop} {g : Nat} {cur : Array Value} {fz : Nat × Nat} (hty : Typed w F) (hg : F g) (hcur : w.heap[g]? = some (.cells cur 30 fz)) (j : Nat) (hj : (j + 1) * 9 ≤ cur.size) (f : TF) :
    Typed (set9 w g (j * 9) f nilV) F ∧ SizeSame w (set9 w g (j * 9) f nilV) F ∧ TouchB F w (set9 w g (j * 9) f nilV) ∧ (set9 w g (j * 9) f nilV).heap.size = w.heap.size := by
  have ht : TouchB (fun k => k = g) w (set9 w g (j * 9) f nilV) := set9_touch _ _ _ _ _
  have hb := set9_blk (o := j * 9) f nilV hcur
  have hsz : SizeSame w (set9 w g (j * 9) f nilV) F := by
    intro g' hg' cur' fz' h'
    by_cases e : g' = g
    · subst e
      rw [hcur] at h'
      simp only [Option.some.injEq, Obj.cells.injEq, true_and] at h'
      obtain ⟨rfl, rfl⟩ := h'
      exact ⟨_, hb, sets9_size _ _ _ _⟩
    · exact ⟨cur', (ht.block g' (Array.getElem?_eq_some_iff.1 h').1 e).trans h', rfl⟩
  have hptr : ∀ g' u, PtrOK w F g' u → PtrOK (set9 w g (j * 9) f nilV) F g' u := by
    rintro g' u ⟨p, len, c, rfl, h0⟩
    refine ⟨p, len, c, rfl, ?_⟩
    rcases h0 with h0 | ⟨g2, k, c2, fz2, h1, h2, h3, h4, h5⟩
    · exact .inl h0
    · obtain ⟨c3, h6, h7⟩ := hsz g2 h2 c2 fz2 h4
      exact .inr ⟨g2, k, c3, fz2, h1, h2, h3, h6, by omega⟩
  refine ⟨?_, hsz, ht.mono (fun i _ e => e ▸ hg), ?_⟩
  · intro g' hg'
    obtain ⟨c1, N, h1, h2, h3⟩ := hty g' hg'
    by_cases e : g' = g
    · subst e
      rw [hcur] at h1
      simp only [Option.some.injEq, Obj.cells.injEq, true_and] at h1
      obtain ⟨rfl, rfl⟩ := h1
      refine ⟨_, N, hb, by rw [sets9_size]; exact h2, fun q hq => ?_⟩
      by_cases e : q = j
      · subst e
        exact ⟨f, nilV, Cells.blk hb (fun i hi => sets9_get _ _ _ _ (by omega) i hi), PtrOK.nil⟩
      · obtain ⟨f', u', hc, hp⟩ := h3 q hq
        refine ⟨f', u', Cells.blk hb (fun i hi => ?_), hptr _ _ hp⟩
        rw [sets9_other _ _ _ _ _ (by omega), ← cell_of_blk hcur]
        exact hc.all i hi
    · refine ⟨c1, N, (ht.block g' (Array.getElem?_eq_some_iff.1 h1).1 e).trans h1, h2, fun q hq => ?_⟩
      obtain ⟨f', u', hc, hp⟩ := h3 q hq
      exact ⟨f', u', hc.same (ht.block g' (Array.getElem?_eq_some_iff.1 h1).1 e), hptr _ _ hp⟩
  · unfold set9; simp
def spoiltF : TF := ⟨-9, -1, 0, ⟨#[115, 112, 111, 105, 108, 116]⟩, ⟨#[]⟩, 0, ⟨#[]⟩, 0⟩
def SpPost (F : Nat → Prop) (w : World) (e : Ending) (w' : World) : Prop := e = .returned (.tuple #[]) ∧ Typed w' F ∧ SizeSame w w' F ∧ TouchB F w w' ∧ w'.heap.size = w.heap.size
def SpInv (F : Nat → Prop) (w wr : World) : Prop := Typed wr F ∧ SizeSame w wr F ∧ TouchB F w wr ∧ wr.heap.size = w.heap.size
theorem frozen_of_blk {w : World} {g x : Nat} {cur : Array Value} {e : TypeId} (h : w.heap[g]? = some (.cells cur e (0, 0))) : w.frozen? ⟨g, x, none⟩ = false := by
  unfold World.frozen?
  rw [h]
  simp
/-- an element, as the walk wants it -/
theorem sp_elt {F : Nat → Prop} {w wr : World} {g k len i : Nat} {cur : Array Value} {fz : Nat × Nat} (h : SpInv F w wr) (hF : F g) (hcur : w.heap[g]? = some (.cells cur 30 fz)) (hk : (k + len) * 9 ≤ cur.size) (hi : i < len) :
    ∃ f p m c, Cells wr g (k * 9 + i * 9) f (.slice p m c) ∧ PtrOK wr F g (.slice p m c) ∧ (∀ x, wr.frozen? ⟨g, x, none⟩ = false) ∧
      (SpInv F w (set9 wr g (k * 9 + i * 9) spoiltF nilV)) := by
  obtain ⟨h1, h2, h3, h4⟩ := h
  obtain ⟨cur', hb, hs⟩ := h2 g hF cur fz hcur
  obtain ⟨c1, N, h5, h6, h7⟩ := h1 g hF
  rw [hb] at h5
  simp only [Option.some.injEq, Obj.cells.injEq, true_and] at h5
  obtain ⟨rfl, rfl⟩ := h5
  obtain ⟨f, u, hc, hp⟩ := h7 (k + i) (by omega)
  have e : (k + i) * 9 = k * 9 + i * 9 := by omega
  obtain ⟨p, m, c, rfl, hq⟩ := hp
  obtain ⟨a1, a2, a3, a4⟩ := spoil_set h1 hF hb (k + i) (by omega) spoiltF
  rw [e] at hc a1 a2 a3 a4
  exact ⟨f, p, m, c, hc, ⟨p, m, c, rfl, hq⟩, fun x => frozen_of_blk hb, a1, h2.trans a2, h3.trans a3 (fun _ _ h => h), by omega⟩
theorem SpInv.trans {F : Nat → Prop} {a b c : World} (h : SpInv F a b) (k : SpInv F b c) : SpInv F a c :=
  ⟨k.1, h.2.1.trans k.2.1, h.2.2.1.trans k.2.2.1 (fun _ _ h => h), k.2.2.2.trans h.2.2.2⟩
theorem spoilRow {w : World} {F : Nat → Prop} {g2 q len c : Nat} {c2 : Array Value} {fz2 : Nat × Nat} (hty : Typed w F) (h2 : F g2) (h4 : w.heap[g2]? = some (.cells c2 30 fz2)) (h5 : (q + len) * 9 ≤ c2.size) (h6 : len ≤ maxLen)
    (hC : ∀ wr u, SpInv F w wr → PtrOK wr F g2 u → Calls Tryz.prog 24 #[u] wr (fun e w' => e = .returned (.tuple #[]) ∧ SpInv F wr w')) :
    Calls Tryz.prog 24 #[.slice (some ⟨g2, q * 9, none⟩) len c] w (fun e w' => e = .returned (.tuple #[]) ∧ SpInv F w w') := by
  have HI : Hid (SpInv F w w) := Lib.hid ⟨hty, SizeSame.refl _ _, TouchB.refl _ _, rfl⟩
  have HE := Lib.hid (fun wr i (h : SpInv F w wr) (hi : i < len) => sp_elt h h2 h4 h5 hi)
  have HC := Lib.hid hC
  unfold maxLen at h6
  clear hty hC h2 h4 h5
  go_enter Tryz.func24, Tryz.ntmps24
  go_wp2_with fail
  go_loopw [2] (fun s wr => ∃ i : Nat, s = .int .i64 i ∧ i ≤ len ∧ Hid (SpInv F w wr)) (fun s _ => len - (intOf s).toNat)
  case atStart => exact ⟨0, by go_num, by omega, HI⟩
  case round =>
    obtain ⟨i, rfl, hil, HR⟩ := hrel
    by_cases hlt : i < len
    · obtain ⟨f, p', m', c', hcs, hpt, hfz, _⟩ := HE.out wr i HR.out hlt
      have HCall := Lib.hid (HC.out wr _ HR.out hpt)
      obtain ⟨k1, i1, g1, n1, fn1, a1, by1, s1⟩ := f
      obtain ⟨x0, x1, x2, x3, x4, x5, x6, x7, x8⟩ := hcs
      dsimp only at x0 x1 x2 x3 x4 x5 x6 x7 x8
      clear hpt hfz x0 x1 x2 x3 x4 x5 x7 x8
      have r1 : (i : Int) < (len : Int) := by omega
      go_wp2_with fail
      refine HCall.out.mono ?_
      rintro e w1 ⟨rfl, hI1⟩
      have hS := HR.out.trans hI1
      obtain ⟨f, p2, m2, c2', hcs, _, hfz, hSet⟩ := HE.out w1 i hS hlt
      have HSet := Lib.hid hSet
      obtain ⟨k2, i2, g3, n2, fn2, a2, by2, s2⟩ := f
      obtain ⟨y0, y1, y2, y3, y4, y5, y6, y7, y8⟩ := hcs
      dsimp only at y0 y1 y2 y3 y4 y5 y6 y7 y8
      unfold set9 spoiltF at HSet
      dsimp only at HSet
      clear hI1 hS hSet HCall x6
      go_wp2_with fail
      go_roundw
      case rel => exact ⟨i + 1, by go_num, by omega, HSet⟩
      case measure => simp [intOf]; omega
    · go_wp2_with fail
      go_end0
      exact ⟨rfl, HR.out⟩
theorem spoilAll : ∀ (k : Nat) (w : World) (F : Nat → Prop) (v : Value) (g : Nat), Typed w F → (∀ x, F x → x < w.heap.size) → PtrOK w F g v → w.heap.size ≤ g + 1 + k → Calls Tryz.prog 24 #[v] w (fun e w' => e = .returned (.tuple #[]) ∧ SpInv F w w') := by
  intro k
  induction k with
  | zero =>
    intro w F v g hty hF hp hk
    obtain ⟨p, len, c, rfl, h0⟩ := hp
    have hl : len = 0 := by
      rcases h0 with h0 | ⟨g2, k, c2, fz2, h1, h2, h3, h4, h5⟩
      · exact h0
      · have := hF g2 h2; omega
    subst hl
    have HI : Hid (SpInv F w w) := Lib.hid ⟨hty, SizeSame.refl _ _, TouchB.refl _ _, rfl⟩
    clear hty hF hk h0
    go_enter Tryz.func24, Tryz.ntmps24
    go_wp2_with fail
    refine wp_loop_rounds 1 ?_
    rw [rounds_succ]
    go_wp2_with fail
    go_end0
    exact ⟨rfl, HI.out⟩
  | succ k ih =>
    intro w F v g hty hF hp hk
    obtain ⟨p, len, c, rfl, h0⟩ := hp
    have HI : Hid (SpInv F w w) := Lib.hid ⟨hty, SizeSame.refl _ _, TouchB.refl _ _, rfl⟩
    rcases h0 with h0 | ⟨g2, q, c2, fz2, h1, h2, h3, h4, h5, h6⟩
    · subst h0
      clear hty hF hk ih
      go_enter Tryz.func24, Tryz.ntmps24
      go_wp2_with fail
      refine wp_loop_rounds 1 ?_
      rw [rounds_succ]
      go_wp2_with fail
      go_end0
      exact ⟨rfl, HI.out⟩
    · subst h1
      exact spoilRow hty h2 h4 h5 h6 (fun wr u h hp => ih wr F u g2 h.1 (fun x hx => by have := hF x hx; have := h.2.2.2; omega) hp (by have := h.2.2.2; omega))
/-- a whole list that was made -/
theorem spoilTop {w : World} {F : Nat → Prop} {g c : Nat} {n : Nat} {l : List (Tm n)} (hty : Typed w F) (hF : ∀ x, F x → x < w.heap.size) (h : ItemsIn w F n (.slice (some ⟨g, 0, none⟩) l.length c) l) : Calls Tryz.prog 24 #[.slice (some ⟨g, 0, none⟩) l.length c] w (fun e w' => e = .returned (.tuple #[]) ∧ SpInv F w w') := by
  by_cases hl : l.length = 0
  · exact (spoilAll w.heap.size w F _ 0 hty hF ⟨_, _, _, rfl, .inl hl⟩ (by omega))
  · cases n with
    | zero => exact absurd (by rw [Tm.nil0 l]; rfl) hl
    | succ n =>
      obtain ⟨p, c', e, h1, h2, h3⟩ := h
      simp only [Value.slice.injEq, true_and] at e
      obtain ⟨rfl, rfl⟩ := e
      obtain ⟨g', o', e, hg, hc⟩ := h3 (by intro e; subst e; simp at hl)
      simp only [Option.some.injEq, Addr.mk.injEq, and_true] at e
      obtain ⟨rfl, rfl⟩ := e
      obtain ⟨cur, N, k1, k2, k3⟩ := hty _ hg
      obtain ⟨u, hu, _⟩ := hc (l.length - 1) (by omega)
      have hlast := hu.all 8 (by omega)
      rw [cell_of_blk k1] at hlast
      have hlast2 : cur[0 + (l.length - 1) * 9 + 8]? = some (.int .i64 (l[l.length - 1]).f.bits) := hlast
      have hsz : 0 + (l.length - 1) * 9 + 8 < cur.size := (Array.getElem?_eq_some_iff.1 hlast2).1
      have := spoilRow (q := 0) (c := c) hty hg k1 (len := l.length) (by omega) (Nat.le_trans h1 h2) (fun wr u h hp => spoilAll w.heap.size wr F u g h.1 (fun x hx => by have := hF x hx; have := h.2.2.2; omega) hp (by have := h.2.2.2; omega))
      simpa using this
end Go.Proofs.YtnakbepcalciiaaGreat.tm
/- Spoiling a list of processes that the call owns; equality of lists of processes. Conditions: the list lies in memory. -/
namespace Go.Proofs.YtnakbepcalciiaaGreat.lk
open Go.RowKit mem rec tm names pm
set_option linter.unusedVariables false
set_option linter.unusedSimpArgs false
set_option maxHeartbeats 4000000
set_option maxRecDepth 100000
theorem spoilN (p : Option Addr) (c : Nat) (w : World) : Calls Tryz.prog 24 #[.slice p 0 c] w (fun e w' => e = .returned (.tuple #[]) ∧ w = w') := by
  go_enter Tryz.func24, Tryz.ntmps24
  go_wp2_with fail
  go_loopw [2] (fun s wr => s = .int .i64 0 ∧ Hid (w = wr)) (fun _ _ => 0)
  case atStart => exact ⟨rfl, Lib.hid rfl⟩
  case round =>
    obtain ⟨rfl, HR⟩ := hrel
    go_wp2_with fail
    go_end0
    exact ⟨rfl, HR.out⟩
def SpF (w : World) (g cap i : Nat) (l : List Id) (wr : World) : Prop :=
  ∃ cur, wr.heap[g]? = some (.cells cur 30 (0, 0)) ∧ cur.size = cap * 9 ∧ (∀ j, i ≤ j → (h : j < l.length) → ∀ k, k < 9 → cur[j * 9 + k]? = (idTL l[j])[k]?) ∧ TouchB (fun b => b = g) w wr ∧ wr.heap.size = w.heap.size
theorem SpF.elt {w wr : World} {g cap i o : Nat} {l : List Id} (ho : o = 0) (h : SpF w g cap i l wr) (hi : i < l.length) (hc : l.length ≤ cap) : wr.cell? ⟨g, o + i * 9 + 6, none⟩ = some (.slice none 0 0) ∧ (∀ k, k < 9 → wr.cell? ⟨g, o + i * 9 + k, none⟩ = (idTL l[i])[k]?) ∧ (∀ x, wr.frozen? ⟨g, x, none⟩ = false) ∧ SpF w g cap (i + 1) l (set9 wr g (o + i * 9) spoiltF nilV) := by
  subst ho
  obtain ⟨cur, hb, hs, he, ht, hz⟩ := h
  have hcell : ∀ k, k < 9 → wr.cell? ⟨g, 0 + i * 9 + k, none⟩ = (idTL l[i])[k]? := fun k hk => by
    rw [cell_of_blk hb, Nat.zero_add]
    exact he i (Nat.le_refl _) hi k hk
  refine ⟨hcell 6 (by omega), hcell, fun x => frozen_of_blk hb, sets9 cur (0 + i * 9) spoiltF nilV, set9_blk _ _ hb, by rw [sets9_size, hs], fun j hj hjl k hk => ?_, ?_, ?_⟩
  · rw [sets9_other _ _ _ _ _ (.inr (by omega))]
    exact he j (by omega) hjl k hk
  · unfold set9
    have hset : ∀ {a b : World} (o : Nat) (u : Value), TouchB (fun b => b = g) a b → TouchB (fun b => b = g) a (b.setCell ⟨g, o, none⟩ u) := fun o u h => h.setCell _ _ (fun _ => rfl)
    exact hset _ _ (hset _ _ (hset _ _ (hset _ _ (hset _ _ (hset _ _ (hset _ _ (hset _ _ (hset _ _ ht))))))))
  · unfold set9
    simp only [World.size_setCell]
    exact hz
theorem spoilF {w : World} {base : Nat} {v : Value} {l : List Id} (h : RecOwn idTL 30 9 w base v l) (hl : l.length ≤ 100000000) : Calls Tryz.prog 24 #[v] w (fun e w' => e = .returned (.tuple #[]) ∧ TouchB (fun i => v.ownBlock = some i) w w' ∧ w'.heap.size = w.heap.size) := by
  obtain ⟨hx, ⟨rfl, h0⟩ | ⟨g, cap, cur, rfl, hg, hb, hn, hm, hs, htk⟩⟩ := h
  · refine (spoilN none 0 w).mono ?_
    rintro e w' ⟨rfl, rfl⟩
    exact ⟨rfl, TouchB.refl _ _, rfl⟩
  · have hE : EncOK idTL 9 l := fun a _ => ⟨idTL_len a, idTL_one a⟩
    have hI : SpF w g cap 0 l w := ⟨cur, hb, hs, fun j _ hj k hk => by
      have h1 := flat_get hE (List.getElem?_eq_getElem hj) hk
      rw [← htk] at h1
      rw [← h1, List.getElem?_take_of_lt (by rw [htk] at h1; have := Nat.mul_le_mul_right 9 (show j + 1 ≤ l.length from hj); omega), Array.getElem?_toList], TouchB.refl _ _, rfl⟩
    obtain ⟨o, ho⟩ : ∃ o : Nat, o = 0 := ⟨_, rfl⟩
    have HO := Lib.hid ho
    have HE := Lib.hid (fun wr i (h : SpF w g cap i l wr) (hi : i < l.length) => SpF.elt ho h hi hn)
    have HI := Lib.hid hI
    have HP : Hid ((Value.slice (some ⟨g, 0, none⟩) l.length cap) = .slice (some ⟨g, o, none⟩) l.length cap) := Lib.hid (by rw [ho])
    suffices hh : Calls Tryz.prog 24 #[.slice (some ⟨g, o, none⟩) l.length cap] w (fun e w' => e = .returned (.tuple #[]) ∧ SpF w g cap l.length l w') by
      rw [HP.out]
      refine hh.mono ?_
      rintro e w' ⟨rfl, _, _, _, _, ht, hz⟩
      exact ⟨rfl, ht.mono (fun i _ e => by rw [e]; rfl), hz⟩
    clear hx hg hb hn hm hs htk hE hI ho HO HP
    go_enter Tryz.func24, Tryz.ntmps24
    go_wp2_with fail
    go_loopw [2] (fun s wr => ∃ i : Nat, s = .int .i64 i ∧ i ≤ l.length ∧ Hid (SpF w g cap i l wr)) (fun s _ => l.length - (intOf s).toNat)
    case atStart => exact ⟨0, by go_num, by omega, HI⟩
    case round =>
      obtain ⟨i, rfl, hil, HR⟩ := hrel
      by_cases hlt : i < l.length
      · obtain ⟨x6, hcs, hfz, hSet⟩ := HE.out wr i HR.out hlt
        have HSet := Lib.hid hSet
        have HC := Lib.hid (fun W => spoilN none 0 W)
        generalize l[i] = x at *
        have y0 : wr.cell? ⟨g, o + i * 9, none⟩ = some (.int .i64 x.1) := hcs 0 (by omega)
        have y1 : wr.cell? ⟨g, o + i * 9 + 1, none⟩ = some (.int .i64 x.2.2.2) := hcs 1 (by omega)
        have y2 : wr.cell? ⟨g, o + i * 9 + 2, none⟩ = some (.int .i64 x.2.2.1) := hcs 2 (by omega)
        have y3 : wr.cell? ⟨g, o + i * 9 + 3, none⟩ = some (.string x.2.1) := hcs 3 (by omega)
        have y4 : wr.cell? ⟨g, o + i * 9 + 4, none⟩ = some (.string ⟨#[]⟩) := hcs 4 (by omega)
        have y5 : wr.cell? ⟨g, o + i * 9 + 5, none⟩ = some (.int .i64 0) := hcs 5 (by omega)
        have y7 : wr.cell? ⟨g, o + i * 9 + 7, none⟩ = some (.string ⟨#[]⟩) := hcs 7 (by omega)
        have y8 : wr.cell? ⟨g, o + i * 9 + 8, none⟩ = some (.int .i64 0) := hcs 8 (by omega)
        unfold set9 spoiltF nilV at HSet
        dsimp only at HSet
        have r1 : (i : Int) < (l.length : Int) := by omega
        clear hcs hSet
        go_wp2_with fail
        refine (HC.out _).mono ?_
        rintro e w1 ⟨rfl, rfl⟩
        go_wp2_with fail
        go_roundw
        case rel => exact ⟨i + 1, by go_num, by omega, HSet⟩
        case measure => simp [intOf]; omega
      · obtain rfl : i = l.length := by omega
        go_wp2_with fail
        go_end0
        exact ⟨rfl, HR.out⟩
/-- two lists of processes that are the same -/
theorem sameI {w : World} {B B' : Nat} {v v' : Value} {l : List Id} (hB : B ≤ w.heap.size) (hB' : B' ≤ w.heap.size) (h : RecAt idTL 9 w B v l) (h' : RecAt idTL 9 w B' v' l) : Calls Tryz.prog 25 #[v, v'] w (fun e w' => e = .returned (.bool true) ∧ Below w.heap.size w w') := by
  have := tm.sameList 1 w w.heap.size v v' (l.map tmI) (l.map tmI) (Nat.le_refl _) (items_of (h.more hB)) (items_of (h'.more hB'))
  rw [eqB_t rfl] at this
  exact this
end Go.Proofs.YtnakbepcalciiaaGreat.lk
